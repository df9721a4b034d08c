/- All charges: the inner function yields one. No condition. -/
import Derived.Test.YtojnpaenpaobcaaC24
namespace Go.Proofs.Ytojnpaenpaobcaa
open Go.RowKit
attribute [local irreducible] wpYield wpPlan
attribute [local go_sem] Oper.semAt_some

set_option maxRecDepth 100000 in
set_option maxHeartbeats 8000000 in
theorem extend_yield_c (p : Recipe) (a : Option Addr) (cap : Nat) (a2 : Option Addr) (cap2 : Nat) (ones : List Mar) (hcnt : ∀ k, k < p.lots.length → 0 ≤ (nth p.lots .zero k).count ∧ (nth p.lots .zero k).count ≤ 1000) (hlen : p.lots.length ≤ 1000) (hon : Hid (ones.length = p.lots.length)) (l g bt by_ be base : Nat) (SB SG : List Nat) (hgS : g ∈ SG) (hSB : ∀ x ∈ SB, x ∈ SG) (hgB : g ∉ SB) (hEnv : ∀ W W', Env p a cap a2 cap2 ones l bt by_ be W → Ex SG W W' → Env p a cap a2 cap2 ones l bt by_ be W') (J : List (List Int × Mar) → World → Prop) (hJE : ∀ pre W W', J pre W → Ex [g] W W' → J pre W') (hY : ∀ pre c m W, J pre W → c.length = p.lots.length → SlI W (some ⟨g, 0, none⟩) p.lots.length c → YieldAt Fence.wide 4 Try.prog l #[.slice (some ⟨g, 0, none⟩) p.lots.length p.lots.length, .agg #[.int .i64 m.m0, .int .i64 m.m1, .int .i64 m.m2, .int .i64 m.m3, .int .i64 m.m4, .int .i64 m.m5, .int .i64 m.m6, .int .i64 m.m7]] W (fun e W' => e = .returned (.bool true) ∧ J (pre ++ [(c, m)]) W' ∧ Ex SB W W')) (k : Nat) (c : List Int) (m : Mar) (pre : List (List Int × Mar)) (w : World) (hkr : Hid (k + 0 = p.lots.length)) (hck : Hid (c.length = k)) (hk : k ≤ p.lots.length) (hSw : ∀ x ∈ SG, x < w.heap.size) (hE : Env p a cap a2 cap2 ones l bt by_ be w) (hJ : J pre w) (hO : Own 3 1 intCells base w (.slice (some ⟨g, 0, none⟩) k p.lots.length) c) :
    Calls Try.prog 94 #[.slice (some ⟨g, 0, none⟩) k p.lots.length, .agg #[.int .i64 m.m0, .int .i64 m.m1, .int .i64 m.m2, .int .i64 m.m3, .int .i64 m.m4, .int .i64 m.m5, .int .i64 m.m6, .int .i64 m.m7], .pointer (some ⟨bt, 0, none⟩), .pointer (some ⟨by_, 0, none⟩), .pointer (some ⟨be, 0, none⟩)] w (fun e w' => e = .returned (.bool true) ∧ J (pre ++ chargesR p ones 0 c m) w' ∧ Ex SG w w' ∧ Own 3 1 intCells base w' (.slice (some ⟨g, 0, none⟩) k p.lots.length) c) := by
  obtain rfl : k = p.lots.length := by have := hkr.out; omega
  have hg := hO.lt rfl
  have hgb : base ≤ g := hO.base_le rfl
  go_enter Try.func94, Try.ntmps94
  go_upto_region 1 with (fail)
  refine wp_at (fun W => Ext w W ∧ w.heap.size + 1 = W.heap.size ∧ W.heap[w.heap.size]? = some (.cells #[.int .i64 m.m0, .int .i64 m.m1, .int .i64 m.m2, .int .i64 m.m3, .int .i64 m.m4, .int .i64 m.m5, .int .i64 m.m6, .int .i64 m.m7] 110 (0, 0))) ⟨by (repeat (with_reducible first | exact Ex.refl _ _ | assumption | exact Ex.mono (by assumption) (by simp; done) | refine Ex.alloc ?_ _ | refine Ex.drew ?_ | refine Ex.drewN ?_ _ | refine Ex.setCell ?_ (by first | (left; simp; done) | (right; simp; done) | (right; simp; omega)) _ | refine Ex.trans ?_ (by assumption))), by simp, blk_new _ _⟩ (fun W hW => ?_)
  obtain ⟨hr0, hsz, hB0⟩ := hW
  have hr : Ex [] W W := Ex.refl _ _
  have f0_0 := cellE (S := []) hB0 (by first | (simp; done) | (simp; omega)) 0 rfl
  have f0_1 := cellE (S := []) hB0 (by first | (simp; done) | (simp; omega)) 1 rfl
  have f0_2 := cellE (S := []) hB0 (by first | (simp; done) | (simp; omega)) 2 rfl
  have f0_3 := cellE (S := []) hB0 (by first | (simp; done) | (simp; omega)) 3 rfl
  have f0_4 := cellE (S := []) hB0 (by first | (simp; done) | (simp; omega)) 4 rfl
  have f0_5 := cellE (S := []) hB0 (by first | (simp; done) | (simp; omega)) 5 rfl
  have f0_6 := cellE (S := []) hB0 (by first | (simp; done) | (simp; omega)) 6 rfl
  have f0_7 := cellE (S := []) hB0 (by first | (simp; done) | (simp; omega)) 7 rfl
  clear hB0
  have hsz' := Nat.le_of_eq hsz.symm; have hsz'' := Nat.le_of_eq hsz; clear hsz
  have hEW := hEnv _ _ hE (hr0.ex SG)
  have e0 := cellE (S := []) hEW.t (by simp) 0 rfl
  have e1 := cellE (S := []) hEW.y (by simp) 0 rfl
  have hJW := hJE _ _ _ hJ (hr0.ex [g])
  have hOW := hO.ext hr0
  go_upto_region 3 with fail
  obtain ⟨fn, tm, assign, body, hy, hR⟩ := hY pre c m W hJW hck.out (hck.out ▸ (hOW.cong rfl).toSl (fun _ => rfl))
  have hR' := Lib.hid hR; clear hR
  refine (wpIn_wide (n := 5)).1 ?_
  gi_wp2
  refine hR'.out.mono ?_
  rintro e w1 ⟨rfl, hJ1, h1⟩
  gi_wp2
  go_wp2
  go_returns
  exact ⟨rfl, hJ1, (hr0.ex SG).trans (h1.mono hSB), hOW.ex h1 (fun g' hg' => by simp only [Value.ownBlock, Option.some.injEq] at hg'; subst hg'; exact hgB)⟩
end Go.Proofs.Ytojnpaenpaobcaa
