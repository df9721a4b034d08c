/- All charges, one after another: the inner function. No condition. -/
import Derived.Test.YthmicafabimfkaaWOC12
import Derived.Test.YthmicafabimfkaaWORG
import Derived.RangeFuncNested
import Derived.RangeFuncBound
import Derived.RangeFuncCalls
import Derived.RangeFuncLeaves
import Derived.Shelf.Abstract
import Derived.Shelf.RegionOpen
import Derived.OwnWalkIn
import Derived.TacticsInMore
import Derived.LoopNIn
import Derived.LoopIn

namespace Go.Proofs.Ythmicafabimfkaa
open Go.RowKit
attribute [local irreducible] wpYield wpPlan
attribute [local go_sem] Oper.semAt_some
/-- All charges from a beginning on, with their margins. -/
def chargesR (p : Recipe) (ones : List Mar) : Nat → List Int → Mar → List (List Int × Mar)
  | 0, c, m => [(c, m)]
  | r + 1, c, m => (List.range ((nth p.lots .zero c.length).count + 1).toNat).flatMap fun (j : Nat) => chargesR p ones r (c ++ [(j : Int)]) (plusM m (nth ones .zero c.length) j)
theorem intCells_flat (c : List Int) : (c.flatMap intCells).length = c.length := by
  induction c with
  | nil => rfl
  | cons x c ih => simp only [List.flatMap_cons, List.length_append, ih, List.length_cons, intCells_len]; omega
theorem Own.toSl {α : Type} {T k : Nat} {f : α → List Value} {base : Nat} {w : World} {a : Option Addr} {n cap : Nat} {xs : List α} (h : Own T k f base w (.slice a n cap) xs) (hf : ∀ x : α, (f x).length = k) : Sl k f w a cap xs := by
  obtain ⟨a', c', e, h2, _⟩ := h.sl hf
  simp only [Value.slice.injEq] at e
  obtain ⟨rfl, _, rfl⟩ := e
  exact h2
theorem Sl.ex0 {α : Type} {k : Nat} {f : α → List Value} {S : List Nat} {w w' : World} {a : Option Addr} {cap : Nat} {xs : List α} (h : Sl k f w a cap xs) (hE : Ex S w w') (hs : 0 < xs.length → ∀ b, a = some b → b.block ∉ S) : Sl k f w' a cap xs :=
  ⟨h.le, h.big, fun h0 => by
    obtain ⟨b, off, ha, hb, hc⟩ := h.cells h0
    exact ⟨b, off, ha, Nat.lt_of_lt_of_le hb hE.size, fun i hi j v hv => hE.cell (hs h0 _ ha) (hc i hi j v hv)⟩⟩
theorem Own.before {base g k cap : Nat} {w : World} {c : List Int} {x : Int} (h : Own 3 1 intCells base w (.slice (some ⟨g, 0, none⟩) (k + 1) cap) (c ++ [x])) (hk : c.length = k) : Own 3 1 intCells base w (.slice (some ⟨g, 0, none⟩) k cap) c := by
  obtain ⟨h1, h2⟩ := h
  rcases h2 with ⟨h2, _⟩ | ⟨g', cap', cur, e, hb, hg, hn, hc, hs, ht⟩
  · cases h2
  · simp only [Value.slice.injEq, Option.some.injEq, Addr.mk.injEq] at e
    obtain ⟨⟨rfl, _⟩, _, rfl⟩ := e
    refine ⟨by rw [intCells_flat]; omega, .inr ⟨g, cap, cur, by rw [hk], hb, hg, by simp at hn; omega, hc, hs, ?_⟩⟩
    have h3 : (cur.toList.take ((c ++ [x]).length * 1)).take (c.length * 1) = ((c ++ [x]).flatMap intCells).take (c.length * 1) := by rw [ht]
    rw [List.take_take, show min (c.length * 1) ((c ++ [x]).length * 1) = c.length * 1 by simp] at h3
    rw [h3, List.flatMap_append, List.take_append_of_le_length (by rw [intCells_flat]; omega)]
    exact List.take_of_length_le (by rw [intCells_flat]; omega)
/-- What the inner function finds in memory. -/
structure Env (p : Recipe) (a : Option Addr) (cap : Nat) (a2 : Option Addr) (cap2 : Nat) (ones : List Mar) (l bt by_ be : Nat) (w : World) : Prop where
  t : w.heap[bt]? = some (.cells #[.slice a p.lots.length cap, .int .i64 p.mass.lo, .int .i64 p.mass.hi, .int .i64 p.target.a.lo, .int .i64 p.target.a.hi, .int .i64 p.target.b.lo, .int .i64 p.target.b.hi, .int .i64 p.target.c.lo, .int .i64 p.target.c.hi, .slice a2 ones.length cap2] 103 (0, 0))
  y : w.heap[by_]? = some (.cells #[.func (.yield l) #[] #[]] 131 (0, 0))
  e : w.heap[be]? = some (.cells #[.func (.func 66) #[] #[.pointer (some ⟨bt, 0, none⟩), .pointer (some ⟨by_, 0, none⟩), .pointer (some ⟨be, 0, none⟩)]] 131 (0, 0))
  lots : SlL w a cap p.lots
  ones_ : Sl 8 Mar.cells w a2 cap2 ones
end Go.Proofs.Ythmicafabimfkaa


namespace Go.Proofs.Ythmicafabimfkaa
open Go.RowKit
attribute [local irreducible] wpYield wpPlan
attribute [local go_sem] Oper.semAt_some
set_option maxRecDepth 100000 in
set_option maxHeartbeats 8000000 in
theorem extend_yield_c (p : Recipe) (a : Option Addr) (cap : Nat) (a2 : Option Addr) (cap2 : Nat) (ones : List Mar) (hcnt : ∀ k, k < p.lots.length → 0 ≤ (nth p.lots .zero k).count ∧ (nth p.lots .zero k).count ≤ 1000) (hlen : p.lots.length ≤ 1000) (hon : Hid (ones.length = p.lots.length)) (l g bt by_ be base : Nat) (SB SG : List Nat) (hgS : g ∈ SG) (hSB : ∀ x ∈ SB, x ∈ SG) (hgB : g ∉ SB) (hEnv : ∀ W W', Env p a cap a2 cap2 ones l bt by_ be W → Ex SG W W' → Env p a cap a2 cap2 ones l bt by_ be W') (J : List (List Int × Mar) → World → Prop) (hJE : ∀ pre W W', J pre W → Ex [g] W W' → J pre W') (hY : ∀ pre c m W, J pre W → c.length = p.lots.length ∧ g < W.heap.size → SlI W (some ⟨g, 0, none⟩) p.lots.length c → YieldAt Fence.wide 4 Try.prog l #[.slice (some ⟨g, 0, none⟩) p.lots.length p.lots.length, .agg #[.int .i64 m.m0, .int .i64 m.m1, .int .i64 m.m2, .int .i64 m.m3, .int .i64 m.m4, .int .i64 m.m5, .int .i64 m.m6, .int .i64 m.m7]] W (fun e W' => e = .returned (.bool true) ∧ J (pre ++ [(c, m)]) W' ∧ Ex SB W W')) (k : Nat) (c : List Int) (m : Mar) (pre : List (List Int × Mar)) (w : World) (hkr : Hid (k + 0 = p.lots.length)) (hck : Hid (c.length = k)) (hk : k ≤ p.lots.length) (hSw : ∀ x ∈ SG, x < w.heap.size) (hE : Env p a cap a2 cap2 ones l bt by_ be w) (hJ : J pre w) (hO : Own 3 1 intCells base w (.slice (some ⟨g, 0, none⟩) k p.lots.length) c) :
    Calls Try.prog 66 #[.slice (some ⟨g, 0, none⟩) k p.lots.length, .agg #[.int .i64 m.m0, .int .i64 m.m1, .int .i64 m.m2, .int .i64 m.m3, .int .i64 m.m4, .int .i64 m.m5, .int .i64 m.m6, .int .i64 m.m7], .pointer (some ⟨bt, 0, none⟩), .pointer (some ⟨by_, 0, none⟩), .pointer (some ⟨be, 0, none⟩)] w (fun e w' => e = .returned (.bool true) ∧ J (pre ++ chargesR p ones 0 c m) w' ∧ Ex SG w w' ∧ Own 3 1 intCells base w' (.slice (some ⟨g, 0, none⟩) k p.lots.length) c) := by
  obtain rfl : k = p.lots.length := by have := hkr.out; omega
  have hg := hO.lt rfl
  have hgb : base ≤ g := hO.base_le rfl
  go_enter Try.func66, Try.ntmps66
  go_upto_region 1 with (fail)
  refine wp_at (fun W => Ext w W ∧ w.heap.size + 1 = W.heap.size ∧ W.heap[w.heap.size]? = some (.cells #[.int .i64 m.m0, .int .i64 m.m1, .int .i64 m.m2, .int .i64 m.m3, .int .i64 m.m4, .int .i64 m.m5, .int .i64 m.m6, .int .i64 m.m7] 108 (0, 0))) ⟨by (repeat (with_reducible first | exact Ex.refl _ _ | assumption | exact Ex.mono (by assumption) (by simp; done) | refine Ex.alloc ?_ _ | refine Ex.drew ?_ | refine Ex.drewN ?_ _ | refine Ex.setCell ?_ (by first | (left; simp; done) | (right; simp; done) | (right; simp; omega)) _ | refine Ex.trans ?_ (by assumption))), by simp, blk_new _ _⟩ (fun W hW => ?_)
  obtain ⟨hr0, hsz, hB0⟩ := hW
  have hr : Ex [] W W := Ex.refl _ _
  have f0_0 := cellE (S := []) hB0 (by first | (simp; done) | (simp; omega)) 0 rfl
  have f0_1 := cellE (S := []) hB0 (by first | (simp; done) | (simp; omega)) 1 rfl
  have f0_2 := cellE (S := []) hB0 (by first | (simp; done) | (simp; omega)) 2 rfl
  have f0_3 := cellE (S := []) hB0 (by first | (simp; done) | (simp; omega)) 3 rfl
  have f0_4 := cellE (S := []) hB0 (by first | (simp; done) | (simp; omega)) 4 rfl
  have f0_5 := cellE (S := []) hB0 (by first | (simp; done) | (simp; omega)) 5 rfl
  have f0_6 := cellE (S := []) hB0 (by first | (simp; done) | (simp; omega)) 6 rfl
  have f0_7 := cellE (S := []) hB0 (by first | (simp; done) | (simp; omega)) 7 rfl
  clear hB0
  have hsz' := Nat.le_of_eq hsz.symm; have hsz'' := Nat.le_of_eq hsz; clear hsz
  have hEW := hEnv _ _ hE (hr0.ex SG)
  have e0 := cellE (S := []) hEW.t (by simp) 0 rfl
  have e1 := cellE (S := []) hEW.y (by simp) 0 rfl
  have hJW := hJE _ _ _ hJ (hr0.ex [g])
  have hOW := hO.ext hr0
  go_upto_region 3 with fail
  obtain ⟨fn, tm, assign, body, hy, hR⟩ := hY pre c m W hJW ⟨hck.out, hOW.lt rfl⟩ (hck.out ▸ (hOW.cong rfl).toSl (fun _ => rfl))
  have hR' := Lib.hid hR; clear hR
  refine (wpIn_wide (n := 5)).1 ?_
  gi_wp2
  refine hR'.out.mono ?_
  rintro e w1 ⟨rfl, hJ1, h1⟩
  gi_wp2
  go_wp2
  go_returns
  exact ⟨rfl, hJ1, (hr0.ex SG).trans (h1.mono hSB), hOW.ex h1 (fun g' hg' => by simp only [Value.ownBlock, Option.some.injEq] at hg'; subst hg'; exact hgB)⟩
end Go.Proofs.Ythmicafabimfkaa


namespace Go.Proofs.Ythmicafabimfkaa
open Go.RowKit
attribute [local irreducible] wpYield wpPlan
attribute [local go_sem] Oper.semAt_some
set_option maxRecDepth 100000 in
set_option maxHeartbeats 8000000 in
theorem extend_more_c (p : Recipe) (a : Option Addr) (cap : Nat) (a2 : Option Addr) (cap2 : Nat) (ones : List Mar) (hcnt : ∀ k, k < p.lots.length → 0 ≤ (nth p.lots .zero k).count ∧ (nth p.lots .zero k).count ≤ 1000) (hlen : p.lots.length ≤ 1000) (hon : Hid (ones.length = p.lots.length)) (l g bt by_ be base : Nat) (SB SG : List Nat) (hgS : g ∈ SG) (hSB : ∀ x ∈ SB, x ∈ SG) (hgB : g ∉ SB) (hEnv : ∀ W W', Env p a cap a2 cap2 ones l bt by_ be W → Ex SG W W' → Env p a cap a2 cap2 ones l bt by_ be W') (J : List (List Int × Mar) → World → Prop) (hJE : ∀ pre W W', J pre W → Ex [g] W W' → J pre W')  (r : Nat) (ih : ∀ (k : Nat) (c : List Int) (m : Mar) (pre : List (List Int × Mar)) (w : World), (Hid (k + r = p.lots.length)) → (Hid (c.length = k)) → (k ≤ p.lots.length) → (∀ x ∈ SG, x < w.heap.size) → (Env p a cap a2 cap2 ones l bt by_ be w) → (J pre w) → (Own 3 1 intCells base w (.slice (some ⟨g, 0, none⟩) k p.lots.length) c) → Calls Try.prog 66 #[.slice (some ⟨g, 0, none⟩) k p.lots.length, .agg #[.int .i64 m.m0, .int .i64 m.m1, .int .i64 m.m2, .int .i64 m.m3, .int .i64 m.m4, .int .i64 m.m5, .int .i64 m.m6, .int .i64 m.m7], .pointer (some ⟨bt, 0, none⟩), .pointer (some ⟨by_, 0, none⟩), .pointer (some ⟨be, 0, none⟩)] w (fun e w' => e = .returned (.bool true) ∧ J (pre ++ chargesR p ones r c m) w' ∧ Ex SG w w' ∧ Own 3 1 intCells base w' (.slice (some ⟨g, 0, none⟩) k p.lots.length) c)) (k : Nat) (c : List Int) (m : Mar) (pre : List (List Int × Mar)) (w : World) (hkr : Hid (k + (r + 1) = p.lots.length)) (hck : Hid (c.length = k)) (hk : k ≤ p.lots.length) (hSw : ∀ x ∈ SG, x < w.heap.size) (hE : Env p a cap a2 cap2 ones l bt by_ be w) (hJ : J pre w) (hO : Own 3 1 intCells base w (.slice (some ⟨g, 0, none⟩) k p.lots.length) c) :
    Calls Try.prog 66 #[.slice (some ⟨g, 0, none⟩) k p.lots.length, .agg #[.int .i64 m.m0, .int .i64 m.m1, .int .i64 m.m2, .int .i64 m.m3, .int .i64 m.m4, .int .i64 m.m5, .int .i64 m.m6, .int .i64 m.m7], .pointer (some ⟨bt, 0, none⟩), .pointer (some ⟨by_, 0, none⟩), .pointer (some ⟨be, 0, none⟩)] w (fun e w' => e = .returned (.bool true) ∧ J (pre ++ chargesR p ones (r + 1) c m) w' ∧ Ex SG w w' ∧ Own 3 1 intCells base w' (.slice (some ⟨g, 0, none⟩) k p.lots.length) c) := by
  have hlt : k < p.lots.length := by have := hkr.out; omega
  have hne : ((k : Int) == (p.lots.length : Int)) = false := by simp; omega
  have hcn := hcnt k hlt
  obtain ⟨cn, hcn'⟩ : ∃ cn : Nat, (nth p.lots .zero k).count = (cn : Int) := ⟨(nth p.lots .zero k).count.toNat, by omega⟩
  have hcm : cn ≤ 1000 := by omega
  have hspec : chargesR p ones (r + 1) c m = (List.range (cn + 1)).flatMap fun (j : Nat) => chargesR p ones r (c ++ [(j : Int)]) (plusM m (nth ones .zero k) j) := by
    rw [chargesR, hck.out, hcn']; congr 1
  have hspec' := Lib.hid hspec; clear hspec
  have hg := hO.lt rfl
  have hgb : base ≤ g := hO.base_le rfl
  have ih' := Lib.hid ih; clear ih
  go_enter Try.func66, Try.ntmps66
  go_upto_region 1 with (fail)
  refine wp_at (fun W => Ext w W ∧ w.heap.size + 1 = W.heap.size ∧ W.heap[w.heap.size]? = some (.cells #[.int .i64 m.m0, .int .i64 m.m1, .int .i64 m.m2, .int .i64 m.m3, .int .i64 m.m4, .int .i64 m.m5, .int .i64 m.m6, .int .i64 m.m7] 108 (0, 0))) ⟨by (repeat (with_reducible first | exact Ex.refl _ _ | assumption | exact Ex.mono (by assumption) (by simp; done) | refine Ex.alloc ?_ _ | refine Ex.drew ?_ | refine Ex.drewN ?_ _ | refine Ex.setCell ?_ (by first | (left; simp; done) | (right; simp; done) | (right; simp; omega)) _ | refine Ex.trans ?_ (by assumption))), by simp, blk_new _ _⟩ (fun W hW => ?_)
  obtain ⟨hr0, hsz, hB0⟩ := hW
  have hr : Ex [] W W := Ex.refl _ _
  have hsz' := Nat.le_of_eq hsz.symm; have hsz'' := Nat.le_of_eq hsz; clear hsz
  have hEW := hEnv _ _ hE (hr0.ex SG)
  have hJW := hJE _ _ _ hJ (hr0.ex [g])
  have hOW := hO.ext hr0
  have hlx : k < ones.length := by have := hon.out; omega
  have hk0 : (0 : Int) ≤ (k : Int) := by omega
  have hk1 : (k : Int) < (p.lots.length : Int) := by omega
  have hk2 : (k : Int) < (ones.length : Int) := by omega
  have hwg : w.heap.size ≠ g := fun e => by have := hSw g hgS; omega
  have hrS : Ex SG W W := Ex.refl _ _
  have e0 := fun w' (h : Ex SG W w') => blk_cell (hEnv W w' hEW h).t 0 rfl
  have e1 := fun w' (h : Ex SG W w') => blk_cell (hEnv W w' hEW h).t 1 rfl
  have e2 := fun w' (h : Ex SG W w') => blk_cell (hEnv W w' hEW h).t 2 rfl
  have e3 := fun w' (h : Ex SG W w') => blk_cell (hEnv W w' hEW h).t 3 rfl
  have e4 := fun w' (h : Ex SG W w') => blk_cell (hEnv W w' hEW h).t 4 rfl
  have e5 := fun w' (h : Ex SG W w') => blk_cell (hEnv W w' hEW h).t 5 rfl
  have e6 := fun w' (h : Ex SG W w') => blk_cell (hEnv W w' hEW h).t 6 rfl
  have e7 := fun w' (h : Ex SG W w') => blk_cell (hEnv W w' hEW h).t 7 rfl
  have e8 := fun w' (h : Ex SG W w') => blk_cell (hEnv W w' hEW h).t 8 rfl
  have e9 := fun w' (h : Ex SG W w') => blk_cell (hEnv W w' hEW h).t 9 rfl
  have ee := fun w' (h : Ex SG W w') => blk_cell (hEnv W w' hEW h).e 0 rfl
  have elots := fun w' (h : Ex SG W w') => (hEnv W w' hEW h).lots
  have eones := fun w' (h : Ex SG W w') => (hEnv W w' hEW h).ones_
  have hlb := hEW.lots.le; have hlb' := hEW.lots.big
  obtain ⟨b2, off2, rfl, hbw2, _⟩ := hEW.lots.cells (by omega)
  have l0 : ∀ w', Ex SG W w' → w'.cell? ⟨b2, off2 + k * 9, none⟩ = some (.int .i64 cn) := fun w' h => by
    obtain ⟨b, off, hb, _, hcc⟩ := (elots w' h).cells (by omega)
    cases hb
    have := hcc k hlt 0 _ rfl
    rwa [Nat.add_zero, nth_eq p.lots .zero k hlt, hcn'] at this
  have hob := hEW.ones_.le; have hob' := hEW.ones_.big
  obtain ⟨b3, off3, rfl, hbw3, _⟩ := hEW.ones_.cells (by omega)
  obtain ⟨mo, hmo⟩ : ∃ mo, mo = nth ones Mar.zero k := ⟨_, rfl⟩
  have o0 : ∀ w', Ex SG W w' → w'.cell? ⟨b3, off3 + k * 8, none⟩ = some (.int .i64 mo.m0) := fun w' h => by
    obtain ⟨b, off, hb, _, hcc⟩ := (eones w' h).cells (by omega)
    cases hb
    have := hcc k hlx 0 _ rfl
    rwa [Nat.add_zero, nth_eq ones .zero k hlx, ← hmo] at this
  have o1 : ∀ w', Ex SG W w' → w'.cell? ⟨b3, off3 + k * 8 + 1, none⟩ = some (.int .i64 mo.m1) := fun w' h => by
    obtain ⟨b, off, hb, _, hcc⟩ := (eones w' h).cells (by omega)
    cases hb
    have := hcc k hlx 1 _ rfl
    rwa [nth_eq ones .zero k hlx, ← hmo] at this
  have o2 : ∀ w', Ex SG W w' → w'.cell? ⟨b3, off3 + k * 8 + 2, none⟩ = some (.int .i64 mo.m2) := fun w' h => by
    obtain ⟨b, off, hb, _, hcc⟩ := (eones w' h).cells (by omega)
    cases hb
    have := hcc k hlx 2 _ rfl
    rwa [nth_eq ones .zero k hlx, ← hmo] at this
  have o3 : ∀ w', Ex SG W w' → w'.cell? ⟨b3, off3 + k * 8 + 3, none⟩ = some (.int .i64 mo.m3) := fun w' h => by
    obtain ⟨b, off, hb, _, hcc⟩ := (eones w' h).cells (by omega)
    cases hb
    have := hcc k hlx 3 _ rfl
    rwa [nth_eq ones .zero k hlx, ← hmo] at this
  have o4 : ∀ w', Ex SG W w' → w'.cell? ⟨b3, off3 + k * 8 + 4, none⟩ = some (.int .i64 mo.m4) := fun w' h => by
    obtain ⟨b, off, hb, _, hcc⟩ := (eones w' h).cells (by omega)
    cases hb
    have := hcc k hlx 4 _ rfl
    rwa [nth_eq ones .zero k hlx, ← hmo] at this
  have o5 : ∀ w', Ex SG W w' → w'.cell? ⟨b3, off3 + k * 8 + 5, none⟩ = some (.int .i64 mo.m5) := fun w' h => by
    obtain ⟨b, off, hb, _, hcc⟩ := (eones w' h).cells (by omega)
    cases hb
    have := hcc k hlx 5 _ rfl
    rwa [nth_eq ones .zero k hlx, ← hmo] at this
  have o6 : ∀ w', Ex SG W w' → w'.cell? ⟨b3, off3 + k * 8 + 6, none⟩ = some (.int .i64 mo.m6) := fun w' h => by
    obtain ⟨b, off, hb, _, hcc⟩ := (eones w' h).cells (by omega)
    cases hb
    have := hcc k hlx 6 _ rfl
    rwa [nth_eq ones .zero k hlx, ← hmo] at this
  have o7 : ∀ w', Ex SG W w' → w'.cell? ⟨b3, off3 + k * 8 + 7, none⟩ = some (.int .i64 mo.m7) := fun w' h => by
    obtain ⟨b, off, hb, _, hcc⟩ := (eones w' h).cells (by omega)
    cases hb
    have := hcc k hlx 7 _ rfl
    rwa [nth_eq ones .zero k hlx, ← hmo] at this
  rw [← hmo] at hspec'
  have hmo' := Lib.hid hmo; clear hmo
  clear elots eones
  have hB0' := Lib.hid hB0; clear hB0
  have hsW := hr0.size
  have f0 := cellE (S := SG) hB0'.out (fun hm => absurd (hSw _ hm) (Nat.lt_irrefl _)) 0 rfl
  have f1 := cellE (S := SG) hB0'.out (fun hm => absurd (hSw _ hm) (Nat.lt_irrefl _)) 1 rfl
  have f2 := cellE (S := SG) hB0'.out (fun hm => absurd (hSw _ hm) (Nat.lt_irrefl _)) 2 rfl
  have f3 := cellE (S := SG) hB0'.out (fun hm => absurd (hSw _ hm) (Nat.lt_irrefl _)) 3 rfl
  have f4 := cellE (S := SG) hB0'.out (fun hm => absurd (hSw _ hm) (Nat.lt_irrefl _)) 4 rfl
  have f5 := cellE (S := SG) hB0'.out (fun hm => absurd (hSw _ hm) (Nat.lt_irrefl _)) 5 rfl
  have f6 := cellE (S := SG) hB0'.out (fun hm => absurd (hSw _ hm) (Nat.lt_irrefl _)) 6 rfl
  have f7 := cellE (S := SG) hB0'.out (fun hm => absurd (hSw _ hm) (Nat.lt_irrefl _)) 7 rfl
  go_wp2_with fail
  go_loopg [30] (cn + 1) (fun g' i wr => ∃ (j : Nat), g' = cn + 1 - j ∧ j ≤ cn + 1 ∧ i = .int .i64 j ∧ Ex SG W wr ∧ J (pre ++ (List.range j).flatMap fun (j : Nat) => chargesR p ones r (c ++ [(j : Int)]) (plusM m mo j)) wr ∧ Own 3 1 intCells base wr (.slice (some ⟨g, 0, none⟩) k p.lots.length) c)
  case atStart => exact ⟨0, rfl, by omega, rfl, Ex.refl _ _, by simpa using hJW, hOW⟩
  case round =>
    obtain ⟨j, rfl, hj, rfl, hER, hJR, hOR⟩ := hrel
    by_cases hjl : j < cn + 1
    · have hJR' := Lib.hid hJR; clear hJR
      have hwr := hER.size
      go_upto_region 7 with fail
      replace e0 := fun w' (h : Ex SG wr w') => e0 w' (hER.trans h)
      replace e1 := fun w' (h : Ex SG wr w') => e1 w' (hER.trans h)
      replace e2 := fun w' (h : Ex SG wr w') => e2 w' (hER.trans h)
      replace e3 := fun w' (h : Ex SG wr w') => e3 w' (hER.trans h)
      replace e4 := fun w' (h : Ex SG wr w') => e4 w' (hER.trans h)
      replace e5 := fun w' (h : Ex SG wr w') => e5 w' (hER.trans h)
      replace e6 := fun w' (h : Ex SG wr w') => e6 w' (hER.trans h)
      replace e7 := fun w' (h : Ex SG wr w') => e7 w' (hER.trans h)
      replace e8 := fun w' (h : Ex SG wr w') => e8 w' (hER.trans h)
      replace e9 := fun w' (h : Ex SG wr w') => e9 w' (hER.trans h)
      replace ee := fun w' (h : Ex SG wr w') => ee w' (hER.trans h)
      replace o0 := fun w' (h : Ex SG wr w') => o0 w' (hER.trans h)
      replace o1 := fun w' (h : Ex SG wr w') => o1 w' (hER.trans h)
      replace o2 := fun w' (h : Ex SG wr w') => o2 w' (hER.trans h)
      replace o3 := fun w' (h : Ex SG wr w') => o3 w' (hER.trans h)
      replace o4 := fun w' (h : Ex SG wr w') => o4 w' (hER.trans h)
      replace o5 := fun w' (h : Ex SG wr w') => o5 w' (hER.trans h)
      replace o6 := fun w' (h : Ex SG wr w') => o6 w' (hER.trans h)
      replace o7 := fun w' (h : Ex SG wr w') => o7 w' (hER.trans h)
      replace f0 := fun w' (h : Ex SG wr w') => f0 w' (hER.trans h)
      replace f1 := fun w' (h : Ex SG wr w') => f1 w' (hER.trans h)
      replace f2 := fun w' (h : Ex SG wr w') => f2 w' (hER.trans h)
      replace f3 := fun w' (h : Ex SG wr w') => f3 w' (hER.trans h)
      replace f4 := fun w' (h : Ex SG wr w') => f4 w' (hER.trans h)
      replace f5 := fun w' (h : Ex SG wr w') => f5 w' (hER.trans h)
      replace f6 := fun w' (h : Ex SG wr w') => f6 w' (hER.trans h)
      replace f7 := fun w' (h : Ex SG wr w') => f7 w' (hER.trans h)
      have hrr : Ex SG wr wr := Ex.refl _ _
      have hEr := hEnv _ _ hEW hER
      have hgL : ∀ x ∈ [g], x ∈ SG := fun x hx => by simp only [List.mem_singleton] at hx; subst hx; exact hgS
      have hk3 : k + 1 ≤ p.lots.length := by omega
      have hkr2 : Hid (k + 1 + r = p.lots.length) := Lib.hid (by have := hkr.out; omega)
      have hck2 : Hid ((c ++ [(j : Int)]).length = k + 1) := Lib.hid (by have := hck.out; simp; omega)
      go_wp2_with fail
      refine region_plan (fun w' => Ex SG wr w') [.pu [1, 2, 6, 8, 11], .st [0, 5, 7], .pu [9], .st [10], .mv 3, .mv 4, .mv 12, .mv 13, .pu [14]] (by kernel_rfl) (by kernel_rfl) (Ex.drew (by first | (with_reducible assumption) | (repeat (with_reducible first | exact Ex.refl _ _ | assumption | exact Ex.mono (by assumption) (by simp; done) | refine Ex.alloc ?_ _ | refine Ex.drew ?_ | refine Ex.drewN ?_ _ | refine Ex.setCell ?_ (by first | (left; simp; done) | (right; simp; done) | (right; simp; omega)) _ | refine Ex.trans ?_ (by assumption))))) ?_
      refine plan_pu (fun K hK => ?_)
      simp only [pick, List.drop_succ_cons, List.drop_zero, List.take_succ_cons, List.take_zero, List.cons_append, List.nil_append]
      iterate 5 (first | (refine wpYield_want ?_ (by rfl) (fun w' hS' => ?_) ?_; rotate_left; ((try dsimp only at hS'); go_simp; try with_reducible rfl); simp only [Act.put, List.setIfInBounds_toArray, List.set_cons_zero, List.set_cons_succ]) | (refine wpYield_skip (by rfl) ?_; simp only [Act.put, List.setIfInBounds_toArray, List.set_cons_zero, List.set_cons_succ]))
      refine wpYield_nil (hK _ ?_)
      clear hK K
      refine plan_st (fun K hK => ?_)
      simp only [pick, List.drop_succ_cons, List.drop_zero, List.take_succ_cons, List.take_zero, List.cons_append, List.nil_append]
      iterate 3 (first | (refine wpYield_want ?_ (by rfl) (fun w' hS' => ?_) ?_; rotate_left; ((try dsimp only at hS'); go_simp; try with_reducible rfl); simp only [Act.put, List.setIfInBounds_toArray, List.set_cons_zero, List.set_cons_succ]) | (refine wpYield_skip (by rfl) ?_; simp only [Act.put, List.setIfInBounds_toArray, List.set_cons_zero, List.set_cons_succ]))
      refine wpYield_nil (hK _ ?_)
      clear hK K
      refine plan_pu (fun K hK => ?_)
      simp only [pick, List.drop_succ_cons, List.drop_zero, List.take_succ_cons, List.take_zero, List.cons_append, List.nil_append]
      iterate 1 (first | (refine wpYield_want ?_ (by rfl) (fun w' hS' => ?_) ?_; rotate_left; ((try dsimp only at hS'); go_simp; try with_reducible rfl); simp only [Act.put, List.setIfInBounds_toArray, List.set_cons_zero, List.set_cons_succ]) | (refine wpYield_skip (by rfl) ?_; simp only [Act.put, List.setIfInBounds_toArray, List.set_cons_zero, List.set_cons_succ]))
      refine wpYield_nil (hK _ ?_)
      clear hK K
      refine plan_st (fun K hK => ?_)
      simp only [pick, List.drop_succ_cons, List.drop_zero, List.take_succ_cons, List.take_zero, List.cons_append, List.nil_append]
      iterate 1 (first | (refine wpYield_want ?_ (by rfl) (fun w' hS' => ?_) ?_; rotate_left; ((try dsimp only at hS'); go_simp; try with_reducible rfl); simp only [Act.put, List.setIfInBounds_toArray, List.set_cons_zero, List.set_cons_succ]) | (refine wpYield_skip (by rfl) ?_; simp only [Act.put, List.setIfInBounds_toArray, List.set_cons_zero, List.set_cons_succ]))
      refine wpYield_nil (hK _ ?_)
      clear hK K
      refine plan_mv (fun K hK => ?_)
      simp only [pick, List.drop_succ_cons, List.drop_zero, List.take_succ_cons, List.take_zero, List.cons_append, List.nil_append]
      go_wp2_with (first | (at_builtin; refine wpList_pushRoom (base := base) eiInt intCells_len intCells_one rfl _ _ rfl g k p.lots.length c hck.out (by rfl) (hOR.ext ((Ex.refl _ _).drew.alloc _)) _ (j : Int) (by rfl) (fun j1 u hu => blk_cell (blk_new _ _) j1 (by simpa [intCells] using hu)) hk3 ?_; intro w4 hO4 hx4; have hg4 : Ex [g] wr w4 := ((Ex.refl _ _).drew.alloc _).trans hx4; have hJ4 := hJE _ _ _ hJR'.out hg4; have h4 := hg4.mono hgL) | (go_at_call 49; refine (plus_c m mo j _).mono ?_; rintro e w5 ⟨rfl, h5⟩; have hJ5 := hJE _ _ _ hJ4 (h5.ex [g]); have hO5 := hO4.ext h5; replace h5 : Ex SG wr w5 := h4.trans (h5.ex SG)) | (go_at_call 66; refine (ih'.out (k + 1) (c ++ [(j : Int)]) (plusM m mo j) _ _ hkr2 hck2 hk3 (fun x hx => by have := hSw x hx; have := h5.size; omega) (hEnv _ _ hEr h5) hJ5 hO5).mono ?_; rintro e w6 ⟨rfl, hJ6, h6, hO6⟩; replace h6 : Ex SG wr w6 := h5.trans h6))
      first | refine hK _ _ (by first | (with_reducible assumption) | (repeat (with_reducible first | exact Ex.refl _ _ | assumption | exact Ex.mono (by assumption) (by simp; done) | refine Ex.alloc ?_ _ | refine Ex.drew ?_ | refine Ex.drewN ?_ _ | refine Ex.setCell ?_ (by first | (left; simp; done) | (right; simp; done) | (right; simp; omega)) _ | refine Ex.trans ?_ (by assumption)))) ?_ | refine ⟨rfl, hK _ _ (by first | (with_reducible assumption) | (repeat (with_reducible first | exact Ex.refl _ _ | assumption | exact Ex.mono (by assumption) (by simp; done) | refine Ex.alloc ?_ _ | refine Ex.drew ?_ | refine Ex.drewN ?_ _ | refine Ex.setCell ?_ (by first | (left; simp; done) | (right; simp; done) | (right; simp; omega)) _ | refine Ex.trans ?_ (by assumption)))) ?_⟩
      clear hK K
      refine plan_mv (fun K hK => ?_)
      simp only [pick, List.drop_succ_cons, List.drop_zero, List.take_succ_cons, List.take_zero, List.cons_append, List.nil_append]
      go_wp2_with (first | (at_builtin; refine wpList_pushRoom (base := base) eiInt intCells_len intCells_one rfl _ _ rfl g k p.lots.length c hck.out (by rfl) (hOR.ext ((Ex.refl _ _).drew.alloc _)) _ (j : Int) (by rfl) (fun j1 u hu => blk_cell (blk_new _ _) j1 (by simpa [intCells] using hu)) hk3 ?_; intro w4 hO4 hx4; have hg4 : Ex [g] wr w4 := ((Ex.refl _ _).drew.alloc _).trans hx4; have hJ4 := hJE _ _ _ hJR'.out hg4; have h4 := hg4.mono hgL) | (go_at_call 49; refine (plus_c m mo j _).mono ?_; rintro e w5 ⟨rfl, h5⟩; have hJ5 := hJE _ _ _ hJ4 (h5.ex [g]); have hO5 := hO4.ext h5; replace h5 : Ex SG wr w5 := h4.trans (h5.ex SG)) | (go_at_call 66; refine (ih'.out (k + 1) (c ++ [(j : Int)]) (plusM m mo j) _ _ hkr2 hck2 hk3 (fun x hx => by have := hSw x hx; have := h5.size; omega) (hEnv _ _ hEr h5) hJ5 hO5).mono ?_; rintro e w6 ⟨rfl, hJ6, h6, hO6⟩; replace h6 : Ex SG wr w6 := h5.trans h6))
      first | refine hK _ _ (by first | (with_reducible assumption) | (repeat (with_reducible first | exact Ex.refl _ _ | assumption | exact Ex.mono (by assumption) (by simp; done) | refine Ex.alloc ?_ _ | refine Ex.drew ?_ | refine Ex.drewN ?_ _ | refine Ex.setCell ?_ (by first | (left; simp; done) | (right; simp; done) | (right; simp; omega)) _ | refine Ex.trans ?_ (by assumption)))) ?_ | refine ⟨rfl, hK _ _ (by first | (with_reducible assumption) | (repeat (with_reducible first | exact Ex.refl _ _ | assumption | exact Ex.mono (by assumption) (by simp; done) | refine Ex.alloc ?_ _ | refine Ex.drew ?_ | refine Ex.drewN ?_ _ | refine Ex.setCell ?_ (by first | (left; simp; done) | (right; simp; done) | (right; simp; omega)) _ | refine Ex.trans ?_ (by assumption)))) ?_⟩
      clear hK K
      refine plan_mv (fun K hK => ?_)
      simp only [pick, List.drop_succ_cons, List.drop_zero, List.take_succ_cons, List.take_zero, List.cons_append, List.nil_append]
      go_wp2_with (first | (at_builtin; refine wpList_pushRoom (base := base) eiInt intCells_len intCells_one rfl _ _ rfl g k p.lots.length c hck.out (by rfl) (hOR.ext ((Ex.refl _ _).drew.alloc _)) _ (j : Int) (by rfl) (fun j1 u hu => blk_cell (blk_new _ _) j1 (by simpa [intCells] using hu)) hk3 ?_; intro w4 hO4 hx4; have hg4 : Ex [g] wr w4 := ((Ex.refl _ _).drew.alloc _).trans hx4; have hJ4 := hJE _ _ _ hJR'.out hg4; have h4 := hg4.mono hgL) | (go_at_call 49; refine (plus_c m mo j _).mono ?_; rintro e w5 ⟨rfl, h5⟩; have hJ5 := hJE _ _ _ hJ4 (h5.ex [g]); have hO5 := hO4.ext h5; replace h5 : Ex SG wr w5 := h4.trans (h5.ex SG)) | (go_at_call 66; refine (ih'.out (k + 1) (c ++ [(j : Int)]) (plusM m mo j) _ _ hkr2 hck2 hk3 (fun x hx => by have := hSw x hx; have := h5.size; omega) (hEnv _ _ hEr h5) hJ5 hO5).mono ?_; rintro e w6 ⟨rfl, hJ6, h6, hO6⟩; replace h6 : Ex SG wr w6 := h5.trans h6))
      first | refine hK _ _ (by first | (with_reducible assumption) | (repeat (with_reducible first | exact Ex.refl _ _ | assumption | exact Ex.mono (by assumption) (by simp; done) | refine Ex.alloc ?_ _ | refine Ex.drew ?_ | refine Ex.drewN ?_ _ | refine Ex.setCell ?_ (by first | (left; simp; done) | (right; simp; done) | (right; simp; omega)) _ | refine Ex.trans ?_ (by assumption)))) ?_ | refine ⟨rfl, hK _ _ (by first | (with_reducible assumption) | (repeat (with_reducible first | exact Ex.refl _ _ | assumption | exact Ex.mono (by assumption) (by simp; done) | refine Ex.alloc ?_ _ | refine Ex.drew ?_ | refine Ex.drewN ?_ _ | refine Ex.setCell ?_ (by first | (left; simp; done) | (right; simp; done) | (right; simp; omega)) _ | refine Ex.trans ?_ (by assumption)))) ?_⟩
      clear hK K
      refine plan_mv (fun K hK => ?_)
      simp only [pick, List.drop_succ_cons, List.drop_zero, List.take_succ_cons, List.take_zero, List.cons_append, List.nil_append]
      go_wp2_with (first | (at_builtin; refine wpList_pushRoom (base := base) eiInt intCells_len intCells_one rfl _ _ rfl g k p.lots.length c hck.out (by rfl) (hOR.ext ((Ex.refl _ _).drew.alloc _)) _ (j : Int) (by rfl) (fun j1 u hu => blk_cell (blk_new _ _) j1 (by simpa [intCells] using hu)) hk3 ?_; intro w4 hO4 hx4; have hg4 : Ex [g] wr w4 := ((Ex.refl _ _).drew.alloc _).trans hx4; have hJ4 := hJE _ _ _ hJR'.out hg4; have h4 := hg4.mono hgL) | (go_at_call 49; refine (plus_c m mo j _).mono ?_; rintro e w5 ⟨rfl, h5⟩; have hJ5 := hJE _ _ _ hJ4 (h5.ex [g]); have hO5 := hO4.ext h5; replace h5 : Ex SG wr w5 := h4.trans (h5.ex SG)) | (go_at_call 66; refine (ih'.out (k + 1) (c ++ [(j : Int)]) (plusM m mo j) _ _ hkr2 hck2 hk3 (fun x hx => by have := hSw x hx; have := h5.size; omega) (hEnv _ _ hEr h5) hJ5 hO5).mono ?_; rintro e w6 ⟨rfl, hJ6, h6, hO6⟩; replace h6 : Ex SG wr w6 := h5.trans h6))
      first | refine hK _ _ (by first | (with_reducible assumption) | (repeat (with_reducible first | exact Ex.refl _ _ | assumption | exact Ex.mono (by assumption) (by simp; done) | refine Ex.alloc ?_ _ | refine Ex.drew ?_ | refine Ex.drewN ?_ _ | refine Ex.setCell ?_ (by first | (left; simp; done) | (right; simp; done) | (right; simp; omega)) _ | refine Ex.trans ?_ (by assumption)))) ?_ | refine ⟨rfl, hK _ _ (by first | (with_reducible assumption) | (repeat (with_reducible first | exact Ex.refl _ _ | assumption | exact Ex.mono (by assumption) (by simp; done) | refine Ex.alloc ?_ _ | refine Ex.drew ?_ | refine Ex.drewN ?_ _ | refine Ex.setCell ?_ (by first | (left; simp; done) | (right; simp; done) | (right; simp; omega)) _ | refine Ex.trans ?_ (by assumption)))) ?_⟩
      clear hK K
      refine plan_pu (fun K hK => ?_)
      simp only [pick, List.drop_succ_cons, List.drop_zero, List.take_succ_cons, List.take_zero, List.cons_append, List.nil_append]
      iterate 1 (first | (refine wpYield_want ?_ (by rfl) (fun w' hS' => ?_) ?_; rotate_left; ((try dsimp only at hS'); go_simp; try with_reducible rfl); simp only [Act.put, List.setIfInBounds_toArray, List.set_cons_zero, List.set_cons_succ]) | (refine wpYield_skip (by rfl) ?_; simp only [Act.put, List.setIfInBounds_toArray, List.set_cons_zero, List.set_cons_succ]))
      refine wpYield_nil (hK _ ?_)
      clear hK K
      refine plan_nil ?_
      go_wp2_with fail
      go_roundg (cn + 1 - (j + 1))
      case rel => exact ⟨j + 1, rfl, by omega, by go_num, hER.trans h6, by rw [List.range_succ, List.flatMap_append]; simpa [List.append_assoc] using hJ6, hO6.before hck.out⟩
      case measure => omega
    · go_wp2_with fail
      go_returns
      exact ⟨rfl, by rw [hspec'.out, show cn + 1 = j by omega]; exact hJR, (hr0.ex SG).trans hER, hOR⟩
end Go.Proofs.Ythmicafabimfkaa
