/- All charges, one after another. No condition. -/
import Derived.Test.YtojnpaenpaobcaaC25
import Derived.Test.YtojnpaenpaobcaaC26
import Derived.Laws.EntriesVeiled
namespace Go.Proofs.Ytojnpaenpaobcaa
open Go.RowKit
attribute [local irreducible] wpYield wpPlan
attribute [local go_sem] Oper.semAt_some

theorem extend_c (p : Recipe) (a : Option Addr) (cap : Nat) (a2 : Option Addr) (cap2 : Nat) (ones : List Mar) (hcnt : ∀ k, k < p.lots.length → 0 ≤ (nth p.lots .zero k).count ∧ (nth p.lots .zero k).count ≤ 1000) (hlen : p.lots.length ≤ 1000) (hon : Hid (ones.length = p.lots.length)) (l g bt by_ be base : Nat) (SB SG : List Nat) (hgS : g ∈ SG) (hSB : ∀ x ∈ SB, x ∈ SG) (hgB : g ∉ SB) (hEnv : ∀ W W', Env p a cap a2 cap2 ones l bt by_ be W → Ex SG W W' → Env p a cap a2 cap2 ones l bt by_ be W') (J : List (List Int × Mar) → World → Prop) (hJE : ∀ pre W W', J pre W → Ex [g] W W' → J pre W') (hY : ∀ pre c m W, J pre W → c.length = p.lots.length → SlI W (some ⟨g, 0, none⟩) p.lots.length c → YieldAt Fence.wide 4 Try.prog l #[.slice (some ⟨g, 0, none⟩) p.lots.length p.lots.length, .agg #[.int .i64 m.m0, .int .i64 m.m1, .int .i64 m.m2, .int .i64 m.m3, .int .i64 m.m4, .int .i64 m.m5, .int .i64 m.m6, .int .i64 m.m7]] W (fun e W' => e = .returned (.bool true) ∧ J (pre ++ [(c, m)]) W' ∧ Ex SB W W')) : ∀ (r : Nat) (k : Nat) (c : List Int) (m : Mar) (pre : List (List Int × Mar)) (w : World), (Hid (k + r = p.lots.length)) → (Hid (c.length = k)) → (k ≤ p.lots.length) → (∀ x ∈ SG, x < w.heap.size) → (Env p a cap a2 cap2 ones l bt by_ be w) → (J pre w) → (Own 3 1 intCells base w (.slice (some ⟨g, 0, none⟩) k p.lots.length) c) → Calls Try.prog 94 #[.slice (some ⟨g, 0, none⟩) k p.lots.length, .agg #[.int .i64 m.m0, .int .i64 m.m1, .int .i64 m.m2, .int .i64 m.m3, .int .i64 m.m4, .int .i64 m.m5, .int .i64 m.m6, .int .i64 m.m7], .pointer (some ⟨bt, 0, none⟩), .pointer (some ⟨by_, 0, none⟩), .pointer (some ⟨be, 0, none⟩)] w (fun e w' => e = .returned (.bool true) ∧ J (pre ++ chargesR p ones r c m) w' ∧ Ex SG w w' ∧ Own 3 1 intCells base w' (.slice (some ⟨g, 0, none⟩) k p.lots.length) c) := by
  intro r
  induction r with
  | zero =>
    intro k c m pre w h1 h2 h3 h4 h5 h6 h7
    exact extend_yield_c p a cap a2 cap2 ones hcnt hlen hon l g bt by_ be base SB SG hgS hSB hgB hEnv J hJE hY k c m pre w h1 h2 h3 h4 h5 h6 h7
  | succ r ih =>
    intro k c m pre w h1 h2 h3 h4 h5 h6 h7
    exact extend_more_c p a cap a2 cap2 ones hcnt hlen hon l g bt by_ be base SB SG hgS hSB hgB hEnv J hJE r ih k c m pre w h1 h2 h3 h4 h5 h6 h7

set_option maxRecDepth 100000 in
set_option maxHeartbeats 8000000 in
theorem charges1_c (p : Recipe) (a : Option Addr) (cap : Nat) (a2 : Option Addr) (cap2 : Nat) (ones : List Mar) (hcnt : ∀ k, k < p.lots.length → 0 ≤ (nth p.lots .zero k).count ∧ (nth p.lots .zero k).count ≤ 1000) (hlen : p.lots.length ≤ 1000) (hon : Hid (ones.length = p.lots.length)) (l bt : Nat) (SB : List Nat) (J : Nat → List (List Int × Mar) → World → Prop) (w : World)
    (hT : w.heap[bt]? = some (.cells #[.slice a p.lots.length cap, .int .i64 p.mass.lo, .int .i64 p.mass.hi, .int .i64 p.target.a.lo, .int .i64 p.target.a.hi, .int .i64 p.target.b.lo, .int .i64 p.target.b.hi, .int .i64 p.target.c.lo, .int .i64 p.target.c.hi, .slice a2 ones.length cap2] 119 (0, 0))) (hTB : bt ∉ SB) (hSBw : ∀ x ∈ SB, x < w.heap.size) (hs : SlL w a cap p.lots) (hs2 : Sl 8 Mar.cells w a2 cap2 ones) (hla : 0 < p.lots.length → ∀ b, a = some b → b.block ∉ SB ∧ b.block < w.heap.size) (hla2 : 0 < ones.length → ∀ b, a2 = some b → b.block ∉ SB ∧ b.block < w.heap.size)
    (hJ0 : ∀ g W, w.heap.size ≤ g → Ext w W → J g [] W) (hJE : ∀ g pre W W', J g pre W → Ex [g] W W' → J g pre W') (hY : ∀ g, w.heap.size ≤ g → ∀ pre c m W, J g pre W → c.length = p.lots.length → SlI W (some ⟨g, 0, none⟩) p.lots.length c → YieldAt Fence.wide 4 Try.prog l #[.slice (some ⟨g, 0, none⟩) p.lots.length p.lots.length, .agg #[.int .i64 m.m0, .int .i64 m.m1, .int .i64 m.m2, .int .i64 m.m3, .int .i64 m.m4, .int .i64 m.m5, .int .i64 m.m6, .int .i64 m.m7]] W (fun e W' => e = .returned (.bool true) ∧ J g (pre ++ [(c, m)]) W' ∧ Ex SB W W')) :
    Calls Try.prog 93 #[.func (.yield l) #[] #[], .pointer (some ⟨bt, 0, none⟩)] w (fun e w' => (∃ v, e = .returned v) ∧ ∃ g, w.heap.size ≤ g ∧ J g (chargesR p ones p.lots.length [] (baseM p)) w') := by
  have hbt := lt_of_block hT
  go_enter Try.func93, Try.ntmps93
  go_upto_region 3 with fail
  refine wp_at (fun W => Ext w W ∧ w.heap.size + 2 = W.heap.size ∧ W.heap[w.heap.size]? = some (.cells #[.func (.yield l) #[] #[]] 165 (0, 0)) ∧ W.heap[w.heap.size + 1]? = some (.cells #[.func (.func 94) #[] #[.pointer (some ⟨bt, 0, none⟩), .pointer (some ⟨w.heap.size, 0, none⟩), .pointer (some ⟨w.heap.size + 1, 0, none⟩)]] 165 (0, 0))) ?_ (fun W hW => ?_)
  · exact ⟨by (repeat (with_reducible first | exact Ex.refl _ _ | assumption | exact Ex.mono (by assumption) (by simp; done) | refine Ex.alloc ?_ _ | refine Ex.drew ?_ | refine Ex.drewN ?_ _ | refine Ex.setCell ?_ (by first | (left; simp; done) | (right; simp; done) | (right; simp; omega)) _ | refine Ex.trans ?_ (by assumption))), by simp, blk_alloc (blk_new _ _), blk_at _ _ (by simp)⟩
  obtain ⟨hr0, hsz, hBy, hBe⟩ := hW
  have hsz' := Nat.le_of_eq hsz.symm; have hsz'' := Nat.le_of_eq hsz; clear hsz
  have hTW := hr0.heap (by simp) hT
  have hsW := hs.ext hr0
  have hs2W := hs2.ext hr0
  have hx : ∀ g w5, Ex [] W w5 → W.heap.size ≤ g → Own 3 1 intCells 0 w5 (.slice (some ⟨g, 0, none⟩) 0 p.lots.length) ([] : List Int) → Calls Try.prog 94 #[.slice (some ⟨g, 0, none⟩) 0 p.lots.length, .agg #[.int .i64 ((baseM p).m0), .int .i64 ((baseM p).m1), .int .i64 ((baseM p).m2), .int .i64 ((baseM p).m3), .int .i64 ((baseM p).m4), .int .i64 ((baseM p).m5), .int .i64 ((baseM p).m6), .int .i64 ((baseM p).m7)], .pointer (some ⟨bt, 0, none⟩), .pointer (some ⟨w.heap.size, 0, none⟩), .pointer (some ⟨w.heap.size + 1, 0, none⟩)] w5 (fun e w' => e = .returned (.bool true) ∧ w.heap.size ≤ g ∧ J g (chargesR p ones p.lots.length [] (baseM p)) w' ∧ Ex SB W w') := by
    intro g w5 h5 hg hO5
    have h5s := h5.size
    have hEnv : ∀ W1 W2, Env p a cap a2 cap2 ones l bt w.heap.size (w.heap.size + 1) W1 → Ex (g :: SB) W1 W2 → Env p a cap a2 cap2 ones l bt w.heap.size (w.heap.size + 1) W2 := fun W1 W2 hE hx =>
      ⟨hx.heap (by simp only [List.mem_cons, not_or]; exact ⟨by omega, hTB⟩) hE.t,
       hx.heap (by simp only [List.mem_cons, not_or]; exact ⟨by omega, fun hm => absurd (hSBw _ hm) (by omega)⟩) hE.y,
       hx.heap (by simp only [List.mem_cons, not_or]; exact ⟨by omega, fun hm => absurd (hSBw _ hm) (by omega)⟩) hE.e,
       hE.lots.ex0 hx (fun h0 b hb => by have := hla h0 b hb; simp only [List.mem_cons, not_or]; exact ⟨by omega, this.1⟩),
       hE.ones_.ex0 hx (fun h0 b hb => by have := hla2 h0 b hb; simp only [List.mem_cons, not_or]; exact ⟨by omega, this.1⟩)⟩
    refine (extend_c p a cap a2 cap2 ones hcnt hlen hon l g bt w.heap.size (w.heap.size + 1) 0 SB (g :: SB) (by simp) (fun x hx => by simp [hx]) (fun hm => absurd (hSBw _ hm) (by omega)) hEnv (J g) (fun pre W1 W2 => hJE g pre W1 W2) (fun pre c m W1 => hY g (by omega) pre c m W1) p.lots.length 0 [] (baseM p) [] w5 (Lib.hid (by omega)) (Lib.hid rfl) (by omega)
      (fun x hx => by
        have hg5 := hO5.lt rfl
        simp only [List.mem_cons] at hx
        rcases hx with rfl | hx
        · exact hg5
        · have := hSBw x hx; omega)
      ⟨h5.heap (by simp) hTW, h5.heap (by simp) hBy, h5.heap (by simp) hBe, hsW.ext h5, hs2W.ext h5⟩ (hJ0 g w5 (by omega) (hr0.trans h5)) hO5).mono ?_
    rintro e w' ⟨he, hj, h6, _⟩
    exact ⟨he, by omega, by simpa using hj, (h5.ex SB).trans_fresh h6 (fun x hx => by simp only [List.mem_cons] at hx; rcases hx with rfl | hx; exact .inr hg; exact .inl hx)⟩
  obtain ⟨mk, hmk⟩ := Classical.axiomOfChoice (fun w' : World => (by
    obtain ⟨i, z, hi, hz, hsz, hby, hzs⟩ := eiInt.ex
    obtain ⟨w2, hr, ho1, hg⟩ := run_make_own (P := Try.prog) w' 0 29 3 i z 1 eiInt.ht hi hz hsz .i64 .i64 p.lots.length (by rw [hby]; omega) (by unfold maxLen; omega) (Nat.zero_le _)
    exact ⟨w2, hr, ho1, Ex.of_grown hg⟩ : ∃ w2, (Instr.makeSlice 29 (.int .i64 ((0 : Nat) : Int)) (.int .i64 (p.lots.length : Int))).run Try.prog w' = .ok (.slice (some ⟨w'.heap.size, 0, none⟩) 0 p.lots.length) w2 ∧ Own 3 1 intCells 0 w2 (.slice (some ⟨w'.heap.size, 0, none⟩) 0 p.lots.length) ([] : List Int) ∧ Ex [] w' w2))
  have hmr : ∀ w', (Instr.makeSlice 29 (.int .i64 0) (.int .i64 (p.lots.length : Int))).run Try.prog w' = .ok (.slice (some ⟨w'.heap.size, 0, none⟩) 0 p.lots.length) (mk w') := fun w' => (hmk w').1
  have hmO := fun w' => (hmk w').2.1
  have hmO2 : ∀ w' g, g = w'.heap.size → Own 3 1 intCells 0 (mk w') (.slice (some ⟨g, 0, none⟩) 0 p.lots.length) ([] : List Int) := fun w' g e => e ▸ hmO w'
  have hmE : ∀ w', Ex [] W w' → Ex [] W (mk w') := fun w' h => h.trans (hmk w').2.2
  clear hmk
  have t0 := cellE (S := SB) hTW hTB 0 rfl
  have t1 := cellE (S := SB) hTW hTB 1 rfl
  have t2 := cellE (S := SB) hTW hTB 2 rfl
  have t3 := cellE (S := SB) hTW hTB 3 rfl
  have t4 := cellE (S := SB) hTW hTB 4 rfl
  have t5 := cellE (S := SB) hTW hTB 5 rfl
  have t6 := cellE (S := SB) hTW hTB 6 rfl
  have t7 := cellE (S := SB) hTW hTB 7 rfl
  have t8 := cellE (S := SB) hTW hTB 8 rfl
  have t9 := cellE (S := SB) hTW hTB 9 rfl
  have ee := cellE (S := SB) hBe (fun hm => absurd (hSBw _ hm) (by omega)) 0 rfl
  have hrW : Ex [] W W := Ex.refl _ _
  have hrS : Ex SB W W := Ex.refl _ _
  have hlb := hs.le; have hlb' := hs.big
  clear hTW hsW hs2W hT hs hs2 hBy hJ0 hJE hY hla hla2 hBe
  go_region_held3 (fun w' => Ex SB W w') (first | exact Ex.drew (by with_reducible assumption) | (with_reducible assumption) | exact (hmE _ (by first | (with_reducible assumption) | exact Ex.drew (by with_reducible assumption))).ex SB) (first | (go_at_call 58; refine (base_c p a cap _).mono ?_; rintro e w1 ⟨rfl, h1⟩; have hW1 : Ex [] W w1 := Ex.trans (by first | (with_reducible assumption) | exact Ex.drew hrW | exact hmE _ (by first | (with_reducible assumption) | exact Ex.drew hrW)) (h1.ex _); have hS1 : Ex SB W w1 := hW1.ex SB) | (go_at_call 94; refine (hx _ _ (by first | (with_reducible assumption) | exact Ex.drew hrW | exact hmE _ (by first | (with_reducible assumption) | exact Ex.drew hrW)) (Ex.size (S := []) (by first | (with_reducible assumption) | exact hrW)) (by first | exact hmO _ | exact (hmO2 W.drew _ (by simp)).ext (by assumption))).mono ?_; rintro e w6 ⟨rfl, hg6, hJ6, hS6⟩))
  all_goals go_wp2
  all_goals go_end0
  all_goals exact ⟨⟨_, rfl⟩, _, hg6, hJ6⟩
end Go.Proofs.Ytojnpaenpaobcaa
