/- A proof is accepted: its first node is a leaf. No condition. -/
import Derived.Test.YtojnpaenpaobcaaC16
import Derived.Test.YtojnpaenpaobcaaC13
namespace Go.Proofs.Ytojnpaenpaobcaa
open Go.RowKit
attribute [local irreducible] wpYield wpPlan

set_option maxRecDepth 100000 in
set_option maxHeartbeats 16000000 in
theorem accept_leaf_c (p : Recipe) (a : Option Addr) (cap : Nat) (a2 : Option Addr) (cap2 : Nat) (ones : List Mar) (hn : p.lots.length ≤ 1000) (ho : ones.length ≤ p.lots.length) (n : Nat) (la ha : Option Addr) (lc hc : Nat) (lows highs : List Int) (pa : Option Addr) (pc : Nat) (xl xa xr : Int) (rest : List Split) (w : World) (hs : Sl 8 Mar.cells w a2 cap2 ones) (hl : SlI w la lc lows) (hh : SlI w ha hc highs) (hp : Sl 3 Split.cells w pa pc (⟨xl, xa, xr⟩ :: rest)) (hel : Hid (lows.length = p.lots.length)) (heh : Hid (highs.length = p.lots.length)) (hbl : (xl == -1) = true) :
    Calls Try.prog 75 #[.agg #[.slice a p.lots.length cap, .int .i64 p.mass.lo, .int .i64 p.mass.hi, .int .i64 p.target.a.lo, .int .i64 p.target.a.hi, .int .i64 p.target.b.lo, .int .i64 p.target.b.hi, .int .i64 p.target.c.lo, .int .i64 p.target.c.hi, .slice a2 ones.length cap2], .agg #[.slice la lows.length lc, .slice ha highs.length hc], .slice pa (Split.mk xl xa xr :: rest).length pc] w (AcceptPost p ones (n + 1) lows highs (Split.mk xl xa xr :: rest) w) := by
  have hpl := hp.le; have hpb := hp.big
  obtain ⟨rr, hrun, hSr, hbr⟩ := hp.drop eiSplit 1 (by simp)
  simp only [List.drop_succ_cons, List.drop_zero] at hrun hSr
  obtain ⟨bp, offp, rfl, hbp, hpp⟩ := hp.cells (by simp)
  have s0 := hpp 0 (by simp) 0 _ rfl
  have s1 := hpp 0 (by simp) 1 _ rfl
  have s2 := hpp 0 (by simp) 2 _ rfl
  simp only [Nat.zero_mul, Nat.add_zero] at s0 s1 s2
  clear hpp hp hbr
  obtain ⟨L, hL, hL0⟩ : ∃ L, L = (Split.mk xl xa xr :: rest).length ∧ 0 < L := ⟨_, rfl, by simp⟩
  rw [← hL] at hrun hpl ⊢
  clear hL
  have hL1 : ¬ L = 0 := by omega
  have hL2 : ((L : Int) == 0) = false := by simp; omega
  have hrun1 : ∀ w', (Instr.sliceAt 53 (.slice (some ⟨bp, offp, none⟩) L pc) (some (.int .i64 1)) none none).run Try.prog w' = .ok (.slice rr rest.length (pc - 1)) w' := hrun
  have hrun2 : ∀ w', (Instr.slice 53 (.slice (some ⟨bp, offp, none⟩) L pc) (some (.int .i64 1)) none none).run Try.prog w' = .ok (.slice rr rest.length (pc - 1)) w' := fun w' => by
    rw [← run_sliceAt_slice w' 53 _ _ _ _ (by rfl)]; exact hrun1 w'
  clear hrun
  have hle1 := hl.le; have hgl := hl.big; have hle2 := hh.le; have hgh := hh.big
  go_enter Try.func75, Try.ntmps75
  go_upto_region 1 with (fail)
  refine wp_at (fun W => Ext w W ∧ w.heap.size + 2 = W.heap.size ∧ W.heap[w.heap.size]? = some (.cells #[.slice a p.lots.length cap, .int .i64 p.mass.lo, .int .i64 p.mass.hi, .int .i64 p.target.a.lo, .int .i64 p.target.a.hi, .int .i64 p.target.b.lo, .int .i64 p.target.b.hi, .int .i64 p.target.c.lo, .int .i64 p.target.c.hi, .slice a2 ones.length cap2] 119 (0, 0)) ∧ W.heap[w.heap.size + 1]? = some (.cells #[.slice la lows.length lc, .slice ha highs.length hc] 128 (0, 0))) ⟨by (repeat (with_reducible first | exact Ex.refl _ _ | assumption | exact Ex.mono (by assumption) (by simp; done) | refine Ex.alloc ?_ _ | refine Ex.drew ?_ | refine Ex.drewN ?_ _ | refine Ex.setCell ?_ (by first | (left; simp; done) | (right; simp; done) | (right; simp; omega)) _ | refine Ex.trans ?_ (by assumption))), by simp, blk_alloc (blk_new _ _), by have h := blk_new ((w).alloc (.cells #[.slice a p.lots.length cap, .int .i64 p.mass.lo, .int .i64 p.mass.hi, .int .i64 p.target.a.lo, .int .i64 p.target.a.hi, .int .i64 p.target.b.lo, .int .i64 p.target.b.hi, .int .i64 p.target.c.lo, .int .i64 p.target.c.hi, .slice a2 ones.length cap2] 119 (0, 0))) (.cells #[.slice la lows.length lc, .slice ha highs.length hc] 128 (0, 0)); simpa using h⟩ (fun W hW => ?_)
  obtain ⟨hr0, hsz, hB0, hB1⟩ := hW
  have hr : Ex [] W W := Ex.refl _ _
  have f0_0 := cellE (S := []) hB0 (by first | (simp; done) | (simp; omega)) 0 rfl
  have f0_1 := cellE (S := []) hB0 (by first | (simp; done) | (simp; omega)) 1 rfl
  have f0_2 := cellE (S := []) hB0 (by first | (simp; done) | (simp; omega)) 2 rfl
  have f0_3 := cellE (S := []) hB0 (by first | (simp; done) | (simp; omega)) 3 rfl
  have f0_4 := cellE (S := []) hB0 (by first | (simp; done) | (simp; omega)) 4 rfl
  have f0_5 := cellE (S := []) hB0 (by first | (simp; done) | (simp; omega)) 5 rfl
  have f0_6 := cellE (S := []) hB0 (by first | (simp; done) | (simp; omega)) 6 rfl
  have f0_7 := cellE (S := []) hB0 (by first | (simp; done) | (simp; omega)) 7 rfl
  have f0_8 := cellE (S := []) hB0 (by first | (simp; done) | (simp; omega)) 8 rfl
  have f0_9 := cellE (S := []) hB0 (by first | (simp; done) | (simp; omega)) 9 rfl
  have f1_0 := cellE (S := []) hB1 (by first | (simp; done) | (simp; omega)) 0 rfl
  have f1_1 := cellE (S := []) hB1 (by first | (simp; done) | (simp; omega)) 1 rfl
  clear hB0 hB1
  have hsz' := Nat.le_of_eq hsz.symm; have hsz'' := Nat.le_of_eq hsz; clear hsz
  replace s0 := fun w' (h : Ex [] W w') => (hr0.trans h).cell (by simp) s0
  replace s1 := fun w' (h : Ex [] W w') => (hr0.trans h).cell (by simp) s1
  replace s2 := fun w' (h : Ex [] W w') => (hr0.trans h).cell (by simp) s2
  go_upto_region 3 with fail
  refine region_plan (fun w' => Ex [] W w') [.pu [0, 1, 3, 4], .st [2], .mv 5, .tl [6], .pu [7]] (by kernel_rfl) (by kernel_rfl) (Ex.drew (by first | (with_reducible assumption) | (repeat (with_reducible first | exact Ex.refl _ _ | assumption | exact Ex.mono (by assumption) (by simp; done) | refine Ex.alloc ?_ _ | refine Ex.drew ?_ | refine Ex.drewN ?_ _ | refine Ex.setCell ?_ (by first | (left; simp; done) | (right; simp; done) | (right; simp; omega)) _ | refine Ex.trans ?_ (by assumption))))) ?_
  refine plan_pu (fun K hK => ?_)
  simp only [pick, List.drop_succ_cons, List.drop_zero, List.take_succ_cons, List.take_zero, List.cons_append, List.nil_append]
  iterate 4 (first | (refine wpYield_want ?_ (by rfl) (fun w' hS' => ?_) ?_; rotate_left; ((try dsimp only at hS'); go_simp; try with_reducible rfl); simp only [Act.put, List.setIfInBounds_toArray, List.set_cons_zero, List.set_cons_succ]) | (refine wpYield_skip (by rfl) ?_; simp only [Act.put, List.setIfInBounds_toArray, List.set_cons_zero, List.set_cons_succ]))
  refine wpYield_nil (hK _ ?_)
  clear hK K
  refine plan_st (fun K hK => ?_)
  simp only [pick, List.drop_succ_cons, List.drop_zero, List.take_succ_cons, List.take_zero, List.cons_append, List.nil_append]
  iterate 1 (first | (refine wpYield_want ?_ (by rfl) (fun w' hS' => ?_) ?_; rotate_left; ((try dsimp only at hS'); go_simp; try with_reducible rfl); simp only [Act.put, List.setIfInBounds_toArray, List.set_cons_zero, List.set_cons_succ]) | (refine wpYield_skip (by rfl) ?_; simp only [Act.put, List.setIfInBounds_toArray, List.set_cons_zero, List.set_cons_succ]))
  refine wpYield_nil (hK _ ?_)
  clear hK K
  refine plan_mv (fun K hK => ?_)
  simp only [pick, List.drop_succ_cons, List.drop_zero, List.take_succ_cons, List.take_zero, List.cons_append, List.nil_append]
  go_wp2_with fail
  first | refine hK _ _ (by first | (with_reducible assumption) | (repeat (with_reducible first | exact Ex.refl _ _ | assumption | exact Ex.mono (by assumption) (by simp; done) | refine Ex.alloc ?_ _ | refine Ex.drew ?_ | refine Ex.drewN ?_ _ | refine Ex.setCell ?_ (by first | (left; simp; done) | (right; simp; done) | (right; simp; omega)) _ | refine Ex.trans ?_ (by assumption)))) ?_ | refine ⟨rfl, hK _ _ (by first | (with_reducible assumption) | (repeat (with_reducible first | exact Ex.refl _ _ | assumption | exact Ex.mono (by assumption) (by simp; done) | refine Ex.alloc ?_ _ | refine Ex.drew ?_ | refine Ex.drewN ?_ _ | refine Ex.setCell ?_ (by first | (left; simp; done) | (right; simp; done) | (right; simp; omega)) _ | refine Ex.trans ?_ (by assumption)))) ?_⟩
  clear hK K
  refine plan_tl (fun K hK => ?_)
  simp only [pick, List.drop_succ_cons, List.drop_zero, List.take_succ_cons, List.take_zero, List.cons_append, List.nil_append]
  go_wp2_with fail
  try refine ⟨rfl, hK _ _ ?_⟩
  try clear hK K
  refine plan_pu (fun K hK => ?_)
  simp only [pick, List.drop_succ_cons, List.drop_zero, List.take_succ_cons, List.take_zero, List.cons_append, List.nil_append]
  iterate 1 (first | (refine wpYield_want ?_ (by rfl) (fun w' hS' => ?_) ?_; rotate_left; ((try dsimp only at hS'); go_simp; try with_reducible rfl); simp only [Act.put, List.setIfInBounds_toArray, List.set_cons_zero, List.set_cons_succ]) | (refine wpYield_skip (by rfl) ?_; simp only [Act.put, List.setIfInBounds_toArray, List.set_cons_zero, List.set_cons_succ]))
  refine wpYield_nil (hK _ ?_)
  clear hK K
  refine plan_nil ?_
  go_upto_region 4 with fail
  refine wp_at (fun X => Ext W X ∧ X.heap[W.heap.size]? = some (.cells #[.int .i64 xl, .int .i64 xa, .int .i64 xr] 55 (0, 0))) ⟨by (repeat (with_reducible first | exact Ex.refl _ _ | assumption | exact Ex.mono (by assumption) (by simp; done) | refine Ex.alloc ?_ _ | refine Ex.drew ?_ | refine Ex.drewN ?_ _ | refine Ex.setCell ?_ (by first | (left; simp; done) | (right; simp; done) | (right; simp; omega)) _ | refine Ex.trans ?_ (by assumption))), by first | exact blk_new _ _ | (refine blk_to (blk_set (blk_set (blk_set (blk_new _ _) 0 _) 1 _) 2 _) ?_; kernel_rfl)⟩ (fun X hX => ?_)
  obtain ⟨hX, hC⟩ := hX
  clear s0 s1 s2 hrun1 hrun2
  replace f0_0 := fun w' (h : Ex [] X w') => f0_0 w' (hX.trans (h.mono (by simp)))
  replace f0_1 := fun w' (h : Ex [] X w') => f0_1 w' (hX.trans (h.mono (by simp)))
  replace f0_2 := fun w' (h : Ex [] X w') => f0_2 w' (hX.trans (h.mono (by simp)))
  replace f0_3 := fun w' (h : Ex [] X w') => f0_3 w' (hX.trans (h.mono (by simp)))
  replace f0_4 := fun w' (h : Ex [] X w') => f0_4 w' (hX.trans (h.mono (by simp)))
  replace f0_5 := fun w' (h : Ex [] X w') => f0_5 w' (hX.trans (h.mono (by simp)))
  replace f0_6 := fun w' (h : Ex [] X w') => f0_6 w' (hX.trans (h.mono (by simp)))
  replace f0_7 := fun w' (h : Ex [] X w') => f0_7 w' (hX.trans (h.mono (by simp)))
  replace f0_8 := fun w' (h : Ex [] X w') => f0_8 w' (hX.trans (h.mono (by simp)))
  replace f0_9 := fun w' (h : Ex [] X w') => f0_9 w' (hX.trans (h.mono (by simp)))
  replace f1_0 := fun w' (h : Ex [] X w') => f1_0 w' (hX.trans (h.mono (by simp)))
  replace f1_1 := fun w' (h : Ex [] X w') => f1_1 w' (hX.trans (h.mono (by simp)))
  have c_0 := cellE (S := []) hC (by first | (simp; done) | (simp; omega)) 0 rfl
  have c_1 := cellE (S := []) hC (by first | (simp; done) | (simp; omega)) 1 rfl
  have c_2 := cellE (S := []) hC (by first | (simp; done) | (simp; omega)) 2 rfl
  have hrX : Ex [] X X := Ex.refl _ _
  clear hC
  have hwX : Ext w X := hr0.trans hX
  cases hb0 : (xa == 0)
  case false =>
    try have hix := ixM (greatM p ones lows highs) xr (by assumption)
    go_wp2_with fail
    refine region_plan (fun w' => Ex [] X w') [.pu [0, 1], .st [2], .pu [3, 4, 5], .st [6], .mv 7, .pu [8, 9, 13], .st [10, 11, 14], .mv 12, .pu [15, 16, 17, 18, 19]] (by kernel_rfl) (by kernel_rfl) (Ex.drew (by first | (with_reducible assumption) | (repeat (with_reducible first | exact Ex.refl _ _ | assumption | exact Ex.mono (by assumption) (by simp; done) | refine Ex.alloc ?_ _ | refine Ex.drew ?_ | refine Ex.drewN ?_ _ | refine Ex.setCell ?_ (by first | (left; simp; done) | (right; simp; done) | (right; simp; omega)) _ | refine Ex.trans ?_ (by assumption))))) ?_
    refine plan_pu (fun K hK => ?_)
    simp only [pick, List.drop_succ_cons, List.drop_zero, List.take_succ_cons, List.take_zero, List.cons_append, List.nil_append]
    iterate 2 (first | (refine wpYield_want ?_ (by rfl) (fun w' hS' => ?_) ?_; rotate_left; ((try dsimp only at hS'); go_simp; try with_reducible rfl); simp only [Act.put, List.setIfInBounds_toArray, List.set_cons_zero, List.set_cons_succ]) | (refine wpYield_skip (by rfl) ?_; simp only [Act.put, List.setIfInBounds_toArray, List.set_cons_zero, List.set_cons_succ]))
    refine wpYield_nil (hK _ ?_)
    clear hK K
    refine plan_st (fun K hK => ?_)
    simp only [pick, List.drop_succ_cons, List.drop_zero, List.take_succ_cons, List.take_zero, List.cons_append, List.nil_append]
    iterate 1 (first | (refine wpYield_want ?_ (by rfl) (fun w' hS' => ?_) ?_; rotate_left; ((try dsimp only at hS'); go_simp; try with_reducible rfl); simp only [Act.put, List.setIfInBounds_toArray, List.set_cons_zero, List.set_cons_succ]) | (refine wpYield_skip (by rfl) ?_; simp only [Act.put, List.setIfInBounds_toArray, List.set_cons_zero, List.set_cons_succ]))
    refine wpYield_nil (hK _ ?_)
    clear hK K
    refine plan_pu (fun K hK => ?_)
    simp only [pick, List.drop_succ_cons, List.drop_zero, List.take_succ_cons, List.take_zero, List.cons_append, List.nil_append]
    iterate 3 (first | (refine wpYield_want ?_ (by rfl) (fun w' hS' => ?_) ?_; rotate_left; ((try dsimp only at hS'); go_simp; try with_reducible rfl); simp only [Act.put, List.setIfInBounds_toArray, List.set_cons_zero, List.set_cons_succ]) | (refine wpYield_skip (by rfl) ?_; simp only [Act.put, List.setIfInBounds_toArray, List.set_cons_zero, List.set_cons_succ]))
    refine wpYield_nil (hK _ ?_)
    clear hK K
    refine plan_st (fun K hK => ?_)
    simp only [pick, List.drop_succ_cons, List.drop_zero, List.take_succ_cons, List.take_zero, List.cons_append, List.nil_append]
    iterate 1 (first | (refine wpYield_want ?_ (by rfl) (fun w' hS' => ?_) ?_; rotate_left; ((try dsimp only at hS'); go_simp; try with_reducible rfl); simp only [Act.put, List.setIfInBounds_toArray, List.set_cons_zero, List.set_cons_succ]) | (refine wpYield_skip (by rfl) ?_; simp only [Act.put, List.setIfInBounds_toArray, List.set_cons_zero, List.set_cons_succ]))
    refine wpYield_nil (hK _ ?_)
    clear hK K
    refine plan_mv (fun K hK => ?_)
    simp only [pick, List.drop_succ_cons, List.drop_zero, List.take_succ_cons, List.take_zero, List.cons_append, List.nil_append]
    go_wp2_with (first | (go_at_call 88; refine (within_c xr 0 7 _).mono ?_; rintro e w1 ⟨rfl, h1⟩; replace h1 : Ex [] X w1 := Ex.trans (by first | (with_reducible assumption) | (repeat (with_reducible first | exact Ex.refl _ _ | assumption | exact Ex.mono (by assumption) (by simp; done) | refine Ex.alloc ?_ _ | refine Ex.drew ?_ | refine Ex.drewN ?_ _ | refine Ex.setCell ?_ (by first | (left; simp; done) | (right; simp; done) | (right; simp; omega)) _ | refine Ex.trans ?_ (by assumption)))) (h1.ex _)) | (go_at_call 95; refine (greatest_c p a cap a2 cap2 ones la ha lc hc lows highs _ (hs.ext (hwX.trans (by first | (with_reducible assumption) | (repeat (with_reducible first | exact Ex.refl _ _ | assumption | exact Ex.mono (by assumption) (by simp; done) | refine Ex.alloc ?_ _ | refine Ex.drew ?_ | refine Ex.drewN ?_ _ | refine Ex.setCell ?_ (by first | (left; simp; done) | (right; simp; done) | (right; simp; omega)) _ | refine Ex.trans ?_ (by assumption)))))) (hl.ext (hwX.trans (by first | (with_reducible assumption) | (repeat (with_reducible first | exact Ex.refl _ _ | assumption | exact Ex.mono (by assumption) (by simp; done) | refine Ex.alloc ?_ _ | refine Ex.drew ?_ | refine Ex.drewN ?_ _ | refine Ex.setCell ?_ (by first | (left; simp; done) | (right; simp; done) | (right; simp; omega)) _ | refine Ex.trans ?_ (by assumption)))))) (hh.ext (hwX.trans (by first | (with_reducible assumption) | (repeat (with_reducible first | exact Ex.refl _ _ | assumption | exact Ex.mono (by assumption) (by simp; done) | refine Ex.alloc ?_ _ | refine Ex.drew ?_ | refine Ex.drewN ?_ _ | refine Ex.setCell ?_ (by first | (left; simp; done) | (right; simp; done) | (right; simp; omega)) _ | refine Ex.trans ?_ (by assumption)))))) (by have := hel.out; omega) (by have := heh.out; omega)).mono ?_; rintro e w1 ⟨rfl, h1⟩; replace h1 : Ex [] X w1 := Ex.trans (by first | (with_reducible assumption) | (repeat (with_reducible first | exact Ex.refl _ _ | assumption | exact Ex.mono (by assumption) (by simp; done) | refine Ex.alloc ?_ _ | refine Ex.drew ?_ | refine Ex.drewN ?_ _ | refine Ex.setCell ?_ (by first | (left; simp; done) | (right; simp; done) | (right; simp; omega)) _ | refine Ex.trans ?_ (by assumption)))) (h1.ex _)))
    first | refine hK _ _ (by first | (with_reducible assumption) | (repeat (with_reducible first | exact Ex.refl _ _ | assumption | exact Ex.mono (by assumption) (by simp; done) | refine Ex.alloc ?_ _ | refine Ex.drew ?_ | refine Ex.drewN ?_ _ | refine Ex.setCell ?_ (by first | (left; simp; done) | (right; simp; done) | (right; simp; omega)) _ | refine Ex.trans ?_ (by assumption)))) ?_ | refine ⟨rfl, hK _ _ (by first | (with_reducible assumption) | (repeat (with_reducible first | exact Ex.refl _ _ | assumption | exact Ex.mono (by assumption) (by simp; done) | refine Ex.alloc ?_ _ | refine Ex.drew ?_ | refine Ex.drewN ?_ _ | refine Ex.setCell ?_ (by first | (left; simp; done) | (right; simp; done) | (right; simp; omega)) _ | refine Ex.trans ?_ (by assumption)))) ?_⟩
    clear hK K
    refine plan_pu (fun K hK => ?_)
    simp only [pick, List.drop_succ_cons, List.drop_zero, List.take_succ_cons, List.take_zero, List.cons_append, List.nil_append]
    iterate 3 (first | (refine wpYield_want ?_ (by rfl) (fun w' hS' => ?_) ?_; rotate_left; ((try dsimp only at hS'); go_simp; try with_reducible rfl); simp only [Act.put, List.setIfInBounds_toArray, List.set_cons_zero, List.set_cons_succ]) | (refine wpYield_skip (by rfl) ?_; simp only [Act.put, List.setIfInBounds_toArray, List.set_cons_zero, List.set_cons_succ]))
    refine wpYield_nil (hK _ ?_)
    clear hK K
    refine plan_st (fun K hK => ?_)
    simp only [pick, List.drop_succ_cons, List.drop_zero, List.take_succ_cons, List.take_zero, List.cons_append, List.nil_append]
    iterate 3 (first | (refine wpYield_want ?_ (by rfl) (fun w' hS' => ?_) ?_; rotate_left; ((try dsimp only at hS'); go_simp; try with_reducible rfl); simp only [Act.put, List.setIfInBounds_toArray, List.set_cons_zero, List.set_cons_succ]) | (refine wpYield_skip (by rfl) ?_; simp only [Act.put, List.setIfInBounds_toArray, List.set_cons_zero, List.set_cons_succ]))
    refine wpYield_nil (hK _ ?_)
    clear hK K
    refine plan_mv (fun K hK => ?_)
    simp only [pick, List.drop_succ_cons, List.drop_zero, List.take_succ_cons, List.take_zero, List.cons_append, List.nil_append]
    go_wp2_with (first | (go_at_call 88; refine (within_c xr 0 7 _).mono ?_; rintro e w1 ⟨rfl, h1⟩; replace h1 : Ex [] X w1 := Ex.trans (by first | (with_reducible assumption) | (repeat (with_reducible first | exact Ex.refl _ _ | assumption | exact Ex.mono (by assumption) (by simp; done) | refine Ex.alloc ?_ _ | refine Ex.drew ?_ | refine Ex.drewN ?_ _ | refine Ex.setCell ?_ (by first | (left; simp; done) | (right; simp; done) | (right; simp; omega)) _ | refine Ex.trans ?_ (by assumption)))) (h1.ex _)) | (go_at_call 95; refine (greatest_c p a cap a2 cap2 ones la ha lc hc lows highs _ (hs.ext (hwX.trans (by first | (with_reducible assumption) | (repeat (with_reducible first | exact Ex.refl _ _ | assumption | exact Ex.mono (by assumption) (by simp; done) | refine Ex.alloc ?_ _ | refine Ex.drew ?_ | refine Ex.drewN ?_ _ | refine Ex.setCell ?_ (by first | (left; simp; done) | (right; simp; done) | (right; simp; omega)) _ | refine Ex.trans ?_ (by assumption)))))) (hl.ext (hwX.trans (by first | (with_reducible assumption) | (repeat (with_reducible first | exact Ex.refl _ _ | assumption | exact Ex.mono (by assumption) (by simp; done) | refine Ex.alloc ?_ _ | refine Ex.drew ?_ | refine Ex.drewN ?_ _ | refine Ex.setCell ?_ (by first | (left; simp; done) | (right; simp; done) | (right; simp; omega)) _ | refine Ex.trans ?_ (by assumption)))))) (hh.ext (hwX.trans (by first | (with_reducible assumption) | (repeat (with_reducible first | exact Ex.refl _ _ | assumption | exact Ex.mono (by assumption) (by simp; done) | refine Ex.alloc ?_ _ | refine Ex.drew ?_ | refine Ex.drewN ?_ _ | refine Ex.setCell ?_ (by first | (left; simp; done) | (right; simp; done) | (right; simp; omega)) _ | refine Ex.trans ?_ (by assumption)))))) (by have := hel.out; omega) (by have := heh.out; omega)).mono ?_; rintro e w1 ⟨rfl, h1⟩; replace h1 : Ex [] X w1 := Ex.trans (by first | (with_reducible assumption) | (repeat (with_reducible first | exact Ex.refl _ _ | assumption | exact Ex.mono (by assumption) (by simp; done) | refine Ex.alloc ?_ _ | refine Ex.drew ?_ | refine Ex.drewN ?_ _ | refine Ex.setCell ?_ (by first | (left; simp; done) | (right; simp; done) | (right; simp; omega)) _ | refine Ex.trans ?_ (by assumption)))) (h1.ex _)))
    first | refine hK _ _ (by first | (with_reducible assumption) | (repeat (with_reducible first | exact Ex.refl _ _ | assumption | exact Ex.mono (by assumption) (by simp; done) | refine Ex.alloc ?_ _ | refine Ex.drew ?_ | refine Ex.drewN ?_ _ | refine Ex.setCell ?_ (by first | (left; simp; done) | (right; simp; done) | (right; simp; omega)) _ | refine Ex.trans ?_ (by assumption)))) ?_ | refine ⟨rfl, hK _ _ (by first | (with_reducible assumption) | (repeat (with_reducible first | exact Ex.refl _ _ | assumption | exact Ex.mono (by assumption) (by simp; done) | refine Ex.alloc ?_ _ | refine Ex.drew ?_ | refine Ex.drewN ?_ _ | refine Ex.setCell ?_ (by first | (left; simp; done) | (right; simp; done) | (right; simp; omega)) _ | refine Ex.trans ?_ (by assumption)))) ?_⟩
    clear hK K
    refine plan_pu (fun K hK => ?_)
    simp only [pick, List.drop_succ_cons, List.drop_zero, List.take_succ_cons, List.take_zero, List.cons_append, List.nil_append]
    iterate 5 (first | (refine wpYield_want ?_ (by rfl) (fun w' hS' => ?_) ?_; rotate_left; ((try dsimp only at hS'); go_simp; try with_reducible rfl); simp only [Act.put, List.setIfInBounds_toArray, List.set_cons_zero, List.set_cons_succ]) | (refine wpYield_skip (by rfl) ?_; simp only [Act.put, List.setIfInBounds_toArray, List.set_cons_zero, List.set_cons_succ]))
    refine wpYield_nil (hK _ ?_)
    clear hK K
    refine plan_nil ?_
    try simp only [hb0]
    go_wp2_with fail
    go_returns
    refine ⟨rr, pc - 1, by simp [acceptM, hbl, hb0], ?_, ?_⟩
    · rw [show (acceptM p ones (n + 1) lows highs (⟨xl, xa, xr⟩ :: rest)).1 = rest from by simp [acceptM, hbl, hb0]]
      refine hSr.ext (hwX.trans ?_)
      (repeat (with_reducible first | exact Ex.refl _ _ | assumption | exact Ex.mono (by assumption) (by simp; done) | refine Ex.alloc ?_ _ | refine Ex.drew ?_ | refine Ex.drewN ?_ _ | refine Ex.setCell ?_ (by first | (left; simp; done) | (right; simp; done) | (right; simp; omega)) _ | refine Ex.trans ?_ (by assumption)))
    · refine hwX.trans ?_
      (repeat (with_reducible first | exact Ex.refl _ _ | assumption | exact Ex.mono (by assumption) (by simp; done) | refine Ex.alloc ?_ _ | refine Ex.drew ?_ | refine Ex.drewN ?_ _ | refine Ex.setCell ?_ (by first | (left; simp; done) | (right; simp; done) | (right; simp; omega)) _ | refine Ex.trans ?_ (by assumption)))
  case true =>
    cases hb1 : withinB xr 0 7
    case false =>
      try have hix := ixM (greatM p ones lows highs) xr (by assumption)
      go_wp2_with fail
      refine region_plan (fun w' => Ex [] X w') [.pu [0, 1], .st [2], .pu [3, 4, 5], .st [6], .mv 7, .pu [8, 9, 13], .st [10, 11, 14], .mv 12, .pu [15, 16, 17, 18, 19]] (by kernel_rfl) (by kernel_rfl) (Ex.drew (by first | (with_reducible assumption) | (repeat (with_reducible first | exact Ex.refl _ _ | assumption | exact Ex.mono (by assumption) (by simp; done) | refine Ex.alloc ?_ _ | refine Ex.drew ?_ | refine Ex.drewN ?_ _ | refine Ex.setCell ?_ (by first | (left; simp; done) | (right; simp; done) | (right; simp; omega)) _ | refine Ex.trans ?_ (by assumption))))) ?_
      refine plan_pu (fun K hK => ?_)
      simp only [pick, List.drop_succ_cons, List.drop_zero, List.take_succ_cons, List.take_zero, List.cons_append, List.nil_append]
      iterate 2 (first | (refine wpYield_want ?_ (by rfl) (fun w' hS' => ?_) ?_; rotate_left; ((try dsimp only at hS'); go_simp; try with_reducible rfl); simp only [Act.put, List.setIfInBounds_toArray, List.set_cons_zero, List.set_cons_succ]) | (refine wpYield_skip (by rfl) ?_; simp only [Act.put, List.setIfInBounds_toArray, List.set_cons_zero, List.set_cons_succ]))
      refine wpYield_nil (hK _ ?_)
      clear hK K
      refine plan_st (fun K hK => ?_)
      simp only [pick, List.drop_succ_cons, List.drop_zero, List.take_succ_cons, List.take_zero, List.cons_append, List.nil_append]
      iterate 1 (first | (refine wpYield_want ?_ (by rfl) (fun w' hS' => ?_) ?_; rotate_left; ((try dsimp only at hS'); go_simp; try with_reducible rfl); simp only [Act.put, List.setIfInBounds_toArray, List.set_cons_zero, List.set_cons_succ]) | (refine wpYield_skip (by rfl) ?_; simp only [Act.put, List.setIfInBounds_toArray, List.set_cons_zero, List.set_cons_succ]))
      refine wpYield_nil (hK _ ?_)
      clear hK K
      refine plan_pu (fun K hK => ?_)
      simp only [pick, List.drop_succ_cons, List.drop_zero, List.take_succ_cons, List.take_zero, List.cons_append, List.nil_append]
      iterate 3 (first | (refine wpYield_want ?_ (by rfl) (fun w' hS' => ?_) ?_; rotate_left; ((try dsimp only at hS'); go_simp; try with_reducible rfl); simp only [Act.put, List.setIfInBounds_toArray, List.set_cons_zero, List.set_cons_succ]) | (refine wpYield_skip (by rfl) ?_; simp only [Act.put, List.setIfInBounds_toArray, List.set_cons_zero, List.set_cons_succ]))
      refine wpYield_nil (hK _ ?_)
      clear hK K
      refine plan_st (fun K hK => ?_)
      simp only [pick, List.drop_succ_cons, List.drop_zero, List.take_succ_cons, List.take_zero, List.cons_append, List.nil_append]
      iterate 1 (first | (refine wpYield_want ?_ (by rfl) (fun w' hS' => ?_) ?_; rotate_left; ((try dsimp only at hS'); go_simp; try with_reducible rfl); simp only [Act.put, List.setIfInBounds_toArray, List.set_cons_zero, List.set_cons_succ]) | (refine wpYield_skip (by rfl) ?_; simp only [Act.put, List.setIfInBounds_toArray, List.set_cons_zero, List.set_cons_succ]))
      refine wpYield_nil (hK _ ?_)
      clear hK K
      refine plan_mv (fun K hK => ?_)
      simp only [pick, List.drop_succ_cons, List.drop_zero, List.take_succ_cons, List.take_zero, List.cons_append, List.nil_append]
      go_wp2_with (first | (go_at_call 88; refine (within_c xr 0 7 _).mono ?_; rintro e w1 ⟨rfl, h1⟩; replace h1 : Ex [] X w1 := Ex.trans (by first | (with_reducible assumption) | (repeat (with_reducible first | exact Ex.refl _ _ | assumption | exact Ex.mono (by assumption) (by simp; done) | refine Ex.alloc ?_ _ | refine Ex.drew ?_ | refine Ex.drewN ?_ _ | refine Ex.setCell ?_ (by first | (left; simp; done) | (right; simp; done) | (right; simp; omega)) _ | refine Ex.trans ?_ (by assumption)))) (h1.ex _)) | (go_at_call 95; refine (greatest_c p a cap a2 cap2 ones la ha lc hc lows highs _ (hs.ext (hwX.trans (by first | (with_reducible assumption) | (repeat (with_reducible first | exact Ex.refl _ _ | assumption | exact Ex.mono (by assumption) (by simp; done) | refine Ex.alloc ?_ _ | refine Ex.drew ?_ | refine Ex.drewN ?_ _ | refine Ex.setCell ?_ (by first | (left; simp; done) | (right; simp; done) | (right; simp; omega)) _ | refine Ex.trans ?_ (by assumption)))))) (hl.ext (hwX.trans (by first | (with_reducible assumption) | (repeat (with_reducible first | exact Ex.refl _ _ | assumption | exact Ex.mono (by assumption) (by simp; done) | refine Ex.alloc ?_ _ | refine Ex.drew ?_ | refine Ex.drewN ?_ _ | refine Ex.setCell ?_ (by first | (left; simp; done) | (right; simp; done) | (right; simp; omega)) _ | refine Ex.trans ?_ (by assumption)))))) (hh.ext (hwX.trans (by first | (with_reducible assumption) | (repeat (with_reducible first | exact Ex.refl _ _ | assumption | exact Ex.mono (by assumption) (by simp; done) | refine Ex.alloc ?_ _ | refine Ex.drew ?_ | refine Ex.drewN ?_ _ | refine Ex.setCell ?_ (by first | (left; simp; done) | (right; simp; done) | (right; simp; omega)) _ | refine Ex.trans ?_ (by assumption)))))) (by have := hel.out; omega) (by have := heh.out; omega)).mono ?_; rintro e w1 ⟨rfl, h1⟩; replace h1 : Ex [] X w1 := Ex.trans (by first | (with_reducible assumption) | (repeat (with_reducible first | exact Ex.refl _ _ | assumption | exact Ex.mono (by assumption) (by simp; done) | refine Ex.alloc ?_ _ | refine Ex.drew ?_ | refine Ex.drewN ?_ _ | refine Ex.setCell ?_ (by first | (left; simp; done) | (right; simp; done) | (right; simp; omega)) _ | refine Ex.trans ?_ (by assumption)))) (h1.ex _)))
      first | refine hK _ _ (by first | (with_reducible assumption) | (repeat (with_reducible first | exact Ex.refl _ _ | assumption | exact Ex.mono (by assumption) (by simp; done) | refine Ex.alloc ?_ _ | refine Ex.drew ?_ | refine Ex.drewN ?_ _ | refine Ex.setCell ?_ (by first | (left; simp; done) | (right; simp; done) | (right; simp; omega)) _ | refine Ex.trans ?_ (by assumption)))) ?_ | refine ⟨rfl, hK _ _ (by first | (with_reducible assumption) | (repeat (with_reducible first | exact Ex.refl _ _ | assumption | exact Ex.mono (by assumption) (by simp; done) | refine Ex.alloc ?_ _ | refine Ex.drew ?_ | refine Ex.drewN ?_ _ | refine Ex.setCell ?_ (by first | (left; simp; done) | (right; simp; done) | (right; simp; omega)) _ | refine Ex.trans ?_ (by assumption)))) ?_⟩
      clear hK K
      refine plan_pu (fun K hK => ?_)
      simp only [pick, List.drop_succ_cons, List.drop_zero, List.take_succ_cons, List.take_zero, List.cons_append, List.nil_append]
      iterate 3 (first | (refine wpYield_want ?_ (by rfl) (fun w' hS' => ?_) ?_; rotate_left; ((try dsimp only at hS'); go_simp; try with_reducible rfl); simp only [Act.put, List.setIfInBounds_toArray, List.set_cons_zero, List.set_cons_succ]) | (refine wpYield_skip (by rfl) ?_; simp only [Act.put, List.setIfInBounds_toArray, List.set_cons_zero, List.set_cons_succ]))
      refine wpYield_nil (hK _ ?_)
      clear hK K
      refine plan_st (fun K hK => ?_)
      simp only [pick, List.drop_succ_cons, List.drop_zero, List.take_succ_cons, List.take_zero, List.cons_append, List.nil_append]
      iterate 3 (first | (refine wpYield_want ?_ (by rfl) (fun w' hS' => ?_) ?_; rotate_left; ((try dsimp only at hS'); go_simp; try with_reducible rfl); simp only [Act.put, List.setIfInBounds_toArray, List.set_cons_zero, List.set_cons_succ]) | (refine wpYield_skip (by rfl) ?_; simp only [Act.put, List.setIfInBounds_toArray, List.set_cons_zero, List.set_cons_succ]))
      refine wpYield_nil (hK _ ?_)
      clear hK K
      refine plan_mv (fun K hK => ?_)
      simp only [pick, List.drop_succ_cons, List.drop_zero, List.take_succ_cons, List.take_zero, List.cons_append, List.nil_append]
      go_wp2_with (first | (go_at_call 88; refine (within_c xr 0 7 _).mono ?_; rintro e w1 ⟨rfl, h1⟩; replace h1 : Ex [] X w1 := Ex.trans (by first | (with_reducible assumption) | (repeat (with_reducible first | exact Ex.refl _ _ | assumption | exact Ex.mono (by assumption) (by simp; done) | refine Ex.alloc ?_ _ | refine Ex.drew ?_ | refine Ex.drewN ?_ _ | refine Ex.setCell ?_ (by first | (left; simp; done) | (right; simp; done) | (right; simp; omega)) _ | refine Ex.trans ?_ (by assumption)))) (h1.ex _)) | (go_at_call 95; refine (greatest_c p a cap a2 cap2 ones la ha lc hc lows highs _ (hs.ext (hwX.trans (by first | (with_reducible assumption) | (repeat (with_reducible first | exact Ex.refl _ _ | assumption | exact Ex.mono (by assumption) (by simp; done) | refine Ex.alloc ?_ _ | refine Ex.drew ?_ | refine Ex.drewN ?_ _ | refine Ex.setCell ?_ (by first | (left; simp; done) | (right; simp; done) | (right; simp; omega)) _ | refine Ex.trans ?_ (by assumption)))))) (hl.ext (hwX.trans (by first | (with_reducible assumption) | (repeat (with_reducible first | exact Ex.refl _ _ | assumption | exact Ex.mono (by assumption) (by simp; done) | refine Ex.alloc ?_ _ | refine Ex.drew ?_ | refine Ex.drewN ?_ _ | refine Ex.setCell ?_ (by first | (left; simp; done) | (right; simp; done) | (right; simp; omega)) _ | refine Ex.trans ?_ (by assumption)))))) (hh.ext (hwX.trans (by first | (with_reducible assumption) | (repeat (with_reducible first | exact Ex.refl _ _ | assumption | exact Ex.mono (by assumption) (by simp; done) | refine Ex.alloc ?_ _ | refine Ex.drew ?_ | refine Ex.drewN ?_ _ | refine Ex.setCell ?_ (by first | (left; simp; done) | (right; simp; done) | (right; simp; omega)) _ | refine Ex.trans ?_ (by assumption)))))) (by have := hel.out; omega) (by have := heh.out; omega)).mono ?_; rintro e w1 ⟨rfl, h1⟩; replace h1 : Ex [] X w1 := Ex.trans (by first | (with_reducible assumption) | (repeat (with_reducible first | exact Ex.refl _ _ | assumption | exact Ex.mono (by assumption) (by simp; done) | refine Ex.alloc ?_ _ | refine Ex.drew ?_ | refine Ex.drewN ?_ _ | refine Ex.setCell ?_ (by first | (left; simp; done) | (right; simp; done) | (right; simp; omega)) _ | refine Ex.trans ?_ (by assumption)))) (h1.ex _)))
      first | refine hK _ _ (by first | (with_reducible assumption) | (repeat (with_reducible first | exact Ex.refl _ _ | assumption | exact Ex.mono (by assumption) (by simp; done) | refine Ex.alloc ?_ _ | refine Ex.drew ?_ | refine Ex.drewN ?_ _ | refine Ex.setCell ?_ (by first | (left; simp; done) | (right; simp; done) | (right; simp; omega)) _ | refine Ex.trans ?_ (by assumption)))) ?_ | refine ⟨rfl, hK _ _ (by first | (with_reducible assumption) | (repeat (with_reducible first | exact Ex.refl _ _ | assumption | exact Ex.mono (by assumption) (by simp; done) | refine Ex.alloc ?_ _ | refine Ex.drew ?_ | refine Ex.drewN ?_ _ | refine Ex.setCell ?_ (by first | (left; simp; done) | (right; simp; done) | (right; simp; omega)) _ | refine Ex.trans ?_ (by assumption)))) ?_⟩
      clear hK K
      refine plan_pu (fun K hK => ?_)
      simp only [pick, List.drop_succ_cons, List.drop_zero, List.take_succ_cons, List.take_zero, List.cons_append, List.nil_append]
      iterate 5 (first | (refine wpYield_want ?_ (by rfl) (fun w' hS' => ?_) ?_; rotate_left; ((try dsimp only at hS'); go_simp; try with_reducible rfl); simp only [Act.put, List.setIfInBounds_toArray, List.set_cons_zero, List.set_cons_succ]) | (refine wpYield_skip (by rfl) ?_; simp only [Act.put, List.setIfInBounds_toArray, List.set_cons_zero, List.set_cons_succ]))
      refine wpYield_nil (hK _ ?_)
      clear hK K
      refine plan_nil ?_
      try simp only [hb0, hb1]
      go_wp2_with fail
      go_returns
      refine ⟨rr, pc - 1, by simp [acceptM, hbl, hb0, hb1], ?_, ?_⟩
      · rw [show (acceptM p ones (n + 1) lows highs (⟨xl, xa, xr⟩ :: rest)).1 = rest from by simp [acceptM, hbl, hb0, hb1]]
        refine hSr.ext (hwX.trans ?_)
        (repeat (with_reducible first | exact Ex.refl _ _ | assumption | exact Ex.mono (by assumption) (by simp; done) | refine Ex.alloc ?_ _ | refine Ex.drew ?_ | refine Ex.drewN ?_ _ | refine Ex.setCell ?_ (by first | (left; simp; done) | (right; simp; done) | (right; simp; omega)) _ | refine Ex.trans ?_ (by assumption)))
      · refine hwX.trans ?_
        (repeat (with_reducible first | exact Ex.refl _ _ | assumption | exact Ex.mono (by assumption) (by simp; done) | refine Ex.alloc ?_ _ | refine Ex.drew ?_ | refine Ex.drewN ?_ _ | refine Ex.setCell ?_ (by first | (left; simp; done) | (right; simp; done) | (right; simp; omega)) _ | refine Ex.trans ?_ (by assumption)))
    case true =>
      cases hb2 : decide ((greatM p ones lows highs).at' xr < 0)
      case false =>
        try have hix := ixM (greatM p ones lows highs) xr (by assumption)
        go_wp2_with fail
        refine region_plan (fun w' => Ex [] X w') [.pu [0, 1], .st [2], .pu [3, 4, 5], .st [6], .mv 7, .pu [8, 9, 13], .st [10, 11, 14], .mv 12, .pu [15, 16, 17, 18, 19]] (by kernel_rfl) (by kernel_rfl) (Ex.drew (by first | (with_reducible assumption) | (repeat (with_reducible first | exact Ex.refl _ _ | assumption | exact Ex.mono (by assumption) (by simp; done) | refine Ex.alloc ?_ _ | refine Ex.drew ?_ | refine Ex.drewN ?_ _ | refine Ex.setCell ?_ (by first | (left; simp; done) | (right; simp; done) | (right; simp; omega)) _ | refine Ex.trans ?_ (by assumption))))) ?_
        refine plan_pu (fun K hK => ?_)
        simp only [pick, List.drop_succ_cons, List.drop_zero, List.take_succ_cons, List.take_zero, List.cons_append, List.nil_append]
        iterate 2 (first | (refine wpYield_want ?_ (by rfl) (fun w' hS' => ?_) ?_; rotate_left; ((try dsimp only at hS'); go_simp; try with_reducible rfl); simp only [Act.put, List.setIfInBounds_toArray, List.set_cons_zero, List.set_cons_succ]) | (refine wpYield_skip (by rfl) ?_; simp only [Act.put, List.setIfInBounds_toArray, List.set_cons_zero, List.set_cons_succ]))
        refine wpYield_nil (hK _ ?_)
        clear hK K
        refine plan_st (fun K hK => ?_)
        simp only [pick, List.drop_succ_cons, List.drop_zero, List.take_succ_cons, List.take_zero, List.cons_append, List.nil_append]
        iterate 1 (first | (refine wpYield_want ?_ (by rfl) (fun w' hS' => ?_) ?_; rotate_left; ((try dsimp only at hS'); go_simp; try with_reducible rfl); simp only [Act.put, List.setIfInBounds_toArray, List.set_cons_zero, List.set_cons_succ]) | (refine wpYield_skip (by rfl) ?_; simp only [Act.put, List.setIfInBounds_toArray, List.set_cons_zero, List.set_cons_succ]))
        refine wpYield_nil (hK _ ?_)
        clear hK K
        refine plan_pu (fun K hK => ?_)
        simp only [pick, List.drop_succ_cons, List.drop_zero, List.take_succ_cons, List.take_zero, List.cons_append, List.nil_append]
        iterate 3 (first | (refine wpYield_want ?_ (by rfl) (fun w' hS' => ?_) ?_; rotate_left; ((try dsimp only at hS'); go_simp; try with_reducible rfl); simp only [Act.put, List.setIfInBounds_toArray, List.set_cons_zero, List.set_cons_succ]) | (refine wpYield_skip (by rfl) ?_; simp only [Act.put, List.setIfInBounds_toArray, List.set_cons_zero, List.set_cons_succ]))
        refine wpYield_nil (hK _ ?_)
        clear hK K
        refine plan_st (fun K hK => ?_)
        simp only [pick, List.drop_succ_cons, List.drop_zero, List.take_succ_cons, List.take_zero, List.cons_append, List.nil_append]
        iterate 1 (first | (refine wpYield_want ?_ (by rfl) (fun w' hS' => ?_) ?_; rotate_left; ((try dsimp only at hS'); go_simp; try with_reducible rfl); simp only [Act.put, List.setIfInBounds_toArray, List.set_cons_zero, List.set_cons_succ]) | (refine wpYield_skip (by rfl) ?_; simp only [Act.put, List.setIfInBounds_toArray, List.set_cons_zero, List.set_cons_succ]))
        refine wpYield_nil (hK _ ?_)
        clear hK K
        refine plan_mv (fun K hK => ?_)
        simp only [pick, List.drop_succ_cons, List.drop_zero, List.take_succ_cons, List.take_zero, List.cons_append, List.nil_append]
        go_wp2_with (first | (go_at_call 88; refine (within_c xr 0 7 _).mono ?_; rintro e w1 ⟨rfl, h1⟩; replace h1 : Ex [] X w1 := Ex.trans (by first | (with_reducible assumption) | (repeat (with_reducible first | exact Ex.refl _ _ | assumption | exact Ex.mono (by assumption) (by simp; done) | refine Ex.alloc ?_ _ | refine Ex.drew ?_ | refine Ex.drewN ?_ _ | refine Ex.setCell ?_ (by first | (left; simp; done) | (right; simp; done) | (right; simp; omega)) _ | refine Ex.trans ?_ (by assumption)))) (h1.ex _)) | (go_at_call 95; refine (greatest_c p a cap a2 cap2 ones la ha lc hc lows highs _ (hs.ext (hwX.trans (by first | (with_reducible assumption) | (repeat (with_reducible first | exact Ex.refl _ _ | assumption | exact Ex.mono (by assumption) (by simp; done) | refine Ex.alloc ?_ _ | refine Ex.drew ?_ | refine Ex.drewN ?_ _ | refine Ex.setCell ?_ (by first | (left; simp; done) | (right; simp; done) | (right; simp; omega)) _ | refine Ex.trans ?_ (by assumption)))))) (hl.ext (hwX.trans (by first | (with_reducible assumption) | (repeat (with_reducible first | exact Ex.refl _ _ | assumption | exact Ex.mono (by assumption) (by simp; done) | refine Ex.alloc ?_ _ | refine Ex.drew ?_ | refine Ex.drewN ?_ _ | refine Ex.setCell ?_ (by first | (left; simp; done) | (right; simp; done) | (right; simp; omega)) _ | refine Ex.trans ?_ (by assumption)))))) (hh.ext (hwX.trans (by first | (with_reducible assumption) | (repeat (with_reducible first | exact Ex.refl _ _ | assumption | exact Ex.mono (by assumption) (by simp; done) | refine Ex.alloc ?_ _ | refine Ex.drew ?_ | refine Ex.drewN ?_ _ | refine Ex.setCell ?_ (by first | (left; simp; done) | (right; simp; done) | (right; simp; omega)) _ | refine Ex.trans ?_ (by assumption)))))) (by have := hel.out; omega) (by have := heh.out; omega)).mono ?_; rintro e w1 ⟨rfl, h1⟩; replace h1 : Ex [] X w1 := Ex.trans (by first | (with_reducible assumption) | (repeat (with_reducible first | exact Ex.refl _ _ | assumption | exact Ex.mono (by assumption) (by simp; done) | refine Ex.alloc ?_ _ | refine Ex.drew ?_ | refine Ex.drewN ?_ _ | refine Ex.setCell ?_ (by first | (left; simp; done) | (right; simp; done) | (right; simp; omega)) _ | refine Ex.trans ?_ (by assumption)))) (h1.ex _)))
        first | refine hK _ _ (by first | (with_reducible assumption) | (repeat (with_reducible first | exact Ex.refl _ _ | assumption | exact Ex.mono (by assumption) (by simp; done) | refine Ex.alloc ?_ _ | refine Ex.drew ?_ | refine Ex.drewN ?_ _ | refine Ex.setCell ?_ (by first | (left; simp; done) | (right; simp; done) | (right; simp; omega)) _ | refine Ex.trans ?_ (by assumption)))) ?_ | refine ⟨rfl, hK _ _ (by first | (with_reducible assumption) | (repeat (with_reducible first | exact Ex.refl _ _ | assumption | exact Ex.mono (by assumption) (by simp; done) | refine Ex.alloc ?_ _ | refine Ex.drew ?_ | refine Ex.drewN ?_ _ | refine Ex.setCell ?_ (by first | (left; simp; done) | (right; simp; done) | (right; simp; omega)) _ | refine Ex.trans ?_ (by assumption)))) ?_⟩
        clear hK K
        refine plan_pu (fun K hK => ?_)
        simp only [pick, List.drop_succ_cons, List.drop_zero, List.take_succ_cons, List.take_zero, List.cons_append, List.nil_append]
        iterate 3 (first | (refine wpYield_want ?_ (by rfl) (fun w' hS' => ?_) ?_; rotate_left; ((try dsimp only at hS'); go_simp; try with_reducible rfl); simp only [Act.put, List.setIfInBounds_toArray, List.set_cons_zero, List.set_cons_succ]) | (refine wpYield_skip (by rfl) ?_; simp only [Act.put, List.setIfInBounds_toArray, List.set_cons_zero, List.set_cons_succ]))
        refine wpYield_nil (hK _ ?_)
        clear hK K
        refine plan_st (fun K hK => ?_)
        simp only [pick, List.drop_succ_cons, List.drop_zero, List.take_succ_cons, List.take_zero, List.cons_append, List.nil_append]
        iterate 3 (first | (refine wpYield_want ?_ (by rfl) (fun w' hS' => ?_) ?_; rotate_left; ((try dsimp only at hS'); go_simp; try with_reducible rfl); simp only [Act.put, List.setIfInBounds_toArray, List.set_cons_zero, List.set_cons_succ]) | (refine wpYield_skip (by rfl) ?_; simp only [Act.put, List.setIfInBounds_toArray, List.set_cons_zero, List.set_cons_succ]))
        refine wpYield_nil (hK _ ?_)
        clear hK K
        refine plan_mv (fun K hK => ?_)
        simp only [pick, List.drop_succ_cons, List.drop_zero, List.take_succ_cons, List.take_zero, List.cons_append, List.nil_append]
        go_wp2_with (first | (go_at_call 88; refine (within_c xr 0 7 _).mono ?_; rintro e w1 ⟨rfl, h1⟩; replace h1 : Ex [] X w1 := Ex.trans (by first | (with_reducible assumption) | (repeat (with_reducible first | exact Ex.refl _ _ | assumption | exact Ex.mono (by assumption) (by simp; done) | refine Ex.alloc ?_ _ | refine Ex.drew ?_ | refine Ex.drewN ?_ _ | refine Ex.setCell ?_ (by first | (left; simp; done) | (right; simp; done) | (right; simp; omega)) _ | refine Ex.trans ?_ (by assumption)))) (h1.ex _)) | (go_at_call 95; refine (greatest_c p a cap a2 cap2 ones la ha lc hc lows highs _ (hs.ext (hwX.trans (by first | (with_reducible assumption) | (repeat (with_reducible first | exact Ex.refl _ _ | assumption | exact Ex.mono (by assumption) (by simp; done) | refine Ex.alloc ?_ _ | refine Ex.drew ?_ | refine Ex.drewN ?_ _ | refine Ex.setCell ?_ (by first | (left; simp; done) | (right; simp; done) | (right; simp; omega)) _ | refine Ex.trans ?_ (by assumption)))))) (hl.ext (hwX.trans (by first | (with_reducible assumption) | (repeat (with_reducible first | exact Ex.refl _ _ | assumption | exact Ex.mono (by assumption) (by simp; done) | refine Ex.alloc ?_ _ | refine Ex.drew ?_ | refine Ex.drewN ?_ _ | refine Ex.setCell ?_ (by first | (left; simp; done) | (right; simp; done) | (right; simp; omega)) _ | refine Ex.trans ?_ (by assumption)))))) (hh.ext (hwX.trans (by first | (with_reducible assumption) | (repeat (with_reducible first | exact Ex.refl _ _ | assumption | exact Ex.mono (by assumption) (by simp; done) | refine Ex.alloc ?_ _ | refine Ex.drew ?_ | refine Ex.drewN ?_ _ | refine Ex.setCell ?_ (by first | (left; simp; done) | (right; simp; done) | (right; simp; omega)) _ | refine Ex.trans ?_ (by assumption)))))) (by have := hel.out; omega) (by have := heh.out; omega)).mono ?_; rintro e w1 ⟨rfl, h1⟩; replace h1 : Ex [] X w1 := Ex.trans (by first | (with_reducible assumption) | (repeat (with_reducible first | exact Ex.refl _ _ | assumption | exact Ex.mono (by assumption) (by simp; done) | refine Ex.alloc ?_ _ | refine Ex.drew ?_ | refine Ex.drewN ?_ _ | refine Ex.setCell ?_ (by first | (left; simp; done) | (right; simp; done) | (right; simp; omega)) _ | refine Ex.trans ?_ (by assumption)))) (h1.ex _)))
        first | refine hK _ _ (by first | (with_reducible assumption) | (repeat (with_reducible first | exact Ex.refl _ _ | assumption | exact Ex.mono (by assumption) (by simp; done) | refine Ex.alloc ?_ _ | refine Ex.drew ?_ | refine Ex.drewN ?_ _ | refine Ex.setCell ?_ (by first | (left; simp; done) | (right; simp; done) | (right; simp; omega)) _ | refine Ex.trans ?_ (by assumption)))) ?_ | refine ⟨rfl, hK _ _ (by first | (with_reducible assumption) | (repeat (with_reducible first | exact Ex.refl _ _ | assumption | exact Ex.mono (by assumption) (by simp; done) | refine Ex.alloc ?_ _ | refine Ex.drew ?_ | refine Ex.drewN ?_ _ | refine Ex.setCell ?_ (by first | (left; simp; done) | (right; simp; done) | (right; simp; omega)) _ | refine Ex.trans ?_ (by assumption)))) ?_⟩
        clear hK K
        refine plan_pu (fun K hK => ?_)
        simp only [pick, List.drop_succ_cons, List.drop_zero, List.take_succ_cons, List.take_zero, List.cons_append, List.nil_append]
        iterate 5 (first | (refine wpYield_want ?_ (by rfl) (fun w' hS' => ?_) ?_; rotate_left; ((try dsimp only at hS'); go_simp; try with_reducible rfl); simp only [Act.put, List.setIfInBounds_toArray, List.set_cons_zero, List.set_cons_succ]) | (refine wpYield_skip (by rfl) ?_; simp only [Act.put, List.setIfInBounds_toArray, List.set_cons_zero, List.set_cons_succ]))
        refine wpYield_nil (hK _ ?_)
        clear hK K
        refine plan_nil ?_
        try simp only [hb0, hb1, hb2]
        go_wp2_with fail
        go_returns
        refine ⟨rr, pc - 1, by simp [acceptM, hbl, hb0, hb1, hb2], ?_, ?_⟩
        · rw [show (acceptM p ones (n + 1) lows highs (⟨xl, xa, xr⟩ :: rest)).1 = rest from by simp [acceptM, hbl, hb0, hb1, hb2]]
          refine hSr.ext (hwX.trans ?_)
          (repeat (with_reducible first | exact Ex.refl _ _ | assumption | exact Ex.mono (by assumption) (by simp; done) | refine Ex.alloc ?_ _ | refine Ex.drew ?_ | refine Ex.drewN ?_ _ | refine Ex.setCell ?_ (by first | (left; simp; done) | (right; simp; done) | (right; simp; omega)) _ | refine Ex.trans ?_ (by assumption)))
        · refine hwX.trans ?_
          (repeat (with_reducible first | exact Ex.refl _ _ | assumption | exact Ex.mono (by assumption) (by simp; done) | refine Ex.alloc ?_ _ | refine Ex.drew ?_ | refine Ex.drewN ?_ _ | refine Ex.setCell ?_ (by first | (left; simp; done) | (right; simp; done) | (right; simp; omega)) _ | refine Ex.trans ?_ (by assumption)))
      case true =>
        try have hix := ixM (greatM p ones lows highs) xr (by assumption)
        go_wp2_with fail
        refine region_plan (fun w' => Ex [] X w') [.pu [0, 1], .st [2], .pu [3, 4, 5], .st [6], .mv 7, .pu [8, 9, 13], .st [10, 11, 14], .mv 12, .pu [15, 16, 17, 18, 19]] (by kernel_rfl) (by kernel_rfl) (Ex.drew (by first | (with_reducible assumption) | (repeat (with_reducible first | exact Ex.refl _ _ | assumption | exact Ex.mono (by assumption) (by simp; done) | refine Ex.alloc ?_ _ | refine Ex.drew ?_ | refine Ex.drewN ?_ _ | refine Ex.setCell ?_ (by first | (left; simp; done) | (right; simp; done) | (right; simp; omega)) _ | refine Ex.trans ?_ (by assumption))))) ?_
        refine plan_pu (fun K hK => ?_)
        simp only [pick, List.drop_succ_cons, List.drop_zero, List.take_succ_cons, List.take_zero, List.cons_append, List.nil_append]
        iterate 2 (first | (refine wpYield_want ?_ (by rfl) (fun w' hS' => ?_) ?_; rotate_left; ((try dsimp only at hS'); go_simp; try with_reducible rfl); simp only [Act.put, List.setIfInBounds_toArray, List.set_cons_zero, List.set_cons_succ]) | (refine wpYield_skip (by rfl) ?_; simp only [Act.put, List.setIfInBounds_toArray, List.set_cons_zero, List.set_cons_succ]))
        refine wpYield_nil (hK _ ?_)
        clear hK K
        refine plan_st (fun K hK => ?_)
        simp only [pick, List.drop_succ_cons, List.drop_zero, List.take_succ_cons, List.take_zero, List.cons_append, List.nil_append]
        iterate 1 (first | (refine wpYield_want ?_ (by rfl) (fun w' hS' => ?_) ?_; rotate_left; ((try dsimp only at hS'); go_simp; try with_reducible rfl); simp only [Act.put, List.setIfInBounds_toArray, List.set_cons_zero, List.set_cons_succ]) | (refine wpYield_skip (by rfl) ?_; simp only [Act.put, List.setIfInBounds_toArray, List.set_cons_zero, List.set_cons_succ]))
        refine wpYield_nil (hK _ ?_)
        clear hK K
        refine plan_pu (fun K hK => ?_)
        simp only [pick, List.drop_succ_cons, List.drop_zero, List.take_succ_cons, List.take_zero, List.cons_append, List.nil_append]
        iterate 3 (first | (refine wpYield_want ?_ (by rfl) (fun w' hS' => ?_) ?_; rotate_left; ((try dsimp only at hS'); go_simp; try with_reducible rfl); simp only [Act.put, List.setIfInBounds_toArray, List.set_cons_zero, List.set_cons_succ]) | (refine wpYield_skip (by rfl) ?_; simp only [Act.put, List.setIfInBounds_toArray, List.set_cons_zero, List.set_cons_succ]))
        refine wpYield_nil (hK _ ?_)
        clear hK K
        refine plan_st (fun K hK => ?_)
        simp only [pick, List.drop_succ_cons, List.drop_zero, List.take_succ_cons, List.take_zero, List.cons_append, List.nil_append]
        iterate 1 (first | (refine wpYield_want ?_ (by rfl) (fun w' hS' => ?_) ?_; rotate_left; ((try dsimp only at hS'); go_simp; try with_reducible rfl); simp only [Act.put, List.setIfInBounds_toArray, List.set_cons_zero, List.set_cons_succ]) | (refine wpYield_skip (by rfl) ?_; simp only [Act.put, List.setIfInBounds_toArray, List.set_cons_zero, List.set_cons_succ]))
        refine wpYield_nil (hK _ ?_)
        clear hK K
        refine plan_mv (fun K hK => ?_)
        simp only [pick, List.drop_succ_cons, List.drop_zero, List.take_succ_cons, List.take_zero, List.cons_append, List.nil_append]
        go_wp2_with (first | (go_at_call 88; refine (within_c xr 0 7 _).mono ?_; rintro e w1 ⟨rfl, h1⟩; replace h1 : Ex [] X w1 := Ex.trans (by first | (with_reducible assumption) | (repeat (with_reducible first | exact Ex.refl _ _ | assumption | exact Ex.mono (by assumption) (by simp; done) | refine Ex.alloc ?_ _ | refine Ex.drew ?_ | refine Ex.drewN ?_ _ | refine Ex.setCell ?_ (by first | (left; simp; done) | (right; simp; done) | (right; simp; omega)) _ | refine Ex.trans ?_ (by assumption)))) (h1.ex _)) | (go_at_call 95; refine (greatest_c p a cap a2 cap2 ones la ha lc hc lows highs _ (hs.ext (hwX.trans (by first | (with_reducible assumption) | (repeat (with_reducible first | exact Ex.refl _ _ | assumption | exact Ex.mono (by assumption) (by simp; done) | refine Ex.alloc ?_ _ | refine Ex.drew ?_ | refine Ex.drewN ?_ _ | refine Ex.setCell ?_ (by first | (left; simp; done) | (right; simp; done) | (right; simp; omega)) _ | refine Ex.trans ?_ (by assumption)))))) (hl.ext (hwX.trans (by first | (with_reducible assumption) | (repeat (with_reducible first | exact Ex.refl _ _ | assumption | exact Ex.mono (by assumption) (by simp; done) | refine Ex.alloc ?_ _ | refine Ex.drew ?_ | refine Ex.drewN ?_ _ | refine Ex.setCell ?_ (by first | (left; simp; done) | (right; simp; done) | (right; simp; omega)) _ | refine Ex.trans ?_ (by assumption)))))) (hh.ext (hwX.trans (by first | (with_reducible assumption) | (repeat (with_reducible first | exact Ex.refl _ _ | assumption | exact Ex.mono (by assumption) (by simp; done) | refine Ex.alloc ?_ _ | refine Ex.drew ?_ | refine Ex.drewN ?_ _ | refine Ex.setCell ?_ (by first | (left; simp; done) | (right; simp; done) | (right; simp; omega)) _ | refine Ex.trans ?_ (by assumption)))))) (by have := hel.out; omega) (by have := heh.out; omega)).mono ?_; rintro e w1 ⟨rfl, h1⟩; replace h1 : Ex [] X w1 := Ex.trans (by first | (with_reducible assumption) | (repeat (with_reducible first | exact Ex.refl _ _ | assumption | exact Ex.mono (by assumption) (by simp; done) | refine Ex.alloc ?_ _ | refine Ex.drew ?_ | refine Ex.drewN ?_ _ | refine Ex.setCell ?_ (by first | (left; simp; done) | (right; simp; done) | (right; simp; omega)) _ | refine Ex.trans ?_ (by assumption)))) (h1.ex _)))
        first | refine hK _ _ (by first | (with_reducible assumption) | (repeat (with_reducible first | exact Ex.refl _ _ | assumption | exact Ex.mono (by assumption) (by simp; done) | refine Ex.alloc ?_ _ | refine Ex.drew ?_ | refine Ex.drewN ?_ _ | refine Ex.setCell ?_ (by first | (left; simp; done) | (right; simp; done) | (right; simp; omega)) _ | refine Ex.trans ?_ (by assumption)))) ?_ | refine ⟨rfl, hK _ _ (by first | (with_reducible assumption) | (repeat (with_reducible first | exact Ex.refl _ _ | assumption | exact Ex.mono (by assumption) (by simp; done) | refine Ex.alloc ?_ _ | refine Ex.drew ?_ | refine Ex.drewN ?_ _ | refine Ex.setCell ?_ (by first | (left; simp; done) | (right; simp; done) | (right; simp; omega)) _ | refine Ex.trans ?_ (by assumption)))) ?_⟩
        clear hK K
        refine plan_pu (fun K hK => ?_)
        simp only [pick, List.drop_succ_cons, List.drop_zero, List.take_succ_cons, List.take_zero, List.cons_append, List.nil_append]
        iterate 3 (first | (refine wpYield_want ?_ (by rfl) (fun w' hS' => ?_) ?_; rotate_left; ((try dsimp only at hS'); go_simp; try with_reducible rfl); simp only [Act.put, List.setIfInBounds_toArray, List.set_cons_zero, List.set_cons_succ]) | (refine wpYield_skip (by rfl) ?_; simp only [Act.put, List.setIfInBounds_toArray, List.set_cons_zero, List.set_cons_succ]))
        refine wpYield_nil (hK _ ?_)
        clear hK K
        refine plan_st (fun K hK => ?_)
        simp only [pick, List.drop_succ_cons, List.drop_zero, List.take_succ_cons, List.take_zero, List.cons_append, List.nil_append]
        iterate 3 (first | (refine wpYield_want ?_ (by rfl) (fun w' hS' => ?_) ?_; rotate_left; ((try dsimp only at hS'); go_simp; try with_reducible rfl); simp only [Act.put, List.setIfInBounds_toArray, List.set_cons_zero, List.set_cons_succ]) | (refine wpYield_skip (by rfl) ?_; simp only [Act.put, List.setIfInBounds_toArray, List.set_cons_zero, List.set_cons_succ]))
        refine wpYield_nil (hK _ ?_)
        clear hK K
        refine plan_mv (fun K hK => ?_)
        simp only [pick, List.drop_succ_cons, List.drop_zero, List.take_succ_cons, List.take_zero, List.cons_append, List.nil_append]
        go_wp2_with (first | (go_at_call 88; refine (within_c xr 0 7 _).mono ?_; rintro e w1 ⟨rfl, h1⟩; replace h1 : Ex [] X w1 := Ex.trans (by first | (with_reducible assumption) | (repeat (with_reducible first | exact Ex.refl _ _ | assumption | exact Ex.mono (by assumption) (by simp; done) | refine Ex.alloc ?_ _ | refine Ex.drew ?_ | refine Ex.drewN ?_ _ | refine Ex.setCell ?_ (by first | (left; simp; done) | (right; simp; done) | (right; simp; omega)) _ | refine Ex.trans ?_ (by assumption)))) (h1.ex _)) | (go_at_call 95; refine (greatest_c p a cap a2 cap2 ones la ha lc hc lows highs _ (hs.ext (hwX.trans (by first | (with_reducible assumption) | (repeat (with_reducible first | exact Ex.refl _ _ | assumption | exact Ex.mono (by assumption) (by simp; done) | refine Ex.alloc ?_ _ | refine Ex.drew ?_ | refine Ex.drewN ?_ _ | refine Ex.setCell ?_ (by first | (left; simp; done) | (right; simp; done) | (right; simp; omega)) _ | refine Ex.trans ?_ (by assumption)))))) (hl.ext (hwX.trans (by first | (with_reducible assumption) | (repeat (with_reducible first | exact Ex.refl _ _ | assumption | exact Ex.mono (by assumption) (by simp; done) | refine Ex.alloc ?_ _ | refine Ex.drew ?_ | refine Ex.drewN ?_ _ | refine Ex.setCell ?_ (by first | (left; simp; done) | (right; simp; done) | (right; simp; omega)) _ | refine Ex.trans ?_ (by assumption)))))) (hh.ext (hwX.trans (by first | (with_reducible assumption) | (repeat (with_reducible first | exact Ex.refl _ _ | assumption | exact Ex.mono (by assumption) (by simp; done) | refine Ex.alloc ?_ _ | refine Ex.drew ?_ | refine Ex.drewN ?_ _ | refine Ex.setCell ?_ (by first | (left; simp; done) | (right; simp; done) | (right; simp; omega)) _ | refine Ex.trans ?_ (by assumption)))))) (by have := hel.out; omega) (by have := heh.out; omega)).mono ?_; rintro e w1 ⟨rfl, h1⟩; replace h1 : Ex [] X w1 := Ex.trans (by first | (with_reducible assumption) | (repeat (with_reducible first | exact Ex.refl _ _ | assumption | exact Ex.mono (by assumption) (by simp; done) | refine Ex.alloc ?_ _ | refine Ex.drew ?_ | refine Ex.drewN ?_ _ | refine Ex.setCell ?_ (by first | (left; simp; done) | (right; simp; done) | (right; simp; omega)) _ | refine Ex.trans ?_ (by assumption)))) (h1.ex _)))
        first | refine hK _ _ (by first | (with_reducible assumption) | (repeat (with_reducible first | exact Ex.refl _ _ | assumption | exact Ex.mono (by assumption) (by simp; done) | refine Ex.alloc ?_ _ | refine Ex.drew ?_ | refine Ex.drewN ?_ _ | refine Ex.setCell ?_ (by first | (left; simp; done) | (right; simp; done) | (right; simp; omega)) _ | refine Ex.trans ?_ (by assumption)))) ?_ | refine ⟨rfl, hK _ _ (by first | (with_reducible assumption) | (repeat (with_reducible first | exact Ex.refl _ _ | assumption | exact Ex.mono (by assumption) (by simp; done) | refine Ex.alloc ?_ _ | refine Ex.drew ?_ | refine Ex.drewN ?_ _ | refine Ex.setCell ?_ (by first | (left; simp; done) | (right; simp; done) | (right; simp; omega)) _ | refine Ex.trans ?_ (by assumption)))) ?_⟩
        clear hK K
        refine plan_pu (fun K hK => ?_)
        simp only [pick, List.drop_succ_cons, List.drop_zero, List.take_succ_cons, List.take_zero, List.cons_append, List.nil_append]
        iterate 5 (first | (refine wpYield_want ?_ (by rfl) (fun w' hS' => ?_) ?_; rotate_left; ((try dsimp only at hS'); go_simp; try with_reducible rfl); simp only [Act.put, List.setIfInBounds_toArray, List.set_cons_zero, List.set_cons_succ]) | (refine wpYield_skip (by rfl) ?_; simp only [Act.put, List.setIfInBounds_toArray, List.set_cons_zero, List.set_cons_succ]))
        refine wpYield_nil (hK _ ?_)
        clear hK K
        refine plan_nil ?_
        try simp only [hb0, hb1, hb2]
        go_wp2_with fail
        go_returns
        refine ⟨rr, pc - 1, by simp [acceptM, hbl, hb0, hb1, hb2], ?_, ?_⟩
        · rw [show (acceptM p ones (n + 1) lows highs (⟨xl, xa, xr⟩ :: rest)).1 = rest from by simp [acceptM, hbl, hb0, hb1, hb2]]
          refine hSr.ext (hwX.trans ?_)
          (repeat (with_reducible first | exact Ex.refl _ _ | assumption | exact Ex.mono (by assumption) (by simp; done) | refine Ex.alloc ?_ _ | refine Ex.drew ?_ | refine Ex.drewN ?_ _ | refine Ex.setCell ?_ (by first | (left; simp; done) | (right; simp; done) | (right; simp; omega)) _ | refine Ex.trans ?_ (by assumption)))
        · refine hwX.trans ?_
          (repeat (with_reducible first | exact Ex.refl _ _ | assumption | exact Ex.mono (by assumption) (by simp; done) | refine Ex.alloc ?_ _ | refine Ex.drew ?_ | refine Ex.drewN ?_ _ | refine Ex.setCell ?_ (by first | (left; simp; done) | (right; simp; done) | (right; simp; omega)) _ | refine Ex.trans ?_ (by assumption)))

set_option maxRecDepth 100000 in
set_option maxHeartbeats 16000000 in
theorem accept_nolot_c (p : Recipe) (a : Option Addr) (cap : Nat) (a2 : Option Addr) (cap2 : Nat) (ones : List Mar) (hn : p.lots.length ≤ 1000) (ho : ones.length ≤ p.lots.length) (n : Nat) (la ha : Option Addr) (lc hc : Nat) (lows highs : List Int) (pa : Option Addr) (pc : Nat) (xl xa xr : Int) (rest : List Split) (w : World) (hs : Sl 8 Mar.cells w a2 cap2 ones) (hl : SlI w la lc lows) (hh : SlI w ha hc highs) (hp : Sl 3 Split.cells w pa pc (⟨xl, xa, xr⟩ :: rest)) (hel : Hid (lows.length = p.lots.length)) (heh : Hid (highs.length = p.lots.length)) (hbl : (xl == -1) = false) (hb0 : withinB xl 0 (p.lots.length - 1) = false) :
    Calls Try.prog 75 #[.agg #[.slice a p.lots.length cap, .int .i64 p.mass.lo, .int .i64 p.mass.hi, .int .i64 p.target.a.lo, .int .i64 p.target.a.hi, .int .i64 p.target.b.lo, .int .i64 p.target.b.hi, .int .i64 p.target.c.lo, .int .i64 p.target.c.hi, .slice a2 ones.length cap2], .agg #[.slice la lows.length lc, .slice ha highs.length hc], .slice pa (Split.mk xl xa xr :: rest).length pc] w (AcceptPost p ones (n + 1) lows highs (Split.mk xl xa xr :: rest) w) := by
  have hpl := hp.le; have hpb := hp.big
  obtain ⟨rr, hrun, hSr, hbr⟩ := hp.drop eiSplit 1 (by simp)
  simp only [List.drop_succ_cons, List.drop_zero] at hrun hSr
  obtain ⟨bp, offp, rfl, hbp, hpp⟩ := hp.cells (by simp)
  have s0 := hpp 0 (by simp) 0 _ rfl
  have s1 := hpp 0 (by simp) 1 _ rfl
  have s2 := hpp 0 (by simp) 2 _ rfl
  simp only [Nat.zero_mul, Nat.add_zero] at s0 s1 s2
  clear hpp hp hbr
  obtain ⟨L, hL, hL0⟩ : ∃ L, L = (Split.mk xl xa xr :: rest).length ∧ 0 < L := ⟨_, rfl, by simp⟩
  rw [← hL] at hrun hpl ⊢
  clear hL
  have hL1 : ¬ L = 0 := by omega
  have hL2 : ((L : Int) == 0) = false := by simp; omega
  have hrun1 : ∀ w', (Instr.sliceAt 53 (.slice (some ⟨bp, offp, none⟩) L pc) (some (.int .i64 1)) none none).run Try.prog w' = .ok (.slice rr rest.length (pc - 1)) w' := hrun
  have hrun2 : ∀ w', (Instr.slice 53 (.slice (some ⟨bp, offp, none⟩) L pc) (some (.int .i64 1)) none none).run Try.prog w' = .ok (.slice rr rest.length (pc - 1)) w' := fun w' => by
    rw [← run_sliceAt_slice w' 53 _ _ _ _ (by rfl)]; exact hrun1 w'
  clear hrun
  have hle1 := hl.le; have hgl := hl.big; have hle2 := hh.le; have hgh := hh.big
  go_enter Try.func75, Try.ntmps75
  go_upto_region 1 with (fail)
  refine wp_at (fun W => Ext w W ∧ w.heap.size + 2 = W.heap.size ∧ W.heap[w.heap.size]? = some (.cells #[.slice a p.lots.length cap, .int .i64 p.mass.lo, .int .i64 p.mass.hi, .int .i64 p.target.a.lo, .int .i64 p.target.a.hi, .int .i64 p.target.b.lo, .int .i64 p.target.b.hi, .int .i64 p.target.c.lo, .int .i64 p.target.c.hi, .slice a2 ones.length cap2] 119 (0, 0)) ∧ W.heap[w.heap.size + 1]? = some (.cells #[.slice la lows.length lc, .slice ha highs.length hc] 128 (0, 0))) ⟨by (repeat (with_reducible first | exact Ex.refl _ _ | assumption | exact Ex.mono (by assumption) (by simp; done) | refine Ex.alloc ?_ _ | refine Ex.drew ?_ | refine Ex.drewN ?_ _ | refine Ex.setCell ?_ (by first | (left; simp; done) | (right; simp; done) | (right; simp; omega)) _ | refine Ex.trans ?_ (by assumption))), by simp, blk_alloc (blk_new _ _), by have h := blk_new ((w).alloc (.cells #[.slice a p.lots.length cap, .int .i64 p.mass.lo, .int .i64 p.mass.hi, .int .i64 p.target.a.lo, .int .i64 p.target.a.hi, .int .i64 p.target.b.lo, .int .i64 p.target.b.hi, .int .i64 p.target.c.lo, .int .i64 p.target.c.hi, .slice a2 ones.length cap2] 119 (0, 0))) (.cells #[.slice la lows.length lc, .slice ha highs.length hc] 128 (0, 0)); simpa using h⟩ (fun W hW => ?_)
  obtain ⟨hr0, hsz, hB0, hB1⟩ := hW
  have hr : Ex [] W W := Ex.refl _ _
  have f0_0 := cellE (S := []) hB0 (by first | (simp; done) | (simp; omega)) 0 rfl
  have f0_1 := cellE (S := []) hB0 (by first | (simp; done) | (simp; omega)) 1 rfl
  have f0_2 := cellE (S := []) hB0 (by first | (simp; done) | (simp; omega)) 2 rfl
  have f0_3 := cellE (S := []) hB0 (by first | (simp; done) | (simp; omega)) 3 rfl
  have f0_4 := cellE (S := []) hB0 (by first | (simp; done) | (simp; omega)) 4 rfl
  have f0_5 := cellE (S := []) hB0 (by first | (simp; done) | (simp; omega)) 5 rfl
  have f0_6 := cellE (S := []) hB0 (by first | (simp; done) | (simp; omega)) 6 rfl
  have f0_7 := cellE (S := []) hB0 (by first | (simp; done) | (simp; omega)) 7 rfl
  have f0_8 := cellE (S := []) hB0 (by first | (simp; done) | (simp; omega)) 8 rfl
  have f0_9 := cellE (S := []) hB0 (by first | (simp; done) | (simp; omega)) 9 rfl
  have f1_0 := cellE (S := []) hB1 (by first | (simp; done) | (simp; omega)) 0 rfl
  have f1_1 := cellE (S := []) hB1 (by first | (simp; done) | (simp; omega)) 1 rfl
  clear hB0 hB1
  have hsz' := Nat.le_of_eq hsz.symm; have hsz'' := Nat.le_of_eq hsz; clear hsz
  replace s0 := fun w' (h : Ex [] W w') => (hr0.trans h).cell (by simp) s0
  replace s1 := fun w' (h : Ex [] W w') => (hr0.trans h).cell (by simp) s1
  replace s2 := fun w' (h : Ex [] W w') => (hr0.trans h).cell (by simp) s2
  go_upto_region 3 with fail
  refine region_plan (fun w' => Ex [] W w') [.pu [0, 1, 3, 4], .st [2], .mv 5, .tl [6], .pu [7]] (by kernel_rfl) (by kernel_rfl) (Ex.drew (by first | (with_reducible assumption) | (repeat (with_reducible first | exact Ex.refl _ _ | assumption | exact Ex.mono (by assumption) (by simp; done) | refine Ex.alloc ?_ _ | refine Ex.drew ?_ | refine Ex.drewN ?_ _ | refine Ex.setCell ?_ (by first | (left; simp; done) | (right; simp; done) | (right; simp; omega)) _ | refine Ex.trans ?_ (by assumption))))) ?_
  refine plan_pu (fun K hK => ?_)
  simp only [pick, List.drop_succ_cons, List.drop_zero, List.take_succ_cons, List.take_zero, List.cons_append, List.nil_append]
  iterate 4 (first | (refine wpYield_want ?_ (by rfl) (fun w' hS' => ?_) ?_; rotate_left; ((try dsimp only at hS'); go_simp; try with_reducible rfl); simp only [Act.put, List.setIfInBounds_toArray, List.set_cons_zero, List.set_cons_succ]) | (refine wpYield_skip (by rfl) ?_; simp only [Act.put, List.setIfInBounds_toArray, List.set_cons_zero, List.set_cons_succ]))
  refine wpYield_nil (hK _ ?_)
  clear hK K
  refine plan_st (fun K hK => ?_)
  simp only [pick, List.drop_succ_cons, List.drop_zero, List.take_succ_cons, List.take_zero, List.cons_append, List.nil_append]
  iterate 1 (first | (refine wpYield_want ?_ (by rfl) (fun w' hS' => ?_) ?_; rotate_left; ((try dsimp only at hS'); go_simp; try with_reducible rfl); simp only [Act.put, List.setIfInBounds_toArray, List.set_cons_zero, List.set_cons_succ]) | (refine wpYield_skip (by rfl) ?_; simp only [Act.put, List.setIfInBounds_toArray, List.set_cons_zero, List.set_cons_succ]))
  refine wpYield_nil (hK _ ?_)
  clear hK K
  refine plan_mv (fun K hK => ?_)
  simp only [pick, List.drop_succ_cons, List.drop_zero, List.take_succ_cons, List.take_zero, List.cons_append, List.nil_append]
  go_wp2_with fail
  first | refine hK _ _ (by first | (with_reducible assumption) | (repeat (with_reducible first | exact Ex.refl _ _ | assumption | exact Ex.mono (by assumption) (by simp; done) | refine Ex.alloc ?_ _ | refine Ex.drew ?_ | refine Ex.drewN ?_ _ | refine Ex.setCell ?_ (by first | (left; simp; done) | (right; simp; done) | (right; simp; omega)) _ | refine Ex.trans ?_ (by assumption)))) ?_ | refine ⟨rfl, hK _ _ (by first | (with_reducible assumption) | (repeat (with_reducible first | exact Ex.refl _ _ | assumption | exact Ex.mono (by assumption) (by simp; done) | refine Ex.alloc ?_ _ | refine Ex.drew ?_ | refine Ex.drewN ?_ _ | refine Ex.setCell ?_ (by first | (left; simp; done) | (right; simp; done) | (right; simp; omega)) _ | refine Ex.trans ?_ (by assumption)))) ?_⟩
  clear hK K
  refine plan_tl (fun K hK => ?_)
  simp only [pick, List.drop_succ_cons, List.drop_zero, List.take_succ_cons, List.take_zero, List.cons_append, List.nil_append]
  go_wp2_with fail
  try refine ⟨rfl, hK _ _ ?_⟩
  try clear hK K
  refine plan_pu (fun K hK => ?_)
  simp only [pick, List.drop_succ_cons, List.drop_zero, List.take_succ_cons, List.take_zero, List.cons_append, List.nil_append]
  iterate 1 (first | (refine wpYield_want ?_ (by rfl) (fun w' hS' => ?_) ?_; rotate_left; ((try dsimp only at hS'); go_simp; try with_reducible rfl); simp only [Act.put, List.setIfInBounds_toArray, List.set_cons_zero, List.set_cons_succ]) | (refine wpYield_skip (by rfl) ?_; simp only [Act.put, List.setIfInBounds_toArray, List.set_cons_zero, List.set_cons_succ]))
  refine wpYield_nil (hK _ ?_)
  clear hK K
  refine plan_nil ?_
  go_upto_region 4 with fail
  refine wp_at (fun X => Ext W X ∧ X.heap[W.heap.size]? = some (.cells #[.int .i64 xl, .int .i64 xa, .int .i64 xr] 55 (0, 0))) ⟨by (repeat (with_reducible first | exact Ex.refl _ _ | assumption | exact Ex.mono (by assumption) (by simp; done) | refine Ex.alloc ?_ _ | refine Ex.drew ?_ | refine Ex.drewN ?_ _ | refine Ex.setCell ?_ (by first | (left; simp; done) | (right; simp; done) | (right; simp; omega)) _ | refine Ex.trans ?_ (by assumption))), by first | exact blk_new _ _ | (refine blk_to (blk_set (blk_set (blk_set (blk_new _ _) 0 _) 1 _) 2 _) ?_; kernel_rfl)⟩ (fun X hX => ?_)
  obtain ⟨hX, hC⟩ := hX
  clear s0 s1 s2 hrun1 hrun2
  replace f0_0 := fun w' (h : Ex [] X w') => f0_0 w' (hX.trans (h.mono (by simp)))
  replace f0_1 := fun w' (h : Ex [] X w') => f0_1 w' (hX.trans (h.mono (by simp)))
  replace f0_2 := fun w' (h : Ex [] X w') => f0_2 w' (hX.trans (h.mono (by simp)))
  replace f0_3 := fun w' (h : Ex [] X w') => f0_3 w' (hX.trans (h.mono (by simp)))
  replace f0_4 := fun w' (h : Ex [] X w') => f0_4 w' (hX.trans (h.mono (by simp)))
  replace f0_5 := fun w' (h : Ex [] X w') => f0_5 w' (hX.trans (h.mono (by simp)))
  replace f0_6 := fun w' (h : Ex [] X w') => f0_6 w' (hX.trans (h.mono (by simp)))
  replace f0_7 := fun w' (h : Ex [] X w') => f0_7 w' (hX.trans (h.mono (by simp)))
  replace f0_8 := fun w' (h : Ex [] X w') => f0_8 w' (hX.trans (h.mono (by simp)))
  replace f0_9 := fun w' (h : Ex [] X w') => f0_9 w' (hX.trans (h.mono (by simp)))
  replace f1_0 := fun w' (h : Ex [] X w') => f1_0 w' (hX.trans (h.mono (by simp)))
  replace f1_1 := fun w' (h : Ex [] X w') => f1_1 w' (hX.trans (h.mono (by simp)))
  have c_0 := cellE (S := []) hC (by first | (simp; done) | (simp; omega)) 0 rfl
  have c_1 := cellE (S := []) hC (by first | (simp; done) | (simp; omega)) 1 rfl
  have c_2 := cellE (S := []) hC (by first | (simp; done) | (simp; omega)) 2 rfl
  have hrX : Ex [] X X := Ex.refl _ _
  clear hC
  have hwX : Ext w X := hr0.trans hX
  go_wp2_with fail
  refine region_plan (fun w' => Ex [] X w') [.pu [0, 2, 3], .st [1, 4, 5], .pu [6], .mv 7, .pu [8, 9, 10], .st [11], .pu [12, 13, 14, 15, 17, 19, 23, 25], .st [16, 18, 20, 24, 26], .pu [21, 27], .st [22, 28], .pu [29], .mv 30, .pu [31, 32, 33]] (by kernel_rfl) (by kernel_rfl) (Ex.drew (by first | (with_reducible assumption) | (repeat (with_reducible first | exact Ex.refl _ _ | assumption | exact Ex.mono (by assumption) (by simp; done) | refine Ex.alloc ?_ _ | refine Ex.drew ?_ | refine Ex.drewN ?_ _ | refine Ex.setCell ?_ (by first | (left; simp; done) | (right; simp; done) | (right; simp; omega)) _ | refine Ex.trans ?_ (by assumption))))) ?_
  refine plan_pu (fun K hK => ?_)
  simp only [pick, List.drop_succ_cons, List.drop_zero, List.take_succ_cons, List.take_zero, List.cons_append, List.nil_append]
  (refine wpYield_want ?_ (by rfl) (fun w' hS' => ?_) ?_; rotate_left; ((try dsimp only at hS'); go_simp; try with_reducible rfl); simp only [Act.put, List.setIfInBounds_toArray, List.set_cons_zero, List.set_cons_succ])
  (refine wpYield_want ?_ (by rfl) (fun w' hS' => ?_) ?_; rotate_left; ((try dsimp only at hS'); go_simp; try with_reducible rfl); simp only [Act.put, List.setIfInBounds_toArray, List.set_cons_zero, List.set_cons_succ])
  (refine wpYield_want ?_ (by rfl) (fun w' hS' => ?_) ?_; rotate_left; ((try dsimp only at hS'); go_simp; try with_reducible rfl); simp only [Act.put, List.setIfInBounds_toArray, List.set_cons_zero, List.set_cons_succ])
  refine wpYield_nil (hK _ ?_)
  clear hK K
  refine plan_st (fun K hK => ?_)
  simp only [pick, List.drop_succ_cons, List.drop_zero, List.take_succ_cons, List.take_zero, List.cons_append, List.nil_append]
  (refine wpYield_want ?_ (by rfl) (fun w' hS' => ?_) ?_; rotate_left; ((try dsimp only at hS'); go_simp; try with_reducible rfl); simp only [Act.put, List.setIfInBounds_toArray, List.set_cons_zero, List.set_cons_succ])
  (refine wpYield_want ?_ (by rfl) (fun w' hS' => ?_) ?_; rotate_left; ((try dsimp only at hS'); go_simp; try with_reducible rfl); simp only [Act.put, List.setIfInBounds_toArray, List.set_cons_zero, List.set_cons_succ])
  (refine wpYield_want ?_ (by rfl) (fun w' hS' => ?_) ?_; rotate_left; ((try dsimp only at hS'); go_simp; try with_reducible rfl); simp only [Act.put, List.setIfInBounds_toArray, List.set_cons_zero, List.set_cons_succ])
  refine wpYield_nil (hK _ ?_)
  clear hK K
  refine plan_pu (fun K hK => ?_)
  simp only [pick, List.drop_succ_cons, List.drop_zero, List.take_succ_cons, List.take_zero, List.cons_append, List.nil_append]
  (refine wpYield_want ?_ (by rfl) (fun w' hS' => ?_) ?_; rotate_left; ((try dsimp only at hS'); go_simp; try with_reducible rfl); simp only [Act.put, List.setIfInBounds_toArray, List.set_cons_zero, List.set_cons_succ])
  refine wpYield_nil (hK _ ?_)
  clear hK K
  refine plan_mv (fun K hK => ?_)
  simp only [pick, List.drop_succ_cons, List.drop_zero, List.take_succ_cons, List.take_zero, List.cons_append, List.nil_append]
  go_wp2_with (go_at_call 88; refine (within_c _ _ _ _).mono ?_; rintro e w1 ⟨rfl, h1⟩; replace h1 : Ex [] X w1 := Ex.trans (by first | (with_reducible assumption) | (repeat (with_reducible first | exact Ex.refl _ _ | assumption | exact Ex.mono (by assumption) (by simp; done) | refine Ex.alloc ?_ _ | refine Ex.drew ?_ | refine Ex.drewN ?_ _ | refine Ex.setCell ?_ (by first | (left; simp; done) | (right; simp; done) | (right; simp; omega)) _ | refine Ex.trans ?_ (by assumption)))) (h1.ex _))
  first | refine hK _ _ (by first | (with_reducible assumption) | (repeat (with_reducible first | exact Ex.refl _ _ | assumption | exact Ex.mono (by assumption) (by simp; done) | refine Ex.alloc ?_ _ | refine Ex.drew ?_ | refine Ex.drewN ?_ _ | refine Ex.setCell ?_ (by first | (left; simp; done) | (right; simp; done) | (right; simp; omega)) _ | refine Ex.trans ?_ (by assumption)))) ?_ | refine ⟨rfl, hK _ _ (by first | (with_reducible assumption) | (repeat (with_reducible first | exact Ex.refl _ _ | assumption | exact Ex.mono (by assumption) (by simp; done) | refine Ex.alloc ?_ _ | refine Ex.drew ?_ | refine Ex.drewN ?_ _ | refine Ex.setCell ?_ (by first | (left; simp; done) | (right; simp; done) | (right; simp; omega)) _ | refine Ex.trans ?_ (by assumption)))) ?_⟩
  clear hK K
  refine plan_pu (fun K hK => ?_)
  simp only [pick, List.drop_succ_cons, List.drop_zero, List.take_succ_cons, List.take_zero, List.cons_append, List.nil_append]
  (refine wpYield_want ?_ (by rfl) (fun w' hS' => ?_) ?_; rotate_left; ((try dsimp only at hS'); go_simp; try with_reducible rfl); simp only [Act.put, List.setIfInBounds_toArray, List.set_cons_zero, List.set_cons_succ])
  (refine wpYield_want ?_ (by rfl) (fun w' hS' => ?_) ?_; rotate_left; ((try dsimp only at hS'); go_simp; try with_reducible rfl); simp only [Act.put, List.setIfInBounds_toArray, List.set_cons_zero, List.set_cons_succ])
  (refine wpYield_skips 1 _ (by kernel_rfl) ?_; simp only [List.drop_succ_cons, List.drop_zero])
  refine wpYield_nil (hK _ ?_)
  clear hK K
  refine plan_st (fun K hK => ?_)
  simp only [pick, List.drop_succ_cons, List.drop_zero, List.take_succ_cons, List.take_zero, List.cons_append, List.nil_append]
  (refine wpYield_skips 1 _ (by kernel_rfl) ?_; simp only [List.drop_succ_cons, List.drop_zero])
  refine wpYield_nil (hK _ ?_)
  clear hK K
  refine plan_pu (fun K hK => ?_)
  simp only [pick, List.drop_succ_cons, List.drop_zero, List.take_succ_cons, List.take_zero, List.cons_append, List.nil_append]
  (refine wpYield_skips 1 _ (by kernel_rfl) ?_; simp only [List.drop_succ_cons, List.drop_zero])
  (refine wpYield_want ?_ (by rfl) (fun w' hS' => ?_) ?_; rotate_left; ((try dsimp only at hS'); go_simp; try with_reducible rfl); simp only [Act.put, List.setIfInBounds_toArray, List.set_cons_zero, List.set_cons_succ])
  (refine wpYield_want ?_ (by rfl) (fun w' hS' => ?_) ?_; rotate_left; ((try dsimp only at hS'); go_simp; try with_reducible rfl); simp only [Act.put, List.setIfInBounds_toArray, List.set_cons_zero, List.set_cons_succ])
  (refine wpYield_skips 5 _ (by kernel_rfl) ?_; simp only [List.drop_succ_cons, List.drop_zero])
  refine wpYield_nil (hK _ ?_)
  clear hK K
  refine plan_st (fun K hK => ?_)
  simp only [pick, List.drop_succ_cons, List.drop_zero, List.take_succ_cons, List.take_zero, List.cons_append, List.nil_append]
  (refine wpYield_skips 5 _ (by kernel_rfl) ?_; simp only [List.drop_succ_cons, List.drop_zero])
  refine wpYield_nil (hK _ ?_)
  clear hK K
  refine plan_pu (fun K hK => ?_)
  simp only [pick, List.drop_succ_cons, List.drop_zero, List.take_succ_cons, List.take_zero, List.cons_append, List.nil_append]
  (refine wpYield_skips 2 _ (by kernel_rfl) ?_; simp only [List.drop_succ_cons, List.drop_zero])
  refine wpYield_nil (hK _ ?_)
  clear hK K
  refine plan_st (fun K hK => ?_)
  simp only [pick, List.drop_succ_cons, List.drop_zero, List.take_succ_cons, List.take_zero, List.cons_append, List.nil_append]
  (refine wpYield_skips 2 _ (by kernel_rfl) ?_; simp only [List.drop_succ_cons, List.drop_zero])
  refine wpYield_nil (hK _ ?_)
  clear hK K
  refine plan_pu (fun K hK => ?_)
  simp only [pick, List.drop_succ_cons, List.drop_zero, List.take_succ_cons, List.take_zero, List.cons_append, List.nil_append]
  (refine wpYield_skips 1 _ (by kernel_rfl) ?_; simp only [List.drop_succ_cons, List.drop_zero])
  refine wpYield_nil (hK _ ?_)
  clear hK K
  refine plan_mv (fun K hK => ?_)
  simp only [pick, List.drop_succ_cons, List.drop_zero, List.take_succ_cons, List.take_zero, List.cons_append, List.nil_append]
  go_wp2_with (go_at_call 88; refine (within_c _ _ _ _).mono ?_; rintro e w1 ⟨rfl, h1⟩; replace h1 : Ex [] X w1 := Ex.trans (by first | (with_reducible assumption) | (repeat (with_reducible first | exact Ex.refl _ _ | assumption | exact Ex.mono (by assumption) (by simp; done) | refine Ex.alloc ?_ _ | refine Ex.drew ?_ | refine Ex.drewN ?_ _ | refine Ex.setCell ?_ (by first | (left; simp; done) | (right; simp; done) | (right; simp; omega)) _ | refine Ex.trans ?_ (by assumption)))) (h1.ex _))
  first | refine hK _ _ (by first | (with_reducible assumption) | (repeat (with_reducible first | exact Ex.refl _ _ | assumption | exact Ex.mono (by assumption) (by simp; done) | refine Ex.alloc ?_ _ | refine Ex.drew ?_ | refine Ex.drewN ?_ _ | refine Ex.setCell ?_ (by first | (left; simp; done) | (right; simp; done) | (right; simp; omega)) _ | refine Ex.trans ?_ (by assumption)))) ?_ | refine ⟨rfl, hK _ _ (by first | (with_reducible assumption) | (repeat (with_reducible first | exact Ex.refl _ _ | assumption | exact Ex.mono (by assumption) (by simp; done) | refine Ex.alloc ?_ _ | refine Ex.drew ?_ | refine Ex.drewN ?_ _ | refine Ex.setCell ?_ (by first | (left; simp; done) | (right; simp; done) | (right; simp; omega)) _ | refine Ex.trans ?_ (by assumption)))) ?_⟩
  clear hK K
  refine plan_pu (fun K hK => ?_)
  simp only [pick, List.drop_succ_cons, List.drop_zero, List.take_succ_cons, List.take_zero, List.cons_append, List.nil_append]
  (refine wpYield_skips 1 _ (by kernel_rfl) ?_; simp only [List.drop_succ_cons, List.drop_zero])
  (refine wpYield_want ?_ (by rfl) (fun w' hS' => ?_) ?_; rotate_left; ((try dsimp only at hS'); go_simp; try with_reducible rfl); simp only [Act.put, List.setIfInBounds_toArray, List.set_cons_zero, List.set_cons_succ])
  (refine wpYield_want ?_ (by rfl) (fun w' hS' => ?_) ?_; rotate_left; ((try dsimp only at hS'); go_simp; try with_reducible rfl); simp only [Act.put, List.setIfInBounds_toArray, List.set_cons_zero, List.set_cons_succ])
  refine wpYield_nil (hK _ ?_)
  clear hK K
  refine plan_nil ?_
  go_wp2_with fail
  go_returns
  refine ⟨none, 0, by simp [acceptM, hbl, hb0], ?_, hwX.trans ?_⟩
  · rw [show (acceptM p ones (n + 1) lows highs (⟨xl, xa, xr⟩ :: rest)).1 = [] from by simp [acceptM, hbl, hb0]]
    exact Sl.nil _ _ _
  · (repeat (with_reducible first | exact Ex.refl _ _ | assumption | exact Ex.mono (by assumption) (by simp; done) | refine Ex.alloc ?_ _ | refine Ex.drew ?_ | refine Ex.drewN ?_ _ | refine Ex.setCell ?_ (by first | (left; simp; done) | (right; simp; done) | (right; simp; omega)) _ | refine Ex.trans ?_ (by assumption)))

set_option maxRecDepth 100000 in
set_option maxHeartbeats 16000000 in
theorem accept_noreason_c (p : Recipe) (a : Option Addr) (cap : Nat) (a2 : Option Addr) (cap2 : Nat) (ones : List Mar) (hn : p.lots.length ≤ 1000) (ho : ones.length ≤ p.lots.length) (n : Nat) (la ha : Option Addr) (lc hc : Nat) (lows highs : List Int) (pa : Option Addr) (pc : Nat) (xl xa xr : Int) (rest : List Split) (w : World) (hs : Sl 8 Mar.cells w a2 cap2 ones) (hl : SlI w la lc lows) (hh : SlI w ha hc highs) (hp : Sl 3 Split.cells w pa pc (⟨xl, xa, xr⟩ :: rest)) (hel : Hid (lows.length = p.lots.length)) (heh : Hid (highs.length = p.lots.length)) (hbl : (xl == -1) = false) (hb0 : withinB xl 0 (p.lots.length - 1) = true) (hb1 : (xr == 0) = false) :
    Calls Try.prog 75 #[.agg #[.slice a p.lots.length cap, .int .i64 p.mass.lo, .int .i64 p.mass.hi, .int .i64 p.target.a.lo, .int .i64 p.target.a.hi, .int .i64 p.target.b.lo, .int .i64 p.target.b.hi, .int .i64 p.target.c.lo, .int .i64 p.target.c.hi, .slice a2 ones.length cap2], .agg #[.slice la lows.length lc, .slice ha highs.length hc], .slice pa (Split.mk xl xa xr :: rest).length pc] w (AcceptPost p ones (n + 1) lows highs (Split.mk xl xa xr :: rest) w) := by
  have hpl := hp.le; have hpb := hp.big
  obtain ⟨rr, hrun, hSr, hbr⟩ := hp.drop eiSplit 1 (by simp)
  simp only [List.drop_succ_cons, List.drop_zero] at hrun hSr
  obtain ⟨bp, offp, rfl, hbp, hpp⟩ := hp.cells (by simp)
  have s0 := hpp 0 (by simp) 0 _ rfl
  have s1 := hpp 0 (by simp) 1 _ rfl
  have s2 := hpp 0 (by simp) 2 _ rfl
  simp only [Nat.zero_mul, Nat.add_zero] at s0 s1 s2
  clear hpp hp hbr
  obtain ⟨L, hL, hL0⟩ : ∃ L, L = (Split.mk xl xa xr :: rest).length ∧ 0 < L := ⟨_, rfl, by simp⟩
  rw [← hL] at hrun hpl ⊢
  clear hL
  have hL1 : ¬ L = 0 := by omega
  have hL2 : ((L : Int) == 0) = false := by simp; omega
  have hrun1 : ∀ w', (Instr.sliceAt 53 (.slice (some ⟨bp, offp, none⟩) L pc) (some (.int .i64 1)) none none).run Try.prog w' = .ok (.slice rr rest.length (pc - 1)) w' := hrun
  have hrun2 : ∀ w', (Instr.slice 53 (.slice (some ⟨bp, offp, none⟩) L pc) (some (.int .i64 1)) none none).run Try.prog w' = .ok (.slice rr rest.length (pc - 1)) w' := fun w' => by
    rw [← run_sliceAt_slice w' 53 _ _ _ _ (by rfl)]; exact hrun1 w'
  clear hrun
  have hle1 := hl.le; have hgl := hl.big; have hle2 := hh.le; have hgh := hh.big
  go_enter Try.func75, Try.ntmps75
  go_upto_region 1 with (fail)
  refine wp_at (fun W => Ext w W ∧ w.heap.size + 2 = W.heap.size ∧ W.heap[w.heap.size]? = some (.cells #[.slice a p.lots.length cap, .int .i64 p.mass.lo, .int .i64 p.mass.hi, .int .i64 p.target.a.lo, .int .i64 p.target.a.hi, .int .i64 p.target.b.lo, .int .i64 p.target.b.hi, .int .i64 p.target.c.lo, .int .i64 p.target.c.hi, .slice a2 ones.length cap2] 119 (0, 0)) ∧ W.heap[w.heap.size + 1]? = some (.cells #[.slice la lows.length lc, .slice ha highs.length hc] 128 (0, 0))) ⟨by (repeat (with_reducible first | exact Ex.refl _ _ | assumption | exact Ex.mono (by assumption) (by simp; done) | refine Ex.alloc ?_ _ | refine Ex.drew ?_ | refine Ex.drewN ?_ _ | refine Ex.setCell ?_ (by first | (left; simp; done) | (right; simp; done) | (right; simp; omega)) _ | refine Ex.trans ?_ (by assumption))), by simp, blk_alloc (blk_new _ _), by have h := blk_new ((w).alloc (.cells #[.slice a p.lots.length cap, .int .i64 p.mass.lo, .int .i64 p.mass.hi, .int .i64 p.target.a.lo, .int .i64 p.target.a.hi, .int .i64 p.target.b.lo, .int .i64 p.target.b.hi, .int .i64 p.target.c.lo, .int .i64 p.target.c.hi, .slice a2 ones.length cap2] 119 (0, 0))) (.cells #[.slice la lows.length lc, .slice ha highs.length hc] 128 (0, 0)); simpa using h⟩ (fun W hW => ?_)
  obtain ⟨hr0, hsz, hB0, hB1⟩ := hW
  have hr : Ex [] W W := Ex.refl _ _
  have f0_0 := cellE (S := []) hB0 (by first | (simp; done) | (simp; omega)) 0 rfl
  have f0_1 := cellE (S := []) hB0 (by first | (simp; done) | (simp; omega)) 1 rfl
  have f0_2 := cellE (S := []) hB0 (by first | (simp; done) | (simp; omega)) 2 rfl
  have f0_3 := cellE (S := []) hB0 (by first | (simp; done) | (simp; omega)) 3 rfl
  have f0_4 := cellE (S := []) hB0 (by first | (simp; done) | (simp; omega)) 4 rfl
  have f0_5 := cellE (S := []) hB0 (by first | (simp; done) | (simp; omega)) 5 rfl
  have f0_6 := cellE (S := []) hB0 (by first | (simp; done) | (simp; omega)) 6 rfl
  have f0_7 := cellE (S := []) hB0 (by first | (simp; done) | (simp; omega)) 7 rfl
  have f0_8 := cellE (S := []) hB0 (by first | (simp; done) | (simp; omega)) 8 rfl
  have f0_9 := cellE (S := []) hB0 (by first | (simp; done) | (simp; omega)) 9 rfl
  have f1_0 := cellE (S := []) hB1 (by first | (simp; done) | (simp; omega)) 0 rfl
  have f1_1 := cellE (S := []) hB1 (by first | (simp; done) | (simp; omega)) 1 rfl
  clear hB0 hB1
  have hsz' := Nat.le_of_eq hsz.symm; have hsz'' := Nat.le_of_eq hsz; clear hsz
  replace s0 := fun w' (h : Ex [] W w') => (hr0.trans h).cell (by simp) s0
  replace s1 := fun w' (h : Ex [] W w') => (hr0.trans h).cell (by simp) s1
  replace s2 := fun w' (h : Ex [] W w') => (hr0.trans h).cell (by simp) s2
  go_upto_region 3 with fail
  refine region_plan (fun w' => Ex [] W w') [.pu [0, 1, 3, 4], .st [2], .mv 5, .tl [6], .pu [7]] (by kernel_rfl) (by kernel_rfl) (Ex.drew (by first | (with_reducible assumption) | (repeat (with_reducible first | exact Ex.refl _ _ | assumption | exact Ex.mono (by assumption) (by simp; done) | refine Ex.alloc ?_ _ | refine Ex.drew ?_ | refine Ex.drewN ?_ _ | refine Ex.setCell ?_ (by first | (left; simp; done) | (right; simp; done) | (right; simp; omega)) _ | refine Ex.trans ?_ (by assumption))))) ?_
  refine plan_pu (fun K hK => ?_)
  simp only [pick, List.drop_succ_cons, List.drop_zero, List.take_succ_cons, List.take_zero, List.cons_append, List.nil_append]
  iterate 4 (first | (refine wpYield_want ?_ (by rfl) (fun w' hS' => ?_) ?_; rotate_left; ((try dsimp only at hS'); go_simp; try with_reducible rfl); simp only [Act.put, List.setIfInBounds_toArray, List.set_cons_zero, List.set_cons_succ]) | (refine wpYield_skip (by rfl) ?_; simp only [Act.put, List.setIfInBounds_toArray, List.set_cons_zero, List.set_cons_succ]))
  refine wpYield_nil (hK _ ?_)
  clear hK K
  refine plan_st (fun K hK => ?_)
  simp only [pick, List.drop_succ_cons, List.drop_zero, List.take_succ_cons, List.take_zero, List.cons_append, List.nil_append]
  iterate 1 (first | (refine wpYield_want ?_ (by rfl) (fun w' hS' => ?_) ?_; rotate_left; ((try dsimp only at hS'); go_simp; try with_reducible rfl); simp only [Act.put, List.setIfInBounds_toArray, List.set_cons_zero, List.set_cons_succ]) | (refine wpYield_skip (by rfl) ?_; simp only [Act.put, List.setIfInBounds_toArray, List.set_cons_zero, List.set_cons_succ]))
  refine wpYield_nil (hK _ ?_)
  clear hK K
  refine plan_mv (fun K hK => ?_)
  simp only [pick, List.drop_succ_cons, List.drop_zero, List.take_succ_cons, List.take_zero, List.cons_append, List.nil_append]
  go_wp2_with fail
  first | refine hK _ _ (by first | (with_reducible assumption) | (repeat (with_reducible first | exact Ex.refl _ _ | assumption | exact Ex.mono (by assumption) (by simp; done) | refine Ex.alloc ?_ _ | refine Ex.drew ?_ | refine Ex.drewN ?_ _ | refine Ex.setCell ?_ (by first | (left; simp; done) | (right; simp; done) | (right; simp; omega)) _ | refine Ex.trans ?_ (by assumption)))) ?_ | refine ⟨rfl, hK _ _ (by first | (with_reducible assumption) | (repeat (with_reducible first | exact Ex.refl _ _ | assumption | exact Ex.mono (by assumption) (by simp; done) | refine Ex.alloc ?_ _ | refine Ex.drew ?_ | refine Ex.drewN ?_ _ | refine Ex.setCell ?_ (by first | (left; simp; done) | (right; simp; done) | (right; simp; omega)) _ | refine Ex.trans ?_ (by assumption)))) ?_⟩
  clear hK K
  refine plan_tl (fun K hK => ?_)
  simp only [pick, List.drop_succ_cons, List.drop_zero, List.take_succ_cons, List.take_zero, List.cons_append, List.nil_append]
  go_wp2_with fail
  try refine ⟨rfl, hK _ _ ?_⟩
  try clear hK K
  refine plan_pu (fun K hK => ?_)
  simp only [pick, List.drop_succ_cons, List.drop_zero, List.take_succ_cons, List.take_zero, List.cons_append, List.nil_append]
  iterate 1 (first | (refine wpYield_want ?_ (by rfl) (fun w' hS' => ?_) ?_; rotate_left; ((try dsimp only at hS'); go_simp; try with_reducible rfl); simp only [Act.put, List.setIfInBounds_toArray, List.set_cons_zero, List.set_cons_succ]) | (refine wpYield_skip (by rfl) ?_; simp only [Act.put, List.setIfInBounds_toArray, List.set_cons_zero, List.set_cons_succ]))
  refine wpYield_nil (hK _ ?_)
  clear hK K
  refine plan_nil ?_
  go_upto_region 4 with fail
  refine wp_at (fun X => Ext W X ∧ X.heap[W.heap.size]? = some (.cells #[.int .i64 xl, .int .i64 xa, .int .i64 xr] 55 (0, 0))) ⟨by (repeat (with_reducible first | exact Ex.refl _ _ | assumption | exact Ex.mono (by assumption) (by simp; done) | refine Ex.alloc ?_ _ | refine Ex.drew ?_ | refine Ex.drewN ?_ _ | refine Ex.setCell ?_ (by first | (left; simp; done) | (right; simp; done) | (right; simp; omega)) _ | refine Ex.trans ?_ (by assumption))), by first | exact blk_new _ _ | (refine blk_to (blk_set (blk_set (blk_set (blk_new _ _) 0 _) 1 _) 2 _) ?_; kernel_rfl)⟩ (fun X hX => ?_)
  obtain ⟨hX, hC⟩ := hX
  clear s0 s1 s2 hrun1 hrun2
  replace f0_0 := fun w' (h : Ex [] X w') => f0_0 w' (hX.trans (h.mono (by simp)))
  replace f0_1 := fun w' (h : Ex [] X w') => f0_1 w' (hX.trans (h.mono (by simp)))
  replace f0_2 := fun w' (h : Ex [] X w') => f0_2 w' (hX.trans (h.mono (by simp)))
  replace f0_3 := fun w' (h : Ex [] X w') => f0_3 w' (hX.trans (h.mono (by simp)))
  replace f0_4 := fun w' (h : Ex [] X w') => f0_4 w' (hX.trans (h.mono (by simp)))
  replace f0_5 := fun w' (h : Ex [] X w') => f0_5 w' (hX.trans (h.mono (by simp)))
  replace f0_6 := fun w' (h : Ex [] X w') => f0_6 w' (hX.trans (h.mono (by simp)))
  replace f0_7 := fun w' (h : Ex [] X w') => f0_7 w' (hX.trans (h.mono (by simp)))
  replace f0_8 := fun w' (h : Ex [] X w') => f0_8 w' (hX.trans (h.mono (by simp)))
  replace f0_9 := fun w' (h : Ex [] X w') => f0_9 w' (hX.trans (h.mono (by simp)))
  replace f1_0 := fun w' (h : Ex [] X w') => f1_0 w' (hX.trans (h.mono (by simp)))
  replace f1_1 := fun w' (h : Ex [] X w') => f1_1 w' (hX.trans (h.mono (by simp)))
  have c_0 := cellE (S := []) hC (by first | (simp; done) | (simp; omega)) 0 rfl
  have c_1 := cellE (S := []) hC (by first | (simp; done) | (simp; omega)) 1 rfl
  have c_2 := cellE (S := []) hC (by first | (simp; done) | (simp; omega)) 2 rfl
  have hrX : Ex [] X X := Ex.refl _ _
  clear hC
  have hwX : Ext w X := hr0.trans hX
  have hx0 : 0 ≤ xl ∧ xl ≤ p.lots.length - 1 := by simpa [withinB] using hb0
  have hx1 : 0 ≤ xl ∧ xl < p.lots.length := by have h := hx0.2; omega
  clear hx0
  obtain ⟨i, rfl⟩ : ∃ i : Nat, xl = (i : Int) := ⟨xl.toNat, by omega⟩
  have hk0 : (0 : Int) ≤ (i : Int) := by omega
  have hk1 : (i : Int) < (lows.length : Int) := by have := hel.out; omega
  have hk2 : (i : Int) < (highs.length : Int) := by have := heh.out; omega
  have hn1 : lows.length ≤ 1000 := by have := hel.out; omega
  have hn2 : highs.length ≤ 1000 := by have := heh.out; omega
  obtain ⟨bl, offl, rfl, hbl', hll⟩ := hl.cells (by omega)
  have hlx : ∀ w', Ex [] X w' → w'.cell? ⟨bl, offl + i, none⟩ = some (.int .i64 (nth lows 0 i)) := fun w' h => by
    have c0 := (hwX.trans h).cell (by simp) (hll i (by omega) 0 _ rfl)
    rwa [Nat.add_zero, Nat.mul_one, nth_eq lows 0] at c0
  clear hll
  obtain ⟨bh, offh, rfl, hbh', hhh⟩ := hh.cells (by omega)
  have hhx : ∀ w', Ex [] X w' → w'.cell? ⟨bh, offh + i, none⟩ = some (.int .i64 (nth highs 0 i)) := fun w' h => by
    have c0 := (hwX.trans h).cell (by simp) (hhh i (by omega) 0 _ rfl)
    rwa [Nat.add_zero, Nat.mul_one, nth_eq highs 0] at c0
  clear hhh
  have hb1' : (xr != 0) = true := by simpa using hb1
  go_wp2_with fail
  refine region_plan (fun w' => Ex [] X w') [.pu [0, 2, 3], .st [1, 4, 5], .pu [6], .mv 7, .pu [8, 9, 10], .st [11], .pu [12, 13, 14, 15, 17, 19, 23, 25], .st [16, 18, 20, 24, 26], .pu [21, 27], .st [22, 28], .pu [29], .mv 30, .pu [31, 32, 33]] (by kernel_rfl) (by kernel_rfl) (Ex.drew (by first | (with_reducible assumption) | (repeat (with_reducible first | exact Ex.refl _ _ | assumption | exact Ex.mono (by assumption) (by simp; done) | refine Ex.alloc ?_ _ | refine Ex.drew ?_ | refine Ex.drewN ?_ _ | refine Ex.setCell ?_ (by first | (left; simp; done) | (right; simp; done) | (right; simp; omega)) _ | refine Ex.trans ?_ (by assumption))))) ?_
  refine plan_pu (fun K hK => ?_)
  simp only [pick, List.drop_succ_cons, List.drop_zero, List.take_succ_cons, List.take_zero, List.cons_append, List.nil_append]
  (refine wpYield_want ?_ (by rfl) (fun w' hS' => ?_) ?_; rotate_left; ((try dsimp only at hS'); go_simp; try with_reducible rfl); simp only [Act.put, List.setIfInBounds_toArray, List.set_cons_zero, List.set_cons_succ])
  (refine wpYield_want ?_ (by rfl) (fun w' hS' => ?_) ?_; rotate_left; ((try dsimp only at hS'); go_simp; try with_reducible rfl); simp only [Act.put, List.setIfInBounds_toArray, List.set_cons_zero, List.set_cons_succ])
  (refine wpYield_want ?_ (by rfl) (fun w' hS' => ?_) ?_; rotate_left; ((try dsimp only at hS'); go_simp; try with_reducible rfl); simp only [Act.put, List.setIfInBounds_toArray, List.set_cons_zero, List.set_cons_succ])
  refine wpYield_nil (hK _ ?_)
  clear hK K
  refine plan_st (fun K hK => ?_)
  simp only [pick, List.drop_succ_cons, List.drop_zero, List.take_succ_cons, List.take_zero, List.cons_append, List.nil_append]
  (refine wpYield_want ?_ (by rfl) (fun w' hS' => ?_) ?_; rotate_left; ((try dsimp only at hS'); go_simp; try with_reducible rfl); simp only [Act.put, List.setIfInBounds_toArray, List.set_cons_zero, List.set_cons_succ])
  (refine wpYield_want ?_ (by rfl) (fun w' hS' => ?_) ?_; rotate_left; ((try dsimp only at hS'); go_simp; try with_reducible rfl); simp only [Act.put, List.setIfInBounds_toArray, List.set_cons_zero, List.set_cons_succ])
  (refine wpYield_want ?_ (by rfl) (fun w' hS' => ?_) ?_; rotate_left; ((try dsimp only at hS'); go_simp; try with_reducible rfl); simp only [Act.put, List.setIfInBounds_toArray, List.set_cons_zero, List.set_cons_succ])
  refine wpYield_nil (hK _ ?_)
  clear hK K
  refine plan_pu (fun K hK => ?_)
  simp only [pick, List.drop_succ_cons, List.drop_zero, List.take_succ_cons, List.take_zero, List.cons_append, List.nil_append]
  (refine wpYield_want ?_ (by rfl) (fun w' hS' => ?_) ?_; rotate_left; ((try dsimp only at hS'); go_simp; try with_reducible rfl); simp only [Act.put, List.setIfInBounds_toArray, List.set_cons_zero, List.set_cons_succ])
  refine wpYield_nil (hK _ ?_)
  clear hK K
  refine plan_mv (fun K hK => ?_)
  simp only [pick, List.drop_succ_cons, List.drop_zero, List.take_succ_cons, List.take_zero, List.cons_append, List.nil_append]
  go_wp2_with (go_at_call 88; refine (within_c _ _ _ _).mono ?_; rintro e w1 ⟨rfl, h1⟩; replace h1 : Ex [] X w1 := Ex.trans (by first | (with_reducible assumption) | (repeat (with_reducible first | exact Ex.refl _ _ | assumption | exact Ex.mono (by assumption) (by simp; done) | refine Ex.alloc ?_ _ | refine Ex.drew ?_ | refine Ex.drewN ?_ _ | refine Ex.setCell ?_ (by first | (left; simp; done) | (right; simp; done) | (right; simp; omega)) _ | refine Ex.trans ?_ (by assumption)))) (h1.ex _))
  first | refine hK _ _ (by first | (with_reducible assumption) | (repeat (with_reducible first | exact Ex.refl _ _ | assumption | exact Ex.mono (by assumption) (by simp; done) | refine Ex.alloc ?_ _ | refine Ex.drew ?_ | refine Ex.drewN ?_ _ | refine Ex.setCell ?_ (by first | (left; simp; done) | (right; simp; done) | (right; simp; omega)) _ | refine Ex.trans ?_ (by assumption)))) ?_ | refine ⟨rfl, hK _ _ (by first | (with_reducible assumption) | (repeat (with_reducible first | exact Ex.refl _ _ | assumption | exact Ex.mono (by assumption) (by simp; done) | refine Ex.alloc ?_ _ | refine Ex.drew ?_ | refine Ex.drewN ?_ _ | refine Ex.setCell ?_ (by first | (left; simp; done) | (right; simp; done) | (right; simp; omega)) _ | refine Ex.trans ?_ (by assumption)))) ?_⟩
  clear hK K
  refine plan_pu (fun K hK => ?_)
  simp only [pick, List.drop_succ_cons, List.drop_zero, List.take_succ_cons, List.take_zero, List.cons_append, List.nil_append]
  (refine wpYield_want ?_ (by rfl) (fun w' hS' => ?_) ?_; rotate_left; ((try dsimp only at hS'); go_simp; try with_reducible rfl); simp only [Act.put, List.setIfInBounds_toArray, List.set_cons_zero, List.set_cons_succ])
  (refine wpYield_want ?_ (by rfl) (fun w' hS' => ?_) ?_; rotate_left; ((try dsimp only at hS'); go_simp; try with_reducible rfl); simp only [Act.put, List.setIfInBounds_toArray, List.set_cons_zero, List.set_cons_succ])
  (refine wpYield_want ?_ (by rfl) (fun w' hS' => ?_) ?_; rotate_left; ((try dsimp only at hS'); go_simp; try with_reducible rfl); simp only [Act.put, List.setIfInBounds_toArray, List.set_cons_zero, List.set_cons_succ])
  refine wpYield_nil (hK _ ?_)
  clear hK K
  refine plan_st (fun K hK => ?_)
  simp only [pick, List.drop_succ_cons, List.drop_zero, List.take_succ_cons, List.take_zero, List.cons_append, List.nil_append]
  (refine wpYield_want ?_ (by rfl) (fun w' hS' => ?_) ?_; rotate_left; ((try dsimp only at hS'); go_simp; try with_reducible rfl); simp only [Act.put, List.setIfInBounds_toArray, List.set_cons_zero, List.set_cons_succ])
  refine wpYield_nil (hK _ ?_)
  clear hK K
  refine plan_pu (fun K hK => ?_)
  simp only [pick, List.drop_succ_cons, List.drop_zero, List.take_succ_cons, List.take_zero, List.cons_append, List.nil_append]
  (refine wpYield_want ?_ (by rfl) (fun w' hS' => ?_) ?_; rotate_left; ((try dsimp only at hS'); go_simp; try with_reducible rfl); simp only [Act.put, List.setIfInBounds_toArray, List.set_cons_zero, List.set_cons_succ])
  (refine wpYield_want ?_ (by rfl) (fun w' hS' => ?_) ?_; rotate_left; ((try dsimp only at hS'); go_simp; try with_reducible rfl); simp only [Act.put, List.setIfInBounds_toArray, List.set_cons_zero, List.set_cons_succ])
  (refine wpYield_want ?_ (by rfl) (fun w' hS' => ?_) ?_; rotate_left; ((try dsimp only at hS'); go_simp; try with_reducible rfl); simp only [Act.put, List.setIfInBounds_toArray, List.set_cons_zero, List.set_cons_succ])
  (refine wpYield_skips 5 _ (by kernel_rfl) ?_; simp only [List.drop_succ_cons, List.drop_zero])
  refine wpYield_nil (hK _ ?_)
  clear hK K
  refine plan_st (fun K hK => ?_)
  simp only [pick, List.drop_succ_cons, List.drop_zero, List.take_succ_cons, List.take_zero, List.cons_append, List.nil_append]
  (refine wpYield_skips 5 _ (by kernel_rfl) ?_; simp only [List.drop_succ_cons, List.drop_zero])
  refine wpYield_nil (hK _ ?_)
  clear hK K
  refine plan_pu (fun K hK => ?_)
  simp only [pick, List.drop_succ_cons, List.drop_zero, List.take_succ_cons, List.take_zero, List.cons_append, List.nil_append]
  (refine wpYield_skips 2 _ (by kernel_rfl) ?_; simp only [List.drop_succ_cons, List.drop_zero])
  refine wpYield_nil (hK _ ?_)
  clear hK K
  refine plan_st (fun K hK => ?_)
  simp only [pick, List.drop_succ_cons, List.drop_zero, List.take_succ_cons, List.take_zero, List.cons_append, List.nil_append]
  (refine wpYield_skips 2 _ (by kernel_rfl) ?_; simp only [List.drop_succ_cons, List.drop_zero])
  refine wpYield_nil (hK _ ?_)
  clear hK K
  refine plan_pu (fun K hK => ?_)
  simp only [pick, List.drop_succ_cons, List.drop_zero, List.take_succ_cons, List.take_zero, List.cons_append, List.nil_append]
  (refine wpYield_skips 1 _ (by kernel_rfl) ?_; simp only [List.drop_succ_cons, List.drop_zero])
  refine wpYield_nil (hK _ ?_)
  clear hK K
  refine plan_mv (fun K hK => ?_)
  simp only [pick, List.drop_succ_cons, List.drop_zero, List.take_succ_cons, List.take_zero, List.cons_append, List.nil_append]
  go_wp2_with (go_at_call 88; refine (within_c _ _ _ _).mono ?_; rintro e w1 ⟨rfl, h1⟩; replace h1 : Ex [] X w1 := Ex.trans (by first | (with_reducible assumption) | (repeat (with_reducible first | exact Ex.refl _ _ | assumption | exact Ex.mono (by assumption) (by simp; done) | refine Ex.alloc ?_ _ | refine Ex.drew ?_ | refine Ex.drewN ?_ _ | refine Ex.setCell ?_ (by first | (left; simp; done) | (right; simp; done) | (right; simp; omega)) _ | refine Ex.trans ?_ (by assumption)))) (h1.ex _))
  first | refine hK _ _ (by first | (with_reducible assumption) | (repeat (with_reducible first | exact Ex.refl _ _ | assumption | exact Ex.mono (by assumption) (by simp; done) | refine Ex.alloc ?_ _ | refine Ex.drew ?_ | refine Ex.drewN ?_ _ | refine Ex.setCell ?_ (by first | (left; simp; done) | (right; simp; done) | (right; simp; omega)) _ | refine Ex.trans ?_ (by assumption)))) ?_ | refine ⟨rfl, hK _ _ (by first | (with_reducible assumption) | (repeat (with_reducible first | exact Ex.refl _ _ | assumption | exact Ex.mono (by assumption) (by simp; done) | refine Ex.alloc ?_ _ | refine Ex.drew ?_ | refine Ex.drewN ?_ _ | refine Ex.setCell ?_ (by first | (left; simp; done) | (right; simp; done) | (right; simp; omega)) _ | refine Ex.trans ?_ (by assumption)))) ?_⟩
  clear hK K
  refine plan_pu (fun K hK => ?_)
  simp only [pick, List.drop_succ_cons, List.drop_zero, List.take_succ_cons, List.take_zero, List.cons_append, List.nil_append]
  (refine wpYield_skips 1 _ (by kernel_rfl) ?_; simp only [List.drop_succ_cons, List.drop_zero])
  (refine wpYield_want ?_ (by rfl) (fun w' hS' => ?_) ?_; rotate_left; ((try dsimp only at hS'); go_simp; try with_reducible rfl); simp only [Act.put, List.setIfInBounds_toArray, List.set_cons_zero, List.set_cons_succ])
  (refine wpYield_want ?_ (by rfl) (fun w' hS' => ?_) ?_; rotate_left; ((try dsimp only at hS'); go_simp; try with_reducible rfl); simp only [Act.put, List.setIfInBounds_toArray, List.set_cons_zero, List.set_cons_succ])
  refine wpYield_nil (hK _ ?_)
  clear hK K
  refine plan_nil ?_
  go_wp2_with fail
  go_returns
  refine ⟨none, 0, by simp [acceptM, hbl, hb0, hb1], ?_, hwX.trans ?_⟩
  · rw [show (acceptM p ones (n + 1) lows highs (⟨↑i, xa, xr⟩ :: rest)).1 = [] from by simp [acceptM, hbl, hb0, hb1]]
    exact Sl.nil _ _ _
  · (repeat (with_reducible first | exact Ex.refl _ _ | assumption | exact Ex.mono (by assumption) (by simp; done) | refine Ex.alloc ?_ _ | refine Ex.drew ?_ | refine Ex.drewN ?_ _ | refine Ex.setCell ?_ (by first | (left; simp; done) | (right; simp; done) | (right; simp; omega)) _ | refine Ex.trans ?_ (by assumption)))

set_option maxRecDepth 100000 in
set_option maxHeartbeats 16000000 in
theorem accept_nocut_c (p : Recipe) (a : Option Addr) (cap : Nat) (a2 : Option Addr) (cap2 : Nat) (ones : List Mar) (hn : p.lots.length ≤ 1000) (ho : ones.length ≤ p.lots.length) (n : Nat) (la ha : Option Addr) (lc hc : Nat) (lows highs : List Int) (pa : Option Addr) (pc : Nat) (xl xa xr : Int) (rest : List Split) (w : World) (hs : Sl 8 Mar.cells w a2 cap2 ones) (hl : SlI w la lc lows) (hh : SlI w ha hc highs) (hp : Sl 3 Split.cells w pa pc (⟨xl, xa, xr⟩ :: rest)) (hel : Hid (lows.length = p.lots.length)) (heh : Hid (highs.length = p.lots.length)) (hbl : (xl == -1) = false) (hb0 : withinB xl 0 (p.lots.length - 1) = true) (hb1 : (xr == 0) = true) (hb2 : withinB xa (nth lows 0 xl.toNat) (wrap64 (nth highs 0 xl.toNat - 1)) = false) :
    Calls Try.prog 75 #[.agg #[.slice a p.lots.length cap, .int .i64 p.mass.lo, .int .i64 p.mass.hi, .int .i64 p.target.a.lo, .int .i64 p.target.a.hi, .int .i64 p.target.b.lo, .int .i64 p.target.b.hi, .int .i64 p.target.c.lo, .int .i64 p.target.c.hi, .slice a2 ones.length cap2], .agg #[.slice la lows.length lc, .slice ha highs.length hc], .slice pa (Split.mk xl xa xr :: rest).length pc] w (AcceptPost p ones (n + 1) lows highs (Split.mk xl xa xr :: rest) w) := by
  have hpl := hp.le; have hpb := hp.big
  obtain ⟨rr, hrun, hSr, hbr⟩ := hp.drop eiSplit 1 (by simp)
  simp only [List.drop_succ_cons, List.drop_zero] at hrun hSr
  obtain ⟨bp, offp, rfl, hbp, hpp⟩ := hp.cells (by simp)
  have s0 := hpp 0 (by simp) 0 _ rfl
  have s1 := hpp 0 (by simp) 1 _ rfl
  have s2 := hpp 0 (by simp) 2 _ rfl
  simp only [Nat.zero_mul, Nat.add_zero] at s0 s1 s2
  clear hpp hp hbr
  obtain ⟨L, hL, hL0⟩ : ∃ L, L = (Split.mk xl xa xr :: rest).length ∧ 0 < L := ⟨_, rfl, by simp⟩
  rw [← hL] at hrun hpl ⊢
  clear hL
  have hL1 : ¬ L = 0 := by omega
  have hL2 : ((L : Int) == 0) = false := by simp; omega
  have hrun1 : ∀ w', (Instr.sliceAt 53 (.slice (some ⟨bp, offp, none⟩) L pc) (some (.int .i64 1)) none none).run Try.prog w' = .ok (.slice rr rest.length (pc - 1)) w' := hrun
  have hrun2 : ∀ w', (Instr.slice 53 (.slice (some ⟨bp, offp, none⟩) L pc) (some (.int .i64 1)) none none).run Try.prog w' = .ok (.slice rr rest.length (pc - 1)) w' := fun w' => by
    rw [← run_sliceAt_slice w' 53 _ _ _ _ (by rfl)]; exact hrun1 w'
  clear hrun
  have hle1 := hl.le; have hgl := hl.big; have hle2 := hh.le; have hgh := hh.big
  go_enter Try.func75, Try.ntmps75
  go_upto_region 1 with (fail)
  refine wp_at (fun W => Ext w W ∧ w.heap.size + 2 = W.heap.size ∧ W.heap[w.heap.size]? = some (.cells #[.slice a p.lots.length cap, .int .i64 p.mass.lo, .int .i64 p.mass.hi, .int .i64 p.target.a.lo, .int .i64 p.target.a.hi, .int .i64 p.target.b.lo, .int .i64 p.target.b.hi, .int .i64 p.target.c.lo, .int .i64 p.target.c.hi, .slice a2 ones.length cap2] 119 (0, 0)) ∧ W.heap[w.heap.size + 1]? = some (.cells #[.slice la lows.length lc, .slice ha highs.length hc] 128 (0, 0))) ⟨by (repeat (with_reducible first | exact Ex.refl _ _ | assumption | exact Ex.mono (by assumption) (by simp; done) | refine Ex.alloc ?_ _ | refine Ex.drew ?_ | refine Ex.drewN ?_ _ | refine Ex.setCell ?_ (by first | (left; simp; done) | (right; simp; done) | (right; simp; omega)) _ | refine Ex.trans ?_ (by assumption))), by simp, blk_alloc (blk_new _ _), by have h := blk_new ((w).alloc (.cells #[.slice a p.lots.length cap, .int .i64 p.mass.lo, .int .i64 p.mass.hi, .int .i64 p.target.a.lo, .int .i64 p.target.a.hi, .int .i64 p.target.b.lo, .int .i64 p.target.b.hi, .int .i64 p.target.c.lo, .int .i64 p.target.c.hi, .slice a2 ones.length cap2] 119 (0, 0))) (.cells #[.slice la lows.length lc, .slice ha highs.length hc] 128 (0, 0)); simpa using h⟩ (fun W hW => ?_)
  obtain ⟨hr0, hsz, hB0, hB1⟩ := hW
  have hr : Ex [] W W := Ex.refl _ _
  have f0_0 := cellE (S := []) hB0 (by first | (simp; done) | (simp; omega)) 0 rfl
  have f0_1 := cellE (S := []) hB0 (by first | (simp; done) | (simp; omega)) 1 rfl
  have f0_2 := cellE (S := []) hB0 (by first | (simp; done) | (simp; omega)) 2 rfl
  have f0_3 := cellE (S := []) hB0 (by first | (simp; done) | (simp; omega)) 3 rfl
  have f0_4 := cellE (S := []) hB0 (by first | (simp; done) | (simp; omega)) 4 rfl
  have f0_5 := cellE (S := []) hB0 (by first | (simp; done) | (simp; omega)) 5 rfl
  have f0_6 := cellE (S := []) hB0 (by first | (simp; done) | (simp; omega)) 6 rfl
  have f0_7 := cellE (S := []) hB0 (by first | (simp; done) | (simp; omega)) 7 rfl
  have f0_8 := cellE (S := []) hB0 (by first | (simp; done) | (simp; omega)) 8 rfl
  have f0_9 := cellE (S := []) hB0 (by first | (simp; done) | (simp; omega)) 9 rfl
  have f1_0 := cellE (S := []) hB1 (by first | (simp; done) | (simp; omega)) 0 rfl
  have f1_1 := cellE (S := []) hB1 (by first | (simp; done) | (simp; omega)) 1 rfl
  clear hB0 hB1
  have hsz' := Nat.le_of_eq hsz.symm; have hsz'' := Nat.le_of_eq hsz; clear hsz
  replace s0 := fun w' (h : Ex [] W w') => (hr0.trans h).cell (by simp) s0
  replace s1 := fun w' (h : Ex [] W w') => (hr0.trans h).cell (by simp) s1
  replace s2 := fun w' (h : Ex [] W w') => (hr0.trans h).cell (by simp) s2
  go_upto_region 3 with fail
  refine region_plan (fun w' => Ex [] W w') [.pu [0, 1, 3, 4], .st [2], .mv 5, .tl [6], .pu [7]] (by kernel_rfl) (by kernel_rfl) (Ex.drew (by first | (with_reducible assumption) | (repeat (with_reducible first | exact Ex.refl _ _ | assumption | exact Ex.mono (by assumption) (by simp; done) | refine Ex.alloc ?_ _ | refine Ex.drew ?_ | refine Ex.drewN ?_ _ | refine Ex.setCell ?_ (by first | (left; simp; done) | (right; simp; done) | (right; simp; omega)) _ | refine Ex.trans ?_ (by assumption))))) ?_
  refine plan_pu (fun K hK => ?_)
  simp only [pick, List.drop_succ_cons, List.drop_zero, List.take_succ_cons, List.take_zero, List.cons_append, List.nil_append]
  iterate 4 (first | (refine wpYield_want ?_ (by rfl) (fun w' hS' => ?_) ?_; rotate_left; ((try dsimp only at hS'); go_simp; try with_reducible rfl); simp only [Act.put, List.setIfInBounds_toArray, List.set_cons_zero, List.set_cons_succ]) | (refine wpYield_skip (by rfl) ?_; simp only [Act.put, List.setIfInBounds_toArray, List.set_cons_zero, List.set_cons_succ]))
  refine wpYield_nil (hK _ ?_)
  clear hK K
  refine plan_st (fun K hK => ?_)
  simp only [pick, List.drop_succ_cons, List.drop_zero, List.take_succ_cons, List.take_zero, List.cons_append, List.nil_append]
  iterate 1 (first | (refine wpYield_want ?_ (by rfl) (fun w' hS' => ?_) ?_; rotate_left; ((try dsimp only at hS'); go_simp; try with_reducible rfl); simp only [Act.put, List.setIfInBounds_toArray, List.set_cons_zero, List.set_cons_succ]) | (refine wpYield_skip (by rfl) ?_; simp only [Act.put, List.setIfInBounds_toArray, List.set_cons_zero, List.set_cons_succ]))
  refine wpYield_nil (hK _ ?_)
  clear hK K
  refine plan_mv (fun K hK => ?_)
  simp only [pick, List.drop_succ_cons, List.drop_zero, List.take_succ_cons, List.take_zero, List.cons_append, List.nil_append]
  go_wp2_with fail
  first | refine hK _ _ (by first | (with_reducible assumption) | (repeat (with_reducible first | exact Ex.refl _ _ | assumption | exact Ex.mono (by assumption) (by simp; done) | refine Ex.alloc ?_ _ | refine Ex.drew ?_ | refine Ex.drewN ?_ _ | refine Ex.setCell ?_ (by first | (left; simp; done) | (right; simp; done) | (right; simp; omega)) _ | refine Ex.trans ?_ (by assumption)))) ?_ | refine ⟨rfl, hK _ _ (by first | (with_reducible assumption) | (repeat (with_reducible first | exact Ex.refl _ _ | assumption | exact Ex.mono (by assumption) (by simp; done) | refine Ex.alloc ?_ _ | refine Ex.drew ?_ | refine Ex.drewN ?_ _ | refine Ex.setCell ?_ (by first | (left; simp; done) | (right; simp; done) | (right; simp; omega)) _ | refine Ex.trans ?_ (by assumption)))) ?_⟩
  clear hK K
  refine plan_tl (fun K hK => ?_)
  simp only [pick, List.drop_succ_cons, List.drop_zero, List.take_succ_cons, List.take_zero, List.cons_append, List.nil_append]
  go_wp2_with fail
  try refine ⟨rfl, hK _ _ ?_⟩
  try clear hK K
  refine plan_pu (fun K hK => ?_)
  simp only [pick, List.drop_succ_cons, List.drop_zero, List.take_succ_cons, List.take_zero, List.cons_append, List.nil_append]
  iterate 1 (first | (refine wpYield_want ?_ (by rfl) (fun w' hS' => ?_) ?_; rotate_left; ((try dsimp only at hS'); go_simp; try with_reducible rfl); simp only [Act.put, List.setIfInBounds_toArray, List.set_cons_zero, List.set_cons_succ]) | (refine wpYield_skip (by rfl) ?_; simp only [Act.put, List.setIfInBounds_toArray, List.set_cons_zero, List.set_cons_succ]))
  refine wpYield_nil (hK _ ?_)
  clear hK K
  refine plan_nil ?_
  go_upto_region 4 with fail
  refine wp_at (fun X => Ext W X ∧ X.heap[W.heap.size]? = some (.cells #[.int .i64 xl, .int .i64 xa, .int .i64 xr] 55 (0, 0))) ⟨by (repeat (with_reducible first | exact Ex.refl _ _ | assumption | exact Ex.mono (by assumption) (by simp; done) | refine Ex.alloc ?_ _ | refine Ex.drew ?_ | refine Ex.drewN ?_ _ | refine Ex.setCell ?_ (by first | (left; simp; done) | (right; simp; done) | (right; simp; omega)) _ | refine Ex.trans ?_ (by assumption))), by first | exact blk_new _ _ | (refine blk_to (blk_set (blk_set (blk_set (blk_new _ _) 0 _) 1 _) 2 _) ?_; kernel_rfl)⟩ (fun X hX => ?_)
  obtain ⟨hX, hC⟩ := hX
  clear s0 s1 s2 hrun1 hrun2
  replace f0_0 := fun w' (h : Ex [] X w') => f0_0 w' (hX.trans (h.mono (by simp)))
  replace f0_1 := fun w' (h : Ex [] X w') => f0_1 w' (hX.trans (h.mono (by simp)))
  replace f0_2 := fun w' (h : Ex [] X w') => f0_2 w' (hX.trans (h.mono (by simp)))
  replace f0_3 := fun w' (h : Ex [] X w') => f0_3 w' (hX.trans (h.mono (by simp)))
  replace f0_4 := fun w' (h : Ex [] X w') => f0_4 w' (hX.trans (h.mono (by simp)))
  replace f0_5 := fun w' (h : Ex [] X w') => f0_5 w' (hX.trans (h.mono (by simp)))
  replace f0_6 := fun w' (h : Ex [] X w') => f0_6 w' (hX.trans (h.mono (by simp)))
  replace f0_7 := fun w' (h : Ex [] X w') => f0_7 w' (hX.trans (h.mono (by simp)))
  replace f0_8 := fun w' (h : Ex [] X w') => f0_8 w' (hX.trans (h.mono (by simp)))
  replace f0_9 := fun w' (h : Ex [] X w') => f0_9 w' (hX.trans (h.mono (by simp)))
  replace f1_0 := fun w' (h : Ex [] X w') => f1_0 w' (hX.trans (h.mono (by simp)))
  replace f1_1 := fun w' (h : Ex [] X w') => f1_1 w' (hX.trans (h.mono (by simp)))
  have c_0 := cellE (S := []) hC (by first | (simp; done) | (simp; omega)) 0 rfl
  have c_1 := cellE (S := []) hC (by first | (simp; done) | (simp; omega)) 1 rfl
  have c_2 := cellE (S := []) hC (by first | (simp; done) | (simp; omega)) 2 rfl
  have hrX : Ex [] X X := Ex.refl _ _
  clear hC
  have hwX : Ext w X := hr0.trans hX
  have hx0 : 0 ≤ xl ∧ xl ≤ p.lots.length - 1 := by simpa [withinB] using hb0
  have hx1 : 0 ≤ xl ∧ xl < p.lots.length := by have h := hx0.2; omega
  clear hx0
  obtain ⟨i, rfl⟩ : ∃ i : Nat, xl = (i : Int) := ⟨xl.toNat, by omega⟩
  have hk0 : (0 : Int) ≤ (i : Int) := by omega
  have hk1 : (i : Int) < (lows.length : Int) := by have := hel.out; omega
  have hk2 : (i : Int) < (highs.length : Int) := by have := heh.out; omega
  have hn1 : lows.length ≤ 1000 := by have := hel.out; omega
  have hn2 : highs.length ≤ 1000 := by have := heh.out; omega
  obtain ⟨bl, offl, rfl, hbl', hll⟩ := hl.cells (by omega)
  have hlx : ∀ w', Ex [] X w' → w'.cell? ⟨bl, offl + i, none⟩ = some (.int .i64 (nth lows 0 i)) := fun w' h => by
    have c0 := (hwX.trans h).cell (by simp) (hll i (by omega) 0 _ rfl)
    rwa [Nat.add_zero, Nat.mul_one, nth_eq lows 0] at c0
  clear hll
  obtain ⟨bh, offh, rfl, hbh', hhh⟩ := hh.cells (by omega)
  have hhx : ∀ w', Ex [] X w' → w'.cell? ⟨bh, offh + i, none⟩ = some (.int .i64 (nth highs 0 i)) := fun w' h => by
    have c0 := (hwX.trans h).cell (by simp) (hhh i (by omega) 0 _ rfl)
    rwa [Nat.add_zero, Nat.mul_one, nth_eq highs 0] at c0
  clear hhh
  obtain rfl : xr = 0 := by simpa using hb1
  have hb2 : withinB xa (nth lows 0 i) (wrap64 (nth highs 0 i - 1)) = false := hb2
  have hb2' : withinB xa (nth lows 0 i) (IntKind.i64.wrap (nth highs 0 i - 1)) = false := by have h := hb2; unfold wrap64 at h; rw [IntKind.wrap_i64]; exact h
  go_wp2_with fail
  refine region_plan (fun w' => Ex [] X w') [.pu [0, 2, 3], .st [1, 4, 5], .pu [6], .mv 7, .pu [8, 9, 10], .st [11], .pu [12, 13, 14, 15, 17, 19, 23, 25], .st [16, 18, 20, 24, 26], .pu [21, 27], .st [22, 28], .pu [29], .mv 30, .pu [31, 32, 33]] (by kernel_rfl) (by kernel_rfl) (Ex.drew (by first | (with_reducible assumption) | (repeat (with_reducible first | exact Ex.refl _ _ | assumption | exact Ex.mono (by assumption) (by simp; done) | refine Ex.alloc ?_ _ | refine Ex.drew ?_ | refine Ex.drewN ?_ _ | refine Ex.setCell ?_ (by first | (left; simp; done) | (right; simp; done) | (right; simp; omega)) _ | refine Ex.trans ?_ (by assumption))))) ?_
  refine plan_pu (fun K hK => ?_)
  simp only [pick, List.drop_succ_cons, List.drop_zero, List.take_succ_cons, List.take_zero, List.cons_append, List.nil_append]
  (refine wpYield_want ?_ (by rfl) (fun w' hS' => ?_) ?_; rotate_left; ((try dsimp only at hS'); go_simp; try with_reducible rfl); simp only [Act.put, List.setIfInBounds_toArray, List.set_cons_zero, List.set_cons_succ])
  (refine wpYield_want ?_ (by rfl) (fun w' hS' => ?_) ?_; rotate_left; ((try dsimp only at hS'); go_simp; try with_reducible rfl); simp only [Act.put, List.setIfInBounds_toArray, List.set_cons_zero, List.set_cons_succ])
  (refine wpYield_want ?_ (by rfl) (fun w' hS' => ?_) ?_; rotate_left; ((try dsimp only at hS'); go_simp; try with_reducible rfl); simp only [Act.put, List.setIfInBounds_toArray, List.set_cons_zero, List.set_cons_succ])
  refine wpYield_nil (hK _ ?_)
  clear hK K
  refine plan_st (fun K hK => ?_)
  simp only [pick, List.drop_succ_cons, List.drop_zero, List.take_succ_cons, List.take_zero, List.cons_append, List.nil_append]
  (refine wpYield_want ?_ (by rfl) (fun w' hS' => ?_) ?_; rotate_left; ((try dsimp only at hS'); go_simp; try with_reducible rfl); simp only [Act.put, List.setIfInBounds_toArray, List.set_cons_zero, List.set_cons_succ])
  (refine wpYield_want ?_ (by rfl) (fun w' hS' => ?_) ?_; rotate_left; ((try dsimp only at hS'); go_simp; try with_reducible rfl); simp only [Act.put, List.setIfInBounds_toArray, List.set_cons_zero, List.set_cons_succ])
  (refine wpYield_want ?_ (by rfl) (fun w' hS' => ?_) ?_; rotate_left; ((try dsimp only at hS'); go_simp; try with_reducible rfl); simp only [Act.put, List.setIfInBounds_toArray, List.set_cons_zero, List.set_cons_succ])
  refine wpYield_nil (hK _ ?_)
  clear hK K
  refine plan_pu (fun K hK => ?_)
  simp only [pick, List.drop_succ_cons, List.drop_zero, List.take_succ_cons, List.take_zero, List.cons_append, List.nil_append]
  (refine wpYield_want ?_ (by rfl) (fun w' hS' => ?_) ?_; rotate_left; ((try dsimp only at hS'); go_simp; try with_reducible rfl); simp only [Act.put, List.setIfInBounds_toArray, List.set_cons_zero, List.set_cons_succ])
  refine wpYield_nil (hK _ ?_)
  clear hK K
  refine plan_mv (fun K hK => ?_)
  simp only [pick, List.drop_succ_cons, List.drop_zero, List.take_succ_cons, List.take_zero, List.cons_append, List.nil_append]
  go_wp2_with (go_at_call 88; refine (within_c _ _ _ _).mono ?_; rintro e w1 ⟨rfl, h1⟩; replace h1 : Ex [] X w1 := Ex.trans (by first | (with_reducible assumption) | (repeat (with_reducible first | exact Ex.refl _ _ | assumption | exact Ex.mono (by assumption) (by simp; done) | refine Ex.alloc ?_ _ | refine Ex.drew ?_ | refine Ex.drewN ?_ _ | refine Ex.setCell ?_ (by first | (left; simp; done) | (right; simp; done) | (right; simp; omega)) _ | refine Ex.trans ?_ (by assumption)))) (h1.ex _))
  first | refine hK _ _ (by first | (with_reducible assumption) | (repeat (with_reducible first | exact Ex.refl _ _ | assumption | exact Ex.mono (by assumption) (by simp; done) | refine Ex.alloc ?_ _ | refine Ex.drew ?_ | refine Ex.drewN ?_ _ | refine Ex.setCell ?_ (by first | (left; simp; done) | (right; simp; done) | (right; simp; omega)) _ | refine Ex.trans ?_ (by assumption)))) ?_ | refine ⟨rfl, hK _ _ (by first | (with_reducible assumption) | (repeat (with_reducible first | exact Ex.refl _ _ | assumption | exact Ex.mono (by assumption) (by simp; done) | refine Ex.alloc ?_ _ | refine Ex.drew ?_ | refine Ex.drewN ?_ _ | refine Ex.setCell ?_ (by first | (left; simp; done) | (right; simp; done) | (right; simp; omega)) _ | refine Ex.trans ?_ (by assumption)))) ?_⟩
  clear hK K
  refine plan_pu (fun K hK => ?_)
  simp only [pick, List.drop_succ_cons, List.drop_zero, List.take_succ_cons, List.take_zero, List.cons_append, List.nil_append]
  (refine wpYield_want ?_ (by rfl) (fun w' hS' => ?_) ?_; rotate_left; ((try dsimp only at hS'); go_simp; try with_reducible rfl); simp only [Act.put, List.setIfInBounds_toArray, List.set_cons_zero, List.set_cons_succ])
  (refine wpYield_want ?_ (by rfl) (fun w' hS' => ?_) ?_; rotate_left; ((try dsimp only at hS'); go_simp; try with_reducible rfl); simp only [Act.put, List.setIfInBounds_toArray, List.set_cons_zero, List.set_cons_succ])
  (refine wpYield_want ?_ (by rfl) (fun w' hS' => ?_) ?_; rotate_left; ((try dsimp only at hS'); go_simp; try with_reducible rfl); simp only [Act.put, List.setIfInBounds_toArray, List.set_cons_zero, List.set_cons_succ])
  refine wpYield_nil (hK _ ?_)
  clear hK K
  refine plan_st (fun K hK => ?_)
  simp only [pick, List.drop_succ_cons, List.drop_zero, List.take_succ_cons, List.take_zero, List.cons_append, List.nil_append]
  (refine wpYield_want ?_ (by rfl) (fun w' hS' => ?_) ?_; rotate_left; ((try dsimp only at hS'); go_simp; try with_reducible rfl); simp only [Act.put, List.setIfInBounds_toArray, List.set_cons_zero, List.set_cons_succ])
  refine wpYield_nil (hK _ ?_)
  clear hK K
  refine plan_pu (fun K hK => ?_)
  simp only [pick, List.drop_succ_cons, List.drop_zero, List.take_succ_cons, List.take_zero, List.cons_append, List.nil_append]
  (refine wpYield_want ?_ (by rfl) (fun w' hS' => ?_) ?_; rotate_left; ((try dsimp only at hS'); go_simp; try with_reducible rfl); simp only [Act.put, List.setIfInBounds_toArray, List.set_cons_zero, List.set_cons_succ])
  (refine wpYield_want ?_ (by rfl) (fun w' hS' => ?_) ?_; rotate_left; ((try dsimp only at hS'); go_simp; try with_reducible rfl); simp only [Act.put, List.setIfInBounds_toArray, List.set_cons_zero, List.set_cons_succ])
  (refine wpYield_want ?_ (by rfl) (fun w' hS' => ?_) ?_; rotate_left; ((try dsimp only at hS'); go_simp; try with_reducible rfl); simp only [Act.put, List.setIfInBounds_toArray, List.set_cons_zero, List.set_cons_succ])
  (refine wpYield_want ?_ (by rfl) (fun w' hS' => ?_) ?_; rotate_left; ((try dsimp only at hS'); go_simp; try with_reducible rfl); simp only [Act.put, List.setIfInBounds_toArray, List.set_cons_zero, List.set_cons_succ])
  (refine wpYield_want ?_ (by rfl) (fun w' hS' => ?_) ?_; rotate_left; ((try dsimp only at hS'); go_simp; try with_reducible rfl); simp only [Act.put, List.setIfInBounds_toArray, List.set_cons_zero, List.set_cons_succ])
  (refine wpYield_want ?_ (by rfl) (fun w' hS' => ?_) ?_; rotate_left; ((try dsimp only at hS'); go_simp; try with_reducible rfl); simp only [Act.put, List.setIfInBounds_toArray, List.set_cons_zero, List.set_cons_succ])
  (refine wpYield_want ?_ (by rfl) (fun w' hS' => ?_) ?_; rotate_left; ((try dsimp only at hS'); go_simp; try with_reducible rfl); simp only [Act.put, List.setIfInBounds_toArray, List.set_cons_zero, List.set_cons_succ])
  (refine wpYield_want ?_ (by rfl) (fun w' hS' => ?_) ?_; rotate_left; ((try dsimp only at hS'); go_simp; try with_reducible rfl); simp only [Act.put, List.setIfInBounds_toArray, List.set_cons_zero, List.set_cons_succ])
  refine wpYield_nil (hK _ ?_)
  clear hK K
  refine plan_st (fun K hK => ?_)
  simp only [pick, List.drop_succ_cons, List.drop_zero, List.take_succ_cons, List.take_zero, List.cons_append, List.nil_append]
  (refine wpYield_want ?_ (by rfl) (fun w' hS' => ?_) ?_; rotate_left; ((try dsimp only at hS'); go_simp; try with_reducible rfl); simp only [Act.put, List.setIfInBounds_toArray, List.set_cons_zero, List.set_cons_succ])
  (refine wpYield_want ?_ (by rfl) (fun w' hS' => ?_) ?_; rotate_left; ((try dsimp only at hS'); go_simp; try with_reducible rfl); simp only [Act.put, List.setIfInBounds_toArray, List.set_cons_zero, List.set_cons_succ])
  (refine wpYield_want ?_ (by rfl) (fun w' hS' => ?_) ?_; rotate_left; ((try dsimp only at hS'); go_simp; try with_reducible rfl); simp only [Act.put, List.setIfInBounds_toArray, List.set_cons_zero, List.set_cons_succ])
  (refine wpYield_want ?_ (by rfl) (fun w' hS' => ?_) ?_; rotate_left; ((try dsimp only at hS'); go_simp; try with_reducible rfl); simp only [Act.put, List.setIfInBounds_toArray, List.set_cons_zero, List.set_cons_succ])
  (refine wpYield_want ?_ (by rfl) (fun w' hS' => ?_) ?_; rotate_left; ((try dsimp only at hS'); go_simp; try with_reducible rfl); simp only [Act.put, List.setIfInBounds_toArray, List.set_cons_zero, List.set_cons_succ])
  refine wpYield_nil (hK _ ?_)
  clear hK K
  refine plan_pu (fun K hK => ?_)
  simp only [pick, List.drop_succ_cons, List.drop_zero, List.take_succ_cons, List.take_zero, List.cons_append, List.nil_append]
  (refine wpYield_want ?_ (by rfl) (fun w' hS' => ?_) ?_; rotate_left; ((try dsimp only at hS'); go_simp; try with_reducible rfl); simp only [Act.put, List.setIfInBounds_toArray, List.set_cons_zero, List.set_cons_succ])
  (refine wpYield_want ?_ (by rfl) (fun w' hS' => ?_) ?_; rotate_left; ((try dsimp only at hS'); go_simp; try with_reducible rfl); simp only [Act.put, List.setIfInBounds_toArray, List.set_cons_zero, List.set_cons_succ])
  refine wpYield_nil (hK _ ?_)
  clear hK K
  refine plan_st (fun K hK => ?_)
  simp only [pick, List.drop_succ_cons, List.drop_zero, List.take_succ_cons, List.take_zero, List.cons_append, List.nil_append]
  (refine wpYield_want ?_ (by rfl) (fun w' hS' => ?_) ?_; rotate_left; ((try dsimp only at hS'); go_simp; try with_reducible rfl); simp only [Act.put, List.setIfInBounds_toArray, List.set_cons_zero, List.set_cons_succ])
  (refine wpYield_want ?_ (by rfl) (fun w' hS' => ?_) ?_; rotate_left; ((try dsimp only at hS'); go_simp; try with_reducible rfl); simp only [Act.put, List.setIfInBounds_toArray, List.set_cons_zero, List.set_cons_succ])
  refine wpYield_nil (hK _ ?_)
  clear hK K
  refine plan_pu (fun K hK => ?_)
  simp only [pick, List.drop_succ_cons, List.drop_zero, List.take_succ_cons, List.take_zero, List.cons_append, List.nil_append]
  (refine wpYield_want ?_ (by rfl) (fun w' hS' => ?_) ?_; rotate_left; ((try dsimp only at hS'); go_simp; try with_reducible rfl); simp only [Act.put, List.setIfInBounds_toArray, List.set_cons_zero, List.set_cons_succ])
  refine wpYield_nil (hK _ ?_)
  clear hK K
  refine plan_mv (fun K hK => ?_)
  simp only [pick, List.drop_succ_cons, List.drop_zero, List.take_succ_cons, List.take_zero, List.cons_append, List.nil_append]
  go_wp2_with (go_at_call 88; refine (within_c _ _ _ _).mono ?_; rintro e w1 ⟨rfl, h1⟩; replace h1 : Ex [] X w1 := Ex.trans (by first | (with_reducible assumption) | (repeat (with_reducible first | exact Ex.refl _ _ | assumption | exact Ex.mono (by assumption) (by simp; done) | refine Ex.alloc ?_ _ | refine Ex.drew ?_ | refine Ex.drewN ?_ _ | refine Ex.setCell ?_ (by first | (left; simp; done) | (right; simp; done) | (right; simp; omega)) _ | refine Ex.trans ?_ (by assumption)))) (h1.ex _))
  first | refine hK _ _ (by first | (with_reducible assumption) | (repeat (with_reducible first | exact Ex.refl _ _ | assumption | exact Ex.mono (by assumption) (by simp; done) | refine Ex.alloc ?_ _ | refine Ex.drew ?_ | refine Ex.drewN ?_ _ | refine Ex.setCell ?_ (by first | (left; simp; done) | (right; simp; done) | (right; simp; omega)) _ | refine Ex.trans ?_ (by assumption)))) ?_ | refine ⟨rfl, hK _ _ (by first | (with_reducible assumption) | (repeat (with_reducible first | exact Ex.refl _ _ | assumption | exact Ex.mono (by assumption) (by simp; done) | refine Ex.alloc ?_ _ | refine Ex.drew ?_ | refine Ex.drewN ?_ _ | refine Ex.setCell ?_ (by first | (left; simp; done) | (right; simp; done) | (right; simp; omega)) _ | refine Ex.trans ?_ (by assumption)))) ?_⟩
  clear hK K
  refine plan_pu (fun K hK => ?_)
  simp only [pick, List.drop_succ_cons, List.drop_zero, List.take_succ_cons, List.take_zero, List.cons_append, List.nil_append]
  (refine wpYield_want ?_ (by rfl) (fun w' hS' => ?_) ?_; rotate_left; ((try dsimp only at hS'); go_simp; try with_reducible rfl); simp only [Act.put, List.setIfInBounds_toArray, List.set_cons_zero, List.set_cons_succ])
  (refine wpYield_want ?_ (by rfl) (fun w' hS' => ?_) ?_; rotate_left; ((try dsimp only at hS'); go_simp; try with_reducible rfl); simp only [Act.put, List.setIfInBounds_toArray, List.set_cons_zero, List.set_cons_succ])
  (refine wpYield_want ?_ (by rfl) (fun w' hS' => ?_) ?_; rotate_left; ((try dsimp only at hS'); go_simp; try with_reducible rfl); simp only [Act.put, List.setIfInBounds_toArray, List.set_cons_zero, List.set_cons_succ])
  refine wpYield_nil (hK _ ?_)
  clear hK K
  refine plan_nil ?_
  go_wp2_with fail
  go_returns
  refine ⟨none, 0, by simp [acceptM, hbl, hb0, hb1, hb2], ?_, hwX.trans ?_⟩
  · rw [show (acceptM p ones (n + 1) lows highs (⟨↑i, xa, 0⟩ :: rest)).1 = [] from by simp [acceptM, hbl, hb0, hb1, hb2]]
    exact Sl.nil _ _ _
  · (repeat (with_reducible first | exact Ex.refl _ _ | assumption | exact Ex.mono (by assumption) (by simp; done) | refine Ex.alloc ?_ _ | refine Ex.drew ?_ | refine Ex.drewN ?_ _ | refine Ex.setCell ?_ (by first | (left; simp; done) | (right; simp; done) | (right; simp; omega)) _ | refine Ex.trans ?_ (by assumption)))

set_option maxRecDepth 100000 in
set_option maxHeartbeats 16000000 in
theorem accept_cut_c (p : Recipe) (a : Option Addr) (cap : Nat) (a2 : Option Addr) (cap2 : Nat) (ones : List Mar) (hn : p.lots.length ≤ 1000) (ho : ones.length ≤ p.lots.length) (n : Nat) (la ha : Option Addr) (lc hc : Nat) (lows highs : List Int) (pa : Option Addr) (pc : Nat) (xl xa xr : Int) (rest : List Split) (w : World) (hs : Sl 8 Mar.cells w a2 cap2 ones) (hl : SlI w la lc lows) (hh : SlI w ha hc highs) (hp : Sl 3 Split.cells w pa pc (⟨xl, xa, xr⟩ :: rest)) (hel : Hid (lows.length = p.lots.length)) (heh : Hid (highs.length = p.lots.length)) (hrn : rest.length ≤ n) (ih : ∀ (la ha : Option Addr) (lc hc : Nat) (lows highs : List Int) (pa : Option Addr) (pc : Nat) (l : List Split) (w : World), Sl 8 Mar.cells w a2 cap2 ones → SlI w la lc lows → SlI w ha hc highs → Sl 3 Split.cells w pa pc l → Hid (lows.length = p.lots.length) → Hid (highs.length = p.lots.length) → l.length ≤ n → Calls Try.prog 75 #[.agg #[.slice a p.lots.length cap, .int .i64 p.mass.lo, .int .i64 p.mass.hi, .int .i64 p.target.a.lo, .int .i64 p.target.a.hi, .int .i64 p.target.b.lo, .int .i64 p.target.b.hi, .int .i64 p.target.c.lo, .int .i64 p.target.c.hi, .slice a2 ones.length cap2], .agg #[.slice la lows.length lc, .slice ha highs.length hc], .slice pa l.length pc] w (AcceptPost p ones n lows highs l w)) (hbl : (xl == -1) = false) (hb0 : withinB xl 0 (p.lots.length - 1) = true) (hb1 : (xr == 0) = true) (hb2 : withinB xa (nth lows 0 xl.toNat) (wrap64 (nth highs 0 xl.toNat - 1)) = true) :
    Calls Try.prog 75 #[.agg #[.slice a p.lots.length cap, .int .i64 p.mass.lo, .int .i64 p.mass.hi, .int .i64 p.target.a.lo, .int .i64 p.target.a.hi, .int .i64 p.target.b.lo, .int .i64 p.target.b.hi, .int .i64 p.target.c.lo, .int .i64 p.target.c.hi, .slice a2 ones.length cap2], .agg #[.slice la lows.length lc, .slice ha highs.length hc], .slice pa (Split.mk xl xa xr :: rest).length pc] w (AcceptPost p ones (n + 1) lows highs (Split.mk xl xa xr :: rest) w) := by
  have hpl := hp.le; have hpb := hp.big
  obtain ⟨rr, hrun, hSr, hbr⟩ := hp.drop eiSplit 1 (by simp)
  simp only [List.drop_succ_cons, List.drop_zero] at hrun hSr
  obtain ⟨bp, offp, rfl, hbp, hpp⟩ := hp.cells (by simp)
  have s0 := hpp 0 (by simp) 0 _ rfl
  have s1 := hpp 0 (by simp) 1 _ rfl
  have s2 := hpp 0 (by simp) 2 _ rfl
  simp only [Nat.zero_mul, Nat.add_zero] at s0 s1 s2
  clear hpp hp hbr
  obtain ⟨L, hL, hL0⟩ : ∃ L, L = (Split.mk xl xa xr :: rest).length ∧ 0 < L := ⟨_, rfl, by simp⟩
  rw [← hL] at hrun hpl ⊢
  clear hL
  have hL1 : ¬ L = 0 := by omega
  have hL2 : ((L : Int) == 0) = false := by simp; omega
  have hrun1 : ∀ w', (Instr.sliceAt 53 (.slice (some ⟨bp, offp, none⟩) L pc) (some (.int .i64 1)) none none).run Try.prog w' = .ok (.slice rr rest.length (pc - 1)) w' := hrun
  have hrun2 : ∀ w', (Instr.slice 53 (.slice (some ⟨bp, offp, none⟩) L pc) (some (.int .i64 1)) none none).run Try.prog w' = .ok (.slice rr rest.length (pc - 1)) w' := fun w' => by
    rw [← run_sliceAt_slice w' 53 _ _ _ _ (by rfl)]; exact hrun1 w'
  clear hrun
  have hle1 := hl.le; have hgl := hl.big; have hle2 := hh.le; have hgh := hh.big
  have ih' := Lib.hid ih; clear ih
  go_enter Try.func75, Try.ntmps75
  go_upto_region 1 with (fail)
  refine wp_at (fun W => Ext w W ∧ w.heap.size + 2 = W.heap.size ∧ W.heap[w.heap.size]? = some (.cells #[.slice a p.lots.length cap, .int .i64 p.mass.lo, .int .i64 p.mass.hi, .int .i64 p.target.a.lo, .int .i64 p.target.a.hi, .int .i64 p.target.b.lo, .int .i64 p.target.b.hi, .int .i64 p.target.c.lo, .int .i64 p.target.c.hi, .slice a2 ones.length cap2] 119 (0, 0)) ∧ W.heap[w.heap.size + 1]? = some (.cells #[.slice la lows.length lc, .slice ha highs.length hc] 128 (0, 0))) ⟨by (repeat (with_reducible first | exact Ex.refl _ _ | assumption | exact Ex.mono (by assumption) (by simp; done) | refine Ex.alloc ?_ _ | refine Ex.drew ?_ | refine Ex.drewN ?_ _ | refine Ex.setCell ?_ (by first | (left; simp; done) | (right; simp; done) | (right; simp; omega)) _ | refine Ex.trans ?_ (by assumption))), by simp, blk_alloc (blk_new _ _), by have h := blk_new ((w).alloc (.cells #[.slice a p.lots.length cap, .int .i64 p.mass.lo, .int .i64 p.mass.hi, .int .i64 p.target.a.lo, .int .i64 p.target.a.hi, .int .i64 p.target.b.lo, .int .i64 p.target.b.hi, .int .i64 p.target.c.lo, .int .i64 p.target.c.hi, .slice a2 ones.length cap2] 119 (0, 0))) (.cells #[.slice la lows.length lc, .slice ha highs.length hc] 128 (0, 0)); simpa using h⟩ (fun W hW => ?_)
  obtain ⟨hr0, hsz, hB0, hB1⟩ := hW
  have hr : Ex [] W W := Ex.refl _ _
  have f0_0 := cellE (S := []) hB0 (by first | (simp; done) | (simp; omega)) 0 rfl
  have f0_1 := cellE (S := []) hB0 (by first | (simp; done) | (simp; omega)) 1 rfl
  have f0_2 := cellE (S := []) hB0 (by first | (simp; done) | (simp; omega)) 2 rfl
  have f0_3 := cellE (S := []) hB0 (by first | (simp; done) | (simp; omega)) 3 rfl
  have f0_4 := cellE (S := []) hB0 (by first | (simp; done) | (simp; omega)) 4 rfl
  have f0_5 := cellE (S := []) hB0 (by first | (simp; done) | (simp; omega)) 5 rfl
  have f0_6 := cellE (S := []) hB0 (by first | (simp; done) | (simp; omega)) 6 rfl
  have f0_7 := cellE (S := []) hB0 (by first | (simp; done) | (simp; omega)) 7 rfl
  have f0_8 := cellE (S := []) hB0 (by first | (simp; done) | (simp; omega)) 8 rfl
  have f0_9 := cellE (S := []) hB0 (by first | (simp; done) | (simp; omega)) 9 rfl
  have f1_0 := cellE (S := []) hB1 (by first | (simp; done) | (simp; omega)) 0 rfl
  have f1_1 := cellE (S := []) hB1 (by first | (simp; done) | (simp; omega)) 1 rfl
  clear hB0 hB1
  have hsz' := Nat.le_of_eq hsz.symm; have hsz'' := Nat.le_of_eq hsz; clear hsz
  replace s0 := fun w' (h : Ex [] W w') => (hr0.trans h).cell (by simp) s0
  replace s1 := fun w' (h : Ex [] W w') => (hr0.trans h).cell (by simp) s1
  replace s2 := fun w' (h : Ex [] W w') => (hr0.trans h).cell (by simp) s2
  go_upto_region 3 with fail
  refine region_plan (fun w' => Ex [] W w') [.pu [0, 1, 3, 4], .st [2], .mv 5, .tl [6], .pu [7]] (by kernel_rfl) (by kernel_rfl) (Ex.drew (by first | (with_reducible assumption) | (repeat (with_reducible first | exact Ex.refl _ _ | assumption | exact Ex.mono (by assumption) (by simp; done) | refine Ex.alloc ?_ _ | refine Ex.drew ?_ | refine Ex.drewN ?_ _ | refine Ex.setCell ?_ (by first | (left; simp; done) | (right; simp; done) | (right; simp; omega)) _ | refine Ex.trans ?_ (by assumption))))) ?_
  refine plan_pu (fun K hK => ?_)
  simp only [pick, List.drop_succ_cons, List.drop_zero, List.take_succ_cons, List.take_zero, List.cons_append, List.nil_append]
  iterate 4 (first | (refine wpYield_want ?_ (by rfl) (fun w' hS' => ?_) ?_; rotate_left; ((try dsimp only at hS'); go_simp; try with_reducible rfl); simp only [Act.put, List.setIfInBounds_toArray, List.set_cons_zero, List.set_cons_succ]) | (refine wpYield_skip (by rfl) ?_; simp only [Act.put, List.setIfInBounds_toArray, List.set_cons_zero, List.set_cons_succ]))
  refine wpYield_nil (hK _ ?_)
  clear hK K
  refine plan_st (fun K hK => ?_)
  simp only [pick, List.drop_succ_cons, List.drop_zero, List.take_succ_cons, List.take_zero, List.cons_append, List.nil_append]
  iterate 1 (first | (refine wpYield_want ?_ (by rfl) (fun w' hS' => ?_) ?_; rotate_left; ((try dsimp only at hS'); go_simp; try with_reducible rfl); simp only [Act.put, List.setIfInBounds_toArray, List.set_cons_zero, List.set_cons_succ]) | (refine wpYield_skip (by rfl) ?_; simp only [Act.put, List.setIfInBounds_toArray, List.set_cons_zero, List.set_cons_succ]))
  refine wpYield_nil (hK _ ?_)
  clear hK K
  refine plan_mv (fun K hK => ?_)
  simp only [pick, List.drop_succ_cons, List.drop_zero, List.take_succ_cons, List.take_zero, List.cons_append, List.nil_append]
  go_wp2_with fail
  first | refine hK _ _ (by first | (with_reducible assumption) | (repeat (with_reducible first | exact Ex.refl _ _ | assumption | exact Ex.mono (by assumption) (by simp; done) | refine Ex.alloc ?_ _ | refine Ex.drew ?_ | refine Ex.drewN ?_ _ | refine Ex.setCell ?_ (by first | (left; simp; done) | (right; simp; done) | (right; simp; omega)) _ | refine Ex.trans ?_ (by assumption)))) ?_ | refine ⟨rfl, hK _ _ (by first | (with_reducible assumption) | (repeat (with_reducible first | exact Ex.refl _ _ | assumption | exact Ex.mono (by assumption) (by simp; done) | refine Ex.alloc ?_ _ | refine Ex.drew ?_ | refine Ex.drewN ?_ _ | refine Ex.setCell ?_ (by first | (left; simp; done) | (right; simp; done) | (right; simp; omega)) _ | refine Ex.trans ?_ (by assumption)))) ?_⟩
  clear hK K
  refine plan_tl (fun K hK => ?_)
  simp only [pick, List.drop_succ_cons, List.drop_zero, List.take_succ_cons, List.take_zero, List.cons_append, List.nil_append]
  go_wp2_with fail
  try refine ⟨rfl, hK _ _ ?_⟩
  try clear hK K
  refine plan_pu (fun K hK => ?_)
  simp only [pick, List.drop_succ_cons, List.drop_zero, List.take_succ_cons, List.take_zero, List.cons_append, List.nil_append]
  iterate 1 (first | (refine wpYield_want ?_ (by rfl) (fun w' hS' => ?_) ?_; rotate_left; ((try dsimp only at hS'); go_simp; try with_reducible rfl); simp only [Act.put, List.setIfInBounds_toArray, List.set_cons_zero, List.set_cons_succ]) | (refine wpYield_skip (by rfl) ?_; simp only [Act.put, List.setIfInBounds_toArray, List.set_cons_zero, List.set_cons_succ]))
  refine wpYield_nil (hK _ ?_)
  clear hK K
  refine plan_nil ?_
  go_upto_region 4 with fail
  refine wp_at (fun X => Ext W X ∧ X.heap[W.heap.size]? = some (.cells #[.int .i64 xl, .int .i64 xa, .int .i64 xr] 55 (0, 0))) ⟨by (repeat (with_reducible first | exact Ex.refl _ _ | assumption | exact Ex.mono (by assumption) (by simp; done) | refine Ex.alloc ?_ _ | refine Ex.drew ?_ | refine Ex.drewN ?_ _ | refine Ex.setCell ?_ (by first | (left; simp; done) | (right; simp; done) | (right; simp; omega)) _ | refine Ex.trans ?_ (by assumption))), by first | exact blk_new _ _ | (refine blk_to (blk_set (blk_set (blk_set (blk_new _ _) 0 _) 1 _) 2 _) ?_; kernel_rfl)⟩ (fun X hX => ?_)
  obtain ⟨hX, hC⟩ := hX
  clear s0 s1 s2 hrun1 hrun2
  replace f0_0 := fun w' (h : Ex [] X w') => f0_0 w' (hX.trans (h.mono (by simp)))
  replace f0_1 := fun w' (h : Ex [] X w') => f0_1 w' (hX.trans (h.mono (by simp)))
  replace f0_2 := fun w' (h : Ex [] X w') => f0_2 w' (hX.trans (h.mono (by simp)))
  replace f0_3 := fun w' (h : Ex [] X w') => f0_3 w' (hX.trans (h.mono (by simp)))
  replace f0_4 := fun w' (h : Ex [] X w') => f0_4 w' (hX.trans (h.mono (by simp)))
  replace f0_5 := fun w' (h : Ex [] X w') => f0_5 w' (hX.trans (h.mono (by simp)))
  replace f0_6 := fun w' (h : Ex [] X w') => f0_6 w' (hX.trans (h.mono (by simp)))
  replace f0_7 := fun w' (h : Ex [] X w') => f0_7 w' (hX.trans (h.mono (by simp)))
  replace f0_8 := fun w' (h : Ex [] X w') => f0_8 w' (hX.trans (h.mono (by simp)))
  replace f0_9 := fun w' (h : Ex [] X w') => f0_9 w' (hX.trans (h.mono (by simp)))
  replace f1_0 := fun w' (h : Ex [] X w') => f1_0 w' (hX.trans (h.mono (by simp)))
  replace f1_1 := fun w' (h : Ex [] X w') => f1_1 w' (hX.trans (h.mono (by simp)))
  have c_0 := cellE (S := []) hC (by first | (simp; done) | (simp; omega)) 0 rfl
  have c_1 := cellE (S := []) hC (by first | (simp; done) | (simp; omega)) 1 rfl
  have c_2 := cellE (S := []) hC (by first | (simp; done) | (simp; omega)) 2 rfl
  have hrX : Ex [] X X := Ex.refl _ _
  clear hC
  have hwX : Ext w X := hr0.trans hX
  have hx0 : 0 ≤ xl ∧ xl ≤ p.lots.length - 1 := by simpa [withinB] using hb0
  have hx1 : 0 ≤ xl ∧ xl < p.lots.length := by have h := hx0.2; omega
  clear hx0
  obtain ⟨i, rfl⟩ : ∃ i : Nat, xl = (i : Int) := ⟨xl.toNat, by omega⟩
  have hk0 : (0 : Int) ≤ (i : Int) := by omega
  have hk1 : (i : Int) < (lows.length : Int) := by have := hel.out; omega
  have hk2 : (i : Int) < (highs.length : Int) := by have := heh.out; omega
  have hn1 : lows.length ≤ 1000 := by have := hel.out; omega
  have hn2 : highs.length ≤ 1000 := by have := heh.out; omega
  obtain ⟨bl, offl, rfl, hbl', hll⟩ := hl.cells (by omega)
  have hlx : ∀ w', Ex [] X w' → w'.cell? ⟨bl, offl + i, none⟩ = some (.int .i64 (nth lows 0 i)) := fun w' h => by
    have c0 := (hwX.trans h).cell (by simp) (hll i (by omega) 0 _ rfl)
    rwa [Nat.add_zero, Nat.mul_one, nth_eq lows 0] at c0
  clear hll
  obtain ⟨bh, offh, rfl, hbh', hhh⟩ := hh.cells (by omega)
  have hhx : ∀ w', Ex [] X w' → w'.cell? ⟨bh, offh + i, none⟩ = some (.int .i64 (nth highs 0 i)) := fun w' h => by
    have c0 := (hwX.trans h).cell (by simp) (hhh i (by omega) 0 _ rfl)
    rwa [Nat.add_zero, Nat.mul_one, nth_eq highs 0] at c0
  clear hhh
  obtain rfl : xr = 0 := by simpa using hb1
  have hb2 : withinB xa (nth lows 0 i) (wrap64 (nth highs 0 i - 1)) = true := hb2
  have hb2' : withinB xa (nth lows 0 i) (IntKind.i64.wrap (nth highs 0 i - 1)) = true := by have h := hb2; unfold wrap64 at h; rw [IntKind.wrap_i64]; exact h
  go_wp2_with fail
  refine region_plan (fun w' => Ex [] X w') [.pu [0, 2, 3], .st [1, 4, 5], .pu [6], .mv 7, .pu [8, 9, 10], .st [11], .pu [12, 13, 14, 15, 17, 19, 23, 25], .st [16, 18, 20, 24, 26], .pu [21, 27], .st [22, 28], .pu [29], .mv 30, .pu [31, 32, 33]] (by kernel_rfl) (by kernel_rfl) (Ex.drew (by first | (with_reducible assumption) | (repeat (with_reducible first | exact Ex.refl _ _ | assumption | exact Ex.mono (by assumption) (by simp; done) | refine Ex.alloc ?_ _ | refine Ex.drew ?_ | refine Ex.drewN ?_ _ | refine Ex.setCell ?_ (by first | (left; simp; done) | (right; simp; done) | (right; simp; omega)) _ | refine Ex.trans ?_ (by assumption))))) ?_
  refine plan_pu (fun K hK => ?_)
  simp only [pick, List.drop_succ_cons, List.drop_zero, List.take_succ_cons, List.take_zero, List.cons_append, List.nil_append]
  (refine wpYield_want ?_ (by rfl) (fun w' hS' => ?_) ?_; rotate_left; ((try dsimp only at hS'); go_simp; try with_reducible rfl); simp only [Act.put, List.setIfInBounds_toArray, List.set_cons_zero, List.set_cons_succ])
  (refine wpYield_want ?_ (by rfl) (fun w' hS' => ?_) ?_; rotate_left; ((try dsimp only at hS'); go_simp; try with_reducible rfl); simp only [Act.put, List.setIfInBounds_toArray, List.set_cons_zero, List.set_cons_succ])
  (refine wpYield_want ?_ (by rfl) (fun w' hS' => ?_) ?_; rotate_left; ((try dsimp only at hS'); go_simp; try with_reducible rfl); simp only [Act.put, List.setIfInBounds_toArray, List.set_cons_zero, List.set_cons_succ])
  refine wpYield_nil (hK _ ?_)
  clear hK K
  refine plan_st (fun K hK => ?_)
  simp only [pick, List.drop_succ_cons, List.drop_zero, List.take_succ_cons, List.take_zero, List.cons_append, List.nil_append]
  (refine wpYield_want ?_ (by rfl) (fun w' hS' => ?_) ?_; rotate_left; ((try dsimp only at hS'); go_simp; try with_reducible rfl); simp only [Act.put, List.setIfInBounds_toArray, List.set_cons_zero, List.set_cons_succ])
  (refine wpYield_want ?_ (by rfl) (fun w' hS' => ?_) ?_; rotate_left; ((try dsimp only at hS'); go_simp; try with_reducible rfl); simp only [Act.put, List.setIfInBounds_toArray, List.set_cons_zero, List.set_cons_succ])
  (refine wpYield_want ?_ (by rfl) (fun w' hS' => ?_) ?_; rotate_left; ((try dsimp only at hS'); go_simp; try with_reducible rfl); simp only [Act.put, List.setIfInBounds_toArray, List.set_cons_zero, List.set_cons_succ])
  refine wpYield_nil (hK _ ?_)
  clear hK K
  refine plan_pu (fun K hK => ?_)
  simp only [pick, List.drop_succ_cons, List.drop_zero, List.take_succ_cons, List.take_zero, List.cons_append, List.nil_append]
  (refine wpYield_want ?_ (by rfl) (fun w' hS' => ?_) ?_; rotate_left; ((try dsimp only at hS'); go_simp; try with_reducible rfl); simp only [Act.put, List.setIfInBounds_toArray, List.set_cons_zero, List.set_cons_succ])
  refine wpYield_nil (hK _ ?_)
  clear hK K
  refine plan_mv (fun K hK => ?_)
  simp only [pick, List.drop_succ_cons, List.drop_zero, List.take_succ_cons, List.take_zero, List.cons_append, List.nil_append]
  go_wp2_with (go_at_call 88; refine (within_c _ _ _ _).mono ?_; rintro e w1 ⟨rfl, h1⟩; replace h1 : Ex [] X w1 := Ex.trans (by first | (with_reducible assumption) | (repeat (with_reducible first | exact Ex.refl _ _ | assumption | exact Ex.mono (by assumption) (by simp; done) | refine Ex.alloc ?_ _ | refine Ex.drew ?_ | refine Ex.drewN ?_ _ | refine Ex.setCell ?_ (by first | (left; simp; done) | (right; simp; done) | (right; simp; omega)) _ | refine Ex.trans ?_ (by assumption)))) (h1.ex _))
  first | refine hK _ _ (by first | (with_reducible assumption) | (repeat (with_reducible first | exact Ex.refl _ _ | assumption | exact Ex.mono (by assumption) (by simp; done) | refine Ex.alloc ?_ _ | refine Ex.drew ?_ | refine Ex.drewN ?_ _ | refine Ex.setCell ?_ (by first | (left; simp; done) | (right; simp; done) | (right; simp; omega)) _ | refine Ex.trans ?_ (by assumption)))) ?_ | refine ⟨rfl, hK _ _ (by first | (with_reducible assumption) | (repeat (with_reducible first | exact Ex.refl _ _ | assumption | exact Ex.mono (by assumption) (by simp; done) | refine Ex.alloc ?_ _ | refine Ex.drew ?_ | refine Ex.drewN ?_ _ | refine Ex.setCell ?_ (by first | (left; simp; done) | (right; simp; done) | (right; simp; omega)) _ | refine Ex.trans ?_ (by assumption)))) ?_⟩
  clear hK K
  refine plan_pu (fun K hK => ?_)
  simp only [pick, List.drop_succ_cons, List.drop_zero, List.take_succ_cons, List.take_zero, List.cons_append, List.nil_append]
  (refine wpYield_want ?_ (by rfl) (fun w' hS' => ?_) ?_; rotate_left; ((try dsimp only at hS'); go_simp; try with_reducible rfl); simp only [Act.put, List.setIfInBounds_toArray, List.set_cons_zero, List.set_cons_succ])
  (refine wpYield_want ?_ (by rfl) (fun w' hS' => ?_) ?_; rotate_left; ((try dsimp only at hS'); go_simp; try with_reducible rfl); simp only [Act.put, List.setIfInBounds_toArray, List.set_cons_zero, List.set_cons_succ])
  (refine wpYield_want ?_ (by rfl) (fun w' hS' => ?_) ?_; rotate_left; ((try dsimp only at hS'); go_simp; try with_reducible rfl); simp only [Act.put, List.setIfInBounds_toArray, List.set_cons_zero, List.set_cons_succ])
  refine wpYield_nil (hK _ ?_)
  clear hK K
  refine plan_st (fun K hK => ?_)
  simp only [pick, List.drop_succ_cons, List.drop_zero, List.take_succ_cons, List.take_zero, List.cons_append, List.nil_append]
  (refine wpYield_want ?_ (by rfl) (fun w' hS' => ?_) ?_; rotate_left; ((try dsimp only at hS'); go_simp; try with_reducible rfl); simp only [Act.put, List.setIfInBounds_toArray, List.set_cons_zero, List.set_cons_succ])
  refine wpYield_nil (hK _ ?_)
  clear hK K
  refine plan_pu (fun K hK => ?_)
  simp only [pick, List.drop_succ_cons, List.drop_zero, List.take_succ_cons, List.take_zero, List.cons_append, List.nil_append]
  (refine wpYield_want ?_ (by rfl) (fun w' hS' => ?_) ?_; rotate_left; ((try dsimp only at hS'); go_simp; try with_reducible rfl); simp only [Act.put, List.setIfInBounds_toArray, List.set_cons_zero, List.set_cons_succ])
  (refine wpYield_want ?_ (by rfl) (fun w' hS' => ?_) ?_; rotate_left; ((try dsimp only at hS'); go_simp; try with_reducible rfl); simp only [Act.put, List.setIfInBounds_toArray, List.set_cons_zero, List.set_cons_succ])
  (refine wpYield_want ?_ (by rfl) (fun w' hS' => ?_) ?_; rotate_left; ((try dsimp only at hS'); go_simp; try with_reducible rfl); simp only [Act.put, List.setIfInBounds_toArray, List.set_cons_zero, List.set_cons_succ])
  (refine wpYield_want ?_ (by rfl) (fun w' hS' => ?_) ?_; rotate_left; ((try dsimp only at hS'); go_simp; try with_reducible rfl); simp only [Act.put, List.setIfInBounds_toArray, List.set_cons_zero, List.set_cons_succ])
  (refine wpYield_want ?_ (by rfl) (fun w' hS' => ?_) ?_; rotate_left; ((try dsimp only at hS'); go_simp; try with_reducible rfl); simp only [Act.put, List.setIfInBounds_toArray, List.set_cons_zero, List.set_cons_succ])
  (refine wpYield_want ?_ (by rfl) (fun w' hS' => ?_) ?_; rotate_left; ((try dsimp only at hS'); go_simp; try with_reducible rfl); simp only [Act.put, List.setIfInBounds_toArray, List.set_cons_zero, List.set_cons_succ])
  (refine wpYield_want ?_ (by rfl) (fun w' hS' => ?_) ?_; rotate_left; ((try dsimp only at hS'); go_simp; try with_reducible rfl); simp only [Act.put, List.setIfInBounds_toArray, List.set_cons_zero, List.set_cons_succ])
  (refine wpYield_want ?_ (by rfl) (fun w' hS' => ?_) ?_; rotate_left; ((try dsimp only at hS'); go_simp; try with_reducible rfl); simp only [Act.put, List.setIfInBounds_toArray, List.set_cons_zero, List.set_cons_succ])
  refine wpYield_nil (hK _ ?_)
  clear hK K
  refine plan_st (fun K hK => ?_)
  simp only [pick, List.drop_succ_cons, List.drop_zero, List.take_succ_cons, List.take_zero, List.cons_append, List.nil_append]
  (refine wpYield_want ?_ (by rfl) (fun w' hS' => ?_) ?_; rotate_left; ((try dsimp only at hS'); go_simp; try with_reducible rfl); simp only [Act.put, List.setIfInBounds_toArray, List.set_cons_zero, List.set_cons_succ])
  (refine wpYield_want ?_ (by rfl) (fun w' hS' => ?_) ?_; rotate_left; ((try dsimp only at hS'); go_simp; try with_reducible rfl); simp only [Act.put, List.setIfInBounds_toArray, List.set_cons_zero, List.set_cons_succ])
  (refine wpYield_want ?_ (by rfl) (fun w' hS' => ?_) ?_; rotate_left; ((try dsimp only at hS'); go_simp; try with_reducible rfl); simp only [Act.put, List.setIfInBounds_toArray, List.set_cons_zero, List.set_cons_succ])
  (refine wpYield_want ?_ (by rfl) (fun w' hS' => ?_) ?_; rotate_left; ((try dsimp only at hS'); go_simp; try with_reducible rfl); simp only [Act.put, List.setIfInBounds_toArray, List.set_cons_zero, List.set_cons_succ])
  (refine wpYield_want ?_ (by rfl) (fun w' hS' => ?_) ?_; rotate_left; ((try dsimp only at hS'); go_simp; try with_reducible rfl); simp only [Act.put, List.setIfInBounds_toArray, List.set_cons_zero, List.set_cons_succ])
  refine wpYield_nil (hK _ ?_)
  clear hK K
  refine plan_pu (fun K hK => ?_)
  simp only [pick, List.drop_succ_cons, List.drop_zero, List.take_succ_cons, List.take_zero, List.cons_append, List.nil_append]
  (refine wpYield_want ?_ (by rfl) (fun w' hS' => ?_) ?_; rotate_left; ((try dsimp only at hS'); go_simp; try with_reducible rfl); simp only [Act.put, List.setIfInBounds_toArray, List.set_cons_zero, List.set_cons_succ])
  (refine wpYield_want ?_ (by rfl) (fun w' hS' => ?_) ?_; rotate_left; ((try dsimp only at hS'); go_simp; try with_reducible rfl); simp only [Act.put, List.setIfInBounds_toArray, List.set_cons_zero, List.set_cons_succ])
  refine wpYield_nil (hK _ ?_)
  clear hK K
  refine plan_st (fun K hK => ?_)
  simp only [pick, List.drop_succ_cons, List.drop_zero, List.take_succ_cons, List.take_zero, List.cons_append, List.nil_append]
  (refine wpYield_want ?_ (by rfl) (fun w' hS' => ?_) ?_; rotate_left; ((try dsimp only at hS'); go_simp; try with_reducible rfl); simp only [Act.put, List.setIfInBounds_toArray, List.set_cons_zero, List.set_cons_succ])
  (refine wpYield_want ?_ (by rfl) (fun w' hS' => ?_) ?_; rotate_left; ((try dsimp only at hS'); go_simp; try with_reducible rfl); simp only [Act.put, List.setIfInBounds_toArray, List.set_cons_zero, List.set_cons_succ])
  refine wpYield_nil (hK _ ?_)
  clear hK K
  refine plan_pu (fun K hK => ?_)
  simp only [pick, List.drop_succ_cons, List.drop_zero, List.take_succ_cons, List.take_zero, List.cons_append, List.nil_append]
  (refine wpYield_want ?_ (by rfl) (fun w' hS' => ?_) ?_; rotate_left; ((try dsimp only at hS'); go_simp; try with_reducible rfl); simp only [Act.put, List.setIfInBounds_toArray, List.set_cons_zero, List.set_cons_succ])
  refine wpYield_nil (hK _ ?_)
  clear hK K
  refine plan_mv (fun K hK => ?_)
  simp only [pick, List.drop_succ_cons, List.drop_zero, List.take_succ_cons, List.take_zero, List.cons_append, List.nil_append]
  go_wp2_with (go_at_call 88; refine (within_c _ _ _ _).mono ?_; rintro e w1 ⟨rfl, h1⟩; replace h1 : Ex [] X w1 := Ex.trans (by first | (with_reducible assumption) | (repeat (with_reducible first | exact Ex.refl _ _ | assumption | exact Ex.mono (by assumption) (by simp; done) | refine Ex.alloc ?_ _ | refine Ex.drew ?_ | refine Ex.drewN ?_ _ | refine Ex.setCell ?_ (by first | (left; simp; done) | (right; simp; done) | (right; simp; omega)) _ | refine Ex.trans ?_ (by assumption)))) (h1.ex _))
  first | refine hK _ _ (by first | (with_reducible assumption) | (repeat (with_reducible first | exact Ex.refl _ _ | assumption | exact Ex.mono (by assumption) (by simp; done) | refine Ex.alloc ?_ _ | refine Ex.drew ?_ | refine Ex.drewN ?_ _ | refine Ex.setCell ?_ (by first | (left; simp; done) | (right; simp; done) | (right; simp; omega)) _ | refine Ex.trans ?_ (by assumption)))) ?_ | refine ⟨rfl, hK _ _ (by first | (with_reducible assumption) | (repeat (with_reducible first | exact Ex.refl _ _ | assumption | exact Ex.mono (by assumption) (by simp; done) | refine Ex.alloc ?_ _ | refine Ex.drew ?_ | refine Ex.drewN ?_ _ | refine Ex.setCell ?_ (by first | (left; simp; done) | (right; simp; done) | (right; simp; omega)) _ | refine Ex.trans ?_ (by assumption)))) ?_⟩
  clear hK K
  refine plan_pu (fun K hK => ?_)
  simp only [pick, List.drop_succ_cons, List.drop_zero, List.take_succ_cons, List.take_zero, List.cons_append, List.nil_append]
  (refine wpYield_want ?_ (by rfl) (fun w' hS' => ?_) ?_; rotate_left; ((try dsimp only at hS'); go_simp; try with_reducible rfl); simp only [Act.put, List.setIfInBounds_toArray, List.set_cons_zero, List.set_cons_succ])
  (refine wpYield_want ?_ (by rfl) (fun w' hS' => ?_) ?_; rotate_left; ((try dsimp only at hS'); go_simp; try with_reducible rfl); simp only [Act.put, List.setIfInBounds_toArray, List.set_cons_zero, List.set_cons_succ])
  (refine wpYield_want ?_ (by rfl) (fun w' hS' => ?_) ?_; rotate_left; ((try dsimp only at hS'); go_simp; try with_reducible rfl); simp only [Act.put, List.setIfInBounds_toArray, List.set_cons_zero, List.set_cons_succ])
  refine wpYield_nil (hK _ ?_)
  clear hK K
  refine plan_nil ?_
  go_upto_region 9 with (go_at_call 96; refine (cut_c _ _ lc hc lows highs i xa _ (hl.ext (hwX.trans (by first | (with_reducible assumption) | (repeat (with_reducible first | exact Ex.refl _ _ | assumption | exact Ex.mono (by assumption) (by simp; done) | refine Ex.alloc ?_ _ | refine Ex.drew ?_ | refine Ex.drewN ?_ _ | refine Ex.setCell ?_ (by first | (left; simp; done) | (right; simp; done) | (right; simp; omega)) _ | refine Ex.trans ?_ (by assumption)))))) (hh.ext (hwX.trans (by first | (with_reducible assumption) | (repeat (with_reducible first | exact Ex.refl _ _ | assumption | exact Ex.mono (by assumption) (by simp; done) | refine Ex.alloc ?_ _ | refine Ex.drew ?_ | refine Ex.drewN ?_ _ | refine Ex.setCell ?_ (by first | (left; simp; done) | (right; simp; done) | (right; simp; omega)) _ | refine Ex.trans ?_ (by assumption)))))) (by omega) (by omega) hn1 hn2).mono ?_; rintro e w3 ⟨g1, c1, g2, c2, rfl, hO1, hO2, h3⟩; replace h3 : Ex [] X w3 := Ex.trans (by first | (with_reducible assumption) | (repeat (with_reducible first | exact Ex.refl _ _ | assumption | exact Ex.mono (by assumption) (by simp; done) | refine Ex.alloc ?_ _ | refine Ex.drew ?_ | refine Ex.drewN ?_ _ | refine Ex.setCell ?_ (by first | (left; simp; done) | (right; simp; done) | (right; simp; omega)) _ | refine Ex.trans ?_ (by assumption)))) (h3.ex _); have h3s := h3.size; generalize hH : highs.set i xa = H at hO1 ⊢; generalize hLw : lows.set i (wrap64 (xa + 1)) = Lw at hO2 ⊢; have hH' := Lib.hid hH; have hLw' := Lib.hid hLw; clear hH hLw)
  refine wp_at (fun Y => Ex [] w3 Y ∧ Y.heap[w3.heap.size]? = some (.cells #[.slice (some ⟨bl, offl, none⟩) lows.length lc, .slice (some ⟨g1, 0, none⟩) H.length c1] 128 (0, 0)) ∧ Y.heap[w3.heap.size + 1]? = some (.cells #[.slice (some ⟨g2, 0, none⟩) Lw.length c2, .slice (some ⟨bh, offh, none⟩) highs.length hc] 128 (0, 0))) ⟨by (repeat (with_reducible first | exact Ex.refl _ _ | assumption | exact Ex.mono (by assumption) (by simp; done) | refine Ex.alloc ?_ _ | refine Ex.drew ?_ | refine Ex.drewN ?_ _ | refine Ex.setCell ?_ (by first | (left; simp; done) | (right; simp; done) | (right; simp; omega)) _ | refine Ex.trans ?_ (by assumption))), blk_alloc (blk_new _ _), blk_at _ _ (by simp)⟩ (fun Y hY => ?_)
  obtain ⟨hY, hD1, hD2⟩ := hY
  have hXY : Ex [] X Y := h3.trans hY
  have hwY : Ext w Y := hwX.trans hXY
  replace f0_0 := fun w' (h : Ex [] Y w') => f0_0 w' (hXY.trans (h.mono (by simp)))
  replace f0_1 := fun w' (h : Ex [] Y w') => f0_1 w' (hXY.trans (h.mono (by simp)))
  replace f0_2 := fun w' (h : Ex [] Y w') => f0_2 w' (hXY.trans (h.mono (by simp)))
  replace f0_3 := fun w' (h : Ex [] Y w') => f0_3 w' (hXY.trans (h.mono (by simp)))
  replace f0_4 := fun w' (h : Ex [] Y w') => f0_4 w' (hXY.trans (h.mono (by simp)))
  replace f0_5 := fun w' (h : Ex [] Y w') => f0_5 w' (hXY.trans (h.mono (by simp)))
  replace f0_6 := fun w' (h : Ex [] Y w') => f0_6 w' (hXY.trans (h.mono (by simp)))
  replace f0_7 := fun w' (h : Ex [] Y w') => f0_7 w' (hXY.trans (h.mono (by simp)))
  replace f0_8 := fun w' (h : Ex [] Y w') => f0_8 w' (hXY.trans (h.mono (by simp)))
  replace f0_9 := fun w' (h : Ex [] Y w') => f0_9 w' (hXY.trans (h.mono (by simp)))
  have d_0 := cellE (S := []) hD1 (by first | (simp; done) | (simp; omega)) 0 rfl
  have d_1 := cellE (S := []) hD1 (by first | (simp; done) | (simp; omega)) 1 rfl
  have e_0 := cellE (S := []) hD2 (by first | (simp; done) | (simp; omega)) 0 rfl
  have e_1 := cellE (S := []) hD2 (by first | (simp; done) | (simp; omega)) 1 rfl
  have hrY : Ex [] Y Y := Ex.refl _ _
  have hSH := (hO1.toSl (fun _ => rfl)).ext hY
  have hSL := (hO2.toSl (fun _ => rfl)).ext hY
  have hM : acceptM p ones (n + 1) lows highs (⟨i, xa, 0⟩ :: rest) = if (acceptM p ones n lows H rest).2 then acceptM p ones n Lw highs (acceptM p ones n lows H rest).1 else ([], false) := by
    rw [← hH'.out, ← hLw'.out, acceptM]; simp [hbl, hb0, hb2]
  have eH : H.length = p.lots.length := by rw [← hH'.out, List.length_set]; exact heh.out
  have eL : Lw.length = p.lots.length := by rw [← hLw'.out, List.length_set]; exact hel.out
  have eH' := Lib.hid eH; have eL' := Lib.hid eL; clear eH eL
  have hlen := acceptM_len p ones n lows H rest
  obtain ⟨⟨R1, ok1⟩, hR1⟩ : ∃ r, acceptM p ones n lows H rest = r := ⟨_, rfl⟩
  have hi1 : ∀ w', Ex [] Y w' → Calls Try.prog 75 #[.agg #[.slice a p.lots.length cap, .int .i64 p.mass.lo, .int .i64 p.mass.hi, .int .i64 p.target.a.lo, .int .i64 p.target.a.hi, .int .i64 p.target.b.lo, .int .i64 p.target.b.hi, .int .i64 p.target.c.lo, .int .i64 p.target.c.hi, .slice a2 ones.length cap2], .agg #[.slice (some ⟨bl, offl, none⟩) lows.length lc, .slice (some ⟨g1, 0, none⟩) H.length c1], .slice rr rest.length (pc - 1)] w' (fun e w'' => ∃ a' c', e = .returned (.tuple #[.slice a' R1.length c', .bool ok1]) ∧ Sl 3 Split.cells w'' a' c' R1 ∧ Ex [] Y w'') := fun w' h => by
    have h0 := ih'.out (some ⟨bl, offl, none⟩) (some ⟨g1, 0, none⟩) lc c1 lows H rr (pc - 1) rest w' (hs.ext (hwY.trans h)) (hl.ext (hwY.trans h)) (hSH.ext h) (hSr.ext (hwY.trans h)) hel eH' hrn
    refine h0.mono ?_
    rintro e w'' ⟨a', c', he, hS, hE⟩
    rw [hR1] at he hS
    exact ⟨a', c', he, hS, h.trans hE⟩
  rw [hR1] at hM hlen
  have hM' := Lib.hid hM; clear hM
  have hlen' : R1.length ≤ n := by simp only at hlen; omega
  clear hlen
  have hi2 : ∀ r1a r1c w', Sl 3 Split.cells w' r1a r1c R1 → Ex [] Y w' → Calls Try.prog 75 #[.agg #[.slice a p.lots.length cap, .int .i64 p.mass.lo, .int .i64 p.mass.hi, .int .i64 p.target.a.lo, .int .i64 p.target.a.hi, .int .i64 p.target.b.lo, .int .i64 p.target.b.hi, .int .i64 p.target.c.lo, .int .i64 p.target.c.hi, .slice a2 ones.length cap2], .agg #[.slice (some ⟨g2, 0, none⟩) Lw.length c2, .slice (some ⟨bh, offh, none⟩) highs.length hc], .slice r1a R1.length r1c] w' (fun e w'' => ∃ a' c', e = .returned (.tuple #[.slice a' (acceptM p ones n Lw highs R1).1.length c', .bool (acceptM p ones n Lw highs R1).2]) ∧ Sl 3 Split.cells w'' a' c' (acceptM p ones n Lw highs R1).1 ∧ Ex [] Y w'') := fun r1a r1c w' hS1 h => by
    have h0 := ih'.out (some ⟨g2, 0, none⟩) (some ⟨bh, offh, none⟩) c2 hc Lw highs r1a r1c R1 w' (hs.ext (hwY.trans h)) (hSL.ext h) (hh.ext (hwY.trans h)) hS1 eL' heh hlen'
    refine h0.mono ?_
    rintro e w'' ⟨a', c', he, hS, hE⟩
    exact ⟨a', c', he, hS, h.trans hE⟩
  clear hR1 ih' hl hh hSH hSL hSr hs hD1 hD2 hO1 hO2
  cases ok1
  · go_wp2_with (go_at_call 75; refine (hi1 _ (by first | (with_reducible assumption) | (repeat (with_reducible first | exact Ex.refl _ _ | assumption | exact Ex.mono (by assumption) (by simp; done) | refine Ex.alloc ?_ _ | refine Ex.drew ?_ | refine Ex.drewN ?_ _ | refine Ex.setCell ?_ (by first | (left; simp; done) | (right; simp; done) | (right; simp; omega)) _ | refine Ex.trans ?_ (by assumption))))).mono ?_; rintro e w4 ⟨r1a, r1c, rfl, hS4, h4⟩)
    go_returns
    refine ⟨none, 0, by rw [hM'.out]; rfl, by rw [hM'.out]; exact Sl.nil _ _ _, hwY.trans ?_⟩
    (repeat (with_reducible first | exact Ex.refl _ _ | assumption | exact Ex.mono (by assumption) (by simp; done) | refine Ex.alloc ?_ _ | refine Ex.drew ?_ | refine Ex.drewN ?_ _ | refine Ex.setCell ?_ (by first | (left; simp; done) | (right; simp; done) | (right; simp; omega)) _ | refine Ex.trans ?_ (by assumption)))
  · obtain ⟨⟨R2, ok2⟩, hR2⟩ : ∃ r, acceptM p ones n Lw highs R1 = r := ⟨_, rfl⟩
    rw [hR2] at hi2
    have hR2' := Lib.hid hR2; clear hR2
    go_wp2_with (first | (go_at_call 75; refine (hi1 _ (by first | (with_reducible assumption) | (repeat (with_reducible first | exact Ex.refl _ _ | assumption | exact Ex.mono (by assumption) (by simp; done) | refine Ex.alloc ?_ _ | refine Ex.drew ?_ | refine Ex.drewN ?_ _ | refine Ex.setCell ?_ (by first | (left; simp; done) | (right; simp; done) | (right; simp; omega)) _ | refine Ex.trans ?_ (by assumption))))).mono ?_; clear hi1; rintro e w4 ⟨r1a, r1c, rfl, hS4, h4⟩) | (go_at_call 75; refine (hi2 _ _ _ (by assumption) (by first | (with_reducible assumption) | (repeat (with_reducible first | exact Ex.refl _ _ | assumption | exact Ex.mono (by assumption) (by simp; done) | refine Ex.alloc ?_ _ | refine Ex.drew ?_ | refine Ex.drewN ?_ _ | refine Ex.setCell ?_ (by first | (left; simp; done) | (right; simp; done) | (right; simp; omega)) _ | refine Ex.trans ?_ (by assumption))))).mono ?_; rintro e w5 ⟨r2a, r2c, rfl, hS5, h5⟩))
    go_returns
    refine ⟨r2a, r2c, by rw [hM'.out]; simp [hR2'.out], by rw [hM'.out]; simp only [hR2'.out]; exact hS5, hwY.trans ?_⟩
    (repeat (with_reducible first | exact Ex.refl _ _ | assumption | exact Ex.mono (by assumption) (by simp; done) | refine Ex.alloc ?_ _ | refine Ex.drew ?_ | refine Ex.drewN ?_ _ | refine Ex.setCell ?_ (by first | (left; simp; done) | (right; simp; done) | (right; simp; omega)) _ | refine Ex.trans ?_ (by assumption)))

theorem accept_c (p : Recipe) (a : Option Addr) (cap : Nat) (a2 : Option Addr) (cap2 : Nat) (ones : List Mar) (hn : p.lots.length ≤ 1000) (ho : ones.length ≤ p.lots.length) : ∀ (n : Nat), ∀ (la ha : Option Addr) (lc hc : Nat) (lows highs : List Int) (pa : Option Addr) (pc : Nat) (l : List Split) (w : World), Sl 8 Mar.cells w a2 cap2 ones → SlI w la lc lows → SlI w ha hc highs → Sl 3 Split.cells w pa pc l → Hid (lows.length = p.lots.length) → Hid (highs.length = p.lots.length) → l.length ≤ n → Calls Try.prog 75 #[.agg #[.slice a p.lots.length cap, .int .i64 p.mass.lo, .int .i64 p.mass.hi, .int .i64 p.target.a.lo, .int .i64 p.target.a.hi, .int .i64 p.target.b.lo, .int .i64 p.target.b.hi, .int .i64 p.target.c.lo, .int .i64 p.target.c.hi, .slice a2 ones.length cap2], .agg #[.slice la lows.length lc, .slice ha highs.length hc], .slice pa l.length pc] w (AcceptPost p ones n lows highs l w) := by
  intro n
  induction n with
  | zero =>
    intro la ha lc hc lows highs pa pc l w hs hl hh hp hel heh hln
    have h0 : l = [] := List.length_eq_zero_iff.1 (by omega)
    subst h0
    exact accept_nil_c p a cap a2 cap2 ones 0 la ha lc hc lows highs pa pc w
  | succ n ih =>
  intro la ha lc hc lows highs pa pc l w hs hl hh hp hel heh hln
  cases l with
  | nil => exact accept_nil_c p a cap a2 cap2 ones (n + 1) la ha lc hc lows highs pa pc w
  | cons x rest =>
  obtain ⟨xl, xa, xr⟩ := x
  have hrn : rest.length ≤ n := by simpa using hln
  cases hbl : (xl == -1)
  case true => exact accept_leaf_c p a cap a2 cap2 ones hn ho n la ha lc hc lows highs pa pc xl xa xr rest w hs hl hh hp hel heh hbl
  case false =>
  cases hb0 : withinB xl 0 (p.lots.length - 1)
  case false => exact accept_nolot_c p a cap a2 cap2 ones hn ho n la ha lc hc lows highs pa pc xl xa xr rest w hs hl hh hp hel heh hbl hb0
  case true =>
  cases hb1 : (xr == 0)
  case false => exact accept_noreason_c p a cap a2 cap2 ones hn ho n la ha lc hc lows highs pa pc xl xa xr rest w hs hl hh hp hel heh hbl hb0 hb1
  case true =>
  cases hb2 : withinB xa (nth lows 0 xl.toNat) (wrap64 (nth highs 0 xl.toNat - 1))
  case false => exact accept_nocut_c p a cap a2 cap2 ones hn ho n la ha lc hc lows highs pa pc xl xa xr rest w hs hl hh hp hel heh hbl hb0 hb1 hb2
  case true => exact accept_cut_c p a cap a2 cap2 ones hn ho n la ha lc hc lows highs pa pc xl xa xr rest w hs hl hh hp hel heh hrn ih hbl hb0 hb1 hb2
end Go.Proofs.Ytojnpaenpaobcaa
