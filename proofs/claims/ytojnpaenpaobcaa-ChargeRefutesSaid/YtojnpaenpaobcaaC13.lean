/- A box is cut. No condition. -/
import Derived.Test.YtojnpaenpaobcaaC12
namespace Go.Proofs.Ytojnpaenpaobcaa
open Go.RowKit

set_option maxRecDepth 100000 in
set_option maxHeartbeats 4000000 in
theorem cut_c (la ha : Option Addr) (lc hc : Nat) (lows highs : List Int) (i : Nat) (at1 : Int) (w : World) (hl : SlI w la lc lows) (hh : SlI w ha hc highs) (hi1 : i < lows.length) (hi2 : i < highs.length) (hn1 : lows.length ≤ 1000) (hn2 : highs.length ≤ 1000) :
    Calls Try.prog 96 #[.agg #[.slice la lows.length lc, .slice ha highs.length hc], .int .i64 i, .int .i64 at1] w (fun e w' => ∃ g1 c1 g2 c2, e = .returned (.tuple #[.agg #[.slice la lows.length lc, .slice (some ⟨g1, 0, none⟩) (highs.set i at1).length c1], .agg #[.slice (some ⟨g2, 0, none⟩) (lows.set i (wrap64 (at1 + 1))).length c2, .slice ha highs.length hc]]) ∧
      Own 3 1 intCells w.heap.size w' (.slice (some ⟨g1, 0, none⟩) (highs.set i at1).length c1) (highs.set i at1) ∧ Own 3 1 intCells w.heap.size w' (.slice (some ⟨g2, 0, none⟩) (lows.set i (wrap64 (at1 + 1))).length c2) (lows.set i (wrap64 (at1 + 1))) ∧ Ext w w') := by
  have hle1 := hl.le; have hb1 := hl.big; have hle2 := hh.le; have hb2 := hh.big
  have hi0 : (0 : Int) ≤ (i : Int) := by omega
  have hi1' : (i : Int) < (lows.length : Int) := by omega
  have hi2' : (i : Int) < (highs.length : Int) := by omega
  go_enter Try.func96, Try.ntmps96
  go_upto_region 1 with (fail)
  refine wp_at (fun W => Ext w W ∧ w.heap.size + 3 = W.heap.size ∧ W.heap[w.heap.size]? = some (.cells #[.slice la lows.length lc, .slice ha highs.length hc] 128 (0, 0)) ∧ W.heap[w.heap.size + 1]? = some (.cells #[.slice none 0 0, .slice none 0 0] 128 (0, 0)) ∧ W.heap[w.heap.size + 1 + 1]? = some (.cells #[.slice none 0 0, .slice none 0 0] 128 (0, 0))) ⟨by (repeat (with_reducible first | exact Ex.refl _ _ | assumption | exact Ex.mono (by assumption) (by simp; done) | refine Ex.alloc ?_ _ | refine Ex.drew ?_ | refine Ex.drewN ?_ _ | refine Ex.setCell ?_ (by first | (left; simp; done) | (right; simp; done) | (right; simp; omega)) _ | refine Ex.trans ?_ (by assumption))), by simp, blk_alloc (blk_alloc (blk_new _ _)), blk_alloc (by have h := blk_new ((w).alloc (.cells #[.slice la lows.length lc, .slice ha highs.length hc] 128 (0, 0))) (.cells #[.slice none 0 0, .slice none 0 0] 128 (0, 0)); simpa using h), by have h := blk_new (((w).alloc (.cells #[.slice la lows.length lc, .slice ha highs.length hc] 128 (0, 0))).alloc (.cells #[.slice none 0 0, .slice none 0 0] 128 (0, 0))) (.cells #[.slice none 0 0, .slice none 0 0] 128 (0, 0)); simpa using h⟩ (fun W hW => ?_)
  obtain ⟨hr0, hsz, hB0, hB1, hB2⟩ := hW
  have hr : Ex [] W W := Ex.refl _ _
  have f1_0 := cellE (S := []) hB1 (by first | (simp; done) | (simp; omega)) 0 rfl
  have f1_1 := cellE (S := []) hB1 (by first | (simp; done) | (simp; omega)) 1 rfl
  have f2_0 := cellE (S := []) hB2 (by first | (simp; done) | (simp; omega)) 0 rfl
  have f2_1 := cellE (S := []) hB2 (by first | (simp; done) | (simp; omega)) 1 rfl
  have z1_0 := freeE (S := []) hB1 (by first | (simp; done) | (simp; omega)) 0
  have z1_1 := freeE (S := []) hB1 (by first | (simp; done) | (simp; omega)) 1
  have z2_0 := freeE (S := []) hB2 (by first | (simp; done) | (simp; omega)) 0
  have z2_1 := freeE (S := []) hB2 (by first | (simp; done) | (simp; omega)) 1
  have hsz' := Nat.le_of_eq hsz.symm; have hsz'' := Nat.le_of_eq hsz; clear hsz
  have f0_0 := cellE (S := [w.heap.size + 1, w.heap.size + 1 + 1]) hB0 (by first | (simp; done) | (simp; omega)) 0 rfl
  have f0_1 := cellE (S := [w.heap.size + 1, w.heap.size + 1 + 1]) hB0 (by first | (simp; done) | (simp; omega)) 1 rfl
  clear hB0
  have hB1' := Lib.hid hB1; have hB2' := Lib.hid hB2; clear hB1 hB2
  refine region_plan (fun w' => Ex [w.heap.size + 1, w.heap.size + 1 + 1] W w') [.pu [0, 2, 6, 9], .st [1, 3, 7, 10], .mv 4, .pu [5], .mv 8, .pu [11], .mv 12, .mv 13] (by kernel_rfl) (by kernel_rfl) (Ex.drew (by first | (with_reducible assumption) | (repeat (with_reducible first | exact Ex.refl _ _ | assumption | exact Ex.mono (by assumption) (by simp; done) | refine Ex.alloc ?_ _ | refine Ex.drew ?_ | refine Ex.drewN ?_ _ | refine Ex.setCell ?_ (by first | (left; simp; done) | (right; simp; done) | (right; simp; omega)) _ | refine Ex.trans ?_ (by assumption))))) ?_
  refine plan_pu (fun K hK => ?_)
  simp only [pick, List.drop_succ_cons, List.drop_zero, List.take_succ_cons, List.take_zero, List.cons_append, List.nil_append]
  iterate 4 (first | (refine wpYield_want ?_ (by rfl) (fun w' hS' => ?_) ?_; rotate_left; ((try dsimp only at hS'); go_simp; try with_reducible rfl); simp only [Act.put, List.setIfInBounds_toArray, List.set_cons_zero, List.set_cons_succ]) | (refine wpYield_skip (by rfl) ?_; simp only [Act.put, List.setIfInBounds_toArray, List.set_cons_zero, List.set_cons_succ]))
  refine wpYield_nil (hK _ ?_)
  clear hK K
  refine plan_st (fun K hK => ?_)
  simp only [pick, List.drop_succ_cons, List.drop_zero, List.take_succ_cons, List.take_zero, List.cons_append, List.nil_append]
  iterate 4 (first | (refine wpYield_want ?_ (by rfl) (fun w' hS' => ?_) ?_; rotate_left; ((try dsimp only at hS'); go_simp; try with_reducible rfl); simp only [Act.put, List.setIfInBounds_toArray, List.set_cons_zero, List.set_cons_succ]) | (refine wpYield_skip (by rfl) ?_; simp only [Act.put, List.setIfInBounds_toArray, List.set_cons_zero, List.set_cons_succ]))
  refine wpYield_nil (hK _ ?_)
  clear hK K
  refine plan_mv (fun K hK => ?_)
  simp only [pick, List.drop_succ_cons, List.drop_zero, List.take_succ_cons, List.take_zero, List.cons_append, List.nil_append]
  go_wp2_with (go_at_call 70; refine (cloneI_c _ _ highs _ (hh.ext (hr0.trans (by first | (with_reducible assumption) | (repeat (with_reducible first | exact Ex.refl _ _ | assumption | exact Ex.mono (by assumption) (by simp; done) | refine Ex.alloc ?_ _ | refine Ex.drew ?_ | refine Ex.drewN ?_ _ | refine Ex.setCell ?_ (by first | (left; simp; done) | (right; simp; done) | (right; simp; omega)) _ | refine Ex.trans ?_ (by assumption)))))) (by omega)).mono ?_; rintro e w1 ⟨a1, c1, rfl, hOv1, h1⟩; replace h1 : Ext W w1 := Ex.trans (by first | (with_reducible assumption) | (repeat (with_reducible first | exact Ex.refl _ _ | assumption | exact Ex.mono (by assumption) (by simp; done) | refine Ex.alloc ?_ _ | refine Ex.drew ?_ | refine Ex.drewN ?_ _ | refine Ex.setCell ?_ (by first | (left; simp; done) | (right; simp; done) | (right; simp; omega)) _ | refine Ex.trans ?_ (by assumption)))) h1)
  have hO1 := hOv1.mono (b' := W.heap.size) (by simp)
  have hlt1 : ∀ g, (Value.slice a1 highs.length c1).ownBlock = some g → g < w1.heap.size := fun g hg => hO1.lt hg
  clear hOv1
  first | refine hK _ _ (by first | (with_reducible assumption) | (repeat (with_reducible first | exact Ex.refl _ _ | assumption | exact Ex.mono (by assumption) (by simp; done) | refine Ex.alloc ?_ _ | refine Ex.drew ?_ | refine Ex.drewN ?_ _ | refine Ex.setCell ?_ (by first | (left; simp; done) | (right; simp; done) | (right; simp; omega)) _ | refine Ex.trans ?_ (by assumption)))) ?_ | refine ⟨rfl, hK _ _ (by first | (with_reducible assumption) | (repeat (with_reducible first | exact Ex.refl _ _ | assumption | exact Ex.mono (by assumption) (by simp; done) | refine Ex.alloc ?_ _ | refine Ex.drew ?_ | refine Ex.drewN ?_ _ | refine Ex.setCell ?_ (by first | (left; simp; done) | (right; simp; done) | (right; simp; omega)) _ | refine Ex.trans ?_ (by assumption)))) ?_⟩
  clear hK K
  refine plan_pu (fun K hK => ?_)
  simp only [pick, List.drop_succ_cons, List.drop_zero, List.take_succ_cons, List.take_zero, List.cons_append, List.nil_append]
  iterate 1 (first | (refine wpYield_want ?_ (by rfl) (fun w' hS' => ?_) ?_; rotate_left; ((try dsimp only at hS'); go_simp; try with_reducible rfl); simp only [Act.put, List.setIfInBounds_toArray, List.set_cons_zero, List.set_cons_succ]) | (refine wpYield_skip (by rfl) ?_; simp only [Act.put, List.setIfInBounds_toArray, List.set_cons_zero, List.set_cons_succ]))
  refine wpYield_nil (hK _ ?_)
  clear hK K
  refine plan_mv (fun K hK => ?_)
  simp only [pick, List.drop_succ_cons, List.drop_zero, List.take_succ_cons, List.take_zero, List.cons_append, List.nil_append]
  go_wp2_with (go_at_call 70; refine (cloneI_c _ _ lows _ (hl.ext (hr0.trans (by first | (with_reducible assumption) | (repeat (with_reducible first | exact Ex.refl _ _ | assumption | exact Ex.mono (by assumption) (by simp; done) | refine Ex.alloc ?_ _ | refine Ex.drew ?_ | refine Ex.drewN ?_ _ | refine Ex.setCell ?_ (by first | (left; simp; done) | (right; simp; done) | (right; simp; omega)) _ | refine Ex.trans ?_ (by assumption)))))) (by omega)).mono ?_; rintro e w2 ⟨a2, c2, rfl, hOv2, h2⟩; have hO1' := hO1.ext h2; clear hO1; have hb12 : ∀ g, (Value.slice a2 lows.length c2).ownBlock = some g → w1.heap.size ≤ g := fun g hg => (by simpa using hOv2.base_le hg); replace h2 : Ext W w2 := Ex.trans (by first | (with_reducible assumption) | (repeat (with_reducible first | exact Ex.refl _ _ | assumption | exact Ex.mono (by assumption) (by simp; done) | refine Ex.alloc ?_ _ | refine Ex.drew ?_ | refine Ex.drewN ?_ _ | refine Ex.setCell ?_ (by first | (left; simp; done) | (right; simp; done) | (right; simp; omega)) _ | refine Ex.trans ?_ (by assumption)))) h2)
  have hO2 := hOv2.mono (b' := W.heap.size) (by have := h1.size; simp; omega)
  clear hOv2
  first | refine hK _ _ (by first | (with_reducible assumption) | (repeat (with_reducible first | exact Ex.refl _ _ | assumption | exact Ex.mono (by assumption) (by simp; done) | refine Ex.alloc ?_ _ | refine Ex.drew ?_ | refine Ex.drewN ?_ _ | refine Ex.setCell ?_ (by first | (left; simp; done) | (right; simp; done) | (right; simp; omega)) _ | refine Ex.trans ?_ (by assumption)))) ?_ | refine ⟨rfl, hK _ _ (by first | (with_reducible assumption) | (repeat (with_reducible first | exact Ex.refl _ _ | assumption | exact Ex.mono (by assumption) (by simp; done) | refine Ex.alloc ?_ _ | refine Ex.drew ?_ | refine Ex.drewN ?_ _ | refine Ex.setCell ?_ (by first | (left; simp; done) | (right; simp; done) | (right; simp; omega)) _ | refine Ex.trans ?_ (by assumption)))) ?_⟩
  clear hK K
  refine plan_pu (fun K hK => ?_)
  simp only [pick, List.drop_succ_cons, List.drop_zero, List.take_succ_cons, List.take_zero, List.cons_append, List.nil_append]
  iterate 1 (first | (refine wpYield_want ?_ (by rfl) (fun w' hS' => ?_) ?_; rotate_left; ((try dsimp only at hS'); go_simp; try with_reducible rfl); simp only [Act.put, List.setIfInBounds_toArray, List.set_cons_zero, List.set_cons_succ]) | (refine wpYield_skip (by rfl) ?_; simp only [Act.put, List.setIfInBounds_toArray, List.set_cons_zero, List.set_cons_succ]))
  refine wpYield_nil (hK _ ?_)
  clear hK K
  refine plan_mv (fun K hK => ?_)
  simp only [pick, List.drop_succ_cons, List.drop_zero, List.take_succ_cons, List.take_zero, List.cons_append, List.nil_append]
  go_wp2_with fail
  first | refine hK _ _ (by first | (with_reducible assumption) | (repeat (with_reducible first | exact Ex.refl _ _ | assumption | exact Ex.mono (by assumption) (by simp; done) | refine Ex.alloc ?_ _ | refine Ex.drew ?_ | refine Ex.drewN ?_ _ | refine Ex.setCell ?_ (by first | (left; simp; done) | (right; simp; done) | (right; simp; omega)) _ | refine Ex.trans ?_ (by assumption)))) ?_ | refine ⟨rfl, hK _ _ (by first | (with_reducible assumption) | (repeat (with_reducible first | exact Ex.refl _ _ | assumption | exact Ex.mono (by assumption) (by simp; done) | refine Ex.alloc ?_ _ | refine Ex.drew ?_ | refine Ex.drewN ?_ _ | refine Ex.setCell ?_ (by first | (left; simp; done) | (right; simp; done) | (right; simp; omega)) _ | refine Ex.trans ?_ (by assumption)))) ?_⟩
  clear hK K
  refine plan_mv (fun K hK => ?_)
  simp only [pick, List.drop_succ_cons, List.drop_zero, List.take_succ_cons, List.take_zero, List.cons_append, List.nil_append]
  go_wp2_with fail
  first | refine hK _ _ (by first | (with_reducible assumption) | (repeat (with_reducible first | exact Ex.refl _ _ | assumption | exact Ex.mono (by assumption) (by simp; done) | refine Ex.alloc ?_ _ | refine Ex.drew ?_ | refine Ex.drewN ?_ _ | refine Ex.setCell ?_ (by first | (left; simp; done) | (right; simp; done) | (right; simp; omega)) _ | refine Ex.trans ?_ (by assumption)))) ?_ | refine ⟨rfl, hK _ _ (by first | (with_reducible assumption) | (repeat (with_reducible first | exact Ex.refl _ _ | assumption | exact Ex.mono (by assumption) (by simp; done) | refine Ex.alloc ?_ _ | refine Ex.drew ?_ | refine Ex.drewN ?_ _ | refine Ex.setCell ?_ (by first | (left; simp; done) | (right; simp; done) | (right; simp; omega)) _ | refine Ex.trans ?_ (by assumption)))) ?_⟩
  clear hK K
  refine plan_nil ?_
  obtain ⟨g1, k1, e1, hg1, hl1, hcell1, hfree1⟩ := hO1'.cellAt intCells_len hi2
  obtain ⟨g2, k2, e2, hg2, hl2, hcell2, hfree2⟩ := hO2.cellAt intCells_len hi1
  simp only [Value.slice.injEq, true_and] at e1 e2
  obtain ⟨rfl, rfl⟩ := e1
  obtain ⟨rfl, rfl⟩ := e2
  have hg12 : g1 < g2 := Nat.lt_of_lt_of_le (hlt1 g1 rfl) (hb12 g2 rfl)
  clear hlt1 hb12 hcell1 hfree1 hcell2 hfree2
  have hN : ∀ b, W.heap.size ≤ b → b ∉ [w.heap.size + 1, w.heap.size + 1 + 1] := fun b hb => by simp; omega
  go_upto_region 2 with fail
  refine wp_at (fun X => Ext w X ∧ X.heap[w.heap.size + 1]? = some (.cells #[.slice la lows.length lc, .slice (some ⟨g1, 0, none⟩) highs.length c1] 128 (0, 0)) ∧ X.heap[w.heap.size + 1 + 1]? = some (.cells #[.slice (some ⟨g2, 0, none⟩) lows.length c2, .slice ha highs.length hc] 128 (0, 0)) ∧ Own 3 1 intCells W.heap.size X (.slice (some ⟨g1, 0, none⟩) highs.length c1) highs ∧ Own 3 1 intCells W.heap.size X (.slice (some ⟨g2, 0, none⟩) lows.length c2) lows) ⟨?_, ?_, ?_, ?_, ?_⟩ (fun X hX => ?_)
  · (repeat (with_reducible first | exact Ex.refl _ _ | assumption | exact Ex.trans hr0 (by assumption) | exact Ex.mono (by assumption) (by simp; done) | refine Ex.alloc ?_ _ | refine Ex.drew ?_ | refine Ex.drewN ?_ _ | refine Ex.setCell ?_ (by first | (left; simp; done) | (right; simp; done) | (right; simp; omega)) _ | refine Ex.trans ?_ (by assumption)))
  · refine blk_to (blk_set_other (blk_set_other (blk_set (blk_set (h2.heap (by simp) hB1'.out) 0 _) 1 _) (by omega)) (by omega)) ?_
    kernel_rfl
  · refine blk_to (blk_set (blk_set (blk_set_other (blk_set_other (h2.heap (by simp) hB2'.out) (by omega)) (by omega)) 0 _) 1 _) ?_
    kernel_rfl
  · refine hO1'.ex (S := [w.heap.size + 1, w.heap.size + 1 + 1]) (by (repeat (with_reducible first | exact Ex.refl _ _ | assumption | exact Ex.mono (by assumption) (by simp; done) | refine Ex.alloc ?_ _ | refine Ex.drew ?_ | refine Ex.drewN ?_ _ | refine Ex.setCell ?_ (by first | (left; simp; done) | (right; simp; done) | (right; simp; omega)) _ | refine Ex.trans ?_ (by assumption)))) (fun g hg => hN g (hO1'.base_le hg))
  · refine hO2.ex (S := [w.heap.size + 1, w.heap.size + 1 + 1]) (by (repeat (with_reducible first | exact Ex.refl _ _ | assumption | exact Ex.mono (by assumption) (by simp; done) | refine Ex.alloc ?_ _ | refine Ex.drew ?_ | refine Ex.drewN ?_ _ | refine Ex.setCell ?_ (by first | (left; simp; done) | (right; simp; done) | (right; simp; omega)) _ | refine Ex.trans ?_ (by assumption)))) (fun g hg => hN g (hO2.base_le hg))
  obtain ⟨hX1, hX2, hX3, hX4, hX5⟩ := hX
  obtain ⟨g1', k1, e1, hG1, hl1, hcell1, hfree1⟩ := hX4.cellAt intCells_len hi2
  obtain ⟨g2', k2, e2, hG2, hl2, hcell2, hfree2⟩ := hX5.cellAt intCells_len hi1
  simp only [Value.slice.injEq, true_and, Option.some.injEq, Addr.mk.injEq, and_true] at e1 e2
  obtain ⟨rfl, rfl⟩ := e1
  obtain ⟨rfl, rfl⟩ := e2
  have u1 := hcell1 0 _ rfl
  have u2 := hcell2 0 _ rfl
  have y1 := hfree1 i
  have y2 := hfree2 i
  rw [Nat.add_zero, Nat.mul_one] at u1 u2
  clear hcell1 hcell2 hfree1 hfree2 h1 h2 hO1' hO2 hB1' hB2' hr hr0
  have q_0 := cellE (S := [g1, g2]) hX2 (by simp; omega) 0 rfl
  have q_1 := cellE (S := [g1, g2]) hX2 (by simp; omega) 1 rfl
  have m_0 := cellE (S := [g1, g2]) hX3 (by simp; omega) 0 rfl
  have m_1 := cellE (S := [g1, g2]) hX3 (by simp; omega) 1 rfl
  have hrX : Ex [g1, g2] X X := Ex.refl _ _
  have hX2' := Lib.hid hX2; have hX3' := Lib.hid hX3; clear hX2 hX3
  refine region_plan (fun w' => Ex [g1, g2] X w') [.pu [0, 2, 3, 5, 6, 7, 8], .st [1, 4], .pu [9], .mv 10, .pu [11], .mv 12] (by kernel_rfl) (by kernel_rfl) (Ex.drew (by first | (with_reducible assumption) | (repeat (with_reducible first | exact Ex.refl _ _ | assumption | exact Ex.mono (by assumption) (by simp; done) | refine Ex.alloc ?_ _ | refine Ex.drew ?_ | refine Ex.drewN ?_ _ | refine Ex.setCell ?_ (by first | (left; simp; done) | (right; simp; done) | (right; simp; omega)) _ | refine Ex.trans ?_ (by assumption))))) ?_
  refine plan_pu (fun K hK => ?_)
  simp only [pick, List.drop_succ_cons, List.drop_zero, List.take_succ_cons, List.take_zero, List.cons_append, List.nil_append]
  iterate 7 (first | (refine wpYield_want ?_ (by rfl) (fun w' hS' => ?_) ?_; rotate_left; ((try dsimp only at hS'); go_simp; try with_reducible rfl); simp only [Act.put, List.setIfInBounds_toArray, List.set_cons_zero, List.set_cons_succ]) | (refine wpYield_skip (by rfl) ?_; simp only [Act.put, List.setIfInBounds_toArray, List.set_cons_zero, List.set_cons_succ]))
  refine wpYield_nil (hK _ ?_)
  clear hK K
  refine plan_st (fun K hK => ?_)
  simp only [pick, List.drop_succ_cons, List.drop_zero, List.take_succ_cons, List.take_zero, List.cons_append, List.nil_append]
  iterate 2 (first | (refine wpYield_want ?_ (by rfl) (fun w' hS' => ?_) ?_; rotate_left; ((try dsimp only at hS'); go_simp; try with_reducible rfl); simp only [Act.put, List.setIfInBounds_toArray, List.set_cons_zero, List.set_cons_succ]) | (refine wpYield_skip (by rfl) ?_; simp only [Act.put, List.setIfInBounds_toArray, List.set_cons_zero, List.set_cons_succ]))
  refine wpYield_nil (hK _ ?_)
  clear hK K
  refine plan_pu (fun K hK => ?_)
  simp only [pick, List.drop_succ_cons, List.drop_zero, List.take_succ_cons, List.take_zero, List.cons_append, List.nil_append]
  iterate 1 (first | (refine wpYield_want ?_ (by rfl) (fun w' hS' => ?_) ?_; rotate_left; ((try dsimp only at hS'); go_simp; try with_reducible rfl); simp only [Act.put, List.setIfInBounds_toArray, List.set_cons_zero, List.set_cons_succ]) | (refine wpYield_skip (by rfl) ?_; simp only [Act.put, List.setIfInBounds_toArray, List.set_cons_zero, List.set_cons_succ]))
  refine wpYield_nil (hK _ ?_)
  clear hK K
  refine plan_mv (fun K hK => ?_)
  simp only [pick, List.drop_succ_cons, List.drop_zero, List.take_succ_cons, List.take_zero, List.cons_append, List.nil_append]
  go_wp2_with fail
  first | refine hK _ _ (by first | (with_reducible assumption) | (repeat (with_reducible first | exact Ex.refl _ _ | assumption | exact Ex.mono (by assumption) (by simp; done) | refine Ex.alloc ?_ _ | refine Ex.drew ?_ | refine Ex.drewN ?_ _ | refine Ex.setCell ?_ (by first | (left; simp; done) | (right; simp; done) | (right; simp; omega)) _ | refine Ex.trans ?_ (by assumption)))) ?_ | refine ⟨rfl, hK _ _ (by first | (with_reducible assumption) | (repeat (with_reducible first | exact Ex.refl _ _ | assumption | exact Ex.mono (by assumption) (by simp; done) | refine Ex.alloc ?_ _ | refine Ex.drew ?_ | refine Ex.drewN ?_ _ | refine Ex.setCell ?_ (by first | (left; simp; done) | (right; simp; done) | (right; simp; omega)) _ | refine Ex.trans ?_ (by assumption)))) ?_⟩
  clear hK K
  refine plan_pu (fun K hK => ?_)
  simp only [pick, List.drop_succ_cons, List.drop_zero, List.take_succ_cons, List.take_zero, List.cons_append, List.nil_append]
  iterate 1 (first | (refine wpYield_want ?_ (by rfl) (fun w' hS' => ?_) ?_; rotate_left; ((try dsimp only at hS'); go_simp; try with_reducible rfl); simp only [Act.put, List.setIfInBounds_toArray, List.set_cons_zero, List.set_cons_succ]) | (refine wpYield_skip (by rfl) ?_; simp only [Act.put, List.setIfInBounds_toArray, List.set_cons_zero, List.set_cons_succ]))
  refine wpYield_nil (hK _ ?_)
  clear hK K
  refine plan_mv (fun K hK => ?_)
  simp only [pick, List.drop_succ_cons, List.drop_zero, List.take_succ_cons, List.take_zero, List.cons_append, List.nil_append]
  go_wp2_with fail
  first | refine hK _ _ (by first | (with_reducible assumption) | (repeat (with_reducible first | exact Ex.refl _ _ | assumption | exact Ex.mono (by assumption) (by simp; done) | refine Ex.alloc ?_ _ | refine Ex.drew ?_ | refine Ex.drewN ?_ _ | refine Ex.setCell ?_ (by first | (left; simp; done) | (right; simp; done) | (right; simp; omega)) _ | refine Ex.trans ?_ (by assumption)))) ?_ | refine ⟨rfl, hK _ _ (by first | (with_reducible assumption) | (repeat (with_reducible first | exact Ex.refl _ _ | assumption | exact Ex.mono (by assumption) (by simp; done) | refine Ex.alloc ?_ _ | refine Ex.drew ?_ | refine Ex.drewN ?_ _ | refine Ex.setCell ?_ (by first | (left; simp; done) | (right; simp; done) | (right; simp; omega)) _ | refine Ex.trans ?_ (by assumption)))) ?_⟩
  clear hK K
  refine plan_nil ?_
  go_upto_region 3 with fail
  refine wp_at (fun Y => Ext w Y ∧ Y.heap[w.heap.size + 1]? = some (.cells #[.slice la lows.length lc, .slice (some ⟨g1, 0, none⟩) highs.length c1] 128 (0, 0)) ∧ Y.heap[w.heap.size + 1 + 1]? = some (.cells #[.slice (some ⟨g2, 0, none⟩) lows.length c2, .slice ha highs.length hc] 128 (0, 0)) ∧ Own 3 1 intCells W.heap.size Y (.slice (some ⟨g1, 0, none⟩) highs.length c1) (highs.set i at1) ∧ Own 3 1 intCells W.heap.size Y (.slice (some ⟨g2, 0, none⟩) lows.length c2) (lows.set i (wrap64 (at1 + 1)))) ⟨?_, ?_, ?_, ?_, ?_⟩ (fun Y hY => ?_)
  · exact ((hX1.drew).setCell (.inr (by show w.heap.size ≤ g1; omega)) _).setCell (.inr (by show w.heap.size ≤ g2; omega)) _
  · exact blk_set_other (blk_set_other (blk_drew hX2'.out) (by omega)) (by omega)
  · exact blk_set_other (blk_set_other (blk_drew hX3'.out) (by omega)) (by omega)
  · refine Own.ex (S := [g2]) ((hX4.ext ((Ex.refl _ _).drew)).set intCells_len hi2 rfl at1 _ rfl) ((Ex.refl _ _).setCell (.inl (by simp)) _) (fun g hg => ?_)
    simp only [Value.ownBlock, Option.some.injEq] at hg
    subst hg
    simp; omega
  · refine Own.set (xs := lows) (Own.ex (S := [g1]) (hX5.ext ((Ex.refl _ _).drew)) ((Ex.refl _ _).setCell (.inl (by simp)) _) (fun g hg => ?_)) intCells_len hi1 rfl (wrap64 (at1 + 1)) _ rfl
    simp only [Value.ownBlock, Option.some.injEq] at hg
    subst hg
    simp; omega
  obtain ⟨hY1, hY2, hY3, hY4, hY5⟩ := hY
  have hY2' := blk_drew hY2
  have hY3' := blk_drew hY3
  have q1 := hY4.mono (b' := w.heap.size) (by omega)
  have q2 := hY5.mono (b' := w.heap.size) (by omega)
  have ea0 := blk_cell (v := .slice la lows.length lc) hY2' 0 rfl
  have za0 := blk_free hY2' 0
  have sa0 := setCell_self ea0
  have ea1 := blk_cell (v := .slice (some ⟨g1, 0, none⟩) highs.length c1) hY2' 1 rfl
  have za1 := blk_free hY2' 1
  have sa1 := setCell_self ea1
  have eb0 := blk_cell (v := .slice (some ⟨g2, 0, none⟩) lows.length c2) hY3' 0 rfl
  have zb0 := blk_free hY3' 0
  have sb0 := setCell_self eb0
  have eb1 := blk_cell (v := .slice ha highs.length hc) hY3' 1 rfl
  have zb1 := blk_free hY3' 1
  have sb1 := setCell_self eb1
  have hrY : Ex [] Y Y := Ex.refl _ _
  have la0 := cellE (S := []) hY2 (by simp) 0 rfl
  have lb0 := cellE (S := []) hY3 (by simp) 0 rfl
  have la1 := cellE (S := []) hY2 (by simp) 1 rfl
  have lb1 := cellE (S := []) hY3 (by simp) 1 rfl
  clear hY2 hY3 hY2' hY3' hY4 hY5 hX2' hX3' hX4 hX5
  refine region_plan (fun w' => Ex [] Y w') [.st [0, 1], .mv 2, .mv 3] (by kernel_rfl) (by kernel_rfl) (Ex.drew (by first | (with_reducible assumption) | (repeat (with_reducible first | exact Ex.refl _ _ | assumption | exact Ex.mono (by assumption) (by simp; done) | refine Ex.alloc ?_ _ | refine Ex.drew ?_ | refine Ex.drewN ?_ _ | refine Ex.setCell ?_ (by first | (left; simp; done) | (right; simp; done) | (right; simp; omega)) _ | refine Ex.trans ?_ (by assumption))))) ?_
  refine plan_st (fun K hK => ?_)
  simp only [pick, List.drop_succ_cons, List.drop_zero, List.take_succ_cons, List.take_zero, List.cons_append, List.nil_append]
  iterate 2 (first | (refine wpYield_want ?_ (by rfl) (fun w' hS' => ?_) ?_; rotate_left; ((try dsimp only at hS'); go_simp; try with_reducible rfl); simp only [Act.put, List.setIfInBounds_toArray, List.set_cons_zero, List.set_cons_succ]) | (refine wpYield_skip (by rfl) ?_; simp only [Act.put, List.setIfInBounds_toArray, List.set_cons_zero, List.set_cons_succ]))
  refine wpYield_nil (hK _ ?_)
  clear hK K
  refine plan_mv (fun K hK => ?_)
  simp only [pick, List.drop_succ_cons, List.drop_zero, List.take_succ_cons, List.take_zero, List.cons_append, List.nil_append]
  go_wp2_with fail
  first | refine hK _ _ (by first | (with_reducible assumption) | (repeat (with_reducible first | exact Ex.refl _ _ | assumption | exact Ex.mono (by assumption) (by simp; done) | refine Ex.alloc ?_ _ | refine Ex.drew ?_ | refine Ex.drewN ?_ _ | refine Ex.setCell ?_ (by first | (left; simp; done) | (right; simp; done) | (right; simp; omega)) _ | refine Ex.trans ?_ (by assumption)))) ?_ | refine ⟨rfl, hK _ _ (by first | (with_reducible assumption) | (repeat (with_reducible first | exact Ex.refl _ _ | assumption | exact Ex.mono (by assumption) (by simp; done) | refine Ex.alloc ?_ _ | refine Ex.drew ?_ | refine Ex.drewN ?_ _ | refine Ex.setCell ?_ (by first | (left; simp; done) | (right; simp; done) | (right; simp; omega)) _ | refine Ex.trans ?_ (by assumption)))) ?_⟩
  clear hK K
  refine plan_mv (fun K hK => ?_)
  simp only [pick, List.drop_succ_cons, List.drop_zero, List.take_succ_cons, List.take_zero, List.cons_append, List.nil_append]
  go_wp2_with fail
  first | refine hK _ _ (by first | (with_reducible assumption) | (repeat (with_reducible first | exact Ex.refl _ _ | assumption | exact Ex.mono (by assumption) (by simp; done) | refine Ex.alloc ?_ _ | refine Ex.drew ?_ | refine Ex.drewN ?_ _ | refine Ex.setCell ?_ (by first | (left; simp; done) | (right; simp; done) | (right; simp; omega)) _ | refine Ex.trans ?_ (by assumption)))) ?_ | refine ⟨rfl, hK _ _ (by first | (with_reducible assumption) | (repeat (with_reducible first | exact Ex.refl _ _ | assumption | exact Ex.mono (by assumption) (by simp; done) | refine Ex.alloc ?_ _ | refine Ex.drew ?_ | refine Ex.drewN ?_ _ | refine Ex.setCell ?_ (by first | (left; simp; done) | (right; simp; done) | (right; simp; omega)) _ | refine Ex.trans ?_ (by assumption)))) ?_⟩
  clear hK K
  refine plan_nil ?_
  go_wp2_with fail
  (try simp only [Exit.inBlock, Exit.then])
  refine bodyPost_ret (v := .tuple #[.agg #[.slice la lows.length lc, .slice (some ⟨g1, 0, none⟩) highs.length c1], .agg #[.slice (some ⟨g2, 0, none⟩) lows.length c2, .slice ha highs.length hc]]) (by simp [results, Try.results96, go_sem, ea0, ea1, eb0, eb1]) rfl ⟨g1, c1, g2, c2, ?_, ?_, ?_, hY1.drew⟩
  · simp
  · exact (show Own _ _ _ _ _ (.slice (some ⟨g1, 0, none⟩) (highs.set i at1).length c1) _ from by rw [List.length_set]; exact q1.ext ((Ex.refl _ _).drew))
  · exact (show Own _ _ _ _ _ (.slice (some ⟨g2, 0, none⟩) (lows.set i (wrap64 (at1 + 1))).length c2) _ from by rw [List.length_set]; exact q2.ext ((Ex.refl _ _).drew))
end Go.Proofs.Ytojnpaenpaobcaa
