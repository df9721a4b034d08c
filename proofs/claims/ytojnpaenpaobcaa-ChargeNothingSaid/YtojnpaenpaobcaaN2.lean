/- ChargeNothing: the walk. No condition. -/
import Derived.Test.YtojnpaenpaobcaaN1
import Derived.Test.YtojnpaenpaobcaaK4
import Derived.Test.YtojnpaenpaobcaaEQ
namespace Go.Proofs.Ytojnpaenpaobcaa
open Go.RowKit
attribute [local irreducible] wpYield wpPlan
attribute [local go_sem] run_equalIn_bnds

structure Pick where
  (lot n : Int)
  deriving DecidableEq
def Pick.cells (s : Pick) : List Value := [.int .i64 s.lot, .int .i64 s.n]
theorem Pick.len (m : Pick) : m.cells.length = 2 := rfl
theorem Pick.one (m : Pick) : ∀ u ∈ m.cells, u.oneCell' = true := by simp [Pick.cells, Value.oneCell']
theorem eiPick : EI Try.prog 80 150 2 16 := EI.mk' (z := .agg #[.int .i64 0, .int .i64 0]) (by kernel_rfl) (by kernel_rfl) (by rfl) (by omega)

set_option maxRecDepth 100000 in
set_option maxHeartbeats 8000000 in
theorem nothing_c (kind : Int) (l : Lot) (parents : List Int) (picks : List Pick) (number : Int) (pa ka : Option Addr) (pc kc : Nat) (w : World) (hp : SlI w pa pc parents) (hk : Sl 2 Pick.cells w ka kc picks) :
    Calls Try.prog 10 #[.agg #[.int .u8 kind, .int .i64 l.count, .int .i64 l.mass, .int .i64 l.con.a.lo, .int .i64 l.con.a.hi, .int .i64 l.con.b.lo, .int .i64 l.con.b.hi, .int .i64 l.con.c.lo, .int .i64 l.con.c.hi, .int .i64 l.cost, .slice pa parents.length pc, .slice ka picks.length kc, .int .i64 number]] w (Ret (.bool true) w) := by
  have hle := hp.le; have hbg := hp.big; have hle' := hk.le; have hbg' := hk.big
  go_enter Try.func10, Try.ntmps10
  go_upto_region 1 with (fail)
  refine wp_at (fun W => Ext w W ∧ w.heap.size + 1 = W.heap.size ∧ W.heap[w.heap.size]? = some (.cells #[.int .u8 kind, .int .i64 l.count, .int .i64 l.mass, .int .i64 l.con.a.lo, .int .i64 l.con.a.hi, .int .i64 l.con.b.lo, .int .i64 l.con.b.hi, .int .i64 l.con.c.lo, .int .i64 l.con.c.hi, .int .i64 l.cost, .slice pa parents.length pc, .slice ka picks.length kc, .int .i64 number] 82 (0, 0))) ⟨by (repeat (with_reducible first | exact Ex.refl _ _ | assumption | exact Ex.mono (by assumption) (by simp; done) | refine Ex.alloc ?_ _ | refine Ex.drew ?_ | refine Ex.drewN ?_ _ | refine Ex.setCell ?_ (by first | (left; simp; done) | (right; simp; done) | (right; simp; omega)) _ | refine Ex.trans ?_ (by assumption))), by simp, blk_new _ _⟩ (fun W hW => ?_)
  obtain ⟨hr0, hsz, hB0⟩ := hW
  have hr : Ex [] W W := Ex.refl _ _
  have f0_0 := cellE (S := []) hB0 (by first | (simp; done) | (simp; omega)) 0 rfl
  have f0_1 := cellE (S := []) hB0 (by first | (simp; done) | (simp; omega)) 1 rfl
  have f0_2 := cellE (S := []) hB0 (by first | (simp; done) | (simp; omega)) 2 rfl
  have f0_3 := cellE (S := []) hB0 (by first | (simp; done) | (simp; omega)) 3 rfl
  have f0_4 := cellE (S := []) hB0 (by first | (simp; done) | (simp; omega)) 4 rfl
  have f0_5 := cellE (S := []) hB0 (by first | (simp; done) | (simp; omega)) 5 rfl
  have f0_6 := cellE (S := []) hB0 (by first | (simp; done) | (simp; omega)) 6 rfl
  have f0_7 := cellE (S := []) hB0 (by first | (simp; done) | (simp; omega)) 7 rfl
  have f0_8 := cellE (S := []) hB0 (by first | (simp; done) | (simp; omega)) 8 rfl
  have f0_9 := cellE (S := []) hB0 (by first | (simp; done) | (simp; omega)) 9 rfl
  have f0_10 := cellE (S := []) hB0 (by first | (simp; done) | (simp; omega)) 10 rfl
  have f0_11 := cellE (S := []) hB0 (by first | (simp; done) | (simp; omega)) 11 rfl
  have f0_12 := cellE (S := []) hB0 (by first | (simp; done) | (simp; omega)) 12 rfl
  clear hB0
  have hsz' := Nat.le_of_eq hsz.symm; have hsz'' := Nat.le_of_eq hsz; clear hsz
  by_cases h15 : (15 : Int) < (parents.length : Int)
  · go_wp2_with (go_at_call 12; refine (known_c _).mono ?_; rintro e wk ⟨rfl, hk1⟩; replace hk1 : Ex [] W wk := Ex.trans (by first | (with_reducible assumption) | (repeat (with_reducible first | exact Ex.refl _ _ | assumption | exact Ex.mono (by assumption) (by simp; done) | refine Ex.alloc ?_ _ | refine Ex.drew ?_ | refine Ex.drewN ?_ _ | refine Ex.setCell ?_ (by first | (left; simp; done) | (right; simp; done) | (right; simp; omega)) _ | refine Ex.trans ?_ (by assumption)))) (hk1.ex _))
    go_returns
    exact ⟨rfl, hr0.trans hk1⟩
  by_cases h16 : (15 : Int) < (picks.length : Int)
  · go_wp2_with (go_at_call 12; refine (known_c _).mono ?_; rintro e wk ⟨rfl, hk1⟩; replace hk1 : Ex [] W wk := Ex.trans (by first | (with_reducible assumption) | (repeat (with_reducible first | exact Ex.refl _ _ | assumption | exact Ex.mono (by assumption) (by simp; done) | refine Ex.alloc ?_ _ | refine Ex.drew ?_ | refine Ex.drewN ?_ _ | refine Ex.setCell ?_ (by first | (left; simp; done) | (right; simp; done) | (right; simp; omega)) _ | refine Ex.trans ?_ (by assumption)))) (hk1.ex _))
    go_returns
    exact ⟨rfl, hr0.trans hk1⟩
  have d15 : decide ((15 : Int) < (parents.length : Int)) = false := decide_eq_false h15
  have d16 : decide ((15 : Int) < (picks.length : Int)) = false := decide_eq_false h16
  go_upto_region 5 with (go_at_call 38; go_loud (refine (nilReceive_c l _).mono ?_); go_loud (rintro e w1 ⟨rfl, h1⟩); go_loud (replace h1 : Ex [] W w1 := Ex.trans (by first | (with_reducible assumption) | (repeat (with_reducible first | exact Ex.refl _ _ | assumption | exact Ex.mono (by assumption) (by simp; done) | refine Ex.alloc ?_ _ | refine Ex.drew ?_ | refine Ex.drewN ?_ _ | refine Ex.setCell ?_ (by first | (left; simp; done) | (right; simp; done) | (right; simp; omega)) _ | refine Ex.trans ?_ (by assumption)))) (h1.ex _)))
  have g0 := fun w' (h : Ex [] w1 w') => f0_0 w' (h1.trans h)
  have g1 := fun w' (h : Ex [] w1 w') => f0_1 w' (h1.trans h)
  have g2 := fun w' (h : Ex [] w1 w') => f0_2 w' (h1.trans h)
  have g3 := fun w' (h : Ex [] w1 w') => f0_3 w' (h1.trans h)
  have g4 := fun w' (h : Ex [] w1 w') => f0_4 w' (h1.trans h)
  have g5 := fun w' (h : Ex [] w1 w') => f0_5 w' (h1.trans h)
  have g6 := fun w' (h : Ex [] w1 w') => f0_6 w' (h1.trans h)
  have g7 := fun w' (h : Ex [] w1 w') => f0_7 w' (h1.trans h)
  have g8 := fun w' (h : Ex [] w1 w') => f0_8 w' (h1.trans h)
  have g9 := fun w' (h : Ex [] w1 w') => f0_9 w' (h1.trans h)
  have g10 := fun w' (h : Ex [] w1 w') => f0_10 w' (h1.trans h)
  have g11 := fun w' (h : Ex [] w1 w') => f0_11 w' (h1.trans h)
  have g12 := fun w' (h : Ex [] w1 w') => f0_12 w' (h1.trans h)
  have hr1 : Ex [] w1 w1 := Ex.refl _ _
  have hw1 : Ex [] w w1 := hr0.trans h1
  refine region_plan (fun w' => Ex [] w1 w') [.pu [0, 1, 3], .st [2, 4], .mv 5, .mv 6, .pu [7, 8, 9, 10, 11]] (by kernel_rfl) (by kernel_rfl) (Ex.drew (by first | (with_reducible assumption) | (repeat (with_reducible first | exact Ex.refl _ _ | assumption | exact Ex.mono (by assumption) (by simp; done) | refine Ex.alloc ?_ _ | refine Ex.drew ?_ | refine Ex.drewN ?_ _ | refine Ex.setCell ?_ (by first | (left; simp; done) | (right; simp; done) | (right; simp; omega)) _ | refine Ex.trans ?_ (by assumption))))) ?_
  refine plan_pu (fun K hK => ?_)
  simp only [pick, List.drop_succ_cons, List.drop_zero, List.take_succ_cons, List.take_zero, List.cons_append, List.nil_append]
  iterate 3 (first | (refine wpYield_want ?_ (by rfl) (fun w' hS' => ?_) ?_; rotate_left; ((try dsimp only at hS'); go_simp; try with_reducible rfl); simp only [Act.put, List.setIfInBounds_toArray, List.set_cons_zero, List.set_cons_succ]) | (refine wpYield_skip (by rfl) ?_; simp only [Act.put, List.setIfInBounds_toArray, List.set_cons_zero, List.set_cons_succ]))
  refine wpYield_nil (hK _ ?_)
  clear hK K
  refine plan_st (fun K hK => ?_)
  simp only [pick, List.drop_succ_cons, List.drop_zero, List.take_succ_cons, List.take_zero, List.cons_append, List.nil_append]
  iterate 2 (first | (refine wpYield_want ?_ (by rfl) (fun w' hS' => ?_) ?_; rotate_left; ((try dsimp only at hS'); go_simp; try with_reducible rfl); simp only [Act.put, List.setIfInBounds_toArray, List.set_cons_zero, List.set_cons_succ]) | (refine wpYield_skip (by rfl) ?_; simp only [Act.put, List.setIfInBounds_toArray, List.set_cons_zero, List.set_cons_succ]))
  refine wpYield_nil (hK _ ?_)
  clear hK K
  refine plan_mv (fun K hK => ?_)
  simp only [pick, List.drop_succ_cons, List.drop_zero, List.take_succ_cons, List.take_zero, List.cons_append, List.nil_append]
  go_wp2_with (first | (go_at_call 14; go_loud (refine (lawInts_c pa pc parents _ (hp.ext (hw1.trans (by first | (with_reducible assumption) | (repeat (with_reducible first | exact Ex.refl _ _ | assumption | exact Ex.mono (by assumption) (by simp; done) | refine Ex.alloc ?_ _ | refine Ex.drew ?_ | refine Ex.drewN ?_ _ | refine Ex.setCell ?_ (by first | (left; simp; done) | (right; simp; done) | (right; simp; omega)) _ | refine Ex.trans ?_ (by assumption)))))) (by omega)).mono ?_); go_loud (rintro e w2 ⟨a2, c2, rfl, hO2, h2⟩); go_loud (replace h2 : Ex [] w1 w2 := Ex.trans (by first | (with_reducible assumption) | (repeat (with_reducible first | exact Ex.refl _ _ | assumption | exact Ex.mono (by assumption) (by simp; done) | refine Ex.alloc ?_ _ | refine Ex.drew ?_ | refine Ex.drewN ?_ _ | refine Ex.setCell ?_ (by first | (left; simp; done) | (right; simp; done) | (right; simp; omega)) _ | refine Ex.trans ?_ (by assumption)))) (h2.ex _))) | (go_at_call 39; go_loud (refine (nilReturn_c l _ _ _ _).mono ?_); go_loud (rintro e w3 ⟨rfl, h3⟩); go_loud (replace h3 : Ex [] w1 w3 := Ex.trans (by first | (with_reducible assumption) | (repeat (with_reducible first | exact Ex.refl _ _ | assumption | exact Ex.mono (by assumption) (by simp; done) | refine Ex.alloc ?_ _ | refine Ex.drew ?_ | refine Ex.drewN ?_ _ | refine Ex.setCell ?_ (by first | (left; simp; done) | (right; simp; done) | (right; simp; omega)) _ | refine Ex.trans ?_ (by assumption)))) (h3.ex _))))
  first | refine hK _ _ (by first | (with_reducible assumption) | (repeat (with_reducible first | exact Ex.refl _ _ | assumption | exact Ex.mono (by assumption) (by simp; done) | refine Ex.alloc ?_ _ | refine Ex.drew ?_ | refine Ex.drewN ?_ _ | refine Ex.setCell ?_ (by first | (left; simp; done) | (right; simp; done) | (right; simp; omega)) _ | refine Ex.trans ?_ (by assumption)))) ?_ | refine ⟨rfl, hK _ _ (by first | (with_reducible assumption) | (repeat (with_reducible first | exact Ex.refl _ _ | assumption | exact Ex.mono (by assumption) (by simp; done) | refine Ex.alloc ?_ _ | refine Ex.drew ?_ | refine Ex.drewN ?_ _ | refine Ex.setCell ?_ (by first | (left; simp; done) | (right; simp; done) | (right; simp; omega)) _ | refine Ex.trans ?_ (by assumption)))) ?_⟩
  clear hK K
  refine plan_mv (fun K hK => ?_)
  simp only [pick, List.drop_succ_cons, List.drop_zero, List.take_succ_cons, List.take_zero, List.cons_append, List.nil_append]
  go_wp2_with (first | (go_at_call 14; go_loud (refine (lawInts_c pa pc parents _ (hp.ext (hw1.trans (by first | (with_reducible assumption) | (repeat (with_reducible first | exact Ex.refl _ _ | assumption | exact Ex.mono (by assumption) (by simp; done) | refine Ex.alloc ?_ _ | refine Ex.drew ?_ | refine Ex.drewN ?_ _ | refine Ex.setCell ?_ (by first | (left; simp; done) | (right; simp; done) | (right; simp; omega)) _ | refine Ex.trans ?_ (by assumption)))))) (by omega)).mono ?_); go_loud (rintro e w2 ⟨a2, c2, rfl, hO2, h2⟩); go_loud (replace h2 : Ex [] w1 w2 := Ex.trans (by first | (with_reducible assumption) | (repeat (with_reducible first | exact Ex.refl _ _ | assumption | exact Ex.mono (by assumption) (by simp; done) | refine Ex.alloc ?_ _ | refine Ex.drew ?_ | refine Ex.drewN ?_ _ | refine Ex.setCell ?_ (by first | (left; simp; done) | (right; simp; done) | (right; simp; omega)) _ | refine Ex.trans ?_ (by assumption)))) (h2.ex _))) | (go_at_call 39; go_loud (refine (nilReturn_c l _ _ _ _).mono ?_); go_loud (rintro e w3 ⟨rfl, h3⟩); go_loud (replace h3 : Ex [] w1 w3 := Ex.trans (by first | (with_reducible assumption) | (repeat (with_reducible first | exact Ex.refl _ _ | assumption | exact Ex.mono (by assumption) (by simp; done) | refine Ex.alloc ?_ _ | refine Ex.drew ?_ | refine Ex.drewN ?_ _ | refine Ex.setCell ?_ (by first | (left; simp; done) | (right; simp; done) | (right; simp; omega)) _ | refine Ex.trans ?_ (by assumption)))) (h3.ex _))))
  first | refine hK _ _ (by first | (with_reducible assumption) | (repeat (with_reducible first | exact Ex.refl _ _ | assumption | exact Ex.mono (by assumption) (by simp; done) | refine Ex.alloc ?_ _ | refine Ex.drew ?_ | refine Ex.drewN ?_ _ | refine Ex.setCell ?_ (by first | (left; simp; done) | (right; simp; done) | (right; simp; omega)) _ | refine Ex.trans ?_ (by assumption)))) ?_ | refine ⟨rfl, hK _ _ (by first | (with_reducible assumption) | (repeat (with_reducible first | exact Ex.refl _ _ | assumption | exact Ex.mono (by assumption) (by simp; done) | refine Ex.alloc ?_ _ | refine Ex.drew ?_ | refine Ex.drewN ?_ _ | refine Ex.setCell ?_ (by first | (left; simp; done) | (right; simp; done) | (right; simp; omega)) _ | refine Ex.trans ?_ (by assumption)))) ?_⟩
  clear hK K
  refine plan_pu (fun K hK => ?_)
  simp only [pick, List.drop_succ_cons, List.drop_zero, List.take_succ_cons, List.take_zero, List.cons_append, List.nil_append]
  iterate 5 (first | (refine wpYield_want ?_ (by rfl) (fun w' hS' => ?_) ?_; rotate_left; ((try dsimp only at hS'); go_simp; try with_reducible rfl); simp only [Act.put, List.setIfInBounds_toArray, List.set_cons_zero, List.set_cons_succ]) | (refine wpYield_skip (by rfl) ?_; simp only [Act.put, List.setIfInBounds_toArray, List.set_cons_zero, List.set_cons_succ]))
  refine wpYield_nil (hK _ ?_)
  clear hK K
  refine plan_nil ?_
  go_upto_region 6 with fail
  have d0 := f0_11 (w3.alloc (.cells #[] 150)) (h1.trans (h3.alloc _))
  have hw3 : Ex [] w w3 := hw1.trans h3
  have hW3 : Ex [] W w3 := h1.trans h3
  go_upto_region 7 with (first | (at_builtin; go_loud (refine wpList_appendAny (base := w3.heap.size) eiPick Pick.len Pick.one rfl _ _ rfl _ [] (by rfl) (Own.empty (Nat.le_refl _)) ka kc picks (by rfl) (hk.ext (hw3.alloc _)) (by simp; omega) (by simp; omega) (by simp) ?_); go_loud (intro v w4 hO hx hg hv); go_loud (obtain ⟨a', c', rfl, hS, hab⟩ := hO.sl Pick.len); go_loud (have hx4 : Ex [] w3 w4 := ((Ex.refl _ _).alloc _).trans_fresh hx (fun x hx => .inr (by simp [Value.ownBlock] at hx; omega))); go_loud (clear hx d0)) | (go_at_call 40; go_loud (refine (nilDraw_c _ _ _ _).mono ?_); go_loud (rintro e w5 ⟨rfl, h5⟩); go_loud (have h5W : Ex [] W w5 := hW3.trans (hx4.trans h5))))
  go_upto_region 8 with (go_at_call 42; go_loud (refine (nilLot_c _ _).mono ?_); go_loud (rintro e w6 ⟨rfl, h6⟩); go_loud (replace h6 : Ex [] W w6 := Ex.trans (by first | (with_reducible assumption) | (repeat (with_reducible first | exact Ex.refl _ _ | assumption | exact Ex.mono (by assumption) (by simp; done) | refine Ex.alloc ?_ _ | refine Ex.drew ?_ | refine Ex.drewN ?_ _ | refine Ex.setCell ?_ (by first | (left; simp; done) | (right; simp; done) | (right; simp; omega)) _ | refine Ex.trans ?_ (by assumption)))) (h6.ex _)))
  refine wp_at (fun X => Ex [] W X ∧ ∃ bx, bx = w6.heap.size ∧ X.heap[bx]? = some (.cells #[.int .i64 0, .int .i64 0, .int .i64 0, .int .i64 0, .int .i64 0, .int .i64 0, .int .i64 0, .int .i64 0, .int .i64 0] 43 (0, 0))) ⟨h6.alloc _, _, rfl, blk_new _ _⟩ (fun X hX => ?_)
  obtain ⟨hWX, bx, hbx, hB⟩ := hX
  rw [← hbx]
  clear hbx h6 h5W hW3 hw3 h3 h1 hw1 hr1 hx4 h5 h2 hr
  have x0 := cellE (S := []) hB (by simp) 0 rfl
  have x1 := cellE (S := []) hB (by simp) 1 rfl
  have x2 := cellE (S := []) hB (by simp) 2 rfl
  have x3 := cellE (S := []) hB (by simp) 3 rfl
  have x4 := cellE (S := []) hB (by simp) 4 rfl
  have x5 := cellE (S := []) hB (by simp) 5 rfl
  have x6 := cellE (S := []) hB (by simp) 6 rfl
  have x7 := cellE (S := []) hB (by simp) 7 rfl
  have x8 := cellE (S := []) hB (by simp) 8 rfl
  replace f0_12 := fun w' (h : Ex [] X w') => f0_12 w' (hWX.trans h)
  have hrX : Ex [] X X := Ex.refl _ _
  have hwX : Ex [] w X := hr0.trans hWX
  clear hB
  go_upto_region 11 with (first | (go_at_call 43; go_loud (refine (nilTrace_c _ _).mono ?_); go_loud (rintro e w1 ⟨rfl, h1⟩); go_loud (replace h1 : Ex [] X w1 := Ex.trans (by first | (with_reducible assumption) | (repeat (with_reducible first | exact Ex.refl _ _ | assumption | exact Ex.mono (by assumption) (by simp; done) | refine Ex.alloc ?_ _ | refine Ex.drew ?_ | refine Ex.drewN ?_ _ | refine Ex.setCell ?_ (by first | (left; simp; done) | (right; simp; done) | (right; simp; omega)) _ | refine Ex.trans ?_ (by assumption)))) (h1.ex _))) | (go_at_call 44; go_loud (refine (nilMade_c _ _).mono ?_); go_loud (rintro e w1 ⟨rfl, h1⟩); go_loud (replace h1 : Ex [] X w1 := Ex.trans (by first | (with_reducible assumption) | (repeat (with_reducible first | exact Ex.refl _ _ | assumption | exact Ex.mono (by assumption) (by simp; done) | refine Ex.alloc ?_ _ | refine Ex.drew ?_ | refine Ex.drewN ?_ _ | refine Ex.setCell ?_ (by first | (left; simp; done) | (right; simp; done) | (right; simp; omega)) _ | refine Ex.trans ?_ (by assumption)))) (h1.ex _))) | (go_at_call 37; go_loud (refine (nilSums_c _).mono ?_); go_loud (rintro e w7 ⟨rfl, h7⟩); go_loud (replace h7 : Ex [] X w7 := Ex.trans (by first | (with_reducible assumption) | (repeat (with_reducible first | exact Ex.refl _ _ | assumption | exact Ex.mono (by assumption) (by simp; done) | refine Ex.alloc ?_ _ | refine Ex.drew ?_ | refine Ex.drewN ?_ _ | refine Ex.setCell ?_ (by first | (left; simp; done) | (right; simp; done) | (right; simp; omega)) _ | refine Ex.trans ?_ (by assumption)))) (h7.ex _))))
  refine wp_at (fun Y => Ex [] X Y ∧ ∃ by0 by1, by0 = w7.heap.size ∧ by1 = w7.heap.size + 1 ∧ Y.heap[by0]? = some (.cells #[.int .i64 0, .int .i64 0, .int .i64 0, .int .i64 0, .int .i64 0, .int .i64 0, .int .i64 0] 36 (0, 0)) ∧ Y.heap[by1]? = some (.cells #[.int .i64 0, .int .i64 0, .int .i64 0, .int .i64 0, .int .i64 0, .int .i64 0, .int .i64 0] 36 (0, 0))) ⟨(h7.alloc _).alloc _, _, _, rfl, rfl, blk_alloc (blk_new _ _), blk_at _ _ (by simp)⟩ (fun Y hY => ?_)
  obtain ⟨hXY, by0, by1, e0, e1, hC0, hC1⟩ := hY
  rw [← e1, ← e0]
  clear e0 e1 h7
  have hrY : Ex [] Y Y := Ex.refl _ _
  have y0 := blk_cell hC0 0 rfl
  have z0 := blk_cell hC1 0 rfl
  have y1 := blk_cell hC0 1 rfl
  have z1 := blk_cell hC1 1 rfl
  have y2 := blk_cell hC0 2 rfl
  have z2 := blk_cell hC1 2 rfl
  have y3 := blk_cell hC0 3 rfl
  have z3 := blk_cell hC1 3 rfl
  have y4 := blk_cell hC0 4 rfl
  have z4 := blk_cell hC1 4 rfl
  have y5 := blk_cell hC0 5 rfl
  have z5 := blk_cell hC1 5 rfl
  have y6 := blk_cell hC0 6 rfl
  have z6 := blk_cell hC1 6 rfl
  replace x0 := x0 Y hXY
  replace x1 := x1 Y hXY
  replace x2 := x2 Y hXY
  replace x3 := x3 Y hXY
  replace x4 := x4 Y hXY
  replace x5 := x5 Y hXY
  replace x6 := x6 Y hXY
  replace x7 := x7 Y hXY
  replace x8 := x8 Y hXY
  clear hC0 hC1
  go_wp2_with (go_at_call 12; refine (known_c _).mono ?_; rintro e wk ⟨rfl, hk1⟩; replace hk1 : Ex [] Y wk := Ex.trans (by first | (with_reducible assumption) | (repeat (with_reducible first | exact Ex.refl _ _ | assumption | exact Ex.mono (by assumption) (by simp; done) | refine Ex.alloc ?_ _ | refine Ex.drew ?_ | refine Ex.drewN ?_ _ | refine Ex.setCell ?_ (by first | (left; simp; done) | (right; simp; done) | (right; simp; omega)) _ | refine Ex.trans ?_ (by assumption)))) (hk1.ex _))
  go_returns
  exact ⟨rfl, hwX.trans (hXY.trans hk1)⟩
end Go.Proofs.Ytojnpaenpaobcaa
