/- The example of the statements. No condition. -/
import Derived.Test.YtojnpaenpaobcaaK2
import Derived.Test.YtojnpaenpaobcaaB5
namespace Go.Proofs.Ytojnpaenpaobcaa
open Go.RowKit
attribute [local irreducible] wpYield wpPlan

def smallP : Recipe := ⟨[⟨5, 100, ⟨⟨2, 3⟩, ⟨0, 0⟩, ⟨0, 0⟩⟩, 4⟩, ⟨5, 200, ⟨⟨0, 0⟩, ⟨0, 0⟩, ⟨0, 0⟩⟩, 10⟩], ⟨500, 700⟩, ⟨⟨10000, 20000⟩, ⟨0, 100000000⟩, ⟨0, 100000000⟩⟩⟩
set_option maxRecDepth 100000 in
set_option maxHeartbeats 4000000 in
theorem small_c (w : World) :
    Calls Try.prog 50 #[] w (fun e w' => ∃ a c, e = .returned (.agg #[.slice a 2 c, .int .i64 500, .int .i64 700, .int .i64 10000, .int .i64 20000, .int .i64 0, .int .i64 100000000, .int .i64 0, .int .i64 100000000]) ∧ SlL w' a c smallP.lots ∧ Ext w w') := by
  go_enter Try.func50, Try.ntmps50
  go_wp2_with fail
  (try simp only [Exit.inBlock, Exit.then])
  refine ret_at (fun X => Ext w X ∧ X.heap[w.heap.size]? = some (.cells #[.slice (some ⟨w.heap.size + 1 + 1, 0, none⟩) 2 2, .int .i64 500, .int .i64 700, .int .i64 10000, .int .i64 20000, .int .i64 0, .int .i64 100000000, .int .i64 0, .int .i64 100000000] 28 (0, 0)) ∧ X.heap[w.heap.size + 1 + 1]? = some (.cells #[.int .i64 5, .int .i64 100, .int .i64 2, .int .i64 3, .int .i64 0, .int .i64 0, .int .i64 0, .int .i64 0, .int .i64 4, .int .i64 5, .int .i64 200, .int .i64 0, .int .i64 0, .int .i64 0, .int .i64 0, .int .i64 0, .int .i64 0, .int .i64 10] 43 (0, 0))) ⟨by (repeat (with_reducible first | exact Ex.refl _ _ | assumption | exact Ex.mono (by assumption) (by simp; done) | refine Ex.alloc ?_ _ | refine Ex.drew ?_ | refine Ex.drewN ?_ _ | refine Ex.setCell ?_ (by first | (left; simp; done) | (right; simp; done) | (right; simp; omega)) _ | refine Ex.trans ?_ (by assumption))), blk_alloc (blk_alloc (blk_new _ _)), blk_at _ _ (by simp)⟩ (fun X hX => ?_)
  obtain ⟨hX1, hX2, hX3⟩ := hX
  have x0 := blk_cell (v := .slice (some ⟨w.heap.size + 1 + 1, 0, none⟩) 2 2) hX2 0 rfl
  have x1 := blk_cell (v := .int .i64 500) hX2 1 rfl
  have x2 := blk_cell (v := .int .i64 700) hX2 2 rfl
  have x3 := blk_cell (v := .int .i64 10000) hX2 3 rfl
  have x4 := blk_cell (v := .int .i64 20000) hX2 4 rfl
  have x5 := blk_cell (v := .int .i64 0) hX2 5 rfl
  have x6 := blk_cell (v := .int .i64 100000000) hX2 6 rfl
  have x7 := blk_cell (v := .int .i64 0) hX2 7 rfl
  have x8 := blk_cell (v := .int .i64 100000000) hX2 8 rfl
  refine bodyPost_ret (v := .agg #[.slice (some ⟨w.heap.size + 1 + 1, 0, none⟩) 2 2, .int .i64 500, .int .i64 700, .int .i64 10000, .int .i64 20000, .int .i64 0, .int .i64 100000000, .int .i64 0, .int .i64 100000000]) (by simp [results, Try.results50, go_sem, x0, x1, x2, x3, x4, x5, x6, x7, x8]) rfl ⟨_, _, rfl, Sl.block (xs := smallP.lots) hX3 (by decide) ?_, hX1⟩
  intro i hi j v h
  have hj : j < 9 := by have h9 := (List.getElem?_eq_some_iff.1 h).1; rwa [Lot.len] at h9
  have hi' : i = 0 ∨ i = 1 := by have h8 : i < 2 := hi; omega
  have hj' : j = 0 ∨ j = 1 ∨ j = 2 ∨ j = 3 ∨ j = 4 ∨ j = 5 ∨ j = 6 ∨ j = 7 ∨ j = 8 := by omega
  rcases hi' with rfl | rfl <;> rcases hj' with rfl | rfl | rfl | rfl | rfl | rfl | rfl | rfl | rfl <;> exact h
end Go.Proofs.Ytojnpaenpaobcaa
