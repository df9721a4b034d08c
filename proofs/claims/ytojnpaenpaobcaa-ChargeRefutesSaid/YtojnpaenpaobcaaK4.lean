/- The examples of the statements hold. No condition. -/
import Derived.Test.YtojnpaenpaobcaaK3
import Derived.Test.YtojnpaenpaobcaaC28
import Derived.Test.YtojnpaenpaobcaaC23
import Derived.Test.YtojnpaenpaobcaaC9
namespace Go.Proofs.Ytojnpaenpaobcaa
open Go.RowKit
attribute [local irreducible] wpYield wpPlan

def heavyP : Recipe := ⟨smallP.lots, ⟨2000, 3000⟩, smallP.target⟩
theorem small_best : bestM smallP = some ([3, 1], 22) := by kernel_rfl
theorem small_bestE : bestE smallP = 0 := by kernel_rfl
theorem small_fits : fitsK smallP [5, 0] = 2 := by kernel_rfl
theorem small_weighE : weighE smallP [5, 0] = 0 := by kernel_rfl
theorem heavy_refute : refuteL heavyP = [⟨-1, 0, 0⟩] := by kernel_rfl
theorem heavy_refuteE : refuteE heavyP = 0 := by kernel_rfl
theorem heavy_refutes : refutesB heavyP [⟨-1, 0, 0⟩] = true := by kernel_rfl
theorem heavy_check : checkE heavyP = 0 := by kernel_rfl
theorem same31 : sameI [3, 1] [3, 1] = true := by decide
theorem pair_sl {w : World} {b : Nat} {x y : Int} {T : TypeId} {z : Nat × Nat} (h : w.heap[b]? = some (.cells #[.int .i64 x, .int .i64 y] T z)) : SlI w (some ⟨b, 0, none⟩) 2 [x, y] := by
  refine Sl.block (xs := [x, y]) h (by simp) (fun i hi j v h => ?_)
  have hj : j < 1 := by have h9 := (List.getElem?_eq_some_iff.1 h).1; rwa [intCells_len] at h9
  have hi' : i = 0 ∨ i = 1 := by have h8 : i < 2 := hi; omega
  obtain rfl : j = 0 := by omega
  rcases hi' with rfl | rfl <;> exact h
theorem split_sl {w : World} {b : Nat} {x y u : Int} {T : TypeId} {z : Nat × Nat} (h : w.heap[b]? = some (.cells #[.int .i64 x, .int .i64 y, .int .i64 u] T z)) : Sl 3 Split.cells w (some ⟨b, 0, none⟩) 1 [⟨x, y, u⟩] := by
  refine Sl.block (xs := ([⟨x, y, u⟩] : List Split)) h (by simp) (fun i hi j v h => ?_)
  have hj : j < 3 := by have h9 := (List.getElem?_eq_some_iff.1 h).1; rwa [Split.len] at h9
  obtain rfl : i = 0 := by have h8 : i < 1 := hi; omega
  have hj' : j = 0 ∨ j = 1 ∨ j = 2 := by omega
  rcases hj' with rfl | rfl | rfl <;> exact h

set_option maxRecDepth 100000 in
set_option maxHeartbeats 8000000 in
theorem known_c (w : World) : Calls Try.prog 12 #[] w (Ret (.bool true) w) := by
  have hr0 : Ex [] w w := Ex.refl _ _
  go_enter Try.func12, Try.ntmps12
  go_upto_region 2 with (first | (go_at_call 50; refine (small_c _).mono ?_; rintro e ws1 ⟨as1, cs1, rfl, hs1, hx1⟩; replace hx1 : Ex [] w ws1 := Ex.trans (by first | (with_reducible assumption) | (repeat (with_reducible first | exact Ex.refl _ _ | assumption | exact Ex.mono (by assumption) (by simp; done) | refine Ex.alloc ?_ _ | refine Ex.drew ?_ | refine Ex.drewN ?_ _ | refine Ex.setCell ?_ (by first | (left; simp; done) | (right; simp; done) | (right; simp; omega)) _ | refine Ex.trans ?_ (by assumption)))) (hx1.ex _)) | (go_at_call 24; refine (best_c smallP _ _ _ hs1).mono ?_; rintro e w1 ⟨a1, c1, he, hS1, h1⟩; rw [small_best, small_bestE] at he; rw [small_best] at hS1; replace hS1 : SlI w1 a1 c1 [3, 1] := hS1; replace he : e = .returned (.tuple #[.slice a1 2 c1, .int .i64 22, .int .i64 0]) := he; subst he; replace h1 : Ex [] w w1 := Ex.trans (by first | (with_reducible assumption) | (repeat (with_reducible first | exact Ex.refl _ _ | assumption | exact Ex.mono (by assumption) (by simp; done) | refine Ex.alloc ?_ _ | refine Ex.drew ?_ | refine Ex.drewN ?_ _ | refine Ex.setCell ?_ (by first | (left; simp; done) | (right; simp; done) | (right; simp; omega)) _ | refine Ex.trans ?_ (by assumption)))) (h1.ex _)))
  go_upto_region 3 with (first | (go_at_call 50; refine (small_c _).mono ?_; rintro e ws2 ⟨as2, cs2, rfl, hs2, hx2⟩; replace hS1 := hS1.ext (Ex.trans (by first | (with_reducible assumption) | (repeat (with_reducible first | exact Ex.refl _ _ | assumption | exact Ex.mono (by assumption) (by simp; done) | refine Ex.alloc ?_ _ | refine Ex.drew ?_ | refine Ex.drewN ?_ _ | refine Ex.setCell ?_ (by first | (left; simp; done) | (right; simp; done) | (right; simp; omega)) _ | refine Ex.trans ?_ (by assumption)))) hx2); replace hx2 : Ex [] w ws2 := Ex.trans (by first | (with_reducible assumption) | (repeat (with_reducible first | exact Ex.refl _ _ | assumption | exact Ex.mono (by assumption) (by simp; done) | refine Ex.alloc ?_ _ | refine Ex.drew ?_ | refine Ex.drewN ?_ _ | refine Ex.setCell ?_ (by first | (left; simp; done) | (right; simp; done) | (right; simp; omega)) _ | refine Ex.trans ?_ (by assumption)))) (hx2.ex _)) | (go_at_call 17; refine (fits_c smallP [5, 0] _ _ _ _ _ (hs2.ext ((Ex.refl _ _).alloc _)) (pair_sl (blk_new _ _))).mono ?_; rintro e w2 ⟨he, h2⟩; rw [small_fits, small_weighE] at he; subst he; replace hS1 := hS1.ext (Ex.trans (by first | (with_reducible assumption) | (repeat (with_reducible first | exact Ex.refl _ _ | assumption | exact Ex.mono (by assumption) (by simp; done) | refine Ex.alloc ?_ _ | refine Ex.drew ?_ | refine Ex.drewN ?_ _ | refine Ex.setCell ?_ (by first | (left; simp; done) | (right; simp; done) | (right; simp; omega)) _ | refine Ex.trans ?_ (by assumption)))) h2); replace h2 : Ex [] w w2 := Ex.trans (by first | (with_reducible assumption) | (repeat (with_reducible first | exact Ex.refl _ _ | assumption | exact Ex.mono (by assumption) (by simp; done) | refine Ex.alloc ?_ _ | refine Ex.drew ?_ | refine Ex.drewN ?_ _ | refine Ex.setCell ?_ (by first | (left; simp; done) | (right; simp; done) | (right; simp; omega)) _ | refine Ex.trans ?_ (by assumption)))) (h2.ex _)))
  go_upto_region 5 with (go_at_call 50; refine (small_c _).mono ?_; rintro e ws3 ⟨as3, cs3, rfl, hs3, hx3⟩; replace hS1 := hS1.ext (Ex.trans (by first | (with_reducible assumption) | (repeat (with_reducible first | exact Ex.refl _ _ | assumption | exact Ex.mono (by assumption) (by simp; done) | refine Ex.alloc ?_ _ | refine Ex.drew ?_ | refine Ex.drewN ?_ _ | refine Ex.setCell ?_ (by first | (left; simp; done) | (right; simp; done) | (right; simp; omega)) _ | refine Ex.trans ?_ (by assumption)))) hx3); replace hx3 : Ex [] w ws3 := Ex.trans (by first | (with_reducible assumption) | (repeat (with_reducible first | exact Ex.refl _ _ | assumption | exact Ex.mono (by assumption) (by simp; done) | refine Ex.alloc ?_ _ | refine Ex.drew ?_ | refine Ex.drewN ?_ _ | refine Ex.setCell ?_ (by first | (left; simp; done) | (right; simp; done) | (right; simp; omega)) _ | refine Ex.trans ?_ (by assumption)))) (hx3.ex _))
  refine wp_at (fun X => Ex [] w X ∧ SlL X as3 cs3 smallP.lots ∧ SlI X a1 c1 [3, 1] ∧ X.heap[ws3.heap.size]? = some (.cells #[.slice as3 2 cs3, .int .i64 2000, .int .i64 3000, .int .i64 10000, .int .i64 20000, .int .i64 0, .int .i64 100000000, .int .i64 0, .int .i64 100000000] 28 (0, 0))) ⟨by (repeat (with_reducible first | exact Ex.refl _ _ | assumption | exact Ex.mono (by assumption) (by simp; done) | refine Ex.alloc ?_ _ | refine Ex.drew ?_ | refine Ex.drewN ?_ _ | refine Ex.setCell ?_ (by first | (left; simp; done) | (right; simp; done) | (right; simp; omega)) _ | refine Ex.trans ?_ (by assumption))), hs3.ext ((Ex.refl _ _).alloc _), hS1.ext ((Ex.refl _ _).alloc _), blk_new _ _⟩ (fun X hX => ?_)
  obtain ⟨hwX, hsX, hSX, hT⟩ := hX
  clear hs1 hs2 hs3 hS1 hx1 hx2 hx3 h1 h2 hr0
  have hrX : Ex [] X X := Ex.refl _ _
  have t0 := cellE (S := []) hT (by simp) 0 rfl
  have t1 := cellE (S := []) hT (by simp) 1 rfl
  have t2 := cellE (S := []) hT (by simp) 2 rfl
  have t3 := cellE (S := []) hT (by simp) 3 rfl
  have t4 := cellE (S := []) hT (by simp) 4 rfl
  have t5 := cellE (S := []) hT (by simp) 5 rfl
  have t6 := cellE (S := []) hT (by simp) 6 rfl
  have t7 := cellE (S := []) hT (by simp) 7 rfl
  have t8 := cellE (S := []) hT (by simp) 8 rfl
  clear hT
  go_upto_region 6 with (go_at_call 27; refine (refute_c heavyP as3 cs3 _ (hsX.ext (by first | (with_reducible assumption) | (repeat (with_reducible first | exact Ex.refl _ _ | assumption | exact Ex.mono (by assumption) (by simp; done) | refine Ex.alloc ?_ _ | refine Ex.drew ?_ | refine Ex.drewN ?_ _ | refine Ex.setCell ?_ (by first | (left; simp; done) | (right; simp; done) | (right; simp; omega)) _ | refine Ex.trans ?_ (by assumption)))))).mono ?_; rintro e w3 ⟨a3, c3, he, hS3, h3⟩; rw [heavy_refute, heavy_refuteE] at he; rw [heavy_refute] at hS3; replace he : e = .returned (.tuple #[.slice a3 1 c3, .int .i64 0]) := he; subst he; replace h3 : Ex [] X w3 := Ex.trans (by first | (with_reducible assumption) | (repeat (with_reducible first | exact Ex.refl _ _ | assumption | exact Ex.mono (by assumption) (by simp; done) | refine Ex.alloc ?_ _ | refine Ex.drew ?_ | refine Ex.drewN ?_ _ | refine Ex.setCell ?_ (by first | (left; simp; done) | (right; simp; done) | (right; simp; omega)) _ | refine Ex.trans ?_ (by assumption)))) (h3.ex _); obtain ⟨b3, off3, rfl, hb3, hc3⟩ := hS3.cells (by simp); have p0 := fun w' (h : Ex [] w3 w') => h.cell (by simp) (hc3 0 (by simp) 0 _ rfl); have p1 := fun w' (h : Ex [] w3 w') => h.cell (by simp) (hc3 0 (by simp) 1 _ rfl); have p2 := fun w' (h : Ex [] w3 w') => h.cell (by simp) (hc3 0 (by simp) 2 _ rfl); clear hc3 hS3; simp only [Nat.zero_mul, Nat.add_zero] at p0 p1 p2)
  have hr3 : Ex [] w3 w3 := Ex.refl _ _
  go_upto_region 7 with (go_at_call 28; refine (refutes_c heavyP as3 cs3 [⟨-1, 0, 0⟩] _ _ _ (hsX.ext (by first | (with_reducible assumption) | (repeat (with_reducible first | exact Ex.refl _ _ | assumption | exact Ex.mono (by assumption) (by simp; done) | refine Ex.alloc ?_ _ | refine Ex.drew ?_ | refine Ex.drewN ?_ _ | refine Ex.setCell ?_ (by first | (left; simp; done) | (right; simp; done) | (right; simp; omega)) _ | refine Ex.trans ?_ (by assumption))))) (split_sl (blk_new _ _))).mono ?_; rintro e w4 ⟨he, h4⟩; rw [heavy_refutes, heavy_check] at he; subst he; have h4w : Ex [] w3 w4 := Ex.trans (by first | (with_reducible assumption) | (repeat (with_reducible first | exact Ex.refl _ _ | assumption | exact Ex.mono (by assumption) (by simp; done) | refine Ex.alloc ?_ _ | refine Ex.drew ?_ | refine Ex.drewN ?_ _ | refine Ex.setCell ?_ (by first | (left; simp; done) | (right; simp; done) | (right; simp; omega)) _ | refine Ex.trans ?_ (by assumption)))) h4; replace h4 : Ex [] X w4 := h3.trans h4w)
  go_wp2_with (go_at_call 19; refine (sameInts_c [3, 1] [3, 1] _ _ _ _ _ (hSX.ext (h4.alloc _)) (pair_sl (blk_new _ _))).mono ?_; rintro e w5 ⟨he, h5⟩; rw [same31] at he; subst he; have h5w : Ex [] w3 w5 := Ex.trans (h4w.alloc _) h5)
  go_returns
  exact ⟨rfl, hwX.trans (h3.trans h5w)⟩
end Go.Proofs.Ytojnpaenpaobcaa
