/- A nil store refuses. No condition. -/
import Derived.Test.YtojnpaenpaobcaaC8
import Derived.Test.YtojnpaenpaobcaaR3
import Derived.Test.YtojnpaenpaobcaaB3
namespace Go.Proofs.Ytojnpaenpaobcaa
open Go.RowKit
attribute [local irreducible] wpYield wpPlan

set_option maxRecDepth 100000 in
set_option maxHeartbeats 2000000 in
theorem nilReceive_c (l : Lot) (w : World) : Calls Try.prog 38 #[.pointer none, .agg #[.int .i64 l.count, .int .i64 l.mass, .int .i64 l.con.a.lo, .int .i64 l.con.a.hi, .int .i64 l.con.b.lo, .int .i64 l.con.b.hi, .int .i64 l.con.c.lo, .int .i64 l.con.c.hi, .int .i64 l.cost]] w (Ret (.tuple #[.int .i64 0, .int .i64 1]) w) := by
  go_enter Try.func38, Try.ntmps38
  go_wp2_with fail
  go_returns
  exact ⟨rfl, (Ex.refl _ _).alloc _⟩

set_option maxRecDepth 100000 in
set_option maxHeartbeats 2000000 in
theorem nilReturn_c (l : Lot) (a : Option Addr) (n cap : Nat) (w : World) : Calls Try.prog 39 #[.pointer none, .agg #[.int .i64 l.count, .int .i64 l.mass, .int .i64 l.con.a.lo, .int .i64 l.con.a.hi, .int .i64 l.con.b.lo, .int .i64 l.con.b.hi, .int .i64 l.con.c.lo, .int .i64 l.con.c.hi, .int .i64 l.cost], .slice a n cap] w (Ret (.tuple #[.int .i64 0, .int .i64 1]) w) := by
  go_enter Try.func39, Try.ntmps39
  go_wp2_with fail
  go_returns
  exact ⟨rfl, (Ex.refl _ _).alloc _⟩

set_option maxRecDepth 100000 in
set_option maxHeartbeats 2000000 in
theorem nilDraw_c (a : Option Addr) (n cap : Nat) (w : World) : Calls Try.prog 40 #[.pointer none, .slice a n cap] w (Ret (.int .i64 1) w) := by
  go_enter Try.func40, Try.ntmps40
  go_wp2_with fail
  go_returns
  exact ⟨rfl, (Ex.refl _ _)⟩

set_option maxRecDepth 100000 in
set_option maxHeartbeats 2000000 in
theorem nilFind_c (n : Int) (w : World) : Calls Try.prog 83 #[.pointer none, .int .i64 n] w (Ret (.tuple #[.pointer none, .int .i64 1]) w) := by
  go_enter Try.func83, Try.ntmps83
  go_wp2_with fail
  go_returns
  exact ⟨rfl, (Ex.refl _ _)⟩

set_option maxRecDepth 100000 in
set_option maxHeartbeats 2000000 in
theorem nilTrace_c (n : Int) (w : World) : Calls Try.prog 43 #[.pointer none, .int .i64 n] w (Ret (.tuple #[.slice none 0 0, .int .i64 1]) w) := by
  go_enter Try.func43, Try.ntmps43
  go_wp2_with (go_at_call 83; go_loud (refine (nilFind_c _ _).mono ?_); go_loud (rintro e w1 ⟨rfl, h1⟩))
  go_returns
  exact ⟨rfl, h1⟩

set_option maxRecDepth 100000 in
set_option maxHeartbeats 2000000 in
theorem nilMade_c (n : Int) (w : World) : Calls Try.prog 44 #[.pointer none, .int .i64 n] w (Ret (.tuple #[.slice none 0 0, .int .i64 1]) w) := by
  go_enter Try.func44, Try.ntmps44
  go_wp2_with (go_at_call 83; go_loud (refine (nilFind_c _ _).mono ?_); go_loud (rintro e w1 ⟨rfl, h1⟩))
  go_returns
  exact ⟨rfl, h1⟩

set_option maxRecDepth 100000 in
set_option maxHeartbeats 2000000 in
theorem nilLot_c (n : Int) (w : World) : Calls Try.prog 42 #[.pointer none, .int .i64 n] w (Ret (.tuple #[.agg #[.int .i64 0, .int .i64 0, .int .i64 0, .int .i64 0, .int .i64 0, .int .i64 0, .int .i64 0, .int .i64 0, .int .i64 0], .int .i64 1]) w) := by
  go_enter Try.func42, Try.ntmps42
  go_upto_region 1 with (fail)
  refine wp_at (fun W => Ext w W ∧ w.heap.size + 1 = W.heap.size ∧ W.heap[w.heap.size]? = some (.cells #[.int .i64 0, .int .i64 0, .int .i64 0, .int .i64 0, .int .i64 0, .int .i64 0, .int .i64 0, .int .i64 0, .int .i64 0] 43 (0, 0))) ⟨by (repeat (with_reducible first | exact Ex.refl _ _ | assumption | exact Ex.mono (by assumption) (by simp; done) | refine Ex.alloc ?_ _ | refine Ex.drew ?_ | refine Ex.drewN ?_ _ | refine Ex.setCell ?_ (by first | (left; simp; done) | (right; simp; done) | (right; simp; omega)) _ | refine Ex.trans ?_ (by assumption))), by simp, blk_new _ _⟩ (fun W hW => ?_)
  obtain ⟨hr0, hsz, hB0⟩ := hW
  have hr : Ex [] W W := Ex.refl _ _
  have f0_0 := cellE (S := []) hB0 (by first | (simp; done) | (simp; omega)) 0 rfl
  have f0_1 := cellE (S := []) hB0 (by first | (simp; done) | (simp; omega)) 1 rfl
  have f0_2 := cellE (S := []) hB0 (by first | (simp; done) | (simp; omega)) 2 rfl
  have f0_3 := cellE (S := []) hB0 (by first | (simp; done) | (simp; omega)) 3 rfl
  have f0_4 := cellE (S := []) hB0 (by first | (simp; done) | (simp; omega)) 4 rfl
  have f0_5 := cellE (S := []) hB0 (by first | (simp; done) | (simp; omega)) 5 rfl
  have f0_6 := cellE (S := []) hB0 (by first | (simp; done) | (simp; omega)) 6 rfl
  have f0_7 := cellE (S := []) hB0 (by first | (simp; done) | (simp; omega)) 7 rfl
  have f0_8 := cellE (S := []) hB0 (by first | (simp; done) | (simp; omega)) 8 rfl
  have z0_0 := freeE (S := []) hB0 (by first | (simp; done) | (simp; omega)) 0
  have z0_1 := freeE (S := []) hB0 (by first | (simp; done) | (simp; omega)) 1
  have z0_2 := freeE (S := []) hB0 (by first | (simp; done) | (simp; omega)) 2
  have z0_3 := freeE (S := []) hB0 (by first | (simp; done) | (simp; omega)) 3
  have z0_4 := freeE (S := []) hB0 (by first | (simp; done) | (simp; omega)) 4
  have z0_5 := freeE (S := []) hB0 (by first | (simp; done) | (simp; omega)) 5
  have z0_6 := freeE (S := []) hB0 (by first | (simp; done) | (simp; omega)) 6
  have z0_7 := freeE (S := []) hB0 (by first | (simp; done) | (simp; omega)) 7
  have z0_8 := freeE (S := []) hB0 (by first | (simp; done) | (simp; omega)) 8
  have hsz' := Nat.le_of_eq hsz.symm; have hsz'' := Nat.le_of_eq hsz; clear hsz
  have hB0' := Lib.hid hB0; clear hB0
  go_wp2_with (go_at_call 83; go_loud (refine (nilFind_c _ _).mono ?_); go_loud (rintro e w1 ⟨rfl, h1⟩))
  (try simp only [Exit.inBlock, Exit.then])
  refine ret_at (fun X => Ex [w.heap.size] w1 X ∧ X.heap[w.heap.size]? = some (.cells #[.int .i64 0, .int .i64 0, .int .i64 0, .int .i64 0, .int .i64 0, .int .i64 0, .int .i64 0, .int .i64 0, .int .i64 0] 43 (0, 0))) ⟨((((((((((Ex.refl _ _).setCell (.inl (by simp)) _).setCell (.inl (by simp)) _).setCell (.inl (by simp)) _).setCell (.inl (by simp)) _).setCell (.inl (by simp)) _).setCell (.inl (by simp)) _).setCell (.inl (by simp)) _).setCell (.inl (by simp)) _).setCell (.inl (by simp)) _), ?_⟩ (fun X hX => ?_)
  · refine blk_to (blk_set (blk_set (blk_set (blk_set (blk_set (blk_set (blk_set (blk_set (blk_set (h1.heap (by simp) hB0'.out) 0 _) 1 _) 2 _) 3 _) 4 _) 5 _) 6 _) 7 _) 8 _) ?_
    kernel_rfl
  obtain ⟨hX1, hX2⟩ := hX
  have x0 := blk_cell (v := .int .i64 0) hX2 0 rfl
  have x1 := blk_cell (v := .int .i64 0) hX2 1 rfl
  have x2 := blk_cell (v := .int .i64 0) hX2 2 rfl
  have x3 := blk_cell (v := .int .i64 0) hX2 3 rfl
  have x4 := blk_cell (v := .int .i64 0) hX2 4 rfl
  have x5 := blk_cell (v := .int .i64 0) hX2 5 rfl
  have x6 := blk_cell (v := .int .i64 0) hX2 6 rfl
  have x7 := blk_cell (v := .int .i64 0) hX2 7 rfl
  have x8 := blk_cell (v := .int .i64 0) hX2 8 rfl
  exact bodyPost_ret (v := .tuple #[.agg #[.int .i64 0, .int .i64 0, .int .i64 0, .int .i64 0, .int .i64 0, .int .i64 0, .int .i64 0, .int .i64 0, .int .i64 0], .int .i64 1]) (by simp [results, Try.results42, go_sem, x0, x1, x2, x3, x4, x5, x6, x7, x8]) rfl ⟨rfl, (hr0.trans h1).trans_fresh hX1 (by simp)⟩

set_option maxRecDepth 100000 in
set_option maxHeartbeats 2000000 in
theorem nilSums_c (w : World) : Calls Try.prog 37 #[.pointer none] w (Ret (.tuple #[.agg #[.int .i64 0, .int .i64 0, .int .i64 0, .int .i64 0, .int .i64 0, .int .i64 0, .int .i64 0], .agg #[.int .i64 0, .int .i64 0, .int .i64 0, .int .i64 0, .int .i64 0, .int .i64 0, .int .i64 0]]) w) := by
  go_enter Try.func37, Try.ntmps37
  go_upto_region 1 with (fail)
  refine wp_at (fun W => Ext w W ∧ w.heap.size + 2 = W.heap.size ∧ W.heap[w.heap.size]? = some (.cells #[.int .i64 0, .int .i64 0, .int .i64 0, .int .i64 0, .int .i64 0, .int .i64 0, .int .i64 0] 36 (0, 0)) ∧ W.heap[w.heap.size + 1]? = some (.cells #[.int .i64 0, .int .i64 0, .int .i64 0, .int .i64 0, .int .i64 0, .int .i64 0, .int .i64 0] 36 (0, 0))) ⟨by (repeat (with_reducible first | exact Ex.refl _ _ | assumption | exact Ex.mono (by assumption) (by simp; done) | refine Ex.alloc ?_ _ | refine Ex.drew ?_ | refine Ex.drewN ?_ _ | refine Ex.setCell ?_ (by first | (left; simp; done) | (right; simp; done) | (right; simp; omega)) _ | refine Ex.trans ?_ (by assumption))), by simp, blk_alloc (blk_new _ _), by have h := blk_new ((w).alloc (.cells #[.int .i64 0, .int .i64 0, .int .i64 0, .int .i64 0, .int .i64 0, .int .i64 0, .int .i64 0] 36 (0, 0))) (.cells #[.int .i64 0, .int .i64 0, .int .i64 0, .int .i64 0, .int .i64 0, .int .i64 0, .int .i64 0] 36 (0, 0)); simpa using h⟩ (fun W hW => ?_)
  obtain ⟨hr0, hsz, hB0, hB1⟩ := hW
  have hr : Ex [] W W := Ex.refl _ _
  have f0_0 := cellE (S := []) hB0 (by first | (simp; done) | (simp; omega)) 0 rfl
  have f0_1 := cellE (S := []) hB0 (by first | (simp; done) | (simp; omega)) 1 rfl
  have f0_2 := cellE (S := []) hB0 (by first | (simp; done) | (simp; omega)) 2 rfl
  have f0_3 := cellE (S := []) hB0 (by first | (simp; done) | (simp; omega)) 3 rfl
  have f0_4 := cellE (S := []) hB0 (by first | (simp; done) | (simp; omega)) 4 rfl
  have f0_5 := cellE (S := []) hB0 (by first | (simp; done) | (simp; omega)) 5 rfl
  have f0_6 := cellE (S := []) hB0 (by first | (simp; done) | (simp; omega)) 6 rfl
  have f1_0 := cellE (S := []) hB1 (by first | (simp; done) | (simp; omega)) 0 rfl
  have f1_1 := cellE (S := []) hB1 (by first | (simp; done) | (simp; omega)) 1 rfl
  have f1_2 := cellE (S := []) hB1 (by first | (simp; done) | (simp; omega)) 2 rfl
  have f1_3 := cellE (S := []) hB1 (by first | (simp; done) | (simp; omega)) 3 rfl
  have f1_4 := cellE (S := []) hB1 (by first | (simp; done) | (simp; omega)) 4 rfl
  have f1_5 := cellE (S := []) hB1 (by first | (simp; done) | (simp; omega)) 5 rfl
  have f1_6 := cellE (S := []) hB1 (by first | (simp; done) | (simp; omega)) 6 rfl
  have z0_0 := freeE (S := []) hB0 (by first | (simp; done) | (simp; omega)) 0
  have z0_1 := freeE (S := []) hB0 (by first | (simp; done) | (simp; omega)) 1
  have z0_2 := freeE (S := []) hB0 (by first | (simp; done) | (simp; omega)) 2
  have z0_3 := freeE (S := []) hB0 (by first | (simp; done) | (simp; omega)) 3
  have z0_4 := freeE (S := []) hB0 (by first | (simp; done) | (simp; omega)) 4
  have z0_5 := freeE (S := []) hB0 (by first | (simp; done) | (simp; omega)) 5
  have z0_6 := freeE (S := []) hB0 (by first | (simp; done) | (simp; omega)) 6
  have z1_0 := freeE (S := []) hB1 (by first | (simp; done) | (simp; omega)) 0
  have z1_1 := freeE (S := []) hB1 (by first | (simp; done) | (simp; omega)) 1
  have z1_2 := freeE (S := []) hB1 (by first | (simp; done) | (simp; omega)) 2
  have z1_3 := freeE (S := []) hB1 (by first | (simp; done) | (simp; omega)) 3
  have z1_4 := freeE (S := []) hB1 (by first | (simp; done) | (simp; omega)) 4
  have z1_5 := freeE (S := []) hB1 (by first | (simp; done) | (simp; omega)) 5
  have z1_6 := freeE (S := []) hB1 (by first | (simp; done) | (simp; omega)) 6
  have hsz' := Nat.le_of_eq hsz.symm; have hsz'' := Nat.le_of_eq hsz; clear hsz
  go_upto_region 2 with fail
  have p0 := fun w' (h : Ex [w.heap.size, w.heap.size + 1] W w' ∧ w'.heap[w.heap.size]? = some (.cells #[.int .i64 0, .int .i64 0, .int .i64 0, .int .i64 0, .int .i64 0, .int .i64 0, .int .i64 0] 36 (0, 0)) ∧ w'.heap[w.heap.size + 1]? = some (.cells #[.int .i64 0, .int .i64 0, .int .i64 0, .int .i64 0, .int .i64 0, .int .i64 0, .int .i64 0] 36 (0, 0))) => blk_cell h.2.1 0 rfl
  have q0 := fun w' (h : Ex [w.heap.size, w.heap.size + 1] W w' ∧ w'.heap[w.heap.size]? = some (.cells #[.int .i64 0, .int .i64 0, .int .i64 0, .int .i64 0, .int .i64 0, .int .i64 0, .int .i64 0] 36 (0, 0)) ∧ w'.heap[w.heap.size + 1]? = some (.cells #[.int .i64 0, .int .i64 0, .int .i64 0, .int .i64 0, .int .i64 0, .int .i64 0, .int .i64 0] 36 (0, 0))) => blk_cell h.2.2 0 rfl
  have r0 := fun w' (h : Ex [w.heap.size, w.heap.size + 1] W w' ∧ w'.heap[w.heap.size]? = some (.cells #[.int .i64 0, .int .i64 0, .int .i64 0, .int .i64 0, .int .i64 0, .int .i64 0, .int .i64 0] 36 (0, 0)) ∧ w'.heap[w.heap.size + 1]? = some (.cells #[.int .i64 0, .int .i64 0, .int .i64 0, .int .i64 0, .int .i64 0, .int .i64 0, .int .i64 0] 36 (0, 0))) => blk_free h.2.1 0
  have s0 := fun w' (h : Ex [w.heap.size, w.heap.size + 1] W w' ∧ w'.heap[w.heap.size]? = some (.cells #[.int .i64 0, .int .i64 0, .int .i64 0, .int .i64 0, .int .i64 0, .int .i64 0, .int .i64 0] 36 (0, 0)) ∧ w'.heap[w.heap.size + 1]? = some (.cells #[.int .i64 0, .int .i64 0, .int .i64 0, .int .i64 0, .int .i64 0, .int .i64 0, .int .i64 0] 36 (0, 0))) => blk_free h.2.2 0
  have p1 := fun w' (h : Ex [w.heap.size, w.heap.size + 1] W w' ∧ w'.heap[w.heap.size]? = some (.cells #[.int .i64 0, .int .i64 0, .int .i64 0, .int .i64 0, .int .i64 0, .int .i64 0, .int .i64 0] 36 (0, 0)) ∧ w'.heap[w.heap.size + 1]? = some (.cells #[.int .i64 0, .int .i64 0, .int .i64 0, .int .i64 0, .int .i64 0, .int .i64 0, .int .i64 0] 36 (0, 0))) => blk_cell h.2.1 1 rfl
  have q1 := fun w' (h : Ex [w.heap.size, w.heap.size + 1] W w' ∧ w'.heap[w.heap.size]? = some (.cells #[.int .i64 0, .int .i64 0, .int .i64 0, .int .i64 0, .int .i64 0, .int .i64 0, .int .i64 0] 36 (0, 0)) ∧ w'.heap[w.heap.size + 1]? = some (.cells #[.int .i64 0, .int .i64 0, .int .i64 0, .int .i64 0, .int .i64 0, .int .i64 0, .int .i64 0] 36 (0, 0))) => blk_cell h.2.2 1 rfl
  have r1 := fun w' (h : Ex [w.heap.size, w.heap.size + 1] W w' ∧ w'.heap[w.heap.size]? = some (.cells #[.int .i64 0, .int .i64 0, .int .i64 0, .int .i64 0, .int .i64 0, .int .i64 0, .int .i64 0] 36 (0, 0)) ∧ w'.heap[w.heap.size + 1]? = some (.cells #[.int .i64 0, .int .i64 0, .int .i64 0, .int .i64 0, .int .i64 0, .int .i64 0, .int .i64 0] 36 (0, 0))) => blk_free h.2.1 1
  have s1 := fun w' (h : Ex [w.heap.size, w.heap.size + 1] W w' ∧ w'.heap[w.heap.size]? = some (.cells #[.int .i64 0, .int .i64 0, .int .i64 0, .int .i64 0, .int .i64 0, .int .i64 0, .int .i64 0] 36 (0, 0)) ∧ w'.heap[w.heap.size + 1]? = some (.cells #[.int .i64 0, .int .i64 0, .int .i64 0, .int .i64 0, .int .i64 0, .int .i64 0, .int .i64 0] 36 (0, 0))) => blk_free h.2.2 1
  have p2 := fun w' (h : Ex [w.heap.size, w.heap.size + 1] W w' ∧ w'.heap[w.heap.size]? = some (.cells #[.int .i64 0, .int .i64 0, .int .i64 0, .int .i64 0, .int .i64 0, .int .i64 0, .int .i64 0] 36 (0, 0)) ∧ w'.heap[w.heap.size + 1]? = some (.cells #[.int .i64 0, .int .i64 0, .int .i64 0, .int .i64 0, .int .i64 0, .int .i64 0, .int .i64 0] 36 (0, 0))) => blk_cell h.2.1 2 rfl
  have q2 := fun w' (h : Ex [w.heap.size, w.heap.size + 1] W w' ∧ w'.heap[w.heap.size]? = some (.cells #[.int .i64 0, .int .i64 0, .int .i64 0, .int .i64 0, .int .i64 0, .int .i64 0, .int .i64 0] 36 (0, 0)) ∧ w'.heap[w.heap.size + 1]? = some (.cells #[.int .i64 0, .int .i64 0, .int .i64 0, .int .i64 0, .int .i64 0, .int .i64 0, .int .i64 0] 36 (0, 0))) => blk_cell h.2.2 2 rfl
  have r2 := fun w' (h : Ex [w.heap.size, w.heap.size + 1] W w' ∧ w'.heap[w.heap.size]? = some (.cells #[.int .i64 0, .int .i64 0, .int .i64 0, .int .i64 0, .int .i64 0, .int .i64 0, .int .i64 0] 36 (0, 0)) ∧ w'.heap[w.heap.size + 1]? = some (.cells #[.int .i64 0, .int .i64 0, .int .i64 0, .int .i64 0, .int .i64 0, .int .i64 0, .int .i64 0] 36 (0, 0))) => blk_free h.2.1 2
  have s2 := fun w' (h : Ex [w.heap.size, w.heap.size + 1] W w' ∧ w'.heap[w.heap.size]? = some (.cells #[.int .i64 0, .int .i64 0, .int .i64 0, .int .i64 0, .int .i64 0, .int .i64 0, .int .i64 0] 36 (0, 0)) ∧ w'.heap[w.heap.size + 1]? = some (.cells #[.int .i64 0, .int .i64 0, .int .i64 0, .int .i64 0, .int .i64 0, .int .i64 0, .int .i64 0] 36 (0, 0))) => blk_free h.2.2 2
  have p3 := fun w' (h : Ex [w.heap.size, w.heap.size + 1] W w' ∧ w'.heap[w.heap.size]? = some (.cells #[.int .i64 0, .int .i64 0, .int .i64 0, .int .i64 0, .int .i64 0, .int .i64 0, .int .i64 0] 36 (0, 0)) ∧ w'.heap[w.heap.size + 1]? = some (.cells #[.int .i64 0, .int .i64 0, .int .i64 0, .int .i64 0, .int .i64 0, .int .i64 0, .int .i64 0] 36 (0, 0))) => blk_cell h.2.1 3 rfl
  have q3 := fun w' (h : Ex [w.heap.size, w.heap.size + 1] W w' ∧ w'.heap[w.heap.size]? = some (.cells #[.int .i64 0, .int .i64 0, .int .i64 0, .int .i64 0, .int .i64 0, .int .i64 0, .int .i64 0] 36 (0, 0)) ∧ w'.heap[w.heap.size + 1]? = some (.cells #[.int .i64 0, .int .i64 0, .int .i64 0, .int .i64 0, .int .i64 0, .int .i64 0, .int .i64 0] 36 (0, 0))) => blk_cell h.2.2 3 rfl
  have r3 := fun w' (h : Ex [w.heap.size, w.heap.size + 1] W w' ∧ w'.heap[w.heap.size]? = some (.cells #[.int .i64 0, .int .i64 0, .int .i64 0, .int .i64 0, .int .i64 0, .int .i64 0, .int .i64 0] 36 (0, 0)) ∧ w'.heap[w.heap.size + 1]? = some (.cells #[.int .i64 0, .int .i64 0, .int .i64 0, .int .i64 0, .int .i64 0, .int .i64 0, .int .i64 0] 36 (0, 0))) => blk_free h.2.1 3
  have s3 := fun w' (h : Ex [w.heap.size, w.heap.size + 1] W w' ∧ w'.heap[w.heap.size]? = some (.cells #[.int .i64 0, .int .i64 0, .int .i64 0, .int .i64 0, .int .i64 0, .int .i64 0, .int .i64 0] 36 (0, 0)) ∧ w'.heap[w.heap.size + 1]? = some (.cells #[.int .i64 0, .int .i64 0, .int .i64 0, .int .i64 0, .int .i64 0, .int .i64 0, .int .i64 0] 36 (0, 0))) => blk_free h.2.2 3
  have p4 := fun w' (h : Ex [w.heap.size, w.heap.size + 1] W w' ∧ w'.heap[w.heap.size]? = some (.cells #[.int .i64 0, .int .i64 0, .int .i64 0, .int .i64 0, .int .i64 0, .int .i64 0, .int .i64 0] 36 (0, 0)) ∧ w'.heap[w.heap.size + 1]? = some (.cells #[.int .i64 0, .int .i64 0, .int .i64 0, .int .i64 0, .int .i64 0, .int .i64 0, .int .i64 0] 36 (0, 0))) => blk_cell h.2.1 4 rfl
  have q4 := fun w' (h : Ex [w.heap.size, w.heap.size + 1] W w' ∧ w'.heap[w.heap.size]? = some (.cells #[.int .i64 0, .int .i64 0, .int .i64 0, .int .i64 0, .int .i64 0, .int .i64 0, .int .i64 0] 36 (0, 0)) ∧ w'.heap[w.heap.size + 1]? = some (.cells #[.int .i64 0, .int .i64 0, .int .i64 0, .int .i64 0, .int .i64 0, .int .i64 0, .int .i64 0] 36 (0, 0))) => blk_cell h.2.2 4 rfl
  have r4 := fun w' (h : Ex [w.heap.size, w.heap.size + 1] W w' ∧ w'.heap[w.heap.size]? = some (.cells #[.int .i64 0, .int .i64 0, .int .i64 0, .int .i64 0, .int .i64 0, .int .i64 0, .int .i64 0] 36 (0, 0)) ∧ w'.heap[w.heap.size + 1]? = some (.cells #[.int .i64 0, .int .i64 0, .int .i64 0, .int .i64 0, .int .i64 0, .int .i64 0, .int .i64 0] 36 (0, 0))) => blk_free h.2.1 4
  have s4 := fun w' (h : Ex [w.heap.size, w.heap.size + 1] W w' ∧ w'.heap[w.heap.size]? = some (.cells #[.int .i64 0, .int .i64 0, .int .i64 0, .int .i64 0, .int .i64 0, .int .i64 0, .int .i64 0] 36 (0, 0)) ∧ w'.heap[w.heap.size + 1]? = some (.cells #[.int .i64 0, .int .i64 0, .int .i64 0, .int .i64 0, .int .i64 0, .int .i64 0, .int .i64 0] 36 (0, 0))) => blk_free h.2.2 4
  have p5 := fun w' (h : Ex [w.heap.size, w.heap.size + 1] W w' ∧ w'.heap[w.heap.size]? = some (.cells #[.int .i64 0, .int .i64 0, .int .i64 0, .int .i64 0, .int .i64 0, .int .i64 0, .int .i64 0] 36 (0, 0)) ∧ w'.heap[w.heap.size + 1]? = some (.cells #[.int .i64 0, .int .i64 0, .int .i64 0, .int .i64 0, .int .i64 0, .int .i64 0, .int .i64 0] 36 (0, 0))) => blk_cell h.2.1 5 rfl
  have q5 := fun w' (h : Ex [w.heap.size, w.heap.size + 1] W w' ∧ w'.heap[w.heap.size]? = some (.cells #[.int .i64 0, .int .i64 0, .int .i64 0, .int .i64 0, .int .i64 0, .int .i64 0, .int .i64 0] 36 (0, 0)) ∧ w'.heap[w.heap.size + 1]? = some (.cells #[.int .i64 0, .int .i64 0, .int .i64 0, .int .i64 0, .int .i64 0, .int .i64 0, .int .i64 0] 36 (0, 0))) => blk_cell h.2.2 5 rfl
  have r5 := fun w' (h : Ex [w.heap.size, w.heap.size + 1] W w' ∧ w'.heap[w.heap.size]? = some (.cells #[.int .i64 0, .int .i64 0, .int .i64 0, .int .i64 0, .int .i64 0, .int .i64 0, .int .i64 0] 36 (0, 0)) ∧ w'.heap[w.heap.size + 1]? = some (.cells #[.int .i64 0, .int .i64 0, .int .i64 0, .int .i64 0, .int .i64 0, .int .i64 0, .int .i64 0] 36 (0, 0))) => blk_free h.2.1 5
  have s5 := fun w' (h : Ex [w.heap.size, w.heap.size + 1] W w' ∧ w'.heap[w.heap.size]? = some (.cells #[.int .i64 0, .int .i64 0, .int .i64 0, .int .i64 0, .int .i64 0, .int .i64 0, .int .i64 0] 36 (0, 0)) ∧ w'.heap[w.heap.size + 1]? = some (.cells #[.int .i64 0, .int .i64 0, .int .i64 0, .int .i64 0, .int .i64 0, .int .i64 0, .int .i64 0] 36 (0, 0))) => blk_free h.2.2 5
  have p6 := fun w' (h : Ex [w.heap.size, w.heap.size + 1] W w' ∧ w'.heap[w.heap.size]? = some (.cells #[.int .i64 0, .int .i64 0, .int .i64 0, .int .i64 0, .int .i64 0, .int .i64 0, .int .i64 0] 36 (0, 0)) ∧ w'.heap[w.heap.size + 1]? = some (.cells #[.int .i64 0, .int .i64 0, .int .i64 0, .int .i64 0, .int .i64 0, .int .i64 0, .int .i64 0] 36 (0, 0))) => blk_cell h.2.1 6 rfl
  have q6 := fun w' (h : Ex [w.heap.size, w.heap.size + 1] W w' ∧ w'.heap[w.heap.size]? = some (.cells #[.int .i64 0, .int .i64 0, .int .i64 0, .int .i64 0, .int .i64 0, .int .i64 0, .int .i64 0] 36 (0, 0)) ∧ w'.heap[w.heap.size + 1]? = some (.cells #[.int .i64 0, .int .i64 0, .int .i64 0, .int .i64 0, .int .i64 0, .int .i64 0, .int .i64 0] 36 (0, 0))) => blk_cell h.2.2 6 rfl
  have r6 := fun w' (h : Ex [w.heap.size, w.heap.size + 1] W w' ∧ w'.heap[w.heap.size]? = some (.cells #[.int .i64 0, .int .i64 0, .int .i64 0, .int .i64 0, .int .i64 0, .int .i64 0, .int .i64 0] 36 (0, 0)) ∧ w'.heap[w.heap.size + 1]? = some (.cells #[.int .i64 0, .int .i64 0, .int .i64 0, .int .i64 0, .int .i64 0, .int .i64 0, .int .i64 0] 36 (0, 0))) => blk_free h.2.1 6
  have s6 := fun w' (h : Ex [w.heap.size, w.heap.size + 1] W w' ∧ w'.heap[w.heap.size]? = some (.cells #[.int .i64 0, .int .i64 0, .int .i64 0, .int .i64 0, .int .i64 0, .int .i64 0, .int .i64 0] 36 (0, 0)) ∧ w'.heap[w.heap.size + 1]? = some (.cells #[.int .i64 0, .int .i64 0, .int .i64 0, .int .i64 0, .int .i64 0, .int .i64 0, .int .i64 0] 36 (0, 0))) => blk_free h.2.2 6
  clear f0_0 z0_0 f0_1 z0_1 f0_2 z0_2 f0_3 z0_3 f0_4 z0_4 f0_5 z0_5 f0_6 z0_6 f1_0 z1_0 f1_1 z1_1 f1_2 z1_2 f1_3 z1_3 f1_4 z1_4 f1_5 z1_5 f1_6 z1_6
  have hSd : Ex [w.heap.size, w.heap.size + 1] W W.drew ∧ W.drew.heap[w.heap.size]? = some (.cells #[.int .i64 0, .int .i64 0, .int .i64 0, .int .i64 0, .int .i64 0, .int .i64 0, .int .i64 0] 36 (0, 0)) ∧ W.drew.heap[w.heap.size + 1]? = some (.cells #[.int .i64 0, .int .i64 0, .int .i64 0, .int .i64 0, .int .i64 0, .int .i64 0, .int .i64 0] 36 (0, 0)) := ⟨(Ex.refl _ _).drew, blk_drew hB0, blk_drew hB1⟩
  refine region_plan (fun w' => Ex [w.heap.size, w.heap.size + 1] W w' ∧ w'.heap[w.heap.size]? = some (.cells #[.int .i64 0, .int .i64 0, .int .i64 0, .int .i64 0, .int .i64 0, .int .i64 0, .int .i64 0] 36 (0, 0)) ∧ w'.heap[w.heap.size + 1]? = some (.cells #[.int .i64 0, .int .i64 0, .int .i64 0, .int .i64 0, .int .i64 0, .int .i64 0, .int .i64 0] 36 (0, 0))) [.st [0, 1], .mv 2, .mv 3] (by kernel_rfl) (by kernel_rfl) hSd ?_
  generalize W.drew = W0 at hSd ⊢
  refine plan_st (fun K hK => ?_)
  simp only [pick, List.drop_succ_cons, List.drop_zero, List.take_succ_cons, List.take_zero, List.cons_append, List.nil_append]
  iterate 2 (refine wpYield_want ?_ (by rfl) (fun w' hS' => ?_) ?_; rotate_left; ((try dsimp only at hS'); go_simp; try with_reducible rfl); simp only [Act.put, List.setIfInBounds_toArray, List.set_cons_zero, List.set_cons_succ])
  refine wpYield_nil (hK _ ?_)
  clear hK K
  refine plan_mv (fun K hK => ?_)
  simp only [pick, List.drop_succ_cons, List.drop_zero, List.take_succ_cons, List.take_zero, List.cons_append, List.nil_append]
  go_wp2_with fail
  have hS1 : Ex [w.heap.size, w.heap.size + 1] W (((((((W0.setCell ⟨w.heap.size, 0, none⟩ (.int .i64 0)).setCell ⟨w.heap.size, 1, none⟩ (.int .i64 0)).setCell ⟨w.heap.size, 2, none⟩ (.int .i64 0)).setCell ⟨w.heap.size, 3, none⟩ (.int .i64 0)).setCell ⟨w.heap.size, 4, none⟩ (.int .i64 0)).setCell ⟨w.heap.size, 5, none⟩ (.int .i64 0)).setCell ⟨w.heap.size, 6, none⟩ (.int .i64 0)) ∧ (((((((W0.setCell ⟨w.heap.size, 0, none⟩ (.int .i64 0)).setCell ⟨w.heap.size, 1, none⟩ (.int .i64 0)).setCell ⟨w.heap.size, 2, none⟩ (.int .i64 0)).setCell ⟨w.heap.size, 3, none⟩ (.int .i64 0)).setCell ⟨w.heap.size, 4, none⟩ (.int .i64 0)).setCell ⟨w.heap.size, 5, none⟩ (.int .i64 0)).setCell ⟨w.heap.size, 6, none⟩ (.int .i64 0)).heap[w.heap.size]? = some (.cells #[.int .i64 0, .int .i64 0, .int .i64 0, .int .i64 0, .int .i64 0, .int .i64 0, .int .i64 0] 36 (0, 0)) ∧ (((((((W0.setCell ⟨w.heap.size, 0, none⟩ (.int .i64 0)).setCell ⟨w.heap.size, 1, none⟩ (.int .i64 0)).setCell ⟨w.heap.size, 2, none⟩ (.int .i64 0)).setCell ⟨w.heap.size, 3, none⟩ (.int .i64 0)).setCell ⟨w.heap.size, 4, none⟩ (.int .i64 0)).setCell ⟨w.heap.size, 5, none⟩ (.int .i64 0)).setCell ⟨w.heap.size, 6, none⟩ (.int .i64 0)).heap[w.heap.size + 1]? = some (.cells #[.int .i64 0, .int .i64 0, .int .i64 0, .int .i64 0, .int .i64 0, .int .i64 0, .int .i64 0] 36 (0, 0)) := ⟨(((((((hSd.1.setCell (.inl (by simp)) _).setCell (.inl (by simp)) _).setCell (.inl (by simp)) _).setCell (.inl (by simp)) _).setCell (.inl (by simp)) _).setCell (.inl (by simp)) _).setCell (.inl (by simp)) _), blk_to (blk_set (blk_set (blk_set (blk_set (blk_set (blk_set (blk_set (hSd.2.1) 0 _) 1 _) 2 _) 3 _) 4 _) 5 _) 6 _) (by kernel_rfl), blk_set_other (blk_set_other (blk_set_other (blk_set_other (blk_set_other (blk_set_other (blk_set_other (hSd.2.2) (by omega)) (by omega)) (by omega)) (by omega)) (by omega)) (by omega)) (by omega)⟩
  generalize (((((((W0.setCell ⟨w.heap.size, 0, none⟩ (.int .i64 0)).setCell ⟨w.heap.size, 1, none⟩ (.int .i64 0)).setCell ⟨w.heap.size, 2, none⟩ (.int .i64 0)).setCell ⟨w.heap.size, 3, none⟩ (.int .i64 0)).setCell ⟨w.heap.size, 4, none⟩ (.int .i64 0)).setCell ⟨w.heap.size, 5, none⟩ (.int .i64 0)).setCell ⟨w.heap.size, 6, none⟩ (.int .i64 0)) = W1 at hS1 ⊢
  clear hSd
  first | refine hK _ _ hS1 ?_ | refine ⟨rfl, hK _ _ hS1 ?_⟩
  clear hK K
  refine plan_mv (fun K hK => ?_)
  simp only [pick, List.drop_succ_cons, List.drop_zero, List.take_succ_cons, List.take_zero, List.cons_append, List.nil_append]
  go_wp2_with fail
  have hS2 : Ex [w.heap.size, w.heap.size + 1] W (((((((W1.setCell ⟨w.heap.size + 1, 0, none⟩ (.int .i64 0)).setCell ⟨w.heap.size + 1, 1, none⟩ (.int .i64 0)).setCell ⟨w.heap.size + 1, 2, none⟩ (.int .i64 0)).setCell ⟨w.heap.size + 1, 3, none⟩ (.int .i64 0)).setCell ⟨w.heap.size + 1, 4, none⟩ (.int .i64 0)).setCell ⟨w.heap.size + 1, 5, none⟩ (.int .i64 0)).setCell ⟨w.heap.size + 1, 6, none⟩ (.int .i64 0)) ∧ (((((((W1.setCell ⟨w.heap.size + 1, 0, none⟩ (.int .i64 0)).setCell ⟨w.heap.size + 1, 1, none⟩ (.int .i64 0)).setCell ⟨w.heap.size + 1, 2, none⟩ (.int .i64 0)).setCell ⟨w.heap.size + 1, 3, none⟩ (.int .i64 0)).setCell ⟨w.heap.size + 1, 4, none⟩ (.int .i64 0)).setCell ⟨w.heap.size + 1, 5, none⟩ (.int .i64 0)).setCell ⟨w.heap.size + 1, 6, none⟩ (.int .i64 0)).heap[w.heap.size]? = some (.cells #[.int .i64 0, .int .i64 0, .int .i64 0, .int .i64 0, .int .i64 0, .int .i64 0, .int .i64 0] 36 (0, 0)) ∧ (((((((W1.setCell ⟨w.heap.size + 1, 0, none⟩ (.int .i64 0)).setCell ⟨w.heap.size + 1, 1, none⟩ (.int .i64 0)).setCell ⟨w.heap.size + 1, 2, none⟩ (.int .i64 0)).setCell ⟨w.heap.size + 1, 3, none⟩ (.int .i64 0)).setCell ⟨w.heap.size + 1, 4, none⟩ (.int .i64 0)).setCell ⟨w.heap.size + 1, 5, none⟩ (.int .i64 0)).setCell ⟨w.heap.size + 1, 6, none⟩ (.int .i64 0)).heap[w.heap.size + 1]? = some (.cells #[.int .i64 0, .int .i64 0, .int .i64 0, .int .i64 0, .int .i64 0, .int .i64 0, .int .i64 0] 36 (0, 0)) := ⟨(((((((hS1.1.setCell (.inl (by simp)) _).setCell (.inl (by simp)) _).setCell (.inl (by simp)) _).setCell (.inl (by simp)) _).setCell (.inl (by simp)) _).setCell (.inl (by simp)) _).setCell (.inl (by simp)) _), blk_set_other (blk_set_other (blk_set_other (blk_set_other (blk_set_other (blk_set_other (blk_set_other (hS1.2.1) (by omega)) (by omega)) (by omega)) (by omega)) (by omega)) (by omega)) (by omega), blk_to (blk_set (blk_set (blk_set (blk_set (blk_set (blk_set (blk_set (hS1.2.2) 0 _) 1 _) 2 _) 3 _) 4 _) 5 _) 6 _) (by kernel_rfl)⟩
  generalize (((((((W1.setCell ⟨w.heap.size + 1, 0, none⟩ (.int .i64 0)).setCell ⟨w.heap.size + 1, 1, none⟩ (.int .i64 0)).setCell ⟨w.heap.size + 1, 2, none⟩ (.int .i64 0)).setCell ⟨w.heap.size + 1, 3, none⟩ (.int .i64 0)).setCell ⟨w.heap.size + 1, 4, none⟩ (.int .i64 0)).setCell ⟨w.heap.size + 1, 5, none⟩ (.int .i64 0)).setCell ⟨w.heap.size + 1, 6, none⟩ (.int .i64 0)) = W2 at hS2 ⊢
  clear hS1
  first | refine hK _ _ hS2 ?_ | refine ⟨rfl, hK _ _ hS2 ?_⟩
  clear hK K
  refine plan_nil ?_
  go_wp2_with fail
  (try simp only [Exit.inBlock, Exit.then])
  have x0 := p0 W2 hS2
  have y0 := q0 W2 hS2
  have x1 := p1 W2 hS2
  have y1 := q1 W2 hS2
  have x2 := p2 W2 hS2
  have y2 := q2 W2 hS2
  have x3 := p3 W2 hS2
  have y3 := q3 W2 hS2
  have x4 := p4 W2 hS2
  have y4 := q4 W2 hS2
  have x5 := p5 W2 hS2
  have y5 := q5 W2 hS2
  have x6 := p6 W2 hS2
  have y6 := q6 W2 hS2
  exact bodyPost_ret (v := .tuple #[.agg #[.int .i64 0, .int .i64 0, .int .i64 0, .int .i64 0, .int .i64 0, .int .i64 0, .int .i64 0], .agg #[.int .i64 0, .int .i64 0, .int .i64 0, .int .i64 0, .int .i64 0, .int .i64 0, .int .i64 0]]) (by simp [results, Try.results37, go_sem, x0, y0, x1, y1, x2, y2, x3, y3, x4, y4, x5, y5, x6, y6]) rfl ⟨rfl, hr0.trans_fresh hS2.1 (by simp)⟩
end Go.Proofs.Ytojnpaenpaobcaa
