/- Copies and the example of the statements. No condition. -/
import Derived.Test.YtojnpaenpaobcaaK1
namespace Go.Proofs.Ytojnpaenpaobcaa
open Go.RowKit
attribute [local irreducible] wpYield wpPlan

theorem Lot.len (m : Lot) : m.cells.length = 9 := rfl
theorem Lot.one (m : Lot) : ∀ u ∈ m.cells, u.oneCell' = true := by simp [Lot.cells, Value.oneCell']
theorem eiLot : EI Try.prog 22 43 9 72 := EI.mk' (z := .agg #[.int .i64 0, .int .i64 0, .int .i64 0, .int .i64 0, .int .i64 0, .int .i64 0, .int .i64 0, .int .i64 0, .int .i64 0]) (by kernel_rfl) (by kernel_rfl) (by rfl) (by omega)

set_option maxRecDepth 100000 in
set_option maxHeartbeats 4000000 in
theorem own_c (p : Recipe) (a : Option Addr) (cap : Nat) (w : World) (hs : SlL w a cap p.lots) (hn : p.lots.length ≤ 1000000) :
    Calls Try.prog 13 #[.agg #[.slice a p.lots.length cap, .int .i64 p.mass.lo, .int .i64 p.mass.hi, .int .i64 p.target.a.lo, .int .i64 p.target.a.hi, .int .i64 p.target.b.lo, .int .i64 p.target.b.hi, .int .i64 p.target.c.lo, .int .i64 p.target.c.hi]] w (fun e w' => ∃ a' c', e = .returned (.agg #[.slice a' p.lots.length c', .int .i64 p.mass.lo, .int .i64 p.mass.hi, .int .i64 p.target.a.lo, .int .i64 p.target.a.hi, .int .i64 p.target.b.lo, .int .i64 p.target.b.hi, .int .i64 p.target.c.lo, .int .i64 p.target.c.hi]) ∧ Own 43 9 Lot.cells w.heap.size w' (.slice a' p.lots.length c') p.lots ∧ Ext w w') := by
  have hle := hs.le; have hb := hs.big
  go_enter Try.func13, Try.ntmps13
  go_upto_region 1 with (fail)
  refine wp_at (fun W => Ext w W ∧ w.heap.size + 2 = W.heap.size ∧ W.heap[w.heap.size]? = some (.cells #[.slice a p.lots.length cap, .int .i64 p.mass.lo, .int .i64 p.mass.hi, .int .i64 p.target.a.lo, .int .i64 p.target.a.hi, .int .i64 p.target.b.lo, .int .i64 p.target.b.hi, .int .i64 p.target.c.lo, .int .i64 p.target.c.hi] 28 (0, 0)) ∧ W.heap[w.heap.size + 1]? = some (.cells #[.slice none 0 0, .int .i64 0, .int .i64 0, .int .i64 0, .int .i64 0, .int .i64 0, .int .i64 0, .int .i64 0, .int .i64 0] 28 (0, 0))) ⟨by (repeat (with_reducible first | exact Ex.refl _ _ | assumption | exact Ex.mono (by assumption) (by simp; done) | refine Ex.alloc ?_ _ | refine Ex.drew ?_ | refine Ex.drewN ?_ _ | refine Ex.setCell ?_ (by first | (left; simp; done) | (right; simp; done) | (right; simp; omega)) _ | refine Ex.trans ?_ (by assumption))), by simp, blk_alloc (blk_new _ _), by have h := blk_new ((w).alloc (.cells #[.slice a p.lots.length cap, .int .i64 p.mass.lo, .int .i64 p.mass.hi, .int .i64 p.target.a.lo, .int .i64 p.target.a.hi, .int .i64 p.target.b.lo, .int .i64 p.target.b.hi, .int .i64 p.target.c.lo, .int .i64 p.target.c.hi] 28 (0, 0))) (.cells #[.slice none 0 0, .int .i64 0, .int .i64 0, .int .i64 0, .int .i64 0, .int .i64 0, .int .i64 0, .int .i64 0, .int .i64 0] 28 (0, 0)); simpa using h⟩ (fun W hW => ?_)
  obtain ⟨hr0, hsz, hB0, hB1⟩ := hW
  have hr : Ex [] W W := Ex.refl _ _
  have f0_0 := cellE (S := []) hB0 (by first | (simp; done) | (simp; omega)) 0 rfl
  have f0_1 := cellE (S := []) hB0 (by first | (simp; done) | (simp; omega)) 1 rfl
  have f0_2 := cellE (S := []) hB0 (by first | (simp; done) | (simp; omega)) 2 rfl
  have f0_3 := cellE (S := []) hB0 (by first | (simp; done) | (simp; omega)) 3 rfl
  have f0_4 := cellE (S := []) hB0 (by first | (simp; done) | (simp; omega)) 4 rfl
  have f0_5 := cellE (S := []) hB0 (by first | (simp; done) | (simp; omega)) 5 rfl
  have f0_6 := cellE (S := []) hB0 (by first | (simp; done) | (simp; omega)) 6 rfl
  have f0_7 := cellE (S := []) hB0 (by first | (simp; done) | (simp; omega)) 7 rfl
  have f0_8 := cellE (S := []) hB0 (by first | (simp; done) | (simp; omega)) 8 rfl
  have f1_0 := cellE (S := []) hB1 (by first | (simp; done) | (simp; omega)) 0 rfl
  have f1_1 := cellE (S := []) hB1 (by first | (simp; done) | (simp; omega)) 1 rfl
  have f1_2 := cellE (S := []) hB1 (by first | (simp; done) | (simp; omega)) 2 rfl
  have f1_3 := cellE (S := []) hB1 (by first | (simp; done) | (simp; omega)) 3 rfl
  have f1_4 := cellE (S := []) hB1 (by first | (simp; done) | (simp; omega)) 4 rfl
  have f1_5 := cellE (S := []) hB1 (by first | (simp; done) | (simp; omega)) 5 rfl
  have f1_6 := cellE (S := []) hB1 (by first | (simp; done) | (simp; omega)) 6 rfl
  have f1_7 := cellE (S := []) hB1 (by first | (simp; done) | (simp; omega)) 7 rfl
  have f1_8 := cellE (S := []) hB1 (by first | (simp; done) | (simp; omega)) 8 rfl
  have z0_0 := freeE (S := []) hB0 (by first | (simp; done) | (simp; omega)) 0
  have z0_1 := freeE (S := []) hB0 (by first | (simp; done) | (simp; omega)) 1
  have z0_2 := freeE (S := []) hB0 (by first | (simp; done) | (simp; omega)) 2
  have z0_3 := freeE (S := []) hB0 (by first | (simp; done) | (simp; omega)) 3
  have z0_4 := freeE (S := []) hB0 (by first | (simp; done) | (simp; omega)) 4
  have z0_5 := freeE (S := []) hB0 (by first | (simp; done) | (simp; omega)) 5
  have z0_6 := freeE (S := []) hB0 (by first | (simp; done) | (simp; omega)) 6
  have z0_7 := freeE (S := []) hB0 (by first | (simp; done) | (simp; omega)) 7
  have z0_8 := freeE (S := []) hB0 (by first | (simp; done) | (simp; omega)) 8
  have z1_0 := freeE (S := []) hB1 (by first | (simp; done) | (simp; omega)) 0
  have z1_1 := freeE (S := []) hB1 (by first | (simp; done) | (simp; omega)) 1
  have z1_2 := freeE (S := []) hB1 (by first | (simp; done) | (simp; omega)) 2
  have z1_3 := freeE (S := []) hB1 (by first | (simp; done) | (simp; omega)) 3
  have z1_4 := freeE (S := []) hB1 (by first | (simp; done) | (simp; omega)) 4
  have z1_5 := freeE (S := []) hB1 (by first | (simp; done) | (simp; omega)) 5
  have z1_6 := freeE (S := []) hB1 (by first | (simp; done) | (simp; omega)) 6
  have z1_7 := freeE (S := []) hB1 (by first | (simp; done) | (simp; omega)) 7
  have z1_8 := freeE (S := []) hB1 (by first | (simp; done) | (simp; omega)) 8
  have hsz' := Nat.le_of_eq hsz.symm; have hsz'' := Nat.le_of_eq hsz; clear hsz
  have hB0' := Lib.hid hB0; have hB1' := Lib.hid hB1; clear hB0 hB1
  have d0 := f0_0 (W.alloc (.cells #[] 43)) (hr.alloc _)
  go_wp2_with (at_builtin; refine wpList_appendAny (base := W.heap.size) eiLot Lot.len Lot.one rfl _ _ rfl _ [] (by rfl) (Own.empty (Nat.le_refl _)) a cap p.lots (by rfl) (hs.ext (hr0.alloc _)) (by simp; omega) (by simp; omega) (by simp) ?_; intro v w1 hO hx hg hv; obtain ⟨a', c', rfl, hS, hab⟩ := hO.sl Lot.len; have hx1 : Ex [] W w1 := ((Ex.refl _ _).alloc _).trans_fresh hx (fun x hx => .inr (by simp [Value.ownBlock] at hx; omega)); clear hx; have hB0x := hx1.heap (by simp) hB0'.out; have hB1x := hx1.heap (by simp) hB1'.out; have k0 := blk_cell hB0x 0 rfl; have k1 := blk_cell hB0x 1 rfl; have k2 := blk_cell hB0x 2 rfl; have k3 := blk_cell hB0x 3 rfl; have k4 := blk_cell hB0x 4 rfl; have k5 := blk_cell hB0x 5 rfl; have k6 := blk_cell hB0x 6 rfl; have k7 := blk_cell hB0x 7 rfl; have k8 := blk_cell hB0x 8 rfl; have m0 := blk_cell hB1x 0 rfl; have m1 := blk_cell hB1x 1 rfl; have m2 := blk_cell hB1x 2 rfl; have m3 := blk_cell hB1x 3 rfl; have m4 := blk_cell hB1x 4 rfl; have m5 := blk_cell hB1x 5 rfl; have m6 := blk_cell hB1x 6 rfl; have m7 := blk_cell hB1x 7 rfl; have m8 := blk_cell hB1x 8 rfl; have u0 := blk_free hB0x 0; have v0 := blk_free hB1x 0; have v1 := blk_free hB1x 1; have v2 := blk_free hB1x 2; have v3 := blk_free hB1x 3; have v4 := blk_free hB1x 4; have v5 := blk_free hB1x 5; have v6 := blk_free hB1x 6; have v7 := blk_free hB1x 7; have v8 := blk_free hB1x 8; have hB0y := Lib.hid hB0x; have hB1y := Lib.hid hB1x; clear hB0x hB1x d0)
  (try simp only [Exit.inBlock, Exit.then])
  refine ret_at (fun X => Ex [w.heap.size, w.heap.size + 1] w1 X ∧ X.heap[w.heap.size + 1]? = some (.cells #[.slice a' p.lots.length c', .int .i64 p.mass.lo, .int .i64 p.mass.hi, .int .i64 p.target.a.lo, .int .i64 p.target.a.hi, .int .i64 p.target.b.lo, .int .i64 p.target.b.hi, .int .i64 p.target.c.lo, .int .i64 p.target.c.hi] 28 (0, 0))) ⟨((((((((((Ex.refl _ _).setCell (.inl (by simp)) _).setCell (.inl (by simp)) _).setCell (.inl (by simp)) _).setCell (.inl (by simp)) _).setCell (.inl (by simp)) _).setCell (.inl (by simp)) _).setCell (.inl (by simp)) _).setCell (.inl (by simp)) _).setCell (.inl (by simp)) _).setCell (.inl (by simp)) _, ?_⟩ (fun X hX => ?_)
  · refine blk_to (blk_set (blk_set (blk_set (blk_set (blk_set (blk_set (blk_set (blk_set (blk_set (blk_set_other hB1y.out (by omega)) 0 _) 1 _) 2 _) 3 _) 4 _) 5 _) 6 _) 7 _) 8 _) ?_
    kernel_rfl
  obtain ⟨hX1, hX2⟩ := hX
  have x0 := blk_cell (v := .slice a' p.lots.length c') hX2 0 rfl
  have x1 := blk_cell (v := .int .i64 p.mass.lo) hX2 1 rfl
  have x2 := blk_cell (v := .int .i64 p.mass.hi) hX2 2 rfl
  have x3 := blk_cell (v := .int .i64 p.target.a.lo) hX2 3 rfl
  have x4 := blk_cell (v := .int .i64 p.target.a.hi) hX2 4 rfl
  have x5 := blk_cell (v := .int .i64 p.target.b.lo) hX2 5 rfl
  have x6 := blk_cell (v := .int .i64 p.target.b.hi) hX2 6 rfl
  have x7 := blk_cell (v := .int .i64 p.target.c.lo) hX2 7 rfl
  have x8 := blk_cell (v := .int .i64 p.target.c.hi) hX2 8 rfl
  refine bodyPost_ret (v := .agg #[.slice a' p.lots.length c', .int .i64 p.mass.lo, .int .i64 p.mass.hi, .int .i64 p.target.a.lo, .int .i64 p.target.a.hi, .int .i64 p.target.b.lo, .int .i64 p.target.b.hi, .int .i64 p.target.c.lo, .int .i64 p.target.c.hi]) (by simp [results, Try.results13, go_sem, x0, x1, x2, x3, x4, x5, x6, x7, x8]) rfl ⟨a', c', rfl, (hO.ex hX1 (fun g hg => ?_)).mono (by have := hr0.size; omega), (hr0.trans hx1).trans_fresh hX1 (by simp)⟩
  have := hO.base_le hg
  simp; omega
end Go.Proofs.Ytojnpaenpaobcaa
