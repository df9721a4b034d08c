/- Piles are added to. No condition. -/
import Derived.Test.YtojnpaenpaobcaaC3
namespace Go.Proofs.Ytojnpaenpaobcaa
open Go.RowKit

def addPile (p : Pile) (l : Lot) (n : Int) : Pile := ⟨wrap64 (p.mass + wrap64 (n * l.mass)), ⟨⟨wrap64 (p.con.a.lo + wrap64 (n * l.con.a.lo)), wrap64 (p.con.a.hi + wrap64 (n * l.con.a.hi))⟩, ⟨wrap64 (p.con.b.lo + wrap64 (n * l.con.b.lo)), wrap64 (p.con.b.hi + wrap64 (n * l.con.b.hi))⟩, ⟨wrap64 (p.con.c.lo + wrap64 (n * l.con.c.lo)), wrap64 (p.con.c.hi + wrap64 (n * l.con.c.hi))⟩⟩⟩

set_option maxHeartbeats 4000000 in
theorem put0_c (p : Pile) (l : Lot) (n : Int) (b : Nat) (T : TypeId) (w : World) (hB : w.heap[b]? = some (.cells #[.int .i64 p.mass, .int .i64 p.con.a.lo, .int .i64 p.con.a.hi, .int .i64 p.con.b.lo, .int .i64 p.con.b.hi, .int .i64 p.con.c.lo, .int .i64 p.con.c.hi] T (0, 0))) :
    Calls Try.prog 78 #[.pointer (some ⟨b, 0, none⟩), .agg #[.int .i64 l.count, .int .i64 l.mass, .int .i64 l.con.a.lo, .int .i64 l.con.a.hi, .int .i64 l.con.b.lo, .int .i64 l.con.b.hi, .int .i64 l.con.c.lo, .int .i64 l.con.c.hi, .int .i64 l.cost], .int .i64 n] w (fun e w' => e = .returned (.tuple #[]) ∧ Ex [b] w w' ∧ w'.heap[b]? = some (.cells #[.int .i64 (addPile p l n).mass, .int .i64 (addPile p l n).con.a.lo, .int .i64 (addPile p l n).con.a.hi, .int .i64 (addPile p l n).con.b.lo, .int .i64 (addPile p l n).con.b.hi, .int .i64 (addPile p l n).con.c.lo, .int .i64 (addPile p l n).con.c.hi] T (0, 0))) := by
  have hlt := lt_of_block hB
  have k0 := blk_cell hB 0 rfl
  have z0 := blk_free hB 0
  have k1 := blk_cell hB 1 rfl
  have z1 := blk_free hB 1
  have k2 := blk_cell hB 2 rfl
  have z2 := blk_free hB 2
  have k3 := blk_cell hB 3 rfl
  have z3 := blk_free hB 3
  have k4 := blk_cell hB 4 rfl
  have z4 := blk_free hB 4
  have k5 := blk_cell hB 5 rfl
  have z5 := blk_free hB 5
  have k6 := blk_cell hB 6 rfl
  have z6 := blk_free hB 6
  have hB' := Lib.hid hB; clear hB
  go_enter Try.func78, Try.ntmps78
  go_wp2
  go_region
  go_wp2
  refine wp_loop_rounds 4 ?_
  iterate 3 (rw [rounds_succ]; go_wp2; go_region; go_wp2; go_region; go_wp2)
  rw [rounds_succ]
  go_wp2
  go_returns
  refine ⟨rfl, by (repeat (with_reducible first | exact Ex.refl _ _ | assumption | refine Ex.alloc ?_ _ | refine Ex.drew ?_ | refine Ex.drewN ?_ _ | refine Ex.setCell ?_ (by first | (left; simp; done) | (right; simp; done) | (right; simp; omega)) _ | refine Ex.trans ?_ (by assumption))), ?_⟩
  repeat (with_reducible refine blk_drew ?_)
  refine blk_to (blk_alloc (blk_set (blk_set (blk_set (blk_set (blk_set (blk_set (blk_set hB'.out 0 _) 1 _) 2 _) 3 _) 4 _) 5 _) 6 _)) ?_
  kernel_rfl

set_option maxHeartbeats 4000000 in
theorem put1_c (v0 : Value) (p : Pile) (l : Lot) (n : Int) (b : Nat) (T : TypeId) (w : World) (hB : w.heap[b]? = some (.cells #[v0, .int .i64 p.mass, .int .i64 p.con.a.lo, .int .i64 p.con.a.hi, .int .i64 p.con.b.lo, .int .i64 p.con.b.hi, .int .i64 p.con.c.lo, .int .i64 p.con.c.hi] T (0, 0))) :
    Calls Try.prog 78 #[.pointer (some ⟨b, 1, none⟩), .agg #[.int .i64 l.count, .int .i64 l.mass, .int .i64 l.con.a.lo, .int .i64 l.con.a.hi, .int .i64 l.con.b.lo, .int .i64 l.con.b.hi, .int .i64 l.con.c.lo, .int .i64 l.con.c.hi, .int .i64 l.cost], .int .i64 n] w (fun e w' => e = .returned (.tuple #[]) ∧ Ex [b] w w' ∧ w'.heap[b]? = some (.cells #[v0, .int .i64 (addPile p l n).mass, .int .i64 (addPile p l n).con.a.lo, .int .i64 (addPile p l n).con.a.hi, .int .i64 (addPile p l n).con.b.lo, .int .i64 (addPile p l n).con.b.hi, .int .i64 (addPile p l n).con.c.lo, .int .i64 (addPile p l n).con.c.hi] T (0, 0))) := by
  have hlt := lt_of_block hB
  have k0 := blk_cell hB 0 rfl
  have z0 := blk_free hB 0
  have k1 := blk_cell hB 1 rfl
  have z1 := blk_free hB 1
  have k2 := blk_cell hB 2 rfl
  have z2 := blk_free hB 2
  have k3 := blk_cell hB 3 rfl
  have z3 := blk_free hB 3
  have k4 := blk_cell hB 4 rfl
  have z4 := blk_free hB 4
  have k5 := blk_cell hB 5 rfl
  have z5 := blk_free hB 5
  have k6 := blk_cell hB 6 rfl
  have z6 := blk_free hB 6
  have k7 := blk_cell hB 7 rfl
  have z7 := blk_free hB 7
  have hB' := Lib.hid hB; clear hB
  go_enter Try.func78, Try.ntmps78
  go_wp2
  go_region
  go_wp2
  refine wp_loop_rounds 4 ?_
  iterate 3 (rw [rounds_succ]; go_wp2; go_region; go_wp2; go_region; go_wp2)
  rw [rounds_succ]
  go_wp2
  go_returns
  refine ⟨rfl, by (repeat (with_reducible first | exact Ex.refl _ _ | assumption | refine Ex.alloc ?_ _ | refine Ex.drew ?_ | refine Ex.drewN ?_ _ | refine Ex.setCell ?_ (by first | (left; simp; done) | (right; simp; done) | (right; simp; omega)) _ | refine Ex.trans ?_ (by assumption))), ?_⟩
  repeat (with_reducible refine blk_drew ?_)
  refine blk_to (blk_alloc (blk_set (blk_set (blk_set (blk_set (blk_set (blk_set (blk_set hB'.out 1 _) 2 _) 3 _) 4 _) 5 _) 6 _) 7 _)) ?_
  kernel_rfl
end Go.Proofs.Ytojnpaenpaobcaa
