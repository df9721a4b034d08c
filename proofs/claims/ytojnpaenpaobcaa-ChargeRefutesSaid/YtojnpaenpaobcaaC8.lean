/- Margins. No condition. -/
import Derived.Test.YtojnpaenpaobcaaC7
import Derived.StillTailTactics
namespace Go.Proofs.Ytojnpaenpaobcaa
open Go.RowKit

structure Mar where
  (m0 m1 m2 m3 m4 m5 m6 m7 : Int)
  deriving DecidableEq
def Mar.list (m : Mar) : List Int := [m.m0, m.m1, m.m2, m.m3, m.m4, m.m5, m.m6, m.m7]
def Mar.cells (m : Mar) : List Value := [.int .i64 m.m0, .int .i64 m.m1, .int .i64 m.m2, .int .i64 m.m3, .int .i64 m.m4, .int .i64 m.m5, .int .i64 m.m6, .int .i64 m.m7]
def baseM (p : Recipe) : Mar := ⟨wrap64 (-p.mass.lo), p.mass.hi, 0, 0, 0, 0, 0, 0⟩
def plusM (a b : Mar) (n : Int) : Mar := ⟨wrap64 (a.m0 + wrap64 (n * b.m0)), wrap64 (a.m1 + wrap64 (n * b.m1)), wrap64 (a.m2 + wrap64 (n * b.m2)), wrap64 (a.m3 + wrap64 (n * b.m3)), wrap64 (a.m4 + wrap64 (n * b.m4)), wrap64 (a.m5 + wrap64 (n * b.m5)), wrap64 (a.m6 + wrap64 (n * b.m6)), wrap64 (a.m7 + wrap64 (n * b.m7))⟩
def ofM (p : Recipe) (x : Pile) : Mar := ⟨x.mass, wrap64 (-x.mass), wrap64 (wrap64 (p.target.a.hi * x.mass) - wrap64 (1000000 * x.con.a.hi)), wrap64 (wrap64 (1000000 * x.con.a.lo) - wrap64 (p.target.a.lo * x.mass)), wrap64 (wrap64 (p.target.b.hi * x.mass) - wrap64 (1000000 * x.con.b.hi)), wrap64 (wrap64 (1000000 * x.con.b.lo) - wrap64 (p.target.b.lo * x.mass)), wrap64 (wrap64 (p.target.c.hi * x.mass) - wrap64 (1000000 * x.con.c.hi)), wrap64 (wrap64 (1000000 * x.con.c.lo) - wrap64 (p.target.c.lo * x.mass))⟩
def brokenM (m : Mar) : Int := idxOf (fun n => decide (n < 0)) m.list 0

set_option maxHeartbeats 2000000 in
theorem plus_c (a b : Mar) (n : Int) (w : World) :
    Calls Try.prog 59 #[.agg #[.int .i64 a.m0, .int .i64 a.m1, .int .i64 a.m2, .int .i64 a.m3, .int .i64 a.m4, .int .i64 a.m5, .int .i64 a.m6, .int .i64 a.m7], .agg #[.int .i64 b.m0, .int .i64 b.m1, .int .i64 b.m2, .int .i64 b.m3, .int .i64 b.m4, .int .i64 b.m5, .int .i64 b.m6, .int .i64 b.m7], .int .i64 n] w (Ret (.agg #[.int .i64 ((plusM a b n).m0), .int .i64 ((plusM a b n).m1), .int .i64 ((plusM a b n).m2), .int .i64 ((plusM a b n).m3), .int .i64 ((plusM a b n).m4), .int .i64 ((plusM a b n).m5), .int .i64 ((plusM a b n).m6), .int .i64 ((plusM a b n).m7)]) w) := by
  go_enter Try.func59, Try.ntmps59
  go_wp2
  refine wp_loop_rounds 9 ?_
  iterate 8 (rw [rounds_succ]; go_wp2; go_region; go_wp2)
  rw [rounds_succ]
  go_wp2
  go_returns
  exact ⟨rfl, by (repeat (with_reducible first | exact Ex.refl _ _ | assumption | refine Ex.alloc ?_ _ | refine Ex.drew ?_ | refine Ex.drewN ?_ _ | refine Ex.setCell ?_ (by first | (left; simp; done) | (right; simp; done) | (right; simp; omega)) _ | refine Ex.trans ?_ (by assumption)))⟩

set_option maxHeartbeats 1000000 in
theorem base_c (p : Recipe) (a : Option Addr) (cap : Nat) (w : World) :
    Calls Try.prog 58 #[.agg #[.slice a p.lots.length cap, .int .i64 p.mass.lo, .int .i64 p.mass.hi, .int .i64 p.target.a.lo, .int .i64 p.target.a.hi, .int .i64 p.target.b.lo, .int .i64 p.target.b.hi, .int .i64 p.target.c.lo, .int .i64 p.target.c.hi]] w (Ret (.agg #[.int .i64 ((baseM p).m0), .int .i64 ((baseM p).m1), .int .i64 ((baseM p).m2), .int .i64 ((baseM p).m3), .int .i64 ((baseM p).m4), .int .i64 ((baseM p).m5), .int .i64 ((baseM p).m6), .int .i64 ((baseM p).m7)]) w) := by
  go_enter Try.func58, Try.ntmps58
  go_wp2
  go_returns
  exact ⟨rfl, by (repeat (with_reducible first | exact Ex.refl _ _ | assumption | refine Ex.alloc ?_ _ | refine Ex.drew ?_ | refine Ex.drewN ?_ _ | refine Ex.setCell ?_ (by first | (left; simp; done) | (right; simp; done) | (right; simp; omega)) _ | refine Ex.trans ?_ (by assumption)))⟩

set_option maxRecDepth 100000 in
set_option maxHeartbeats 4000000 in
theorem of_c (p : Recipe) (x : Pile) (a : Option Addr) (cap : Nat) (w : World) :
    Calls Try.prog 60 #[.agg #[.slice a p.lots.length cap, .int .i64 p.mass.lo, .int .i64 p.mass.hi, .int .i64 p.target.a.lo, .int .i64 p.target.a.hi, .int .i64 p.target.b.lo, .int .i64 p.target.b.hi, .int .i64 p.target.c.lo, .int .i64 p.target.c.hi], .agg #[.int .i64 x.mass, .int .i64 x.con.a.lo, .int .i64 x.con.a.hi, .int .i64 x.con.b.lo, .int .i64 x.con.b.hi, .int .i64 x.con.c.lo, .int .i64 x.con.c.hi]] w (Ret (.agg #[.int .i64 ((ofM p x).m0), .int .i64 ((ofM p x).m1), .int .i64 ((ofM p x).m2), .int .i64 ((ofM p x).m3), .int .i64 ((ofM p x).m4), .int .i64 ((ofM p x).m5), .int .i64 ((ofM p x).m6), .int .i64 ((ofM p x).m7)]) w) := by
  have ix0 : ∀ w, (Instr.index 26 (.agg #[.int .i64 p.target.a.lo, .int .i64 p.target.a.hi, .int .i64 p.target.b.lo, .int .i64 p.target.b.hi, .int .i64 p.target.c.lo, .int .i64 p.target.c.hi]) (.int .i64 0)).run Try.prog w = .ok (.agg #[.int .i64 p.target.a.lo, .int .i64 p.target.a.hi]) w := fun _ => by kernel_rfl
  have ix1 : ∀ w, (Instr.index 26 (.agg #[.int .i64 p.target.a.lo, .int .i64 p.target.a.hi, .int .i64 p.target.b.lo, .int .i64 p.target.b.hi, .int .i64 p.target.c.lo, .int .i64 p.target.c.hi]) (.int .i64 1)).run Try.prog w = .ok (.agg #[.int .i64 p.target.b.lo, .int .i64 p.target.b.hi]) w := fun _ => by kernel_rfl
  have ix2 : ∀ w, (Instr.index 26 (.agg #[.int .i64 p.target.a.lo, .int .i64 p.target.a.hi, .int .i64 p.target.b.lo, .int .i64 p.target.b.hi, .int .i64 p.target.c.lo, .int .i64 p.target.c.hi]) (.int .i64 2)).run Try.prog w = .ok (.agg #[.int .i64 p.target.c.lo, .int .i64 p.target.c.hi]) w := fun _ => by kernel_rfl
  have wl0 : IntKind.i64.wrap 0 = 0 := by decide
  have wl1 : IntKind.i64.wrap 1 = 1 := by decide
  have wl2 : IntKind.i64.wrap 2 = 2 := by decide
  have wl3 : IntKind.i64.wrap 3 = 3 := by decide
  have wl4 : IntKind.i64.wrap 4 = 4 := by decide
  have wl5 : IntKind.i64.wrap 5 = 5 := by decide
  have wl6 : IntKind.i64.wrap 6 = 6 := by decide
  have wl7 : IntKind.i64.wrap 7 = 7 := by decide
  go_enter Try.func60, Try.ntmps60
  go_wp2
  go_region
  go_wp2
  refine wp_loop_rounds 4 ?_
  iterate 3 (rw [rounds_succ]; go_wp2; (refine region_tail 16 (by kernel_rfl) (by kernel_rfl) ?_; simp only [List.take_succ_cons, List.take_zero, List.drop_succ_cons, List.drop_zero]; (repeat still_step); refine wpStill_nil ?_); go_wp2; (refine region_tail 16 (by kernel_rfl) (by kernel_rfl) ?_; simp only [List.take_succ_cons, List.take_zero, List.drop_succ_cons, List.drop_zero]; (repeat still_step); refine wpStill_nil ?_); go_wp2)
  rw [rounds_succ]
  go_wp2
  go_returns
  exact ⟨rfl, by (repeat (with_reducible first | exact Ex.refl _ _ | assumption | refine Ex.alloc ?_ _ | refine Ex.drew ?_ | refine Ex.drewN ?_ _ | refine Ex.setCell ?_ (by first | (left; simp; done) | (right; simp; done) | (right; simp; omega)) _ | refine Ex.trans ?_ (by assumption)))⟩

set_option maxHeartbeats 400000 in
theorem broken1_c (n : Int) (w : World) : Calls Try.prog 92 #[.int .i64 n] w (Ret (.bool (decide (n < 0))) w) := by
  go_enter Try.func92, Try.ntmps92
  go_wp2
  go_returns
  exact ⟨rfl, Ex.refl _ _⟩
set_option maxHeartbeats 400000 in
theorem broken_c (m : Mar) (w : World) : Calls Try.prog 61 #[.agg #[.int .i64 m.m0, .int .i64 m.m1, .int .i64 m.m2, .int .i64 m.m3, .int .i64 m.m4, .int .i64 m.m5, .int .i64 m.m6, .int .i64 m.m7]] w (Ret (.int .i64 (brokenM m)) w) := by
  go_enter Try.func61, Try.ntmps61
  go_wp2_with fail
  refine (indexFuncI_c (fun n => decide (n < 0)) 92 #[] _ _ m.list _ (Sl.block (blk_new _ _) (by simp [Mar.list]) ?_) (fun x _ w _ => broken1_c _ _) (fun w x => by kernel_rfl)).mono ?_
  · intro i hi j v hv
    match i, hi, j with
    | 0, _, 0 | 1, _, 0 | 2, _, 0 | 3, _, 0 | 4, _, 0 | 5, _, 0 | 6, _, 0 | 7, _, 0 => exact hv
    | _, _, j + 1 => simp [intCells] at hv
    | i + 8, hi, 0 => simp [Mar.list] at hi; omega
  rintro e w1 ⟨rfl, hE1⟩
  go_wp2_with fail
  go_returns
  exact ⟨rfl, ((Ex.refl _ _).alloc _).trans hE1⟩
end Go.Proofs.Ytojnpaenpaobcaa
