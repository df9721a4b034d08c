/- ChargeWeighs: the walk. No condition. -/
import Derived.Test.YtojnpaenpaobcaaK4
import Derived.Test.YtojnpaenpaobcaaD3
import Derived.Test.YtojnpaenpaobcaaE1
namespace Go.Proofs.Ytojnpaenpaobcaa
open Go.RowKit
attribute [local irreducible] wpYield wpPlan

theorem weighE_a {p : Recipe} {counts : List Int} (h : checkE p ≠ 0) : weighE p counts = checkE p := by unfold weighE; rw [if_pos (by simpa using h)]
theorem weighE_b {p : Recipe} {counts : List Int} (h : checkE p = 0) (h2 : isChargeB p.lots counts = false) : weighE p counts = 3 := by unfold weighE; rw [h, h2]; rfl
theorem weighE_c {p : Recipe} {counts : List Int} (h : checkE p = 0) (h2 : isChargeB p.lots counts = true) : weighE p counts = 0 := by unfold weighE; rw [h, h2]; rfl
theorem weighP_no {p : Recipe} {counts : List Int} (h : weighE p counts ≠ 0) : weighP p counts = .zero := if_neg h
theorem fitsK_no {p : Recipe} {counts : List Int} (h : weighE p counts ≠ 0) : fitsK p counts = 0 := if_neg h

set_option maxRecDepth 100000 in
set_option maxHeartbeats 8000000 in
theorem weighs_big_c (p : Recipe) (counts : List Int) (a c : Option Addr) (cap cap' : Nat) (w : World) (hs : SlL w a cap p.lots) (hc : SlI w c cap' counts) (hb : 10 < p.lots.length ∨ 12 < counts.length) : Calls Try.prog 3 #[.agg #[.slice a p.lots.length cap, .int .i64 p.mass.lo, .int .i64 p.mass.hi, .int .i64 p.target.a.lo, .int .i64 p.target.a.hi, .int .i64 p.target.b.lo, .int .i64 p.target.b.hi, .int .i64 p.target.c.lo, .int .i64 p.target.c.hi], .slice c counts.length cap'] w (Ret (.bool true) w) := by
  have hle := hs.le; have hbg := hs.big; have hle' := hc.le; have hbg' := hc.big
  go_enter Try.func3, Try.ntmps3
  go_upto_region 1 with (fail)
  refine wp_at (fun W => Ext w W ∧ w.heap.size + 1 = W.heap.size ∧ W.heap[w.heap.size]? = some (.cells #[.slice a p.lots.length cap, .int .i64 p.mass.lo, .int .i64 p.mass.hi, .int .i64 p.target.a.lo, .int .i64 p.target.a.hi, .int .i64 p.target.b.lo, .int .i64 p.target.b.hi, .int .i64 p.target.c.lo, .int .i64 p.target.c.hi] 28 (0, 0))) ⟨by (repeat (with_reducible first | exact Ex.refl _ _ | assumption | exact Ex.mono (by assumption) (by simp; done) | refine Ex.alloc ?_ _ | refine Ex.drew ?_ | refine Ex.drewN ?_ _ | refine Ex.setCell ?_ (by first | (left; simp; done) | (right; simp; done) | (right; simp; omega)) _ | refine Ex.trans ?_ (by assumption))), by simp, blk_new _ _⟩ (fun W hW => ?_)
  obtain ⟨hr0, hsz, hB0⟩ := hW
  have hr : Ex [] W W := Ex.refl _ _
  have f0_0 := cellE (S := []) hB0 (by first | (simp; done) | (simp; omega)) 0 rfl
  have f0_1 := cellE (S := []) hB0 (by first | (simp; done) | (simp; omega)) 1 rfl
  have f0_2 := cellE (S := []) hB0 (by first | (simp; done) | (simp; omega)) 2 rfl
  have f0_3 := cellE (S := []) hB0 (by first | (simp; done) | (simp; omega)) 3 rfl
  have f0_4 := cellE (S := []) hB0 (by first | (simp; done) | (simp; omega)) 4 rfl
  have f0_5 := cellE (S := []) hB0 (by first | (simp; done) | (simp; omega)) 5 rfl
  have f0_6 := cellE (S := []) hB0 (by first | (simp; done) | (simp; omega)) 6 rfl
  have f0_7 := cellE (S := []) hB0 (by first | (simp; done) | (simp; omega)) 7 rfl
  have f0_8 := cellE (S := []) hB0 (by first | (simp; done) | (simp; omega)) 8 rfl
  clear hB0
  have hsz' := Nat.le_of_eq hsz.symm; have hsz'' := Nat.le_of_eq hsz; clear hsz
  by_cases h10 : (10 : Int) < (p.lots.length : Int)
  · go_wp2_with (go_at_call 12; refine (known_c _).mono ?_; rintro e wk ⟨rfl, hk1⟩; replace hk1 : Ex [] W wk := Ex.trans (by first | (with_reducible assumption) | (repeat (with_reducible first | exact Ex.refl _ _ | assumption | exact Ex.mono (by assumption) (by simp; done) | refine Ex.alloc ?_ _ | refine Ex.drew ?_ | refine Ex.drewN ?_ _ | refine Ex.setCell ?_ (by first | (left; simp; done) | (right; simp; done) | (right; simp; omega)) _ | refine Ex.trans ?_ (by assumption)))) (hk1.ex _))
    go_returns
    exact ⟨rfl, hr0.trans hk1⟩
  · have h12 : (12 : Int) < (counts.length : Int) := by omega
    go_wp2_with (go_at_call 12; refine (known_c _).mono ?_; rintro e wk ⟨rfl, hk1⟩; replace hk1 : Ex [] W wk := Ex.trans (by first | (with_reducible assumption) | (repeat (with_reducible first | exact Ex.refl _ _ | assumption | exact Ex.mono (by assumption) (by simp; done) | refine Ex.alloc ?_ _ | refine Ex.drew ?_ | refine Ex.drewN ?_ _ | refine Ex.setCell ?_ (by first | (left; simp; done) | (right; simp; done) | (right; simp; omega)) _ | refine Ex.trans ?_ (by assumption)))) (hk1.ex _))
    go_returns
    exact ⟨rfl, hr0.trans hk1⟩
end Go.Proofs.Ytojnpaenpaobcaa
