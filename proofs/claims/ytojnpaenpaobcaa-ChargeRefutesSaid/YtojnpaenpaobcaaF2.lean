/- ChargeEither: the walk. No condition. -/
import Derived.Test.YtojnpaenpaobcaaK4
import Derived.Test.YtojnpaenpaobcaaF1
import Derived.Test.YtojnpaenpaobcaaR4
namespace Go.Proofs.Ytojnpaenpaobcaa
open Go.RowKit
attribute [local irreducible] wpYield wpPlan

theorem check_vals (p : Recipe) : checkE p = 0 ∨ checkE p = 2 ∨ checkE p = 5 := by
  unfold checkE; split
  · simp
  · split <;> simp
theorem refute_full {p : Recipe} (h : checkE p = 0) (hm : manyM p = true) : refuteE p = 8 ∧ refuteL p = [] ∧ bestE p = 8 := by
  simp [refuteE, refuteL, bestE, h, hm]
theorem refute_bad {p : Recipe} (h : checkE p ≠ 0) : refuteE p = checkE p ∧ refuteL p = [] ∧ bestE p = checkE p := by
  simp [refuteE, refuteL, bestE, h]
theorem refutes_bad {p : Recipe} (h : checkE p ≠ 0) (l : List Split) : refutesB p l = false := by simp [refutesB, h]
theorem refute_some {p : Recipe} (h : checkE p = 0) (hm : manyM p = false) (hs : (bestOf p.lots (allCharges p)).isSome = true) : refuteE p = 21 ∧ refuteL p = [] ∧ bestE p = 0 ∧ ∀ l, refutesB p l = false := by
  have h1 := either_proof h hs
  refine ⟨by simp [refuteE, h, hm, h1], by simp [refuteL, h, hm, h1], by simp [bestE, h, hm, hs], fun l => ?_⟩
  have h2 := either_some h hs l.length l
  simp only [refutesB, h, if_true, h2, Bool.false_and]
  split <;> rfl
theorem refute_none {p : Recipe} (h : checkE p = 0) (hm : manyM p = false) (hs : (bestOf p.lots (allCharges p)).isSome = false) : refuteE p = 0 ∧ refuteL p = (proofM p).1 ∧ bestE p = 20 ∧ 0 < (proofM p).1.length ∧ (proofM p).1.length < 40000 ∧ refutesB p (proofM p).1 = true := by
  obtain ⟨h1, h2, h3, h4⟩ := either_none h hm hs
  refine ⟨by simp [refuteE, h, hm, h1], by simp [refuteL, h, hm, h1], by simp [bestE, h, hm, hs], h2, h3, ?_⟩
  simp only [refutesB, h, if_true, h4, if_neg (show ¬ 40000 < (proofM p).1.length by omega)]
  rfl

set_option maxRecDepth 100000 in
set_option maxHeartbeats 8000000 in
theorem either_big_c (p : Recipe) (a : Option Addr) (cap : Nat) (proof : List Split) (pa : Option Addr) (pc : Nat) (own : Bool) (at_ x0 x1 x2 : Int) (w : World) (hs : SlL w a cap p.lots) (hp : Sl 3 Split.cells w pa pc proof) (hb : 10 < p.lots.length ∨ 60 < proof.length) : Calls Try.prog 7 #[.agg #[.slice a p.lots.length cap, .int .i64 p.mass.lo, .int .i64 p.mass.hi, .int .i64 p.target.a.lo, .int .i64 p.target.a.hi, .int .i64 p.target.b.lo, .int .i64 p.target.b.hi, .int .i64 p.target.c.lo, .int .i64 p.target.c.hi], .agg #[.slice pa proof.length pc, .bool own, .int .u8 at_, .int .i64 x0, .int .i64 x1, .int .i64 x2]] w (Ret (.bool true) w) := by
  have hle := hs.le; have hbg := hs.big; have hle2 := hp.le; have hbg2 := hp.big
  go_enter Try.func7, Try.ntmps7
  go_upto_region 1 with (fail)
  refine wp_at (fun W => Ext w W ∧ w.heap.size + 2 = W.heap.size ∧ W.heap[w.heap.size]? = some (.cells #[.slice a p.lots.length cap, .int .i64 p.mass.lo, .int .i64 p.mass.hi, .int .i64 p.target.a.lo, .int .i64 p.target.a.hi, .int .i64 p.target.b.lo, .int .i64 p.target.b.hi, .int .i64 p.target.c.lo, .int .i64 p.target.c.hi] 28 (0, 0)) ∧ W.heap[w.heap.size + 1]? = some (.cells #[.slice pa proof.length pc, .bool own, .int .u8 at_, .int .i64 x0, .int .i64 x1, .int .i64 x2] 57 (0, 0))) ⟨by (repeat (with_reducible first | exact Ex.refl _ _ | assumption | exact Ex.mono (by assumption) (by simp; done) | refine Ex.alloc ?_ _ | refine Ex.drew ?_ | refine Ex.drewN ?_ _ | refine Ex.setCell ?_ (by first | (left; simp; done) | (right; simp; done) | (right; simp; omega)) _ | refine Ex.trans ?_ (by assumption))), by simp, blk_alloc (blk_new _ _), by have h := blk_new ((w).alloc (.cells #[.slice a p.lots.length cap, .int .i64 p.mass.lo, .int .i64 p.mass.hi, .int .i64 p.target.a.lo, .int .i64 p.target.a.hi, .int .i64 p.target.b.lo, .int .i64 p.target.b.hi, .int .i64 p.target.c.lo, .int .i64 p.target.c.hi] 28 (0, 0))) (.cells #[.slice pa proof.length pc, .bool own, .int .u8 at_, .int .i64 x0, .int .i64 x1, .int .i64 x2] 57 (0, 0)); simpa using h⟩ (fun W hW => ?_)
  obtain ⟨hr0, hsz, hB0, hB1⟩ := hW
  have hr : Ex [] W W := Ex.refl _ _
  have f0_0 := cellE (S := []) hB0 (by first | (simp; done) | (simp; omega)) 0 rfl
  have f0_1 := cellE (S := []) hB0 (by first | (simp; done) | (simp; omega)) 1 rfl
  have f0_2 := cellE (S := []) hB0 (by first | (simp; done) | (simp; omega)) 2 rfl
  have f0_3 := cellE (S := []) hB0 (by first | (simp; done) | (simp; omega)) 3 rfl
  have f0_4 := cellE (S := []) hB0 (by first | (simp; done) | (simp; omega)) 4 rfl
  have f0_5 := cellE (S := []) hB0 (by first | (simp; done) | (simp; omega)) 5 rfl
  have f0_6 := cellE (S := []) hB0 (by first | (simp; done) | (simp; omega)) 6 rfl
  have f0_7 := cellE (S := []) hB0 (by first | (simp; done) | (simp; omega)) 7 rfl
  have f0_8 := cellE (S := []) hB0 (by first | (simp; done) | (simp; omega)) 8 rfl
  have f1_0 := cellE (S := []) hB1 (by first | (simp; done) | (simp; omega)) 0 rfl
  have f1_1 := cellE (S := []) hB1 (by first | (simp; done) | (simp; omega)) 1 rfl
  have f1_2 := cellE (S := []) hB1 (by first | (simp; done) | (simp; omega)) 2 rfl
  have f1_3 := cellE (S := []) hB1 (by first | (simp; done) | (simp; omega)) 3 rfl
  have f1_4 := cellE (S := []) hB1 (by first | (simp; done) | (simp; omega)) 4 rfl
  have f1_5 := cellE (S := []) hB1 (by first | (simp; done) | (simp; omega)) 5 rfl
  clear hB0 hB1
  have hsz' := Nat.le_of_eq hsz.symm; have hsz'' := Nat.le_of_eq hsz; clear hsz
  by_cases h10 : (10 : Int) < (p.lots.length : Int)
  · go_wp2_with (go_at_call 12; refine (known_c _).mono ?_; rintro e wk ⟨rfl, hk1⟩; replace hk1 : Ex [] W wk := Ex.trans (by first | (with_reducible assumption) | (repeat (with_reducible first | exact Ex.refl _ _ | assumption | exact Ex.mono (by assumption) (by simp; done) | refine Ex.alloc ?_ _ | refine Ex.drew ?_ | refine Ex.drewN ?_ _ | refine Ex.setCell ?_ (by first | (left; simp; done) | (right; simp; done) | (right; simp; omega)) _ | refine Ex.trans ?_ (by assumption)))) (hk1.ex _))
    go_returns
    exact ⟨rfl, hr0.trans hk1⟩
  · have h12 : (60 : Int) < (proof.length : Int) := by omega
    go_wp2_with (go_at_call 12; refine (known_c _).mono ?_; rintro e wk ⟨rfl, hk1⟩; replace hk1 : Ex [] W wk := Ex.trans (by first | (with_reducible assumption) | (repeat (with_reducible first | exact Ex.refl _ _ | assumption | exact Ex.mono (by assumption) (by simp; done) | refine Ex.alloc ?_ _ | refine Ex.drew ?_ | refine Ex.drewN ?_ _ | refine Ex.setCell ?_ (by first | (left; simp; done) | (right; simp; done) | (right; simp; omega)) _ | refine Ex.trans ?_ (by assumption)))) (hk1.ex _))
    go_returns
    exact ⟨rfl, hr0.trans hk1⟩
end Go.Proofs.Ytojnpaenpaobcaa
