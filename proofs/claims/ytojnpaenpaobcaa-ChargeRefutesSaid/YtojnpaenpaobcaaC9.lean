/- Fits. No condition. -/
import Derived.Test.YtojnpaenpaobcaaC8
namespace Go.Proofs.Ytojnpaenpaobcaa
open Go.RowKit

def fitsK (p : Recipe) (counts : List Int) : Int := if weighE p counts = 0 then brokenM (plusM (baseM p) (ofM p (weighM p.lots counts)) 1) else 0
theorem weighP_ok {p : Recipe} {counts : List Int} (h : weighE p counts = 0) : weighP p counts = weighM p.lots counts := if_pos h

set_option maxHeartbeats 4000000 in
theorem fits_c (p : Recipe) (counts : List Int) (a c : Option Addr) (cap cap' : Nat) (w : World) (hs : SlL w a cap p.lots) (hc : SlI w c cap' counts) :
    Calls Try.prog 17 #[.agg #[.slice a p.lots.length cap, .int .i64 p.mass.lo, .int .i64 p.mass.hi, .int .i64 p.target.a.lo, .int .i64 p.target.a.hi, .int .i64 p.target.b.lo, .int .i64 p.target.b.hi, .int .i64 p.target.c.lo, .int .i64 p.target.c.hi], .slice c counts.length cap'] w (Ret (.tuple #[.int .i64 (fitsK p counts), .int .i64 (weighE p counts)]) w) := by
  go_enter Try.func17, Try.ntmps17
  go_upto_region 1 with (fail)
  refine wp_at (fun W => Ext w W ∧ w.heap.size + 1 = W.heap.size ∧ W.heap[w.heap.size]? = some (.cells #[.slice a p.lots.length cap, .int .i64 p.mass.lo, .int .i64 p.mass.hi, .int .i64 p.target.a.lo, .int .i64 p.target.a.hi, .int .i64 p.target.b.lo, .int .i64 p.target.b.hi, .int .i64 p.target.c.lo, .int .i64 p.target.c.hi] 28 (0, 0))) ⟨by (repeat (with_reducible first | exact Ex.refl _ _ | assumption | refine Ex.alloc ?_ _ | refine Ex.drew ?_ | refine Ex.drewN ?_ _ | refine Ex.setCell ?_ (by first | (left; simp; done) | (right; simp; done) | (right; simp; omega)) _ | refine Ex.trans ?_ (by assumption))), by simp, blk_new _ _⟩ (fun W hW => ?_)
  obtain ⟨hr0, hsz, hB0⟩ := hW
  have hr : Ex [] W W := Ex.refl _ _
  have f0_0 := cellE (S := []) hB0 (by first | (simp; done) | (simp; omega)) 0 rfl
  have f0_1 := cellE (S := []) hB0 (by first | (simp; done) | (simp; omega)) 1 rfl
  have f0_2 := cellE (S := []) hB0 (by first | (simp; done) | (simp; omega)) 2 rfl
  have f0_3 := cellE (S := []) hB0 (by first | (simp; done) | (simp; omega)) 3 rfl
  have f0_4 := cellE (S := []) hB0 (by first | (simp; done) | (simp; omega)) 4 rfl
  have f0_5 := cellE (S := []) hB0 (by first | (simp; done) | (simp; omega)) 5 rfl
  have f0_6 := cellE (S := []) hB0 (by first | (simp; done) | (simp; omega)) 6 rfl
  have f0_7 := cellE (S := []) hB0 (by first | (simp; done) | (simp; omega)) 7 rfl
  have f0_8 := cellE (S := []) hB0 (by first | (simp; done) | (simp; omega)) 8 rfl
  clear hB0
  have hsz' := Nat.le_of_eq hsz.symm; have hsz'' := Nat.le_of_eq hsz; clear hsz
  cases hb0 : (weighE p counts != 0)
  case true =>
    have hq : ¬ weighE p counts = 0 := (by simpa using hb0)
    go_wp2_with (first | (go_at_call 16; refine (Weigh_c p counts _ _ _ _ _ (hs.ext hr0) (hc.ext hr0)).mono ?_; rintro e w1 ⟨rfl, h1⟩; replace h1 : Ex [] W w1 := Ex.trans (by first | (with_reducible assumption) | (repeat (with_reducible first | exact Ex.refl _ _ | assumption | refine Ex.alloc ?_ _ | refine Ex.drew ?_ | refine Ex.drewN ?_ _ | refine Ex.setCell ?_ (by first | (left; simp; done) | (right; simp; done) | (right; simp; omega)) _ | refine Ex.trans ?_ (by assumption)))) (h1.ex _)))
    go_returns
    exact ⟨by simp [fitsK, hq], by (repeat (with_reducible first | exact Ex.refl _ _ | assumption | exact Ex.trans hr0 (by assumption) | refine Ex.alloc ?_ _ | refine Ex.drew ?_ | refine Ex.drewN ?_ _ | refine Ex.setCell ?_ (by first | (left; simp; done) | (right; simp; done) | (right; simp; omega)) _ | refine Ex.trans ?_ (by assumption)))⟩
  case false =>
    have hq : weighE p counts = 0 := (by simpa using hb0)
    have hq' := Lib.hid hq; clear hq
    go_upto_region 2 with (first | (go_at_call 16; refine (Weigh_c p counts _ _ _ _ _ (hs.ext hr0) (hc.ext hr0)).mono ?_; rintro e w1 ⟨rfl, h1⟩; replace h1 : Ex [] W w1 := Ex.trans (by first | (with_reducible assumption) | (repeat (with_reducible first | exact Ex.refl _ _ | assumption | refine Ex.alloc ?_ _ | refine Ex.drew ?_ | refine Ex.drewN ?_ _ | refine Ex.setCell ?_ (by first | (left; simp; done) | (right; simp; done) | (right; simp; omega)) _ | refine Ex.trans ?_ (by assumption)))) (h1.ex _)))
    refine wp_at (fun X => Ext W X ∧ X.heap[w1.heap.size]? = some (.cells #[.int .i64 ((weighP p counts).mass), .int .i64 ((weighP p counts).con.a.lo), .int .i64 ((weighP p counts).con.a.hi), .int .i64 ((weighP p counts).con.b.lo), .int .i64 ((weighP p counts).con.b.hi), .int .i64 ((weighP p counts).con.c.lo), .int .i64 ((weighP p counts).con.c.hi)] 36 (0, 0))) ⟨by (repeat (with_reducible first | exact Ex.refl _ _ | assumption | refine Ex.alloc ?_ _ | refine Ex.drew ?_ | refine Ex.drewN ?_ _ | refine Ex.setCell ?_ (by first | (left; simp; done) | (right; simp; done) | (right; simp; omega)) _ | refine Ex.trans ?_ (by assumption))), blk_new _ _⟩ (fun X hX => ?_)
    obtain ⟨hX1, hX2⟩ := hX
    have g0 := hr0.trans hX1
    replace f0_0 := fun w' (h : Ex [] X w') => f0_0 w' (hX1.trans (h.mono (by simp)))
    replace f0_1 := fun w' (h : Ex [] X w') => f0_1 w' (hX1.trans (h.mono (by simp)))
    replace f0_2 := fun w' (h : Ex [] X w') => f0_2 w' (hX1.trans (h.mono (by simp)))
    replace f0_3 := fun w' (h : Ex [] X w') => f0_3 w' (hX1.trans (h.mono (by simp)))
    replace f0_4 := fun w' (h : Ex [] X w') => f0_4 w' (hX1.trans (h.mono (by simp)))
    replace f0_5 := fun w' (h : Ex [] X w') => f0_5 w' (hX1.trans (h.mono (by simp)))
    replace f0_6 := fun w' (h : Ex [] X w') => f0_6 w' (hX1.trans (h.mono (by simp)))
    replace f0_7 := fun w' (h : Ex [] X w') => f0_7 w' (hX1.trans (h.mono (by simp)))
    replace f0_8 := fun w' (h : Ex [] X w') => f0_8 w' (hX1.trans (h.mono (by simp)))
    have q_0 := cellE (S := []) hX2 (by first | (simp; done) | (simp; omega)) 0 rfl
    have q_1 := cellE (S := []) hX2 (by first | (simp; done) | (simp; omega)) 1 rfl
    have q_2 := cellE (S := []) hX2 (by first | (simp; done) | (simp; omega)) 2 rfl
    have q_3 := cellE (S := []) hX2 (by first | (simp; done) | (simp; omega)) 3 rfl
    have q_4 := cellE (S := []) hX2 (by first | (simp; done) | (simp; omega)) 4 rfl
    have q_5 := cellE (S := []) hX2 (by first | (simp; done) | (simp; omega)) 5 rfl
    have q_6 := cellE (S := []) hX2 (by first | (simp; done) | (simp; omega)) 6 rfl
    have hrX : Ex [] X X := Ex.refl _ _
    clear hX2 hX1 hr hr0 h1
    go_wp2_with fail
    go_region_held3 (fun w' => Ex [] X w') (first | exact Ex.drew (by with_reducible assumption) | (with_reducible assumption)) (first | (go_at_call 58; refine (base_c p _ _ _).mono ?_; rintro e w1 ⟨rfl, h1⟩; replace h1 : Ex [] X w1 := Ex.trans (by first | (with_reducible assumption) | (repeat (with_reducible first | exact Ex.refl _ _ | assumption | refine Ex.alloc ?_ _ | refine Ex.drew ?_ | refine Ex.drewN ?_ _ | refine Ex.setCell ?_ (by first | (left; simp; done) | (right; simp; done) | (right; simp; omega)) _ | refine Ex.trans ?_ (by assumption)))) (h1.ex _)) | (go_at_call 60; refine (of_c p (weighP p counts) _ _ _).mono ?_; rintro e w1 ⟨rfl, h1⟩; replace h1 : Ex [] X w1 := Ex.trans (by first | (with_reducible assumption) | (repeat (with_reducible first | exact Ex.refl _ _ | assumption | refine Ex.alloc ?_ _ | refine Ex.drew ?_ | refine Ex.drewN ?_ _ | refine Ex.setCell ?_ (by first | (left; simp; done) | (right; simp; done) | (right; simp; omega)) _ | refine Ex.trans ?_ (by assumption)))) (h1.ex _)) | (go_at_call 59; refine (plus_c (baseM p) (ofM p (weighP p counts)) 1 _).mono ?_; rintro e w1 ⟨rfl, h1⟩; replace h1 : Ex [] X w1 := Ex.trans (by first | (with_reducible assumption) | (repeat (with_reducible first | exact Ex.refl _ _ | assumption | refine Ex.alloc ?_ _ | refine Ex.drew ?_ | refine Ex.drewN ?_ _ | refine Ex.setCell ?_ (by first | (left; simp; done) | (right; simp; done) | (right; simp; omega)) _ | refine Ex.trans ?_ (by assumption)))) (h1.ex _)) | (go_at_call 61; refine (broken_c (plusM (baseM p) (ofM p (weighP p counts)) 1) _).mono ?_; rintro e w1 ⟨rfl, h1⟩; replace h1 : Ex [] X w1 := Ex.trans (by first | (with_reducible assumption) | (repeat (with_reducible first | exact Ex.refl _ _ | assumption | refine Ex.alloc ?_ _ | refine Ex.drew ?_ | refine Ex.drewN ?_ _ | refine Ex.setCell ?_ (by first | (left; simp; done) | (right; simp; done) | (right; simp; omega)) _ | refine Ex.trans ?_ (by assumption)))) (h1.ex _)))
    go_wp2
    go_returns
    exact ⟨by simp [fitsK, hq'.out, weighP_ok hq'.out], by (repeat (with_reducible first | exact Ex.refl _ _ | assumption | exact Ex.trans g0 (by assumption) | refine Ex.alloc ?_ _ | refine Ex.drew ?_ | refine Ex.drewN ?_ _ | refine Ex.setCell ?_ (by first | (left; simp; done) | (right; simp; done) | (right; simp; omega)) _ | refine Ex.trans ?_ (by assumption)))⟩
end Go.Proofs.Ytojnpaenpaobcaa
