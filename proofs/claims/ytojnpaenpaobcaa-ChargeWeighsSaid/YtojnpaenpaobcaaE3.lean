/- ChargeWeighs: the walk, case a. No condition. -/
import Derived.Test.YtojnpaenpaobcaaE2
import Derived.Test.YtojnpaenpaobcaaEQ
namespace Go.Proofs.Ytojnpaenpaobcaa
open Go.RowKit
attribute [local irreducible] wpYield wpPlan
attribute [local go_sem] run_equalIn_bnds

set_option maxRecDepth 100000 in
set_option maxHeartbeats 8000000 in
theorem weighs_a_c (p : Recipe) (counts : List Int) (a c : Option Addr) (cap cap' : Nat) (w : World) (hs : SlL w a cap p.lots) (hc : SlI w c cap' counts) (hl : p.lots.length ≤ 10) (hcl : counts.length ≤ 12) (hq : checkE p ≠ 0) : Calls Try.prog 3 #[.agg #[.slice a p.lots.length cap, .int .i64 p.mass.lo, .int .i64 p.mass.hi, .int .i64 p.target.a.lo, .int .i64 p.target.a.hi, .int .i64 p.target.b.lo, .int .i64 p.target.b.hi, .int .i64 p.target.c.lo, .int .i64 p.target.c.hi], .slice c counts.length cap'] w (Ret (.bool true) w) := by
  have hle := hs.le; have hbg := hs.big; have hle' := hc.le; have hbg' := hc.big
  have h10 : ¬ (10 : Int) < (p.lots.length : Int) := by omega
  have h12 : ¬ (12 : Int) < (counts.length : Int) := by omega
  have hE := weighE_a (counts := counts) hq
  have hP := weighP_no (p := p) (counts := counts) (by rw [hE]; exact hq)
  have hK := fitsK_no (p := p) (counts := counts) (by rw [hE]; exact hq)
  obtain ⟨ec, hec⟩ : ∃ ec, ec = checkE p := ⟨_, rfl⟩
  have hec' := Lib.hid hec.symm
  rw [← hec] at hE hq
  have hq0 : (ec == 0) = false := by simpa using hq
  have hq1 : (ec != 0) = true := by simpa using hq
  clear hec
  have hE' := Lib.hid hE; have hP' := Lib.hid hP; have hK' := Lib.hid hK; clear hE hP hK
  go_enter Try.func3, Try.ntmps3
  go_upto_region 1 with (fail)
  refine wp_at (fun W => Ext w W ∧ w.heap.size + 1 = W.heap.size ∧ W.heap[w.heap.size]? = some (.cells #[.slice a p.lots.length cap, .int .i64 p.mass.lo, .int .i64 p.mass.hi, .int .i64 p.target.a.lo, .int .i64 p.target.a.hi, .int .i64 p.target.b.lo, .int .i64 p.target.b.hi, .int .i64 p.target.c.lo, .int .i64 p.target.c.hi] 28 (0, 0))) ⟨by (repeat (with_reducible first | exact Ex.refl _ _ | assumption | exact Ex.mono (by assumption) (by simp; done) | refine Ex.alloc ?_ _ | refine Ex.drew ?_ | refine Ex.drewN ?_ _ | refine Ex.setCell ?_ (by first | (left; simp; done) | (right; simp; done) | (right; simp; omega)) _ | refine Ex.trans ?_ (by assumption))), by simp, blk_new _ _⟩ (fun W hW => ?_)
  obtain ⟨hr0, hsz, hB0⟩ := hW
  have hr : Ex [] W W := Ex.refl _ _
  have f0_0 := cellE (S := []) hB0 (by first | (simp; done) | (simp; omega)) 0 rfl
  have f0_1 := cellE (S := []) hB0 (by first | (simp; done) | (simp; omega)) 1 rfl
  have f0_2 := cellE (S := []) hB0 (by first | (simp; done) | (simp; omega)) 2 rfl
  have f0_3 := cellE (S := []) hB0 (by first | (simp; done) | (simp; omega)) 3 rfl
  have f0_4 := cellE (S := []) hB0 (by first | (simp; done) | (simp; omega)) 4 rfl
  have f0_5 := cellE (S := []) hB0 (by first | (simp; done) | (simp; omega)) 5 rfl
  have f0_6 := cellE (S := []) hB0 (by first | (simp; done) | (simp; omega)) 6 rfl
  have f0_7 := cellE (S := []) hB0 (by first | (simp; done) | (simp; omega)) 7 rfl
  have f0_8 := cellE (S := []) hB0 (by first | (simp; done) | (simp; omega)) 8 rfl
  clear hB0
  have hsz' := Nat.le_of_eq hsz.symm; have hsz'' := Nat.le_of_eq hsz; clear hsz
  go_upto_region 4 with (first | (go_at_call 13; refine (own_c p a cap _ (hs.ext (hr0.trans (by first | (with_reducible assumption) | (repeat (with_reducible first | exact Ex.refl _ _ | assumption | exact Ex.mono (by assumption) (by simp; done) | refine Ex.alloc ?_ _ | refine Ex.drew ?_ | refine Ex.drewN ?_ _ | refine Ex.setCell ?_ (by first | (left; simp; done) | (right; simp; done) | (right; simp; omega)) _ | refine Ex.trans ?_ (by assumption)))))) (by omega)).mono ?_; rintro e w1 ⟨a', c', rfl, hO1, h1⟩; replace h1 : Ex [] W w1 := Ex.trans (by first | (with_reducible assumption) | (repeat (with_reducible first | exact Ex.refl _ _ | assumption | exact Ex.mono (by assumption) (by simp; done) | refine Ex.alloc ?_ _ | refine Ex.drew ?_ | refine Ex.drewN ?_ _ | refine Ex.setCell ?_ (by first | (left; simp; done) | (right; simp; done) | (right; simp; omega)) _ | refine Ex.trans ?_ (by assumption)))) (h1.ex _)) | (go_at_call 14; refine (lawInts_c c cap' counts _ (hc.ext (hr0.trans (by first | (with_reducible assumption) | (repeat (with_reducible first | exact Ex.refl _ _ | assumption | exact Ex.mono (by assumption) (by simp; done) | refine Ex.alloc ?_ _ | refine Ex.drew ?_ | refine Ex.drewN ?_ _ | refine Ex.setCell ?_ (by first | (left; simp; done) | (right; simp; done) | (right; simp; omega)) _ | refine Ex.trans ?_ (by assumption)))))) (by omega)).mono ?_; rintro e w2 ⟨a2, c2, rfl, hO2, h2⟩; replace hO1 := hO1.ext h2; replace h2 : Ex [] W w2 := Ex.trans (by first | (with_reducible assumption) | (repeat (with_reducible first | exact Ex.refl _ _ | assumption | exact Ex.mono (by assumption) (by simp; done) | refine Ex.alloc ?_ _ | refine Ex.drew ?_ | refine Ex.drewN ?_ _ | refine Ex.setCell ?_ (by first | (left; simp; done) | (right; simp; done) | (right; simp; omega)) _ | refine Ex.trans ?_ (by assumption)))) (h2.ex _)))
  refine wp_at (fun X => Ex [] w2 X ∧ X.heap[w2.heap.size]? = some (.cells #[.slice a' p.lots.length c', .int .i64 p.mass.lo, .int .i64 p.mass.hi, .int .i64 p.target.a.lo, .int .i64 p.target.a.hi, .int .i64 p.target.b.lo, .int .i64 p.target.b.hi, .int .i64 p.target.c.lo, .int .i64 p.target.c.hi] 28 (0, 0))) ⟨by (repeat (with_reducible first | exact Ex.refl _ _ | assumption | exact Ex.mono (by assumption) (by simp; done) | refine Ex.alloc ?_ _ | refine Ex.drew ?_ | refine Ex.drewN ?_ _ | refine Ex.setCell ?_ (by first | (left; simp; done) | (right; simp; done) | (right; simp; omega)) _ | refine Ex.trans ?_ (by assumption))), blk_new _ _⟩ (fun X hX => ?_)
  obtain ⟨hX, hT⟩ := hX
  have hWX := h2.trans hX
  have hwX : Ex [] w X := hr0.trans hWX
  have hrX : Ex [] X X := Ex.refl _ _
  have hsI := (hO1.toSl Lot.len).ext hX
  have hsL := (hO2.toSl intCells_len).ext hX
  have hsX := hs.ext hwX
  have hcX := hc.ext hwX
  have hi1 := hsI.le; have hi2 := hsI.big; have hl1 := hsL.le; have hl2 := hsL.big
  obtain ⟨bi, hbi⟩ : ∃ b, b = w2.heap.size := ⟨_, rfl⟩
  rw [← hbi] at hT ⊢
  clear hbi
  have t0 := cellE (S := []) hT (by simp) 0 rfl
  have t1 := cellE (S := []) hT (by simp) 1 rfl
  have t2 := cellE (S := []) hT (by simp) 2 rfl
  have t3 := cellE (S := []) hT (by simp) 3 rfl
  have t4 := cellE (S := []) hT (by simp) 4 rfl
  have t5 := cellE (S := []) hT (by simp) 5 rfl
  have t6 := cellE (S := []) hT (by simp) 6 rfl
  have t7 := cellE (S := []) hT (by simp) 7 rfl
  have t8 := cellE (S := []) hT (by simp) 8 rfl
  replace f0_0 := fun w' (h : Ex [] X w') => f0_0 w' (hWX.trans h)
  replace f0_1 := fun w' (h : Ex [] X w') => f0_1 w' (hWX.trans h)
  replace f0_2 := fun w' (h : Ex [] X w') => f0_2 w' (hWX.trans h)
  replace f0_3 := fun w' (h : Ex [] X w') => f0_3 w' (hWX.trans h)
  replace f0_4 := fun w' (h : Ex [] X w') => f0_4 w' (hWX.trans h)
  replace f0_5 := fun w' (h : Ex [] X w') => f0_5 w' (hWX.trans h)
  replace f0_6 := fun w' (h : Ex [] X w') => f0_6 w' (hWX.trans h)
  replace f0_7 := fun w' (h : Ex [] X w') => f0_7 w' (hWX.trans h)
  replace f0_8 := fun w' (h : Ex [] X w') => f0_8 w' (hWX.trans h)
  clear hO1 hO2 h1 h2 hX hT hs hc hr0 hr
  go_upto_region 6 with (first | (go_at_call 15; refine (check_c p a' c' _ (hsI.ext (by first | (with_reducible assumption) | (repeat (with_reducible first | exact Ex.refl _ _ | assumption | exact Ex.mono (by assumption) (by simp; done) | refine Ex.alloc ?_ _ | refine Ex.drew ?_ | refine Ex.drewN ?_ _ | refine Ex.setCell ?_ (by first | (left; simp; done) | (right; simp; done) | (right; simp; omega)) _ | refine Ex.trans ?_ (by assumption)))))).mono ?_; rintro e w1 ⟨he, h1⟩; rw [hec'.out] at he; subst he; replace h1 : Ex [] X w1 := Ex.trans (by first | (with_reducible assumption) | (repeat (with_reducible first | exact Ex.refl _ _ | assumption | exact Ex.mono (by assumption) (by simp; done) | refine Ex.alloc ?_ _ | refine Ex.drew ?_ | refine Ex.drewN ?_ _ | refine Ex.setCell ?_ (by first | (left; simp; done) | (right; simp; done) | (right; simp; omega)) _ | refine Ex.trans ?_ (by assumption)))) (h1.ex _)) | (go_at_call 16; refine (Weigh_c p counts a' a2 c' c2 _ (hsI.ext (by first | (with_reducible assumption) | (repeat (with_reducible first | exact Ex.refl _ _ | assumption | exact Ex.mono (by assumption) (by simp; done) | refine Ex.alloc ?_ _ | refine Ex.drew ?_ | refine Ex.drewN ?_ _ | refine Ex.setCell ?_ (by first | (left; simp; done) | (right; simp; done) | (right; simp; omega)) _ | refine Ex.trans ?_ (by assumption))))) (hsL.ext (by first | (with_reducible assumption) | (repeat (with_reducible first | exact Ex.refl _ _ | assumption | exact Ex.mono (by assumption) (by simp; done) | refine Ex.alloc ?_ _ | refine Ex.drew ?_ | refine Ex.drewN ?_ _ | refine Ex.setCell ?_ (by first | (left; simp; done) | (right; simp; done) | (right; simp; omega)) _ | refine Ex.trans ?_ (by assumption)))))).mono ?_; rintro e w1 ⟨he, h1⟩; rw [hE'.out, hP'.out] at he; replace he : e = .returned (.tuple #[.agg #[.int .i64 0, .int .i64 0, .int .i64 0, .int .i64 0, .int .i64 0, .int .i64 0, .int .i64 0], .int .i64 ec]) := he; subst he; replace h1 : Ex [] X w1 := Ex.trans (by first | (with_reducible assumption) | (repeat (with_reducible first | exact Ex.refl _ _ | assumption | exact Ex.mono (by assumption) (by simp; done) | refine Ex.alloc ?_ _ | refine Ex.drew ?_ | refine Ex.drewN ?_ _ | refine Ex.setCell ?_ (by first | (left; simp; done) | (right; simp; done) | (right; simp; omega)) _ | refine Ex.trans ?_ (by assumption)))) (h1.ex _)))
  refine wp_at (fun Y => Ex [] X Y ∧ ∃ bx, bx = w1.heap.size ∧ Y.heap[bx]? = some (.cells #[.int .i64 0, .int .i64 0, .int .i64 0, .int .i64 0, .int .i64 0, .int .i64 0, .int .i64 0] 36 (0, 0))) ⟨by (repeat (with_reducible first | exact Ex.refl _ _ | assumption | exact Ex.mono (by assumption) (by simp; done) | refine Ex.alloc ?_ _ | refine Ex.drew ?_ | refine Ex.drewN ?_ _ | refine Ex.setCell ?_ (by first | (left; simp; done) | (right; simp; done) | (right; simp; omega)) _ | refine Ex.trans ?_ (by assumption))), _, rfl, blk_new _ _⟩ (fun Y hY => ?_)
  obtain ⟨hXY, bx, hbx, hB⟩ := hY
  rw [← hbx]
  clear hbx h1
  have hrY : Ex [] Y Y := Ex.refl _ _
  have hwY : Ex [] w Y := hwX.trans hXY
  have x0 := cellE (S := []) hB (by simp) 0 rfl
  have x1 := cellE (S := []) hB (by simp) 1 rfl
  have x2 := cellE (S := []) hB (by simp) 2 rfl
  have x3 := cellE (S := []) hB (by simp) 3 rfl
  have x4 := cellE (S := []) hB (by simp) 4 rfl
  have x5 := cellE (S := []) hB (by simp) 5 rfl
  have x6 := cellE (S := []) hB (by simp) 6 rfl
  replace f0_0 := fun w' (h : Ex [] Y w') => f0_0 w' (hXY.trans h)
  replace f0_1 := fun w' (h : Ex [] Y w') => f0_1 w' (hXY.trans h)
  replace f0_2 := fun w' (h : Ex [] Y w') => f0_2 w' (hXY.trans h)
  replace f0_3 := fun w' (h : Ex [] Y w') => f0_3 w' (hXY.trans h)
  replace f0_4 := fun w' (h : Ex [] Y w') => f0_4 w' (hXY.trans h)
  replace f0_5 := fun w' (h : Ex [] Y w') => f0_5 w' (hXY.trans h)
  replace f0_6 := fun w' (h : Ex [] Y w') => f0_6 w' (hXY.trans h)
  replace f0_7 := fun w' (h : Ex [] Y w') => f0_7 w' (hXY.trans h)
  replace f0_8 := fun w' (h : Ex [] Y w') => f0_8 w' (hXY.trans h)
  replace t0 := fun w' (h : Ex [] Y w') => t0 w' (hXY.trans h)
  replace t1 := fun w' (h : Ex [] Y w') => t1 w' (hXY.trans h)
  replace t2 := fun w' (h : Ex [] Y w') => t2 w' (hXY.trans h)
  replace t3 := fun w' (h : Ex [] Y w') => t3 w' (hXY.trans h)
  replace t4 := fun w' (h : Ex [] Y w') => t4 w' (hXY.trans h)
  replace t5 := fun w' (h : Ex [] Y w') => t5 w' (hXY.trans h)
  replace t6 := fun w' (h : Ex [] Y w') => t6 w' (hXY.trans h)
  replace t7 := fun w' (h : Ex [] Y w') => t7 w' (hXY.trans h)
  replace t8 := fun w' (h : Ex [] Y w') => t8 w' (hXY.trans h)
  replace hsI := hsI.ext hXY
  replace hsL := hsL.ext hXY
  replace hsX := hsX.ext hXY
  replace hcX := hcX.ext hXY
  clear hB hrX hwX hWX hXY
  go_wp2_with (first | (go_at_call 17; refine (fits_c p counts a' a2 c' c2 _ (hsI.ext (by first | (with_reducible assumption) | (repeat (with_reducible first | exact Ex.refl _ _ | assumption | exact Ex.mono (by assumption) (by simp; done) | refine Ex.alloc ?_ _ | refine Ex.drew ?_ | refine Ex.drewN ?_ _ | refine Ex.setCell ?_ (by first | (left; simp; done) | (right; simp; done) | (right; simp; omega)) _ | refine Ex.trans ?_ (by assumption))))) (hsL.ext (by first | (with_reducible assumption) | (repeat (with_reducible first | exact Ex.refl _ _ | assumption | exact Ex.mono (by assumption) (by simp; done) | refine Ex.alloc ?_ _ | refine Ex.drew ?_ | refine Ex.drewN ?_ _ | refine Ex.setCell ?_ (by first | (left; simp; done) | (right; simp; done) | (right; simp; omega)) _ | refine Ex.trans ?_ (by assumption)))))).mono ?_; rintro e w1 ⟨he, h1⟩; rw [hE'.out, hK'.out] at he; subst he; replace h1 : Ex [] Y w1 := Ex.trans (by first | (with_reducible assumption) | (repeat (with_reducible first | exact Ex.refl _ _ | assumption | exact Ex.mono (by assumption) (by simp; done) | refine Ex.alloc ?_ _ | refine Ex.drew ?_ | refine Ex.drewN ?_ _ | refine Ex.setCell ?_ (by first | (left; simp; done) | (right; simp; done) | (right; simp; omega)) _ | refine Ex.trans ?_ (by assumption)))) (h1.ex _)) | (go_at_call 18; refine (refCheck_c p a cap _ (hsX.ext (by first | (with_reducible assumption) | (repeat (with_reducible first | exact Ex.refl _ _ | assumption | exact Ex.mono (by assumption) (by simp; done) | refine Ex.alloc ?_ _ | refine Ex.drew ?_ | refine Ex.drewN ?_ _ | refine Ex.setCell ?_ (by first | (left; simp; done) | (right; simp; done) | (right; simp; omega)) _ | refine Ex.trans ?_ (by assumption)))))).mono ?_; rintro e w1 ⟨he, h1⟩; rw [hec'.out] at he; subst he; replace h1 : Ex [] Y w1 := Ex.trans (by first | (with_reducible assumption) | (repeat (with_reducible first | exact Ex.refl _ _ | assumption | exact Ex.mono (by assumption) (by simp; done) | refine Ex.alloc ?_ _ | refine Ex.drew ?_ | refine Ex.drewN ?_ _ | refine Ex.setCell ?_ (by first | (left; simp; done) | (right; simp; done) | (right; simp; omega)) _ | refine Ex.trans ?_ (by assumption)))) (h1.ex _)) | (go_at_call 19; refine (sameInts_c counts counts a2 c c2 cap' _ (hsL.ext (by first | (with_reducible assumption) | (repeat (with_reducible first | exact Ex.refl _ _ | assumption | exact Ex.mono (by assumption) (by simp; done) | refine Ex.alloc ?_ _ | refine Ex.drew ?_ | refine Ex.drewN ?_ _ | refine Ex.setCell ?_ (by first | (left; simp; done) | (right; simp; done) | (right; simp; omega)) _ | refine Ex.trans ?_ (by assumption))))) (hcX.ext (by first | (with_reducible assumption) | (repeat (with_reducible first | exact Ex.refl _ _ | assumption | exact Ex.mono (by assumption) (by simp; done) | refine Ex.alloc ?_ _ | refine Ex.drew ?_ | refine Ex.drewN ?_ _ | refine Ex.setCell ?_ (by first | (left; simp; done) | (right; simp; done) | (right; simp; omega)) _ | refine Ex.trans ?_ (by assumption)))))).mono ?_; rintro e w1 ⟨he, h1⟩; rw [show sameI counts counts = true from by simp [sameI]] at he; subst he; replace h1 : Ex [] Y w1 := Ex.trans (by first | (with_reducible assumption) | (repeat (with_reducible first | exact Ex.refl _ _ | assumption | exact Ex.mono (by assumption) (by simp; done) | refine Ex.alloc ?_ _ | refine Ex.drew ?_ | refine Ex.drewN ?_ _ | refine Ex.setCell ?_ (by first | (left; simp; done) | (right; simp; done) | (right; simp; omega)) _ | refine Ex.trans ?_ (by assumption)))) (h1.ex _)))
  go_loopg [13] (p.lots.length) (fun g i wr => ∃ (k : Nat), g = p.lots.length - k ∧ k ≤ p.lots.length ∧ i = .int .i64 k ∧ Ex [] Y wr)
  case atStart => exact ⟨0, rfl, by omega, rfl, by first | (with_reducible assumption) | (repeat (with_reducible first | exact Ex.refl _ _ | assumption | exact Ex.mono (by assumption) (by simp; done) | refine Ex.alloc ?_ _ | refine Ex.drew ?_ | refine Ex.drewN ?_ _ | refine Ex.setCell ?_ (by first | (left; simp; done) | (right; simp; done) | (right; simp; omega)) _ | refine Ex.trans ?_ (by assumption)))⟩
  case round =>
    clear h1
    obtain ⟨k, rfl, hk, rfl, hE⟩ := hrel
    by_cases hlt : k < p.lots.length
    · have hk0 : (0 : Int) ≤ (k : Int) := by omega
      have hk1 : (k : Int) < (p.lots.length : Int) := by omega
      obtain ⟨b2, off2, rfl, hbw2, hss⟩ := hsX.cells (by omega)
      obtain ⟨b3, off3, rfl, hbw3, hcc⟩ := hsI.cells (by omega)
      have l0 : ∀ w', Ex [] wr w' → w'.cell? ⟨b2, off2 + k * 9, none⟩ = some (.int .i64 ((nth p.lots .zero k).count)) := fun w' h => by
        have := (hE.trans h).cell (by simp) (hss k hlt 0 _ rfl)
        rwa [Nat.add_zero, nth_eq p.lots .zero] at this
      have m0 : ∀ w', Ex [] wr w' → w'.cell? ⟨b3, off3 + k * 9, none⟩ = some (.int .i64 ((nth p.lots .zero k).count)) := fun w' h => by
        have := (hE.trans h).cell (by simp) (hcc k hlt 0 _ rfl)
        rwa [Nat.add_zero, nth_eq p.lots .zero] at this
      have l1 : ∀ w', Ex [] wr w' → w'.cell? ⟨b2, off2 + k * 9 + 1, none⟩ = some (.int .i64 ((nth p.lots .zero k).mass)) := fun w' h => by
        have := (hE.trans h).cell (by simp) (hss k hlt 1 _ rfl)
        rwa [nth_eq p.lots .zero] at this
      have m1 : ∀ w', Ex [] wr w' → w'.cell? ⟨b3, off3 + k * 9 + 1, none⟩ = some (.int .i64 ((nth p.lots .zero k).mass)) := fun w' h => by
        have := (hE.trans h).cell (by simp) (hcc k hlt 1 _ rfl)
        rwa [nth_eq p.lots .zero] at this
      have l2 : ∀ w', Ex [] wr w' → w'.cell? ⟨b2, off2 + k * 9 + 2, none⟩ = some (.int .i64 ((nth p.lots .zero k).con.a.lo)) := fun w' h => by
        have := (hE.trans h).cell (by simp) (hss k hlt 2 _ rfl)
        rwa [nth_eq p.lots .zero] at this
      have m2 : ∀ w', Ex [] wr w' → w'.cell? ⟨b3, off3 + k * 9 + 2, none⟩ = some (.int .i64 ((nth p.lots .zero k).con.a.lo)) := fun w' h => by
        have := (hE.trans h).cell (by simp) (hcc k hlt 2 _ rfl)
        rwa [nth_eq p.lots .zero] at this
      have l3 : ∀ w', Ex [] wr w' → w'.cell? ⟨b2, off2 + k * 9 + 3, none⟩ = some (.int .i64 ((nth p.lots .zero k).con.a.hi)) := fun w' h => by
        have := (hE.trans h).cell (by simp) (hss k hlt 3 _ rfl)
        rwa [nth_eq p.lots .zero] at this
      have m3 : ∀ w', Ex [] wr w' → w'.cell? ⟨b3, off3 + k * 9 + 3, none⟩ = some (.int .i64 ((nth p.lots .zero k).con.a.hi)) := fun w' h => by
        have := (hE.trans h).cell (by simp) (hcc k hlt 3 _ rfl)
        rwa [nth_eq p.lots .zero] at this
      have l4 : ∀ w', Ex [] wr w' → w'.cell? ⟨b2, off2 + k * 9 + 4, none⟩ = some (.int .i64 ((nth p.lots .zero k).con.b.lo)) := fun w' h => by
        have := (hE.trans h).cell (by simp) (hss k hlt 4 _ rfl)
        rwa [nth_eq p.lots .zero] at this
      have m4 : ∀ w', Ex [] wr w' → w'.cell? ⟨b3, off3 + k * 9 + 4, none⟩ = some (.int .i64 ((nth p.lots .zero k).con.b.lo)) := fun w' h => by
        have := (hE.trans h).cell (by simp) (hcc k hlt 4 _ rfl)
        rwa [nth_eq p.lots .zero] at this
      have l5 : ∀ w', Ex [] wr w' → w'.cell? ⟨b2, off2 + k * 9 + 5, none⟩ = some (.int .i64 ((nth p.lots .zero k).con.b.hi)) := fun w' h => by
        have := (hE.trans h).cell (by simp) (hss k hlt 5 _ rfl)
        rwa [nth_eq p.lots .zero] at this
      have m5 : ∀ w', Ex [] wr w' → w'.cell? ⟨b3, off3 + k * 9 + 5, none⟩ = some (.int .i64 ((nth p.lots .zero k).con.b.hi)) := fun w' h => by
        have := (hE.trans h).cell (by simp) (hcc k hlt 5 _ rfl)
        rwa [nth_eq p.lots .zero] at this
      have l6 : ∀ w', Ex [] wr w' → w'.cell? ⟨b2, off2 + k * 9 + 6, none⟩ = some (.int .i64 ((nth p.lots .zero k).con.c.lo)) := fun w' h => by
        have := (hE.trans h).cell (by simp) (hss k hlt 6 _ rfl)
        rwa [nth_eq p.lots .zero] at this
      have m6 : ∀ w', Ex [] wr w' → w'.cell? ⟨b3, off3 + k * 9 + 6, none⟩ = some (.int .i64 ((nth p.lots .zero k).con.c.lo)) := fun w' h => by
        have := (hE.trans h).cell (by simp) (hcc k hlt 6 _ rfl)
        rwa [nth_eq p.lots .zero] at this
      have l7 : ∀ w', Ex [] wr w' → w'.cell? ⟨b2, off2 + k * 9 + 7, none⟩ = some (.int .i64 ((nth p.lots .zero k).con.c.hi)) := fun w' h => by
        have := (hE.trans h).cell (by simp) (hss k hlt 7 _ rfl)
        rwa [nth_eq p.lots .zero] at this
      have m7 : ∀ w', Ex [] wr w' → w'.cell? ⟨b3, off3 + k * 9 + 7, none⟩ = some (.int .i64 ((nth p.lots .zero k).con.c.hi)) := fun w' h => by
        have := (hE.trans h).cell (by simp) (hcc k hlt 7 _ rfl)
        rwa [nth_eq p.lots .zero] at this
      have l8 : ∀ w', Ex [] wr w' → w'.cell? ⟨b2, off2 + k * 9 + 8, none⟩ = some (.int .i64 ((nth p.lots .zero k).cost)) := fun w' h => by
        have := (hE.trans h).cell (by simp) (hss k hlt 8 _ rfl)
        rwa [nth_eq p.lots .zero] at this
      have m8 : ∀ w', Ex [] wr w' → w'.cell? ⟨b3, off3 + k * 9 + 8, none⟩ = some (.int .i64 ((nth p.lots .zero k).cost)) := fun w' h => by
        have := (hE.trans h).cell (by simp) (hcc k hlt 8 _ rfl)
        rwa [nth_eq p.lots .zero] at this
      clear hss hcc
      have hrr : Ex [] wr wr := Ex.refl _ _
      have f0_0r := fun w' (h : Ex [] wr w') => f0_0 w' (hE.trans h)
      have t0r := fun w' (h : Ex [] wr w') => t0 w' (hE.trans h)
      go_upto_region 13 with fail
      refine region_plan (fun w' => Ex [] wr w') [.pu [0, 2, 5, 7], .st [1, 6], .pu [3, 8], .st [4, 9], .pu [10]] (by kernel_rfl) (by kernel_rfl) (Ex.drew (by first | (with_reducible assumption) | (repeat (with_reducible first | exact Ex.refl _ _ | assumption | exact Ex.mono (by assumption) (by simp; done) | refine Ex.alloc ?_ _ | refine Ex.drew ?_ | refine Ex.drewN ?_ _ | refine Ex.setCell ?_ (by first | (left; simp; done) | (right; simp; done) | (right; simp; omega)) _ | refine Ex.trans ?_ (by assumption))))) ?_
      refine plan_pu (fun K hK => ?_)
      simp only [pick, List.drop_succ_cons, List.drop_zero, List.take_succ_cons, List.take_zero, List.cons_append, List.nil_append]
      iterate 4 (first | (refine wpYield_want ?_ (by rfl) (fun w' hS' => ?_) ?_; rotate_left; ((try dsimp only at hS'); go_simp; try with_reducible rfl); simp only [Act.put, List.setIfInBounds_toArray, List.set_cons_zero, List.set_cons_succ]) | (refine wpYield_skip (by rfl) ?_; simp only [Act.put, List.setIfInBounds_toArray, List.set_cons_zero, List.set_cons_succ]))
      refine wpYield_nil (hK _ ?_)
      clear hK K
      refine plan_st (fun K hK => ?_)
      simp only [pick, List.drop_succ_cons, List.drop_zero, List.take_succ_cons, List.take_zero, List.cons_append, List.nil_append]
      iterate 2 (first | (refine wpYield_want ?_ (by rfl) (fun w' hS' => ?_) ?_; rotate_left; ((try dsimp only at hS'); go_simp; try with_reducible rfl); simp only [Act.put, List.setIfInBounds_toArray, List.set_cons_zero, List.set_cons_succ]) | (refine wpYield_skip (by rfl) ?_; simp only [Act.put, List.setIfInBounds_toArray, List.set_cons_zero, List.set_cons_succ]))
      refine wpYield_nil (hK _ ?_)
      clear hK K
      refine plan_pu (fun K hK => ?_)
      simp only [pick, List.drop_succ_cons, List.drop_zero, List.take_succ_cons, List.take_zero, List.cons_append, List.nil_append]
      iterate 2 (first | (refine wpYield_want ?_ (by rfl) (fun w' hS' => ?_) ?_; rotate_left; ((try dsimp only at hS'); go_simp; try with_reducible rfl); simp only [Act.put, List.setIfInBounds_toArray, List.set_cons_zero, List.set_cons_succ]) | (refine wpYield_skip (by rfl) ?_; simp only [Act.put, List.setIfInBounds_toArray, List.set_cons_zero, List.set_cons_succ]))
      refine wpYield_nil (hK _ ?_)
      clear hK K
      refine plan_st (fun K hK => ?_)
      simp only [pick, List.drop_succ_cons, List.drop_zero, List.take_succ_cons, List.take_zero, List.cons_append, List.nil_append]
      iterate 2 (first | (refine wpYield_want ?_ (by rfl) (fun w' hS' => ?_) ?_; rotate_left; ((try dsimp only at hS'); go_simp; try with_reducible rfl); simp only [Act.put, List.setIfInBounds_toArray, List.set_cons_zero, List.set_cons_succ]) | (refine wpYield_skip (by rfl) ?_; simp only [Act.put, List.setIfInBounds_toArray, List.set_cons_zero, List.set_cons_succ]))
      refine wpYield_nil (hK _ ?_)
      clear hK K
      refine plan_pu (fun K hK => ?_)
      simp only [pick, List.drop_succ_cons, List.drop_zero, List.take_succ_cons, List.take_zero, List.cons_append, List.nil_append]
      iterate 1 (first | (refine wpYield_want ?_ (by rfl) (fun w' hS' => ?_) ?_; rotate_left; ((try dsimp only at hS'); go_simp; try with_reducible rfl); simp only [Act.put, List.setIfInBounds_toArray, List.set_cons_zero, List.set_cons_succ]) | (refine wpYield_skip (by rfl) ?_; simp only [Act.put, List.setIfInBounds_toArray, List.set_cons_zero, List.set_cons_succ]))
      refine wpYield_nil (hK _ ?_)
      clear hK K
      refine plan_nil ?_
      go_wp2_with fail
      go_roundg (p.lots.length - (k + 1))
      case rel => exact ⟨k + 1, rfl, by omega, by go_num, hE.drew⟩
      case measure => omega
    · have hkn : ¬ (k : Int) < (p.lots.length : Int) := by omega
      have g0 := f0_0 wr hE
      have g1 := f0_1 wr hE
      have g2 := f0_2 wr hE
      have g3 := f0_3 wr hE
      have g4 := f0_4 wr hE
      have g5 := f0_5 wr hE
      have g6 := f0_6 wr hE
      have g7 := f0_7 wr hE
      have g8 := f0_8 wr hE
      have y0 := x0 wr hE
      have y1 := x1 wr hE
      have y2 := x2 wr hE
      have y3 := x3 wr hE
      have y4 := x4 wr hE
      have y5 := x5 wr hE
      have y6 := x6 wr hE
      go_wp2_with (first | (go_at_call 20; refine (refCharge_c p counts a c cap cap' _ (hsX.ext (by first | (with_reducible assumption) | (repeat (with_reducible first | exact Ex.refl _ _ | assumption | exact Ex.mono (by assumption) (by simp; done) | refine Ex.alloc ?_ _ | refine Ex.drew ?_ | refine Ex.drewN ?_ _ | refine Ex.setCell ?_ (by first | (left; simp; done) | (right; simp; done) | (right; simp; omega)) _ | refine Ex.trans ?_ (by assumption))))) (hcX.ext (by first | (with_reducible assumption) | (repeat (with_reducible first | exact Ex.refl _ _ | assumption | exact Ex.mono (by assumption) (by simp; done) | refine Ex.alloc ?_ _ | refine Ex.drew ?_ | refine Ex.drewN ?_ _ | refine Ex.setCell ?_ (by first | (left; simp; done) | (right; simp; done) | (right; simp; omega)) _ | refine Ex.trans ?_ (by assumption)))))).mono ?_; rintro e w1 ⟨he, h1⟩; subst he; replace h1 : Ex [] Y w1 := Ex.trans (by first | (with_reducible assumption) | (repeat (with_reducible first | exact Ex.refl _ _ | assumption | exact Ex.mono (by assumption) (by simp; done) | refine Ex.alloc ?_ _ | refine Ex.drew ?_ | refine Ex.drewN ?_ _ | refine Ex.setCell ?_ (by first | (left; simp; done) | (right; simp; done) | (right; simp; omega)) _ | refine Ex.trans ?_ (by assumption)))) (h1.ex _)) | (go_at_call 12; refine (known_c _).mono ?_; rintro e wk ⟨rfl, hk1⟩; replace hk1 : Ex [] Y wk := Ex.trans (by first | (with_reducible assumption) | (repeat (with_reducible first | exact Ex.refl _ _ | assumption | exact Ex.mono (by assumption) (by simp; done) | refine Ex.alloc ?_ _ | refine Ex.drew ?_ | refine Ex.drewN ?_ _ | refine Ex.setCell ?_ (by first | (left; simp; done) | (right; simp; done) | (right; simp; omega)) _ | refine Ex.trans ?_ (by assumption)))) (hk1.ex _)))
      go_returns
      exact ⟨rfl, hwY.trans hk1⟩

set_option maxRecDepth 100000 in
set_option maxHeartbeats 8000000 in
theorem weighs_b_c (p : Recipe) (counts : List Int) (a c : Option Addr) (cap cap' : Nat) (w : World) (hs : SlL w a cap p.lots) (hc : SlI w c cap' counts) (hl : p.lots.length ≤ 10) (hcl : counts.length ≤ 12) (hq : checkE p = 0) (hq2 : isChargeB p.lots counts = false) : Calls Try.prog 3 #[.agg #[.slice a p.lots.length cap, .int .i64 p.mass.lo, .int .i64 p.mass.hi, .int .i64 p.target.a.lo, .int .i64 p.target.a.hi, .int .i64 p.target.b.lo, .int .i64 p.target.b.hi, .int .i64 p.target.c.lo, .int .i64 p.target.c.hi], .slice c counts.length cap'] w (Ret (.bool true) w) := by
  have hle := hs.le; have hbg := hs.big; have hle' := hc.le; have hbg' := hc.big
  have h10 : ¬ (10 : Int) < (p.lots.length : Int) := by omega
  have h12 : ¬ (12 : Int) < (counts.length : Int) := by omega
  have hE := weighE_b hq hq2
  have hP := weighP_no (p := p) (counts := counts) (by rw [hE]; decide)
  have hK := fitsK_no (p := p) (counts := counts) (by rw [hE]; decide)
  have hec' := Lib.hid hq; have hch := Lib.hid hq2; clear hq hq2
  have hE' := Lib.hid hE; have hP' := Lib.hid hP; have hK' := Lib.hid hK; clear hE hP hK
  go_enter Try.func3, Try.ntmps3
  go_upto_region 1 with (fail)
  refine wp_at (fun W => Ext w W ∧ w.heap.size + 1 = W.heap.size ∧ W.heap[w.heap.size]? = some (.cells #[.slice a p.lots.length cap, .int .i64 p.mass.lo, .int .i64 p.mass.hi, .int .i64 p.target.a.lo, .int .i64 p.target.a.hi, .int .i64 p.target.b.lo, .int .i64 p.target.b.hi, .int .i64 p.target.c.lo, .int .i64 p.target.c.hi] 28 (0, 0))) ⟨by (repeat (with_reducible first | exact Ex.refl _ _ | assumption | exact Ex.mono (by assumption) (by simp; done) | refine Ex.alloc ?_ _ | refine Ex.drew ?_ | refine Ex.drewN ?_ _ | refine Ex.setCell ?_ (by first | (left; simp; done) | (right; simp; done) | (right; simp; omega)) _ | refine Ex.trans ?_ (by assumption))), by simp, blk_new _ _⟩ (fun W hW => ?_)
  obtain ⟨hr0, hsz, hB0⟩ := hW
  have hr : Ex [] W W := Ex.refl _ _
  have f0_0 := cellE (S := []) hB0 (by first | (simp; done) | (simp; omega)) 0 rfl
  have f0_1 := cellE (S := []) hB0 (by first | (simp; done) | (simp; omega)) 1 rfl
  have f0_2 := cellE (S := []) hB0 (by first | (simp; done) | (simp; omega)) 2 rfl
  have f0_3 := cellE (S := []) hB0 (by first | (simp; done) | (simp; omega)) 3 rfl
  have f0_4 := cellE (S := []) hB0 (by first | (simp; done) | (simp; omega)) 4 rfl
  have f0_5 := cellE (S := []) hB0 (by first | (simp; done) | (simp; omega)) 5 rfl
  have f0_6 := cellE (S := []) hB0 (by first | (simp; done) | (simp; omega)) 6 rfl
  have f0_7 := cellE (S := []) hB0 (by first | (simp; done) | (simp; omega)) 7 rfl
  have f0_8 := cellE (S := []) hB0 (by first | (simp; done) | (simp; omega)) 8 rfl
  clear hB0
  have hsz' := Nat.le_of_eq hsz.symm; have hsz'' := Nat.le_of_eq hsz; clear hsz
  go_upto_region 4 with (first | (go_at_call 13; refine (own_c p a cap _ (hs.ext (hr0.trans (by first | (with_reducible assumption) | (repeat (with_reducible first | exact Ex.refl _ _ | assumption | exact Ex.mono (by assumption) (by simp; done) | refine Ex.alloc ?_ _ | refine Ex.drew ?_ | refine Ex.drewN ?_ _ | refine Ex.setCell ?_ (by first | (left; simp; done) | (right; simp; done) | (right; simp; omega)) _ | refine Ex.trans ?_ (by assumption)))))) (by omega)).mono ?_; rintro e w1 ⟨a', c', rfl, hO1, h1⟩; replace h1 : Ex [] W w1 := Ex.trans (by first | (with_reducible assumption) | (repeat (with_reducible first | exact Ex.refl _ _ | assumption | exact Ex.mono (by assumption) (by simp; done) | refine Ex.alloc ?_ _ | refine Ex.drew ?_ | refine Ex.drewN ?_ _ | refine Ex.setCell ?_ (by first | (left; simp; done) | (right; simp; done) | (right; simp; omega)) _ | refine Ex.trans ?_ (by assumption)))) (h1.ex _)) | (go_at_call 14; refine (lawInts_c c cap' counts _ (hc.ext (hr0.trans (by first | (with_reducible assumption) | (repeat (with_reducible first | exact Ex.refl _ _ | assumption | exact Ex.mono (by assumption) (by simp; done) | refine Ex.alloc ?_ _ | refine Ex.drew ?_ | refine Ex.drewN ?_ _ | refine Ex.setCell ?_ (by first | (left; simp; done) | (right; simp; done) | (right; simp; omega)) _ | refine Ex.trans ?_ (by assumption)))))) (by omega)).mono ?_; rintro e w2 ⟨a2, c2, rfl, hO2, h2⟩; replace hO1 := hO1.ext h2; replace h2 : Ex [] W w2 := Ex.trans (by first | (with_reducible assumption) | (repeat (with_reducible first | exact Ex.refl _ _ | assumption | exact Ex.mono (by assumption) (by simp; done) | refine Ex.alloc ?_ _ | refine Ex.drew ?_ | refine Ex.drewN ?_ _ | refine Ex.setCell ?_ (by first | (left; simp; done) | (right; simp; done) | (right; simp; omega)) _ | refine Ex.trans ?_ (by assumption)))) (h2.ex _)))
  refine wp_at (fun X => Ex [] w2 X ∧ X.heap[w2.heap.size]? = some (.cells #[.slice a' p.lots.length c', .int .i64 p.mass.lo, .int .i64 p.mass.hi, .int .i64 p.target.a.lo, .int .i64 p.target.a.hi, .int .i64 p.target.b.lo, .int .i64 p.target.b.hi, .int .i64 p.target.c.lo, .int .i64 p.target.c.hi] 28 (0, 0))) ⟨by (repeat (with_reducible first | exact Ex.refl _ _ | assumption | exact Ex.mono (by assumption) (by simp; done) | refine Ex.alloc ?_ _ | refine Ex.drew ?_ | refine Ex.drewN ?_ _ | refine Ex.setCell ?_ (by first | (left; simp; done) | (right; simp; done) | (right; simp; omega)) _ | refine Ex.trans ?_ (by assumption))), blk_new _ _⟩ (fun X hX => ?_)
  obtain ⟨hX, hT⟩ := hX
  have hWX := h2.trans hX
  have hwX : Ex [] w X := hr0.trans hWX
  have hrX : Ex [] X X := Ex.refl _ _
  have hsI := (hO1.toSl Lot.len).ext hX
  have hsL := (hO2.toSl intCells_len).ext hX
  have hsX := hs.ext hwX
  have hcX := hc.ext hwX
  have hi1 := hsI.le; have hi2 := hsI.big; have hl1 := hsL.le; have hl2 := hsL.big
  obtain ⟨bi, hbi⟩ : ∃ b, b = w2.heap.size := ⟨_, rfl⟩
  rw [← hbi] at hT ⊢
  clear hbi
  have t0 := cellE (S := []) hT (by simp) 0 rfl
  have t1 := cellE (S := []) hT (by simp) 1 rfl
  have t2 := cellE (S := []) hT (by simp) 2 rfl
  have t3 := cellE (S := []) hT (by simp) 3 rfl
  have t4 := cellE (S := []) hT (by simp) 4 rfl
  have t5 := cellE (S := []) hT (by simp) 5 rfl
  have t6 := cellE (S := []) hT (by simp) 6 rfl
  have t7 := cellE (S := []) hT (by simp) 7 rfl
  have t8 := cellE (S := []) hT (by simp) 8 rfl
  replace f0_0 := fun w' (h : Ex [] X w') => f0_0 w' (hWX.trans h)
  replace f0_1 := fun w' (h : Ex [] X w') => f0_1 w' (hWX.trans h)
  replace f0_2 := fun w' (h : Ex [] X w') => f0_2 w' (hWX.trans h)
  replace f0_3 := fun w' (h : Ex [] X w') => f0_3 w' (hWX.trans h)
  replace f0_4 := fun w' (h : Ex [] X w') => f0_4 w' (hWX.trans h)
  replace f0_5 := fun w' (h : Ex [] X w') => f0_5 w' (hWX.trans h)
  replace f0_6 := fun w' (h : Ex [] X w') => f0_6 w' (hWX.trans h)
  replace f0_7 := fun w' (h : Ex [] X w') => f0_7 w' (hWX.trans h)
  replace f0_8 := fun w' (h : Ex [] X w') => f0_8 w' (hWX.trans h)
  clear hO1 hO2 h1 h2 hX hT hs hc hr0 hr
  go_upto_region 6 with (first | (go_at_call 15; refine (check_c p a' c' _ (hsI.ext (by first | (with_reducible assumption) | (repeat (with_reducible first | exact Ex.refl _ _ | assumption | exact Ex.mono (by assumption) (by simp; done) | refine Ex.alloc ?_ _ | refine Ex.drew ?_ | refine Ex.drewN ?_ _ | refine Ex.setCell ?_ (by first | (left; simp; done) | (right; simp; done) | (right; simp; omega)) _ | refine Ex.trans ?_ (by assumption)))))).mono ?_; rintro e w1 ⟨he, h1⟩; rw [hec'.out] at he; subst he; replace h1 : Ex [] X w1 := Ex.trans (by first | (with_reducible assumption) | (repeat (with_reducible first | exact Ex.refl _ _ | assumption | exact Ex.mono (by assumption) (by simp; done) | refine Ex.alloc ?_ _ | refine Ex.drew ?_ | refine Ex.drewN ?_ _ | refine Ex.setCell ?_ (by first | (left; simp; done) | (right; simp; done) | (right; simp; omega)) _ | refine Ex.trans ?_ (by assumption)))) (h1.ex _)) | (go_at_call 16; refine (Weigh_c p counts a' a2 c' c2 _ (hsI.ext (by first | (with_reducible assumption) | (repeat (with_reducible first | exact Ex.refl _ _ | assumption | exact Ex.mono (by assumption) (by simp; done) | refine Ex.alloc ?_ _ | refine Ex.drew ?_ | refine Ex.drewN ?_ _ | refine Ex.setCell ?_ (by first | (left; simp; done) | (right; simp; done) | (right; simp; omega)) _ | refine Ex.trans ?_ (by assumption))))) (hsL.ext (by first | (with_reducible assumption) | (repeat (with_reducible first | exact Ex.refl _ _ | assumption | exact Ex.mono (by assumption) (by simp; done) | refine Ex.alloc ?_ _ | refine Ex.drew ?_ | refine Ex.drewN ?_ _ | refine Ex.setCell ?_ (by first | (left; simp; done) | (right; simp; done) | (right; simp; omega)) _ | refine Ex.trans ?_ (by assumption)))))).mono ?_; rintro e w1 ⟨he, h1⟩; rw [hE'.out, hP'.out] at he; replace he : e = .returned (.tuple #[.agg #[.int .i64 0, .int .i64 0, .int .i64 0, .int .i64 0, .int .i64 0, .int .i64 0, .int .i64 0], .int .i64 3]) := he; subst he; replace h1 : Ex [] X w1 := Ex.trans (by first | (with_reducible assumption) | (repeat (with_reducible first | exact Ex.refl _ _ | assumption | exact Ex.mono (by assumption) (by simp; done) | refine Ex.alloc ?_ _ | refine Ex.drew ?_ | refine Ex.drewN ?_ _ | refine Ex.setCell ?_ (by first | (left; simp; done) | (right; simp; done) | (right; simp; omega)) _ | refine Ex.trans ?_ (by assumption)))) (h1.ex _)))
  refine wp_at (fun Y => Ex [] X Y ∧ ∃ bx, bx = w1.heap.size ∧ Y.heap[bx]? = some (.cells #[.int .i64 0, .int .i64 0, .int .i64 0, .int .i64 0, .int .i64 0, .int .i64 0, .int .i64 0] 36 (0, 0))) ⟨by (repeat (with_reducible first | exact Ex.refl _ _ | assumption | exact Ex.mono (by assumption) (by simp; done) | refine Ex.alloc ?_ _ | refine Ex.drew ?_ | refine Ex.drewN ?_ _ | refine Ex.setCell ?_ (by first | (left; simp; done) | (right; simp; done) | (right; simp; omega)) _ | refine Ex.trans ?_ (by assumption))), _, rfl, blk_new _ _⟩ (fun Y hY => ?_)
  obtain ⟨hXY, bx, hbx, hB⟩ := hY
  rw [← hbx]
  clear hbx h1
  have hrY : Ex [] Y Y := Ex.refl _ _
  have hwY : Ex [] w Y := hwX.trans hXY
  have x0 := cellE (S := []) hB (by simp) 0 rfl
  have x1 := cellE (S := []) hB (by simp) 1 rfl
  have x2 := cellE (S := []) hB (by simp) 2 rfl
  have x3 := cellE (S := []) hB (by simp) 3 rfl
  have x4 := cellE (S := []) hB (by simp) 4 rfl
  have x5 := cellE (S := []) hB (by simp) 5 rfl
  have x6 := cellE (S := []) hB (by simp) 6 rfl
  replace f0_0 := fun w' (h : Ex [] Y w') => f0_0 w' (hXY.trans h)
  replace f0_1 := fun w' (h : Ex [] Y w') => f0_1 w' (hXY.trans h)
  replace f0_2 := fun w' (h : Ex [] Y w') => f0_2 w' (hXY.trans h)
  replace f0_3 := fun w' (h : Ex [] Y w') => f0_3 w' (hXY.trans h)
  replace f0_4 := fun w' (h : Ex [] Y w') => f0_4 w' (hXY.trans h)
  replace f0_5 := fun w' (h : Ex [] Y w') => f0_5 w' (hXY.trans h)
  replace f0_6 := fun w' (h : Ex [] Y w') => f0_6 w' (hXY.trans h)
  replace f0_7 := fun w' (h : Ex [] Y w') => f0_7 w' (hXY.trans h)
  replace f0_8 := fun w' (h : Ex [] Y w') => f0_8 w' (hXY.trans h)
  replace t0 := fun w' (h : Ex [] Y w') => t0 w' (hXY.trans h)
  replace t1 := fun w' (h : Ex [] Y w') => t1 w' (hXY.trans h)
  replace t2 := fun w' (h : Ex [] Y w') => t2 w' (hXY.trans h)
  replace t3 := fun w' (h : Ex [] Y w') => t3 w' (hXY.trans h)
  replace t4 := fun w' (h : Ex [] Y w') => t4 w' (hXY.trans h)
  replace t5 := fun w' (h : Ex [] Y w') => t5 w' (hXY.trans h)
  replace t6 := fun w' (h : Ex [] Y w') => t6 w' (hXY.trans h)
  replace t7 := fun w' (h : Ex [] Y w') => t7 w' (hXY.trans h)
  replace t8 := fun w' (h : Ex [] Y w') => t8 w' (hXY.trans h)
  replace hsI := hsI.ext hXY
  replace hsL := hsL.ext hXY
  replace hsX := hsX.ext hXY
  replace hcX := hcX.ext hXY
  clear hB hrX hwX hWX hXY
  go_wp2_with (first | (go_at_call 17; refine (fits_c p counts a' a2 c' c2 _ (hsI.ext (by first | (with_reducible assumption) | (repeat (with_reducible first | exact Ex.refl _ _ | assumption | exact Ex.mono (by assumption) (by simp; done) | refine Ex.alloc ?_ _ | refine Ex.drew ?_ | refine Ex.drewN ?_ _ | refine Ex.setCell ?_ (by first | (left; simp; done) | (right; simp; done) | (right; simp; omega)) _ | refine Ex.trans ?_ (by assumption))))) (hsL.ext (by first | (with_reducible assumption) | (repeat (with_reducible first | exact Ex.refl _ _ | assumption | exact Ex.mono (by assumption) (by simp; done) | refine Ex.alloc ?_ _ | refine Ex.drew ?_ | refine Ex.drewN ?_ _ | refine Ex.setCell ?_ (by first | (left; simp; done) | (right; simp; done) | (right; simp; omega)) _ | refine Ex.trans ?_ (by assumption)))))).mono ?_; rintro e w1 ⟨he, h1⟩; rw [hE'.out, hK'.out] at he; subst he; replace h1 : Ex [] Y w1 := Ex.trans (by first | (with_reducible assumption) | (repeat (with_reducible first | exact Ex.refl _ _ | assumption | exact Ex.mono (by assumption) (by simp; done) | refine Ex.alloc ?_ _ | refine Ex.drew ?_ | refine Ex.drewN ?_ _ | refine Ex.setCell ?_ (by first | (left; simp; done) | (right; simp; done) | (right; simp; omega)) _ | refine Ex.trans ?_ (by assumption)))) (h1.ex _)) | (go_at_call 18; refine (refCheck_c p a cap _ (hsX.ext (by first | (with_reducible assumption) | (repeat (with_reducible first | exact Ex.refl _ _ | assumption | exact Ex.mono (by assumption) (by simp; done) | refine Ex.alloc ?_ _ | refine Ex.drew ?_ | refine Ex.drewN ?_ _ | refine Ex.setCell ?_ (by first | (left; simp; done) | (right; simp; done) | (right; simp; omega)) _ | refine Ex.trans ?_ (by assumption)))))).mono ?_; rintro e w1 ⟨he, h1⟩; rw [hec'.out] at he; subst he; replace h1 : Ex [] Y w1 := Ex.trans (by first | (with_reducible assumption) | (repeat (with_reducible first | exact Ex.refl _ _ | assumption | exact Ex.mono (by assumption) (by simp; done) | refine Ex.alloc ?_ _ | refine Ex.drew ?_ | refine Ex.drewN ?_ _ | refine Ex.setCell ?_ (by first | (left; simp; done) | (right; simp; done) | (right; simp; omega)) _ | refine Ex.trans ?_ (by assumption)))) (h1.ex _)) | (go_at_call 19; refine (sameInts_c counts counts a2 c c2 cap' _ (hsL.ext (by first | (with_reducible assumption) | (repeat (with_reducible first | exact Ex.refl _ _ | assumption | exact Ex.mono (by assumption) (by simp; done) | refine Ex.alloc ?_ _ | refine Ex.drew ?_ | refine Ex.drewN ?_ _ | refine Ex.setCell ?_ (by first | (left; simp; done) | (right; simp; done) | (right; simp; omega)) _ | refine Ex.trans ?_ (by assumption))))) (hcX.ext (by first | (with_reducible assumption) | (repeat (with_reducible first | exact Ex.refl _ _ | assumption | exact Ex.mono (by assumption) (by simp; done) | refine Ex.alloc ?_ _ | refine Ex.drew ?_ | refine Ex.drewN ?_ _ | refine Ex.setCell ?_ (by first | (left; simp; done) | (right; simp; done) | (right; simp; omega)) _ | refine Ex.trans ?_ (by assumption)))))).mono ?_; rintro e w1 ⟨he, h1⟩; rw [show sameI counts counts = true from by simp [sameI]] at he; subst he; replace h1 : Ex [] Y w1 := Ex.trans (by first | (with_reducible assumption) | (repeat (with_reducible first | exact Ex.refl _ _ | assumption | exact Ex.mono (by assumption) (by simp; done) | refine Ex.alloc ?_ _ | refine Ex.drew ?_ | refine Ex.drewN ?_ _ | refine Ex.setCell ?_ (by first | (left; simp; done) | (right; simp; done) | (right; simp; omega)) _ | refine Ex.trans ?_ (by assumption)))) (h1.ex _)))
  go_loopg [13] (p.lots.length) (fun g i wr => ∃ (k : Nat), g = p.lots.length - k ∧ k ≤ p.lots.length ∧ i = .int .i64 k ∧ Ex [] Y wr)
  case atStart => exact ⟨0, rfl, by omega, rfl, by first | (with_reducible assumption) | (repeat (with_reducible first | exact Ex.refl _ _ | assumption | exact Ex.mono (by assumption) (by simp; done) | refine Ex.alloc ?_ _ | refine Ex.drew ?_ | refine Ex.drewN ?_ _ | refine Ex.setCell ?_ (by first | (left; simp; done) | (right; simp; done) | (right; simp; omega)) _ | refine Ex.trans ?_ (by assumption)))⟩
  case round =>
    clear h1
    obtain ⟨k, rfl, hk, rfl, hE⟩ := hrel
    by_cases hlt : k < p.lots.length
    · have hk0 : (0 : Int) ≤ (k : Int) := by omega
      have hk1 : (k : Int) < (p.lots.length : Int) := by omega
      obtain ⟨b2, off2, rfl, hbw2, hss⟩ := hsX.cells (by omega)
      obtain ⟨b3, off3, rfl, hbw3, hcc⟩ := hsI.cells (by omega)
      have l0 : ∀ w', Ex [] wr w' → w'.cell? ⟨b2, off2 + k * 9, none⟩ = some (.int .i64 ((nth p.lots .zero k).count)) := fun w' h => by
        have := (hE.trans h).cell (by simp) (hss k hlt 0 _ rfl)
        rwa [Nat.add_zero, nth_eq p.lots .zero] at this
      have m0 : ∀ w', Ex [] wr w' → w'.cell? ⟨b3, off3 + k * 9, none⟩ = some (.int .i64 ((nth p.lots .zero k).count)) := fun w' h => by
        have := (hE.trans h).cell (by simp) (hcc k hlt 0 _ rfl)
        rwa [Nat.add_zero, nth_eq p.lots .zero] at this
      have l1 : ∀ w', Ex [] wr w' → w'.cell? ⟨b2, off2 + k * 9 + 1, none⟩ = some (.int .i64 ((nth p.lots .zero k).mass)) := fun w' h => by
        have := (hE.trans h).cell (by simp) (hss k hlt 1 _ rfl)
        rwa [nth_eq p.lots .zero] at this
      have m1 : ∀ w', Ex [] wr w' → w'.cell? ⟨b3, off3 + k * 9 + 1, none⟩ = some (.int .i64 ((nth p.lots .zero k).mass)) := fun w' h => by
        have := (hE.trans h).cell (by simp) (hcc k hlt 1 _ rfl)
        rwa [nth_eq p.lots .zero] at this
      have l2 : ∀ w', Ex [] wr w' → w'.cell? ⟨b2, off2 + k * 9 + 2, none⟩ = some (.int .i64 ((nth p.lots .zero k).con.a.lo)) := fun w' h => by
        have := (hE.trans h).cell (by simp) (hss k hlt 2 _ rfl)
        rwa [nth_eq p.lots .zero] at this
      have m2 : ∀ w', Ex [] wr w' → w'.cell? ⟨b3, off3 + k * 9 + 2, none⟩ = some (.int .i64 ((nth p.lots .zero k).con.a.lo)) := fun w' h => by
        have := (hE.trans h).cell (by simp) (hcc k hlt 2 _ rfl)
        rwa [nth_eq p.lots .zero] at this
      have l3 : ∀ w', Ex [] wr w' → w'.cell? ⟨b2, off2 + k * 9 + 3, none⟩ = some (.int .i64 ((nth p.lots .zero k).con.a.hi)) := fun w' h => by
        have := (hE.trans h).cell (by simp) (hss k hlt 3 _ rfl)
        rwa [nth_eq p.lots .zero] at this
      have m3 : ∀ w', Ex [] wr w' → w'.cell? ⟨b3, off3 + k * 9 + 3, none⟩ = some (.int .i64 ((nth p.lots .zero k).con.a.hi)) := fun w' h => by
        have := (hE.trans h).cell (by simp) (hcc k hlt 3 _ rfl)
        rwa [nth_eq p.lots .zero] at this
      have l4 : ∀ w', Ex [] wr w' → w'.cell? ⟨b2, off2 + k * 9 + 4, none⟩ = some (.int .i64 ((nth p.lots .zero k).con.b.lo)) := fun w' h => by
        have := (hE.trans h).cell (by simp) (hss k hlt 4 _ rfl)
        rwa [nth_eq p.lots .zero] at this
      have m4 : ∀ w', Ex [] wr w' → w'.cell? ⟨b3, off3 + k * 9 + 4, none⟩ = some (.int .i64 ((nth p.lots .zero k).con.b.lo)) := fun w' h => by
        have := (hE.trans h).cell (by simp) (hcc k hlt 4 _ rfl)
        rwa [nth_eq p.lots .zero] at this
      have l5 : ∀ w', Ex [] wr w' → w'.cell? ⟨b2, off2 + k * 9 + 5, none⟩ = some (.int .i64 ((nth p.lots .zero k).con.b.hi)) := fun w' h => by
        have := (hE.trans h).cell (by simp) (hss k hlt 5 _ rfl)
        rwa [nth_eq p.lots .zero] at this
      have m5 : ∀ w', Ex [] wr w' → w'.cell? ⟨b3, off3 + k * 9 + 5, none⟩ = some (.int .i64 ((nth p.lots .zero k).con.b.hi)) := fun w' h => by
        have := (hE.trans h).cell (by simp) (hcc k hlt 5 _ rfl)
        rwa [nth_eq p.lots .zero] at this
      have l6 : ∀ w', Ex [] wr w' → w'.cell? ⟨b2, off2 + k * 9 + 6, none⟩ = some (.int .i64 ((nth p.lots .zero k).con.c.lo)) := fun w' h => by
        have := (hE.trans h).cell (by simp) (hss k hlt 6 _ rfl)
        rwa [nth_eq p.lots .zero] at this
      have m6 : ∀ w', Ex [] wr w' → w'.cell? ⟨b3, off3 + k * 9 + 6, none⟩ = some (.int .i64 ((nth p.lots .zero k).con.c.lo)) := fun w' h => by
        have := (hE.trans h).cell (by simp) (hcc k hlt 6 _ rfl)
        rwa [nth_eq p.lots .zero] at this
      have l7 : ∀ w', Ex [] wr w' → w'.cell? ⟨b2, off2 + k * 9 + 7, none⟩ = some (.int .i64 ((nth p.lots .zero k).con.c.hi)) := fun w' h => by
        have := (hE.trans h).cell (by simp) (hss k hlt 7 _ rfl)
        rwa [nth_eq p.lots .zero] at this
      have m7 : ∀ w', Ex [] wr w' → w'.cell? ⟨b3, off3 + k * 9 + 7, none⟩ = some (.int .i64 ((nth p.lots .zero k).con.c.hi)) := fun w' h => by
        have := (hE.trans h).cell (by simp) (hcc k hlt 7 _ rfl)
        rwa [nth_eq p.lots .zero] at this
      have l8 : ∀ w', Ex [] wr w' → w'.cell? ⟨b2, off2 + k * 9 + 8, none⟩ = some (.int .i64 ((nth p.lots .zero k).cost)) := fun w' h => by
        have := (hE.trans h).cell (by simp) (hss k hlt 8 _ rfl)
        rwa [nth_eq p.lots .zero] at this
      have m8 : ∀ w', Ex [] wr w' → w'.cell? ⟨b3, off3 + k * 9 + 8, none⟩ = some (.int .i64 ((nth p.lots .zero k).cost)) := fun w' h => by
        have := (hE.trans h).cell (by simp) (hcc k hlt 8 _ rfl)
        rwa [nth_eq p.lots .zero] at this
      clear hss hcc
      have hrr : Ex [] wr wr := Ex.refl _ _
      have f0_0r := fun w' (h : Ex [] wr w') => f0_0 w' (hE.trans h)
      have t0r := fun w' (h : Ex [] wr w') => t0 w' (hE.trans h)
      go_upto_region 13 with fail
      refine region_plan (fun w' => Ex [] wr w') [.pu [0, 2, 5, 7], .st [1, 6], .pu [3, 8], .st [4, 9], .pu [10]] (by kernel_rfl) (by kernel_rfl) (Ex.drew (by first | (with_reducible assumption) | (repeat (with_reducible first | exact Ex.refl _ _ | assumption | exact Ex.mono (by assumption) (by simp; done) | refine Ex.alloc ?_ _ | refine Ex.drew ?_ | refine Ex.drewN ?_ _ | refine Ex.setCell ?_ (by first | (left; simp; done) | (right; simp; done) | (right; simp; omega)) _ | refine Ex.trans ?_ (by assumption))))) ?_
      refine plan_pu (fun K hK => ?_)
      simp only [pick, List.drop_succ_cons, List.drop_zero, List.take_succ_cons, List.take_zero, List.cons_append, List.nil_append]
      iterate 4 (first | (refine wpYield_want ?_ (by rfl) (fun w' hS' => ?_) ?_; rotate_left; ((try dsimp only at hS'); go_simp; try with_reducible rfl); simp only [Act.put, List.setIfInBounds_toArray, List.set_cons_zero, List.set_cons_succ]) | (refine wpYield_skip (by rfl) ?_; simp only [Act.put, List.setIfInBounds_toArray, List.set_cons_zero, List.set_cons_succ]))
      refine wpYield_nil (hK _ ?_)
      clear hK K
      refine plan_st (fun K hK => ?_)
      simp only [pick, List.drop_succ_cons, List.drop_zero, List.take_succ_cons, List.take_zero, List.cons_append, List.nil_append]
      iterate 2 (first | (refine wpYield_want ?_ (by rfl) (fun w' hS' => ?_) ?_; rotate_left; ((try dsimp only at hS'); go_simp; try with_reducible rfl); simp only [Act.put, List.setIfInBounds_toArray, List.set_cons_zero, List.set_cons_succ]) | (refine wpYield_skip (by rfl) ?_; simp only [Act.put, List.setIfInBounds_toArray, List.set_cons_zero, List.set_cons_succ]))
      refine wpYield_nil (hK _ ?_)
      clear hK K
      refine plan_pu (fun K hK => ?_)
      simp only [pick, List.drop_succ_cons, List.drop_zero, List.take_succ_cons, List.take_zero, List.cons_append, List.nil_append]
      iterate 2 (first | (refine wpYield_want ?_ (by rfl) (fun w' hS' => ?_) ?_; rotate_left; ((try dsimp only at hS'); go_simp; try with_reducible rfl); simp only [Act.put, List.setIfInBounds_toArray, List.set_cons_zero, List.set_cons_succ]) | (refine wpYield_skip (by rfl) ?_; simp only [Act.put, List.setIfInBounds_toArray, List.set_cons_zero, List.set_cons_succ]))
      refine wpYield_nil (hK _ ?_)
      clear hK K
      refine plan_st (fun K hK => ?_)
      simp only [pick, List.drop_succ_cons, List.drop_zero, List.take_succ_cons, List.take_zero, List.cons_append, List.nil_append]
      iterate 2 (first | (refine wpYield_want ?_ (by rfl) (fun w' hS' => ?_) ?_; rotate_left; ((try dsimp only at hS'); go_simp; try with_reducible rfl); simp only [Act.put, List.setIfInBounds_toArray, List.set_cons_zero, List.set_cons_succ]) | (refine wpYield_skip (by rfl) ?_; simp only [Act.put, List.setIfInBounds_toArray, List.set_cons_zero, List.set_cons_succ]))
      refine wpYield_nil (hK _ ?_)
      clear hK K
      refine plan_pu (fun K hK => ?_)
      simp only [pick, List.drop_succ_cons, List.drop_zero, List.take_succ_cons, List.take_zero, List.cons_append, List.nil_append]
      iterate 1 (first | (refine wpYield_want ?_ (by rfl) (fun w' hS' => ?_) ?_; rotate_left; ((try dsimp only at hS'); go_simp; try with_reducible rfl); simp only [Act.put, List.setIfInBounds_toArray, List.set_cons_zero, List.set_cons_succ]) | (refine wpYield_skip (by rfl) ?_; simp only [Act.put, List.setIfInBounds_toArray, List.set_cons_zero, List.set_cons_succ]))
      refine wpYield_nil (hK _ ?_)
      clear hK K
      refine plan_nil ?_
      go_wp2_with fail
      go_roundg (p.lots.length - (k + 1))
      case rel => exact ⟨k + 1, rfl, by omega, by go_num, hE.drew⟩
      case measure => omega
    · have hkn : ¬ (k : Int) < (p.lots.length : Int) := by omega
      have g0 := f0_0 wr hE
      have g1 := f0_1 wr hE
      have g2 := f0_2 wr hE
      have g3 := f0_3 wr hE
      have g4 := f0_4 wr hE
      have g5 := f0_5 wr hE
      have g6 := f0_6 wr hE
      have g7 := f0_7 wr hE
      have g8 := f0_8 wr hE
      have y0 := x0 wr hE
      have y1 := x1 wr hE
      have y2 := x2 wr hE
      have y3 := x3 wr hE
      have y4 := x4 wr hE
      have y5 := x5 wr hE
      have y6 := x6 wr hE
      go_wp2_with (first | (go_at_call 20; refine (refCharge_c p counts a c cap cap' _ (hsX.ext (by first | (with_reducible assumption) | (repeat (with_reducible first | exact Ex.refl _ _ | assumption | exact Ex.mono (by assumption) (by simp; done) | refine Ex.alloc ?_ _ | refine Ex.drew ?_ | refine Ex.drewN ?_ _ | refine Ex.setCell ?_ (by first | (left; simp; done) | (right; simp; done) | (right; simp; omega)) _ | refine Ex.trans ?_ (by assumption))))) (hcX.ext (by first | (with_reducible assumption) | (repeat (with_reducible first | exact Ex.refl _ _ | assumption | exact Ex.mono (by assumption) (by simp; done) | refine Ex.alloc ?_ _ | refine Ex.drew ?_ | refine Ex.drewN ?_ _ | refine Ex.setCell ?_ (by first | (left; simp; done) | (right; simp; done) | (right; simp; omega)) _ | refine Ex.trans ?_ (by assumption)))))).mono ?_; rintro e w1 ⟨he, h1⟩; rw [hch.out] at he; subst he; replace h1 : Ex [] Y w1 := Ex.trans (by first | (with_reducible assumption) | (repeat (with_reducible first | exact Ex.refl _ _ | assumption | exact Ex.mono (by assumption) (by simp; done) | refine Ex.alloc ?_ _ | refine Ex.drew ?_ | refine Ex.drewN ?_ _ | refine Ex.setCell ?_ (by first | (left; simp; done) | (right; simp; done) | (right; simp; omega)) _ | refine Ex.trans ?_ (by assumption)))) (h1.ex _)) | (go_at_call 12; refine (known_c _).mono ?_; rintro e wk ⟨rfl, hk1⟩; replace hk1 : Ex [] Y wk := Ex.trans (by first | (with_reducible assumption) | (repeat (with_reducible first | exact Ex.refl _ _ | assumption | exact Ex.mono (by assumption) (by simp; done) | refine Ex.alloc ?_ _ | refine Ex.drew ?_ | refine Ex.drewN ?_ _ | refine Ex.setCell ?_ (by first | (left; simp; done) | (right; simp; done) | (right; simp; omega)) _ | refine Ex.trans ?_ (by assumption)))) (hk1.ex _)))
      go_returns
      exact ⟨rfl, hwY.trans hk1⟩

set_option maxRecDepth 100000 in
set_option maxHeartbeats 8000000 in
theorem weighs_c_c (p : Recipe) (counts : List Int) (a c : Option Addr) (cap cap' : Nat) (w : World) (hs : SlL w a cap p.lots) (hc : SlI w c cap' counts) (hl : p.lots.length ≤ 10) (hcl : counts.length ≤ 12) (hq : checkE p = 0) (hq2 : isChargeB p.lots counts = true) : Calls Try.prog 3 #[.agg #[.slice a p.lots.length cap, .int .i64 p.mass.lo, .int .i64 p.mass.hi, .int .i64 p.target.a.lo, .int .i64 p.target.a.hi, .int .i64 p.target.b.lo, .int .i64 p.target.b.hi, .int .i64 p.target.c.lo, .int .i64 p.target.c.hi], .slice c counts.length cap'] w (Ret (.bool true) w) := by
  have hle := hs.le; have hbg := hs.big; have hle' := hc.le; have hbg' := hc.big
  have h10 : ¬ (10 : Int) < (p.lots.length : Int) := by omega
  have h12 : ¬ (12 : Int) < (counts.length : Int) := by omega
  have hE := weighE_c hq hq2
  have hP := weighP_ok hE
  have hK := fits_law hq hq2
  have hlen := isCharge_len hq2
  have hlen' := Nat.le_of_eq hlen
  clear hlen
  have hec' := Lib.hid hq; have hch := Lib.hid hq2; clear hq hq2
  have hE' := Lib.hid hE; have hP' := Lib.hid hP; have hK' := Lib.hid hK; clear hE hP hK
  go_enter Try.func3, Try.ntmps3
  go_upto_region 1 with (fail)
  refine wp_at (fun W => Ext w W ∧ w.heap.size + 1 = W.heap.size ∧ W.heap[w.heap.size]? = some (.cells #[.slice a p.lots.length cap, .int .i64 p.mass.lo, .int .i64 p.mass.hi, .int .i64 p.target.a.lo, .int .i64 p.target.a.hi, .int .i64 p.target.b.lo, .int .i64 p.target.b.hi, .int .i64 p.target.c.lo, .int .i64 p.target.c.hi] 28 (0, 0))) ⟨by (repeat (with_reducible first | exact Ex.refl _ _ | assumption | exact Ex.mono (by assumption) (by simp; done) | refine Ex.alloc ?_ _ | refine Ex.drew ?_ | refine Ex.drewN ?_ _ | refine Ex.setCell ?_ (by first | (left; simp; done) | (right; simp; done) | (right; simp; omega)) _ | refine Ex.trans ?_ (by assumption))), by simp, blk_new _ _⟩ (fun W hW => ?_)
  obtain ⟨hr0, hsz, hB0⟩ := hW
  have hr : Ex [] W W := Ex.refl _ _
  have f0_0 := cellE (S := []) hB0 (by first | (simp; done) | (simp; omega)) 0 rfl
  have f0_1 := cellE (S := []) hB0 (by first | (simp; done) | (simp; omega)) 1 rfl
  have f0_2 := cellE (S := []) hB0 (by first | (simp; done) | (simp; omega)) 2 rfl
  have f0_3 := cellE (S := []) hB0 (by first | (simp; done) | (simp; omega)) 3 rfl
  have f0_4 := cellE (S := []) hB0 (by first | (simp; done) | (simp; omega)) 4 rfl
  have f0_5 := cellE (S := []) hB0 (by first | (simp; done) | (simp; omega)) 5 rfl
  have f0_6 := cellE (S := []) hB0 (by first | (simp; done) | (simp; omega)) 6 rfl
  have f0_7 := cellE (S := []) hB0 (by first | (simp; done) | (simp; omega)) 7 rfl
  have f0_8 := cellE (S := []) hB0 (by first | (simp; done) | (simp; omega)) 8 rfl
  clear hB0
  have hsz' := Nat.le_of_eq hsz.symm; have hsz'' := Nat.le_of_eq hsz; clear hsz
  go_upto_region 4 with (first | (go_at_call 13; refine (own_c p a cap _ (hs.ext (hr0.trans (by first | (with_reducible assumption) | (repeat (with_reducible first | exact Ex.refl _ _ | assumption | exact Ex.mono (by assumption) (by simp; done) | refine Ex.alloc ?_ _ | refine Ex.drew ?_ | refine Ex.drewN ?_ _ | refine Ex.setCell ?_ (by first | (left; simp; done) | (right; simp; done) | (right; simp; omega)) _ | refine Ex.trans ?_ (by assumption)))))) (by omega)).mono ?_; rintro e w1 ⟨a', c', rfl, hO1, h1⟩; replace h1 : Ex [] W w1 := Ex.trans (by first | (with_reducible assumption) | (repeat (with_reducible first | exact Ex.refl _ _ | assumption | exact Ex.mono (by assumption) (by simp; done) | refine Ex.alloc ?_ _ | refine Ex.drew ?_ | refine Ex.drewN ?_ _ | refine Ex.setCell ?_ (by first | (left; simp; done) | (right; simp; done) | (right; simp; omega)) _ | refine Ex.trans ?_ (by assumption)))) (h1.ex _)) | (go_at_call 14; refine (lawInts_c c cap' counts _ (hc.ext (hr0.trans (by first | (with_reducible assumption) | (repeat (with_reducible first | exact Ex.refl _ _ | assumption | exact Ex.mono (by assumption) (by simp; done) | refine Ex.alloc ?_ _ | refine Ex.drew ?_ | refine Ex.drewN ?_ _ | refine Ex.setCell ?_ (by first | (left; simp; done) | (right; simp; done) | (right; simp; omega)) _ | refine Ex.trans ?_ (by assumption)))))) (by omega)).mono ?_; rintro e w2 ⟨a2, c2, rfl, hO2, h2⟩; replace hO1 := hO1.ext h2; replace h2 : Ex [] W w2 := Ex.trans (by first | (with_reducible assumption) | (repeat (with_reducible first | exact Ex.refl _ _ | assumption | exact Ex.mono (by assumption) (by simp; done) | refine Ex.alloc ?_ _ | refine Ex.drew ?_ | refine Ex.drewN ?_ _ | refine Ex.setCell ?_ (by first | (left; simp; done) | (right; simp; done) | (right; simp; omega)) _ | refine Ex.trans ?_ (by assumption)))) (h2.ex _)))
  refine wp_at (fun X => Ex [] w2 X ∧ X.heap[w2.heap.size]? = some (.cells #[.slice a' p.lots.length c', .int .i64 p.mass.lo, .int .i64 p.mass.hi, .int .i64 p.target.a.lo, .int .i64 p.target.a.hi, .int .i64 p.target.b.lo, .int .i64 p.target.b.hi, .int .i64 p.target.c.lo, .int .i64 p.target.c.hi] 28 (0, 0))) ⟨by (repeat (with_reducible first | exact Ex.refl _ _ | assumption | exact Ex.mono (by assumption) (by simp; done) | refine Ex.alloc ?_ _ | refine Ex.drew ?_ | refine Ex.drewN ?_ _ | refine Ex.setCell ?_ (by first | (left; simp; done) | (right; simp; done) | (right; simp; omega)) _ | refine Ex.trans ?_ (by assumption))), blk_new _ _⟩ (fun X hX => ?_)
  obtain ⟨hX, hT⟩ := hX
  have hWX := h2.trans hX
  have hwX : Ex [] w X := hr0.trans hWX
  have hrX : Ex [] X X := Ex.refl _ _
  have hsI := (hO1.toSl Lot.len).ext hX
  have hsL := (hO2.toSl intCells_len).ext hX
  have hsX := hs.ext hwX
  have hcX := hc.ext hwX
  have hi1 := hsI.le; have hi2 := hsI.big; have hl1 := hsL.le; have hl2 := hsL.big
  obtain ⟨bi, hbi⟩ : ∃ b, b = w2.heap.size := ⟨_, rfl⟩
  rw [← hbi] at hT ⊢
  clear hbi
  have t0 := cellE (S := []) hT (by simp) 0 rfl
  have t1 := cellE (S := []) hT (by simp) 1 rfl
  have t2 := cellE (S := []) hT (by simp) 2 rfl
  have t3 := cellE (S := []) hT (by simp) 3 rfl
  have t4 := cellE (S := []) hT (by simp) 4 rfl
  have t5 := cellE (S := []) hT (by simp) 5 rfl
  have t6 := cellE (S := []) hT (by simp) 6 rfl
  have t7 := cellE (S := []) hT (by simp) 7 rfl
  have t8 := cellE (S := []) hT (by simp) 8 rfl
  replace f0_0 := fun w' (h : Ex [] X w') => f0_0 w' (hWX.trans h)
  replace f0_1 := fun w' (h : Ex [] X w') => f0_1 w' (hWX.trans h)
  replace f0_2 := fun w' (h : Ex [] X w') => f0_2 w' (hWX.trans h)
  replace f0_3 := fun w' (h : Ex [] X w') => f0_3 w' (hWX.trans h)
  replace f0_4 := fun w' (h : Ex [] X w') => f0_4 w' (hWX.trans h)
  replace f0_5 := fun w' (h : Ex [] X w') => f0_5 w' (hWX.trans h)
  replace f0_6 := fun w' (h : Ex [] X w') => f0_6 w' (hWX.trans h)
  replace f0_7 := fun w' (h : Ex [] X w') => f0_7 w' (hWX.trans h)
  replace f0_8 := fun w' (h : Ex [] X w') => f0_8 w' (hWX.trans h)
  clear hO1 hO2 h1 h2 hX hT hs hc hr0 hr
  go_upto_region 6 with (first | (go_at_call 15; refine (check_c p a' c' _ (hsI.ext (by first | (with_reducible assumption) | (repeat (with_reducible first | exact Ex.refl _ _ | assumption | exact Ex.mono (by assumption) (by simp; done) | refine Ex.alloc ?_ _ | refine Ex.drew ?_ | refine Ex.drewN ?_ _ | refine Ex.setCell ?_ (by first | (left; simp; done) | (right; simp; done) | (right; simp; omega)) _ | refine Ex.trans ?_ (by assumption)))))).mono ?_; rintro e w1 ⟨he, h1⟩; rw [hec'.out] at he; subst he; replace h1 : Ex [] X w1 := Ex.trans (by first | (with_reducible assumption) | (repeat (with_reducible first | exact Ex.refl _ _ | assumption | exact Ex.mono (by assumption) (by simp; done) | refine Ex.alloc ?_ _ | refine Ex.drew ?_ | refine Ex.drewN ?_ _ | refine Ex.setCell ?_ (by first | (left; simp; done) | (right; simp; done) | (right; simp; omega)) _ | refine Ex.trans ?_ (by assumption)))) (h1.ex _)) | (go_at_call 16; refine (Weigh_c p counts a' a2 c' c2 _ (hsI.ext (by first | (with_reducible assumption) | (repeat (with_reducible first | exact Ex.refl _ _ | assumption | exact Ex.mono (by assumption) (by simp; done) | refine Ex.alloc ?_ _ | refine Ex.drew ?_ | refine Ex.drewN ?_ _ | refine Ex.setCell ?_ (by first | (left; simp; done) | (right; simp; done) | (right; simp; omega)) _ | refine Ex.trans ?_ (by assumption))))) (hsL.ext (by first | (with_reducible assumption) | (repeat (with_reducible first | exact Ex.refl _ _ | assumption | exact Ex.mono (by assumption) (by simp; done) | refine Ex.alloc ?_ _ | refine Ex.drew ?_ | refine Ex.drewN ?_ _ | refine Ex.setCell ?_ (by first | (left; simp; done) | (right; simp; done) | (right; simp; omega)) _ | refine Ex.trans ?_ (by assumption)))))).mono ?_; rintro e w1 ⟨he, h1⟩; rw [hE'.out, hP'.out] at he; subst he; replace h1 : Ex [] X w1 := Ex.trans (by first | (with_reducible assumption) | (repeat (with_reducible first | exact Ex.refl _ _ | assumption | exact Ex.mono (by assumption) (by simp; done) | refine Ex.alloc ?_ _ | refine Ex.drew ?_ | refine Ex.drewN ?_ _ | refine Ex.setCell ?_ (by first | (left; simp; done) | (right; simp; done) | (right; simp; omega)) _ | refine Ex.trans ?_ (by assumption)))) (h1.ex _)))
  refine wp_at (fun Y => Ex [] X Y ∧ ∃ bx, bx = w1.heap.size ∧ Y.heap[bx]? = some (.cells #[.int .i64 ((weighM p.lots counts).mass), .int .i64 ((weighM p.lots counts).con.a.lo), .int .i64 ((weighM p.lots counts).con.a.hi), .int .i64 ((weighM p.lots counts).con.b.lo), .int .i64 ((weighM p.lots counts).con.b.hi), .int .i64 ((weighM p.lots counts).con.c.lo), .int .i64 ((weighM p.lots counts).con.c.hi)] 36 (0, 0))) ⟨by (repeat (with_reducible first | exact Ex.refl _ _ | assumption | exact Ex.mono (by assumption) (by simp; done) | refine Ex.alloc ?_ _ | refine Ex.drew ?_ | refine Ex.drewN ?_ _ | refine Ex.setCell ?_ (by first | (left; simp; done) | (right; simp; done) | (right; simp; omega)) _ | refine Ex.trans ?_ (by assumption))), _, rfl, blk_new _ _⟩ (fun Y hY => ?_)
  obtain ⟨hXY, bx, hbx, hB⟩ := hY
  rw [← hbx]
  clear hbx h1
  have hrY : Ex [] Y Y := Ex.refl _ _
  have hwY : Ex [] w Y := hwX.trans hXY
  have x0 := cellE (S := []) hB (by simp) 0 rfl
  have x1 := cellE (S := []) hB (by simp) 1 rfl
  have x2 := cellE (S := []) hB (by simp) 2 rfl
  have x3 := cellE (S := []) hB (by simp) 3 rfl
  have x4 := cellE (S := []) hB (by simp) 4 rfl
  have x5 := cellE (S := []) hB (by simp) 5 rfl
  have x6 := cellE (S := []) hB (by simp) 6 rfl
  replace f0_0 := fun w' (h : Ex [] Y w') => f0_0 w' (hXY.trans h)
  replace f0_1 := fun w' (h : Ex [] Y w') => f0_1 w' (hXY.trans h)
  replace f0_2 := fun w' (h : Ex [] Y w') => f0_2 w' (hXY.trans h)
  replace f0_3 := fun w' (h : Ex [] Y w') => f0_3 w' (hXY.trans h)
  replace f0_4 := fun w' (h : Ex [] Y w') => f0_4 w' (hXY.trans h)
  replace f0_5 := fun w' (h : Ex [] Y w') => f0_5 w' (hXY.trans h)
  replace f0_6 := fun w' (h : Ex [] Y w') => f0_6 w' (hXY.trans h)
  replace f0_7 := fun w' (h : Ex [] Y w') => f0_7 w' (hXY.trans h)
  replace f0_8 := fun w' (h : Ex [] Y w') => f0_8 w' (hXY.trans h)
  replace t0 := fun w' (h : Ex [] Y w') => t0 w' (hXY.trans h)
  replace t1 := fun w' (h : Ex [] Y w') => t1 w' (hXY.trans h)
  replace t2 := fun w' (h : Ex [] Y w') => t2 w' (hXY.trans h)
  replace t3 := fun w' (h : Ex [] Y w') => t3 w' (hXY.trans h)
  replace t4 := fun w' (h : Ex [] Y w') => t4 w' (hXY.trans h)
  replace t5 := fun w' (h : Ex [] Y w') => t5 w' (hXY.trans h)
  replace t6 := fun w' (h : Ex [] Y w') => t6 w' (hXY.trans h)
  replace t7 := fun w' (h : Ex [] Y w') => t7 w' (hXY.trans h)
  replace t8 := fun w' (h : Ex [] Y w') => t8 w' (hXY.trans h)
  replace hsI := hsI.ext hXY
  replace hsL := hsL.ext hXY
  replace hsX := hsX.ext hXY
  replace hcX := hcX.ext hXY
  clear hB hrX hwX hWX hXY
  go_wp2_with (first | (go_at_call 17; refine (fits_c p counts a' a2 c' c2 _ (hsI.ext (by first | (with_reducible assumption) | (repeat (with_reducible first | exact Ex.refl _ _ | assumption | exact Ex.mono (by assumption) (by simp; done) | refine Ex.alloc ?_ _ | refine Ex.drew ?_ | refine Ex.drewN ?_ _ | refine Ex.setCell ?_ (by first | (left; simp; done) | (right; simp; done) | (right; simp; omega)) _ | refine Ex.trans ?_ (by assumption))))) (hsL.ext (by first | (with_reducible assumption) | (repeat (with_reducible first | exact Ex.refl _ _ | assumption | exact Ex.mono (by assumption) (by simp; done) | refine Ex.alloc ?_ _ | refine Ex.drew ?_ | refine Ex.drewN ?_ _ | refine Ex.setCell ?_ (by first | (left; simp; done) | (right; simp; done) | (right; simp; omega)) _ | refine Ex.trans ?_ (by assumption)))))).mono ?_; rintro e w1 ⟨he, h1⟩; rw [hE'.out, hK'.out] at he; subst he; replace h1 : Ex [] Y w1 := Ex.trans (by first | (with_reducible assumption) | (repeat (with_reducible first | exact Ex.refl _ _ | assumption | exact Ex.mono (by assumption) (by simp; done) | refine Ex.alloc ?_ _ | refine Ex.drew ?_ | refine Ex.drewN ?_ _ | refine Ex.setCell ?_ (by first | (left; simp; done) | (right; simp; done) | (right; simp; omega)) _ | refine Ex.trans ?_ (by assumption)))) (h1.ex _)) | (go_at_call 18; refine (refCheck_c p a cap _ (hsX.ext (by first | (with_reducible assumption) | (repeat (with_reducible first | exact Ex.refl _ _ | assumption | exact Ex.mono (by assumption) (by simp; done) | refine Ex.alloc ?_ _ | refine Ex.drew ?_ | refine Ex.drewN ?_ _ | refine Ex.setCell ?_ (by first | (left; simp; done) | (right; simp; done) | (right; simp; omega)) _ | refine Ex.trans ?_ (by assumption)))))).mono ?_; rintro e w1 ⟨he, h1⟩; rw [hec'.out] at he; subst he; replace h1 : Ex [] Y w1 := Ex.trans (by first | (with_reducible assumption) | (repeat (with_reducible first | exact Ex.refl _ _ | assumption | exact Ex.mono (by assumption) (by simp; done) | refine Ex.alloc ?_ _ | refine Ex.drew ?_ | refine Ex.drewN ?_ _ | refine Ex.setCell ?_ (by first | (left; simp; done) | (right; simp; done) | (right; simp; omega)) _ | refine Ex.trans ?_ (by assumption)))) (h1.ex _)) | (go_at_call 19; refine (sameInts_c counts counts a2 c c2 cap' _ (hsL.ext (by first | (with_reducible assumption) | (repeat (with_reducible first | exact Ex.refl _ _ | assumption | exact Ex.mono (by assumption) (by simp; done) | refine Ex.alloc ?_ _ | refine Ex.drew ?_ | refine Ex.drewN ?_ _ | refine Ex.setCell ?_ (by first | (left; simp; done) | (right; simp; done) | (right; simp; omega)) _ | refine Ex.trans ?_ (by assumption))))) (hcX.ext (by first | (with_reducible assumption) | (repeat (with_reducible first | exact Ex.refl _ _ | assumption | exact Ex.mono (by assumption) (by simp; done) | refine Ex.alloc ?_ _ | refine Ex.drew ?_ | refine Ex.drewN ?_ _ | refine Ex.setCell ?_ (by first | (left; simp; done) | (right; simp; done) | (right; simp; omega)) _ | refine Ex.trans ?_ (by assumption)))))).mono ?_; rintro e w1 ⟨he, h1⟩; rw [show sameI counts counts = true from by simp [sameI]] at he; subst he; replace h1 : Ex [] Y w1 := Ex.trans (by first | (with_reducible assumption) | (repeat (with_reducible first | exact Ex.refl _ _ | assumption | exact Ex.mono (by assumption) (by simp; done) | refine Ex.alloc ?_ _ | refine Ex.drew ?_ | refine Ex.drewN ?_ _ | refine Ex.setCell ?_ (by first | (left; simp; done) | (right; simp; done) | (right; simp; omega)) _ | refine Ex.trans ?_ (by assumption)))) (h1.ex _)))
  go_loopg [13] (p.lots.length) (fun g i wr => ∃ (k : Nat), g = p.lots.length - k ∧ k ≤ p.lots.length ∧ i = .int .i64 k ∧ Ex [] Y wr)
  case atStart => exact ⟨0, rfl, by omega, rfl, by first | (with_reducible assumption) | (repeat (with_reducible first | exact Ex.refl _ _ | assumption | exact Ex.mono (by assumption) (by simp; done) | refine Ex.alloc ?_ _ | refine Ex.drew ?_ | refine Ex.drewN ?_ _ | refine Ex.setCell ?_ (by first | (left; simp; done) | (right; simp; done) | (right; simp; omega)) _ | refine Ex.trans ?_ (by assumption)))⟩
  case round =>
    clear h1
    obtain ⟨k, rfl, hk, rfl, hE⟩ := hrel
    by_cases hlt : k < p.lots.length
    · have hk0 : (0 : Int) ≤ (k : Int) := by omega
      have hk1 : (k : Int) < (p.lots.length : Int) := by omega
      obtain ⟨b2, off2, rfl, hbw2, hss⟩ := hsX.cells (by omega)
      obtain ⟨b3, off3, rfl, hbw3, hcc⟩ := hsI.cells (by omega)
      have l0 : ∀ w', Ex [] wr w' → w'.cell? ⟨b2, off2 + k * 9, none⟩ = some (.int .i64 ((nth p.lots .zero k).count)) := fun w' h => by
        have := (hE.trans h).cell (by simp) (hss k hlt 0 _ rfl)
        rwa [Nat.add_zero, nth_eq p.lots .zero] at this
      have m0 : ∀ w', Ex [] wr w' → w'.cell? ⟨b3, off3 + k * 9, none⟩ = some (.int .i64 ((nth p.lots .zero k).count)) := fun w' h => by
        have := (hE.trans h).cell (by simp) (hcc k hlt 0 _ rfl)
        rwa [Nat.add_zero, nth_eq p.lots .zero] at this
      have l1 : ∀ w', Ex [] wr w' → w'.cell? ⟨b2, off2 + k * 9 + 1, none⟩ = some (.int .i64 ((nth p.lots .zero k).mass)) := fun w' h => by
        have := (hE.trans h).cell (by simp) (hss k hlt 1 _ rfl)
        rwa [nth_eq p.lots .zero] at this
      have m1 : ∀ w', Ex [] wr w' → w'.cell? ⟨b3, off3 + k * 9 + 1, none⟩ = some (.int .i64 ((nth p.lots .zero k).mass)) := fun w' h => by
        have := (hE.trans h).cell (by simp) (hcc k hlt 1 _ rfl)
        rwa [nth_eq p.lots .zero] at this
      have l2 : ∀ w', Ex [] wr w' → w'.cell? ⟨b2, off2 + k * 9 + 2, none⟩ = some (.int .i64 ((nth p.lots .zero k).con.a.lo)) := fun w' h => by
        have := (hE.trans h).cell (by simp) (hss k hlt 2 _ rfl)
        rwa [nth_eq p.lots .zero] at this
      have m2 : ∀ w', Ex [] wr w' → w'.cell? ⟨b3, off3 + k * 9 + 2, none⟩ = some (.int .i64 ((nth p.lots .zero k).con.a.lo)) := fun w' h => by
        have := (hE.trans h).cell (by simp) (hcc k hlt 2 _ rfl)
        rwa [nth_eq p.lots .zero] at this
      have l3 : ∀ w', Ex [] wr w' → w'.cell? ⟨b2, off2 + k * 9 + 3, none⟩ = some (.int .i64 ((nth p.lots .zero k).con.a.hi)) := fun w' h => by
        have := (hE.trans h).cell (by simp) (hss k hlt 3 _ rfl)
        rwa [nth_eq p.lots .zero] at this
      have m3 : ∀ w', Ex [] wr w' → w'.cell? ⟨b3, off3 + k * 9 + 3, none⟩ = some (.int .i64 ((nth p.lots .zero k).con.a.hi)) := fun w' h => by
        have := (hE.trans h).cell (by simp) (hcc k hlt 3 _ rfl)
        rwa [nth_eq p.lots .zero] at this
      have l4 : ∀ w', Ex [] wr w' → w'.cell? ⟨b2, off2 + k * 9 + 4, none⟩ = some (.int .i64 ((nth p.lots .zero k).con.b.lo)) := fun w' h => by
        have := (hE.trans h).cell (by simp) (hss k hlt 4 _ rfl)
        rwa [nth_eq p.lots .zero] at this
      have m4 : ∀ w', Ex [] wr w' → w'.cell? ⟨b3, off3 + k * 9 + 4, none⟩ = some (.int .i64 ((nth p.lots .zero k).con.b.lo)) := fun w' h => by
        have := (hE.trans h).cell (by simp) (hcc k hlt 4 _ rfl)
        rwa [nth_eq p.lots .zero] at this
      have l5 : ∀ w', Ex [] wr w' → w'.cell? ⟨b2, off2 + k * 9 + 5, none⟩ = some (.int .i64 ((nth p.lots .zero k).con.b.hi)) := fun w' h => by
        have := (hE.trans h).cell (by simp) (hss k hlt 5 _ rfl)
        rwa [nth_eq p.lots .zero] at this
      have m5 : ∀ w', Ex [] wr w' → w'.cell? ⟨b3, off3 + k * 9 + 5, none⟩ = some (.int .i64 ((nth p.lots .zero k).con.b.hi)) := fun w' h => by
        have := (hE.trans h).cell (by simp) (hcc k hlt 5 _ rfl)
        rwa [nth_eq p.lots .zero] at this
      have l6 : ∀ w', Ex [] wr w' → w'.cell? ⟨b2, off2 + k * 9 + 6, none⟩ = some (.int .i64 ((nth p.lots .zero k).con.c.lo)) := fun w' h => by
        have := (hE.trans h).cell (by simp) (hss k hlt 6 _ rfl)
        rwa [nth_eq p.lots .zero] at this
      have m6 : ∀ w', Ex [] wr w' → w'.cell? ⟨b3, off3 + k * 9 + 6, none⟩ = some (.int .i64 ((nth p.lots .zero k).con.c.lo)) := fun w' h => by
        have := (hE.trans h).cell (by simp) (hcc k hlt 6 _ rfl)
        rwa [nth_eq p.lots .zero] at this
      have l7 : ∀ w', Ex [] wr w' → w'.cell? ⟨b2, off2 + k * 9 + 7, none⟩ = some (.int .i64 ((nth p.lots .zero k).con.c.hi)) := fun w' h => by
        have := (hE.trans h).cell (by simp) (hss k hlt 7 _ rfl)
        rwa [nth_eq p.lots .zero] at this
      have m7 : ∀ w', Ex [] wr w' → w'.cell? ⟨b3, off3 + k * 9 + 7, none⟩ = some (.int .i64 ((nth p.lots .zero k).con.c.hi)) := fun w' h => by
        have := (hE.trans h).cell (by simp) (hcc k hlt 7 _ rfl)
        rwa [nth_eq p.lots .zero] at this
      have l8 : ∀ w', Ex [] wr w' → w'.cell? ⟨b2, off2 + k * 9 + 8, none⟩ = some (.int .i64 ((nth p.lots .zero k).cost)) := fun w' h => by
        have := (hE.trans h).cell (by simp) (hss k hlt 8 _ rfl)
        rwa [nth_eq p.lots .zero] at this
      have m8 : ∀ w', Ex [] wr w' → w'.cell? ⟨b3, off3 + k * 9 + 8, none⟩ = some (.int .i64 ((nth p.lots .zero k).cost)) := fun w' h => by
        have := (hE.trans h).cell (by simp) (hcc k hlt 8 _ rfl)
        rwa [nth_eq p.lots .zero] at this
      clear hss hcc
      have hrr : Ex [] wr wr := Ex.refl _ _
      have f0_0r := fun w' (h : Ex [] wr w') => f0_0 w' (hE.trans h)
      have t0r := fun w' (h : Ex [] wr w') => t0 w' (hE.trans h)
      go_upto_region 13 with fail
      refine region_plan (fun w' => Ex [] wr w') [.pu [0, 2, 5, 7], .st [1, 6], .pu [3, 8], .st [4, 9], .pu [10]] (by kernel_rfl) (by kernel_rfl) (Ex.drew (by first | (with_reducible assumption) | (repeat (with_reducible first | exact Ex.refl _ _ | assumption | exact Ex.mono (by assumption) (by simp; done) | refine Ex.alloc ?_ _ | refine Ex.drew ?_ | refine Ex.drewN ?_ _ | refine Ex.setCell ?_ (by first | (left; simp; done) | (right; simp; done) | (right; simp; omega)) _ | refine Ex.trans ?_ (by assumption))))) ?_
      refine plan_pu (fun K hK => ?_)
      simp only [pick, List.drop_succ_cons, List.drop_zero, List.take_succ_cons, List.take_zero, List.cons_append, List.nil_append]
      iterate 4 (first | (refine wpYield_want ?_ (by rfl) (fun w' hS' => ?_) ?_; rotate_left; ((try dsimp only at hS'); go_simp; try with_reducible rfl); simp only [Act.put, List.setIfInBounds_toArray, List.set_cons_zero, List.set_cons_succ]) | (refine wpYield_skip (by rfl) ?_; simp only [Act.put, List.setIfInBounds_toArray, List.set_cons_zero, List.set_cons_succ]))
      refine wpYield_nil (hK _ ?_)
      clear hK K
      refine plan_st (fun K hK => ?_)
      simp only [pick, List.drop_succ_cons, List.drop_zero, List.take_succ_cons, List.take_zero, List.cons_append, List.nil_append]
      iterate 2 (first | (refine wpYield_want ?_ (by rfl) (fun w' hS' => ?_) ?_; rotate_left; ((try dsimp only at hS'); go_simp; try with_reducible rfl); simp only [Act.put, List.setIfInBounds_toArray, List.set_cons_zero, List.set_cons_succ]) | (refine wpYield_skip (by rfl) ?_; simp only [Act.put, List.setIfInBounds_toArray, List.set_cons_zero, List.set_cons_succ]))
      refine wpYield_nil (hK _ ?_)
      clear hK K
      refine plan_pu (fun K hK => ?_)
      simp only [pick, List.drop_succ_cons, List.drop_zero, List.take_succ_cons, List.take_zero, List.cons_append, List.nil_append]
      iterate 2 (first | (refine wpYield_want ?_ (by rfl) (fun w' hS' => ?_) ?_; rotate_left; ((try dsimp only at hS'); go_simp; try with_reducible rfl); simp only [Act.put, List.setIfInBounds_toArray, List.set_cons_zero, List.set_cons_succ]) | (refine wpYield_skip (by rfl) ?_; simp only [Act.put, List.setIfInBounds_toArray, List.set_cons_zero, List.set_cons_succ]))
      refine wpYield_nil (hK _ ?_)
      clear hK K
      refine plan_st (fun K hK => ?_)
      simp only [pick, List.drop_succ_cons, List.drop_zero, List.take_succ_cons, List.take_zero, List.cons_append, List.nil_append]
      iterate 2 (first | (refine wpYield_want ?_ (by rfl) (fun w' hS' => ?_) ?_; rotate_left; ((try dsimp only at hS'); go_simp; try with_reducible rfl); simp only [Act.put, List.setIfInBounds_toArray, List.set_cons_zero, List.set_cons_succ]) | (refine wpYield_skip (by rfl) ?_; simp only [Act.put, List.setIfInBounds_toArray, List.set_cons_zero, List.set_cons_succ]))
      refine wpYield_nil (hK _ ?_)
      clear hK K
      refine plan_pu (fun K hK => ?_)
      simp only [pick, List.drop_succ_cons, List.drop_zero, List.take_succ_cons, List.take_zero, List.cons_append, List.nil_append]
      iterate 1 (first | (refine wpYield_want ?_ (by rfl) (fun w' hS' => ?_) ?_; rotate_left; ((try dsimp only at hS'); go_simp; try with_reducible rfl); simp only [Act.put, List.setIfInBounds_toArray, List.set_cons_zero, List.set_cons_succ]) | (refine wpYield_skip (by rfl) ?_; simp only [Act.put, List.setIfInBounds_toArray, List.set_cons_zero, List.set_cons_succ]))
      refine wpYield_nil (hK _ ?_)
      clear hK K
      refine plan_nil ?_
      go_wp2_with fail
      go_roundg (p.lots.length - (k + 1))
      case rel => exact ⟨k + 1, rfl, by omega, by go_num, hE.drew⟩
      case measure => omega
    · have hkn : ¬ (k : Int) < (p.lots.length : Int) := by omega
      have g0 := f0_0 wr hE
      have g1 := f0_1 wr hE
      have g2 := f0_2 wr hE
      have g3 := f0_3 wr hE
      have g4 := f0_4 wr hE
      have g5 := f0_5 wr hE
      have g6 := f0_6 wr hE
      have g7 := f0_7 wr hE
      have g8 := f0_8 wr hE
      have y0 := x0 wr hE
      have y1 := x1 wr hE
      have y2 := x2 wr hE
      have y3 := x3 wr hE
      have y4 := x4 wr hE
      have y5 := x5 wr hE
      have y6 := x6 wr hE
      go_upto_region 20 with (first | (go_at_call 20; refine (refCharge_c p counts a c cap cap' _ (hsX.ext (by first | (with_reducible assumption) | (repeat (with_reducible first | exact Ex.refl _ _ | assumption | exact Ex.mono (by assumption) (by simp; done) | refine Ex.alloc ?_ _ | refine Ex.drew ?_ | refine Ex.drewN ?_ _ | refine Ex.setCell ?_ (by first | (left; simp; done) | (right; simp; done) | (right; simp; omega)) _ | refine Ex.trans ?_ (by assumption))))) (hcX.ext (by first | (with_reducible assumption) | (repeat (with_reducible first | exact Ex.refl _ _ | assumption | exact Ex.mono (by assumption) (by simp; done) | refine Ex.alloc ?_ _ | refine Ex.drew ?_ | refine Ex.drewN ?_ _ | refine Ex.setCell ?_ (by first | (left; simp; done) | (right; simp; done) | (right; simp; omega)) _ | refine Ex.trans ?_ (by assumption)))))).mono ?_; rintro e w1 ⟨he, h1⟩; rw [hch.out] at he; subst he; replace h1 : Ex [] Y w1 := Ex.trans (by first | (with_reducible assumption) | (repeat (with_reducible first | exact Ex.refl _ _ | assumption | exact Ex.mono (by assumption) (by simp; done) | refine Ex.alloc ?_ _ | refine Ex.drew ?_ | refine Ex.drewN ?_ _ | refine Ex.setCell ?_ (by first | (left; simp; done) | (right; simp; done) | (right; simp; omega)) _ | refine Ex.trans ?_ (by assumption)))) (h1.ex _)) | (go_at_call 21; refine (refWeigh_c p.lots counts a c cap cap' _ (hsX.ext (by first | (with_reducible assumption) | (repeat (with_reducible first | exact Ex.refl _ _ | assumption | exact Ex.mono (by assumption) (by simp; done) | refine Ex.alloc ?_ _ | refine Ex.drew ?_ | refine Ex.drewN ?_ _ | refine Ex.setCell ?_ (by first | (left; simp; done) | (right; simp; done) | (right; simp; omega)) _ | refine Ex.trans ?_ (by assumption))))) (hcX.ext (by first | (with_reducible assumption) | (repeat (with_reducible first | exact Ex.refl _ _ | assumption | exact Ex.mono (by assumption) (by simp; done) | refine Ex.alloc ?_ _ | refine Ex.drew ?_ | refine Ex.drewN ?_ _ | refine Ex.setCell ?_ (by first | (left; simp; done) | (right; simp; done) | (right; simp; omega)) _ | refine Ex.trans ?_ (by assumption))))) hlen').mono ?_; rintro e w1 ⟨rfl, h1⟩; replace h1 : Ex [] Y w1 := Ex.trans (by first | (with_reducible assumption) | (repeat (with_reducible first | exact Ex.refl _ _ | assumption | exact Ex.mono (by assumption) (by simp; done) | refine Ex.alloc ?_ _ | refine Ex.drew ?_ | refine Ex.drewN ?_ _ | refine Ex.setCell ?_ (by first | (left; simp; done) | (right; simp; done) | (right; simp; omega)) _ | refine Ex.trans ?_ (by assumption)))) (h1.ex _)))
      refine wp_at (fun Z => Ex [] Y Z ∧ ∃ bz, bz = w1.heap.size ∧ Z.heap[bz]? = some (.cells #[.int .i64 ((weighM p.lots counts).mass), .int .i64 ((weighM p.lots counts).con.a.lo), .int .i64 ((weighM p.lots counts).con.a.hi), .int .i64 ((weighM p.lots counts).con.b.lo), .int .i64 ((weighM p.lots counts).con.b.hi), .int .i64 ((weighM p.lots counts).con.c.lo), .int .i64 ((weighM p.lots counts).con.c.hi)] 36 (0, 0))) ⟨by (repeat (with_reducible first | exact Ex.refl _ _ | assumption | exact Ex.mono (by assumption) (by simp; done) | refine Ex.alloc ?_ _ | refine Ex.drew ?_ | refine Ex.drewN ?_ _ | refine Ex.setCell ?_ (by first | (left; simp; done) | (right; simp; done) | (right; simp; omega)) _ | refine Ex.trans ?_ (by assumption))), _, rfl, blk_new _ _⟩ (fun Z hZ => ?_)
      obtain ⟨hYZ, bz, hbz, hBz⟩ := hZ
      rw [← hbz]
      clear hbz h1
      have hrZ : Ex [] Z Z := Ex.refl _ _
      have hwZ : Ex [] w Z := hwY.trans hYZ
      have z0 := cellE (S := []) hBz (by simp) 0 rfl
      have z1 := cellE (S := []) hBz (by simp) 1 rfl
      have z2 := cellE (S := []) hBz (by simp) 2 rfl
      have z3 := cellE (S := []) hBz (by simp) 3 rfl
      have z4 := cellE (S := []) hBz (by simp) 4 rfl
      have z5 := cellE (S := []) hBz (by simp) 5 rfl
      have z6 := cellE (S := []) hBz (by simp) 6 rfl
      replace f0_0 := fun w' (h : Ex [] Z w') => f0_0 w' (hYZ.trans h)
      replace f0_1 := fun w' (h : Ex [] Z w') => f0_1 w' (hYZ.trans h)
      replace f0_2 := fun w' (h : Ex [] Z w') => f0_2 w' (hYZ.trans h)
      replace f0_3 := fun w' (h : Ex [] Z w') => f0_3 w' (hYZ.trans h)
      replace f0_4 := fun w' (h : Ex [] Z w') => f0_4 w' (hYZ.trans h)
      replace f0_5 := fun w' (h : Ex [] Z w') => f0_5 w' (hYZ.trans h)
      replace f0_6 := fun w' (h : Ex [] Z w') => f0_6 w' (hYZ.trans h)
      replace f0_7 := fun w' (h : Ex [] Z w') => f0_7 w' (hYZ.trans h)
      replace f0_8 := fun w' (h : Ex [] Z w') => f0_8 w' (hYZ.trans h)
      replace x0 := fun w' (h : Ex [] Z w') => x0 w' (hYZ.trans h)
      replace x1 := fun w' (h : Ex [] Z w') => x1 w' (hYZ.trans h)
      replace x2 := fun w' (h : Ex [] Z w') => x2 w' (hYZ.trans h)
      replace x3 := fun w' (h : Ex [] Z w') => x3 w' (hYZ.trans h)
      replace x4 := fun w' (h : Ex [] Z w') => x4 w' (hYZ.trans h)
      replace x5 := fun w' (h : Ex [] Z w') => x5 w' (hYZ.trans h)
      replace x6 := fun w' (h : Ex [] Z w') => x6 w' (hYZ.trans h)
      clear hrY g0 g1 g2 g3 g4 g5 g6 g7 g8 y0 y1 y2 y3 y4 y5 y6
      go_wp2_with (first | (go_at_call 22; refine (refFits_c p (weighM p.lots counts) a cap _).mono ?_; rintro e w1 ⟨rfl, h1⟩; replace h1 : Ex [] Z w1 := Ex.trans (by first | (with_reducible assumption) | (repeat (with_reducible first | exact Ex.refl _ _ | assumption | exact Ex.mono (by assumption) (by simp; done) | refine Ex.alloc ?_ _ | refine Ex.drew ?_ | refine Ex.drewN ?_ _ | refine Ex.setCell ?_ (by first | (left; simp; done) | (right; simp; done) | (right; simp; omega)) _ | refine Ex.trans ?_ (by assumption)))) (h1.ex _)) | (go_at_call 12; refine (known_c _).mono ?_; rintro e wk ⟨rfl, hk1⟩; replace hk1 : Ex [] Z wk := Ex.trans (by first | (with_reducible assumption) | (repeat (with_reducible first | exact Ex.refl _ _ | assumption | exact Ex.mono (by assumption) (by simp; done) | refine Ex.alloc ?_ _ | refine Ex.drew ?_ | refine Ex.drewN ?_ _ | refine Ex.setCell ?_ (by first | (left; simp; done) | (right; simp; done) | (right; simp; omega)) _ | refine Ex.trans ?_ (by assumption)))) (hk1.ex _)))
      go_returns
      exact ⟨rfl, hwZ.trans hk1⟩
end Go.Proofs.Ytojnpaenpaobcaa
