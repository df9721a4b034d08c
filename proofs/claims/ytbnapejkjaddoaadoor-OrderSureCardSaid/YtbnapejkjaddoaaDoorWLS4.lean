/- Plain law of OrderSure, joined. No condition. -/
import Derived.Test.YtbnapejkjaddoaaDoorWLS3
namespace Go.Proofs.YtbnapejkjaddoaaDoor
open Go.RowKit
set_option maxRecDepth 100000
theorem Z_last (s0 s : SpT) (w0 w : WfT) (t : TrT) (l : List EvT) (h : Inv6 6 s0 w0 s w) (hsp : spB s0 = true) (hwf : wfB w0 = true) (hs : shortW w0) (hu : 0 ≤ w0.2.1 ∧ w0.2.1 ≤ 255) (hf : fltB s0.2 w0.2.1 = false) :
    (ob (passes_S 1000 (s, w, t, l).1 (s, w, t, l).2.1) (fun r3 => (bif (r3.2 == (0 : Int)) then (bif (r3.1 == (1 : Int)) then (some true) else (some false)) else (some false)))) = some true := by
  obtain ⟨e1, e2, g1, g2, g3, g4, g5, g6, _⟩ := h
  have hS : spB s = true := by
    unfold spB at *
    rw [e1]
    simp only [Bool.and_eq_true] at hsp ⊢
    refine ⟨?_, hsp.2⟩
    unfold rgB
    simp only [Bool.and_eq_true]
    exact ⟨g1.1, g2.1, g3.1, g4.1, g5.1, g6.1⟩
  have hW : wfB w = true := by
    unfold wfB at *
    rw [e2]
    simp only [Bool.and_eq_true] at hwf ⊢
    refine ⟨?_, hwf.2⟩
    unfold rgB
    simp only [Bool.and_eq_true]
    exact ⟨g1.2.1, g2.2.1, g3.2.1, g4.2.1, g5.2.1, g6.2.1⟩
  have hF : (fltI s w == (-1 : Int)) = true := fltI_neg.2 ⟨g1.2.2, g2.2.2, g3.2.2, g4.2.2, g5.2.2, g6.2.2, by rw [e1, e2]; exact hf⟩
  have hsw : shortW w := by unfold shortW; rw [e2]; exact hs
  show ob (passes_S 1000 s w) _ = _
  rw [passes_eq 1000 s w (by rw [e2]; exact hu) hsw, hS, hW]
  unfold grI
  rw [hF]
  rfl
theorem Z_eq (s : SpT) (w : WfT) (t : TrT) (hsp : spB s = true) (hwf : wfB w = true) (hs : shortW w) (hu : 0 ≤ w.2.1 ∧ w.2.1 ≤ 255) (hf : (fltI s w == (-1 : Int)) = true) : oSure_Z 1000 ((1, 0), (s, w, t, lnL s w)) = some true := by
  have hff := fltI_neg.1 hf
  have hr : rgB s.1 = true := by unfold spB at hsp; simp only [Bool.and_eq_true] at hsp; exact hsp.1
  have hw := hwf
  unfold wfB at hw
  simp only [Bool.and_eq_true] at hw
  obtain ⟨hr', _, q1, q2, q3, q4, q5, q6⟩ := hw
  unfold rgB at hr hr'
  simp only [Bool.and_eq_true] at hr hr'
  obtain ⟨o1, o2, o3, o4, o5, o6, o7⟩ := hff
  have h0 : Inv6 0 s w s w := ⟨rfl, rfl, ⟨hr.1, hr'.1, o1⟩, ⟨hr.2.1, hr'.2.1, o2⟩, ⟨hr.2.2.1, hr'.2.2.1, o3⟩, ⟨hr.2.2.2.1, hr'.2.2.2.1, o4⟩, ⟨hr.2.2.2.2.1, hr'.2.2.2.2.1, o5⟩, ⟨hr.2.2.2.2.2, hr'.2.2.2.2.2, o6⟩, fun _ => ⟨rfl, rfl⟩, fun _ => ⟨rfl, rfl⟩, fun _ => ⟨rfl, rfl⟩, fun _ => ⟨rfl, rfl⟩, fun _ => ⟨rfl, rfl⟩, fun _ => ⟨rfl, rfl⟩⟩
  obtain ⟨s1, w1, p1, h1⟩ := P0_ok s w (full_of q1) s w t h0
  obtain ⟨s2, w2, p2, h2⟩ := P1_ok s w (full_of q2) s1 w1 t h1
  obtain ⟨s3, w3, p3, h3⟩ := P2_ok s w (full_of q3) s2 w2 t h2
  obtain ⟨s4, w4, p4, h4⟩ := P3_ok s w (full_of q4) s3 w3 t h3
  obtain ⟨s5, w5, p5, h5⟩ := P4_ok s w (full_of q5) s4 w4 t h4
  obtain ⟨s6, w6, p6, h6⟩ := P5_ok s w (full_of q6) s5 w5 t h5
  show ob (oSure_P0 s w t (lnL s w)) _ = _
  rw [p1]
  show ob (oSure_P1 s1 w1 t (lnL s w)) _ = _
  rw [p2]
  show ob (oSure_P2 s2 w2 t (lnL s w)) _ = _
  rw [p3]
  show ob (oSure_P3 s3 w3 t (lnL s w)) _ = _
  rw [p4]
  show ob (oSure_P4 s4 w4 t (lnL s w)) _ = _
  rw [p5]
  show ob (oSure_P5 s5 w5 t (lnL s w)) _ = _
  rw [p6]
  exact Z_last s s6 w w6 t (lnL s w) h6 hsp hwf hs hu o7
theorem oSure_law0 (s : SpT) (w : WfT) (t : TrT) (hsu : 0 ≤ s.2 ∧ s.2 ≤ 255) (hu : 0 ≤ w.2.1 ∧ w.2.1 ≤ 255) (ht : 0 ≤ t.2.1 ∧ t.2.1 ≤ 255) (hp : (0 ≤ t.1.1 ∧ t.1.1 ≤ 255) ∧ (0 ≤ t.1.2.1 ∧ t.1.2.1 ≤ 255) ∧ (0 ≤ t.1.2.2.1 ∧ t.1.2.2.1 ≤ 255) ∧ (0 ≤ t.1.2.2.2.1 ∧ t.1.2.2.2.1 ≤ 255) ∧ (0 ≤ t.1.2.2.2.2.1 ∧ t.1.2.2.2.2.1 ≤ 255) ∧ (0 ≤ t.1.2.2.2.2.2 ∧ t.1.2.2.2.2.2 ≤ 255)) : oSure_S 1000 s w t = some true := by
  rw [oSure_unf, llong_eq]
  cases hl : lgB w with
  | true => rfl
  | false =>
    have hs := lg_short hl
    show ob (passes_S 1000 s w) _ = _
    rw [passes_eq 1000 s w hu hs]
    show ob (certify_S 1000 s w) _ = _
    rw [certify_eq 1000 s w hu hs]
    cases hsp : spB s with
    | false => rfl
    | true =>
      cases hwf : wfB w with
      | false => rfl
      | true =>
        have hS : rgB s.1 = true ∧ s.2 ≤ 31 := by
          unfold spB at hsp
          simpa using hsp
        have hW : rgB w.1 = true ∧ 1 ≤ w.2.1 ∧ w.2.1 ≤ 31 := by
          unfold wfB at hwf
          simp only [Bool.and_eq_true, decide_eq_true_eq] at hwf
          exact ⟨hwf.1, hwf.2.1⟩
        have hr' := hW.1
        unfold rgB at hr'
        simp only [Bool.and_eq_true] at hr'
        obtain ⟨w1, w2, w3, w4, w5, w6⟩ := hr'
        obtain ⟨t1, t2, t3, t4, t5, t6⟩ := hp
        have hB := bits ⟨hsu.1, hS.2⟩ (show 0 ≤ w.2.1 ∧ w.2.1 ≤ 31 by omega)
        have hk := rg_lt t ht
        simp only [Bool.and_self, cond_true]
        obtain ⟨L, hL⟩ : ∃ L, L = (bif fltI s w == (-1 : Int) then ((0, 0), lnL s w) else ((fltI s w, 100), []) : (Int × Int) × List EvT) := ⟨_, rfl⟩
        rw [← hL]
        show ob (oSure_X0 (grI s w) L.1.2 s w t L.2) _ = _
        rw [X0_ok]
        show ob (oSure_X1 ((grI s w, L.1.2, inV s.1.1 w.1.1 t.1.1, _, _, _), (s, w, t, L.2))) _ = _
        rw [X1_ok]
        show ob (oSure_X2 ((grI s w, L.1.2, _), (s, w, t, L.2))) _ = _
        rw [X2_ok]
        show ob (oSure_X3 ((grI s w, L.1.2, _), (s, w, t, L.2))) _ = _
        rw [X3_ok]
        show ob (oSure_X4 ((grI s w, L.1.2, _), (s, w, t, L.2))) _ = _
        rw [X4_ok]
        show ob (oSure_X5 ((grI s w, L.1.2, _), (s, w, t, L.2))) _ = _
        rw [X5_ok]
        show ob (oSure_R ((grI s w, L.1.2, _), (s, w, t, L.2))) _ = _
        rw [R_eq (grI s w) L.1.2 _ s w t L.2 ht ?h1 ?h3]
        case h1 =>
          intro hg
          have hf : (fltI s w == (-1 : Int)) = true := by
            unfold grI at hg
            cases h : (fltI s w == (-1 : Int)) with
            | true => rfl
            | false =>
              rw [h] at hg
              cases h2 : (nevL s.1 w.1 || nevB s.2 w.2.1) <;> (rw [h2] at hg; cases hg)
          obtain ⟨o1, o2, o3, o4, o5, o6, o7⟩ := fltI_neg.1 hf
          rw [inV_yes w1 t1.1 t1.2 o1, inV_yes w2 t2.1 t2.2 o2, inV_yes w3 t3.1 t3.2 o3, inV_yes w4 t4.1 t4.2 o4, inV_yes w5 t5.1 t5.2 o5, inV_yes w6 t6.1 t6.2 o6]
          refine ⟨rfl, fun hb => ?_⟩
          rw [hB.1] at o7
          have h0 := at_no o7 hk hb
          rw [bit_not ⟨hsu.1, hS.2⟩ hk] at h0
          simpa using h0
        case h3 =>
          intro hg hK hb
          have hn : nevL s.1 w.1 || nevB s.2 w.2.1 := by
            unfold grI at hg
            cases h : (fltI s w == (-1 : Int)) with
            | true => rw [h] at hg; cases hg
            | false =>
              rw [h] at hg
              cases h2 : (nevL s.1 w.1 || nevB s.2 w.2.1) with
              | true => rfl
              | false => rw [h2] at hg; cases hg
          simp only [Bool.and_eq_true] at hK
          obtain ⟨⟨⟨⟨⟨k1, k2⟩, k3⟩, k4⟩, k5⟩, k6⟩ := hK
          have no : ∀ {a b : RgT} {x : Int}, okR b = true → 0 ≤ x ∧ x ≤ 255 → inV a b x = true → apB a b = false := fun hb hx hi => by
            cases h : apB _ _ with
            | false => rfl
            | true => rw [inV_no hb hx.1 hx.2 h] at hi; cases hi
          have hN : nevL s.1 w.1 = false := by
            unfold nevL
            rw [no w1 t1 k1, no w2 t2 k2, no w3 t3 k3, no w4 t4 k4, no w5 t5 k5, no w6 t6 k6]
            rfl
          rw [hN, Bool.false_or, hB.2] at hn
          exact gr_no (by simpa using hn) hk hb
        show oSure_Z 1000 ((grI s w, L.1.2), (s, w, t, L.2)) = _
        cases hf : (fltI s w == (-1 : Int)) with
        | true =>
          rw [hf] at hL
          rw [hL, show grI s w = 1 by unfold grI; rw [hf]; rfl]
          exact Z_eq s w t hsp hwf hs hu hf
        | false =>
          rw [hf] at hL
          rw [hL]
          unfold grI
          rw [hf]
          cases (nevL s.1 w.1 || nevB s.2 w.2.1) <;> rfl
end Go.Proofs.YtbnapejkjaddoaaDoor
