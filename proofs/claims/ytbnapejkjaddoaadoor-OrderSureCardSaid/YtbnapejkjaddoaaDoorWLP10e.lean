/- Plain law of OrderPasses. No condition. -/
import Derived.Test.YtbnapejkjaddoaaDoorWLP10d
import Derived.Laws.StructEq
namespace Go.Proofs.YtbnapejkjaddoaaDoor
open Go.RowKit
set_option maxRecDepth 100000
def lgB (w : WfT) : Bool := decide ((w.2.2.1.size : Int) > 40) || (decide ((w.2.2.2.1.size : Int) > 40) || (decide ((w.2.2.2.2.1.size : Int) > 40) || (decide ((w.2.2.2.2.2.1.size : Int) > 40) || (decide ((w.2.2.2.2.2.2.1.size : Int) > 40) || decide ((w.2.2.2.2.2.2.2.size : Int) > 40)))))
theorem llong_eq (F : Nat) (w : WfT) : llong_S F w = some (lgB w) := by
  unfold llong_S lgB
  simp only [b2, bs]
  change some (bif (decide ((w.2.2.1.size : Int) > 40) || (decide ((w.2.2.2.1.size : Int) > 40) || (decide ((w.2.2.2.2.1.size : Int) > 40) || (decide ((w.2.2.2.2.2.1.size : Int) > 40) || (decide ((w.2.2.2.2.2.2.1.size : Int) > 40) || decide ((w.2.2.2.2.2.2.2.size : Int) > 40)))))) then true else false) = _
  rw [ct, Bool.or_false]
theorem lg_short {w : WfT} (h : lgB w = false) : shortW w := by
  unfold lgB at h
  simp only [Bool.or_eq_false_iff, decide_eq_false_iff_not] at h
  unfold shortW
  omega
theorem flt_neg (s : SpT) (w : WfT) : decide (fltI s w < 0) = (fltI s w == (-1 : Int)) ∧ decide (fltI s w ≥ 0) = !(fltI s w == (-1 : Int)) := by
  unfold fltI
  generalize outB s.1.1 w.1.1 = a; generalize outB s.1.2.1 w.1.2.1 = b; generalize outB s.1.2.2.1 w.1.2.2.1 = c; generalize outB s.1.2.2.2.1 w.1.2.2.2.1 = d; generalize outB s.1.2.2.2.2.1 w.1.2.2.2.2.1 = e; generalize outB s.1.2.2.2.2.2 w.1.2.2.2.2.2 = f
  generalize fltB s.2 w.2.1 = g
  cases a <;> cases b <;> cases c <;> cases d <;> cases e <;> cases f <;> cases g <;> exact ⟨rfl, rfl⟩
theorem passes_eq (F : Nat) (s : SpT) (w : WfT) (hu : 0 ≤ w.2.1 ∧ w.2.1 ≤ 255) (hs : shortW w) : passes_S F s w = some (bif spB s && wfB w then (grI s w, 0) else (0, 2)) := by
  unfold passes_S grI
  rw [isSp, isWf F w hu hs]
  cases spB s with
  | false => rfl
  | true =>
    cases wfB w with
    | false => rfl
    | true =>
      show ob (fault_S F s w) _ = _
      rw [fault_eq]
      show (bif decide (fltI s w < 0) then _ else ob (never_S F s w) _) = _
      rw [never_eq, (flt_neg s w).1]
      cases (fltI s w == (-1 : Int)) with
      | true => rfl
      | false => cases (nevL s.1 w.1 || nevB s.2 w.2.1) <;> rfl
abbrev EvT := Int × (RgT × (RgT × ByteArray))
def lnL (s : SpT) (w : WfT) : List EvT := [(0, (w.1.1, (s.1.1, w.2.2.1))), (1, (w.1.2.1, (s.1.2.1, w.2.2.2.1))), (2, (w.1.2.2.1, (s.1.2.2.1, w.2.2.2.2.1))), (3, (w.1.2.2.2.1, (s.1.2.2.2.1, w.2.2.2.2.2.1))), (4, (w.1.2.2.2.2.1, (s.1.2.2.2.2.1, w.2.2.2.2.2.2.1))), (5, (w.1.2.2.2.2.2, (s.1.2.2.2.2.2, w.2.2.2.2.2.2.2)))]
theorem certify_eq (F : Nat) (s : SpT) (w : WfT) (hu : 0 ≤ w.2.1 ∧ w.2.1 ≤ 255) (hs : shortW w) : certify_S F s w = some (bif spB s && wfB w then (bif fltI s w == (-1 : Int) then ((0, 0), lnL s w) else ((fltI s w, 100), [])) else ((0, 2), [])) := by
  unfold certify_S
  rw [isSp, isWf F w hu hs]
  cases spB s with
  | false => rfl
  | true =>
    cases wfB w with
    | false => rfl
    | true =>
      show ob (fault_S F s w) _ = _
      rw [fault_eq]
      show (bif decide (fltI s w ≥ 0) then some ((fltI s w, 100), []) else some ((0, 0), lnL s w)) = _
      rw [(flt_neg s w).2]
      cases (fltI s w == (-1 : Int)) <;> rfl
theorem ba_refl (x : ByteArray) : (x == x) = true := by rw [beq_toListBytes]; exact beq_self_eq_true _
theorem oPasses_law0 (s : SpT) (w : WfT) (hsu : 0 ≤ s.2 ∧ s.2 ≤ 255) (hu : 0 ≤ w.2.1 ∧ w.2.1 ≤ 255) : oPasses_S 1000 s w = some true := by
  unfold oPasses_S
  rw [llong_eq]
  cases hl : lgB w with
  | true => rfl
  | false =>
    have hs := lg_short hl
    rw [passes_eq 1000 s w hu hs, certify_eq 1000 s w hu hs, rSp, rWf 1000 (by decide) w]
    cases hsp : spB s with
    | false => rfl
    | true =>
      cases hwf : wfB w with
      | false => rfl
      | true =>
        have hS : rgB s.1 = true ∧ s.2 ≤ 31 := by
          unfold spB at hsp
          simpa using hsp
        have hW : rgB w.1 = true ∧ 1 ≤ w.2.1 ∧ w.2.1 ≤ 31 := by
          unfold wfB at hwf
          simp only [Bool.and_eq_true, decide_eq_true_eq] at hwf
          exact ⟨hwf.1, hwf.2.1⟩
        rw [rGrade_eq 1000 994 rfl s w ⟨hsu.1, hS.2⟩ ⟨by omega, hW.2.2⟩ hS.1 hW.1, rAt_eq 1000 994 rfl s w ⟨hsu.1, hS.2⟩ ⟨by omega, hW.2.2⟩]
        simp only [ob, Bool.and_self, cond_true, cond_false, bne_self_eq_false, Bool.not_true]
        rw [(flt_neg s w).2]
        cases hf : (fltI s w == (-1 : Int)) with
        | false => simp
        | true =>
          simp only [Bool.not_true, cond_true, cond_false]
          simp [nth, lnL, inB, ba_refl]
end Go.Proofs.YtbnapejkjaddoaaDoor
