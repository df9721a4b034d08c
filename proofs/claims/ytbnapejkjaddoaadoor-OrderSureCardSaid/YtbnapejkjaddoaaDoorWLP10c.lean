/- Plain laws of chapter 10, on: a wafer is valid. No condition. -/
import Derived.Test.YtbnapejkjaddoaaDoorWLP10b
namespace Go.Proofs.YtbnapejkjaddoaaDoor
open Go.RowKit
set_option maxRecDepth 100000
def gsL (w : WfT) : List ByteArray := w.2.2.1 :: (w.2.2.2.1 :: (w.2.2.2.2.1 :: (w.2.2.2.2.2.1 :: (w.2.2.2.2.2.2.1 :: (w.2.2.2.2.2.2.2 :: [])))))
def wfB (w : WfT) : Bool := rgB w.1 && ((decide (w.2.1 ≥ (1 : Int)) && decide (w.2.1 ≤ (31 : Int))) && (gB w.2.2.1 && (gB w.2.2.2.1 && (gB w.2.2.2.2.1 && (gB w.2.2.2.2.2.1 && (gB w.2.2.2.2.2.2.1 && gB w.2.2.2.2.2.2.2))))))
theorem L0_step (F n i : Nat) (w : WfT) (hi : i < 6) (hF : 20 < F) (g : ByteArray) (hg : nth (gsL w) (ByteArray.mk (Array.mk [])) i = g) :
    rWafer_L0 F (n + 1) i w = bif gB g then rWafer_L0 F n ((i + 1 : Nat) : Int) w else some (.inl false) := by
  have hW : IntKind.wrap IntKind.i64 ((i : Int) + (1 : Int)) = ((i + 1 : Nat) : Int) := by rw [w64 _ (by omega)]; omega
  have hN : inB (i : Int) 6 = true := by
    unfold inB
    simp only [Bool.and_eq_true, decide_eq_true_eq]
    omega
  show (bif (decide ((i : Int) < (6 : Int))) then (bif (inB (i : Int) 6) then (bif (decide (((nth (gsL w) (ByteArray.mk (Array.mk [])) (i : Int).toNat).size : Int) < (1 : Int))) then _ else (bif (decide (((nth (gsL w) (ByteArray.mk (Array.mk [])) (i : Int).toNat).size : Int) > (20 : Int))) then _ else (ob (rWafer_L1 F F (i : Int) (nth (gsL w) (ByteArray.mk (Array.mk [])) (i : Int).toNat) ((0 : Nat) : Int) (nth (gsL w) (ByteArray.mk (Array.mk [])) (i : Int).toNat) ((nth (gsL w) (ByteArray.mk (Array.mk [])) (i : Int).toNat).size : Int) (decide (((nth (gsL w) (ByteArray.mk (Array.mk [])) (i : Int).toNat).size : Int) > (20 : Int))) w) (fun o_ => su o_ (fun s5 => (some (.inl s5))) (fun s6 => (rWafer_L0 F n (IntKind.wrap IntKind.i64 (s6.1.1 + (1 : Int))) s6.2)))))) else none) else (some (.inr ()))) = _
  rw [Int.toNat_natCast, hg, hN, show decide ((i : Int) < (6 : Int)) = true from decide_eq_true (by omega)]
  simp only [cond_true]
  by_cases h1 : 1 ≤ g.size
  · by_cases h2 : g.size ≤ 20
    · rw [show decide ((g.size : Int) < (1 : Int)) = false from decide_eq_false (by omega), show decide ((g.size : Int) > (20 : Int)) = false from decide_eq_false (by omega)]
      simp only [cond_false]
      rw [L1_all F i g g g.size false w (by omega) g.size F 0 (by omega) (by omega), gB_all g h1]
      unfold gB
      rw [show decide ((g.size : Int) ≥ 1) = true from decide_eq_true (by omega), show decide ((g.size : Int) ≤ 20) = true from decide_eq_true (by omega), Bool.and_true, Bool.true_and]
      cases (ltr (bAt g 0) && g.data.toList.all (fun b => okC (b.toNat : Int))) with
      | true => simp only [cond_true, ob, su, hW]
      | false => rfl
    · rw [show decide ((g.size : Int) < (1 : Int)) = false from decide_eq_false (by omega), show decide ((g.size : Int) > (20 : Int)) = true from decide_eq_true (by omega)]
      unfold gB
      rw [show decide ((g.size : Int) ≤ 20) = false from decide_eq_false (by omega), Bool.and_false, Bool.false_and]
      rfl
  · rw [show decide ((g.size : Int) < (1 : Int)) = true from decide_eq_true (by omega)]
    unfold gB
    rw [show decide ((g.size : Int) ≥ 1) = false from decide_eq_false (by omega), Bool.false_and, Bool.false_and]
    rfl
theorem L0_end (F n : Nat) (w : WfT) : rWafer_L0 F (n + 1) ((6 : Nat) : Int) w = some (.inr ()) := rfl
theorem L0_all (F : Nat) (hF : 20 < F) (w : WfT) : rWafer_L0 F F 0 w = bif (gB w.2.2.1 && (gB w.2.2.2.1 && (gB w.2.2.2.2.1 && (gB w.2.2.2.2.2.1 && (gB w.2.2.2.2.2.2.1 && gB w.2.2.2.2.2.2.2))))) then some (.inr ()) else some (.inl false) := by
  obtain ⟨n, hn⟩ : ∃ n, F = n + 7 := ⟨F - 7, by omega⟩
  have e : ∀ m, rWafer_L0 F m 0 w = rWafer_L0 F m ((0 : Nat) : Int) w := fun _ => rfl
  rw [e]
  conv => lhs; arg 2; rw [hn]
  rw [L0_step F (n + 6) 0 w (by omega) hF w.2.2.1 rfl, L0_step F (n + 5) 1 w (by omega) hF w.2.2.2.1 rfl, L0_step F (n + 4) 2 w (by omega) hF w.2.2.2.2.1 rfl, L0_step F (n + 3) 3 w (by omega) hF w.2.2.2.2.2.1 rfl, L0_step F (n + 2) 4 w (by omega) hF w.2.2.2.2.2.2.1 rfl, L0_step F (n + 1) 5 w (by omega) hF w.2.2.2.2.2.2.2 rfl, L0_end]
  generalize gB w.2.2.1 = a; generalize gB w.2.2.2.1 = b; generalize gB w.2.2.2.2.1 = c; generalize gB w.2.2.2.2.2.1 = d; generalize gB w.2.2.2.2.2.2.1 = e; generalize gB w.2.2.2.2.2.2.2 = f
  cases a <;> cases b <;> cases c <;> cases d <;> cases e <;> cases f <;> rfl
theorem rWf (F : Nat) (hF : 20 < F) (w : WfT) : rWafer_S F w = some (wfB w) := by
  unfold rWafer_S wfB
  rw [rrR]
  cases rgB w.1 with
  | false => rfl
  | true =>
    by_cases h1 : w.2.1 ≥ 1
    · by_cases h2 : w.2.1 ≤ 31
      · rw [show decide (w.2.1 < (1 : Int)) = false from decide_eq_false (by omega), show decide (w.2.1 > (31 : Int)) = false from decide_eq_false (by omega), show decide (w.2.1 ≥ (1 : Int)) = true from decide_eq_true h1, show decide (w.2.1 ≤ (31 : Int)) = true from decide_eq_true h2]
        show ob (rWafer_L0 F F 0 w) _ = _
        rw [L0_all F hF w]
        generalize (gB w.2.2.1 && (gB w.2.2.2.1 && (gB w.2.2.2.2.1 && (gB w.2.2.2.2.2.1 && (gB w.2.2.2.2.2.2.1 && gB w.2.2.2.2.2.2.2))))) = q
        cases q <;> rfl
      · rw [show decide (w.2.1 < (1 : Int)) = false from decide_eq_false (by omega), show decide (w.2.1 > (31 : Int)) = true from decide_eq_true (by omega), show decide (w.2.1 ≥ (1 : Int)) = true from decide_eq_true h1, show decide (w.2.1 ≤ (31 : Int)) = false from decide_eq_false h2]
        rfl
    · rw [show decide (w.2.1 < (1 : Int)) = true from decide_eq_true (by omega), show decide (w.2.1 ≥ (1 : Int)) = false from decide_eq_false h1]
      rfl
theorem isWf1 (F : Nat) (s : ByteArray) (hs : s.size ≤ 1000000) : isWafer1_S F s = some (!gB s) := by
  unfold isWafer1_S; rw [isGa F s hs]
/-- No text is long. -/
def shortW (w : WfT) : Prop := w.2.2.1.size ≤ 40 ∧ w.2.2.2.1.size ≤ 40 ∧ w.2.2.2.2.1.size ≤ 40 ∧ w.2.2.2.2.2.1.size ≤ 40 ∧ w.2.2.2.2.2.2.1.size ≤ 40 ∧ w.2.2.2.2.2.2.2.size ≤ 40
theorem isWf (F : Nat) (w : WfT) (hu : 0 ≤ w.2.1 ∧ w.2.1 ≤ 255) (hs : shortW w) : isWafer_S F w = some (wfB w) := by
  unfold isWafer_S wfB
  obtain ⟨h1, h2, h3, h4, h5, h6⟩ := hs
  rw [areR, with_S, w64 w.2.1 (by omega)]
  rw [isWf1 F _ (by omega), isWf1 F _ (by omega), isWf1 F _ (by omega), isWf1 F _ (by omega), isWf1 F _ (by omega), isWf1 F _ (by omega)]
  generalize (decide (w.2.1 ≥ (1 : Int)) && decide (w.2.1 ≤ (31 : Int))) = x
  generalize gB w.2.2.1 = a; generalize gB w.2.2.2.1 = b; generalize gB w.2.2.2.2.1 = c; generalize gB w.2.2.2.2.2.1 = d; generalize gB w.2.2.2.2.2.2.1 = e; generalize gB w.2.2.2.2.2.2.2 = f
  cases rgB w.1 <;> cases x <;> cases a <;> cases b <;> cases c <;> cases d <;> cases e <;> cases f <;> rfl
end Go.Proofs.YtbnapejkjaddoaaDoor
