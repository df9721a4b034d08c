/- The plain law of SlicePitches. No condition. -/
import Derived.Test.YtdfgmfddkcmalaaDoorWLR8g
import Derived.Test.YtdfgmfddkcmalaaDoorWX8q
namespace Go.Proofs.YtdfgmfddkcmalaaDoor
open Go.RowKit
set_option maxRecDepth 100000
theorem dlt (a b : Int) : decide (a < b) = !decide (b ≤ a) := by
  by_cases h : a < b
  · rw [dec_t h, dec_f (show ¬ b ≤ a by omega)]; rfl
  · rw [dec_f h, dec_t (show b ≤ a by omega)]; rfl
theorem dgt (a b : Int) : decide (a > b) = !decide (a ≤ b) := by
  by_cases h : a > b
  · rw [dec_t h, dec_f (show ¬ a ≤ b by omega)]; rfl
  · rw [dec_f h, dec_t (show a ≤ b by omega)]; rfl
theorem has_eq (F : Nat) (r : RgT) (n : Int) : has_S F r n = some (inOk n r.1 r.2) := by
  unfold has_S inOk
  change (bif decide (r.1 ≤ n) then _ else _) = _
  cases decide (r.1 ≤ n) <;> rfl
abbrev WnT := RgT × (Int × (RgT × Int))
/-- What is wanted is valid. -/
def wnOk (w : WrT) (x : WnT) : Bool := wrOk w && (rgOk x.1 0 10000000 && rgOk x.2.2.1 0 10000000)
structure Wn (w : WrT) (x : WnT) : Prop where
  hd : 1 ≤ w.1.1 ∧ w.1.1 ≤ w.1.2 ∧ w.1.2 ≤ 10000000
  he : 0 ≤ w.2.1.1 ∧ w.2.1.1 ≤ w.2.1.2 ∧ w.2.1.2 ≤ 10000000
  hl : 0 ≤ w.2.2 ∧ w.2.2 ≤ 10000000
  hs : 0 ≤ x.1.1 ∧ x.1.1 ≤ x.1.2 ∧ x.1.2 ≤ 10000000
  ht : 0 ≤ x.2.2.1.1 ∧ x.2.2.1.1 ≤ x.2.2.1.2 ∧ x.2.2.1.2 ≤ 10000000
theorem wn_of {w : WrT} {x : WnT} (h : wnOk w x = true) : Wn w x := by
  unfold wnOk wrOk rgOk inOk at h
  simp only [Bool.and_eq_true, decide_eq_true_eq] at h
  obtain ⟨⟨⟨a1, a2, a3⟩, ⟨b1, b2, b3⟩, c1, c2⟩, ⟨d1, d2, d3⟩, e1, e2, e3⟩ := h
  exact ⟨⟨a1, a2, a3⟩, ⟨b1, b2, b3⟩, ⟨c1, c2⟩, ⟨d1, d2, d3⟩, ⟨e1, e2, e3⟩⟩
def mx (a b : Int) : Int := if a > b then a else b
def wdst (w : WrT) (x : WnT) : Int := w.1.2 + x.1.2
def nrst (w : WrT) (x : WnT) : Int := dAt w.1.1 w.2.1.2 (x.2.1 - 1).toNat + x.1.1
def ptc (w : WrT) (x : WnT) : RgT × Int := bif decide (mx 1 (wdst w x + mx 1 x.2.2.1.1) > mn 10000000 (x.2.2.1.2 + nrst w x)) then ((0, 0), 7) else ((mx 1 (wdst w x + mx 1 x.2.2.1.1), mn 10000000 (x.2.2.1.2 + nrst w x)), 0)
theorem pitches_bad (F : Nat) (w : WrT) (x : WnT) (h : wnOk w x = false) : pitches_S F w x.1 x.2.1 x.2.2.1 = some ((0, 0), 2) := by
  unfold pitches_S isWidth_S
  rw [isWr, isRg, isRg]
  unfold wnOk at h
  cases h1 : wrOk w with
  | false => rfl
  | true =>
    cases h2 : rgOk x.1 0 10000000 with
    | false => rfl
    | true =>
      cases h3 : rgOk x.2.2.1 0 10000000 with
      | false => rfl
      | true => rw [h1, h2, h3] at h; cases h
theorem pitches_def (F : Nat) (w : WrT) (x : WnT) (h : wnOk w x = true) : pitches_S F w x.1 x.2.1 x.2.2.1 = ob (within_S F x.2.1 1 2000) (fun r3 => bif (!r3) then some ((0, 0), 3) else
    (bif decide (mx 1 (IntKind.wrap IntKind.i64 ((IntKind.wrap IntKind.i64 (w.1.2 + x.1.2)) + mx 1 x.2.2.1.1)) > mn 10000000 (IntKind.wrap IntKind.i64 (x.2.2.1.2 + IntKind.wrap IntKind.i64 (mx0 (IntKind.wrap IntKind.i64 (w.1.1 - IntKind.wrap IntKind.i64 (IntKind.wrap IntKind.i64 (x.2.1 - 1) * w.2.1.2))) + x.1.1)))) then some ((0, 0), 7)
     else some ((mx 1 (IntKind.wrap IntKind.i64 ((IntKind.wrap IntKind.i64 (w.1.2 + x.1.2)) + mx 1 x.2.2.1.1)), mn 10000000 (IntKind.wrap IntKind.i64 (x.2.2.1.2 + IntKind.wrap IntKind.i64 (mx0 (IntKind.wrap IntKind.i64 (w.1.1 - IntKind.wrap IntKind.i64 (IntKind.wrap IntKind.i64 (x.2.1 - 1) * w.2.1.2))) + x.1.1)))), 0))) := by
  unfold pitches_S isWidth_S
  rw [isWr, isRg, isRg]
  unfold wnOk at h
  cases h1 : wrOk w with
  | false => rw [h1] at h; cases h
  | true =>
    cases h2 : rgOk x.1 0 10000000 with
    | false => rw [h1, h2] at h; cases h
    | true =>
      cases h3 : rgOk x.2.2.1 0 10000000 with
      | false => rw [h1, h2, h3] at h; cases h
      | true => rfl
theorem pitches_few (F : Nat) (w : WrT) (x : WnT) (h : wnOk w x = true) (hs : x.2.1 < 1) : pitches_S F w x.1 x.2.1 x.2.2.1 = some ((0, 0), 3) := by
  rw [pitches_def F w x h, with_S]
  unfold inOk
  rw [dec_f (show ¬ 1 ≤ x.2.1 by omega)]
  rfl
theorem pitches_fine (F : Nat) (w : WrT) (x : WnT) (h : wnOk w x = true) (hs : 1 ≤ x.2.1 ∧ x.2.1 ≤ 60) : pitches_S F w x.1 x.2.1 x.2.2.1 = some (ptc w x) := by
  obtain ⟨hd, he, hl, hs', ht⟩ := wn_of h
  rw [pitches_def F w x h, with_S]
  unfold inOk
  rw [dec_t hs.1, dec_t (show x.2.1 ≤ 2000 by omega)]
  have e0 : ((x.2.1 - 1).toNat : Int) = x.2.1 - 1 := by omega
  have h1 : 0 ≤ (x.2.1 - 1) * w.2.1.2 ∧ (x.2.1 - 1) * w.2.1.2 ≤ 60 * 10000000 := ⟨Int.mul_nonneg (by omega) (by omega), Int.mul_le_mul (by omega) he.2.2 (by omega) (by omega)⟩
  have e1 : IntKind.wrap IntKind.i64 (w.1.2 + x.1.2) = wdst w x := w64 _ (by omega)
  have r1 : 1 ≤ mx 1 x.2.2.1.1 ∧ mx 1 x.2.2.1.1 ≤ 10000000 := by unfold mx; split <;> omega
  have e2 : IntKind.wrap IntKind.i64 (wdst w x + mx 1 x.2.2.1.1) = wdst w x + mx 1 x.2.2.1.1 := w64 _ (by unfold wdst; omega)
  have e3 : mx0 (IntKind.wrap IntKind.i64 (w.1.1 - IntKind.wrap IntKind.i64 (IntKind.wrap IntKind.i64 (x.2.1 - 1) * w.2.1.2))) = dAt w.1.1 w.2.1.2 (x.2.1 - 1).toNat := by
    rw [w64 (x.2.1 - 1) (by omega), w64 ((x.2.1 - 1) * _) (by omega), w64 _ (by omega)]
    unfold dAt
    rw [e0]
  have r2 := dAt_range (d := w.1.1) (wear := w.2.1.2) (by omega) (by omega) (x.2.1 - 1).toNat
  have e4 : IntKind.wrap IntKind.i64 (dAt w.1.1 w.2.1.2 (x.2.1 - 1).toNat + x.1.1) = nrst w x := w64 _ (by omega)
  have e5 : IntKind.wrap IntKind.i64 (x.2.2.1.2 + nrst w x) = x.2.2.1.2 + nrst w x := w64 _ (by unfold nrst; omega)
  rw [e1, e2, e3, e4, e5]
  unfold ptc
  show (bif decide (mx 1 (wdst w x + mx 1 x.2.2.1.1) > mn 10000000 (x.2.2.1.2 + nrst w x)) then _ else _) = _
  cases decide (mx 1 (wdst w x + mx 1 x.2.2.1.1) > mn 10000000 (x.2.2.1.2 + nrst w x)) <;> rfl
end Go.Proofs.YtdfgmfddkcmalaaDoor
