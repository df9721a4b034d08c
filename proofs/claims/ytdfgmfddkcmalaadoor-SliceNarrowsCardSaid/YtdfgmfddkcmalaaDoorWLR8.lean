/- Plain laws of chapter 8: what is valid, how many grooves are used. No condition. -/
import Derived.Test.YtdfgmfddkcmalaaDoorWX8r
import Derived.Test.YtdfgmfddkcmalaaDoorWYF
namespace Go.Proofs.YtdfgmfddkcmalaaDoor
open Go.RowKit
set_option maxRecDepth 100000
abbrev RgT := Int × Int
abbrev WrT := RgT × (RgT × Int)
abbrev WbT := Int × (Int × (Int × RgT))
theorem w64 (n : Int) (h : -9223372036854775808 ≤ n ∧ n ≤ 9223372036854775807) : IntKind.i64.wrap n = n := by rw [IntKind.wrap_i64]; omega
def rgOk (r : RgT) (a b : Int) : Bool := decide (a ≤ r.1) && (decide (r.1 ≤ r.2) && decide (r.2 ≤ b))
def inOk (n a b : Int) : Bool := decide (a ≤ n) && decide (n ≤ b)
theorem with_S (F : Nat) (n a b : Int) : within_S F n a b = some (inOk n a b) := by
  unfold within_S inOk
  change (bif decide (a ≤ n) then _ else _) = _
  cases decide (a ≤ n) <;> rfl
theorem rin_eq (F : Nat) (n a b : Int) : rin_S F n a b = some (inOk n a b) := by
  unfold rin_S inOk
  change (bif decide (a ≤ n) then _ else _) = _
  cases decide (a ≤ n) <;> rfl
theorem isRg (F : Nat) (r : RgT) (a b : Int) : isRange_S F r a b = some (rgOk r a b) := by
  unfold isRange_S rgOk
  cases decide (a ≤ r.1) <;> cases decide (r.1 ≤ r.2) <;> rfl
theorem rRg (F : Nat) (r : RgT) (a b : Int) : rRange_S F r a b = some (rgOk r a b) := by
  unfold rRange_S rgOk
  change (bif decide (a ≤ r.1) then _ else _) = _
  cases decide (a ≤ r.1) <;> cases decide (r.1 ≤ r.2) <;> rfl
def wrOk (w : WrT) : Bool := rgOk w.1 1 10000000 && (rgOk w.2.1 0 10000000 && inOk w.2.2 0 10000000)
theorem isWr (F : Nat) (w : WrT) : isWire_S F w = some (wrOk w) := by
  unfold isWire_S wrOk
  rw [isRg, isRg, with_S]
  cases rgOk w.1 1 10000000 <;> cases rgOk w.2.1 0 10000000 <;> rfl
theorem rWr (F : Nat) (w : WrT) : rWire_S F w = some (wrOk w) := by
  unfold rWire_S wrOk
  rw [rRg, rRg, rin_eq]
  cases rgOk w.1 1 10000000 <;> cases rgOk w.2.1 0 10000000 <;> rfl
def wbOk (w : WrT) (b : WbT) : Bool := wrOk w && (inOk b.1 1 10000000 && (inOk b.2.1 1 2000 && (inOk b.2.2.1 0 600000000 && (rgOk b.2.2.2 0 10000000 && !decide (IntKind.wrap IntKind.i64 (w.1.2 + b.2.2.2.2) ≥ b.1)))))
def ckI (w : WrT) (b : WbT) (n : Int) : Int := bif wbOk w b then (bif inOk n 1 600000000 then 0 else 3) else 2
theorem check_eq (F : Nat) (w : WrT) (b : WbT) (n : Int) : check_S F w b n = some (ckI w b n) := by
  unfold check_S ckI wbOk isWidth_S
  rw [isWr, with_S, with_S, with_S, isRg]
  cases wrOk w with
  | false => rfl
  | true =>
    cases inOk b.1 1 10000000 with
    | false => rfl
    | true =>
      cases inOk b.2.1 1 2000 with
      | false => rfl
      | true =>
        cases inOk b.2.2.1 0 600000000 with
        | false => rfl
        | true =>
          cases rgOk b.2.2.2 0 10000000 with
          | false => rfl
          | true =>
            change (ob (some (n, decide (IntKind.wrap IntKind.i64 (w.1.2 + b.2.2.2.2) ≥ b.1))) _) = _
            cases decide (IntKind.wrap IntKind.i64 (w.1.2 + b.2.2.2.2) ≥ b.1) with
            | true => rfl
            | false =>
              change ob (within_S F n 1 600000000) _ = _
              rw [with_S]
              cases inOk n 1 600000000 <;> rfl
theorem rCheck_eq (F : Nat) (w : WrT) (b : WbT) (n : Int) : rCheck_S F w b n = some (ckI w b n) := by
  unfold rCheck_S ckI wbOk
  rw [rWr, rin_eq, rin_eq, rin_eq, rRg]
  cases wrOk w with
  | false => rfl
  | true =>
    cases inOk b.1 1 10000000 with
    | false => rfl
    | true =>
      cases inOk b.2.1 1 2000 with
      | false => rfl
      | true =>
        cases inOk b.2.2.1 0 600000000 with
        | false => rfl
        | true =>
          cases rgOk b.2.2.2 0 10000000 with
          | false => rfl
          | true =>
            change (bif decide (IntKind.wrap IntKind.i64 (w.1.2 + b.2.2.2.2) ≥ b.1) then _ else ob (rin_S F n 1 600000000) _) = _
            rw [rin_eq]
            cases decide (IntKind.wrap IntKind.i64 (w.1.2 + b.2.2.2.2) ≥ b.1) <;> cases inOk n 1 600000000 <;> rfl
/-- What is known of what is valid. -/
structure Vld (w : WrT) (b : WbT) (n : Int) : Prop where
  d : 1 ≤ w.1.1 ∧ w.1.1 ≤ w.1.2 ∧ w.1.2 ≤ 10000000
  e : 0 ≤ w.2.1.1 ∧ w.2.1.1 ≤ w.2.1.2 ∧ w.2.1.2 ≤ 10000000
  l : 0 ≤ w.2.2 ∧ w.2.2 ≤ 10000000
  p : 1 ≤ b.1 ∧ b.1 ≤ 10000000
  g : 1 ≤ b.2.1 ∧ b.2.1 ≤ 2000
  s : 0 ≤ b.2.2.1 ∧ b.2.2.1 ≤ 600000000
  y : 0 ≤ b.2.2.2.1 ∧ b.2.2.2.1 ≤ b.2.2.2.2 ∧ b.2.2.2.2 ≤ 10000000
  t : w.1.2 + b.2.2.2.2 < b.1
  n : 1 ≤ n ∧ n ≤ 600000000
theorem vld_of {w : WrT} {b : WbT} {n : Int} (h : ckI w b n = 0) : Vld w b n := by
  unfold ckI at h
  cases h1 : wbOk w b with
  | false => rw [h1] at h; cases h
  | true =>
    rw [h1] at h
    cases h2 : inOk n 1 600000000 with
    | false => rw [h2] at h; cases h
    | true =>
      unfold wbOk wrOk rgOk inOk at h1
      unfold inOk at h2
      simp only [Bool.and_eq_true, decide_eq_true_eq, Bool.not_eq_true', decide_eq_false_iff_not] at h1 h2
      obtain ⟨⟨a1, a2, a3⟩, a4, a5, a6, a7, a8⟩ := h1
      rw [w64 _ (by omega)] at a8
      exact ⟨⟨a1.1, a1.2.1, a1.2.2⟩, ⟨a2.1, a2.2.1, a2.2.2⟩, a3, a4, a5, a6, ⟨a7.1, a7.2.1, a7.2.2⟩, by omega, h2⟩
/-- How many grooves are used. -/
def usN (b : WbT) (n : Int) : Int := if b.2.2.1 ≥ n then 0 else if (n - b.2.2.1 - 1) / b.1 + 1 < b.2.1 then (n - b.2.2.1 - 1) / b.1 + 1 else b.2.1
theorem used_eq (F : Nat) {w : WrT} {b : WbT} {n : Int} (h : Vld w b n) : used_S F (w, (b, n)) = some (usN b n) := by
  unfold used_S usN
  obtain ⟨_, _, _, hp, hg, hs, _, _, hn⟩ := h
  by_cases h1 : b.2.2.1 ≥ n
  · rw [if_pos h1, show decide (b.2.2.1 ≥ n) = true from decide_eq_true h1]; rfl
  · rw [if_neg h1]
    change (bif decide (b.2.2.1 ≥ n) then _ else (bif !(b.1 == 0) then _ else none)) = _
    rw [show decide (b.2.2.1 ≥ n) = false from decide_eq_false h1, show (b.1 == 0) = false from beq_eq_false_iff_ne.2 (by omega)]
    change some (if _ < b.2.1 then _ else b.2.1) = _
    rw [w64 (n - b.2.2.1) (by omega), w64 (n - b.2.2.1 - 1) (by omega), Int.tdiv_eq_ediv_of_nonneg (by omega)]
    have h2 : 0 ≤ (n - b.2.2.1 - 1) / b.1 := Int.ediv_nonneg (by omega) (by omega)
    have h3 : (n - b.2.2.1 - 1) / b.1 ≤ n - b.2.2.1 - 1 := Int.ediv_le_self _ (by omega)
    rw [w64 ((n - b.2.2.1 - 1) / b.1) (by omega), w64 ((n - b.2.2.1 - 1) / b.1 + 1) (by omega)]
theorem us_range {w : WrT} {b : WbT} {n : Int} (h : Vld w b n) : 0 ≤ usN b n ∧ usN b n ≤ b.2.1 ∧ (∀ i : Int, 0 ≤ i → i < usN b n → b.2.2.1 + i * b.1 < n) ∧ (usN b n < b.2.1 → n ≤ b.2.2.1 + usN b n * b.1) := by
  obtain ⟨_, _, _, hp, hg, hs, _, _, hn⟩ := h
  have hE : ∀ i : Int, i < (n - b.2.2.1 - 1) / b.1 + 1 → b.2.2.1 + i * b.1 < n := fun i hi => by
    have h1 : i ≤ (n - b.2.2.1 - 1) / b.1 := by omega
    have h2 : i * b.1 ≤ (n - b.2.2.1 - 1) / b.1 * b.1 := Int.mul_le_mul_of_nonneg_right h1 (by omega)
    have h3 : (n - b.2.2.1 - 1) / b.1 * b.1 ≤ n - b.2.2.1 - 1 := Int.ediv_mul_le _ (by omega)
    omega
  unfold usN
  by_cases h1 : b.2.2.1 ≥ n
  · rw [if_pos h1]
    refine ⟨Int.le_refl _, by omega, fun i h0 hi => by omega, fun _ => by omega⟩
  · rw [if_neg h1]
    have h2 : 0 ≤ (n - b.2.2.1 - 1) / b.1 := Int.ediv_nonneg (by omega) (by omega)
    split
    · rename_i h3
      refine ⟨by omega, by omega, fun i _ hi => hE i hi, fun _ => ?_⟩
      have h4 : n - b.2.2.1 - 1 < ((n - b.2.2.1 - 1) / b.1 + 1) * b.1 := Int.lt_ediv_add_one_mul_self _ (by omega)
      omega
    · rename_i h3
      refine ⟨by omega, by omega, fun i _ hi => hE i (by omega), fun h => by omega⟩
end Go.Proofs.YtdfgmfddkcmalaaDoor
