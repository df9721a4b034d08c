/- Plain law of OrderSure. No condition. -/
import Derived.Test.YtbnapejkjaddoaaDoorWLS2
namespace Go.Proofs.YtbnapejkjaddoaaDoor
open Go.RowKit
set_option maxRecDepth 100000
def nV (r : RgT) (x : Int) : Int := IntKind.wrap IntKind.i64 (r.1 + (IntKind.wrap IntKind.i64 ((IntKind.wrap IntKind.i64 (Int.tdiv (IntKind.wrap IntKind.i64 (r.2 - r.1)) (255 : Int))) * (IntKind.wrap IntKind.i64 x))))
def inV (s r : RgT) (x : Int) : Bool := decide (nV r x ≥ s.1) && decide (nV r x ≤ s.2)
theorem nV_in {r : RgT} (h : okR r = true) {x : Int} (h0 : 0 ≤ x) (h1 : x ≤ 255) : r.1 ≤ nV r x ∧ nV r x ≤ r.2 := by
  unfold okR at h
  simp only [Bool.and_eq_true, Bool.not_eq_true', decide_eq_false_iff_not] at h
  unfold nV
  rw [w64 (r.2 - r.1) (by omega), Int.tdiv_eq_ediv_of_nonneg (by omega), w64 x (by omega), w64 ((r.2 - r.1) / 255) (by omega)]
  have h2 : 0 ≤ (r.2 - r.1) / 255 := by omega
  have h3 : 0 ≤ (r.2 - r.1) / 255 * x := Int.mul_nonneg h2 h0
  have h4 : (r.2 - r.1) / 255 * x ≤ (r.2 - r.1) / 255 * 255 := Int.mul_le_mul_of_nonneg_left h1 h2
  have h5 : (r.2 - r.1) / 255 * 255 ≤ r.2 - r.1 := by omega
  generalize (r.2 - r.1) / 255 * x = y at *
  rw [w64 y (by omega), w64 (r.1 + y) (by omega)]
  omega
theorem inV_yes {s r : RgT} (h : okR r = true) {x : Int} (h0 : 0 ≤ x) (h1 : x ≤ 255) (ho : outB s r = false) : inV s r x = true := by
  have := nV_in h h0 h1
  unfold outB at ho
  simp only [Bool.or_eq_false_iff, decide_eq_false_iff_not] at ho
  unfold inV
  simp only [Bool.and_eq_true, decide_eq_true_eq]
  omega
theorem inV_no {s r : RgT} (h : okR r = true) {x : Int} (h0 : 0 ≤ x) (h1 : x ≤ 255) (ho : apB s r = true) : inV s r x = false := by
  have := nV_in h h0 h1
  unfold apB at ho
  simp only [Bool.or_eq_true, decide_eq_true_eq] at ho
  unfold inV
  simp only [Bool.and_eq_false_iff, decide_eq_false_iff_not]
  omega
theorem X0_ok (g f : Int) (s : SpT) (w : WfT) (t : TrT) (l : List EvT) : oSure_X0 g f s w t l = some ((g, f, inV s.1.1 w.1.1 t.1.1, nV w.1.1 t.1.1, s.1.1.1, decide (nV w.1.1 t.1.1 ≥ s.1.1.1)), (s, w, t, l)) := by
  show (bif decide (nV w.1.1 t.1.1 ≥ s.1.1.1) then some ((g, f, decide (nV w.1.1 t.1.1 ≤ s.1.1.2), nV w.1.1 t.1.1, s.1.1.1, decide (nV w.1.1 t.1.1 ≥ s.1.1.1)), (s, w, t, l)) else some ((g, f, false, nV w.1.1 t.1.1, s.1.1.1, decide (nV w.1.1 t.1.1 ≥ s.1.1.1)), (s, w, t, l))) = _
  unfold inV
  cases decide (nV w.1.1 t.1.1 ≥ s.1.1.1) <;> rfl
theorem kj {α β γ : Type} (k a b : Bool) (x : α) (y : β) (z : γ) : (bif k then (bif a then (some ((x, y, b), z)) else (some ((x, y, false), z))) else (some ((x, y, false), z))) = some ((x, y, k && (a && b)), z) := by cases k <;> cases a <;> rfl
theorem X1_ok (g f : Int) (k : Bool) (a b : Int) (c : Bool) (s : SpT) (w : WfT) (t : TrT) (l : List EvT) : oSure_X1 ((g, f, k, a, b, c), (s, w, t, l)) = some ((g, f, k && inV s.1.2.1 w.1.2.1 t.1.2.1), (s, w, t, l)) := kj k _ _ g f (s, w, t, l)
theorem X2_ok (g f : Int) (k : Bool) (s : SpT) (w : WfT) (t : TrT) (l : List EvT) : oSure_X2 ((g, f, k), (s, w, t, l)) = some ((g, f, k && inV s.1.2.2.1 w.1.2.2.1 t.1.2.2.1), (s, w, t, l)) := kj k _ _ g f (s, w, t, l)
theorem X3_ok (g f : Int) (k : Bool) (s : SpT) (w : WfT) (t : TrT) (l : List EvT) : oSure_X3 ((g, f, k), (s, w, t, l)) = some ((g, f, k && inV s.1.2.2.2.1 w.1.2.2.2.1 t.1.2.2.2.1), (s, w, t, l)) := kj k _ _ g f (s, w, t, l)
theorem X4_ok (g f : Int) (k : Bool) (s : SpT) (w : WfT) (t : TrT) (l : List EvT) : oSure_X4 ((g, f, k), (s, w, t, l)) = some ((g, f, k && inV s.1.2.2.2.2.1 w.1.2.2.2.2.1 t.1.2.2.2.2.1), (s, w, t, l)) := kj k _ _ g f (s, w, t, l)
theorem X5_ok (g f : Int) (k : Bool) (s : SpT) (w : WfT) (t : TrT) (l : List EvT) : oSure_X5 ((g, f, k), (s, w, t, l)) = some ((g, f, k && inV s.1.2.2.2.2.2 w.1.2.2.2.2.2 t.1.2.2.2.2.2), (s, w, t, l)) := kj k _ _ g f (s, w, t, l)
def rgN (t : TrT) : Nat := (IntKind.wrap IntKind.u64 (Int.tmod t.2.1 (5 : Int))).toNat
theorem R_eq (g f : Int) (k : Bool) (s : SpT) (w : WfT) (t : TrT) (l : List EvT) (ht : 0 ≤ t.2.1 ∧ t.2.1 ≤ 255) (h1 : g = 1 → k = true ∧ (bit1 w.2.1 (rgN t) = true → bit1 s.2 (rgN t) = true)) (h3 : g = 3 → k = true → bit1 w.2.1 (rgN t) = true → bit1 s.2 (rgN t) = false) :
    oSure_R ((g, f, k), (s, w, t, l)) = some (.inr ((g, f), (s, w, t, l))) := by
  have e : decide ((0 : Int) ≤ IntKind.wrap IntKind.u64 (Int.tmod t.2.1 (5 : Int))) = true := by
    rw [Int.tmod_eq_emod_of_nonneg ht.1, IntKind.wrap_u64]
    exact decide_eq_true (by omega)
  show (bif decide ((0 : Int) ≤ IntKind.wrap IntKind.u64 (Int.tmod t.2.1 (5 : Int))) then (bif bit1 w.2.1 (rgN t) then (ob (bif k then (bif decide ((0 : Int) ≤ IntKind.wrap IntKind.u64 (Int.tmod t.2.1 (5 : Int))) then some ((g, f, bit1 s.2 (rgN t)), (s, w, t, l)) else none) else some ((g, f, false), (s, w, t, l))) _) else some (Sum.inr ((g, f), (s, w, t, l)))) else none) = _
  rw [e]
  cases hb : bit1 w.2.1 (rgN t) with
  | false => rfl
  | true =>
    by_cases hg1 : g = 1
    · obtain ⟨hk, hs⟩ := h1 hg1
      subst hg1
      rw [hk, hs hb]
      rfl
    · have e1 : (g == (1 : Int)) = false := beq_eq_false_iff_ne.2 hg1
      by_cases hg3 : g = 3
      · subst hg3
        cases k with
        | false => rfl
        | true => rw [h3 rfl rfl hb]; rfl
      · have e3 : (g == (3 : Int)) = false := beq_eq_false_iff_ne.2 hg3
        cases k <;> simp only [cond_true, cond_false, ob, e1, e3]
theorem bit_no : ∀ a < 32, ∀ k < 5, bit0 ((a : Nat) : Int) k = !bit1 ((a : Nat) : Int) k := by decide +kernel
theorem bit_not {a : Int} (h : 0 ≤ a ∧ a ≤ 31) {k : Nat} (hk : k < 5) : bit0 a k = !bit1 a k := by
  have := bit_no a.toNat (by omega) k hk
  rwa [Int.toNat_of_nonneg h.1] at this
theorem rg_lt (t : TrT) (ht : 0 ≤ t.2.1 ∧ t.2.1 ≤ 255) : rgN t < 5 := by
  unfold rgN
  rw [Int.tmod_eq_emod_of_nonneg ht.1, IntKind.wrap_u64]
  omega
theorem at_no {s w : Int} (h : atB s w = false) {k : Nat} (hk : k < 5) : bit1 w k = true → bit0 s k = false := by
  unfold atB at h
  simp only [Bool.or_eq_false_iff] at h
  obtain ⟨a0, a1, a2, a3, a4⟩ := h
  intro hb
  have : k = 0 ∨ k = 1 ∨ k = 2 ∨ k = 3 ∨ k = 4 := by omega
  rcases this with rfl | rfl | rfl | rfl | rfl <;> simp_all
theorem gr_no {s w : Int} (h : grB s w = false) {k : Nat} (hk : k < 5) : bit1 w k = true → bit1 s k = false := by
  unfold grB at h
  simp only [Bool.or_eq_false_iff] at h
  obtain ⟨a0, a1, a2, a3, a4⟩ := h
  intro hb
  have : k = 0 ∨ k = 1 ∨ k = 2 ∨ k = 3 ∨ k = 4 := by omega
  rcases this with rfl | rfl | rfl | rfl | rfl <;> simp_all
theorem fltI_neg {s : SpT} {w : WfT} : (fltI s w == (-1 : Int)) = true ↔ (outB s.1.1 w.1.1 = false ∧ outB s.1.2.1 w.1.2.1 = false ∧ outB s.1.2.2.1 w.1.2.2.1 = false ∧ outB s.1.2.2.2.1 w.1.2.2.2.1 = false ∧ outB s.1.2.2.2.2.1 w.1.2.2.2.2.1 = false ∧ outB s.1.2.2.2.2.2 w.1.2.2.2.2.2 = false ∧ fltB s.2 w.2.1 = false) := by
  unfold fltI
  generalize outB s.1.1 w.1.1 = a; generalize outB s.1.2.1 w.1.2.1 = b; generalize outB s.1.2.2.1 w.1.2.2.1 = c; generalize outB s.1.2.2.2.1 w.1.2.2.2.1 = d; generalize outB s.1.2.2.2.2.1 w.1.2.2.2.2.1 = e; generalize outB s.1.2.2.2.2.2 w.1.2.2.2.2.2 = f
  generalize fltB s.2 w.2.1 = g
  cases a <;> cases b <;> cases c <;> cases d <;> cases e <;> cases f <;> cases g <;> simp
theorem full_of {g : ByteArray} (h : gB g = true) : full g := by
  unfold gB at h
  simp only [Bool.and_eq_true, decide_eq_true_eq] at h
  unfold full
  change (ByteArray.toList g == ByteArray.toList (ByteArray.mk (List.toArray []))) = false
  rw [ByteArray.toList_eq, ByteArray.toList_mk]
  refine beq_eq_false_iff_ne.2 (fun e => ?_)
  have := sz_len g
  rw [e] at this
  have h9 : g.size = 0 := this.symm
  omega
end Go.Proofs.YtbnapejkjaddoaaDoor
