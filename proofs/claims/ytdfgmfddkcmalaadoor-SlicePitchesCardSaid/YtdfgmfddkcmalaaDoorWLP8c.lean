/- The plain law of SlicePitches, on. No condition. -/
import Derived.Test.YtdfgmfddkcmalaaDoorWLP8b
namespace Go.Proofs.YtdfgmfddkcmalaaDoor
open Go.RowKit
set_option maxRecDepth 100000
abbrev SpT := ((Int × (Int × (Int × Int))) × (WrT × (WnT × (RgT × (List Int)))))
theorem sPi_eq (F : Nat) (hF : 2000 < F) (e least q i : Int) {w : WrT} {x : WnT} (r : RgT) (L : List Int) (h : Wn w x) (hs : 1 ≤ x.2.1 ∧ x.2.1 ≤ 60) (ht : told e w x r) {p : Int} (hp : wdst w x + 1 ≤ p ∧ p ≤ 9000000) :
    sPi F e least q i w x r L p = some (.inl ((e, least, q, i), (w, x, r, L))) := by
  obtain ⟨k1, k2⟩ := web_ok h hs hp
  have hh := h
  obtain ⟨hd, he, hl, hs', ht'⟩ := hh
  have hw : 1 ≤ wdst w x := by unfold wdst; omega
  have h1 : 1 * p ≤ (x.2.1 + 1) * p := Int.mul_le_mul_of_nonneg_right (by omega) (by omega)
  have h2 : (x.2.1 + 1) * p ≤ 61 * 9000000 := Int.mul_le_mul (by omega) hp.2 (by omega) (by omega)
  have e1 : IntKind.wrap IntKind.i64 (x.2.1 + 1) = x.2.1 + 1 := w64 _ (by omega)
  have e2 : IntKind.wrap IntKind.i64 ((x.2.1 + 1) * p) = (x.2.1 + 1) * p := w64 _ (by omega)
  unfold sPi
  rw [e1, e2, judge_eq F hF k1, k2, dec_f (show ¬ x.2.2.1.1 > x.2.2.1.2 by omega)]
  have e3 : (x.2.1 + 1).toNat - 1 = x.2.1.toNat := by omega
  rw [e3]
  unfold rgl
  rw [List.map_map]
  have lq : ((((List.range x.2.1.toNat).map ((fun r => grd r x.2.2.1) ∘ fun i => (slf (p, (x.2.1 + 1, (0, x.1))) w.1.2 w.2.1.1 x.1.2 i, slf (p, (x.2.1 + 1, (0, x.1))) w.1.1 w.2.1.2 x.1.1 i))).length : Int) - 0) = x.2.1 := by rw [len_rg]; omega
  obtain ⟨v, hv1, hv2⟩ := pL1_loop F e least p q i p (decide (p > 9000000)) x.2.1 x.2.1 false w x r L ((fun r => grd r x.2.2.1) ∘ fun i => (slf (p, (x.2.1 + 1, (0, x.1))) w.1.2 w.2.1.1 x.1.2 i, slf (p, (x.2.1 + 1, (0, x.1))) w.1.1 w.2.1.2 x.1.1 i)) x.2.1.toNat (by omega) x.2.1.toNat F 0 true (by omega) (by omega)
  have hv3 : v = true ↔ (wdst w x + x.2.2.1.1 ≤ p ∧ p ≤ x.2.2.1.2 + nrst w x) := by
    rw [hv2]
    constructor
    · intro h'; exact (all_one h hs _ p).1 h'.2
    · intro h'; exact ⟨rfl, (all_one h hs _ p).2 h'⟩
  change (bif ((((List.range x.2.1.toNat).map ((fun r => grd r x.2.2.1) ∘ fun i => (slf (p, (x.2.1 + 1, (0, x.1))) w.1.2 w.2.1.1 x.1.2 i, slf (p, (x.2.1 + 1, (0, x.1))) w.1.1 w.2.1.2 x.1.1 i))).length : Int) - 0) != x.2.1 then _ else
    ob (sPitches_L1 F e least p q i p (decide (p > 9000000)) ((((List.range x.2.1.toNat).map ((fun r => grd r x.2.2.1) ∘ fun i => (slf (p, (x.2.1 + 1, (0, x.1))) w.1.2 w.2.1.1 x.1.2 i, slf (p, (x.2.1 + 1, (0, x.1))) w.1.1 w.2.1.2 x.1.1 i))).length : Int) - 0) x.2.1 (((((List.range x.2.1.toNat).map ((fun r => grd r x.2.2.1) ∘ fun i => (slf (p, (x.2.1 + 1, (0, x.1))) w.1.2 w.2.1.1 x.1.2 i, slf (p, (x.2.1 + 1, (0, x.1))) w.1.1 w.2.1.2 x.1.1 i))).length : Int) - 0) != x.2.1) w x r ((List.range x.2.1.toNat).map ((fun r => grd r x.2.2.1) ∘ fun i => (slf (p, (x.2.1 + 1, (0, x.1))) w.1.2 w.2.1.1 x.1.2 i, slf (p, (x.2.1 + 1, (0, x.1))) w.1.1 w.2.1.2 x.1.1 i))) L F true ((0 : Nat) : Int)) _) = _
  rw [lq, bne_self_eq_false, hv1]
  change (bif (e == 0) then ob (has_S F r p) (fun r4 => bif (!(v == r4)) then (some (.inr false) : Option (SpT ⊕ Bool)) else some (.inl ((e, least, q, i), (w, x, r, L)))) else (bif (!(v == false)) then some (.inr false) else some (.inl ((e, least, q, i), (w, x, r, L))))) = _
  rw [has_eq]
  obtain ⟨t1, t2⟩ := ht p hp.1 hp.2
  cases h0 : (e == 0) with
  | true =>
    have t := t1 (eq_of_beq h0)
    have hb : v = inOk p r.1 r.2 := by
      rw [Bool.eq_iff_iff, hv3, ← t]
      unfold inOk
      simp only [Bool.and_eq_true, decide_eq_true_eq]
    rw [hb]
    show (bif (!(inOk p r.1 r.2 == inOk p r.1 r.2)) then _ else _) = _
    rw [beq_self_eq_true]; rfl
  | false =>
    have t := t2 (beq_eq_false_iff_ne.1 h0)
    have hb : v = false := by
      cases v with
      | false => rfl
      | true => exact absurd (hv3.1 rfl) t
    rw [hb]; rfl
theorem pL0_loop (F : Nat) (hF : 2000 < F) (e : Int) {w : WrT} {x : WnT} (r : RgT) (h : Wn w x) (hs : 1 ≤ x.2.1 ∧ x.2.1 ≤ 60) (ht : told e w x r) (L : List Int) (hL : L.length ≤ 2000) : ∀ (j k i : Nat), i + j = L.length → j < k →
    sPitches_L0 F k e (wdst w x + 1) L.length i w x r L = some (.inr ())
  | j, 0, i, _, hk => by omega
  | 0, k + 1, i, hi, _ => by rw [pL0_def, dec_f (by omega)]; rfl
  | j + 1, k + 1, i, hi, hk => by
    have e1 : IntKind.wrap IntKind.i64 ((i : Int) + 1) = ((i + 1 : Nat) : Int) := by rw [w64 _ (by omega)]; omega
    have ih := pL0_loop F hF e r h hs ht L hL j k (i + 1) (by omega) (by omega)
    rw [pL0_def, dec_t (by omega), inB_t (show i < L.length - 0 by omega)]
    have go : (ob (bif decide (nth L (0 : Int) (i : Int).toNat < wdst w x + 1) then some (.inl ((e, wdst w x + 1, (L.length : Int), (i : Int)), (w, x, r, L))) else (bif decide (nth L (0 : Int) (i : Int).toNat > 9000000) then some (.inl ((e, wdst w x + 1, (L.length : Int), (i : Int)), (w, x, r, L))) else sPi F e (wdst w x + 1) L.length i w x r L (nth L (0 : Int) (i : Int).toNat)))
      (fun o_ => su o_ (fun s5 => (sPitches_L0 F k s5.1.1 s5.1.2.1 s5.1.2.2.1 (IntKind.wrap IntKind.i64 (s5.1.2.2.2 + (1 : Int))) s5.2.1 s5.2.2.1 s5.2.2.2.1 s5.2.2.2.2)) (fun s6 => (some (.inl s6))))) = sPitches_L0 F k e (wdst w x + 1) L.length (IntKind.wrap IntKind.i64 ((i : Int) + 1)) w x r L := by
      by_cases h1 : nth L (0 : Int) (i : Int).toNat < wdst w x + 1
      · rw [dec_t h1]; rfl
      · rw [dec_f h1]
        by_cases h2 : nth L (0 : Int) (i : Int).toNat > 9000000
        · rw [dec_t h2]; rfl
        · rw [dec_f h2]
          simp only [cond_false]
          rw [sPi_eq F hF e _ _ _ r L h hs ht (by omega)]
    simp only [cond_true]
    refine go.trans ?_
    rw [e1]
    exact ih
theorem told_ptc {w : WrT} {x : WnT} (h : Wn w x) : told (ptc w x).2 w x (ptc w x).1 := by
  obtain ⟨hd, he, hl, hs', ht⟩ := h
  intro p h1 h2
  have n1 := dAt_range (d := w.1.1) (wear := w.2.1.2) (by omega) (by omega) (x.2.1 - 1).toNat
  have hw : 1 ≤ wdst w x := by unfold wdst; omega
  unfold ptc
  by_cases c : mx 1 (wdst w x + mx 1 x.2.2.1.1) > mn 10000000 (x.2.2.1.2 + nrst w x)
  · rw [dec_t c]
    refine ⟨fun h => absurd (show (7 : Int) = 0 from h) (by decide), fun _ hh => ?_⟩
    unfold mx mn at c
    split at c <;> split at c <;> split at c <;> omega
  · rw [dec_f c]
    refine ⟨fun _ => ?_, fun h => absurd rfl h⟩
    show (mx 1 (wdst w x + mx 1 x.2.2.1.1) ≤ p ∧ p ≤ mn 10000000 (x.2.2.1.2 + nrst w x)) ↔ _
    unfold mx mn
    split <;> split <;> split <;> omega
/-- The first test of what is wanted. -/
theorem badW {α : Type} (e : Int) (w : WrT) (X : α) : (bif (decide (w.1.1 < (1 : Int))) then some ((e, true), X) else (bif (decide (w.1.1 > w.1.2)) then some ((e, true), X) else (bif (decide (w.1.2 > (10000000 : Int))) then some ((e, true), X) else (bif (decide (w.2.1.1 < (0 : Int))) then some ((e, true), X) else (bif (decide (w.2.1.1 > w.2.1.2)) then some ((e, true), X) else (bif (decide (w.2.1.2 > (10000000 : Int))) then some ((e, true), X) else (bif (decide (w.2.2 < (0 : Int))) then some ((e, true), X) else some ((e, decide (w.2.2 > (10000000 : Int))), X)))))))) = some ((e, !wrOk w), X) := by
  rw [dlt, dlt, dlt, dgt, dgt, dgt, dgt, dgt]
  unfold wrOk rgOk inOk
  cases decide (1 ≤ w.1.1) <;> cases decide (w.1.1 ≤ w.1.2) <;> cases decide (w.1.2 ≤ 10000000) <;> cases decide (0 ≤ w.2.1.1) <;> cases decide (w.2.1.1 ≤ w.2.1.2) <;> cases decide (w.2.1.2 ≤ 10000000) <;> cases decide (0 ≤ w.2.2) <;> rfl
theorem badR {α : Type} (e : Int) (a b : RgT) (X : α) : (bif (decide (a.1 < (0 : Int))) then some ((e, true), X) else (bif (decide (a.1 > a.2)) then some ((e, true), X) else (bif (decide (a.2 > (10000000 : Int))) then some ((e, true), X) else (bif (decide (b.1 < (0 : Int))) then some ((e, true), X) else (bif (decide (b.1 > b.2)) then some ((e, true), X) else some ((e, decide (b.2 > (10000000 : Int))), X)))))) = some ((e, !(rgOk a 0 10000000 && rgOk b 0 10000000)), X) := by
  rw [dlt, dlt, dgt, dgt, dgt, dgt]
  unfold rgOk
  cases decide (0 ≤ a.1) <;> cases decide (a.1 ≤ a.2) <;> cases decide (a.2 ≤ 10000000) <;> cases decide (0 ≤ b.1) <;> cases decide (b.1 ≤ b.2) <;> cases decide (b.2 ≤ 10000000) <;> rfl
end Go.Proofs.YtdfgmfddkcmalaaDoor
