/- The plain law of SlicePitches, on. No condition. -/
import Derived.Test.YtdfgmfddkcmalaaDoorWLP8a
namespace Go.Proofs.YtdfgmfddkcmalaaDoor
open Go.RowKit
set_option maxRecDepth 100000
abbrev L1T := ((Int × (Int × (Int × (Bool × (Int × (Int × (Int × (Bool × (Int × (Int × Bool)))))))))) × (WrT × (WnT × (RgT × ((List Int) × (List Int))))))
theorem pL1_loop (F : Nat) (e1 l1 p a b' c : Int) (d : Bool) (e f : Int) (g' : Bool) (w : WrT) (x : WnT) (r : RgT) (L : List Int) (f' : Nat → Int) (q : Nat) (hq : q ≤ 2000) : ∀ (j k i : Nat) (all : Bool), i + j = q → j < k →
    ∃ v : Bool, sPitches_L1 F e1 l1 p a b' c d e f g' w x r ((List.range q).map f') L k all i = some ((e1, l1, p, v, a, b', c, d, e, f, g'), (w, x, r, L, (List.range q).map f')) ∧ (v = true ↔ all = true ∧ ∀ y, i ≤ y → y < q → f' y = 1)
  | j, 0, i, _, _, hk => by omega
  | 0, k + 1, i, all, hi, _ => by
    have e : i = q := by omega
    subst e
    refine ⟨all, ?_, ?_⟩
    · show (bif decide ((i : Int) < ((((List.range i).map f').length - 0 : Nat) : Int)) then _ else _) = _
      rw [len_rg, dec_f (by omega)]; rfl
    · constructor
      · intro h; exact ⟨h, fun y h1 h2 => by omega⟩
      · intro h; exact h.1
  | j + 1, k + 1, i, all, hi, hk => by
    have e1' : IntKind.wrap IntKind.i64 ((i : Int) + 1) = ((i + 1 : Nat) : Int) := by rw [w64 _ (by omega)]; omega
    have key : sPitches_L1 F e1 l1 p a b' c d e f g' w x r ((List.range q).map f') L (k + 1) all i = sPitches_L1 F e1 l1 p a b' c d e f g' w x r ((List.range q).map f') L k (all && (f' i == 1)) ((i + 1 : Nat) : Int) := by
      show (bif decide ((i : Int) < ((((List.range q).map f').length - 0 : Nat) : Int)) then (bif all then (bif inB (i : Int) (((List.range q).map f').length - 0) then sPitches_L1 F e1 l1 p a b' c d e f g' w x r ((List.range q).map f') L k (nth ((List.range q).map f') (0 : Int) i == 1) (IntKind.wrap IntKind.i64 ((i : Int) + 1)) else none) else sPitches_L1 F e1 l1 p a b' c d e f g' w x r ((List.range q).map f') L k false (IntKind.wrap IntKind.i64 ((i : Int) + 1))) else _) = _
      rw [nth_rg f' _ q i (by omega), e1', len_rg, dec_t (by omega), inB_t (show i < q - 0 by omega)]
      cases all <;> rfl
    obtain ⟨v, h1, h2⟩ := pL1_loop F e1 l1 p a b' c d e f g' w x r L f' q hq j k (i + 1) (all && (f' i == 1)) (by omega) (by omega)
    refine ⟨v, key.trans h1, h2.trans ?_⟩
    rw [Bool.and_eq_true, beq_iff_eq]
    constructor
    · rintro ⟨⟨a1, a2⟩, a3⟩
      refine ⟨a1, fun y y1 y2 => ?_⟩
      by_cases hy : y = i
      · rw [hy]; exact a2
      · exact a3 y (by omega) y2
    · rintro ⟨a1, a3⟩
      exact ⟨⟨a1, a3 i (by omega) (by omega)⟩, fun y y1 y2 => a3 y (by omega) y2⟩
/-- One pitch. -/
noncomputable def sPi (F : Nat) (e least q i : Int) (w : WrT) (x : WnT) (r : RgT) (L : List Int) (p : Int) : Option (((Int × (Int × (Int × Int))) × (WrT × (WnT × (RgT × (List Int))))) ⊕ Bool) :=
  (ob (judge_S F w (p, ((IntKind.wrap IntKind.i64 (x.2.1 + (1 : Int))), ((0 : Int), x.1))) (IntKind.wrap IntKind.i64 ((IntKind.wrap IntKind.i64 (x.2.1 + (1 : Int))) * p)) x.2.2.1) (fun r2 => (bif (r2.1 != (0 : Int)) then (some (.inr false)) else (bif (((r2.2.length - 0) : Int) != x.2.1) then (some (.inr false)) else (ob (sPitches_L1 F e least p q i p (decide (p > (9000000 : Int))) ((r2.2.length - 0) : Int) x.2.1 (((r2.2.length - 0) : Int) != x.2.1) w x r r2.2 L F true (0 : Int)) (fun s4 => (bif (s4.1.1 == (0 : Int)) then (ob (has_S F s4.2.2.2.1 s4.1.2.2.1) (fun r4 => (bif (!(s4.1.2.2.2.1 == r4)) then (some (.inr false)) else (some (.inl ((s4.1.1, s4.1.2.1, s4.1.2.2.2.2.1, s4.1.2.2.2.2.2.1), (s4.2.1, s4.2.2.1, s4.2.2.2.1, s4.2.2.2.2.1))))))) else (bif (!(s4.1.2.2.2.1 == false)) then (some (.inr false)) else (some (.inl ((s4.1.1, s4.1.2.1, s4.1.2.2.2.2.1, s4.1.2.2.2.2.2.1), (s4.2.1, s4.2.2.1, s4.2.2.2.1, s4.2.2.2.2.1))))))))))))
theorem pL0_def (F k : Nat) (e least q i : Int) (w : WrT) (x : WnT) (r : RgT) (L : List Int) : sPitches_L0 F (k + 1) e least q i w x r L =
    bif decide (i < q) then ob (bif inB i (L.length - 0) then (bif decide (nth L (0 : Int) i.toNat < least) then some (.inl ((e, least, q, i), (w, x, r, L))) else (bif decide (nth L (0 : Int) i.toNat > 9000000) then some (.inl ((e, least, q, i), (w, x, r, L))) else sPi F e least q i w x r L (nth L (0 : Int) i.toNat))) else none)
      (fun o_ => su o_ (fun s5 => (sPitches_L0 F k s5.1.1 s5.1.2.1 s5.1.2.2.1 (IntKind.wrap IntKind.i64 (s5.1.2.2.2 + (1 : Int))) s5.2.1 s5.2.2.1 s5.2.2.2.1 s5.2.2.2.2)) (fun s6 => (some (.inl s6)))) else some (.inr ()) := rfl
/-- What is told of a pitch. -/
def told (e : Int) (w : WrT) (x : WnT) (r : RgT) : Prop := ∀ p : Int, wdst w x + 1 ≤ p → p ≤ 9000000 →
  (e = 0 → ((r.1 ≤ p ∧ p ≤ r.2) ↔ (wdst w x + x.2.2.1.1 ≤ p ∧ p ≤ x.2.2.1.2 + nrst w x))) ∧ (e ≠ 0 → ¬ (wdst w x + x.2.2.1.1 ≤ p ∧ p ≤ x.2.2.1.2 + nrst w x))
theorem web_ok {w : WrT} {x : WnT} (h : Wn w x) (hs : 1 ≤ x.2.1 ∧ x.2.1 ≤ 60) {p : Int} (hp : wdst w x + 1 ≤ p ∧ p ≤ 9000000) :
    ckI w (p, (x.2.1 + 1, (0, x.1))) ((x.2.1 + 1) * p) = 0 ∧ mU (p, (x.2.1 + 1, (0, x.1))) ((x.2.1 + 1) * p) = (x.2.1 + 1).toNat := by
  obtain ⟨hd, he, hl, hs', ht⟩ := h
  have hw : 1 ≤ wdst w x := by unfold wdst; omega
  have h1 : 1 * p ≤ (x.2.1 + 1) * p := Int.mul_le_mul_of_nonneg_right (by omega) (by omega)
  have h2 : (x.2.1 + 1) * p ≤ 61 * 9000000 := Int.mul_le_mul (by omega) hp.2 (by omega) (by omega)
  constructor
  · unfold ckI wbOk wrOk rgOk inOk
    show (bif ((decide (1 ≤ w.1.1) && (decide (w.1.1 ≤ w.1.2) && decide (w.1.2 ≤ 10000000))) && ((decide (0 ≤ w.2.1.1) && (decide (w.2.1.1 ≤ w.2.1.2) && decide (w.2.1.2 ≤ 10000000))) && (decide (0 ≤ w.2.2) && decide (w.2.2 ≤ 10000000)))) && ((decide (1 ≤ p) && decide (p ≤ 10000000)) && ((decide (1 ≤ x.2.1 + 1) && decide (x.2.1 + 1 ≤ 2000)) && (true && ((decide (0 ≤ x.1.1) && (decide (x.1.1 ≤ x.1.2) && decide (x.1.2 ≤ 10000000))) && !decide (IntKind.wrap IntKind.i64 (w.1.2 + x.1.2) ≥ p))))) then (bif (decide (1 ≤ (x.2.1 + 1) * p) && decide ((x.2.1 + 1) * p ≤ 600000000)) then 0 else 3) else 2) = (0 : Int)
    have e1 : IntKind.wrap IntKind.i64 (w.1.2 + x.1.2) = wdst w x := w64 _ (by omega)
    rw [e1, dec_t hd.1, dec_t hd.2.1, dec_t hd.2.2, dec_t he.1, dec_t he.2.1, dec_t he.2.2, dec_t hl.1, dec_t hl.2, dec_t (show 1 ≤ p by omega), dec_t (show p ≤ 10000000 by omega), dec_t (show 1 ≤ x.2.1 + 1 by omega), dec_t (show x.2.1 + 1 ≤ 2000 by omega), dec_t hs'.1, dec_t hs'.2.1, dec_t hs'.2.2, dec_f (show ¬ wdst w x ≥ p by omega), dec_t (show 1 ≤ (x.2.1 + 1) * p by omega), dec_t (show (x.2.1 + 1) * p ≤ 600000000 by omega)]
    rfl
  · unfold mU usN
    show (if (0 : Int) ≥ (x.2.1 + 1) * p then (0 : Int) else if ((x.2.1 + 1) * p - 0 - 1) / p + 1 < x.2.1 + 1 then ((x.2.1 + 1) * p - 0 - 1) / p + 1 else x.2.1 + 1).toNat = _
    have e2 : ((x.2.1 + 1) * p - 0 - 1) / p = x.2.1 := by
      have : (x.2.1 + 1) * p - 0 - 1 = (p - 1) + p * x.2.1 := by rw [Int.add_mul, Int.mul_comm x.2.1 p]; omega
      rw [this, Int.add_mul_ediv_left _ _ (by omega), Int.ediv_eq_zero_of_lt (by omega) (by omega)]; omega
    rw [if_neg (by omega), e2, if_neg (by omega)]
theorem grd_one (r t : RgT) : grd r t = 1 ↔ (t.1 ≤ r.1 ∧ r.2 ≤ t.2) := by
  unfold grd
  by_cases h : t.1 ≤ r.1 ∧ r.2 ≤ t.2
  · rw [if_pos h]; exact ⟨fun _ => h, fun _ => rfl⟩
  · rw [if_neg h]
    refine ⟨fun h' => ?_, fun h' => absurd h' h⟩
    split at h' <;> cases h'
theorem all_one {w : WrT} {x : WnT} (h : Wn w x) (hs : 1 ≤ x.2.1 ∧ x.2.1 ≤ 60) (g : Int) (p : Int) :
    (∀ y : Nat, 0 ≤ y → y < x.2.1.toNat → grd (slf (p, (g, (0, x.1))) w.1.2 w.2.1.1 x.1.2 y, slf (p, (g, (0, x.1))) w.1.1 w.2.1.2 x.1.1 y) x.2.2.1 = 1) ↔ (wdst w x + x.2.2.1.1 ≤ p ∧ p ≤ x.2.2.1.2 + nrst w x) := by
  obtain ⟨hd, he, hl, hs', ht⟩ := h
  simp only [grd_one]
  unfold slf wdst nrst
  constructor
  · intro h
    have h1 := (h 0 (by omega) (by omega)).1
    have h2 := (h (x.2.1 - 1).toNat (by omega) (by omega)).2
    rw [dAt_0 (by omega)] at h1
    simp only at h1 h2
    omega
  · intro h y _ hy
    have h1 := dAt_range (d := w.1.2) (wear := w.2.1.1) (by omega) (by omega) y
    have h2 := dAt_le (d := w.1.1) (wear := w.2.1.2) (by omega) (by omega) (show y ≤ (x.2.1 - 1).toNat by omega)
    simp only
    omega
end Go.Proofs.YtdfgmfddkcmalaaDoor
