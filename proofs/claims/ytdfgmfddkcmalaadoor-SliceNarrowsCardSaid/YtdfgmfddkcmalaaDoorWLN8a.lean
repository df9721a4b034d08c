/- Plain laws of chapter 8: what becomes of narrower ranges. No condition. -/
import Derived.Test.YtdfgmfddkcmalaaDoorWLR8g
import Derived.Test.YtdfgmfddkcmalaaDoorWX8n
namespace Go.Proofs.YtdfgmfddkcmalaaDoor
open Go.RowKit
set_option maxRecDepth 100000
theorem ck_of {w : WrT} {b : WbT} {n : Int} (h : Vld w b n) : ckI w b n = 0 := by
  obtain ⟨h1, h2, h3, h4, h5, h6, h7, h8, h9⟩ := h
  have e1 : wrOk w = true := by
    unfold wrOk rgOk inOk
    simp only [Bool.and_eq_true, decide_eq_true_eq]
    omega
  have e2 : wbOk w b = true := by
    unfold wbOk rgOk inOk
    rw [e1, w64 (w.1.2 + b.2.2.2.2) (by omega)]
    simp only [Bool.true_and, Bool.and_eq_true, decide_eq_true_eq, Bool.not_eq_true', decide_eq_false_iff_not]
    omega
  unfold ckI inOk
  rw [e2, dec_t h9.1, dec_t h9.2]
  rfl
theorem less_eq (F : Nat) (r : RgT) (p q : Bool) (h : 0 ≤ r.1 ∧ r.1 ≤ r.2 ∧ r.2 ≤ 10000000) : ∃ r' : RgT, less_S F r p q = some r' ∧ r.1 ≤ r'.1 ∧ r'.1 ≤ r'.2 ∧ r'.2 ≤ r.2 := by
  obtain ⟨a, b⟩ := r
  have e1 : IntKind.wrap IntKind.i64 (a + 1) = a + 1 := w64 _ (by simp only at h; omega)
  have e2 : IntKind.wrap IntKind.i64 (b - 1) = b - 1 := w64 _ (by simp only at h; omega)
  simp only at h
  have two : ∀ a' : Int, a ≤ a' → a' ≤ b → ∃ r' : RgT, (ob (bif q then (bif decide (a' < b) then some ((a', IntKind.wrap IntKind.i64 (b - 1)), ((0 : Int), (0 : Int))) else some ((a', b), ((0 : Int), (0 : Int)))) else some ((a', b), ((0 : Int), (0 : Int)))) (fun s2 => some s2.1)) = some r' ∧ a ≤ r'.1 ∧ r'.1 ≤ r'.2 ∧ r'.2 ≤ b := fun a' h1 h2 => by
    cases q with
    | false => exact ⟨(a', b), rfl, h1, h2, by simp only; omega⟩
    | true =>
      by_cases hl : a' < b
      · rw [dec_t hl, e2]; exact ⟨(a', b - 1), rfl, h1, by simp only; omega, by simp only; omega⟩
      · rw [dec_f hl]; exact ⟨(a', b), rfl, h1, h2, by simp only; omega⟩
  unfold less_S
  cases p with
  | false => exact two a (by omega) (by omega)
  | true =>
    show ∃ r', ob (bif decide (a < b) then some (q, ((IntKind.wrap IntKind.i64 (a + 1), b), ((0 : Int), (0 : Int)))) else some (q, ((a, b), ((0 : Int), (0 : Int))))) _ = _ ∧ _
    by_cases hl : a < b
    · rw [dec_t hl, e1]
      exact two (a + 1) (by omega) (by omega)
    · rw [dec_f hl]
      exact two a (by omega) (by omega)
/-! Runs, counted -/
def rnJ (wear least : Int) (m : Nat) : Nat → Int → Int
  | 0, _ => 0
  | j + 1, d => bif thin d wear least m then 0 else 1 + rnJ wear least m j (dAt d wear m)
theorem rnJ_mono {wear wear' least : Int} (m : Nat) (hw : 0 ≤ wear' ∧ wear' ≤ wear) : ∀ (j : Nat) (d d' : Int), 0 ≤ d → d ≤ d' → 0 ≤ rnJ wear least m j d ∧ rnJ wear least m j d ≤ rnJ wear' least m j d'
  | 0, _, _, _, _ => ⟨Int.le_refl _, Int.le_refl _⟩
  | j + 1, d, d', h0, h => by
    have h1 := dAt_mono h hw.2 m
    have h2 := dAt_range h0 (show 0 ≤ wear by omega) m
    have ih := rnJ_mono (least := least) m hw j (dAt d wear m) (dAt d' wear' m) h2.1 h1
    have ih' := rnJ_mono (least := least) m ⟨hw.1, Int.le_refl _⟩ j (dAt d' wear' m) (dAt d' wear' m) (by omega) (Int.le_refl _)
    unfold rnJ
    cases c1 : thin d wear least m with
    | true =>
      cases c2 : thin d' wear' least m with
      | true => exact ⟨Int.le_refl _, Int.le_refl _⟩
      | false => simp only [cond_true, cond_false]; omega
    | false =>
      have c2 : thin d' wear' least m = false := by
        have h3 := dAt_mono h hw.2 (m - 1)
        unfold thin at c1 ⊢
        simp only [Bool.and_eq_false_iff, Bool.not_eq_false', decide_eq_true_eq, decide_eq_false_iff_not] at c1 ⊢
        rcases c1 with c1 | c1
        · exact .inl c1
        · exact .inr (by omega)
      rw [c2]
      simp only [cond_false]; omega
theorem runs1_cnt (F : Nat) {wear : Int} (hw : 0 ≤ wear ∧ wear ≤ 10000000) (m : Nat) (hm : m ≤ 2000) (w : WrT) : ∀ (j k : Nat) (d n : Int), 0 ≤ d ∧ d ≤ 10000000 → 0 ≤ n → n + j = 1000 → j < k →
    runs1_L0 F k d wear n [(m : Int)] [w] = some (n + rnJ wear w.2.2 m j d, ([(m : Int)], [w]))
  | j, 0, _, _, _, _, _, h => by omega
  | 0, k + 1, d, n, _, _, hj, _ => by
    have e : n = 1000 := by omega
    subst e
    exact runs1_end F k d wear m w
  | j + 1, k + 1, d, n, hd, h0, hj, hk => by
    unfold rnJ
    cases hb : thin d wear w.2.2 m with
    | true =>
      rw [runs1_stop F k hd hw m hm w hb]
      simp only [cond_true]
      rw [Int.add_zero]
    | false =>
      rw [runs1_step F k hd hw ⟨h0, by omega⟩ m hm w hb]
      have := dAt_range hd.1 hw.1 m
      rw [runs1_cnt F hw m hm w j k (dAt d wear m) (n + 1) (by omega) (by omega) (by omega) (by omega)]
      simp only [cond_false]
      rw [Int.add_assoc]
theorem runs_cnt (F : Nat) (hF : 2000 < F) {w : WrT} {b : WbT} {n : Int} (h0 : ckI w b n = 0) : runs_S F w b n = some (rnJ w.2.1.2 w.2.2 (mU b n) 1000 w.1.1, rnJ w.2.1.1 w.2.2 (mU b n) 1000 w.1.2, 0) := by
  have h := vld_of h0
  have hm := (ct_thick h).hm
  have hd := h.d; have he := h.e
  unfold runs_S
  rw [check_eq, h0]
  show ob (used_S F (w, (b, n))) _ = _
  rw [us_nat F h]
  show ob (ob (runs1_L0 F F w.1.1 w.2.1.2 0 [(mU b n : Int)] [w]) _) _ = _
  rw [runs1_cnt F (by omega) _ hm w 1000 F w.1.1 0 (by omega) (by omega) (by omega) (by omega)]
  show ob (ob (runs1_L0 F F w.1.2 w.2.1.1 0 [(mU b n : Int)] [w]) _) _ = _
  rw [runs1_cnt F (by omega) _ hm w 1000 F w.1.2 0 (by omega) (by omega) (by omega) (by omega)]
  show some (0 + _, 0 + _, _) = _
  rw [Int.zero_add, Int.zero_add]
/-! Narrower ranges -/
structure Nrw (w w' : WrT) (b b' : WbT) : Prop where
  d : w.1.1 ≤ w'.1.1 ∧ w'.1.1 ≤ w'.1.2 ∧ w'.1.2 ≤ w.1.2
  e : w.2.1.1 ≤ w'.2.1.1 ∧ w'.2.1.1 ≤ w'.2.1.2 ∧ w'.2.1.2 ≤ w.2.1.2
  l : w'.2.2 = w.2.2
  p : b'.1 = b.1
  g : b'.2.1 = b.2.1
  s : b'.2.2.1 = b.2.2.1
  y : b.2.2.2.1 ≤ b'.2.2.2.1 ∧ b'.2.2.2.1 ≤ b'.2.2.2.2 ∧ b'.2.2.2.2 ≤ b.2.2.2.2
theorem Nrw.vld {w w' : WrT} {b b' : WbT} {n : Int} (q : Nrw w w' b b') (h : Vld w b n) : Vld w' b' n := by
  obtain ⟨h1, h2, h3, h4, h5, h6, h7, h8, h9⟩ := h
  obtain ⟨q1, q2, q3, q4, q5, q6, q7⟩ := q
  exact ⟨by omega, by omega, by omega, by omega, by omega, by omega, by omega, by omega, h9⟩
theorem Nrw.mU {w w' : WrT} {b b' : WbT} (q : Nrw w w' b b') (n : Int) : mU b' n = mU b n := by
  unfold YtdfgmfddkcmalaaDoor.mU usN
  rw [q.p, q.g, q.s]
theorem Nrw.plc {w w' : WrT} {b b' : WbT} (q : Nrw w w' b b') (i : Nat) : plc b' i = plc b i := by
  unfold YtdfgmfddkcmalaaDoor.plc
  rw [q.p, q.s]
theorem kf_mono {b b' : WbT} {n d d' wear wear' sl sl' : Int} (m i : Nat) (hp : plc b' i = plc b i) (hd : d ≤ d') (hw : wear' ≤ wear) (hs : sl ≤ sl') : kf b' n d wear sl m i ≤ kf b n d' wear' sl' m i := by
  have h := dAt_mono hd hw i
  unfold kf mn
  rw [hp]
  by_cases hm : i + 1 = m
  · rw [if_pos hm, if_pos hm]; split <;> split <;> omega
  · rw [if_neg hm, if_neg hm]; omega
theorem sm_mono (f g : Nat → Int) : ∀ (q : Nat), (∀ i, i < q → f i ≤ g i) → sm f q ≤ sm g q
  | 0, _ => Int.le_refl _
  | q + 1, h => by
    have h1 := sm_mono f g q fun i hi => h i (by omega)
    have h2 := h q (by omega)
    unfold sm
    omega
theorem rsA_mono {b b' : WbT} {n d d' wear wear' sl sl' : Int} (m : Nat) (hp : ∀ i, plc b' i = plc b i) (hd : d ≤ d') (hw : wear' ≤ wear) (hs : sl ≤ sl') : rsA b n d' wear' sl' m m ≤ rsA b' n d wear sl m m := by
  unfold rsA
  rw [if_pos rfl, if_pos rfl]
  by_cases hm : m = 0
  · rw [if_pos hm, if_pos hm]; omega
  · rw [if_neg hm, if_neg hm, hp]
    have := kf_mono (n := n) m (m - 1) (hp _) hd hw hs
    omega
/-- One range lies in another one. -/
def rin' (a b : RgT) : Prop := b.1 ≤ a.1 ∧ a.2 ≤ b.2 ∧ a.1 ≤ a.2
theorem lin_eq (F : Nat) (a b : RgT) (h : rin' a b) : lin_S F a b = some true := by
  unfold lin_S
  rw [dec_t (show a.1 ≥ b.1 from h.1), dec_t h.2.1, dec_t h.2.2]
  rfl
theorem slf_in {w w' : WrT} {b b' : WbT} (q : Nrw w w' b b') (i : Nat) : rin' (slf b' w'.1.2 w'.2.1.1 b'.2.2.2.2 i, slf b' w'.1.1 w'.2.1.2 b'.2.2.2.1 i) (slf b w.1.2 w.2.1.1 b.2.2.2.2 i, slf b w.1.1 w.2.1.2 b.2.2.2.1 i) := by
  obtain ⟨q1, q2, q3, q4, q5, q6, q7⟩ := q
  have h1 := dAt_mono (d := w'.1.2) (d' := w.1.2) (wear := w'.2.1.1) (wear' := w.2.1.1) (by omega) (by omega) i
  have h2 := dAt_mono (d := w.1.1) (d' := w'.1.1) (wear := w.2.1.2) (wear' := w'.2.1.2) (by omega) (by omega) i
  have h3 := dAt_mono (d := w'.1.1) (d' := w'.1.2) (wear := w'.2.1.2) (wear' := w'.2.1.1) (by omega) (by omega) i
  unfold rin' slf
  simp only
  omega
theorem grd_in {a b : RgT} (h : rin' a b) (t : RgT) (h2 : grd b t ≠ 2) : grd a t = grd b t := by
  obtain ⟨a1, a2⟩ := a
  obtain ⟨b1, b2⟩ := b
  obtain ⟨t1, t2⟩ := t
  unfold rin' at h
  unfold grd at h2 ⊢
  simp only at h h2 ⊢
  by_cases c1 : t1 ≤ b1 ∧ b2 ≤ t2
  · rw [if_pos c1, if_pos (by omega)]
  · rw [if_neg c1] at h2 ⊢
    by_cases c2 : b1 ≤ t2 ∧ t1 ≤ b2
    · rw [if_pos c2] at h2; exact absurd rfl h2
    · rw [if_neg c2, if_neg (by omega), if_neg (by omega)]
end Go.Proofs.YtdfgmfddkcmalaaDoor
