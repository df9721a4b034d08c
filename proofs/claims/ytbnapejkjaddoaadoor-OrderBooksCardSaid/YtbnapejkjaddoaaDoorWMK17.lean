/- Plain laws of chapter 10: all deeds on a book. No condition. -/
import Derived.Test.YtbnapejkjaddoaaDoorWMK9
import Derived.Test.YtbnapejkjaddoaaDoorWLO2k
import Derived.Test.YtbnapejkjaddoaaDoorWXA17

namespace Go.Proofs.YtbnapejkjaddoaaDoor
open Go.RowKit
set_option maxRecDepth 100000
abbrev DdT := Int × (OdT × (WfT × (Int × Int)))
abbrev dD : DdT := (TC.dflt (TC.pair (TC.int IntKind.u8) (TC.pair (TC.pair (TC.int IntKind.i64) (TC.pair (TC.int IntKind.i64) (TC.pair (TC.int IntKind.i64) (TC.int IntKind.i64)))) (TC.pair (TC.pair (TC.pair (TC.pair (TC.int IntKind.i64) (TC.int IntKind.i64)) (TC.pair (TC.pair (TC.int IntKind.i64) (TC.int IntKind.i64)) (TC.pair (TC.pair (TC.int IntKind.i64) (TC.int IntKind.i64)) (TC.pair (TC.pair (TC.int IntKind.i64) (TC.int IntKind.i64)) (TC.pair (TC.pair (TC.int IntKind.i64) (TC.int IntKind.i64)) (TC.pair (TC.int IntKind.i64) (TC.int IntKind.i64))))))) (TC.pair (TC.int IntKind.u8) (TC.pair TC.str (TC.pair TC.str (TC.pair TC.str (TC.pair TC.str (TC.pair TC.str TC.str))))))) (TC.pair (TC.int IntKind.i64) (TC.int IntKind.i64))))))
theorem ob_ff {α β γ : Type} (c x y : Bool) (i : α) (t : β) (f : (α × (Bool × Bool)) × β → Option γ) :
    ob (bif c then (bif c then some ((i, x, y), t) else some ((i, x, false), t)) else (bif c then some ((i, false, y), t) else some ((i, false, false), t))) f = f ((i, c && x, c && y), t) := by cases c <;> rfl
theorem inN_dd (x : Int) (n : Nat) : (decide (x ≥ (0 : Int)) && decide (x < ((n - 0) : Int))) = inN x n := by
  unfold inN inI
  congr 1
  exact decide_eq_decide.2 (by omega)
section
variable {sp : List SpT} {wf : List WfT} {at_ : List Int} {od : List OdT} {ca : List Bool} {ors : List Nat} {ar2 : A2} {ar3 : A3}
theorem cnt_set (at_ : List Int) {n : Nat} (hn : n < at_.length) (x : Int) (i : Nat) : (cnt (at_.set n x) i : Int) = cnt at_ i - (if nth at_ 0 n = i then 1 else 0) + (if x = i then 1 else 0) := by
  induction at_ generalizing n with
  | nil => exact absurd hn (Nat.not_lt_zero _)
  | cons y l ih =>
    cases n with
    | zero =>
      have e0 : nth (y :: l) 0 0 = y := rfl
      rw [e0]
      unfold cnt
      rw [List.set_cons_zero, List.filter_cons, List.filter_cons]
      by_cases h1 : x = (i : Int) <;> by_cases h2 : y = (i : Int) <;> simp [h1, h2] <;> omega
    | succ n =>
      have e0 : nth (y :: l) 0 (n + 1) = nth l 0 n := rfl
      have := ih (n := n) (by simpa using hn)
      rw [e0]
      unfold cnt at this ⊢
      rw [List.set_cons_succ, List.filter_cons, List.filter_cons]
      by_cases h2 : y = (i : Int) <;> simp [h2] <;> omega
theorem cnt_app (at_ : List Int) (i : Nat) : cnt (at_ ++ ((-1) :: [])) i = cnt at_ i := by
  unfold cnt
  rw [List.filter_append]
  have : ((-1 : Int) == (i : Int)) = false := by rw [beq_eq_false_iff_ne]; omega
  simp [this]
theorem cnt_new (h : BInv wf at_ od ca ors ar2 ar3) : cnt at_ od.length = 0 := by
  unfold cnt
  rw [List.length_eq_zero_iff, List.filter_eq_nil_iff]
  intro x hx
  have := h.ra x hx
  simp only [beq_iff_eq]
  omega
theorem BVal.ca' (v : BVal sp wf at_ od ca) (ca' : List Bool) : BVal sp wf at_ od ca' := ⟨v.sl, v.sv, v.sr, v.wl, v.wv, v.ws, v.wr, v.ol, v.ov, v.cp⟩
theorem BVal.order (h : BInv wf at_ od ca ors ar2 ar3) (v : BVal sp wf at_ od ca) {o : OdT} (ho : odB sp.length o = true) (hl : od.length ≠ 12) (ca' : List Bool) : BVal sp wf at_ (od ++ (o :: [])) ca' := by
  have hol := v.ol
  refine ⟨v.sl, v.sv, v.sr, v.wl, v.wv, v.ws, v.wr, by simp; omega, fun j hj => ?_, fun j hj => ?_⟩
  · rw [List.length_append, List.length_singleton] at hj
    by_cases e : j = od.length
    · subst e; rw [nth_apR]; exact ho
    · rw [nth_apL _ _ _ (by omega)]; exact v.ov j (by omega)
  · rw [List.length_append, List.length_singleton] at hj
    by_cases e : j = od.length
    · subst e; rw [nth_apR, cnt_new h]
      have := (odB_iff.1 ho).2.1.1
      omega
    · rw [nth_apL _ _ _ (by omega)]; exact v.cp j (by omega)
theorem BVal.stock (v : BVal sp wf at_ od ca) {w : WfT} (hw : wfB w = true) (hs : shortW w) (hl : wf.length ≠ 60) : BVal sp (wf ++ (w :: [])) (at_ ++ ((-1) :: [])) od ca := by
  have hwl := v.wl
  have hr : 1 ≤ w.2.1 ∧ w.2.1 ≤ 31 := by
    unfold wfB at hw
    simp only [Bool.and_eq_true, decide_eq_true_eq] at hw
    exact hw.2.1
  have hm : ∀ x ∈ wf ++ (w :: []), x ∈ wf ∨ x = w := fun x hx => by simpa using hx
  refine ⟨v.sl, v.sv, v.sr, by simp; omega, fun x hx => ?_, fun x hx => ?_, fun x hx => ?_, v.ol, v.ov, fun j hj => ?_⟩
  · rcases hm x hx with h | rfl
    · exact v.wv x h
    · exact hw
  · rcases hm x hx with h | rfl
    · exact v.ws x h
    · exact ⟨by omega, hs⟩
  · rcases hm x hx with h | rfl
    · exact v.wr x h
    · omega
  · rw [cnt_app]; exact v.cp j hj
theorem BVal.back (v : BVal sp wf at_ od ca) {n : Nat} (hn : n < at_.length) : BVal sp wf (at_.set n (-1)) od ca := by
  refine ⟨v.sl, v.sv, v.sr, v.wl, v.wv, v.ws, v.wr, v.ol, v.ov, fun j hj => ?_⟩
  have h1 := v.cp j hj
  have h2 := cnt_set at_ hn (-1) j
  rw [if_neg (show ¬ (-1 : Int) = (j : Int) by omega)] at h2
  split at h2 <;> omega
theorem shp0 {a b : Int} (h : shp sp wf at_ od ca a b = 0) : ∃ n i : Nat, a = n ∧ b = i ∧ n < wf.length ∧ i < od.length ∧ nth at_ 0 n = -1 ∧ nth ca false i = false ∧ fltI (nth sp dS (nth od dO i).1.toNat) (nth wf dW n) = -1 ∧ 1 ≤ opn at_ od ca i := by
  unfold shp at h
  cases ha : inN a wf.length with
  | false => rw [ha] at h; exact absurd (show (7 : Int) = 0 from h) (by decide)
  | true =>
    cases hb : inN b od.length with
    | false => rw [ha, hb] at h; exact absurd (show (7 : Int) = 0 from h) (by decide)
    | true =>
      obtain ⟨n, hn, rfl⟩ := inN_iff.1 ha
      obtain ⟨i, hi, rfl⟩ := inN_iff.1 hb
      rw [ha, hb] at h
      simp only [Bool.not_true, cond_false, Int.toNat_natCast] at h
      refine ⟨n, i, rfl, rfl, hn, hi, ?_⟩
      cases h1 : (nth at_ 0 n != -1) with
      | true => rw [h1] at h; exact absurd (show (9 : Int) = 0 from h) (by decide)
      | false =>
        cases h2 : nth ca false i with
        | true => rw [h1, h2] at h; exact absurd (show (9 : Int) = 0 from h) (by decide)
        | false =>
          cases h3 : (fltI (nth sp dS (nth od dO i).1.toNat) (nth wf dW n) != -1) with
          | true => rw [h1, h2, h3] at h; exact absurd (show (100 : Int) = 0 from h) (by decide)
          | false =>
            cases h4 : decide (opn at_ od ca i < 1) with
            | true => rw [h1, h2, h3, h4] at h; exact absurd (show (8 : Int) = 0 from h) (by decide)
            | false =>
              simp only [bne_eq_false_iff_eq, decide_eq_false_iff_not] at h1 h3 h4
              exact ⟨h1, rfl, h3, by omega⟩
theorem BVal.ship (v : BVal sp wf at_ od ca) (la : at_.length = wf.length) {a b : Int} (h : shp sp wf at_ od ca a b = 0) : BVal sp wf (at_.set a.toNat b) od ca := by
  obtain ⟨n, i, rfl, rfl, hn, hi, h1, h2, h3, h4⟩ := shp0 h
  refine ⟨v.sl, v.sv, v.sr, v.wl, v.wv, v.ws, v.wr, v.ol, v.ov, fun j hj => ?_⟩
  rw [Int.toNat_natCast]
  have c1 := v.cp j hj
  have c2 := cnt_set at_ (n := n) (by omega) (i : Int) j
  rw [h1, if_neg (show ¬ (-1 : Int) = (j : Int) by omega)] at c2
  by_cases e : i = j
  · subst e
    rw [if_pos rfl] at c2
    unfold opn at h4
    rw [h2, cond_false] at h4
    omega
  · rw [if_neg (show ¬ (i : Int) = (j : Int) by omega)] at c2
    omega
theorem e12 (n : Nat) : ((((n - 0) : Int)) == (12 : Int)) = (n == 12) := by
  rw [Bool.eq_iff_iff, beq_iff_eq, beq_iff_eq]; omega
theorem e60 (n : Nat) : ((((n - 0) : Int)) == (60 : Int)) = (n == 60) := by
  rw [Bool.eq_iff_iff, beq_iff_eq, beq_iff_eq]; omega
theorem books1 (F : Nat) (hF : 4000 ≤ F) (l : List DdT) (hl : l.length ≤ 30) (hd : ∀ d ∈ l, 0 ≤ d.2.2.1.2.1 ∧ d.2.2.1.2.1 ≤ 255) :
    ∀ (m i n : Nat) (ar0 : A0) (ar1 : A1) (ar2 : A2) (ar3 : A3) (ors : List Nat) (wf : List WfT) (at_ : List Int) (od : List OdT) (ca : List Bool), i + m = l.length → m < n → BInv wf at_ od ca ors ar2 ar3 → BVal sp wf at_ od ca →
    ∃ r, oBooks_L1 F n (i : Int) sp l ar0 ar1 ar2 ar3 sp wf ors wf at_ od ca = some r ∧ ∀ b, r = .inl b → b.1 = true := by
  intro m
  induction m with
  | zero =>
    intro i n ar0 ar1 ar2 ar3 ors wf at_ od ca hi hn h v
    obtain ⟨n, rfl⟩ : ∃ k, n = k + 1 := ⟨n - 1, by omega⟩
    have : i = l.length := by omega
    subst this
    rw [oBooks_L1, lt_f', cond_false]
    exact ⟨_, rfl, fun b hb => by cases hb⟩
  | succ m ih =>
    intro i n ar0 ar1 ar2 ar3 ors wf at_ od ca hi hn h v
    obtain ⟨n, rfl⟩ : ∃ k, n = k + 1 := ⟨n - 1, by omega⟩
    have hil : i < l.length := by omega
    have hw := v.wl; have hk := v.ol; have hla := h.la; have hlc := h.lc; have hsl := v.sl
    have hdi : 0 ≤ (nth l dD i).2.2.1.2.1 ∧ (nth l dD i).2.2.1.2.1 ≤ 255 := hd _ (nth_mem hil)
    rw [oBooks_L1, lt_t' hil, cond_true, show inB (i : Int) (l.length - 0) = true from inB_nat (by omega), cond_true, Int.toNat_natCast, long_eq, ob_some]
    generalize nth l dD i = d at hdi ⊢
    obtain ⟨k, o, w, a, b⟩ := d
    cases hlg : lgB w with
    | true => exact ⟨_, rfl, fun b hb => by cases hb; rfl⟩
    | false =>
      have hsw := lg_short hlg
      rw [cond_false, ob_ff]
      try simp only [ob]
      rw [inN_dd, inN_dd]
      generalize Int.tmod k 8 = t
      have fin : ∀ (ar0 : A0) (ar1 : A1) (ar2 : A2) (ar3 : A3) (ors : List Nat) (wf : List WfT) (at_ : List Int) (od : List OdT) (ca : List Bool), BInv wf at_ od ca ors ar2 ar3 → BVal sp wf at_ od ca → ∃ r, oBooks_L1 F n (IntKind.wrap IntKind.i64 ((i : Int) + 1)) sp l ar0 ar1 ar2 ar3 sp wf ors wf at_ od ca = some r ∧ ∀ b, r = .inl b → b.1 = true := by
        intro ar0 ar1 ar2 ar3 ors wf at_ od ca h v
        rw [i64s (by omega)]
        exact ih (i + 1) n ar0 ar1 ar2 ar3 ors wf at_ od ca (by omega) (by omega) h v
      by_cases h0 : t = 0
      · rw [show (t == (0 : Int)) = true from beq_iff_eq.2 h0, cond_true]
        obtain ⟨ors', ar2', ar3', e1, e2⟩ := bOrder_eq F h hk hsl o ar0 ar1
        rw [e1]
        simp only []
        rw [rOd F o sp.length (by omega)]
        simp only []
        cases hb : odB sp.length o with
        | false =>
          rw [hb] at e2
          simp only [Bool.not_false, cond_true, cond_false, su, bne_self_eq_false, Int.sub_zero]
          exact fin _ _ _ _ _ _ _ _ _ e2 v
        | true =>
          rw [hb] at e2
          simp only [Bool.not_true, cond_false, e12]
          cases h6 : (od.length == 12) with
          | true =>
            rw [h6] at e2
            simp only [cond_true, cond_false, su, bne_self_eq_false, Int.sub_zero]
            exact fin _ _ _ _ _ _ _ _ _ e2 v
          | false =>
            rw [h6] at e2
            have e3 : lenOk (od.length - 0) (o :: []).length = true := lenOk_sm (by simp; omega)
            have e4 : lenOk (ca.length - 0) 1 = true := lenOk_sm (by omega)
            simp only [cond_true, cond_false, su, bne_self_eq_false, Int.sub_zero, e3, e4]
            exact fin _ _ _ _ _ _ _ _ _ e2 (v.order h hb (by simpa using h6) _)
      · rw [show (t == (0 : Int)) = false from beq_eq_false_iff_ne.2 h0, cond_false]
        by_cases h1 : t = 1
        · rw [show (t == (1 : Int)) = true from beq_iff_eq.2 h1, cond_true]
          rw [bStock_eq F hw w hdi hsw]
          simp only []
          rw [rWf F (by omega)]
          simp only []
          cases hb : wfB w with
          | false =>
            simp only [Bool.not_false, Bool.false_and, cond_true, cond_false, su, bne_self_eq_false, Int.sub_zero]
            exact fin _ _ _ _ _ _ _ _ _ h v
          | true =>
            simp only [Bool.not_true, Bool.true_and, cond_false, e60]
            cases h6 : (wf.length == 60) with
            | true =>
              simp only [Bool.not_true, cond_true, cond_false, su, bne_self_eq_false, Int.sub_zero]
              exact fin _ _ _ _ _ _ _ _ _ h v
            | false =>
              have e3 : lenOk (wf.length - 0) (w :: []).length = true := lenOk_sm (by simp; omega)
              have e4 : lenOk (at_.length - 0) 1 = true := lenOk_sm (by omega)
              simp only [Bool.not_false, cond_true, cond_false, su, bne_self_eq_false, Int.sub_zero, e3, e4]
              exact fin _ _ _ _ _ _ _ _ _ (h.stock w) (v.stock hb hsw (by simpa using h6))
        · rw [show (t == (1 : Int)) = false from beq_eq_false_iff_ne.2 h1, cond_false]
          by_cases h2 : t = 2
          · rw [show (t == (2 : Int)) = true from beq_iff_eq.2 h2, cond_true]
            obtain ⟨ar2', e1, e2⟩ := bCancel_eq (sp := sp) F h hk a ar0 ar1
            rw [e1]
            simp only []
            cases hb : inN a od.length with
            | false =>
              rw [hb] at e2
              simp only [Bool.not_false, cond_true, cond_false, su, bne_self_eq_false]
              exact fin _ _ _ _ _ _ _ _ _ e2 v
            | true =>
              rw [hb] at e2
              obtain ⟨j, hj, rfl⟩ := inN_iff.1 hb
              have e3 : inB (j : Int) (ca.length - 0) = true := inB_nat (by omega)
              simp only [Bool.not_true, cond_false, e3, cond_true, Int.toNat_natCast] at e2 ⊢
              cases hc : nth ca false j with
              | true =>
                simp only [cond_true, cond_false, su, bne_self_eq_false]
                refine fin _ _ _ _ _ _ _ _ _ ?_ v
                have : ca.set j true = ca := by
                  apply List.ext_getElem (by simp)
                  intro k h1 h2
                  rw [List.getElem_set]
                  split
                  · rename_i e; subst e; rw [nth_eq ca false j h2, hc]
                  · rfl
                rwa [this] at e2
              | false =>
                simp only [cond_false, su, bne_self_eq_false]
                exact fin _ _ _ _ _ _ _ _ _ e2 (v.ca' _)
          · rw [show (t == (2 : Int)) = false from beq_eq_false_iff_ne.2 h2, cond_false]
            by_cases h3 : t = 3
            · rw [show (t == (3 : Int)) = true from beq_iff_eq.2 h3, cond_true]
              obtain ⟨ar3', e1, e2⟩ := bShip_eq F (by omega) h hk hw v.ods v.odi a b ar0 ar1
              rw [e1]
              simp only []
              rw [rShip_eq F (by omega) hla hw hlc hk v.ods v.rg v.odi]
              simp only []
              cases hb : (shp sp wf at_ od ca a b == 0) with
              | false =>
                rw [hb, cond_false] at e2
                simp only [cond_false, su, bne_self_eq_false]
                exact fin _ _ _ _ _ _ _ _ _ e2 v
              | true =>
                rw [hb, cond_true] at e2
                have hz := eq_of_beq hb
                obtain ⟨n', i', r1, r2, r3, r4, _⟩ := shp0 hz
                have e3 : inB a (at_.length - 0) = true := by rw [r1]; exact inB_nat (by omega)
                simp only [cond_true, cond_false, su, bne_self_eq_false, e3]
                exact fin _ _ _ _ _ _ _ _ _ e2 (v.ship hla hz)
            · rw [show (t == (3 : Int)) = false from beq_eq_false_iff_ne.2 h3, cond_false]
              by_cases h4 : t = 4
              · rw [show (t == (4 : Int)) = true from beq_iff_eq.2 h4, cond_true]
                obtain ⟨ar3', e1, e2⟩ := bBack_eq (sp := sp) F (by omega) h hk hw a ar0 ar1
                rw [e1]
                simp only []
                cases hb : inN a wf.length with
                | false =>
                  rw [hb] at e2
                  simp only [Bool.not_false, cond_true, cond_false, su, bne_self_eq_false]
                  exact fin _ _ _ _ _ _ _ _ _ e2 v
                | true =>
                  rw [hb] at e2
                  obtain ⟨j, hj, rfl⟩ := inN_iff.1 hb
                  have e3 : inB (j : Int) (at_.length - 0) = true := inB_nat (by omega)
                  simp only [Bool.not_true, cond_false, e3, cond_true, Int.toNat_natCast] at e2 ⊢
                  cases hc : (nth at_ 0 j == -1) with
                  | true =>
                    simp only [cond_true, cond_false, su, bne_self_eq_false]
                    refine fin _ _ _ _ _ _ _ _ _ ?_ v
                    have : at_.set j (-1) = at_ := by
                      apply List.ext_getElem (by simp)
                      intro k h1 h2
                      rw [List.getElem_set]
                      split
                      · rename_i e; subst e; rw [nth_eq at_ 0 j h2, eq_of_beq hc]
                      · rfl
                    rwa [this] at e2
                  | false =>
                    simp only [cond_false, su, bne_self_eq_false]
                    exact fin _ _ _ _ _ _ _ _ _ e2 (v.back (by omega))
              · rw [show (t == (4 : Int)) = false from beq_eq_false_iff_ne.2 h4, cond_false]
                by_cases h5 : t = 5
                · rw [show (t == (5 : Int)) = true from beq_iff_eq.2 h5, cond_true]
                  rw [bOpen_eq F h hk v.ods hw]
                  simp only []
                  cases hb : inN a od.length with
                  | false =>
                    simp only [Bool.not_false, cond_true, cond_false, su, bne_self_eq_false]
                    exact fin _ _ _ _ _ _ _ _ _ h v
                  | true =>
                    obtain ⟨j, hj, rfl⟩ := inN_iff.1 hb
                    simp only [Bool.not_true, cond_false]
                    rw [rOpen_eq F (by omega) (by omega) hlc v.ods hj]
                    simp only [cond_true, cond_false, su, bne_self_eq_false, Int.toNat_natCast]
                    exact fin _ _ _ _ _ _ _ _ _ h v
                · rw [show (t == (5 : Int)) = false from beq_eq_false_iff_ne.2 h5, cond_false]
                  by_cases h6 : t = 6
                  · rw [show (t == (6 : Int)) = true from beq_iff_eq.2 h6, cond_true]
                    rw [bWhere_eq F (by omega) h hk hw]
                    simp only []
                    cases hb : inN a wf.length with
                    | false =>
                      simp only [Bool.not_false, cond_true, cond_false, su, bne_self_eq_false]
                      exact fin _ _ _ _ _ _ _ _ _ h v
                    | true =>
                      obtain ⟨j, hj, rfl⟩ := inN_iff.1 hb
                      have e3 : inB (j : Int) (at_.length - 0) = true := inB_nat (by omega)
                      simp only [Bool.not_true, cond_true, cond_false, su, bne_self_eq_false, Int.toNat_natCast, e3]
                      exact fin _ _ _ _ _ _ _ _ _ h v
                  · rw [show (t == (6 : Int)) = false from beq_eq_false_iff_ne.2 h6, cond_false]
                    obtain ⟨B, C, e1⟩ := plansL_eq F hF h v a ar0 ar1
                    rw [e1]
                    simp only []
                    simp only [Bool.not_true, cond_false, su, bne_self_eq_false]
                    exact fin _ _ _ _ _ _ _ _ _ h v
end
end Go.Proofs.YtbnapejkjaddoaaDoor


namespace Go.Proofs.YtbnapejkjaddoaaDoor
open Go.RowKit
set_option maxRecDepth 100000
theorem cfN (F : Nat) (l : List SpT) (hl : l.length ≤ 20) (hF : 100 < F) : cfSpN_S F l = some (l.any (fun s => !spB s)) := by
  have := scan (fun n i => ixSpN_L0 F ((l.length - 0) : Int) l n i) l dS (fun s => !spB s) (fun i b => b.1 = (i : Int)) (fun _ => True) (fun n => ⟨_, by
      show (bif decide (((l.length : Nat) : Int) < ((l.length - 0) : Int)) then _ else _) = _
      rw [Int.sub_zero, lt_f]; rfl, trivial⟩) (fun n i hi => by
      have e : ixSpN_L0 F ((l.length - 0) : Int) l (n + 1) (i : Int) = bif (!spB (nth l dS i)) then some (.inl ((i : Int), l)) else ixSpN_L0 F ((l.length - 0) : Int) l n ((i + 1 : Nat) : Int) := by
        show (bif decide ((i : Int) < ((l.length - 0) : Int)) then bif inB (i : Int) (l.length - 0) then ob (isSpec_S F (nth l dS (i : Int).toNat)) _ else none else _) = _
        rw [Int.sub_zero, lt_t hi, Nat.sub_zero, inB_nat hi, Int.toNat_natCast, isSp]
        simp only [cond_true]
        rw [i64s (by omega)]
      exact ⟨fun h => ⟨_, by rw [e, h]; rfl, rfl⟩, fun h => by rw [e, h]; rfl⟩) l.length 0 F (by omega) (by omega)
  unfold cfSpN_S ixSpN_S
  rw [List.drop_zero] at this
  rcases this with ⟨h1, j, b, _, _, _, _, h2, h3⟩ | ⟨h1, c, h2, _⟩
  · rw [h1, show ixSpN_L0 F ((l.length - 0) : Int) l F 0 = _ from h2]
    have h4 : decide (b.1 ≥ (0 : Int)) = true := by rw [h3]; simp
    show some (decide (b.1 ≥ (0 : Int))) = _
    rw [h4]
  · rw [h1, show ixSpN_L0 F ((l.length - 0) : Int) l F 0 = _ from h2]
    rfl
/-- All specifications pass. -/
def spsB (sp : List SpT) : Bool := decide (sp.length ≤ 20) && sp.all spB
theorem newBook_eq (F : Nat) (hF : 100 < F) {sp : List SpT} (hs : spsB sp = true) (ar0 : A0) (ar1 : A1) (ar2 : A2) (ar3 : A3) : newBook_S F sp ar0 ar1 ar2 ar3 = some (0, ar0, ar1, ar2, ar3, sp, [], []) := by
  unfold spsB at hs
  rw [Bool.and_eq_true, decide_eq_true_eq, List.all_eq_true] at hs
  obtain ⟨h1, h2⟩ := hs
  unfold newBook_S
  rw [cfN F sp h1 hF]
  have e1 : decide (((sp.length - 0) : Int) > 20) = false := by rw [decide_eq_false_iff_not]; omega
  have e2 : sp.any (fun s => !spB s) = false := by
    rw [List.any_eq_false]; intro s hs; rw [h2 s hs]; decide
  have e3 : lenOk 0 sp.length = true := lenOk_sm (by omega)
  rw [e1, e2]
  show ob (cloneSp_S F sp) _ = _
  unfold cloneSp_S
  rw [e3]
  rfl
theorem oBooks0 (F : Nat) (sp : List SpT) (hs : ∀ s ∈ sp, spB s = true) (hl : sp.length ≤ 100) (l : List DdT) (ar0 : A0) (ar1 : A1) (ar2 : A2) (ar3 : A3) (b : List SpT) (wf : List WfT) (ors : List Nat) :
    ∀ (m i n : Nat), i + m = sp.length → m < n → oBooks_L0 F 0 sp l ar0 ar1 ar2 ar3 b wf ors n 0 (i : Int) = some ((0, 0), sp, l, ar0, ar1, ar2, ar3, b, wf, ors)
  | 0, i, n + 1, hi, _ => by
    have : i = sp.length := by omega
    subst this
    simp only [oBooks_L0]
    rw [lt_f', cond_false]
  | m + 1, i, n + 1, hi, hn => by
    have h1 : i < sp.length := by omega
    simp only [oBooks_L0]
    rw [lt_t' h1, cond_true, show inB (i : Int) (sp.length - 0) = true from inB_nat (by omega), cond_true, Int.toNat_natCast, rSp, ob_some, hs _ (nth_mem h1), Bool.not_true, cond_false, i64s (by omega)]
    exact oBooks0 F sp hs hl l ar0 ar1 ar2 ar3 b wf ors m (i + 1) n (by omega) (by omega)
  | m, i, 0, _, hn => by omega
theorem BInv.nil : BInv [] [] [] [] [] [] [] := ⟨rfl, rfl, rfl, rfl, rfl, fun i hi => absurd hi (Nat.not_lt_zero _), fun i hi => absurd hi (Nat.not_lt_zero _), fun i hi => absurd hi (Nat.not_lt_zero _), fun i hi => absurd hi (Nat.not_lt_zero _), fun i hi => absurd hi (Nat.not_lt_zero _), fun x hx => by cases hx⟩
theorem BVal.nil {sp : List SpT} (hs : spsB sp = true) (h0 : ∀ s ∈ sp, 0 ≤ s.2) : BVal sp [] [] [] [] := by
  unfold spsB at hs
  rw [Bool.and_eq_true, decide_eq_true_eq, List.all_eq_true] at hs
  refine ⟨hs.1, hs.2, fun s h => ⟨h0 s h, ?_⟩, by simp, (fun w h => absurd h (List.not_mem_nil)), (fun w h => absurd h (List.not_mem_nil)), (fun w h => absurd h (List.not_mem_nil)), by simp, fun i hi => absurd hi (Nat.not_lt_zero _), fun i hi => absurd hi (Nat.not_lt_zero _)⟩
  have := hs.2 s h
  unfold spB at this
  rw [Bool.and_eq_true, decide_eq_true_eq] at this
  exact this.2
theorem oBooks_good (F : Nat) (hF : 4000 ≤ F) {sp : List SpT} (hs : spsB sp = true) (h0 : ∀ s ∈ sp, 0 ≤ s.2) (l : List DdT) (hd : ∀ d ∈ l, 0 ≤ d.2.2.1.2.1 ∧ d.2.2.1.2.1 ≤ 255) :
    ∃ A B C D, oBooks_S F sp l [] [] [] [] = some (true, A, B, C, D) := by
  have hs' := hs
  unfold spsB at hs'
  rw [Bool.and_eq_true, decide_eq_true_eq, List.all_eq_true] at hs'
  obtain ⟨h1, h2⟩ := hs'
  unfold oBooks_S
  have e1 : decide (((sp.length - 0) : Int) > 25) = false := by rw [decide_eq_false_iff_not]; omega
  have e3 : lenOk 0 sp.length = true := lenOk_sm (by omega)
  have e5 : decide (((sp.length - 0) : Int) > 20) = false := by rw [decide_eq_false_iff_not]; omega
  rw [e1, cond_false]
  by_cases hl : 30 < l.length
  · have e2 : decide (((l.length - 0) : Int) > 30) = true := by rw [decide_eq_true_eq]; omega
    rw [e2, cond_true]
    exact ⟨_, _, _, _, rfl⟩
  · have e2 : decide (((l.length - 0) : Int) > 30) = false := by rw [decide_eq_false_iff_not]; omega
    rw [e2, cond_false, e3, cond_true, List.nil_append, newBook_eq F (by omega) hs, ob_some]
    dsimp only
    have := oBooks0 F sp h2 (by omega) l [] [] [] [] sp [] [] sp.length 0 F (by omega) (by omega)
    rw [show ((0 : Nat) : Int) = 0 from rfl] at this
    rw [this, ob_some]
    dsimp only
    rw [e5, cond_false, ob_some]
    dsimp only
    rw [bne_self_eq_false, cond_false, cond_false]
    obtain ⟨r, hr, hb⟩ := books1 (sp := sp) F hF l (by omega) hd l.length 0 F [] [] [] [] [] [] [] [] [] (by omega) (by omega) BInv.nil (BVal.nil hs h0)
    rw [show ((0 : Nat) : Int) = 0 from rfl] at hr
    rw [hr, ob_some]
    cases r with
    | inl b =>
      have := hb b rfl
      obtain ⟨b1, b2⟩ := b
      have hb1 : b1 = true := this
      subst hb1
      exact ⟨_, _, _, _, rfl⟩
    | inr c => exact ⟨_, _, _, _, rfl⟩
end Go.Proofs.YtbnapejkjaddoaaDoor


namespace Go.Proofs.YtbnapejkjaddoaaDoor
open Go.RowKit
set_option maxRecDepth 100000
theorem newBad_eq (F : Nat) (hF : 100 < F) {sp : List SpT} (hs : spsB sp = false) : newBad_S F sp = some (bif decide (20 < sp.length) then 5 else 2) := by
  unfold newBad_S
  by_cases h : 20 < sp.length
  · have e1 : decide (((sp.length - 0) : Int) > 20) = true := by rw [decide_eq_true_eq]; omega
    rw [e1, decide_eq_true h]
    rfl
  · have e1 : decide (((sp.length - 0) : Int) > 20) = false := by rw [decide_eq_false_iff_not]; omega
    have e2 : sp.any (fun s => !spB s) = true := by
      unfold spsB at hs
      rw [decide_eq_true (show sp.length ≤ 20 by omega), Bool.true_and, List.all_eq_false] at hs
      obtain ⟨x, h1, h2⟩ := hs
      rw [List.any_eq_true]
      exact ⟨x, h1, by simpa using h2⟩
    rw [e1, cfN F sp (by omega) hF, e2, decide_eq_false h]
    rfl
theorem oBooks20 (F : Nat) (e : Int) (sp : List SpT) (hl : sp.length ≤ 100) (l : List DdT) (ar0 : A0) (ar1 : A1) (ar2 : A2) (ar3 : A3) :
    ∀ (m i n : Nat) (w : Int), i + m = sp.length → m < n → oBooks2_L0 F e sp l ar0 ar1 ar2 ar3 n w (i : Int) = some ((e, bif (sp.drop i).any (fun s => !spB s) then 2 else w), sp, l, ar0, ar1, ar2, ar3)
  | 0, i, n + 1, w, hi, _ => by
    have : i = sp.length := by omega
    subst this
    simp only [oBooks2_L0]
    rw [lt_f', cond_false, List.drop_length]
    rfl
  | m + 1, i, n + 1, w, hi, hn => by
    have h1 : i < sp.length := by omega
    simp only [oBooks2_L0]
    rw [lt_t' h1, cond_true, show inB (i : Int) (sp.length - 0) = true from inB_nat (by omega), cond_true, Int.toNat_natCast, rSp]
    simp only [ob]
    rw [i64s (by omega)]
    have hd : sp.drop i = nth sp dS i :: sp.drop (i + 1) := by rw [List.drop_eq_getElem_cons h1, nth_eq sp dS i h1]
    rw [hd, List.any_cons]
    cases hb : spB (nth sp dS i) with
    | true =>
      rw [Bool.not_true, cond_false, Bool.false_or]
      exact oBooks20 F e sp hl l ar0 ar1 ar2 ar3 m (i + 1) n w (by omega) (by omega)
    | false =>
      rw [Bool.not_false, cond_true, Bool.true_or, cond_true]
      rw [oBooks20 F e sp hl l ar0 ar1 ar2 ar3 m (i + 1) n 2 (by omega) (by omega)]
      cases (sp.drop (i + 1)).any (fun s => !spB s) <;> rfl
  | m, i, 0, w, _, hn => by omega
theorem oBooks_bad (F : Nat) (hF : 4000 ≤ F) {sp : List SpT} (hs : spsB sp = false) (l : List DdT) :
    ∃ A B C D, oBooks2_S F sp l [] [] [] [] = some (true, A, B, C, D) := by
  unfold oBooks2_S
  by_cases h25 : 25 < sp.length
  · have e1 : decide (((sp.length - 0) : Int) > 25) = true := by rw [decide_eq_true_eq]; omega
    rw [e1, cond_true]
    exact ⟨_, _, _, _, rfl⟩
  · have e1 : decide (((sp.length - 0) : Int) > 25) = false := by rw [decide_eq_false_iff_not]; omega
    have e3 : lenOk 0 sp.length = true := lenOk_sm (by omega)
    rw [e1, cond_false]
    by_cases hl : 30 < l.length
    · have e2 : decide (((l.length - 0) : Int) > 30) = true := by rw [decide_eq_true_eq]; omega
      rw [e2, cond_true]
      exact ⟨_, _, _, _, rfl⟩
    · have e2 : decide (((l.length - 0) : Int) > 30) = false := by rw [decide_eq_false_iff_not]; omega
      rw [e2, cond_false, e3, cond_true, List.nil_append, newBad_eq F (by omega) hs]
      simp only [ob]
      have := oBooks20 F (bif decide (20 < sp.length) then 5 else 2) sp (by omega) l [] [] [] [] sp.length 0 F 0 (by omega) (by omega)
      rw [show ((0 : Nat) : Int) = 0 from rfl, List.drop_zero] at this
      rw [this]
      simp only []
      by_cases h20 : 20 < sp.length
      · have e4 : decide (((sp.length - 0) : Int) > 20) = true := by rw [decide_eq_true_eq]; omega
        rw [e4, decide_eq_true h20]
        exact ⟨_, _, _, _, rfl⟩
      · have e4 : decide (((sp.length - 0) : Int) > 20) = false := by rw [decide_eq_false_iff_not]; omega
        have e5 : sp.any (fun s => !spB s) = true := by
          unfold spsB at hs
          rw [decide_eq_true (show sp.length ≤ 20 by omega), Bool.true_and, List.all_eq_false] at hs
          obtain ⟨x, h1, h2⟩ := hs
          rw [List.any_eq_true]
          exact ⟨x, h1, by simpa using h2⟩
        rw [e4, decide_eq_false h20, e5]
        exact ⟨_, _, _, _, rfl⟩
end Go.Proofs.YtbnapejkjaddoaaDoor
