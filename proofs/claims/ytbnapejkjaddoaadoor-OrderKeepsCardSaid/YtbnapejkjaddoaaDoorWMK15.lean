/- Plain laws of chapter 10: all deeds on a book. No condition. -/
import Derived.Test.YtbnapejkjaddoaaDoorWMK9
import Derived.Test.YtbnapejkjaddoaaDoorWLO2k
import Derived.Test.YtbnapejkjaddoaaDoorWXA16
import Derived.Test.YtbnapejkjaddoaaDoorWXA19

namespace Go.Proofs.YtbnapejkjaddoaaDoor
open Go.RowKit
set_option maxRecDepth 100000
abbrev DdT := Int × (OdT × (WfT × (Int × Int)))
abbrev dD : DdT := (TC.dflt (TC.pair (TC.int IntKind.u8) (TC.pair (TC.pair (TC.int IntKind.i64) (TC.pair (TC.int IntKind.i64) (TC.pair (TC.int IntKind.i64) (TC.int IntKind.i64)))) (TC.pair (TC.pair (TC.pair (TC.pair (TC.int IntKind.i64) (TC.int IntKind.i64)) (TC.pair (TC.pair (TC.int IntKind.i64) (TC.int IntKind.i64)) (TC.pair (TC.pair (TC.int IntKind.i64) (TC.int IntKind.i64)) (TC.pair (TC.pair (TC.int IntKind.i64) (TC.int IntKind.i64)) (TC.pair (TC.pair (TC.int IntKind.i64) (TC.int IntKind.i64)) (TC.pair (TC.int IntKind.i64) (TC.int IntKind.i64))))))) (TC.pair (TC.int IntKind.u8) (TC.pair TC.str (TC.pair TC.str (TC.pair TC.str (TC.pair TC.str (TC.pair TC.str TC.str))))))) (TC.pair (TC.int IntKind.i64) (TC.int IntKind.i64))))))
section
variable {sp : List SpT} {wf : List WfT} {at_ : List Int} {od : List OdT} {ca : List Bool} {ors : List Nat} {ar2 : A2} {ar3 : A3}
theorem cnt_set (at_ : List Int) {n : Nat} (hn : n < at_.length) (x : Int) (i : Nat) : (cnt (at_.set n x) i : Int) = cnt at_ i - (if nth at_ 0 n = i then 1 else 0) + (if x = i then 1 else 0) := by
  induction at_ generalizing n with
  | nil => exact absurd hn (Nat.not_lt_zero _)
  | cons y l ih =>
    cases n with
    | zero =>
      have e0 : nth (y :: l) 0 0 = y := rfl
      rw [e0]
      unfold cnt
      rw [List.set_cons_zero, List.filter_cons, List.filter_cons]
      by_cases h1 : x = (i : Int) <;> by_cases h2 : y = (i : Int) <;> simp [h1, h2] <;> omega
    | succ n =>
      have e0 : nth (y :: l) 0 (n + 1) = nth l 0 n := rfl
      have := ih (n := n) (by simpa using hn)
      rw [e0]
      unfold cnt at this ⊢
      rw [List.set_cons_succ, List.filter_cons, List.filter_cons]
      by_cases h2 : y = (i : Int) <;> simp [h2] <;> omega
theorem cnt_app (at_ : List Int) (i : Nat) : cnt (at_ ++ ((-1) :: [])) i = cnt at_ i := by
  unfold cnt
  rw [List.filter_append]
  have : ((-1 : Int) == (i : Int)) = false := by rw [beq_eq_false_iff_ne]; omega
  simp [this]
theorem cnt_new (h : BInv wf at_ od ca ors ar2 ar3) : cnt at_ od.length = 0 := by
  unfold cnt
  rw [List.length_eq_zero_iff, List.filter_eq_nil_iff]
  intro x hx
  have := h.ra x hx
  simp only [beq_iff_eq]
  omega
theorem BVal.ca' (v : BVal sp wf at_ od ca) (ca' : List Bool) : BVal sp wf at_ od ca' := ⟨v.sl, v.sv, v.sr, v.wl, v.wv, v.ws, v.wr, v.ol, v.ov, v.cp⟩
theorem BVal.order (h : BInv wf at_ od ca ors ar2 ar3) (v : BVal sp wf at_ od ca) {o : OdT} (ho : odB sp.length o = true) (hl : od.length ≠ 12) (ca' : List Bool) : BVal sp wf at_ (od ++ (o :: [])) ca' := by
  have hol := v.ol
  refine ⟨v.sl, v.sv, v.sr, v.wl, v.wv, v.ws, v.wr, by simp; omega, fun j hj => ?_, fun j hj => ?_⟩
  · rw [List.length_append, List.length_singleton] at hj
    by_cases e : j = od.length
    · subst e; rw [nth_apR]; exact ho
    · rw [nth_apL _ _ _ (by omega)]; exact v.ov j (by omega)
  · rw [List.length_append, List.length_singleton] at hj
    by_cases e : j = od.length
    · subst e; rw [nth_apR, cnt_new h]
      have := (odB_iff.1 ho).2.1.1
      omega
    · rw [nth_apL _ _ _ (by omega)]; exact v.cp j (by omega)
theorem BVal.stock (v : BVal sp wf at_ od ca) {w : WfT} (hw : wfB w = true) (hs : shortW w) (hl : wf.length ≠ 60) : BVal sp (wf ++ (w :: [])) (at_ ++ ((-1) :: [])) od ca := by
  have hwl := v.wl
  have hr : 1 ≤ w.2.1 ∧ w.2.1 ≤ 31 := by
    unfold wfB at hw
    simp only [Bool.and_eq_true, decide_eq_true_eq] at hw
    exact hw.2.1
  have hm : ∀ x ∈ wf ++ (w :: []), x ∈ wf ∨ x = w := fun x hx => by simpa using hx
  refine ⟨v.sl, v.sv, v.sr, by simp; omega, fun x hx => ?_, fun x hx => ?_, fun x hx => ?_, v.ol, v.ov, fun j hj => ?_⟩
  · rcases hm x hx with h | rfl
    · exact v.wv x h
    · exact hw
  · rcases hm x hx with h | rfl
    · exact v.ws x h
    · exact ⟨by omega, hs⟩
  · rcases hm x hx with h | rfl
    · exact v.wr x h
    · omega
  · rw [cnt_app]; exact v.cp j hj
theorem BVal.back (v : BVal sp wf at_ od ca) {n : Nat} (hn : n < at_.length) : BVal sp wf (at_.set n (-1)) od ca := by
  refine ⟨v.sl, v.sv, v.sr, v.wl, v.wv, v.ws, v.wr, v.ol, v.ov, fun j hj => ?_⟩
  have h1 := v.cp j hj
  have h2 := cnt_set at_ hn (-1) j
  rw [if_neg (show ¬ (-1 : Int) = (j : Int) by omega)] at h2
  split at h2 <;> omega
theorem shp0 {a b : Int} (h : shp sp wf at_ od ca a b = 0) : ∃ n i : Nat, a = n ∧ b = i ∧ n < wf.length ∧ i < od.length ∧ nth at_ 0 n = -1 ∧ nth ca false i = false ∧ fltI (nth sp dS (nth od dO i).1.toNat) (nth wf dW n) = -1 ∧ 1 ≤ opn at_ od ca i := by
  unfold shp at h
  cases ha : inN a wf.length with
  | false => rw [ha] at h; exact absurd (show (7 : Int) = 0 from h) (by decide)
  | true =>
    cases hb : inN b od.length with
    | false => rw [ha, hb] at h; exact absurd (show (7 : Int) = 0 from h) (by decide)
    | true =>
      obtain ⟨n, hn, rfl⟩ := inN_iff.1 ha
      obtain ⟨i, hi, rfl⟩ := inN_iff.1 hb
      rw [ha, hb] at h
      simp only [Bool.not_true, cond_false, Int.toNat_natCast] at h
      refine ⟨n, i, rfl, rfl, hn, hi, ?_⟩
      cases h1 : (nth at_ 0 n != -1) with
      | true => rw [h1] at h; exact absurd (show (9 : Int) = 0 from h) (by decide)
      | false =>
        cases h2 : nth ca false i with
        | true => rw [h1, h2] at h; exact absurd (show (9 : Int) = 0 from h) (by decide)
        | false =>
          cases h3 : (fltI (nth sp dS (nth od dO i).1.toNat) (nth wf dW n) != -1) with
          | true => rw [h1, h2, h3] at h; exact absurd (show (100 : Int) = 0 from h) (by decide)
          | false =>
            cases h4 : decide (opn at_ od ca i < 1) with
            | true => rw [h1, h2, h3, h4] at h; exact absurd (show (8 : Int) = 0 from h) (by decide)
            | false =>
              simp only [bne_eq_false_iff_eq, decide_eq_false_iff_not] at h1 h3 h4
              exact ⟨h1, rfl, h3, by omega⟩
theorem BVal.ship (v : BVal sp wf at_ od ca) (la : at_.length = wf.length) {a b : Int} (h : shp sp wf at_ od ca a b = 0) : BVal sp wf (at_.set a.toNat b) od ca := by
  obtain ⟨n, i, rfl, rfl, hn, hi, h1, h2, h3, h4⟩ := shp0 h
  refine ⟨v.sl, v.sv, v.sr, v.wl, v.wv, v.ws, v.wr, v.ol, v.ov, fun j hj => ?_⟩
  rw [Int.toNat_natCast]
  have c1 := v.cp j hj
  have c2 := cnt_set at_ (n := n) (by omega) (i : Int) j
  rw [h1, if_neg (show ¬ (-1 : Int) = (j : Int) by omega)] at c2
  by_cases e : i = j
  · subst e
    rw [if_pos rfl] at c2
    unfold opn at h4
    rw [h2, cond_false] at h4
    omega
  · rw [if_neg (show ¬ (i : Int) = (j : Int) by omega)] at c2
    omega
theorem e12 (n : Nat) : ((((n - 0) : Int)) == (12 : Int)) = (n == 12) := by
  rw [Bool.eq_iff_iff, beq_iff_eq, beq_iff_eq]; omega
end
end Go.Proofs.YtbnapejkjaddoaaDoor


namespace Go.Proofs.YtbnapejkjaddoaaDoor
open Go.RowKit
set_option maxRecDepth 100000
theorem cfN (F : Nat) (l : List SpT) (hl : l.length ≤ 20) (hF : 100 < F) : cfSpN_S F l = some (l.any (fun s => !spB s)) := by
  have := scan (fun n i => ixSpN_L0 F ((l.length - 0) : Int) l n i) l dS (fun s => !spB s) (fun i b => b.1 = (i : Int)) (fun _ => True) (fun n => ⟨_, by
      show (bif decide (((l.length : Nat) : Int) < ((l.length - 0) : Int)) then _ else _) = _
      rw [Int.sub_zero, lt_f]; rfl, trivial⟩) (fun n i hi => by
      have e : ixSpN_L0 F ((l.length - 0) : Int) l (n + 1) (i : Int) = bif (!spB (nth l dS i)) then some (.inl ((i : Int), l)) else ixSpN_L0 F ((l.length - 0) : Int) l n ((i + 1 : Nat) : Int) := by
        show (bif decide ((i : Int) < ((l.length - 0) : Int)) then bif inB (i : Int) (l.length - 0) then ob (isSpec_S F (nth l dS (i : Int).toNat)) _ else none else _) = _
        rw [Int.sub_zero, lt_t hi, Nat.sub_zero, inB_nat hi, Int.toNat_natCast, isSp]
        simp only [cond_true]
        rw [i64s (by omega)]
      exact ⟨fun h => ⟨_, by rw [e, h]; rfl, rfl⟩, fun h => by rw [e, h]; rfl⟩) l.length 0 F (by omega) (by omega)
  unfold cfSpN_S ixSpN_S
  rw [List.drop_zero] at this
  rcases this with ⟨h1, j, b, _, _, _, _, h2, h3⟩ | ⟨h1, c, h2, _⟩
  · rw [h1, show ixSpN_L0 F ((l.length - 0) : Int) l F 0 = _ from h2]
    have h4 : decide (b.1 ≥ (0 : Int)) = true := by rw [h3]; simp
    show some (decide (b.1 ≥ (0 : Int))) = _
    rw [h4]
  · rw [h1, show ixSpN_L0 F ((l.length - 0) : Int) l F 0 = _ from h2]
    rfl
/-- All specifications pass. -/
def spsB (sp : List SpT) : Bool := decide (sp.length ≤ 20) && sp.all spB
theorem lenOk2_sm {n m : Nat} (h : (n + m) * 104 ≤ 140737488355328) : lenOk2 n m = true := decide_eq_true h
theorem newBook_eq (F : Nat) (hF : 100 < F) {sp : List SpT} (hs : spsB sp = true) (ar0 : A0) (ar1 : A1) (ar2 : A2) (ar3 : A3) : newBook_S F sp ar0 ar1 ar2 ar3 = some (0, ar0, ar1, ar2, ar3, sp, [], []) := by
  unfold spsB at hs
  rw [Bool.and_eq_true, decide_eq_true_eq, List.all_eq_true] at hs
  obtain ⟨h1, h2⟩ := hs
  unfold newBook_S
  rw [cfN F sp h1 hF]
  have e1 : decide (((sp.length - 0) : Int) > 20) = false := by rw [decide_eq_false_iff_not]; omega
  have e2 : sp.any (fun s => !spB s) = false := by
    rw [List.any_eq_false]; intro s hs; rw [h2 s hs]; decide
  have e3 : lenOk2 0 sp.length = true := lenOk2_sm (by omega)
  rw [e1, e2]
  show ob (cloneSp_S F sp) _ = _
  unfold cloneSp_S
  rw [e3]
  rfl
theorem BInv.nil : BInv [] [] [] [] [] [] [] := ⟨rfl, rfl, rfl, rfl, rfl, fun i hi => absurd hi (Nat.not_lt_zero _), fun i hi => absurd hi (Nat.not_lt_zero _), fun i hi => absurd hi (Nat.not_lt_zero _), fun i hi => absurd hi (Nat.not_lt_zero _), fun i hi => absurd hi (Nat.not_lt_zero _), fun x hx => by cases hx⟩
theorem BVal.nil {sp : List SpT} (hs : spsB sp = true) (h0 : ∀ s ∈ sp, 0 ≤ s.2) : BVal sp [] [] [] [] := by
  unfold spsB at hs
  rw [Bool.and_eq_true, decide_eq_true_eq, List.all_eq_true] at hs
  refine ⟨hs.1, hs.2, fun s h => ⟨h0 s h, ?_⟩, by simp, (fun w h => absurd h (List.not_mem_nil)), (fun w h => absurd h (List.not_mem_nil)), (fun w h => absurd h (List.not_mem_nil)), by simp, fun i hi => absurd hi (Nat.not_lt_zero _), fun i hi => absurd hi (Nat.not_lt_zero _)⟩
  have := hs.2 s h
  unfold spB at this
  rw [Bool.and_eq_true, decide_eq_true_eq] at this
  exact this.2
end Go.Proofs.YtbnapejkjaddoaaDoor


namespace Go.Proofs.YtbnapejkjaddoaaDoor
open Go.RowKit
set_option maxRecDepth 100000
section
variable {sp : List SpT} {wf : List WfT} {od : List OdT}
theorem cnt_cons (t : Int) (ts : List Int) (o : Nat) : (cnt (t :: ts) o : Int) = (if t = (o : Int) then 1 else 0) + cnt ts o := by
  unfold cnt
  rw [List.filter_cons]
  by_cases h : t = (o : Int) <;> simp [h] <;> omega
/-- With other counts that are enough for the list, it is worth the same. -/
theorem rk_chg : ∀ (ts : List Int) (fr : Nat) (l l' : Nat → Int) (v : Int), fr + ts.length ≤ wf.length → rkF wf.length od.length (pmM sp wf od) (wO od) fr ts l 0 = some v → (∀ o < od.length, (cnt ts o : Int) ≤ l' o) → rkF wf.length od.length (pmM sp wf od) (wO od) fr ts l' 0 = some v
  | [], _, _, _, _, _, h, _ => h
  | t :: ts, fr, l, l', v, hl, h, hc => by
    rw [List.length_cons] at hl
    rcases rk_cons h with ⟨rfl, h1⟩ | ⟨o, rfl, ho, hp, h2, h3⟩
    · refine rk_none (rk_chg ts (fr + 1) l l' v (by omega) h1 fun o ho => ?_)
      have := hc o ho
      rw [cnt_cons] at this
      split at this <;> omega
    · have hco := hc o ho
      rw [cnt_cons, if_pos rfl] at hco
      have := rk_some (wf := wf) (by omega) ho hp (show 0 < l' o by omega) (rk_chg ts (fr + 1) _ (updF l' o (l' o - 1)) _ (by omega) h3 fun o' ho' => by
        have := hc o' ho'
        rw [cnt_cons] at this
        unfold updF
        by_cases e : o' = o
        · subst e; rw [if_pos rfl] at this ⊢; omega
        · rw [if_neg e]; split at this <;> omega)
      rw [this]; congr 1; omega
/-- A list that is worth something takes no order too often. -/
theorem rk_cnt : ∀ (ts : List Int) (fr : Nat) (l : Nat → Int) (v : Int), (∀ o < od.length, 0 ≤ l o) → rkF wf.length od.length (pmM sp wf od) (wO od) fr ts l 0 = some v → ∀ o < od.length, (cnt ts o : Int) ≤ l o
  | [], _, l, _, h0, _, o, ho => h0 o ho
  | t :: ts, fr, l, v, h0, h, o, ho => by
    rw [cnt_cons]
    rcases rk_cons h with ⟨rfl, h1⟩ | ⟨o', rfl, ho', hp, h2, h3⟩
    · rw [if_neg (show ¬ (-1 : Int) = (o : Int) by omega)]
      have := rk_cnt ts (fr + 1) l v h0 h1 o ho
      omega
    · have := rk_cnt ts (fr + 1) _ _ (fun p hp' => by
        unfold updF
        split
        · omega
        · exact h0 p hp') h3 o ho
      unfold updF at this
      by_cases e : o' = o
      · subst e; rw [if_pos rfl] at this ⊢; omega
      · rw [if_neg (Ne.symm e)] at this
        rw [if_neg (show ¬ (o' : Int) = (o : Int) by omega)]; omega
theorem rk_val : ∀ (ts : List Int) (fr : Nat) (l : Nat → Int) (v : Int), rkF wf.length od.length (pmM sp wf od) (wO od) fr ts l 0 = some v → ∀ n < ts.length, nth ts 0 n = -1 ∨ ∃ o : Nat, nth ts 0 n = o ∧ o < od.length ∧ pmM sp wf od (fr + n) o = true
  | [], _, _, _, _, n, hn => absurd hn (Nat.not_lt_zero _)
  | t :: ts, fr, l, v, h, n, hn => by
    rw [List.length_cons] at hn
    rcases rk_cons h with ⟨rfl, h1⟩ | ⟨o, rfl, ho, hp, h2, h3⟩
    · cases n with
      | zero => exact .inl rfl
      | succ n =>
        rcases rk_val ts (fr + 1) l v h1 n (by omega) with h4 | ⟨o, h4, h5, h6⟩
        · exact .inl h4
        · exact .inr ⟨o, h4, h5, by rw [show fr + (n + 1) = fr + 1 + n by omega]; exact h6⟩
    · cases n with
      | zero => exact .inr ⟨o, rfl, ho, hp⟩
      | succ n =>
        rcases rk_val ts (fr + 1) _ _ h3 n (by omega) with h4 | ⟨o, h4, h5, h6⟩
        · exact .inl h4
        · exact .inr ⟨o, h4, h5, by rw [show fr + (n + 1) = fr + 1 + n by omega]; exact h6⟩
/-- One wafer more. -/
theorem rk_more : ∀ (ts : List Int) (fr : Nat) (l : Nat → Int) (v : Int) (n o : Nat), fr + ts.length ≤ wf.length → (∀ o < od.length, 0 ≤ l o) → rkF wf.length od.length (pmM sp wf od) (wO od) fr ts l 0 = some v → n < ts.length → nth ts 0 n = -1 → o < od.length → pmM sp wf od (fr + n) o = true → (cnt ts o : Int) < l o → rkF wf.length od.length (pmM sp wf od) (wO od) fr (ts.set n o) l 0 = some (v + wO od o)
  | [], _, _, _, n, _, _, _, _, hn, _, _, _, _ => absurd hn (Nat.not_lt_zero _)
  | t :: ts, fr, l, v, n, o, hl, h0, h, hn, ht, ho, hp, hc => by
    rw [List.length_cons] at hl hn
    rw [cnt_cons] at hc
    cases n with
    | zero =>
      have ht : t = -1 := ht
      subst ht
      rw [if_neg (show ¬ (-1 : Int) = (o : Int) by omega)] at hc
      rcases rk_cons h with ⟨_, h1⟩ | ⟨o', e, _⟩
      · rw [List.set_cons_zero]
        have hcn := rk_cnt ts (fr + 1) l v h0 h1
        exact rk_some (by omega) ho hp (by omega) (rk_chg ts (fr + 1) l _ v (by omega) h1 fun p hp' => by
          have := hcn p hp'
          unfold updF
          split
          · rename_i e; subst e; omega
          · exact this)
      · omega
    | succ n =>
      rw [List.set_cons_succ]
      have ht : nth ts 0 n = -1 := ht
      have hp : pmM sp wf od (fr + 1 + n) o = true := by rw [show fr + 1 + n = fr + (n + 1) by omega]; exact hp
      rcases rk_cons h with ⟨rfl, h1⟩ | ⟨o', rfl, ho', hp', h2, h3⟩
      · rw [if_neg (show ¬ (-1 : Int) = (o : Int) by omega)] at hc
        exact rk_none (rk_more ts (fr + 1) l v n o (by omega) h0 h1 (by omega) ht ho hp (by omega))
      · have := rk_some (wf := wf) (by omega) ho' hp' h2 (rk_more ts (fr + 1) _ _ n o (by omega) (fun p hp'' => by
          unfold updF
          split
          · omega
          · exact h0 p hp'') h3 (by omega) ht ho hp (by
          unfold updF
          by_cases e : o = o'
          · subst e; rw [if_pos rfl] at hc ⊢; omega
          · rw [if_neg (show ¬ (o' : Int) = (o : Int) by omega)] at hc
            rw [if_neg e]; omega))
        rw [this]; congr 1; omega
end
end Go.Proofs.YtbnapejkjaddoaaDoor


namespace Go.Proofs.YtbnapejkjaddoaaDoor
open Go.RowKit
set_option maxRecDepth 100000
theorem nth_mapK {α β : Type} (f : α → β) (l : List α) (d : α) (d' : β) {i : Nat} (h : i < l.length) : nth (l.map f) d' i = f (nth l d i) := by
  rw [← nth_eq _ d' i (by simpa using h), ← nth_eq l d i h, List.getElem_map]
section
variable {sp : List SpT} {wf : List WfT} {at_ at' : List Int} {od : List OdT} {ca : List Bool} {ors : List Nat} {ar2 : A2} {ar3 : A3}
/-- Each wafer passes where it is. -/
def Fit (sp : List SpT) (wf : List WfT) (at_ : List Int) (od : List OdT) : Prop := ∀ n < at_.length, ∀ i : Nat, nth at_ 0 n = i → fltI (nth sp dS (nth od dO i).1.toNat) (nth wf dW n) = -1
theorem Fit.order (h : BInv wf at_ od ca ors ar2 ar3) (f : Fit sp wf at_ od) (o : OdT) : Fit sp wf at_ (od ++ (o :: [])) := by
  intro n hn i hi
  have := h.ra _ (nth_mem (d := 0) hn)
  rw [nth_apL _ _ _ (by omega)]
  exact f n hn i hi
theorem Fit.stock (la : at_.length = wf.length) (f : Fit sp wf at_ od) (w : WfT) : Fit sp (wf ++ (w :: [])) (at_ ++ ((-1) :: [])) od := by
  intro n hn i hi
  rw [List.length_append, List.length_singleton] at hn
  by_cases e : n = at_.length
  · subst e; rw [nth_apR] at hi; omega
  · rw [nth_apL _ _ _ (by omega)] at hi
    rw [nth_apL _ _ _ (by omega)]
    exact f n (by omega) i hi
theorem Fit.back (f : Fit sp wf at_ od) (m : Nat) : Fit sp wf (at_.set m (-1)) od := by
  intro n hn i hi
  rw [List.length_set] at hn
  by_cases e : m = n
  · subst e; rw [nth_setE _ _ _ hn] at hi; omega
  · rw [nth_setN _ _ _ e] at hi; exact f n hn i hi
theorem Fit.ship (f : Fit sp wf at_ od) {a b : Int} (h : shp sp wf at_ od ca a b = 0) : Fit sp wf (at_.set a.toNat b) od := by
  obtain ⟨n, i, rfl, rfl, hn, hi, h1, h2, h3, h4⟩ := shp0 h
  intro m hm j hj
  rw [List.length_set] at hm
  rw [Int.toNat_natCast] at hj
  by_cases e : n = m
  · subst e
    rw [nth_setE _ _ _ hm] at hj
    have : i = j := by omega
    subst this
    exact h3
  · rw [nth_setN _ _ _ e] at hj; exact f m hm j hj
theorem mW_nth {n : Nat} (h : n < (selW at_ 0).length) : nth (mW wf at_) dW n = nth wf dW (nth (selW at_ 0) 0 n) := nth_mapK _ _ _ _ h
theorem mO_nth {day : Int} {k : Nat} (h : k < (selO od ca day 0).length) : nth (mO at_ od ca day) dO k = mkO at_ od ca (nth (selO od ca day 0) 0 k) := nth_mapK _ _ _ _ h
theorem pm_eq {day : Int} {n k : Nat} (hn : n < (selW at_ 0).length) (hk : k < (selO od ca day 0).length) : pmM sp (mW wf at_) (mO at_ od ca day) n k = (fltI (nth sp dS (nth od dO (nth (selO od ca day 0) 0 k)).1.toNat) (nth wf dW (nth (selW at_ 0) 0 n)) == (-1 : Int)) := by
  unfold pmM passB
  rw [mW_nth hn, mO_nth hk]
  rfl
theorem cO_eq {day : Int} {k : Nat} (hk : k < (selO od ca day 0).length) : cO (mO at_ od ca day) k = opn at_ od ca (nth (selO od ca day 0) 0 k) := by
  unfold cO
  rw [mO_nth hk]
  rfl
theorem opn0 (v : BVal sp wf at_ od ca) {i : Nat} (hi : i < od.length) : 0 ≤ opn at_ od ca i := by
  have := v.cp i hi
  unfold opn
  cases nth ca false i with
  | true => exact Int.le_refl 0
  | false => rw [cond_false]; omega
theorem cO0 (v : BVal sp wf at_ od ca) {day : Int} : ∀ k < (mO at_ od ca day).length, 0 ≤ cO (mO at_ od ca day) k := by
  intro k hk
  rw [List.length_map] at hk
  rw [cO_eq hk]
  exact opn0 v (selO_mem (nth_mem hk)).1
theorem plan_none (v : BVal sp wf at_ od ca) (v' : BVal sp wf at' od ca) (la : at_.length = wf.length) {day : Int} {tl : List Int} {u : Int} (hl : Least sp (mW wf at_) (mO at_ od ca day) 0 (cO (mO at_ od ca day)) u tl) (hb : BestM sp (mW wf at_) (mO at_ od ca day) (nth ((List.range (mO at_ od ca day).length).map (cO (mO at_ od ca day))) 0) 0 u)
    (hlen : at'.length = at_.length) (hfree : ∀ x < at_.length, nth at' 0 x = -1 → ∃ n < (selW at_ 0).length, nth (selW at_ 0) 0 n = x ∧ nth tl 0 n = -1)
    (hop : ∀ k < (selO od ca day 0).length, opn at' od ca (nth (selO od ca day 0) 0 k) = opn at_ od ca (nth (selO od ca day 0) 0 k) - cnt tl k)
    {tl2 : List Int} {v2 : Int} (hl2 : tl2.length = (selW at' 0).length) (h2 : rkF (mW wf at').length (mO at' od ca day).length (pmM sp (mW wf at') (mO at' od ca day)) (wO (mO at' od ca day)) 0 tl2 (cO (mO at' od ca day)) 0 = some v2) : pkN tl2 0 = [] := by
  unfold pkN
  rw [List.filter_eq_nil_iff]
  intro n2 hn2
  rw [List.mem_range'_1] at hn2
  have hn2 : n2 < tl2.length := by omega
  rcases rk_val tl2 0 _ v2 h2 n2 hn2 with e | ⟨k, e1, e2, e3⟩
  · rw [e]; decide
  · exfalso
    rw [List.length_map] at e2
    rw [Nat.zero_add] at e3
    have hn2' : n2 < (selW at' 0).length := by omega
    rw [pm_eq hn2' e2] at e3
    obtain ⟨x1, x2⟩ := selW_mem (nth_mem (d := 0) hn2')
    obtain ⟨n, hn, y1, y2⟩ := hfree _ (by omega) x2
    rw [← y1, ← pm_eq (at_ := at_) hn e2] at e3
    have c1 := rk_cnt tl2 0 _ v2 (cO0 v') h2 k (by rw [List.length_map]; exact e2)
    have c2 : 1 ≤ (cnt tl2 k : Int) := by
      have hm : (k : Int) ∈ tl2 := by rw [← e1]; exact nth_mem hn2
      have : (k : Int) ∈ tl2.filter (fun x => x == (k : Int)) := List.mem_filter.2 ⟨hm, by simp⟩
      have := List.length_pos_of_mem this
      unfold cnt; omega
    rw [cO_eq e2, hop k e2] at c1
    have hM := chk_ok (mkt_chk v la day)
    have hk : k < (mO at_ od ca day).length := by rw [List.length_map]; exact e2
    have hW : (mW wf at_).length = (selW at_ 0).length := List.length_map ..
    have htl : tl.length = (mW wf at_).length := hl.1
    have h3 := rk_more tl 0 _ u n k (by omega) (cO0 v) hl.2.1 (by omega) y2 hk (by rw [Nat.zero_add]; exact e3) (by rw [cO_eq e2]; omega)
    have h4 : rkF (mW wf at_).length (mO at_ od ca day).length (pmM sp (mW wf at_) (mO at_ od ca day)) (wO (mO at_ od ca day)) 0 (tl.set n k) (nth ((List.range (mO at_ od ca day).length).map (cO (mO at_ od ca day))) 0) 0 = some (u + wO (mO at_ od ca day) k) := by
      rw [← h3]
      exact rkF_congr _ _ _ _ _ fun o ho => nth_map_range _ _ ho
    have h5 := BestM.up hM (fun o ho => by rw [nth_map_range _ _ ho]; exact cO0 v o ho) hb (by rw [List.length_set, htl, Nat.sub_zero]) h4
    have := (wO_le hM hk).1
    omega
end
end Go.Proofs.YtbnapejkjaddoaaDoor


namespace Go.Proofs.YtbnapejkjaddoaaDoor
open Go.RowKit
set_option maxRecDepth 100000
theorem take_snoc {α : Type} (l : List α) (d : α) {j : Nat} (h : j < l.length) : l.take (j + 1) = l.take j ++ [nth l d j] := by
  rw [← nth_eq l d j h, List.take_append_getElem h]
theorem cnt_snoc (l : List Int) (x : Int) (o : Nat) : (cnt (l ++ [x]) o : Int) = cnt l o + (if x = (o : Int) then 1 else 0) := by
  unfold cnt
  rw [List.filter_append, List.length_append]
  by_cases h : x = (o : Int) <;> simp [h]
section
variable {sp : List SpT} {wf : List WfT} {at_ at' : List Int} {od : List OdT} {ca : List Bool} {ors : List Nat} {ar2 : A2} {ar3 : A3}
theorem passes_fit (F : Nat) {s : SpT} {w : WfT} (hu : 0 ≤ w.2.1 ∧ w.2.1 ≤ 255) (hs : shortW w) (h1 : spB s = true) (h2 : wfB w = true) (h3 : fltI s w = -1) : passes_S F s w = some (1, 0) := by
  unfold passes_S
  rw [isSp, h1, isWf F w hu hs, h2]
  show ob (fault_S F s w) _ = _
  rw [fault_eq, h3]
  rfl
theorem keeps0 (F : Nat) (hF : 4000 ≤ F) (h : BInv wf at_ od ca ors ar2 ar3) (v : BVal sp wf at_ od ca) (f : Fit sp wf at_ od) (ar0 : A0) (ar1 : A1) : ∀ (m j n : Nat) (th : List Int), j + m = wf.length → m < n → th.length = od.length → (∀ i < od.length, nth th 0 i = cnt (at_.take j) i) →
    ∃ th' : List Int, keeps_L0 F n (j : Int) sp wf ors sp od wf ca ar0 ar1 ar2 ar3 th = some (.inr (sp, wf, ors, sp, od, wf, ca, ar0, ar1, ar2, ar3, th')) ∧ th'.length = od.length ∧ ∀ i < od.length, nth th' 0 i = cnt at_ i
  | 0, j, n + 1, th, hj, _, hl, ht => by
    have : j = wf.length := by omega
    subst this
    rw [keeps_L0, lt_f', cond_false]
    refine ⟨th, rfl, hl, fun i hi => ?_⟩
    rw [ht i hi, ← h.la, List.take_length]
  | m + 1, j, n + 1, th, hj, hn, hl, ht => by
    have hjw : j < wf.length := by omega
    have hja : j < at_.length := by rw [h.la]; exact hjw
    have hk := v.ol; have hw := v.wl
    rw [keeps_L0, lt_t' hjw, cond_true, bWhere_eq F (by omega) h hk hw]
    have hin : inN (j : Int) wf.length = true := inN_iff.2 ⟨j, hjw, rfl⟩
    simp only [hin, cond_true, ob, Int.toNat_natCast, bne_self_eq_false, cond_false]
    have hra := h.ra _ (nth_mem (d := 0) hja)
    have e1 : decide (nth at_ 0 j < (-1 : Int)) = false := by rw [decide_eq_false_iff_not]; omega
    have e2 : decide (nth at_ 0 j ≥ ((od.length - 0) : Int)) = false := by rw [decide_eq_false_iff_not]; omega
    simp only [e1, e2, cond_false]
    rcases hra with hm | ⟨h0, h1⟩
    · have e3 : decide (nth at_ 0 j ≥ (0 : Int)) = false := by rw [decide_eq_false_iff_not]; omega
      simp only [e3, cond_false]
      rw [i64s (by omega)]
      exact keeps0 F hF h v f ar0 ar1 m (j + 1) n th (by omega) (by omega) hl fun i hi => by
        rw [ht i hi, take_snoc at_ 0 hja]
        have := cnt_snoc (at_.take j) (nth at_ 0 j) i
        rw [if_neg (by omega)] at this
        omega
    · obtain ⟨i, hi⟩ : ∃ i : Nat, nth at_ 0 j = i := ⟨(nth at_ 0 j).toNat, by omega⟩
      have hi' : i < od.length := by omega
      have e3 : decide (nth at_ 0 j ≥ (0 : Int)) = true := by rw [decide_eq_true_eq]; omega
      have e4 : inB (i : Int) (th.length - 0) = true := inB_nat (by omega)
      have e5 : inB (i : Int) (od.length - 0) = true := inB_nat (by omega)
      obtain ⟨h5, h6⟩ := v.odi i hi'
      have e6 : inB (nth od dO i).1 (sp.length - 0) = true := by
        have := inB_nat (i := (nth od dO i).1.toNat) (n := sp.length - 0) (by omega)
        rwa [show (((nth od dO i).1.toNat : Nat) : Int) = (nth od dO i).1 by omega] at this
      have e7 : inB (j : Int) (wf.length - 0) = true := inB_nat (by omega)
      have hwm : nth wf dW j ∈ wf := nth_mem hjw
      have e8 := passes_fit F (s := nth sp dS (nth od dO i).1.toNat) (w := nth wf dW j) (v.ws _ hwm).1 (v.ws _ hwm).2 (v.sv _ (nth_mem (by omega))) (v.wv _ hwm) (f j hja i hi)
      rw [hi] at e3 ⊢
      simp only [e3, e4, e5, e6, e7, cond_true, Int.toNat_natCast]
      rw [e8]
      simp only [bne_self_eq_false, cond_false]
      rw [i64s (by omega)]
      have hti := ht i hi'
      have hcl := cnt_le (at_.take j) i
      have hc1 : (cnt (at_.take j) i : Int) ≤ 60 := by
        rw [List.length_take] at hcl
        omega
      rw [hti, w64 _ (by omega)]
      exact keeps0 F hF h v f ar0 ar1 m (j + 1) n _ (by omega) (by omega) (by simpa using hl) fun i' hi'' => by
        rw [take_snoc at_ 0 hja]
        have := cnt_snoc (at_.take j) (nth at_ 0 j) i'
        by_cases e : i = i'
        · subst e
          rw [nth_setE _ _ _ (by omega)]
          rw [if_pos hi] at this
          omega
        · rw [nth_setN _ _ _ e, ht i' hi'']
          rw [if_neg (by omega)] at this
          omega
  | m, j, 0, _, _, hn, _, _ => by omega
theorem opn_le (v : BVal sp wf at_ od ca) {i : Nat} (hi : i < od.length) : opn at_ od ca i ≤ 60 := by
  have := v.ods i hi
  unfold opn
  cases nth ca false i with
  | true => show (0 : Int) ≤ 60; omega
  | false => rw [cond_false]; omega
theorem keeps1 (F : Nat) (hF : 4000 ≤ F) (h : BInv wf at_ od ca ors ar2 ar3) (v : BVal sp wf at_ od ca) (ar0 : A0) (ar1 : A1) (th : List Int) (hl : th.length = od.length) (ht : ∀ i < od.length, nth th 0 i = cnt at_ i) : ∀ (m i n : Nat), i + m = od.length → m < n →
    keeps_L1 F n (i : Int) sp wf ors sp od wf ca ar0 ar1 ar2 ar3 th = some (.inr (sp, wf, ors, sp, od, wf, ca, ar0, ar1, ar2, ar3))
  | 0, i, n + 1, hi, _ => by
    have : i = od.length := by omega
    subst this
    rw [keeps_L1, lt_f', cond_false]
  | m + 1, i, n + 1, hi, hn => by
    have hio : i < od.length := by omega
    have hk := v.ol; have hw := v.wl; have hlc := h.lc
    rw [keeps_L1, lt_t' hio, cond_true, bOpen_eq F h hk v.ods hw]
    have hin : inN (i : Int) od.length = true := inN_iff.2 ⟨i, hio, rfl⟩
    have e1 : inB (i : Int) (ca.length - 0) = true := inB_nat (by omega)
    have e2 : inB (i : Int) (th.length - 0) = true := inB_nat (by omega)
    have e3 : inB (i : Int) (od.length - 0) = true := inB_nat (by omega)
    simp only [hin, cond_true, ob, Int.toNat_natCast, bne_self_eq_false, cond_false, e1, e2, e3]
    have ih := keeps1 F hF h v ar0 ar1 th hl ht m (i + 1) n (by omega) (by omega)
    have h1 := ht i hio
    have h2 := v.ods i hio
    have h3 := cnt_le at_ i
    have hla := h.la
    cases hc : nth ca false i with
    | true =>
      have e4 : opn at_ od ca i = 0 := by unfold opn; rw [hc]; rfl
      simp only [e4, cond_true, Bool.not_true, bne_self_eq_false, cond_false]
      rw [i64s (by omega)]
      exact ih
    | false =>
      have e4 : opn at_ od ca i = (nth od dO i).2.1 - (cnt at_ i : Int) := by unfold opn; rw [hc]; rfl
      have e5 : IntKind.wrap IntKind.i64 (opn at_ od ca i + nth th 0 i) = (nth od dO i).2.1 := by rw [h1, e4, w64 _ (by omega)]; omega
      simp only [e5, cond_true, Bool.not_false, bne_self_eq_false, cond_false]
      rw [i64s (by omega)]
      exact ih
  | m, i, 0, _, hn => by omega
theorem keeps_eq (F : Nat) (hF : 4000 ≤ F) (h : BInv wf at_ od ca ors ar2 ar3) (v : BVal sp wf at_ od ca) (f : Fit sp wf at_ od) (ar0 : A0) (ar1 : A1) : keeps_S F sp wf ors sp od wf ca ar0 ar1 ar2 ar3 = some (true, ar0, ar1, ar2, ar3) := by
  have hk := v.ol; have hw := v.wl
  unfold keeps_S
  have e1 : (decide ((0 : Int) ≤ ((od.length - 0) : Int)) && decide (((od.length - 0) : Int) ≤ (1000000 : Int))) = true := by
    rw [Bool.and_eq_true, decide_eq_true_eq, decide_eq_true_eq]; omega
  have e2 : ((od.length - 0) : Int).toNat = od.length := by omega
  rw [e1, cond_true, e2]
  obtain ⟨th, g1, g2, g3⟩ := keeps0 F hF h v f ar0 ar1 wf.length 0 F (List.replicate od.length 0) (by omega) (by omega) (by simp) (fun i hi => by
    rw [← nth_eq _ 0 i (by simpa using hi), List.getElem_replicate]; rfl)
  rw [show ((0 : Nat) : Int) = 0 from rfl] at g1
  rw [g1]
  simp only [ob, su]
  have g4 := keeps1 F hF h v ar0 ar1 th g2 g3 od.length 0 F (by omega) (by omega)
  rw [show ((0 : Nat) : Int) = 0 from rfl] at g4
  rw [g4]
end
end Go.Proofs.YtbnapejkjaddoaaDoor


namespace Go.Proofs.YtbnapejkjaddoaaDoor
open Go.RowKit
set_option maxRecDepth 100000
section
variable {sp : List SpT} {wf : List WfT} {at_ at' : List Int} {od : List OdT} {ca : List Bool} {ors : List Nat} {ar2 : A2} {ar3 : A3}
theorem z20 : ((2 : Int) == 0) = false := rfl
theorem z80 : ((8 : Int) == 0) = false := rfl
theorem z70 : ((7 : Int) == 0) = false := rfl
theorem z90 : ((9 : Int) == 0) = false := rfl
theorem z00 : ((0 : Int) == 0) = true := rfl
theorem set_tt (l : List Bool) {j : Nat} (h : nth l false j = true) : l.set j true = l := by
  apply List.ext_getElem (by simp)
  intro k h1 h2
  rw [List.getElem_set]
  split
  · rename_i e; subst e; rw [nth_eq l false j h2, h]
  · rfl
theorem deeds (F : Nat) (hF : 4000 ≤ F) (day : Int) (l : List DdT) (hl : l.length ≤ 30) (hd : ∀ d ∈ l, 0 ≤ d.2.2.1.2.1 ∧ d.2.2.1.2.1 ≤ 255) :
    ∀ (m i n : Nat) (ar0 : A0) (ar1 : A1) (ar2 : A2) (ar3 : A3) (ors : List Nat) (wf : List WfT) (at_ : List Int) (od : List OdT) (ca : List Bool), i + m = l.length → m < n → BInv wf at_ od ca ors ar2 ar3 → BVal sp wf at_ od ca → Fit sp wf at_ od →
    ∃ r, oKeeps_L0 F n day (i : Int) sp l ar0 ar1 ar2 ar3 od wf ca sp wf ors = some r ∧ (∀ b, r = .inl b → b.1 = true) ∧
      ∀ c, r = .inr c → ∃ (ar0' : A0) (ar1' : A1) (ar2' : A2) (ar3' : A3) (ors' : List Nat) (wf' : List WfT) (at' : List Int) (od' : List OdT) (ca' : List Bool), c = (day, (sp, l, ar0', ar1', ar2', ar3', od', wf', ca', sp, wf', ors')) ∧ BInv wf' at' od' ca' ors' ar2' ar3' ∧ BVal sp wf' at' od' ca' ∧ Fit sp wf' at' od' := by
  intro m
  induction m with
  | zero =>
    intro i n ar0 ar1 ar2 ar3 ors wf at_ od ca hi hn h v f
    obtain ⟨n, rfl⟩ : ∃ k, n = k + 1 := ⟨n - 1, by omega⟩
    have : i = l.length := by omega
    subst this
    rw [oKeeps_L0, lt_f', cond_false]
    exact ⟨_, rfl, fun b hb => (by cases hb), fun c hc => by cases hc; exact ⟨_, _, _, _, _, _, _, _, _, rfl, h, v, f⟩⟩
  | succ m ih =>
    intro i n ar0 ar1 ar2 ar3 ors wf at_ od ca hi hn h v f
    obtain ⟨n, rfl⟩ : ∃ k, n = k + 1 := ⟨n - 1, by omega⟩
    have hil : i < l.length := by omega
    have hw := v.wl; have hk := v.ol; have hla := h.la; have hlc := h.lc; have hsl := v.sl
    have hdi : 0 ≤ (nth l dD i).2.2.1.2.1 ∧ (nth l dD i).2.2.1.2.1 ≤ 255 := hd _ (nth_mem hil)
    rw [oKeeps_L0, lt_t' hil, cond_true, show inB (i : Int) (l.length - 0) = true from inB_nat (by omega), cond_true, Int.toNat_natCast, long_eq]
    generalize nth l dD i = d at hdi ⊢
    obtain ⟨k, o, w, a, b⟩ := d
    simp only [ob]
    cases hlg : lgB w with
    | true => exact ⟨_, rfl, fun b hb => (by cases hb; rfl), fun c hc => by cases hc⟩
    | false =>
      have hsw := lg_short hlg
      rw [cond_false]
      cases h14 : decide (((wf.length - 0) : Int) > 14) with
      | true => exact ⟨_, rfl, fun b hb => (by cases hb; rfl), fun c hc => by cases hc⟩
      | false =>
        rw [cond_false]
        generalize Int.tmod k 5 = t
        have fin : ∀ (ar0 : A0) (ar1 : A1) (ar2 : A2) (ar3 : A3) (ors : List Nat) (wf : List WfT) (at_ : List Int) (od : List OdT) (ca : List Bool), BInv wf at_ od ca ors ar2 ar3 → BVal sp wf at_ od ca → Fit sp wf at_ od → ∃ r, oKeeps_L0 F n day (IntKind.wrap IntKind.i64 ((i : Int) + 1)) sp l ar0 ar1 ar2 ar3 od wf ca sp wf ors = some r ∧ (∀ b, r = .inl b → b.1 = true) ∧
            ∀ c, r = .inr c → ∃ (ar0' : A0) (ar1' : A1) (ar2' : A2) (ar3' : A3) (ors' : List Nat) (wf' : List WfT) (at' : List Int) (od' : List OdT) (ca' : List Bool), c = (day, (sp, l, ar0', ar1', ar2', ar3', od', wf', ca', sp, wf', ors')) ∧ BInv wf' at' od' ca' ors' ar2' ar3' ∧ BVal sp wf' at' od' ca' ∧ Fit sp wf' at' od' := by
          intro ar0 ar1 ar2 ar3 ors wf at_ od ca h v f
          rw [i64s (by omega)]
          exact ih (i + 1) n ar0 ar1 ar2 ar3 ors wf at_ od ca (by omega) (by omega) h v f
        by_cases h0 : t = 0
        · rw [show (t == (0 : Int)) = true from beq_iff_eq.2 h0, cond_true]
          obtain ⟨ors', ar2', ar3', e1, e2⟩ := bOrder_eq F h hk hsl o ar0 ar1
          rw [e1]
          simp only []
          cases hb : odB sp.length o with
          | false =>
            rw [hb] at e2
            simp only [Bool.not_false, cond_true, z20, cond_false, su]
            exact fin _ _ _ _ _ _ _ _ _ e2 v f
          | true =>
            rw [hb] at e2
            simp only [Bool.not_true, cond_false]
            cases h6 : (od.length == 12) with
            | true =>
              rw [h6] at e2
              simp only [cond_true, z80, cond_false, su]
              exact fin _ _ _ _ _ _ _ _ _ e2 v f
            | false =>
              rw [h6] at e2
              have e3 : lenOk (od.length - 0) (o :: []).length = true := lenOk_sm (by simp; omega)
              have e4 : lenOk (ca.length - 0) 1 = true := lenOk_sm (by omega)
              have e5 := (odB_iff.1 hb).1
              have e6 : decide (o.1 < (0 : Int)) = false := by rw [decide_eq_false_iff_not]; omega
              have e7 : decide (o.1 ≥ ((sp.length - 0) : Int)) = false := by rw [decide_eq_false_iff_not]; omega
              have e8 : ((od.length : Int) != ((od.length - 0) : Int)) = false := by rw [bne_eq_false_iff_eq]; omega
              simp only [cond_true, z00, cond_false, su, e3, e4, e6, e7, e8]
              exact fin _ _ _ _ _ _ _ _ _ e2 (v.order h hb (by simpa using h6) _) (f.order h o)
        · rw [show (t == (0 : Int)) = false from beq_eq_false_iff_ne.2 h0, cond_false]
          by_cases h1 : t = 1
          · rw [show (t == (1 : Int)) = true from beq_iff_eq.2 h1, cond_true]
            rw [bStock_eq F hw w hdi hsw]
            simp only []
            cases hb : wfB w with
            | false =>
              simp only [Bool.not_false, Bool.false_and, cond_true, z20, cond_false, su]
              exact fin _ _ _ _ _ _ _ _ _ h v f
            | true =>
              simp only [Bool.not_true, Bool.true_and, cond_false]
              cases h6 : (wf.length == 60) with
              | true =>
                simp only [cond_true, Bool.not_true, z80, cond_false, su]
                exact fin _ _ _ _ _ _ _ _ _ h v f
              | false =>
                have e3 : lenOk (wf.length - 0) (w :: []).length = true := lenOk_sm (by simp; omega)
                have e8 : ((wf.length : Int) != ((wf.length - 0) : Int)) = false := by rw [bne_eq_false_iff_eq]; omega
                simp only [cond_true, Bool.not_false, e3, e8, z00, cond_false, su]
                exact fin _ _ _ _ _ _ _ _ _ (h.stock w) (v.stock hb hsw (by simpa using h6)) (f.stock hla w)
          · rw [show (t == (1 : Int)) = false from beq_eq_false_iff_ne.2 h1, cond_false]
            by_cases h2 : t = 2
            · rw [show (t == (2 : Int)) = true from beq_iff_eq.2 h2, cond_true]
              obtain ⟨ar2', e1, e2⟩ := bCancel_eq (sp := sp) F h hk a ar0 ar1
              rw [e1]
              simp only []
              cases hb : inN a od.length with
              | false =>
                rw [hb] at e2
                simp only [Bool.not_false, cond_true, z70, cond_false, su]
                exact fin _ _ _ _ _ _ _ _ _ e2 v f
              | true =>
                rw [hb] at e2
                obtain ⟨j, hj, rfl⟩ := inN_iff.1 hb
                have e3 : inB (j : Int) (ca.length - 0) = true := inB_nat (by omega)
                have e6 : decide ((j : Int) < (0 : Int)) = false := by rw [decide_eq_false_iff_not]; omega
                have e7 : decide ((j : Int) ≥ ((od.length - 0) : Int)) = false := by rw [decide_eq_false_iff_not]; omega
                simp only [Bool.not_true, cond_false, cond_true, Int.toNat_natCast] at e2 ⊢
                cases hc : nth ca false j with
                | true =>
                  simp only [cond_true, z90, cond_false, su]
                  refine fin _ _ _ _ _ _ _ _ _ ?_ v f
                  rwa [set_tt ca hc] at e2
                | false =>
                  simp only [z00, cond_true, cond_false, su, e3, e6, e7]
                  exact fin _ _ _ _ _ _ _ _ _ e2 (v.ca' _) f
            · rw [show (t == (2 : Int)) = false from beq_eq_false_iff_ne.2 h2, cond_false]
              by_cases h3 : t = 3
              · rw [show (t == (3 : Int)) = true from beq_iff_eq.2 h3, cond_true]
                obtain ⟨ar3', e1, e2⟩ := bShip_eq F (by omega) h hk hw v.ods v.odi a b ar0 ar1
                rw [e1]
                simp only [su]
                cases hb : (shp sp wf at_ od ca a b == 0) with
                | false =>
                  rw [hb, cond_false] at e2
                  exact fin _ _ _ _ _ _ _ _ _ e2 v f
                | true =>
                  rw [hb, cond_true] at e2
                  have hz := eq_of_beq hb
                  exact fin _ _ _ _ _ _ _ _ _ e2 (v.ship hla hz) (f.ship hz)
              · rw [show (t == (3 : Int)) = false from beq_eq_false_iff_ne.2 h3, cond_false]
                obtain ⟨ar3', e1, e2⟩ := bBack_eq (sp := sp) F (by omega) h hk hw a ar0 ar1
                rw [e1]
                simp only [su]
                cases hb : inN a wf.length with
                | false =>
                  rw [hb, cond_false] at e2
                  exact fin _ _ _ _ _ _ _ _ _ e2 v f
                | true =>
                  rw [hb, cond_true] at e2
                  obtain ⟨j, hj, rfl⟩ := inN_iff.1 hb
                  rw [Int.toNat_natCast] at e2
                  exact fin _ _ _ _ _ _ _ _ _ e2 (v.back (by omega)) (f.back j)
end
end Go.Proofs.YtbnapejkjaddoaaDoor
