/- Plain laws of chapter 10: all deeds on a book. No condition. -/
import Derived.Test.YtbepdcodkecboaaDoorWMK9
import Derived.Test.YtbepdcodkecboaaDoorWMC4
import Derived.Test.YtbepdcodkecboaaDoorWXB9

namespace Go.Proofs.YtbepdcodkecboaaDoor
open Go.RowKit
set_option maxRecDepth 100000
section
variable {sp : List SpT} {wf : List WfT} {at_ : List Int} {od : List OdT} {ca : List Bool} {ors : List Nat} {ar2 : A2} {ar3 : A3}
theorem cnt_set (at_ : List Int) {n : Nat} (hn : n < at_.length) (x : Int) (i : Nat) : (cnt (at_.set n x) i : Int) = cnt at_ i - (if nth at_ 0 n = i then 1 else 0) + (if x = i then 1 else 0) := by
  induction at_ generalizing n with
  | nil => exact absurd hn (Nat.not_lt_zero _)
  | cons y l ih =>
    cases n with
    | zero =>
      have e0 : nth (y :: l) 0 0 = y := rfl
      rw [e0]
      unfold cnt
      rw [List.set_cons_zero, List.filter_cons, List.filter_cons]
      by_cases h1 : x = (i : Int) <;> by_cases h2 : y = (i : Int) <;> simp [h1, h2] <;> omega
    | succ n =>
      have e0 : nth (y :: l) 0 (n + 1) = nth l 0 n := rfl
      have := ih (n := n) (by simpa using hn)
      rw [e0]
      unfold cnt at this ⊢
      rw [List.set_cons_succ, List.filter_cons, List.filter_cons]
      by_cases h2 : y = (i : Int) <;> simp [h2] <;> omega
theorem cnt_app (at_ : List Int) (i : Nat) : cnt (at_ ++ ((-1) :: [])) i = cnt at_ i := by
  unfold cnt
  rw [List.filter_append]
  have : ((-1 : Int) == (i : Int)) = false := by rw [beq_eq_false_iff_ne]; omega
  simp [this]
theorem cnt_new (h : BInv wf at_ od ca ors ar2 ar3) : cnt at_ od.length = 0 := by
  unfold cnt
  rw [List.length_eq_zero_iff, List.filter_eq_nil_iff]
  intro x hx
  have := h.ra x hx
  simp only [beq_iff_eq]
  omega
theorem BVal.ca' (v : BVal sp wf at_ od ca) (ca' : List Bool) : BVal sp wf at_ od ca' := ⟨v.sl, v.sv, v.sr, v.wl, v.wv, v.ws, v.wr, v.ol, v.ov, v.cp⟩
theorem BVal.order (h : BInv wf at_ od ca ors ar2 ar3) (v : BVal sp wf at_ od ca) {o : OdT} (ho : odB sp.length o = true) (hl : od.length ≠ 12) (ca' : List Bool) : BVal sp wf at_ (od ++ (o :: [])) ca' := by
  have hol := v.ol
  refine ⟨v.sl, v.sv, v.sr, v.wl, v.wv, v.ws, v.wr, by simp; omega, fun j hj => ?_, fun j hj => ?_⟩
  · rw [List.length_append, List.length_singleton] at hj
    by_cases e : j = od.length
    · subst e; rw [nth_apR]; exact ho
    · rw [nth_apL _ _ _ (by omega)]; exact v.ov j (by omega)
  · rw [List.length_append, List.length_singleton] at hj
    by_cases e : j = od.length
    · subst e; rw [nth_apR, cnt_new h]
      have := (odB_iff.1 ho).2.1.1
      omega
    · rw [nth_apL _ _ _ (by omega)]; exact v.cp j (by omega)
theorem BVal.stock (v : BVal sp wf at_ od ca) {w : WfT} (hw : wfB w = true) (hs : shortW w) (hl : wf.length ≠ 60) : BVal sp (wf ++ (w :: [])) (at_ ++ ((-1) :: [])) od ca := by
  have hwl := v.wl
  have hr : 1 ≤ w.2.1 ∧ w.2.1 ≤ 31 := by
    unfold wfB at hw
    simp only [Bool.and_eq_true, decide_eq_true_eq] at hw
    exact hw.2.1
  have hm : ∀ x ∈ wf ++ (w :: []), x ∈ wf ∨ x = w := fun x hx => by simpa using hx
  refine ⟨v.sl, v.sv, v.sr, by simp; omega, fun x hx => ?_, fun x hx => ?_, fun x hx => ?_, v.ol, v.ov, fun j hj => ?_⟩
  · rcases hm x hx with h | rfl
    · exact v.wv x h
    · exact hw
  · rcases hm x hx with h | rfl
    · exact v.ws x h
    · exact ⟨by omega, hs⟩
  · rcases hm x hx with h | rfl
    · exact v.wr x h
    · omega
  · rw [cnt_app]; exact v.cp j hj
theorem BVal.back (v : BVal sp wf at_ od ca) {n : Nat} (hn : n < at_.length) : BVal sp wf (at_.set n (-1)) od ca := by
  refine ⟨v.sl, v.sv, v.sr, v.wl, v.wv, v.ws, v.wr, v.ol, v.ov, fun j hj => ?_⟩
  have h1 := v.cp j hj
  have h2 := cnt_set at_ hn (-1) j
  rw [if_neg (show ¬ (-1 : Int) = (j : Int) by omega)] at h2
  split at h2 <;> omega
theorem shp0 {a b : Int} (h : shp sp wf at_ od ca a b = 0) : ∃ n i : Nat, a = n ∧ b = i ∧ n < wf.length ∧ i < od.length ∧ nth at_ 0 n = -1 ∧ nth ca false i = false ∧ fltI (nth sp dS (nth od dO i).1.toNat) (nth wf dW n) = -1 ∧ 1 ≤ opn at_ od ca i := by
  unfold shp at h
  cases ha : inN a wf.length with
  | false => rw [ha] at h; exact absurd (show (7 : Int) = 0 from h) (by decide)
  | true =>
    cases hb : inN b od.length with
    | false => rw [ha, hb] at h; exact absurd (show (7 : Int) = 0 from h) (by decide)
    | true =>
      obtain ⟨n, hn, rfl⟩ := inN_iff.1 ha
      obtain ⟨i, hi, rfl⟩ := inN_iff.1 hb
      rw [ha, hb] at h
      simp only [Bool.not_true, cond_false, Int.toNat_natCast] at h
      refine ⟨n, i, rfl, rfl, hn, hi, ?_⟩
      cases h1 : (nth at_ 0 n != -1) with
      | true => rw [h1] at h; exact absurd (show (9 : Int) = 0 from h) (by decide)
      | false =>
        cases h2 : nth ca false i with
        | true => rw [h1, h2] at h; exact absurd (show (9 : Int) = 0 from h) (by decide)
        | false =>
          cases h3 : (fltI (nth sp dS (nth od dO i).1.toNat) (nth wf dW n) != -1) with
          | true => rw [h1, h2, h3] at h; exact absurd (show (100 : Int) = 0 from h) (by decide)
          | false =>
            cases h4 : decide (opn at_ od ca i < 1) with
            | true => rw [h1, h2, h3, h4] at h; exact absurd (show (8 : Int) = 0 from h) (by decide)
            | false =>
              simp only [bne_eq_false_iff_eq, decide_eq_false_iff_not] at h1 h3 h4
              exact ⟨h1, rfl, h3, by omega⟩
theorem BVal.ship (v : BVal sp wf at_ od ca) (la : at_.length = wf.length) {a b : Int} (h : shp sp wf at_ od ca a b = 0) : BVal sp wf (at_.set a.toNat b) od ca := by
  obtain ⟨n, i, rfl, rfl, hn, hi, h1, h2, h3, h4⟩ := shp0 h
  refine ⟨v.sl, v.sv, v.sr, v.wl, v.wv, v.ws, v.wr, v.ol, v.ov, fun j hj => ?_⟩
  rw [Int.toNat_natCast]
  have c1 := v.cp j hj
  have c2 := cnt_set at_ (n := n) (by omega) (i : Int) j
  rw [h1, if_neg (show ¬ (-1 : Int) = (j : Int) by omega)] at c2
  by_cases e : i = j
  · subst e
    rw [if_pos rfl] at c2
    unfold opn at h4
    rw [h2, cond_false] at h4
    omega
  · rw [if_neg (show ¬ (i : Int) = (j : Int) by omega)] at c2
    omega
theorem e12 (n : Nat) : ((((n - 0) : Int)) == (12 : Int)) = (n == 12) := by
  rw [Bool.eq_iff_iff, beq_iff_eq, beq_iff_eq]; omega
end
end Go.Proofs.YtbepdcodkecboaaDoor


namespace Go.Proofs.YtbepdcodkecboaaDoor
open Go.RowKit
set_option maxRecDepth 100000
theorem cfN (F : Nat) (l : List SpT) (hl : l.length ≤ 20) (hF : 100 < F) : cfSpN_S F l = some (l.any (fun s => !spB s)) := by
  have := scan (fun n i => ixSpN_L0 F ((l.length - 0) : Int) l n i) l dS (fun s => !spB s) (fun i b => b.1 = (i : Int)) (fun _ => True) (fun n => ⟨_, by
      show (bif decide (((l.length : Nat) : Int) < ((l.length - 0) : Int)) then _ else _) = _
      rw [Int.sub_zero, lt_f]; rfl, trivial⟩) (fun n i hi => by
      have e : ixSpN_L0 F ((l.length - 0) : Int) l (n + 1) (i : Int) = bif (!spB (nth l dS i)) then some (.inl ((i : Int), l)) else ixSpN_L0 F ((l.length - 0) : Int) l n ((i + 1 : Nat) : Int) := by
        show (bif decide ((i : Int) < ((l.length - 0) : Int)) then bif inB (i : Int) (l.length - 0) then ob (isSpec_S F (nth l dS (i : Int).toNat)) _ else none else _) = _
        rw [Int.sub_zero, lt_t hi, Nat.sub_zero, inB_nat hi, Int.toNat_natCast, isSp]
        simp only [cond_true]
        rw [i64s (by omega)]
      exact ⟨fun h => ⟨_, by rw [e, h]; rfl, rfl⟩, fun h => by rw [e, h]; rfl⟩) l.length 0 F (by omega) (by omega)
  unfold cfSpN_S ixSpN_S
  rw [List.drop_zero] at this
  rcases this with ⟨h1, j, b, _, _, _, _, h2, h3⟩ | ⟨h1, c, h2, _⟩
  · rw [h1, show ixSpN_L0 F ((l.length - 0) : Int) l F 0 = _ from h2]
    have h4 : decide (b.1 ≥ (0 : Int)) = true := by rw [h3]; simp
    show some (decide (b.1 ≥ (0 : Int))) = _
    rw [h4]
  · rw [h1, show ixSpN_L0 F ((l.length - 0) : Int) l F 0 = _ from h2]
    rfl
/-- All specifications pass. -/
def spsB (sp : List SpT) : Bool := decide (sp.length ≤ 20) && sp.all spB
theorem lenOk2_sm {n m : Nat} (h : (n + m) * 104 ≤ 140737488355328) : lenOk2 n m = true := decide_eq_true h
theorem newBook_eq (F : Nat) (hF : 100 < F) {sp : List SpT} (hs : spsB sp = true) (ar0 : A0) (ar1 : A1) (ar2 : A2) (ar3 : A3) : newBook_S F sp ar0 ar1 ar2 ar3 = some (0, ar0, ar1, ar2, ar3, sp, [], []) := by
  unfold spsB at hs
  rw [Bool.and_eq_true, decide_eq_true_eq, List.all_eq_true] at hs
  obtain ⟨h1, h2⟩ := hs
  unfold newBook_S
  rw [cfN F sp h1 hF]
  have e1 : decide (((sp.length - 0) : Int) > 20) = false := by rw [decide_eq_false_iff_not]; omega
  have e2 : sp.any (fun s => !spB s) = false := by
    rw [List.any_eq_false]; intro s hs; rw [h2 s hs]; decide
  have e3 : lenOk2 0 sp.length = true := lenOk2_sm (by omega)
  rw [e1, e2]
  show ob (cloneSp_S F sp) _ = _
  unfold cloneSp_S
  rw [e3]
  rfl
theorem BInv.nil : BInv [] [] [] [] [] [] [] := ⟨rfl, rfl, rfl, rfl, rfl, fun i hi => absurd hi (Nat.not_lt_zero _), fun i hi => absurd hi (Nat.not_lt_zero _), fun i hi => absurd hi (Nat.not_lt_zero _), fun i hi => absurd hi (Nat.not_lt_zero _), fun i hi => absurd hi (Nat.not_lt_zero _), fun x hx => by cases hx⟩
theorem BVal.nil {sp : List SpT} (hs : spsB sp = true) (h0 : ∀ s ∈ sp, 0 ≤ s.2) : BVal sp [] [] [] [] := by
  unfold spsB at hs
  rw [Bool.and_eq_true, decide_eq_true_eq, List.all_eq_true] at hs
  refine ⟨hs.1, hs.2, fun s h => ⟨h0 s h, ?_⟩, by simp, (fun w h => absurd h (List.not_mem_nil)), (fun w h => absurd h (List.not_mem_nil)), (fun w h => absurd h (List.not_mem_nil)), by simp, fun i hi => absurd hi (Nat.not_lt_zero _), fun i hi => absurd hi (Nat.not_lt_zero _)⟩
  have := hs.2 s h
  unfold spB at this
  rw [Bool.and_eq_true, decide_eq_true_eq] at this
  exact this.2
end Go.Proofs.YtbepdcodkecboaaDoor


namespace Go.Proofs.YtbepdcodkecboaaDoor
open Go.RowKit
set_option maxRecDepth 100000
section
variable {sp : List SpT} {wf : List WfT} {od : List OdT}
theorem cnt_cons (t : Int) (ts : List Int) (o : Nat) : (cnt (t :: ts) o : Int) = (if t = (o : Int) then 1 else 0) + cnt ts o := by
  unfold cnt
  rw [List.filter_cons]
  by_cases h : t = (o : Int) <;> simp [h] <;> omega
end
end Go.Proofs.YtbepdcodkecboaaDoor


namespace Go.Proofs.YtbepdcodkecboaaDoor
open Go.RowKit
set_option maxRecDepth 100000
theorem nth_mapK {α β : Type} (f : α → β) (l : List α) (d : α) (d' : β) {i : Nat} (h : i < l.length) : nth (l.map f) d' i = f (nth l d i) := by
  rw [← nth_eq _ d' i (by simpa using h), ← nth_eq l d i h, List.getElem_map]
section
variable {sp : List SpT} {wf : List WfT} {at_ at' : List Int} {od : List OdT} {ca : List Bool} {ors : List Nat} {ar2 : A2} {ar3 : A3}
/-- Each wafer passes where it is. -/
def Fit (sp : List SpT) (wf : List WfT) (at_ : List Int) (od : List OdT) : Prop := ∀ n < at_.length, ∀ i : Nat, nth at_ 0 n = i → fltI (nth sp dS (nth od dO i).1.toNat) (nth wf dW n) = -1
theorem Fit.order (h : BInv wf at_ od ca ors ar2 ar3) (f : Fit sp wf at_ od) (o : OdT) : Fit sp wf at_ (od ++ (o :: [])) := by
  intro n hn i hi
  have := h.ra _ (nth_mem (d := 0) hn)
  rw [nth_apL _ _ _ (by omega)]
  exact f n hn i hi
theorem Fit.stock (la : at_.length = wf.length) (f : Fit sp wf at_ od) (w : WfT) : Fit sp (wf ++ (w :: [])) (at_ ++ ((-1) :: [])) od := by
  intro n hn i hi
  rw [List.length_append, List.length_singleton] at hn
  by_cases e : n = at_.length
  · subst e; rw [nth_apR] at hi; omega
  · rw [nth_apL _ _ _ (by omega)] at hi
    rw [nth_apL _ _ _ (by omega)]
    exact f n (by omega) i hi
theorem Fit.back (f : Fit sp wf at_ od) (m : Nat) : Fit sp wf (at_.set m (-1)) od := by
  intro n hn i hi
  rw [List.length_set] at hn
  by_cases e : m = n
  · subst e; rw [nth_setE _ _ _ hn] at hi; omega
  · rw [nth_setN _ _ _ e] at hi; exact f n hn i hi
theorem Fit.ship (f : Fit sp wf at_ od) {a b : Int} (h : shp sp wf at_ od ca a b = 0) : Fit sp wf (at_.set a.toNat b) od := by
  obtain ⟨n, i, rfl, rfl, hn, hi, h1, h2, h3, h4⟩ := shp0 h
  intro m hm j hj
  rw [List.length_set] at hm
  rw [Int.toNat_natCast] at hj
  by_cases e : n = m
  · subst e
    rw [nth_setE _ _ _ hm] at hj
    have : i = j := by omega
    subst this
    exact h3
  · rw [nth_setN _ _ _ e] at hj; exact f m hm j hj
theorem mW_nth {n : Nat} (h : n < (selW at_ 0).length) : nth (mW wf at_) dW n = nth wf dW (nth (selW at_ 0) 0 n) := nth_mapK _ _ _ _ h
theorem mO_nth {day : Int} {k : Nat} (h : k < (selO od ca day 0).length) : nth (mO at_ od ca day) dO k = mkO at_ od ca (nth (selO od ca day 0) 0 k) := nth_mapK _ _ _ _ h
theorem pm_eq {day : Int} {n k : Nat} (hn : n < (selW at_ 0).length) (hk : k < (selO od ca day 0).length) : pmM sp (mW wf at_) (mO at_ od ca day) n k = (fltI (nth sp dS (nth od dO (nth (selO od ca day 0) 0 k)).1.toNat) (nth wf dW (nth (selW at_ 0) 0 n)) == (-1 : Int)) := by
  unfold pmM passB
  rw [mW_nth hn, mO_nth hk]
  rfl
theorem cO_eq {day : Int} {k : Nat} (hk : k < (selO od ca day 0).length) : cO (mO at_ od ca day) k = opn at_ od ca (nth (selO od ca day 0) 0 k) := by
  unfold cO
  rw [mO_nth hk]
  rfl
end
end Go.Proofs.YtbepdcodkecboaaDoor


namespace Go.Proofs.YtbepdcodkecboaaDoor
open Go.RowKit
set_option maxRecDepth 100000
end Go.Proofs.YtbepdcodkecboaaDoor


namespace Go.Proofs.YtbepdcodkecboaaDoor
open Go.RowKit
set_option maxRecDepth 100000
theorem nth_inj {l : List Nat} (h : l.Nodup) {i j : Nat} (hi : i < l.length) (hj : j < l.length) (e : nth l 0 i = nth l 0 j) : i = j := by
  rw [← nth_eq l 0 i hi, ← nth_eq l 0 j hj] at e
  have hp : List.Pairwise (fun a b : Nat => a ≠ b) l := h
  rw [List.pairwise_iff_getElem] at hp
  rcases Nat.lt_trichotomy i j with h1 | h1 | h1
  · exact absurd e (hp i j hi hj h1)
  · exact h1
  · exact absurd e.symm (hp j i hj hi h1)
theorem nth_mid {α : Type} (l m : List α) (d x : α) : nth (l ++ x :: m) d l.length = x := by
  rw [← nth_eq _ d l.length (by simp)]; simp
section
variable {sp : List SpT} {wf : List WfT} {at_ at' : List Int} {od : List OdT} {ca : List Bool} {ors : List Nat} {ar2 : A2} {ar3 : A3}
theorem selW_nd : (selW at_ 0).Nodup := List.Pairwise.filter _ List.nodup_range'
theorem selO_nd {day : Int} : (selO od ca day 0).Nodup := List.Pairwise.filter _ List.nodup_range'
theorem opn_set {n i0 : Nat} (hn : n < at'.length) (hm : nth at' 0 n = -1) (hc : nth ca false i0 = false) (i : Nat) : opn (at'.set n (i0 : Int)) od ca i = opn at' od ca i - (if i = i0 then 1 else 0) := by
  have h1 := cnt_set at' hn (i0 : Int) i
  rw [hm, if_neg (show ¬ (-1 : Int) = (i : Int) by omega)] at h1
  unfold opn
  cases hci : nth ca false i with
  | true =>
    have : i ≠ i0 := fun e => by subst e; rw [hc] at hci; cases hci
    rw [if_neg this]; rfl
  | false =>
    rw [cond_false, cond_false]
    by_cases e : i = i0
    · subst e; rw [if_pos rfl] at h1 ⊢; omega
    · rw [if_neg (show ¬ (i0 : Int) = (i : Int) by omega)] at h1
      rw [if_neg e]; omega
theorem shp_ok {n i : Nat} (hn : n < wf.length) (hi : i < od.length) (h1 : nth at_ 0 n = -1) (h2 : nth ca false i = false) (h3 : fltI (nth sp dS (nth od dO i).1.toNat) (nth wf dW n) = -1) (h4 : 1 ≤ opn at_ od ca i) : shp sp wf at_ od ca n i = 0 := by
  unfold shp
  have e1 : inN (n : Int) wf.length = true := inN_iff.2 ⟨n, hn, rfl⟩
  have e2 : inN (i : Int) od.length = true := inN_iff.2 ⟨i, hi, rfl⟩
  have e3 : decide (opn at_ od ca i < 1) = false := by rw [decide_eq_false_iff_not]; omega
  simp only [e1, e2, Int.toNat_natCast, h1, h2, h3, e3, Bool.not_true, cond_false, bne_self_eq_false]
end
end Go.Proofs.YtbepdcodkecboaaDoor


namespace Go.Proofs.YtbepdcodkecboaaDoor
open Go.RowKit
set_option maxRecDepth 100000
section
variable {sp : List SpT} {wf : List WfT} {at_ at' : List Int} {od : List OdT} {ca : List Bool} {ors : List Nat} {ar2 : A2} {ar3 : A3}
theorem rk_start {day : Int} {tl : List Int} {u : Int} (h : rkF (mW wf at_).length (mO at_ od ca day).length (pmM sp (mW wf at_) (mO at_ od ca day)) (wO (mO at_ od ca day)) 0 tl (cO (mO at_ od ca day)) 0 = some u) :
    rkF (mW wf at_).length (mO at_ od ca day).length (pmM sp (mW wf at_) (mO at_ od ca day)) (wO (mO at_ od ca day)) 0 (tl.drop 0) (fun k => opn at_ od ca (nth (selO od ca day 0) 0 k)) 0 = some u := by
  rw [List.drop_zero, ← h]
  exact rkF_congr _ _ _ _ _ fun o ho => by rw [List.length_map] at ho; exact (cO_eq ho).symm
end
end Go.Proofs.YtbepdcodkecboaaDoor
