/- Plain laws of chapter 10: all that a plan says is sent. No condition. -/
import Derived.Test.YtbnapejkjaddoaaDoorWMK15
import Derived.Test.YtbnapejkjaddoaaDoorWXA19
import Derived.Test.YtbnapejkjaddoaaDoorWYR
import Derived.ChangeArms

namespace Go.Proofs.YtbnapejkjaddoaaDoor
open Go.RowKit
set_option maxRecDepth 100000
theorem nth_inj {l : List Nat} (h : l.Nodup) {i j : Nat} (hi : i < l.length) (hj : j < l.length) (e : nth l 0 i = nth l 0 j) : i = j := by
  rw [← nth_eq l 0 i hi, ← nth_eq l 0 j hj] at e
  have hp : List.Pairwise (fun a b : Nat => a ≠ b) l := h
  rw [List.pairwise_iff_getElem] at hp
  rcases Nat.lt_trichotomy i j with h1 | h1 | h1
  · exact absurd e (hp i j hi hj h1)
  · exact h1
  · exact absurd e.symm (hp j i hj hi h1)
theorem nth_mid {α : Type} (l m : List α) (d x : α) : nth (l ++ x :: m) d l.length = x := by
  rw [← nth_eq _ d l.length (by simp)]; simp
section
variable {sp : List SpT} {wf : List WfT} {at_ at' : List Int} {od : List OdT} {ca : List Bool} {ors : List Nat} {ar2 : A2} {ar3 : A3}
theorem selW_nd : (selW at_ 0).Nodup := List.Pairwise.filter _ List.nodup_range'
theorem selO_nd {day : Int} : (selO od ca day 0).Nodup := List.Pairwise.filter _ List.nodup_range'
theorem selW_all {x : Nat} (hx : x < at_.length) (h : nth at_ 0 x = -1) : ∃ n < (selW at_ 0).length, nth (selW at_ 0) 0 n = x := by
  have hm : x ∈ selW at_ 0 := by
    unfold selW
    rw [List.mem_filter, List.mem_range'_1]
    exact ⟨by omega, by rw [h]; rfl⟩
  obtain ⟨n, hn, e⟩ := List.getElem_of_mem hm
  exact ⟨n, hn, by rw [← nth_eq _ 0 n hn]; exact e⟩
theorem opn_set {n i0 : Nat} (hn : n < at'.length) (hm : nth at' 0 n = -1) (hc : nth ca false i0 = false) (i : Nat) : opn (at'.set n (i0 : Int)) od ca i = opn at' od ca i - (if i = i0 then 1 else 0) := by
  have h1 := cnt_set at' hn (i0 : Int) i
  rw [hm, if_neg (show ¬ (-1 : Int) = (i : Int) by omega)] at h1
  unfold opn
  cases hci : nth ca false i with
  | true =>
    have : i ≠ i0 := fun e => by subst e; rw [hc] at hci; cases hci
    rw [if_neg this]; rfl
  | false =>
    rw [cond_false, cond_false]
    by_cases e : i = i0
    · subst e; rw [if_pos rfl] at h1 ⊢; omega
    · rw [if_neg (show ¬ (i0 : Int) = (i : Int) by omega)] at h1
      rw [if_neg e]; omega
theorem shp_ok {n i : Nat} (hn : n < wf.length) (hi : i < od.length) (h1 : nth at_ 0 n = -1) (h2 : nth ca false i = false) (h3 : fltI (nth sp dS (nth od dO i).1.toNat) (nth wf dW n) = -1) (h4 : 1 ≤ opn at_ od ca i) : shp sp wf at_ od ca n i = 0 := by
  unfold shp
  have e1 : inN (n : Int) wf.length = true := inN_iff.2 ⟨n, hn, rfl⟩
  have e2 : inN (i : Int) od.length = true := inN_iff.2 ⟨i, hi, rfl⟩
  have e3 : decide (opn at_ od ca i < 1) = false := by rw [decide_eq_false_iff_not]; omega
  simp only [e1, e2, Int.toNat_natCast, h1, h2, h3, e3, Bool.not_true, cond_false, bne_self_eq_false]
/-- All that a plan says is sent, from some wafer of the market on. -/
theorem ship_all (F : Nat) (hF : 4000 ≤ F) (hbi : wf.length = at_.length) (hol : od.length ≤ 12) (day : Int) (l : List DdT) (ar0 : A0) (ar1 : A1) (tl : List Int) (htl : tl.length = (selW at_ 0).length) :
    ∀ (m j n : Nat) (pre : List Nat) (at' : List Int) (ar3 : A3) (be : List Int) (vv : Int), j + m = tl.length → m < n → pkN tl 0 = pre ++ pkN tl j → BInv wf at' od ca ors ar2 ar3 → BVal sp wf at' od ca → Fit sp wf at' od →
      (∀ k, j ≤ k → k < (selW at_ 0).length → nth at' 0 (nth (selW at_ 0) 0 k) = -1) → (∀ x < at_.length, nth at' 0 x = -1 → nth at_ 0 x = -1 ∧ ∀ k < j, k < (selW at_ 0).length → nth (selW at_ 0) 0 k = x → nth tl 0 k = -1) →
      rkF (mW wf at_).length (mO at_ od ca day).length (pmM sp (mW wf at_) (mO at_ od ca day)) (wO (mO at_ od ca day)) j (tl.drop j) (fun k => opn at' od ca (nth (selO od ca day 0) 0 k)) 0 = some vv →
      (∀ k < (selO od ca day 0).length, opn at' od ca (nth (selO od ca day 0) 0 k) = opn at_ od ca (nth (selO od ca day 0) 0 k) - cnt (tl.take j) k) →
      be.length = od.length → (∀ i < od.length, nth be 0 i = opn at' od ca i) →
      ∃ (at'' : List Int) (ar3' : A3) (be' : List Int), oKeeps_L2 F n day ((pre.length : Nat) : Int) sp l ar0 ar1 ar2 ar3 od wf ca be (pkA ((selW at_ 0).map (fun n : Nat => (n : Int))) tl 0) (pkB ((selO od ca day 0).map (fun n : Nat => (n : Int))) tl 0) sp wf ors = some (.inr (day, (sp, l, ar0, ar1, ar2, ar3', od, wf, ca, be', sp, wf, ors))) ∧
        BInv wf at'' od ca ors ar2 ar3' ∧ BVal sp wf at'' od ca ∧ Fit sp wf at'' od ∧
        (∀ x < at_.length, nth at'' 0 x = -1 → nth at_ 0 x = -1 ∧ ∀ k < tl.length, k < (selW at_ 0).length → nth (selW at_ 0) 0 k = x → nth tl 0 k = -1) ∧
        (∀ k < (selO od ca day 0).length, opn at'' od ca (nth (selO od ca day 0) 0 k) = opn at_ od ca (nth (selO od ca day 0) 0 k) - cnt tl k) ∧ be'.length = od.length ∧ (∀ i < od.length, nth be' 0 i = opn at'' od ca i) := by
  have hlA : (pkA ((selW at_ 0).map (fun n : Nat => (n : Int))) tl 0).length = (pkN tl 0).length := List.length_map ..
  have hlB : (pkB ((selO od ca day 0).map (fun n : Nat => (n : Int))) tl 0).length = (pkN tl 0).length := List.length_map ..
  intro m
  induction m with
  | zero =>
    intro j n pre at' ar3 be vv hj hn hpk h v f hfr hdn hrk hop hbl hbe
    obtain ⟨n, rfl⟩ : ∃ k, n = k + 1 := ⟨n - 1, by omega⟩
    have : j = tl.length := by omega
    subst this
    rw [pkN_end, List.append_nil] at hpk
    rw [oKeeps_L2, hlA, hpk, lt_f', cond_false]
    refine ⟨at', ar3, be, rfl, h, v, f, hdn, fun k hk => ?_, hbl, hbe⟩
    rw [hop k hk, List.take_length]
  | succ m ih =>
    intro j n pre at' ar3 be vv hj hn hpk h v f hfr hdn hrk hop hbl hbe
    obtain ⟨n, rfl⟩ : ∃ k, n = k + 1 := ⟨n - 1, by omega⟩
    have hjt : j < tl.length := by omega
    have hjW : j < (selW at_ 0).length := by omega
    have hd : tl.drop j = nth tl 0 j :: tl.drop (j + 1) := by rw [List.drop_eq_getElem_cons hjt, nth_eq tl 0 j hjt]
    rw [hd] at hrk
    have hps := pkN_step hjt
    rcases rk_cons hrk with ⟨ht, hr1⟩ | ⟨k, ht, hk, hp, hl0, hr1⟩
    · have e1 : decide (nth tl 0 j ≥ 0) = false := by rw [decide_eq_false_iff_not]; omega
      rw [e1, cond_false] at hps
      refine ih (j + 1) (n + 1) pre at' ar3 be vv (by omega) (by omega) (by rw [← hps]; exact hpk) h v f (fun k hk1 hk2 => hfr k (by omega) hk2) (fun x hx hx1 => ⟨(hdn x hx hx1).1, fun k hk1 hk2 hk3 => ?_⟩) hr1 (fun k hk => ?_) hbl hbe
      · by_cases e : k = j
        · subst e; exact ht
        · exact (hdn x hx hx1).2 k (by omega) hk2 hk3
      · rw [hop k hk, take_snoc tl 0 hjt]
        have := cnt_snoc (tl.take j) (nth tl 0 j) k
        rw [if_neg (by omega)] at this
        omega
    · rw [List.length_map] at hk
      have e1 : decide (nth tl 0 j ≥ 0) = true := by rw [decide_eq_true_eq]; omega
      rw [e1, cond_true] at hps
      rw [hps] at hpk
      -- who goes where
      obtain ⟨hko, hkc, hkd⟩ := selO_mem (nth_mem (d := 0) hk)
      obtain ⟨hwa, hwn⟩ := selW_mem (nth_mem (d := 0) hjW)
      rw [pm_eq hjW hk, beq_iff_eq] at hp
      generalize hKO : nth (selO od ca day 0) 0 k = ko at *
      generalize hWJ : nth (selW at_ 0) 0 j = wj at *
      have hfw : nth at' 0 wj = -1 := by rw [← hWJ]; exact hfr j (Nat.le_refl j) hjW
      have hla' := h.la
      have hz := shp_ok (sp := sp) (at_ := at') (by omega) hko hfw hkc hp (by omega)
      have hlen : (pkN tl 0).length = pre.length + ((pkN tl (j + 1)).length + 1) := by rw [hpk, List.length_append, List.length_cons]
      have nA : nth (pkA ((selW at_ 0).map (fun n : Nat => (n : Int))) tl 0) 0 pre.length = wj := by
        unfold pkA
        rw [nth_mapK _ _ 0 0 (by omega), hpk, nth_mid, nth_mapK _ _ 0 0 hjW, hWJ]
      have nB : nth (pkB ((selO od ca day 0).map (fun n : Nat => (n : Int))) tl 0) 0 pre.length = ko := by
        unfold pkB
        rw [nth_mapK _ _ 0 0 (by omega), hpk, nth_mid, ht, Int.toNat_natCast, nth_mapK _ _ 0 0 hk, hKO]
      obtain ⟨ar3', g1, g2⟩ := bShip_eq F (by omega) h v.ol v.wl v.ods v.odi (wj : Int) (ko : Int) ar0 ar1
      rw [hz] at g1 g2
      rw [z00, cond_true, Int.toNat_natCast] at g2
      rw [oKeeps_L2, hlA, lt_t' (by omega), cond_true]
      have c1 : inB ((pre.length : Nat) : Int) ((pkB ((selO od ca day 0).map (fun n : Nat => (n : Int))) tl 0).length - 0) = true := inB_nat (by omega)
      have c2 : inB ((pre.length : Nat) : Int) ((pkN tl 0).length - 0) = true := inB_nat (by omega)
      have c3 : decide ((ko : Int) < 0) = false := by rw [decide_eq_false_iff_not]; omega
      have c4 : decide ((ko : Int) ≥ ((od.length - 0) : Int)) = false := by rw [decide_eq_false_iff_not]; omega
      have c5 : inB (ko : Int) (od.length - 0) = true := inB_nat (by omega)
      have c6 : decide ((nth od dO ko).2.2.2 < day) = false := by rw [decide_eq_false_iff_not]; omega
      have c7 : inB (ko : Int) (be.length - 0) = true := inB_nat (by omega)
      simp only [c1, c2, Int.toNat_natCast, nA, nB, c3, c4, c5, c6, cond_true, cond_false]
      rw [g1]
      simp only [ob, bne_self_eq_false, cond_false, c1, c7, Int.toNat_natCast, nB, cond_true]
      have hob := opn0 v hko
      have hob2 := opn_le v hko
      have hpl := pk_len tl
      have hsl := selW_len (at_ := at_)
      have hwl := v.wl
      have hpl2 : (pkN tl 0).length ≤ tl.length := by first | exact hpl | (have := hpl; unfold pkA at this; rw [List.length_map] at this; exact this)
      rw [hbe ko hko, i64s (by omega), w64 (opn at' od ca ko - 1) (by omega)]
      have hps2 := ih (j + 1) n (pre ++ [j]) (at'.set wj (ko : Int)) ar3' (be.set ko (opn at' od ca ko - 1)) (vv - wO (mO at_ od ca day) k) (by omega) (by omega) (by rw [hpk, List.append_assoc]; rfl) g2 (by have := v.ship h.la hz; rwa [Int.toNat_natCast] at this) (by have := f.ship hz; rwa [Int.toNat_natCast] at this)
        (fun k' h1 h2 => by
          have hne : wj ≠ nth (selW at_ 0) 0 k' := fun e => by
            have := nth_inj selW_nd hjW h2 (hWJ.trans e)
            omega
          rw [nth_setN _ _ _ hne]; exact hfr k' (by omega) h2)
        (fun x hx hx1 => by
          have hne : wj ≠ x := fun e => by subst e; rw [nth_setE _ _ _ (by omega)] at hx1; omega
          rw [nth_setN _ _ _ hne] at hx1
          refine ⟨(hdn x hx hx1).1, fun k' h1 h2 h3 => ?_⟩
          by_cases e : k' = j
          · subst e; exact absurd (hWJ.symm.trans h3) hne
          · exact (hdn x hx hx1).2 k' (by omega) h2 h3)
        (by
          rw [← hr1]
          refine rkF_congr _ _ _ _ _ fun o ho => ?_
          rw [List.length_map] at ho
          rw [opn_set (by omega) hfw hkc]
          unfold updF
          dsimp only
          by_cases e : o = k
          · subst e; rw [if_pos rfl, if_pos hKO, hKO]
          · rw [if_neg e, if_neg (fun e' => e (nth_inj selO_nd ho hk (e'.trans hKO.symm)))]; omega)
        (fun k' hk' => by
          rw [opn_set (by omega) hfw hkc, hop k' hk', take_snoc tl 0 hjt]
          have := cnt_snoc (tl.take j) (nth tl 0 j) k'
          by_cases e : k' = k
          · subst e; rw [if_pos ht] at this; rw [if_pos hKO]; omega
          · rw [if_neg (by omega)] at this
            rw [if_neg (fun e' => e (nth_inj selO_nd hk' hk (e'.trans hKO.symm)))]; omega)
        (by simpa using hbl)
        (fun i hi => by
          rw [opn_set (by omega) hfw hkc]
          by_cases e : i = ko
          · subst e; rw [nth_setE _ _ _ (by omega), if_pos rfl]
          · rw [nth_setN _ _ _ (Ne.symm e), if_neg e, hbe i hi]; omega)
      rw [List.length_append, List.length_singleton] at hps2
      exact hps2
end
end Go.Proofs.YtbnapejkjaddoaaDoor


namespace Go.Proofs.YtbnapejkjaddoaaDoor
open Go.RowKit
set_option maxRecDepth 100000
section
variable {sp : List SpT} {wf : List WfT} {at_ at' : List Int} {od : List OdT} {ca : List Bool} {ors : List Nat} {ar2 : A2} {ar3 : A3}
theorem before1 (F : Nat) (day : Int) (l : List DdT) (h : BInv wf at_ od ca ors ar2 ar3) (v : BVal sp wf at_ od ca) (ar0 : A0) (ar1 : A1) : ∀ (m i n : Nat), i + m = od.length → m < n →
    oKeeps_L1 F day sp l od wf ca sp wf ors n (i : Int) ar0 ar1 ar2 ar3 ((List.range i).map (opn at_ od ca)) = some (.inr (day, (sp, l, ar0, ar1, ar2, ar3, od, wf, ca, (List.range od.length).map (opn at_ od ca), sp, wf, ors)))
  | 0, i, n + 1, hi, _ => by
    have : i = od.length := by omega
    subst this
    rw [oKeeps_L1, lt_f', cond_false]
  | m + 1, i, n + 1, hi, hn => by
    have hio : i < od.length := by omega
    have hk := v.ol; have hw := v.wl
    rw [oKeeps_L1, lt_t' hio, cond_true, bOpen_eq F h hk v.ods hw]
    have hin : inN (i : Int) od.length = true := inN_iff.2 ⟨i, hio, rfl⟩
    have e3 : lenOk (((List.range i).map (opn at_ od ca)).length - 0) (opn at_ od ca i :: []).length = true := lenOk_sm (by simp; omega)
    simp only [hin, cond_true, ob, Int.toNat_natCast, bne_self_eq_false, cond_false, e3]
    rw [i64s (by omega), range_snoc]
    exact before1 F day l h v ar0 ar1 m (i + 1) n (by omega) (by omega)
  | m, i, 0, _, hn => by omega
theorem after1 (F : Nat) (day : Int) (l : List DdT) (h : BInv wf at_ od ca ors ar2 ar3) (v : BVal sp wf at_ od ca) (ar0 : A0) (ar1 : A1) (be : List Int) (hb : be.length = od.length) (hbe : ∀ i < od.length, nth be 0 i = opn at_ od ca i) : ∀ (m i n : Nat), i + m = od.length → m < n →
    oKeeps_L3 F day sp l od wf ca be sp wf ors n (i : Int) ar0 ar1 ar2 ar3 = some (.inr (day, (sp, l, ar0, ar1, ar2, ar3, od, wf, ca, sp, wf, ors)))
  | 0, i, n + 1, hi, _ => by
    have : i = od.length := by omega
    subst this
    rw [oKeeps_L3, lt_f', cond_false]
  | m + 1, i, n + 1, hi, hn => by
    have hio : i < od.length := by omega
    have hk := v.ol; have hw := v.wl
    rw [oKeeps_L3, lt_t' hio, cond_true, bOpen_eq F h hk v.ods hw]
    have hin : inN (i : Int) od.length = true := inN_iff.2 ⟨i, hio, rfl⟩
    have e3 : inB (i : Int) (be.length - 0) = true := inB_nat (by omega)
    simp only [hin, cond_true, ob, Int.toNat_natCast, bne_self_eq_false, cond_false, e3, hbe i hio]
    rw [i64s (by omega)]
    exact after1 F day l h v ar0 ar1 be hb hbe m (i + 1) n (by omega) (by omega)
  | m, i, 0, _, hn => by omega
theorem rk_start {day : Int} {tl : List Int} {u : Int} (h : rkF (mW wf at_).length (mO at_ od ca day).length (pmM sp (mW wf at_) (mO at_ od ca day)) (wO (mO at_ od ca day)) 0 tl (cO (mO at_ od ca day)) 0 = some u) :
    rkF (mW wf at_).length (mO at_ od ca day).length (pmM sp (mW wf at_) (mO at_ od ca day)) (wO (mO at_ od ca day)) 0 (tl.drop 0) (fun k => opn at_ od ca (nth (selO od ca day 0) 0 k)) 0 = some u := by
  rw [List.drop_zero, ← h]
  exact rkF_congr _ _ _ _ _ fun o ho => by rw [List.length_map] at ho; exact (cO_eq ho).symm
end
theorem oKeeps_good (F : Nat) (hF : 4000 ≤ F) {sp : List SpT} (hs : spsB sp = true) (h0 : ∀ s ∈ sp, 0 ≤ s.2) (l : List DdT) (hd : ∀ d ∈ l, 0 ≤ d.2.2.1.2.1 ∧ d.2.2.1.2.1 ≤ 255) (day : Int) :
    ∃ A B C D, oKeeps_S F day sp l [] [] [] [] = some (true, A, B, C, D) := by
  have hs' := hs
  unfold spsB at hs'
  rw [Bool.and_eq_true, decide_eq_true_eq, List.all_eq_true] at hs'
  obtain ⟨h1, h2⟩ := hs'
  unfold oKeeps_S
  have e3 : lenOk2 0 sp.length = true := lenOk2_sm (by omega)
  rw [e3, cond_true, List.nil_append, newBook_eq F (by omega) hs]
  simp only [ob]
  by_cases hl : 30 < l.length
  · have e2 : decide (((l.length - 0) : Int) > 30) = true := by rw [decide_eq_true_eq]; omega
    simp only [e2, cond_true]
    exact ⟨_, _, _, _, rfl⟩
  · have e2 : decide (((l.length - 0) : Int) > 30) = false := by rw [decide_eq_false_iff_not]; omega
    simp only [e2, cond_false, bne_self_eq_false]
    obtain ⟨r, hr, hb, hc⟩ := deeds (sp := sp) F hF day l (by omega) hd l.length 0 F [] [] [] [] [] [] [] [] [] (by omega) (by omega) BInv.nil (BVal.nil hs h0) (fun n hn => absurd hn (Nat.not_lt_zero _))
    rw [show ((0 : Nat) : Int) = 0 from rfl] at hr
    rw [hr]
    cases r with
    | inl b =>
      have := hb b rfl
      obtain ⟨b1, b2⟩ := b
      have hb1 : b1 = true := this
      subst hb1
      exact ⟨_, _, _, _, rfl⟩
    | inr c =>
      obtain ⟨ar0, ar1, ar2, ar3, ors, wf, at_, od, ca, rfl, h, v, f⟩ := hc c rfl
      simp only [su]
      rw [keeps_eq F hF h v f ar0 ar1]
      simp only [Bool.not_true, cond_false]
      have g1 := before1 F day l h v ar0 ar1 od.length 0 F (by omega) (by have := v.ol; omega)
      rw [show ((0 : Nat) : Int) = 0 from rfl] at g1
      have g1' : oKeeps_L1 F day sp l od wf ca sp wf ors F 0 ar0 ar1 ar2 ar3 [] = _ := g1
      rw [g1']
      simp only []
      by_cases hday : 0 ≤ day ∧ day ≤ 100000
      · obtain ⟨tl, u, B, C, p1, p2, p3, p4, p5⟩ := bPlan_eq F hF h v hday ar0 ar1
        rw [p1]
        have hlA : (pkA ((selW at_ 0).map (fun n : Nat => (n : Int))) tl 0).length = (pkN tl 0).length := List.length_map ..
        have hlB : (pkB ((selO od ca day 0).map (fun n : Nat => (n : Int))) tl 0).length = (pkN tl 0).length := List.length_map ..
        simp only [bne_self_eq_false, cond_false, hlA, hlB]
        have hw := v.wl
        have hla := h.la
        have hsW := selW_len (at_ := at_)
        obtain ⟨at2, ar3', be', q1, q2, q3, q4, q5, q6, q7, q8⟩ := ship_all (sp := sp) (at_ := at_) F hF hla.symm v.ol day l B C tl p4 tl.length 0 F [] at_ ar3 ((List.range od.length).map (opn at_ od ca)) u (by omega) (by omega) rfl h v f
          (fun k _ hk => (selW_mem (nth_mem hk)).2) (fun x _ hx => ⟨hx, fun k hk => absurd hk (Nat.not_lt_zero _)⟩) (rk_start p2.2.1) (fun k _ => by rw [List.take_zero]; show _ = _ - (0 : Int); omega) (by simp) (fun i hi => nth_map_range _ _ hi)
        rw [show (((([] : List Nat).length : Nat)) : Int) = 0 from rfl] at q1
        rw [q1]
        simp only []
        have g3 := after1 F day l q2 q3 B C be' q7 q8 od.length 0 F (by omega) (by have := v.ol; omega)
        rw [show ((0 : Nat) : Int) = 0 from rfl] at g3
        rw [g3]
        simp only []
        obtain ⟨tl2, u2, B2, C2, s1, s2, s3, s4, s5⟩ := bPlan_eq F hF q2 q3 hday B C
        rw [s1]
        have hno := plan_none v q3 hla p2 p3 (by rw [q2.la, hla]) (fun x hx hx1 => by
          obtain ⟨t1, t2⟩ := q5 x hx hx1
          obtain ⟨n, hn, hne⟩ := selW_all hx t1
          exact ⟨n, hn, hne, t2 n (by omega) hn hne⟩) q6 s4 s2.2.1
        have hA2 : pkA ((selW at2 0).map (fun n : Nat => (n : Int))) tl2 0 = [] := by unfold pkA; rw [hno]; rfl
        rw [hA2]
        simp only [z00, cond_true, List.length_nil]
        rw [show ((((0 : Nat) : Int) - 0) == 0) = true from rfl, cond_true, keeps_eq F hF q2 q3 q4 B2 C2]
        exact ⟨_, _, _, _, rfl⟩
      · rw [bPlan_no F hday]
        by_cases hneg : day < 0
        · simp only [show ((3 : Int) != 0) = true from rfl, show ((3 : Int) == 3) = true from rfl, cond_true, decide_eq_true hneg]
          exact ⟨_, _, _, _, rfl⟩
        · have : decide (day > 100000) = true := by rw [decide_eq_true_eq]; omega
          simp only [show ((3 : Int) != 0) = true from rfl, show ((3 : Int) == 3) = true from rfl, cond_true, decide_eq_false hneg, cond_false, this]
          exact ⟨_, _, _, _, rfl⟩
end Go.Proofs.YtbnapejkjaddoaaDoor


namespace Go.Proofs.YtbnapejkjaddoaaDoor
open Go.RowKit
set_option maxRecDepth 100000
theorem newBad_eq (F : Nat) (hF : 100 < F) {sp : List SpT} (hs : spsB sp = false) : newBad_S F sp = some (bif decide (20 < sp.length) then 5 else 2) := by
  unfold newBad_S
  by_cases h : 20 < sp.length
  · have e1 : decide (((sp.length - 0) : Int) > 20) = true := by rw [decide_eq_true_eq]; omega
    rw [e1, decide_eq_true h]
    rfl
  · have e1 : decide (((sp.length - 0) : Int) > 20) = false := by rw [decide_eq_false_iff_not]; omega
    have e2 : sp.any (fun s => !spB s) = true := by
      unfold spsB at hs
      rw [decide_eq_true (show sp.length ≤ 20 by omega), Bool.true_and, List.all_eq_false] at hs
      obtain ⟨x, h1, h2⟩ := hs
      rw [List.any_eq_true]
      exact ⟨x, h1, by simpa using h2⟩
    rw [e1, cfN F sp (by omega) hF, e2, decide_eq_false h]
    rfl
theorem oKeeps_bad (F : Nat) (hF : 4000 ≤ F) {sp : List SpT} (hs : spsB sp = false) (hl : sp.length * 104 ≤ 140737488355328) (l : List DdT) (day : Int) :
    ∃ A B C D, oKeeps2_S F day sp l [] [] [] [] = some (true, A, B, C, D) := by
  unfold oKeeps2_S
  have e3 : lenOk2 0 sp.length = true := lenOk2_sm (by omega)
  have e4 : ((bif decide (20 < sp.length) then (5 : Int) else 2) != 0) = true := by cases decide (20 < sp.length) <;> rfl
  rw [e3, cond_true, List.nil_append, newBad_eq F (by omega) hs]
  simp only [ob]
  cases e2 : decide (((l.length - 0) : Int) > 30) with
  | true =>
    simp only [cond_true, e2]
    exact ⟨_, _, _, _, rfl⟩
  | false =>
    simp only [cond_false, cond_true, e4, e2]
    exact ⟨_, _, _, _, rfl⟩
end Go.Proofs.YtbnapejkjaddoaaDoor


namespace Go.Proofs.YtbnapejkjaddoaaDoor
open Go.RowKit Go.Proofs
theorem den_sc {ρ : List Info} {l : List CV} {v : Value} (h : DenB ρ false l v) : Den ρ (headC l) v := by
  obtain ⟨x, rfl, h⟩ := h
  exact h
theorem weights_head {H : Type} {P : Program} {t : TypeId} {ts : List TypeId} {d : DataW H} {r : List (DataW H)} (h : (DataW.weightsEach P (t :: ts) (d :: r)).all (· ≤ reachBytes) = true) : (d.weights P t).all (· ≤ reachBytes) = true := by
  rw [DataW.weightsEach, List.all_append, Bool.and_eq_true] at h
  exact h.1
theorem trod_wt {H : Type} {P : Program} {enc : TypeId × Value → H} {W : World} {base : Nat} {sp : Nat → Bool} {held : Bool} {m : Nat} {t e : TypeId} {a : Option Addr} {n c : Nat} {d : DataW H} {p : List MemPlace} (ht : P.underlying t = some (.slice e)) (h : DataW.trod enc P W base sp held m t [.slice a n c] = some (d, p)) (hw : (d.weights P t).all (· ≤ reachBytes) = true) : n * P.bytesOf e ≤ reachBytes := by
  rcases DataW.trod_slice ht h with ⟨h1, _⟩ | ⟨a', len, cap, elems, rest, m', _, hcs, hx, _, _, _, hlen, _⟩
  · simp only [List.cons.injEq, Value.slice.injEq, and_true] at h1
    rw [h1.2.1, Nat.zero_mul]; exact Nat.zero_le _
  · simp only [List.cons.injEq, Value.slice.injEq, and_true] at hcs
    obtain ⟨_, rfl, _⟩ := hcs
    obtain ⟨rfl, _⟩ := Prod.mk.inj hx
    unfold DataW.weights at hw
    rw [ht] at hw
    simp only [List.all_cons, Bool.and_eq_true, decide_eq_true_eq, List.length_map] at hw
    refine Nat.le_trans (Nat.mul_le_mul_right _ ?_) hw.1
    omega
end Go.Proofs.YtbnapejkjaddoaaDoor
