/- Plain laws of chapter 10: what is too large; copies. No condition. -/
import Derived.Test.YtbnapejkjaddoaaDoorWMI7
import Derived.Laws.StructEq
import Derived.Test.YtbnapejkjaddoaaDoorWXA11b

namespace Go.Proofs.YtbnapejkjaddoaaDoor
open Go.RowKit
set_option maxRecDepth 100000
def lgB (w : WfT) : Bool := decide ((w.2.2.1.size : Int) > 40) || (decide ((w.2.2.2.1.size : Int) > 40) || (decide ((w.2.2.2.2.1.size : Int) > 40) || (decide ((w.2.2.2.2.2.1.size : Int) > 40) || (decide ((w.2.2.2.2.2.2.1.size : Int) > 40) || decide ((w.2.2.2.2.2.2.2.size : Int) > 40)))))
theorem long_eq (F : Nat) (w : WfT) : long_S F w = some (lgB w) := by
  unfold long_S lgB
  simp only [b2, bs]
  change some (bif (decide ((w.2.2.1.size : Int) > 40) || (decide ((w.2.2.2.1.size : Int) > 40) || (decide ((w.2.2.2.2.1.size : Int) > 40) || (decide ((w.2.2.2.2.2.1.size : Int) > 40) || (decide ((w.2.2.2.2.2.2.1.size : Int) > 40) || decide ((w.2.2.2.2.2.2.2.size : Int) > 40)))))) then true else false) = _
  rw [ct, Bool.or_false]
theorem lg_short {w : WfT} (h : lgB w = false) : shortW w := by
  unfold lgB at h
  simp only [Bool.or_eq_false_iff, decide_eq_false_iff_not] at h
  unfold shortW
  omega
theorem ba_refl (x : ByteArray) : (x == x) = true := by rw [beq_toListBytes]; exact beq_self_eq_true _
section
variable {sp : List SpT} {wf : List WfT} {od : List OdT}
def largeB (sp : List SpT) (wf : List WfT) (od : List OdT) : Bool := (decide (25 < sp.length) || (decide (65 < wf.length) || decide (15 < od.length))) || wf.any lgB
theorem large_eq (F : Nat) (hF : 2000 < F) (sp : List SpT) (wf : List WfT) (od : List OdT) : large_S F sp wf od = some (largeB sp wf od) := by
  unfold large_S largeB
  rw [show (25 : Int) = ((25 : Nat) : Int) from rfl, show (65 : Int) = ((65 : Nat) : Int) from rfl, show (15 : Int) = ((15 : Nat) : Int) from rfl, gt_n, gt_n, gt_n]
  cases h1 : decide (25 < sp.length) with
  | true => rfl
  | false =>
    cases h2 : decide (65 < wf.length) with
    | true => rfl
    | false =>
      cases h3 : decide (15 < od.length) with
      | true => rfl
      | false =>
        simp only [decide_eq_false_iff_not, Nat.not_lt] at h1 h2 h3
        show ob (large_L0 F sp wf od F 0) _ = _
        have := scan (fun n i => large_L0 F sp wf od n i) wf dW lgB (fun _ b => b.1 = true) (fun _ => True) (fun n => ⟨_, by
            show (bif decide (((wf.length : Nat) : Int) < ((wf.length - 0) : Int)) then _ else _) = _
            rw [Int.sub_zero, lt_f]; rfl, trivial⟩) (fun n i hi => by
            have e : large_L0 F sp wf od (n + 1) (i : Int) = bif lgB (nth wf dW i) then some (.inl (true, (sp, wf, od))) else large_L0 F sp wf od n ((i + 1 : Nat) : Int) := by
              show (bif decide ((i : Int) < ((wf.length - 0) : Int)) then bif inB (i : Int) (wf.length - 0) then ob (long_S F (nth wf dW (i : Int).toNat)) _ else none else _) = _
              rw [Int.sub_zero, lt_t hi, Nat.sub_zero, inB_nat hi, Int.toNat_natCast, long_eq]
              simp only [cond_true, ob_some]
              rw [i64s (by omega)]
            exact ⟨fun h => ⟨_, by rw [e, h]; rfl, rfl⟩, fun h => by rw [e, h]; rfl⟩) wf.length 0 F (by omega) (by omega)
        rw [List.drop_zero] at this
        rcases this with ⟨h4, j, b, _, _, _, _, h5, h6⟩ | ⟨h4, c, h5, _⟩
        · rw [show large_L0 F sp wf od F 0 = _ from h5, h4]
          show some b.1 = _
          rw [h6]; rfl
        · rw [show large_L0 F sp wf od F 0 = _ from h5, h4]; rfl
theorem large_no (h : largeB sp wf od = false) : (sp.length ≤ 25 ∧ wf.length ≤ 65 ∧ od.length ≤ 15) ∧ ∀ w ∈ wf, shortW w := by
  unfold largeB at h
  simp only [Bool.or_eq_false_iff, decide_eq_false_iff_not, Nat.not_lt] at h
  exact ⟨⟨h.1.1, h.1.2.1, h.1.2.2⟩, fun w hw => lg_short (by simpa using List.any_eq_false.1 h.2 w hw)⟩
theorem own_eq (F : Nat) (h : largeB sp wf od = false) (ar0 : A0) (ar1 : A1) : own_S F sp wf od ar0 ar1 = some (ar0, ar1, sp, wf, od) := by
  have h := (large_no h).1
  unfold own_S
  rw [lenOk_of (by omega), lenOk_of (by omega), lenOk_of (by omega)]
  rfl
theorem ints_eq (F : Nat) {l : List Int} (hl : l.length ≤ 1000000) (ar0 : A0) (ar1 : A1) : ints_S F l ar0 ar1 = some (ar0, ar1, l) := by
  unfold ints_S
  rw [lenOk_of (by omega)]; rfl
end
end Go.Proofs.YtbnapejkjaddoaaDoor


namespace Go.Proofs.YtbnapejkjaddoaaDoor
open Go.RowKit
set_option maxRecDepth 100000
section
variable {sp : List SpT} {wf : List WfT} {od : List OdT}
theorem set_back (l : List Int) {o : Nat} (ho : o < l.length) (v : Int) : List.set (List.set l o v) o (nth l 0 o) = l := by
  have := List.set_getElem_self ho
  rw [nth_eq l 0 o ho] at this
  rw [List.set_set]
  exact this
def Mx (sp : List SpT) (wf : List WfT) (od : List OdT) (v : Int) : Prop :=
  (∃ a, Mt.Feas od.length (pmM sp wf od) (cO od) (List.range' 0 wf.length) a ∧ Mt.val (wO od) a (List.range' 0 wf.length) = v) ∧ ∀ a, Mt.Feas od.length (pmM sp wf od) (cO od) (List.range' 0 wf.length) a → Mt.val (wO od) a (List.range' 0 wf.length) ≤ v
theorem feas_congr {k : Nat} {pm : Nat → Nat → Bool} {c c' : Nat → Int} {ws : List Nat} {a : Nat → Option Nat} (h : ∀ o, o < k → c o = c' o) (hf : Mt.Feas k pm c ws a) : Mt.Feas k pm c' ws a := ⟨hf.ok, fun o ho => by rw [← h o ho]; exact hf.le o ho⟩
theorem BestM.mx (h : MOk sp wf od) {v : Int} (hb : BestM sp wf od (nth ((List.range od.length).map (cO od)) 0) 0 v) : Mx sp wf od v := by
  refine ⟨?_, fun a ha => ?_⟩
  · obtain ⟨a, h1, h2⟩ := hb.got
    rw [Nat.sub_zero] at h1 h2
    exact ⟨a, feas_congr (fun o ho => nth_cO ho) h1, h2⟩
  · have := hb.upper h (a := a) (by rw [Nat.sub_zero]; exact feas_congr (fun o ho => (nth_cO ho).symm) ha)
    rw [Nat.sub_zero] at this; exact this
theorem nth_app {α : Type} (l : List α) (x d : α) {i : Nat} (h : i < l.length) : nth (l ++ [x]) d i = nth l d i := by
  unfold nth
  rw [List.getD_eq_getElem?_getD, List.getD_eq_getElem?_getD, List.getElem?_append_left h]
theorem range'_end (n : Nat) : List.range' 0 (n + 1) = List.range' 0 n ++ [n] := by
  rw [List.range'_concat]; simp
theorem mem_r {n x : Nat} : x ∈ List.range' 0 n ↔ x < n := by rw [List.mem_range']; constructor
                                                              · rintro ⟨i, h, rfl⟩; omega
                                                              · intro h; exact ⟨x, h, by omega⟩
theorem val_cnt2 {k : Nat} {pm : Nat → Nat → Bool} {a : Nat → Option Nat} (hW : ∀ o, o < k → 1000000000 ≤ wO od o ∧ wO od o ≤ 1001000000) : ∀ ws : List Nat, (∀ w, w ∈ ws → ∀ o, a w = some o → o < k ∧ pm w o = true) → ∃ c : Int, 0 ≤ c ∧ c ≤ (ws.length : Int) ∧ 1000000000 * c ≤ Mt.val (wO od) a ws ∧ Mt.val (wO od) a ws ≤ 1001000000 * c
  | [], _ => ⟨0, by omega, by simp, by simp [Mt.val], by simp [Mt.val]⟩
  | w :: ws, h => by
    obtain ⟨c, h1, h2, h3, h4⟩ := val_cnt2 hW ws (fun x hx => h x (List.mem_cons_of_mem _ hx))
    simp only [Mt.val, List.length_cons]
    cases ha : a w with
    | none => exact ⟨c, h1, by omega, by simp only [Mt.gv]; omega, by simp only [Mt.gv]; omega⟩
    | some o =>
      have := hW o (h w List.mem_cons_self o ha).1
      exact ⟨c + 1, by omega, by omega, by simp only [Mt.gv]; omega, by simp only [Mt.gv]; omega⟩
theorem Mx.cnt (h : MOk sp wf od) {v : Int} (hv : Mx sp wf od v) : ∃ c : Int, 0 ≤ c ∧ c ≤ (wf.length : Int) ∧ 1000000000 * c ≤ v ∧ v ≤ 1001000000 * c := by
  obtain ⟨a, f1, rfl⟩ := hv.1
  have := val_cnt2 (od := od) (k := od.length) (pm := pmM sp wf od) (a := a) (fun o ho => wO_le h ho) (List.range' 0 wf.length) f1.ok
  simpa using this
end
end Go.Proofs.YtbnapejkjaddoaaDoor


namespace Go.Proofs.YtbnapejkjaddoaaDoor
open Go.RowKit
set_option maxRecDepth 100000
def sm : List Int → Int
  | [] => 0
  | x :: l => x + sm l
section
variable {sp : List SpT} {wf : List WfT} {od : List OdT}
theorem cfOut_eq (F : Nat) (l : List Int) (hl : l.length < F) (hl2 : l.length ≤ 1000000) : cfOut_S F l = some (l.any (fun x => !inI x 0 2000000000)) := by
  have := scan (fun n i => ixOut_L0 F ((l.length - 0) : Int) l n i) l 0 (fun x => !inI x 0 2000000000) (fun i b => b.1 = (i : Int)) (fun _ => True) (fun n => ⟨_, by
      show (bif decide (((l.length : Nat) : Int) < ((l.length - 0) : Int)) then _ else _) = _
      rw [Int.sub_zero, lt_f]; rfl, trivial⟩) (fun n i hi => by
      have e : ixOut_L0 F ((l.length - 0) : Int) l (n + 1) (i : Int) = bif (!inI (nth l 0 i) 0 2000000000) then some (.inl ((i : Int), l)) else ixOut_L0 F ((l.length - 0) : Int) l n ((i + 1 : Nat) : Int) := by
        show (bif decide ((i : Int) < ((l.length - 0) : Int)) then bif inB (i : Int) (l.length - 0) then ob (within_S F (nth l 0 (i : Int).toNat) 0 2000000000) _ else none else _) = _
        rw [Int.sub_zero, lt_t hi, Nat.sub_zero, inB_nat hi, Int.toNat_natCast, with_S]
        simp only [cond_true, ob_some]
        rw [i64s (by omega)]
        rfl
      exact ⟨fun h => ⟨_, by rw [e, h]; rfl, rfl⟩, fun h => by rw [e, h]; rfl⟩) l.length 0 F (by omega) (by omega)
  unfold cfOut_S ixOut_S
  rw [List.drop_zero] at this
  rcases this with ⟨h1, j, b, _, _, _, _, h2, h3⟩ | ⟨h1, c, h2, _⟩
  · rw [h1, show ixOut_L0 F ((l.length - 0) : Int) l F 0 = _ from h2]
    have h4 : decide (b.1 ≥ (0 : Int)) = true := by rw [h3]; simp
    show some (decide (b.1 ≥ (0 : Int))) = _
    rw [h4]
  · rw [h1, show ixOut_L0 F ((l.length - 0) : Int) l F 0 = _ from h2]
    rfl
/-- A pair for which the prices are too low. -/
def badP (sp : List SpT) (wf : List WfT) (od : List OdT) (pw po : List Int) (w o : Nat) : Bool := pmM sp wf od w o && decide (nth pw 0 w + nth po 0 o < wO od o)
def badW (sp : List SpT) (wf : List WfT) (od : List OdT) (pw po : List Int) (w : Nat) : Bool := (List.range od.length).any (badP sp wf od pw po w)
def rgP (l : List Int) : Prop := ∀ x ∈ l, 0 ≤ x ∧ x ≤ 2000000000
theorem rg_nth {l : List Int} (h : rgP l) (i : Nat) : 0 ≤ nth l 0 i ∧ nth l 0 i ≤ 2000000000 := by
  by_cases hi : i < l.length
  · exact h _ (nth_mem hi)
  · unfold nth; rw [List.getD_eq_getElem?_getD, List.getElem?_eq_none (by omega)]; simp
theorem nth_range {k i : Nat} (h : i < k) : nth (List.range k) 0 i = i := by
  unfold nth; simp [List.getD, h]
theorem bnd1 (h : MOk sp wf od) (F : Nat) (hF : 2000 < F) {ps : List Nat} {B : A0} (hf : Fl sp wf od ps B) (C : A1) (pw po : List Int) (hpo : po.length = od.length) (hw1 : rgP pw) (ho1 : rgP po) (nn t1 t2 : Int) {w : Nat} (hw : w < wf.length) :
    bound_L1 F nn (w : Int) (nth pw 0 w) t1 t2 ((po.length - 0) : Int) sp wf od pw po ps F 0 B C = some (if badW sp wf od pw po w = true then .inl ((0, 2), (sp, wf, od, pw, po, B, C)) else .inr ((nn, t1, t2), (sp, wf, od, pw, po, B, C, ps))) := by
  have ho := h.o
  have := scan (fun n i => bound_L1 F nn (w : Int) (nth pw 0 w) t1 t2 ((po.length - 0) : Int) sp wf od pw po ps n i B C) (List.range od.length) 0 (badP sp wf od pw po w) (fun _ b => b = ((0, 2), (sp, wf, od, pw, po, B, C))) (fun c => c = ((nn, t1, t2), (sp, wf, od, pw, po, B, C, ps))) (fun n => ⟨_, by
      show (bif decide ((((List.range od.length).length : Nat) : Int) < ((po.length - 0) : Int)) then _ else _) = _
      rw [List.length_range, Int.sub_zero, hpo, lt_f]; rfl, rfl⟩) (fun n i hi => by
      have hi' : i < od.length := by simpa using hi
      have g1 := rg_nth hw1 w
      have g2 := rg_nth ho1 i
      have g3 := wO_le h hi'
      have e : bound_L1 F nn (w : Int) (nth pw 0 w) t1 t2 ((po.length - 0) : Int) sp wf od pw po ps (n + 1) (i : Int) B C = bif badP sp wf od pw po w i then some (.inl ((0, 2), (sp, wf, od, pw, po, B, C))) else bound_L1 F nn (w : Int) (nth pw 0 w) t1 t2 ((po.length - 0) : Int) sp wf od pw po ps n ((i + 1 : Nat) : Int) B C := by
        show (bif decide ((i : Int) < ((po.length - 0) : Int)) then bif inB (i : Int) (po.length - 0) then bif inB (w : Int) (ps.length - 0) then bif inB (i : Int) (rowAt B (nth ps 0 (w : Int).toNat)).length then bif decide ((i : Int).toNat < (rowAt B (nth ps 0 (w : Int).toNat)).length) then bif nth (rowAt B (nth ps 0 (w : Int).toNat)) false (i : Int).toNat then ob (worth_S F (i : Int) sp wf od ps B C) (fun r4 => bif decide ((IntKind.wrap IntKind.i64 (nth pw 0 w + (nth po 0 (i : Int).toNat))) < r4.1) then some (.inl ((0, 2), (sp, wf, od, pw, po, r4.2.1, r4.2.2))) else bound_L1 F nn (w : Int) (nth pw 0 w) t1 t2 ((po.length - 0) : Int) sp wf od pw po ps n (IntKind.wrap IntKind.i64 ((i : Int) + 1)) r4.2.1 r4.2.2) else bound_L1 F nn (w : Int) (nth pw 0 w) t1 t2 ((po.length - 0) : Int) sp wf od pw po ps n (IntKind.wrap IntKind.i64 ((i : Int) + 1)) B C else none else none else none else none else _) = _
        rw [show decide ((i : Int) < ((po.length - 0) : Int)) = true by rw [Int.sub_zero, hpo]; exact lt_t hi', show inB (i : Int) (po.length - 0) = true by rw [Nat.sub_zero, hpo]; exact inB_nat hi', show inB (w : Int) (ps.length - 0) = true by rw [Nat.sub_zero, hf.len]; exact inB_nat hw, Int.toNat_natCast, Int.toNat_natCast, hf.row w hw, row_len, inB_nat hi', show decide (i < od.length) = true by simpa using hi', row_at _ hi', i64s (by omega), worth_eq h F hi', w64 _ (by omega)]
        unfold badP
        show (bif pmM sp wf od w i then bif decide (nth pw 0 w + nth po 0 i < wO od i) then _ else _ else _) = _
        cases pmM sp wf od w i <;> cases decide (nth pw 0 w + nth po 0 i < wO od i) <;> rfl
      rw [nth_range hi']
      exact ⟨fun h => ⟨_, by rw [e, h]; rfl, rfl⟩, fun h => by rw [e, h]; rfl⟩) od.length 0 F (by simp) (by omega)
  rw [List.drop_zero] at this
  unfold badW
  rcases this with ⟨h1, j, b, _, _, _, _, h2, h3⟩ | ⟨h1, c, h2, h3⟩
  · rw [if_pos h1, ← h3]; exact h2
  · rw [if_neg (by rw [h1]; simp), ← h3]; exact h2
theorem bnd0 (h : MOk sp wf od) (F : Nat) (hF : 2000 < F) {ps : List Nat} {B : A0} (hf : Fl sp wf od ps B) (C : A1) (pw po : List Int) (hpw : pw.length = wf.length) (hpo : po.length = od.length) (hw1 : rgP pw) (ho1 : rgP po) : ∀ (m i n : Nat) (nn : Int), i + m = wf.length → m < n → (0 ≤ nn ∧ nn ≤ 2000000000 * (i : Int)) →
    bound_L0 F n nn ((pw.length - 0) : Int) (i : Int) sp wf od pw po B C ps = some (if (List.range' i m).any (badW sp wf od pw po) = true then .inl ((0, 2), (sp, wf, od, pw, po, B, C)) else .inr (nn + sm (pw.drop i), (sp, wf, od, pw, po, B, C, ps)))
  | 0, i, n + 1, nn, hi, _, _ => by
    have : i = wf.length := by omega
    subst this
    show (bif decide ((wf.length : Int) < ((pw.length - 0) : Int)) then _ else _) = _
    rw [Int.sub_zero, hpw, lt_f, ← hpw, List.drop_length]
    show some (Sum.inr (nn, _)) = some (Sum.inr (nn + 0, _))
    rw [Int.add_zero]
  | m + 1, i, n + 1, nn, hi, hn, hb => by
    have hl : i < wf.length := by omega
    have hw := h.w
    have g1 := rg_nth hw1 i
    have hd : sm (pw.drop i) = nth pw 0 i + sm (pw.drop (i + 1)) := by
      rw [List.drop_eq_getElem_cons (by omega), ← nth_eq pw 0 i (by omega)]; rfl
    show (bif decide ((i : Int) < ((pw.length - 0) : Int)) then bif inB (i : Int) (pw.length - 0) then ob (bound_L1 F (IntKind.wrap IntKind.i64 (nn + (nth pw 0 (i : Int).toNat))) (i : Int) (nth pw 0 (i : Int).toNat) ((pw.length - 0) : Int) (i : Int) ((po.length - 0) : Int) sp wf od pw po ps F 0 B C) _ else none else _) = _
    rw [show decide ((i : Int) < ((pw.length - 0) : Int)) = true by rw [Int.sub_zero, hpw]; exact lt_t hl, show inB (i : Int) (pw.length - 0) = true by rw [Nat.sub_zero, hpw]; exact inB_nat hl, Int.toNat_natCast, bnd1 h F hF hf C pw po hpo hw1 ho1 _ _ _ hl, w64 _ (by omega)]
    rw [List.range'_succ, List.any_cons]
    cases hbw : badW sp wf od pw po i with
    | true => rfl
    | false =>
      have ih := bnd0 h F hF hf C pw po hpw hpo hw1 ho1 m (i + 1) n (nn + nth pw 0 i) (by omega) (by omega) (by omega)
      rw [Bool.false_or, hd, show nn + (nth pw 0 i + sm (pw.drop (i + 1))) = nn + nth pw 0 i + sm (pw.drop (i + 1)) by omega, ← ih]
      show bound_L0 F n (nn + nth pw 0 i) ((pw.length - 0) : Int) (IntKind.wrap IntKind.i64 ((i : Int) + 1)) sp wf od pw po B C ps = _
      rw [i64s (by omega)]
  | m, i, 0, _, _, hn, _ => by omega
theorem mul_le60 {a c : Int} (ha : 0 ≤ a ∧ a ≤ 2000000000) (hc : 0 ≤ c ∧ c ≤ 60) : 0 ≤ a * c ∧ a * c ≤ 120000000000 := by
  refine ⟨Int.mul_nonneg ha.1 hc.1, ?_⟩
  have := Int.mul_le_mul ha.2 hc.2 hc.1 (show (0 : Int) ≤ 2000000000 by omega)
  omega
/-- What the places of all orders cost. -/
def smP (od : List OdT) (po : List Int) : Nat → Nat → Int
  | _, 0 => 0
  | i, m + 1 => nth po 0 i * cO od i + smP od po (i + 1) m
theorem bnd2 (h : MOk sp wf od) (F : Nat) (ps : List Nat) (B : A0) (C : A1) (pw po : List Int) (hpo : po.length = od.length) (ho1 : rgP po) : ∀ (m i n : Nat) (nn : Int), i + m = od.length → m < n → (0 ≤ nn ∧ nn ≤ 1000000000000 + 120000000000 * (i : Int)) →
    bound_L2 F ((po.length - 0) : Int) sp wf od pw po B C ps n nn (i : Int) = some (nn + smP od po i m, (sp, wf, od, pw, po, B, C))
  | 0, i, n + 1, nn, hi, _, _ => by
    have : i = od.length := by omega
    subst this
    show (bif decide ((od.length : Int) < ((po.length - 0) : Int)) then _ else _) = _
    rw [Int.sub_zero, hpo, lt_f]
    show some (nn, _) = some (nn + 0, _)
    rw [Int.add_zero]
  | m + 1, i, n + 1, nn, hi, hn, hb => by
    have hl : i < od.length := by omega
    have ho := h.o
    have g1 := mul_le60 (rg_nth ho1 i) (h.cnt i hl)
    have ih := bnd2 h F ps B C pw po hpo ho1 m (i + 1) n (nn + nth po 0 i * cO od i) (by omega) (by omega) (by unfold cO; omega)
    simp only [smP]
    rw [show nn + (nth po 0 i * cO od i + smP od po (i + 1) m) = nn + nth po 0 i * cO od i + smP od po (i + 1) m by omega, ← ih]
    show (bif decide ((i : Int) < ((po.length - 0) : Int)) then bif inB (i : Int) (po.length - 0) then bif inB (i : Int) (od.length - 0) then bound_L2 F ((po.length - 0) : Int) sp wf od pw po B C ps n (IntKind.wrap IntKind.i64 (nn + (IntKind.wrap IntKind.i64 ((nth po 0 (i : Int).toNat) * (nth od dO (i : Int).toNat).2.1)))) (IntKind.wrap IntKind.i64 ((i : Int) + 1)) else none else none else _) = _
    rw [show decide ((i : Int) < ((po.length - 0) : Int)) = true by rw [Int.sub_zero, hpo]; exact lt_t hl, show inB (i : Int) (po.length - 0) = true by rw [Nat.sub_zero, hpo]; exact inB_nat hl, show inB (i : Int) (od.length - 0) = true from inB_nat hl, Int.toNat_natCast, w64 (nth po 0 i * (nth od dO i).2.1) (by omega), w64 (nn + nth po 0 i * (nth od dO i).2.1) (by omega), i64s (by omega)]
    rfl
  | m, i, 0, _, _, hn, _ => by omega
/-- Prices that are valid. -/
def okP (sp : List SpT) (wf : List WfT) (od : List OdT) (pw po : List Int) : Bool := decide (pw.length = wf.length ∧ po.length = od.length) && ((!pw.any (fun x => !inI x 0 2000000000) && !po.any (fun x => !inI x 0 2000000000)) && !(List.range' 0 wf.length).any (badW sp wf od pw po))
def totP (od : List OdT) (pw po : List Int) : Int := sm pw + smP od po 0 od.length
theorem any_rg {l : List Int} (h : l.any (fun x => !inI x 0 2000000000) = false) : rgP l := fun x hx => inI_ok (by simpa using List.any_eq_false.1 h x hx)
theorem sm_le : ∀ {l : List Int}, rgP l → 0 ≤ sm l ∧ sm l ≤ 2000000000 * (l.length : Int)
  | [], _ => by simp [sm]
  | x :: l, h => by
    have h1 := h x List.mem_cons_self
    have h2 := sm_le (l := l) (fun y hy => h y (List.mem_cons_of_mem _ hy))
    simp only [sm, List.length_cons]; omega
theorem bound_eq (F : Nat) (hF : 2000 < F) (hw : wfsOk wf) (pw po : List Int) (hpw : pw.length ≤ 1000) (hpo : po.length ≤ 1000) (ar0 : A0) (ar1 : A1) : ∃ B C, bound_S F sp wf od pw po ar0 ar1 = some (if chkE sp wf od = 0 then (if okP sp wf od pw po = true then (totP od pw po, 0) else (0, 2)) else (0, chkE sp wf od), (B, C)) := by
  unfold bound_S
  rw [check_eq F (by omega) sp wf od hw]
  by_cases hc : chkE sp wf od = 0
  · have h := chk_ok hc
    have hw60 := h.w
    have ho12 := h.o
    rw [if_pos hc, hc]
    obtain ⟨B, ps, e1, hf⟩ := floor_eq h F (by omega) ar0 ar1
    refine ⟨B, ar1, ?_⟩
    show ob (newFloor_S F sp wf od ar0 ar1) _ = _
    rw [e1]
    -- the tests ahead
    have t1 : (bif (((pw.length - 0) : Int) != ((wf.length - 0) : Int)) then (some (true, (sp, wf, od, pw, po, B, ar1, ps))) else (bif (((po.length - 0) : Int) != ((od.length - 0) : Int)) then (some (true, (sp, wf, od, pw, po, B, ar1, ps))) else (ob (cfOut_S F pw) (fun r2 => (bif r2 then (some (true, (sp, wf, od, pw, po, B, ar1, ps))) else (ob (cfOut_S F po) (fun r3 => (some (r3, (sp, wf, od, pw, po, B, ar1, ps)))))))))) = some (!(decide (pw.length = wf.length ∧ po.length = od.length) && (!pw.any (fun x => !inI x 0 2000000000) && !po.any (fun x => !inI x 0 2000000000))), (sp, wf, od, pw, po, B, ar1, ps)) := by
      rw [cfOut_eq F pw (by omega) (by omega)]
      by_cases h1 : pw.length = wf.length
      · rw [show (((pw.length - 0) : Int) != ((wf.length - 0) : Int)) = false by simp [h1]]
        by_cases h2 : po.length = od.length
        · rw [show (((po.length - 0) : Int) != ((od.length - 0) : Int)) = false by simp [h2], show decide (pw.length = wf.length ∧ po.length = od.length) = true by simp [h1, h2]]
          cases pw.any (fun x => !inI x 0 2000000000) with
          | true => rfl
          | false =>
            show ob (cfOut_S F po) _ = _
            rw [cfOut_eq F po (by omega) (by omega)]
            cases po.any (fun x => !inI x 0 2000000000) <;> rfl
        · rw [show (((po.length - 0) : Int) != ((od.length - 0) : Int)) = true by simp; omega, show decide (pw.length = wf.length ∧ po.length = od.length) = false by simp [h2]]
          rfl
      · rw [show (((pw.length - 0) : Int) != ((wf.length - 0) : Int)) = true by simp; omega, show decide (pw.length = wf.length ∧ po.length = od.length) = false by simp [h1]]
        rfl
    refine (congrArg (fun z => ob z _) t1).trans ?_
    unfold okP
    cases hok : (decide (pw.length = wf.length ∧ po.length = od.length) && (!pw.any (fun x => !inI x 0 2000000000) && !po.any (fun x => !inI x 0 2000000000))) with
    | false =>
      rw [← Bool.and_assoc, hok]
      rfl
    | true =>
      rw [← Bool.and_assoc, hok]
      simp only [Bool.and_eq_true, decide_eq_true_eq, Bool.not_eq_true'] at hok
      obtain ⟨⟨h1, h2⟩, h3, h4⟩ := hok
      have r1 := any_rg h3
      have r2 := any_rg h4
      have b0 := bnd0 h F hF hf ar1 pw po h1 h2 r1 r2 wf.length 0 F 0 (by omega) (by omega) (by omega)
      show ob (bound_L0 F F (0 : Int) ((pw.length - 0) : Int) (0 : Int) sp wf od pw po B ar1 ps) _ = _
      rw [show bound_L0 F F (0 : Int) ((pw.length - 0) : Int) (0 : Int) sp wf od pw po B ar1 ps = _ from b0]
      cases hb : (List.range' 0 wf.length).any (badW sp wf od pw po) with
      | true => rfl
      | false =>
        have hs := sm_le r1
        show ob (bound_L2 F ((po.length - 0) : Int) sp wf od pw po B ar1 ps F (0 + sm (pw.drop 0)) (0 : Int)) _ = _
        rw [List.drop_zero, Int.zero_add]
        have b2 := bnd2 h F ps B ar1 pw po h2 r2 od.length 0 F (sm pw) (by omega) (by omega) (by omega)
        rw [show bound_L2 F ((po.length - 0) : Int) sp wf od pw po B ar1 ps F (sm pw) (0 : Int) = _ from b2]
        rfl
  · refine ⟨ar0, ar1, ?_⟩
    rw [if_neg hc]
    show (bif chkE sp wf od != 0 then _ else _) = _
    rw [show (chkE sp wf od != 0) = true by simpa using hc]
    rfl
end
end Go.Proofs.YtbnapejkjaddoaaDoor


namespace Go.Proofs.YtbnapejkjaddoaaDoor
open Go.RowKit
set_option maxRecDepth 100000
section
variable {sp : List SpT} {wf : List WfT} {od : List OdT}
theorem rbn2 (h : MOk sp wf od) (hr : regOk sp) (F : Nat) (hF : 2000 < F) (pw po : List Int) (hpw : pw.length = wf.length) (hpo : po.length = od.length) (ho1 : rgP po) (nn : Int) {w : Nat} (hw : w < wf.length) (g1 : 0 ≤ nth pw 0 w ∧ nth pw 0 w ≤ 2000000000) :
    rBound_L2 F nn (w : Int) sp wf od pw po F 0 = some (if badW sp wf od pw po w = true then .inl ((0, false), (sp, wf, od, pw, po)) else .inr ((nn, (w : Int)), (sp, wf, od, pw, po))) := by
  have ho := h.o
  have := scan (fun n i => rBound_L2 F nn (w : Int) sp wf od pw po n i) (List.range od.length) 0 (badP sp wf od pw po w) (fun _ b => b = ((0, false), (sp, wf, od, pw, po))) (fun c => c = ((nn, (w : Int)), (sp, wf, od, pw, po))) (fun n => ⟨_, by
      show (bif decide ((((List.range od.length).length : Nat) : Int) < ((po.length - 0) : Int)) then _ else _) = _
      rw [List.length_range, Int.sub_zero, hpo, lt_f]; rfl, rfl⟩) (fun n i hi => by
      have hi' : i < od.length := by simpa using hi
      have g2 := rg_nth ho1 i
      have g3 := h.price i hi'
      have e : rBound_L2 F nn (w : Int) sp wf od pw po (n + 1) (i : Int) = bif badP sp wf od pw po w i then some (.inl ((0, false), (sp, wf, od, pw, po))) else rBound_L2 F nn (w : Int) sp wf od pw po n ((i + 1 : Nat) : Int) := by
        show (bif decide ((i : Int) < ((po.length - 0) : Int)) then ob (rPasses_S F (w : Int) (i : Int) sp wf od) (fun r2 => bif r2 then bif inB (w : Int) (pw.length - 0) then bif inB (i : Int) (po.length - 0) then bif inB (i : Int) (od.length - 0) then bif decide ((IntKind.wrap IntKind.i64 ((nth pw 0 (w : Int).toNat) + (nth po 0 (i : Int).toNat))) < (IntKind.wrap IntKind.i64 ((1000000000 : Int) + (nth od dO (i : Int).toNat).2.2.1))) then some (.inl ((0, false), (sp, wf, od, pw, po))) else rBound_L2 F nn (w : Int) sp wf od pw po n (IntKind.wrap IntKind.i64 ((i : Int) + 1)) else none else none else none else rBound_L2 F nn (w : Int) sp wf od pw po n (IntKind.wrap IntKind.i64 ((i : Int) + 1))) else _) = _
        rw [show decide ((i : Int) < ((po.length - 0) : Int)) = true by rw [Int.sub_zero, hpo]; exact lt_t hi', rPass h hr F (by omega) hw hi', show inB (w : Int) (pw.length - 0) = true by rw [Nat.sub_zero, hpw]; exact inB_nat hw, show inB (i : Int) (po.length - 0) = true by rw [Nat.sub_zero, hpo]; exact inB_nat hi', show inB (i : Int) (od.length - 0) = true from inB_nat hi', Int.toNat_natCast, Int.toNat_natCast, i64s (by omega), w64 (nth pw 0 w + nth po 0 i) (by omega), w64 (1000000000 + (nth od dO i).2.2.1) (by omega)]
        unfold badP wO
        show (bif pmM sp wf od w i then bif decide (nth pw 0 w + nth po 0 i < 1000000000 + (nth od dO i).2.2.1) then _ else _ else _) = _
        cases pmM sp wf od w i <;> cases decide (nth pw 0 w + nth po 0 i < 1000000000 + (nth od dO i).2.2.1) <;> rfl
      rw [nth_range hi']
      exact ⟨fun h => ⟨_, by rw [e, h]; rfl, rfl⟩, fun h => by rw [e, h]; rfl⟩) od.length 0 F (by simp) (by omega)
  rw [List.drop_zero] at this
  unfold badW
  rcases this with ⟨h1, j, b, _, _, _, _, h2, h3⟩ | ⟨h1, c, h2, h3⟩
  · rw [if_pos h1, ← h3]; exact h2
  · rw [if_neg (by rw [h1]; simp), ← h3]; exact h2
def badR (sp : List SpT) (wf : List WfT) (od : List OdT) (pw po : List Int) (w : Nat) : Bool := !inI (nth pw 0 w) 0 2000000000 || badW sp wf od pw po w
theorem rbn1 (h : MOk sp wf od) (hr : regOk sp) (F : Nat) (hF : 2000 < F) (pw po : List Int) (hpw : pw.length = wf.length) (hpo : po.length = od.length) (ho1 : rgP po) : ∀ (m i n : Nat) (nn : Int), i + m = wf.length → m < n → (0 ≤ nn ∧ nn ≤ 10000000000000 + 2000000000 * (i : Int)) →
    rBound_L1 F n nn (i : Int) sp wf od pw po = some (if (List.range' i m).any (badR sp wf od pw po) = true then .inl ((0, false), (sp, wf, od, pw, po)) else .inr (nn + sm (pw.drop i), (sp, wf, od, pw, po)))
  | 0, i, n + 1, nn, hi, _, _ => by
    have : i = wf.length := by omega
    subst this
    show (bif decide ((wf.length : Int) < ((pw.length - 0) : Int)) then _ else _) = _
    rw [Int.sub_zero, hpw, lt_f, ← hpw, List.drop_length]
    show some (Sum.inr (nn, _)) = some (Sum.inr (nn + 0, _))
    rw [Int.add_zero]
  | m + 1, i, n + 1, nn, hi, hn, hb => by
    have hl : i < wf.length := by omega
    have hw := h.w
    have hd : sm (pw.drop i) = nth pw 0 i + sm (pw.drop (i + 1)) := by
      rw [List.drop_eq_getElem_cons (by omega), ← nth_eq pw 0 i (by omega)]; rfl
    have hin : inB (i : Int) (pw.length - 0) = true := by rw [Nat.sub_zero, hpw]; exact inB_nat hl
    have unf : rBound_L1 F (n + 1) nn (i : Int) sp wf od pw po = ob (some (inI (nth pw 0 i) 0 2000000000)) (fun r1 => bif (!r1) then some (.inl ((0, false), (sp, wf, od, pw, po))) else ob (rBound_L2 F (IntKind.wrap IntKind.i64 (nn + nth pw 0 i)) (i : Int) sp wf od pw po F 0) (fun o_ => su o_ (fun s3 => some (.inl ((s3.1.1, s3.1.2), (s3.2.1, s3.2.2.1, s3.2.2.2.1, s3.2.2.2.2.1, s3.2.2.2.2.2)))) (fun s4 => rBound_L1 F n s4.1.1 (IntKind.wrap IntKind.i64 (s4.1.2 + 1)) s4.2.1 s4.2.2.1 s4.2.2.2.1 s4.2.2.2.2.1 s4.2.2.2.2.2))) := by
      show (bif decide ((i : Int) < ((pw.length - 0) : Int)) then bif inB (i : Int) (pw.length - 0) then ob (rIn_S F (nth pw 0 (i : Int).toNat) 0 2000000000) (fun r1 => bif (!r1) then _ else bif inB (i : Int) (pw.length - 0) then _ else none) else none else _) = _
      rw [show decide ((i : Int) < ((pw.length - 0) : Int)) = true by rw [Int.sub_zero, hpw]; exact lt_t hl, hin, rIn_eq, Int.toNat_natCast]
      rfl
    rw [unf, List.range'_succ, List.any_cons]
    unfold badR
    cases hI : inI (nth pw 0 i) 0 2000000000 with
    | false => rfl
    | true =>
      have g1 := inI_ok hI
      show ob (rBound_L2 F (IntKind.wrap IntKind.i64 (nn + nth pw 0 i)) (i : Int) sp wf od pw po F 0) _ = _
      rw [rbn2 h hr F hF pw po hpw hpo ho1 _ hl g1, w64 _ (by omega)]
      cases hbw : badW sp wf od pw po i with
      | true => rfl
      | false =>
        have ih := rbn1 h hr F hF pw po hpw hpo ho1 m (i + 1) n (nn + nth pw 0 i) (by omega) (by omega) (by omega)
        rw [show (!true || false) = false from rfl, Bool.false_or, hd, show nn + (nth pw 0 i + sm (pw.drop (i + 1))) = nn + nth pw 0 i + sm (pw.drop (i + 1)) by omega]
        unfold badR at ih
        rw [← ih]
        show rBound_L1 F n (nn + nth pw 0 i) (IntKind.wrap IntKind.i64 ((i : Int) + 1)) sp wf od pw po = _
        rw [i64s (by omega)]
  | m, i, 0, _, _, hn, _ => by omega
theorem rbn0 (h : MOk sp wf od) (F : Nat) (pw po : List Int) (hpo : po.length = od.length) : ∀ (m i n : Nat) (nn : Int), i + m = od.length → m < n → (0 ≤ nn ∧ nn ≤ 120000000000 * (i : Int)) →
    rBound_L0 F sp wf od pw po n nn (i : Int) = some (if (po.drop i).any (fun x => !inI x 0 2000000000) = true then .inl ((0, false), (sp, wf, od, pw, po)) else .inr (nn + smP od po i m, (sp, wf, od, pw, po))) ∧ ((po.drop i).any (fun x => !inI x 0 2000000000) = false → 0 ≤ smP od po i m ∧ smP od po i m ≤ 120000000000 * (m : Int))
  | 0, i, n + 1, nn, hi, _, _ => by
    have : i = od.length := by omega
    subst this
    refine ⟨?_, fun _ => by simp [smP]⟩
    show (bif decide ((od.length : Int) < ((po.length - 0) : Int)) then _ else _) = _
    rw [Int.sub_zero, hpo, lt_f, ← hpo, List.drop_length]
    show some (Sum.inr (nn, _)) = some (Sum.inr (nn + 0, _))
    rw [Int.add_zero]
  | m + 1, i, n + 1, nn, hi, hn, hb => by
    have hl : i < od.length := by omega
    have ho := h.o
    have hd : po.drop i = nth po 0 i :: po.drop (i + 1) := by
      rw [List.drop_eq_getElem_cons (by omega), ← nth_eq po 0 i (by omega)]
    have hin : inB (i : Int) (po.length - 0) = true := by rw [Nat.sub_zero, hpo]; exact inB_nat hl
    have unf : rBound_L0 F sp wf od pw po (n + 1) nn (i : Int) = ob (some (inI (nth po 0 i) 0 2000000000)) (fun r => bif (!r) then some (.inl ((0, false), (sp, wf, od, pw, po))) else rBound_L0 F sp wf od pw po n (IntKind.wrap IntKind.i64 (nn + (IntKind.wrap IntKind.i64 (nth po 0 i * (nth od dO i).2.1)))) (IntKind.wrap IntKind.i64 ((i : Int) + 1))) := by
      show (bif decide ((i : Int) < ((po.length - 0) : Int)) then bif inB (i : Int) (po.length - 0) then ob (rIn_S F (nth po 0 (i : Int).toNat) 0 2000000000) (fun r => bif (!r) then _ else bif inB (i : Int) (po.length - 0) then bif inB (i : Int) (od.length - 0) then _ else none else none) else none else _) = _
      rw [show decide ((i : Int) < ((po.length - 0) : Int)) = true by rw [Int.sub_zero, hpo]; exact lt_t hl, hin, show inB (i : Int) (od.length - 0) = true from inB_nat hl, rIn_eq, Int.toNat_natCast]
      rfl
    rw [unf, hd, List.any_cons]
    cases hI : inI (nth po 0 i) 0 2000000000 with
    | false => exact ⟨rfl, fun h => by simp at h⟩
    | true =>
      have g1 := mul_le60 (inI_ok hI) (h.cnt i hl)
      have ih := rbn0 h F pw po hpo m (i + 1) n (nn + nth po 0 i * cO od i) (by omega) (by omega) (by unfold cO; omega)
      rw [show (!true) = false from rfl, Bool.false_or]
      refine ⟨?_, fun hh => by have := ih.2 hh; simp only [smP]; unfold cO at *; omega⟩
      simp only [smP]
      rw [show nn + (nth po 0 i * cO od i + smP od po (i + 1) m) = nn + nth po 0 i * cO od i + smP od po (i + 1) m by omega, ← ih.1]
      show rBound_L0 F sp wf od pw po n (IntKind.wrap IntKind.i64 (nn + (IntKind.wrap IntKind.i64 (nth po 0 i * (nth od dO i).2.1)))) (IntKind.wrap IntKind.i64 ((i : Int) + 1)) = _
      rw [w64 (nth po 0 i * (nth od dO i).2.1) (by omega), w64 (nn + nth po 0 i * (nth od dO i).2.1) (by omega), i64s (by omega)]
      rfl
  | m, i, 0, _, _, hn, _ => by omega
theorem any_range (pw : List Int) (f : Int → Bool) : (List.range' 0 pw.length).any (fun w => f (nth pw 0 w)) = pw.any f := by
  rw [Bool.eq_iff_iff, List.any_eq_true, List.any_eq_true]
  constructor
  · rintro ⟨w, hw, h⟩
    rw [List.mem_range'] at hw
    obtain ⟨i, hi, rfl⟩ := hw
    exact ⟨_, nth_mem (d := 0) (by omega), h⟩
  · rintro ⟨x, hx, h⟩
    obtain ⟨i, hi, rfl⟩ := List.getElem_of_mem hx
    exact ⟨i, by rw [List.mem_range']; exact ⟨i, hi, by omega⟩, by rw [← nth_eq pw 0 i hi]; exact h⟩
theorem any_or {α : Type} (f g : α → Bool) : ∀ l : List α, l.any (fun x => f x || g x) = (l.any f || l.any g)
  | [] => rfl
  | x :: l => by
    simp only [List.any_cons, any_or f g l]
    cases f x <;> cases g x <;> cases l.any f <;> rfl
theorem rBound_eq (h : MOk sp wf od) (hr : regOk sp) (F : Nat) (hF : 2000 < F) (pw po : List Int) : rBound_S F sp wf od pw po = some (if okP sp wf od pw po = true then (totP od pw po, true) else (0, false)) := by
  have hw := h.w
  have ho := h.o
  unfold rBound_S
  by_cases h1 : pw.length = wf.length
  · rw [show (((pw.length - 0) : Int) != ((wf.length - 0) : Int)) = false by simp [h1], cond_false]
    by_cases h2 : po.length = od.length
    · rw [show (((po.length - 0) : Int) != ((od.length - 0) : Int)) = false by simp [h2], cond_false]
      obtain ⟨e0, e0'⟩ := rbn0 h F pw po h2 od.length 0 F 0 (by omega) (by omega) (by omega)
      rw [List.drop_zero] at e0 e0'
      rw [show rBound_L0 F sp wf od pw po F (0 : Int) (0 : Int) = _ from e0]
      unfold okP
      rw [show decide (pw.length = wf.length ∧ po.length = od.length) = true by simp [h1, h2], Bool.true_and]
      cases h3 : po.any (fun x => !inI x 0 2000000000) with
      | true =>
        rw [show (!true) = false from rfl, Bool.and_false, Bool.false_and]
        rfl
      | false =>
        have hb := e0' h3
        have e1 := rbn1 h hr F hF pw po h1 h2 (any_rg h3) wf.length 0 F (0 + smP od po 0 od.length) (by omega) (by omega) (by omega)
        show ob (rBound_L1 F F (0 + smP od po 0 od.length) (0 : Int) sp wf od pw po) _ = _
        rw [show rBound_L1 F F (0 + smP od po 0 od.length) (0 : Int) sp wf od pw po = _ from e1]
        have hany : (List.range' 0 wf.length).any (badR sp wf od pw po) = (pw.any (fun x => !inI x 0 2000000000) || (List.range' 0 wf.length).any (badW sp wf od pw po)) := by
          rw [← any_range pw, h1]
          exact any_or (fun w => !inI (nth pw 0 w) 0 2000000000) (badW sp wf od pw po) _
        rw [hany, List.drop_zero, show 0 + smP od po 0 od.length + sm pw = totP od pw po by unfold totP; omega]
        cases pw.any (fun x => !inI x 0 2000000000) <;> cases (List.range' 0 wf.length).any (badW sp wf od pw po) <;> rfl
    · rw [show (((po.length - 0) : Int) != ((od.length - 0) : Int)) = true by simp; omega, show okP sp wf od pw po = false by unfold okP; simp [h2]]
      rfl
  · rw [show (((pw.length - 0) : Int) != ((wf.length - 0) : Int)) = true by simp; omega, show okP sp wf od pw po = false by unfold okP; simp [h1]]
    rfl
end
end Go.Proofs.YtbnapejkjaddoaaDoor


namespace Go.Proofs.YtbnapejkjaddoaaDoor
open Go.RowKit
set_option maxRecDepth 100000
section
variable {sp : List SpT} {wf : List WfT} {od : List OdT}
theorem BestM.isMax {cap : Nat → Int} {v : Int} (hb : BestM sp wf od cap 0 v) : Mt.IsMax od.length (pmM sp wf od) (wO od) cap (List.range' 0 wf.length) v := by
  obtain ⟨A, left, q, h1, rfl⟩ := hb
  rw [Nat.sub_zero] at h1
  exact h1.isMax List.nodup_range'
theorem prv0 (h : MOk sp wf od) (F : Nat) (hF : 2000 < F) {ps : List Nat} {B : A0} (hf : Fl sp wf od ps B) {M : Int} (hM : 0 ≤ M ∧ M ≤ 100000000000) {cl : List Int} (hcl : cl.length = od.length) (hcb : ∀ o, o < od.length → 0 ≤ nth cl 0 o ∧ nth cl 0 o ≤ 60) {Mp : Nat → Int} (hMp : ∀ o, o < od.length → Mt.IsMax od.length (pmM sp wf od) (wO od) (Mt.upd (nth cl 0) o (nth cl 0 o + 1)) (List.range' 0 wf.length) (Mp o)) : ∀ (m i n : Nat) (C : A1), i + m = od.length → m < n →
    ∃ C' : A1, prove_L0 F M ((od.length - 0) : Int) sp wf od ps n (i : Int) B C cl ((List.range i).map (fun o => Mp o - M)) = some (sp, wf, od, B, C', ps, (List.range od.length).map (fun o => Mp o - M))
  | 0, i, n + 1, C, hi, _ => by
    have : i = od.length := by omega
    subst this
    refine ⟨C, ?_⟩
    show (bif decide ((od.length : Int) < ((od.length - 0) : Int)) then _ else _) = _
    rw [Int.sub_zero, lt_f]; rfl
  | m + 1, i, n + 1, C, hi, hn => by
    have hl : i < od.length := by omega
    have ho := h.o
    have hw := h.w
    have hb := hcb i hl
    have hset : nth (List.set cl i (nth cl 0 i + 1)) 0 = Mt.upd (nth cl 0) i (nth cl 0 i + 1) := by rw [nth_set cl 0 _ (by omega)]; rfl
    obtain ⟨v, C1, e1, e2, e3, e4⟩ := most_eq h F hF hf (lf := List.set cl i (nth cl 0 i + 1)) (by rw [List.length_set]; exact hcl) (fun o ho' => by rw [hset]; unfold Mt.upd; have := hcb o ho'; split <;> omega) (fr := 0) (Nat.zero_le _) C
    rw [hset] at e2
    have hv := e2.isMax.uniq (hMp i hl)
    obtain ⟨C2, j1⟩ := prv0 h F hF hf hM hcl hcb hMp m (i + 1) n C1 (by omega) (by omega)
    refine ⟨C2, ?_⟩
    rw [← j1, ← range_snoc, ← hv]
    show (bif decide ((i : Int) < ((od.length - 0) : Int)) then bif inB (i : Int) (cl.length - 0) then bif inB (i : Int) (cl.length - 0) then ob (most_S F (0 : Int) sp wf od ps (List.set cl (i : Int).toNat (IntKind.wrap IntKind.i64 ((nth cl 0 (i : Int).toNat) + 1))) B C) (fun r4 => bif lenOk (((List.range i).map (fun o => Mp o - M)).length - 0) ((IntKind.wrap IntKind.i64 (r4.1 - M)) :: []).length then bif inB (i : Int) ((List.set cl (i : Int).toNat (IntKind.wrap IntKind.i64 ((nth cl 0 (i : Int).toNat) + 1))).length - 0) then bif inB (i : Int) ((List.set cl (i : Int).toNat (IntKind.wrap IntKind.i64 ((nth cl 0 (i : Int).toNat) + 1))).length - 0) then prove_L0 F M ((od.length - 0) : Int) sp wf od ps n (IntKind.wrap IntKind.i64 ((i : Int) + 1)) r4.2.1 r4.2.2 (List.set (List.set cl (i : Int).toNat (IntKind.wrap IntKind.i64 ((nth cl 0 (i : Int).toNat) + 1))) (i : Int).toNat (IntKind.wrap IntKind.i64 ((nth (List.set cl (i : Int).toNat (IntKind.wrap IntKind.i64 ((nth cl 0 (i : Int).toNat) + 1))) 0 (i : Int).toNat) - 1))) (((List.range i).map (fun o => Mp o - M)) ++ ((IntKind.wrap IntKind.i64 (r4.1 - M)) :: [])) else none else none else none) else none else none else _) = _
    have hin : inB (i : Int) (cl.length - 0) = true := by rw [Nat.sub_zero, hcl]; exact inB_nat hl
    rw [show decide ((i : Int) < ((od.length - 0) : Int)) = true by rw [Int.sub_zero]; exact lt_t hl, hin, Int.toNat_natCast, w64 (nth cl 0 i + 1) (by omega), show most_S F (0 : Int) sp wf od ps (List.set cl i (nth cl 0 i + 1)) B C = _ from e1]
    show (bif lenOk (((List.range i).map (fun o => Mp o - M)).length - 0) 1 then bif inB (i : Int) ((List.set cl i (nth cl 0 i + 1)).length - 0) then bif inB (i : Int) ((List.set cl i (nth cl 0 i + 1)).length - 0) then prove_L0 F M ((od.length - 0) : Int) sp wf od ps n (IntKind.wrap IntKind.i64 ((i : Int) + 1)) B C1 (List.set (List.set cl i (nth cl 0 i + 1)) i (IntKind.wrap IntKind.i64 ((nth (List.set cl i (nth cl 0 i + 1)) 0 i) - 1))) (((List.range i).map (fun o => Mp o - M)) ++ ((IntKind.wrap IntKind.i64 (v - M)) :: [])) else none else none else none) = _
    rw [lenOk_of (by rw [List.length_map, List.length_range]; omega), List.length_set, hin, hset, show Mt.upd (nth cl 0) i (nth cl 0 i + 1) i = nth cl 0 i + 1 by unfold Mt.upd; rw [if_pos rfl], w64 (nth cl 0 i + 1 - 1) (by omega), show nth cl 0 i + 1 - 1 = nth cl 0 i by omega, set_back cl (by omega), w64 (v - M) (by omega), i64s (by omega)]
    rfl
  | m, i, 0, C, _, hn => by omega
/-- What a wafer's price says. -/
def PwQ (sp : List SpT) (wf : List WfT) (od : List OdT) (po : List Int) (w i : Nat) (n : Int) : Prop := (0 ≤ n ∧ n ≤ 2000000000) ∧ (∀ p, p < i → pmM sp wf od w p = true → wO od p - nth po 0 p ≤ n) ∧ (n = 0 ∨ ∃ p, p < i ∧ pmM sp wf od w p = true ∧ n = wO od p - nth po 0 p)
theorem prv2 (h : MOk sp wf od) (F : Nat) {ps : List Nat} {B : A0} (hf : Fl sp wf od ps B) (C : A1) (pre po : List Int) (hpo : po.length = od.length) (hpb : ∀ o, o < od.length → 0 ≤ nth po 0 o ∧ nth po 0 o ≤ 2000000000) {w : Nat} (hw : w < wf.length) (t1 t2 : Int) : ∀ (m i n : Nat) (nn : Int), i + m = od.length → m < n → PwQ sp wf od po w i nn →
    ∃ nn', prove_L2 F (w : Int) t1 t2 ((po.length - 0) : Int) sp wf od po ps pre n nn (i : Int) B C = some ((nn', t1, t2), (sp, wf, od, B, C, ps, pre, po)) ∧ PwQ sp wf od po w od.length nn'
  | 0, i, n + 1, nn, hi, _, hq => by
    have : i = od.length := by omega
    subst this
    refine ⟨nn, ?_, hq⟩
    show (bif decide ((od.length : Int) < ((po.length - 0) : Int)) then _ else _) = _
    rw [Int.sub_zero, hpo, lt_f]; rfl
  | m + 1, i, n + 1, nn, hi, hn, hq => by
    have hl : i < od.length := by omega
    have ho := h.o
    have hW := wO_le h hl
    have hp := hpb i hl
    obtain ⟨q1, q2, q3⟩ := hq
    have unf : ∀ nn2, (bif pmM sp wf od w i then prove_L2 F (w : Int) t1 t2 ((po.length - 0) : Int) sp wf od po ps pre n (if wO od i - nth po 0 i > nn then wO od i - nth po 0 i else nn) ((i + 1 : Nat) : Int) B C else prove_L2 F (w : Int) t1 t2 ((po.length - 0) : Int) sp wf od po ps pre n nn ((i + 1 : Nat) : Int) B C) = nn2 → prove_L2 F (w : Int) t1 t2 ((po.length - 0) : Int) sp wf od po ps pre (n + 1) nn (i : Int) B C = nn2 := by
      intro X hX
      rw [← hX]
      show (bif decide ((i : Int) < ((po.length - 0) : Int)) then bif inB (i : Int) (po.length - 0) then bif inB (w : Int) (ps.length - 0) then bif inB (i : Int) (rowAt B (nth ps 0 (w : Int).toNat)).length then bif decide ((i : Int).toNat < (rowAt B (nth ps 0 (w : Int).toNat)).length) then bif nth (rowAt B (nth ps 0 (w : Int).toNat)) false (i : Int).toNat then ob (worth_S F (i : Int) sp wf od ps B C) (fun r5 => prove_L2 F (w : Int) t1 t2 ((po.length - 0) : Int) sp wf od po ps pre n (if (IntKind.wrap IntKind.i64 (r5.1 - (nth po 0 (i : Int).toNat))) > nn then (IntKind.wrap IntKind.i64 (r5.1 - (nth po 0 (i : Int).toNat))) else nn) (IntKind.wrap IntKind.i64 ((i : Int) + 1)) r5.2.1 r5.2.2) else prove_L2 F (w : Int) t1 t2 ((po.length - 0) : Int) sp wf od po ps pre n nn (IntKind.wrap IntKind.i64 ((i : Int) + 1)) B C else none else none else none else none else _) = _
      rw [show decide ((i : Int) < ((po.length - 0) : Int)) = true by rw [Int.sub_zero, hpo]; exact lt_t hl, show inB (i : Int) (po.length - 0) = true by rw [Nat.sub_zero, hpo]; exact inB_nat hl, show inB (w : Int) (ps.length - 0) = true by rw [Nat.sub_zero, hf.len]; exact inB_nat hw, Int.toNat_natCast, Int.toNat_natCast, hf.row w hw, row_len, inB_nat hl, show decide (i < od.length) = true by simpa using hl, row_at _ hl, i64s (by omega), worth_eq h F hl]
      show (bif pmM sp wf od w i then prove_L2 F (w : Int) t1 t2 ((po.length - 0) : Int) sp wf od po ps pre n (if (IntKind.wrap IntKind.i64 (wO od i - nth po 0 i)) > nn then (IntKind.wrap IntKind.i64 (wO od i - nth po 0 i)) else nn) ((i + 1 : Nat) : Int) B C else _) = _
      rw [w64 (wO od i - nth po 0 i) (by omega)]
    cases hpm : pmM sp wf od w i with
    | false =>
      obtain ⟨nn', j1, j2⟩ := prv2 h F hf C pre po hpo hpb hw t1 t2 m (i + 1) n nn (by omega) (by omega) ⟨q1, fun p hp' hpp => by
        by_cases e : p = i
        · subst e; rw [hpm] at hpp; cases hpp
        · exact q2 p (by omega) hpp, q3.imp id (fun ⟨p, p1, p2, p3⟩ => ⟨p, by omega, p2, p3⟩)⟩
      exact ⟨nn', unf _ (by rw [hpm]; exact j1), j2⟩
    | true =>
      by_cases hg : wO od i - nth po 0 i > nn
      · obtain ⟨nn', j1, j2⟩ := prv2 h F hf C pre po hpo hpb hw t1 t2 m (i + 1) n (wO od i - nth po 0 i) (by omega) (by omega) ⟨by omega, fun p hp' hpp => by
          by_cases e : p = i
          · subst e; exact Int.le_refl _
          · have := q2 p (by omega) hpp; omega, .inr ⟨i, by omega, hpm, rfl⟩⟩
        exact ⟨nn', unf _ (by rw [hpm, if_pos hg]; exact j1), j2⟩
      · obtain ⟨nn', j1, j2⟩ := prv2 h F hf C pre po hpo hpb hw t1 t2 m (i + 1) n nn (by omega) (by omega) ⟨q1, fun p hp' hpp => by
          by_cases e : p = i
          · subst e; omega
          · exact q2 p (by omega) hpp, q3.imp id (fun ⟨p, p1, p2, p3⟩ => ⟨p, by omega, p2, p3⟩)⟩
        exact ⟨nn', unf _ (by rw [hpm, if_neg hg]; exact j1), j2⟩
  | m, i, 0, _, _, hn, _ => by omega
theorem prv1 (h : MOk sp wf od) (F : Nat) (hF : 2000 < F) {ps : List Nat} {B : A0} (hf : Fl sp wf od ps B) (C : A1) (po : List Int) (hpo : po.length = od.length) (hpb : ∀ o, o < od.length → 0 ≤ nth po 0 o ∧ nth po 0 o ≤ 2000000000) : ∀ (m i n : Nat) (pre : List Int), i + m = wf.length → m < n → pre.length = i → (∀ w, w < i → PwQ sp wf od po w od.length (nth pre 0 w)) →
    ∃ pw, prove_L1 F n ((wf.length - 0) : Int) (i : Int) sp wf od B C ps pre po = some (sp, wf, od, B, C, pw, po) ∧ pw.length = wf.length ∧ ∀ w, w < wf.length → PwQ sp wf od po w od.length (nth pw 0 w)
  | 0, i, n + 1, pre, hi, _, hl, hq => by
    have : i = wf.length := by omega
    subst this
    refine ⟨pre, ?_, hl, hq⟩
    show (bif decide ((wf.length : Int) < ((wf.length - 0) : Int)) then _ else _) = _
    rw [Int.sub_zero, lt_f]; rfl
  | m + 1, i, n + 1, pre, hi, hn, hl, hq => by
    have hil : i < wf.length := by omega
    have hw := h.w
    have ho := h.o
    obtain ⟨nn, e1, e2⟩ := prv2 h F hf C pre po hpo hpb hil ((wf.length - 0) : Int) (i : Int) od.length 0 F 0 (by omega) (by omega) ⟨by omega, fun p hp => by omega, .inl rfl⟩
    obtain ⟨pw, j1, j2⟩ := prv1 h F hF hf C po hpo hpb m (i + 1) n (pre ++ [nn]) (by omega) (by omega) (by simp [hl]) (fun w hw' => by
      by_cases e : w = i
      · subst e
        have : nth (pre ++ [nn]) 0 w = nn := by
          unfold nth; rw [List.getD_eq_getElem?_getD, List.getElem?_append_right (by omega), hl]; simp
        rw [this]; exact e2
      · rw [nth_app _ _ _ (by omega)]; exact hq w (by omega))
    refine ⟨pw, ?_, j2⟩
    rw [← j1]
    show (bif decide ((i : Int) < ((wf.length - 0) : Int)) then ob (prove_L2 F (i : Int) ((wf.length - 0) : Int) (i : Int) ((po.length - 0) : Int) sp wf od po ps pre F 0 0 B C) _ else _) = _
    rw [show decide ((i : Int) < ((wf.length - 0) : Int)) = true by rw [Int.sub_zero]; exact lt_t hil, show prove_L2 F (i : Int) ((wf.length - 0) : Int) (i : Int) ((po.length - 0) : Int) sp wf od po ps pre F 0 0 B C = _ from e1]
    show (bif lenOk (pre.length - 0) 1 then prove_L1 F n ((wf.length - 0) : Int) (IntKind.wrap IntKind.i64 ((i : Int) + 1)) sp wf od B C ps (pre ++ (nn :: [])) po else none) = _
    rw [lenOk_of (by omega), i64s (by omega)]
    rfl
  | m, i, 0, _, _, hn, _, _ => by omega
theorem sm_sumL : ∀ (m i : Nat) (l : List Int), i + m = l.length → sm (l.drop i) = Mt.sumL (nth l 0) (List.range' i m)
  | 0, i, l, h => by
    have : i = l.length := by omega
    subst this
    rw [List.drop_length]; rfl
  | m + 1, i, l, h => by
    rw [List.drop_eq_getElem_cons (by omega), nth_eq l 0 i (by omega), List.range'_succ]
    simp only [sm, Mt.sumL, sm_sumL m (i + 1) l (by omega)]
theorem smP_sumN (po : List Int) : ∀ (m i : Nat), smP od po i m = Mt.sumN (i + m) (fun o => nth po 0 o * cO od o) - Mt.sumN i (fun o => nth po 0 o * cO od o)
  | 0, i => by simp [smP]
  | m + 1, i => by
    simp only [smP]
    rw [smP_sumN po m (i + 1), show i + 1 + m = i + (m + 1) by omega]
    simp only [Mt.sumN]; omega
theorem prove_eq (F : Nat) (hF : 2000 < F) (hw : wfsOk wf) (hc : chkE sp wf od = 0) (ar0 : A0) (ar1 : A1) : ∃ (pw po : List Int) (B : A0) (C : A1) (v : Int), prove_S F sp wf od ar0 ar1 = some (0, (B, C, pw, po)) ∧ pw.length = wf.length ∧ po.length = od.length ∧ Mx sp wf od v ∧ okP sp wf od pw po = true ∧ totP od pw po = v := by
  have h := chk_ok hc
  have hw60 := h.w
  have ho12 := h.o
  obtain ⟨B, ps, e1, hf⟩ := floor_eq h F (by omega) ar0 ar1
  have hcl : ((List.range od.length).map (cO od)).length = od.length := by simp
  have hcb : ∀ o, o < od.length → 0 ≤ nth ((List.range od.length).map (cO od)) 0 o ∧ nth ((List.range od.length).map (cO od)) 0 o ≤ 60 := fun o ho => by rw [nth_cO ho]; exact h.cnt o ho
  obtain ⟨M, C, e2, e3, e4, e5⟩ := most_eq h F hF hf hcl (fun o ho => ⟨(hcb o ho).1, by have := (hcb o ho).2; omega⟩) (fr := 0) (Nat.zero_le _) ar1
  have hmx := e3.mx h
  obtain ⟨A, left, q, hI, hMt⟩ := id e3
  rw [Nat.sub_zero] at hI
  have hW0 : ∀ o, o < od.length → 0 ≤ wO od o := fun o ho => by have := wO_le h ho; omega
  have hch : ∀ o, ∃ m : Int, o < od.length → Mt.IsMax od.length (pmM sp wf od) (wO od) (Mt.upd (nth ((List.range od.length).map (cO od)) 0) o (nth ((List.range od.length).map (cO od)) 0 o + 1)) (List.range' 0 wf.length) m := fun o => by
    by_cases ho : o < od.length
    · obtain ⟨A', left', q', h1, _⟩ := hI.aug hW0 ho
      exact ⟨_, fun _ => h1.isMax List.nodup_range'⟩
    · exact ⟨0, fun h => absurd h ho⟩
  obtain ⟨Mp, hMp⟩ := Classical.axiomOfChoice hch
  have hpb : ∀ o, o < od.length → 0 ≤ Mp o - M ∧ Mp o - M ≤ 2000000000 := fun o ho => by
    have h1 := Mt.price_bounds List.nodup_range' ho (hW0 o ho) e3.isMax (hMp o ho)
    have h2 := wO_le h ho
    omega
  obtain ⟨C1, e6⟩ := prv0 h F hF hf (M := M) (by omega) hcl hcb hMp od.length 0 F C (by omega) (by omega)
  have hpn : ∀ o, o < od.length → nth ((List.range od.length).map (fun o => Mp o - M)) 0 o = Mp o - M := fun o ho => nth_map_range _ _ ho
  obtain ⟨pw, e7, e8, e9⟩ := prv1 h F hF hf C1 ((List.range od.length).map (fun o => Mp o - M)) (by simp) (fun o ho => by rw [hpn o ho]; exact hpb o ho) wf.length 0 F [] (by omega) (by omega) rfl (fun w hw' => by omega)
  refine ⟨pw, (List.range od.length).map (fun o => Mp o - M), B, C1, M, ?_, e8, by simp, hmx, ?_, ?_⟩
  · unfold prove_S
    rw [check_eq F (by omega) sp wf od hw, hc]
    show ob (newFloor_S F sp wf od ar0 ar1) _ = _
    rw [e1]
    show ob (counts_S F sp wf od ps B ar1) _ = _
    rw [counts_eq h F (by omega)]
    show ob (most_S F (0 : Int) sp wf od ps ((List.range od.length).map (cO od)) B ar1) _ = _
    rw [show most_S F (0 : Int) sp wf od ps ((List.range od.length).map (cO od)) B ar1 = _ from e2]
    show ob (prove_L0 F M ((od.length - 0) : Int) sp wf od ps F (0 : Int) B C ((List.range od.length).map (cO od)) []) _ = _
    rw [show prove_L0 F M ((od.length - 0) : Int) sp wf od ps F (0 : Int) B C ((List.range od.length).map (cO od)) [] = _ from e6]
    show ob (prove_L1 F F ((wf.length - 0) : Int) (0 : Int) sp wf od B C1 ps [] _) _ = _
    rw [show prove_L1 F F ((wf.length - 0) : Int) (0 : Int) sp wf od B C1 ps [] ((List.range od.length).map (fun o => Mp o - M)) = _ from e7]
  · unfold okP
    have a1 : pw.any (fun x => !inI x 0 2000000000) = false := by
      rw [List.any_eq_false]
      intro x hx
      obtain ⟨i, hi, rfl⟩ := List.getElem_of_mem hx
      have := (e9 i (by omega)).1
      rw [nth_eq pw 0 i hi]
      unfold inI; simp; omega
    have a2 : ((List.range od.length).map (fun o => Mp o - M)).any (fun x => !inI x 0 2000000000) = false := by
      rw [List.any_eq_false]
      intro x hx
      obtain ⟨i, hi, rfl⟩ := List.mem_map.1 hx
      have := hpb i (by simpa using hi)
      unfold inI; simp; omega
    have a3 : (List.range' 0 wf.length).any (badW sp wf od pw ((List.range od.length).map (fun o => Mp o - M))) = false := by
      rw [List.any_eq_false]
      intro w hw'
      have hwl := mem_r.1 hw'
      unfold badW
      rw [Bool.not_eq_true, List.any_eq_false]
      intro o ho
      have hol : o < od.length := by simpa using ho
      unfold badP
      rw [Bool.not_eq_true]
      cases hpm : pmM sp wf od w o with
      | false => rfl
      | true =>
        have := (e9 w hwl).2.1 o hol hpm
        rw [Bool.true_and, decide_eq_false_iff_not]
        omega
    rw [a1, a2, a3, e8]
    simp
  · have hs := hI.strong List.nodup_range' hW0 hMt (Mp := Mp) hMp (pw := nth pw 0) (fun w hw' => by
      obtain ⟨p1, p2, p3⟩ := e9 w (mem_r.1 hw')
      refine ⟨p1.1, fun p hp hpm => ?_, ?_⟩
      · have := p2 p hp hpm; rw [hpn p hp] at this; exact this
      · rcases p3 with p3 | ⟨p, g1, g2, g3⟩
        · exact .inl p3
        · exact .inr ⟨p, g1, g2, by rw [hpn p g1] at g3; exact g3⟩)
    unfold totP
    have s1 := sm_sumL wf.length 0 pw (by omega)
    have s2 := smP_sumN (od := od) ((List.range od.length).map (fun o => Mp o - M)) od.length 0
    rw [List.drop_zero] at s1
    rw [s1, s2, Nat.zero_add, Mt.sumN_eq od.length (f := fun o => nth ((List.range od.length).map (fun o => Mp o - M)) 0 o * cO od o) (g := fun o => (Mp o - M) * nth ((List.range od.length).map (cO od)) 0 o) (fun o ho => by rw [hpn o ho, nth_cO ho])]
    show Mt.sumL (nth pw 0) (List.range' 0 wf.length) + (_ - 0) = M
    omega
theorem prove_bad (F : Nat) (hF : 2000 < F) (hw : wfsOk wf) (ar0 : A0) (ar1 : A1) (hc : chkE sp wf od ≠ 0) : prove_S F sp wf od ar0 ar1 = some (chkE sp wf od, (ar0, ar1, [], [])) := by
  unfold prove_S
  rw [check_eq F (by omega) sp wf od hw]
  show (bif chkE sp wf od != 0 then _ else _) = _
  rw [show (chkE sp wf od != 0) = true by simpa using hc]
  rfl
end
end Go.Proofs.YtbnapejkjaddoaaDoor


namespace Go.Proofs.YtbnapejkjaddoaaDoor
open Go.RowKit
set_option maxRecDepth 100000
section
variable {sp : List SpT} {wf : List WfT} {od : List OdT}
abbrev BdI := Int × (List SpT × (List WfT × (List OdT × (List Int × (List Int × (A0 × (A1 × (List Int × List Int))))))))
/-- What is compared in the end. -/
noncomputable def bTail (F : Nat) (s6 : BdI) : Option (Bool × (A0 × A1)) := (ob (own_S F s6.2.1 s6.2.2.1 s6.2.2.2.1 s6.2.2.2.2.2.2.1 s6.2.2.2.2.2.2.2.1) (fun r9 => (ob (ints_S F s6.2.2.2.2.2.2.2.2.1 r9.1 r9.2.1) (fun r10 => (ob (ints_S F s6.2.2.2.2.2.2.2.2.2 r10.1 r10.2.1) (fun r11 => (ob (bound_S F r9.2.2.1 r9.2.2.2.1 r9.2.2.2.2 r10.2.2 r11.2.2 r11.1 r11.2.1) (fun r12 => (bif (s6.1 != (0 : Int)) then (bif (r12.1.2 == s6.1) then (bif (r12.1.1 == (0 : Int)) then (some (true, (r12.2.1, r12.2.2))) else (some (false, (r12.2.1, r12.2.2)))) else (some (false, (r12.2.1, r12.2.2)))) else (ob (rBound_S F s6.2.1 s6.2.2.1 s6.2.2.2.1 s6.2.2.2.2.2.2.2.2.1 s6.2.2.2.2.2.2.2.2.2) (fun r13 => (bif (!r13.2) then (bif (r12.1.2 == (2 : Int)) then (bif (r12.1.1 == (0 : Int)) then (some (true, (r12.2.1, r12.2.2))) else (some (false, (r12.2.1, r12.2.2)))) else (some (false, (r12.2.1, r12.2.2)))) else (bif (r12.1.2 == (0 : Int)) then (bif (r12.1.1 == r13.1) then (some (true, (r12.2.1, r12.2.2))) else (some (false, (r12.2.1, r12.2.2)))) else (some (false, (r12.2.1, r12.2.2))))))))))))))))
theorem bTail_ok (F : Nat) (hF : 2000 < F) (hl : largeB sp wf od = false) (hw : wfsOk wf) (hs : regOk sp) (pw0 po0 pw po : List Int) (hpw : pw.length ≤ 1000) (hpo : po.length ≤ 1000) (B0 : A0) (C0 : A1) : ∃ B C, bTail F (chkE sp wf od, (sp, wf, od, pw0, po0, B0, C0, pw, po)) = some (true, B, C) := by
  obtain ⟨B, C, e1⟩ := bound_eq (sp := sp) (od := od) F hF hw pw po hpw hpo B0 C0
  refine ⟨B, C, ?_⟩
  unfold bTail
  show ob (own_S F sp wf od B0 C0) _ = _
  rw [own_eq F hl]
  show ob (ints_S F pw B0 C0) _ = _
  rw [ints_eq F (by omega)]
  show ob (ints_S F po B0 C0) _ = _
  rw [ints_eq F (by omega)]
  show ob (bound_S F sp wf od pw po B0 C0) _ = _
  rw [e1]
  by_cases hc : chkE sp wf od = 0
  · rw [if_pos hc, hc]
    show ob (rBound_S F sp wf od pw po) _ = _
    rw [rBound_eq (chk_ok hc) hs F hF]
    cases hk : okP sp wf od pw po with
    | false => rfl
    | true =>
      show (bif (totP od pw po == totP od pw po) then _ else _) = _
      rw [beq_self_eq_true]; rfl
  · rw [if_neg hc]
    show (bif chkE sp wf od != 0 then (bif chkE sp wf od == chkE sp wf od then _ else _) else _) = _
    rw [show (chkE sp wf od != 0) = true by simpa using hc, beq_self_eq_true]
    rfl
theorem bKey (F : Nat) (Y : Option ((Bool × (List SpT × (List WfT × (List OdT × (List Int × (List Int × (A0 × A1))))))) ⊕ BdI)) (X : BdI) (hY : Y = some (.inr X)) (hX : ∃ B C, bTail F X = some (true, B, C)) : ∃ B C, ob Y (fun o_ => su o_ (fun s5 => some (s5.1, (s5.2.2.2.2.2.2.1, s5.2.2.2.2.2.2.2))) (bTail F)) = some (true, B, C) := by
  rw [hY]; exact hX
theorem oBounds_law0 (F : Nat) (hF : 2000 < F) (c : Bool × (Int × Int)) (hat : 0 ≤ c.2.1 ∧ c.2.1 ≤ 255) (sp : List SpT) (wf : List WfT) (od : List OdT) (pw0 po0 : List Int) (hs : regOk sp) (hu : ∀ w ∈ wf, 0 ≤ w.2.1 ∧ w.2.1 ≤ 255) : ∃ B C, oBounds_S F c sp wf od pw0 po0 [] [] = some (true, B, C) := by
  unfold oBounds_S
  rw [large_eq F (by omega)]
  cases hl : largeB sp wf od with
  | true => exact ⟨[], [], rfl⟩
  | false =>
    obtain ⟨hn, hsh⟩ := large_no hl
    have hw : wfsOk wf := fun w h => ⟨hu w h, hsh w h⟩
    rw [show (70 : Int) = ((70 : Nat) : Int) from rfl, show (12 : Int) = ((12 : Nat) : Int) from rfl, gt_n, gt_n, gt_n]
    cases h1 : decide (70 < pw0.length) with
    | true => exact ⟨[], [], rfl⟩
    | false =>
      cases h2 : decide (70 < po0.length) with
      | true => exact ⟨[], [], rfl⟩
      | false =>
        simp only [decide_eq_false_iff_not, Nat.not_lt] at h1 h2
        obtain ⟨own, at_, by_⟩ := c
        cases own with
        | false =>
          show ∃ B C, ob (ints_S F pw0 [] []) _ = _
          rw [ints_eq F (by omega)]
          show ∃ B C, ob (ints_S F po0 [] []) _ = _
          rw [ints_eq F (by omega)]
          show ∃ B C, ob (rCheck_S F sp wf od) _ = _
          rw [rCheck_eq F (by omega)]
          exact bTail_ok F hF hl hw hs pw0 po0 pw0 po0 (by omega) (by omega) [] []
        | true =>
          cases h3 : decide (12 < wf.length) with
          | true => exact ⟨[], [], rfl⟩
          | false =>
            simp only [decide_eq_false_iff_not, Nat.not_lt] at h3
            show ∃ B C, ob (ints_S F pw0 [] []) _ = _
            rw [ints_eq F (by omega)]
            show ∃ B C, ob (ints_S F po0 [] []) _ = _
            rw [ints_eq F (by omega)]
            show ∃ B C, ob (rCheck_S F sp wf od) _ = _
            rw [rCheck_eq F (by omega)]
            show ∃ B C, ob (ob (own_S F sp wf od [] []) _) _ = _
            rw [own_eq F hl]
            show ∃ B C, ob (ob (prove_S F sp wf od [] []) _) _ = _
            have hwat : IntKind.wrap IntKind.i64 at_ = at_ := w64 _ (by dsimp only at hat; omega)
            by_cases hc : chkE sp wf od = 0
            · have h := chk_ok hc
              have ho := h.o
              obtain ⟨pw, po, B, C, v, e1, l1, l2, hv, hk, ht⟩ := prove_eq F hF hw hc [] []
              obtain ⟨cn, q1, q2, q3, q4⟩ := hv.cnt h
              have tl := fun (a b : List Int) (ha : a.length = pw.length) (hb : b.length = po.length) => bTail_ok F hF hl hw hs pw0 po0 a b (by omega) (by omega) B C
              rw [hc] at tl
              rw [e1, hc]
              show ∃ B' C', ob (ob (ob (rBound_S F sp wf od pw po) _) _) _ = _
              rw [rBound_eq h hs F hF, if_pos hk, ht]
              show ∃ B' C', ob (ob (bif decide (v < 0) then _ else _) _) _ = _
              rw [show decide (v < 0) = false by simp; omega]
              show ∃ B' C', ob (ob (ints_S F pw B C) _) _ = _
              rw [ints_eq F (by omega)]
              show ∃ B' C', ob (ob (ints_S F po B C) _) _ = _
              rw [ints_eq F (by omega)]
              show ∃ B' C', ob (bif decide (IntKind.wrap IntKind.i64 at_ < ((pw.length - 0) : Int)) then bif inB (IntKind.wrap IntKind.i64 at_) (pw.length - 0) then bif inB (IntKind.wrap IntKind.i64 at_) (pw.length - 0) then _ else none else none else bif decide (IntKind.wrap IntKind.i64 at_ < IntKind.wrap IntKind.i64 (((pw.length - 0) : Int) + ((po.length - 0) : Int))) then bif inB (IntKind.wrap IntKind.i64 ((IntKind.wrap IntKind.i64 at_) - ((pw.length - 0) : Int))) (po.length - 0) then bif inB (IntKind.wrap IntKind.i64 ((IntKind.wrap IntKind.i64 at_) - ((pw.length - 0) : Int))) (po.length - 0) then _ else none else none else _) _ = _
              dsimp only at hat
              rw [hwat, Int.sub_zero, Int.sub_zero, w64 ((pw.length : Int) + (po.length : Int)) (by omega), w64 (at_ - (pw.length : Int)) (by omega)]
              by_cases g1 : at_ < (pw.length : Int)
              · rw [show decide (at_ < (pw.length : Int)) = true by simpa using g1, inB_of (n := pw.length - 0) hat.1 (by omega)]
                exact tl _ po (by rw [List.length_set]) rfl
              · rw [show decide (at_ < (pw.length : Int)) = false by simpa using g1]
                by_cases g2 : at_ < (pw.length : Int) + (po.length : Int)
                · rw [show decide (at_ < (pw.length : Int) + (po.length : Int)) = true by simpa using g2, inB_of (i := at_ - (pw.length : Int)) (n := po.length - 0) (by omega) (by omega)]
                  exact tl pw _ rfl (by rw [List.length_set])
                · rw [show decide (at_ < (pw.length : Int) + (po.length : Int)) = false by simpa using g2]
                  exact tl pw po rfl rfl
            · have tl := bTail_ok F hF hl hw hs pw0 po0 [] [] (by simp) (by simp) [] []
              rw [prove_bad F hF hw [] [] hc]
              refine bKey F _ (chkE sp wf od, (sp, wf, od, pw0, po0, [], [], [], [])) ?_ tl
              show ob (bif chkE sp wf od != chkE sp wf od then _ else bif chkE sp wf od != 0 then _ else _) _ = _
              rw [show (chkE sp wf od != chkE sp wf od) = false by simp, show (chkE sp wf od != 0) = true by simpa using hc]
              show ob (bif chkE sp wf od == 0 then _ else _) _ = _
              rw [show (chkE sp wf od == 0) = false by simpa using hc]
              dsimp only at hat
              have e0 := ints_eq F (l := []) (by simp) [] []
              have e1 : decide (at_ < ((([] : List Int).length - 0) : Int)) = false := by simp; omega
              have e2 : IntKind.wrap IntKind.i64 (((([] : List Int).length - 0) : Int) + ((([] : List Int).length - 0) : Int)) = 0 := w64 _ (by simp)
              have e3 : decide (at_ < 0) = false := by simp; omega
              simp only [cond_false, ob, su, e0, hwat, e1, e2, e3]
end
end Go.Proofs.YtbnapejkjaddoaaDoor
