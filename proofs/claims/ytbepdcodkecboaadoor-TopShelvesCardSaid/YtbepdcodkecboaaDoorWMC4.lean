/- Plain laws of chapter 10: whether a market is valid; the program and the document agree. No condition. -/
import Derived.Test.YtbepdcodkecboaaDoorWMP10d

namespace Go.Proofs.YtbepdcodkecboaaDoor
open Go.RowKit
set_option maxRecDepth 100000
abbrev OdT := Int × (Int × (Int × Int))
abbrev A0 := List (Option (List Bool))
abbrev A1 := List (Option (List Int))
abbrev dS : SpT := (TC.dflt (TC.pair (TC.pair (TC.pair (TC.int IntKind.i64) (TC.int IntKind.i64)) (TC.pair (TC.pair (TC.int IntKind.i64) (TC.int IntKind.i64)) (TC.pair (TC.pair (TC.int IntKind.i64) (TC.int IntKind.i64)) (TC.pair (TC.pair (TC.int IntKind.i64) (TC.int IntKind.i64)) (TC.pair (TC.pair (TC.int IntKind.i64) (TC.int IntKind.i64)) (TC.pair (TC.int IntKind.i64) (TC.int IntKind.i64))))))) (TC.int IntKind.u8)))
abbrev dW : WfT := (TC.dflt (TC.pair (TC.pair (TC.pair (TC.int IntKind.i64) (TC.int IntKind.i64)) (TC.pair (TC.pair (TC.int IntKind.i64) (TC.int IntKind.i64)) (TC.pair (TC.pair (TC.int IntKind.i64) (TC.int IntKind.i64)) (TC.pair (TC.pair (TC.int IntKind.i64) (TC.int IntKind.i64)) (TC.pair (TC.pair (TC.int IntKind.i64) (TC.int IntKind.i64)) (TC.pair (TC.int IntKind.i64) (TC.int IntKind.i64))))))) (TC.pair (TC.int IntKind.u8) (TC.pair TC.str (TC.pair TC.str (TC.pair TC.str (TC.pair TC.str (TC.pair TC.str TC.str))))))))
abbrev dO : OdT := (TC.dflt (TC.pair (TC.int IntKind.i64) (TC.pair (TC.int IntKind.i64) (TC.pair (TC.int IntKind.i64) (TC.int IntKind.i64)))))
theorem inB_nat {i n : Nat} (h : i < n) : inB (i : Int) n = true := by
  unfold inB; simp only [Bool.and_eq_true, decide_eq_true_eq]; omega
theorem i64s {i : Nat} (h : i ≤ 1000000000000) : IntKind.wrap IntKind.i64 ((i : Int) + 1) = ((i + 1 : Nat) : Int) := by rw [w64 _ (by omega)]; omega
theorem lt_t {i n : Nat} (h : i < n) : decide ((i : Int) < (n : Int)) = true := by simpa using h
theorem lt_f {n : Nat} : decide ((n : Int) < (n : Int)) = false := by simp
/-- A loop that looks for something. -/
theorem scan {α β γ : Type} (L : Nat → Int → Option (β ⊕ γ)) (l : List α) (d : α) (p : α → Bool) (Q : Nat → β → Prop) (R : γ → Prop)
    (hend : ∀ n, ∃ c, L (n + 1) (l.length : Int) = some (.inr c) ∧ R c)
    (hstep : ∀ n i, i < l.length → (p (nth l d i) = true → ∃ b, L (n + 1) (i : Int) = some (.inl b) ∧ Q i b) ∧ (p (nth l d i) = false → L (n + 1) (i : Int) = L n ((i + 1 : Nat) : Int))) :
    ∀ m i n, i + m = l.length → m < n → ((l.drop i).any p = true ∧ (∃ j b, i ≤ j ∧ j < l.length ∧ p (nth l d j) = true ∧ (∀ t, i ≤ t → t < j → p (nth l d t) = false) ∧ L n (i : Int) = some (.inl b) ∧ Q j b)) ∨ ((l.drop i).any p = false ∧ ∃ c, L n (i : Int) = some (.inr c) ∧ R c)
  | 0, i, n + 1, hi, _ => by
    have : i = l.length := by omega
    subst this
    right
    exact ⟨by simp, hend n⟩
  | m + 1, i, n + 1, hi, hn => by
    have hl : i < l.length := by omega
    have hd : l.drop i = nth l d i :: l.drop (i + 1) := by
      rw [List.drop_eq_getElem_cons hl, nth_eq l d i hl]
    obtain ⟨h1, h2⟩ := hstep n i hl
    cases hp : p (nth l d i) with
    | true =>
      obtain ⟨b, hb, hq⟩ := h1 hp
      left
      exact ⟨by rw [hd]; simp [hp], i, b, Nat.le_refl _, hl, hp, fun t h3 h4 => by omega, hb, hq⟩
    | false =>
      have ih := scan L l d p Q R hend hstep m (i + 1) n (by omega) (by omega)
      rw [h2 hp, hd, List.any_cons, hp, Bool.false_or]
      rcases ih with ⟨h3, j, b, h4, h5, h6, h7, h8, h9⟩ | h3
      · left
        refine ⟨h3, j, b, by omega, h5, h6, fun t h10 h11 => ?_, h8, h9⟩
        by_cases e : t = i
        · subst e; exact hp
        · exact h7 t (by omega) h11
      · exact .inr h3
  | m, i, 0, _, hn => by omega
theorem nth_mem {α : Type} {l : List α} {d : α} {i : Nat} (h : i < l.length) : nth l d i ∈ l := by
  rw [← nth_eq l d i h]; exact List.getElem_mem h
/-! The program -/
theorem chk1 (F : Nat) (s : SpT) : check1_S F s = some (!spB s) := by unfold check1_S; rw [isSp]
theorem cfS (F : Nat) (l : List SpT) (hl : l.length ≤ 20) (hF : 100 < F) : cfSpec_S F l = some (l.any (fun s => !spB s)) := by
  have := scan (fun n i => ixSpec_L0 F ((l.length - 0) : Int) l n i) l dS (fun s => !spB s) (fun i b => b.1 = (i : Int)) (fun _ => True) (fun n => ⟨_, by
      show (bif decide (((l.length : Nat) : Int) < ((l.length - 0) : Int)) then _ else _) = _
      rw [Int.sub_zero, lt_f]; rfl, trivial⟩) (fun n i hi => by
      have e : ixSpec_L0 F ((l.length - 0) : Int) l (n + 1) (i : Int) = bif (!spB (nth l dS i)) then some (.inl ((i : Int), l)) else ixSpec_L0 F ((l.length - 0) : Int) l n ((i + 1 : Nat) : Int) := by
        show (bif decide ((i : Int) < ((l.length - 0) : Int)) then bif inB (i : Int) (l.length - 0) then ob (check1_S F (nth l dS (i : Int).toNat)) _ else none else _) = _
        rw [Int.sub_zero, lt_t hi, Nat.sub_zero, inB_nat hi, Int.toNat_natCast, chk1]
        simp only [cond_true, ob_some]
        rw [i64s (by omega)]
      exact ⟨fun h => ⟨_, by rw [e, h]; rfl, rfl⟩, fun h => by rw [e, h]; rfl⟩) l.length 0 F (by omega) (by omega)
  unfold cfSpec_S ixSpec_S
  rw [List.drop_zero] at this
  rcases this with ⟨h1, j, b, _, _, _, _, h2, h3⟩ | ⟨h1, c, h2, _⟩
  · rw [h1, show ixSpec_L0 F ((l.length - 0) : Int) l F 0 = _ from h2]
    have h4 : decide (b.1 ≥ (0 : Int)) = true := by rw [h3]; simp
    show some (decide (b.1 ≥ (0 : Int))) = _
    rw [h4]
  · rw [h1, show ixSpec_L0 F ((l.length - 0) : Int) l F 0 = _ from h2]
    rfl
theorem chk2 (F : Nat) (w : WfT) (hu : 0 ≤ w.2.1 ∧ w.2.1 ≤ 255) (hs : shortW w) : check2_S F w = some (!wfB w) := by unfold check2_S; rw [isWf F w hu hs]
theorem cfW (F : Nat) (l : List WfT) (hl : l.length ≤ 60) (hF : 100 < F) (hw : ∀ w ∈ l, (0 ≤ w.2.1 ∧ w.2.1 ≤ 255) ∧ shortW w) : cfWafer_S F l = some (l.any (fun s => !wfB s)) := by
  have := scan (fun n i => ixWafer_L0 F ((l.length - 0) : Int) l n i) l dW (fun s => !wfB s) (fun i b => b.1 = (i : Int)) (fun _ => True) (fun n => ⟨_, by
      show (bif decide (((l.length : Nat) : Int) < ((l.length - 0) : Int)) then _ else _) = _
      rw [Int.sub_zero, lt_f]; rfl, trivial⟩) (fun n i hi => by
      have hm := hw _ (nth_mem (d := dW) hi)
      have e : ixWafer_L0 F ((l.length - 0) : Int) l (n + 1) (i : Int) = bif (!wfB (nth l dW i)) then some (.inl ((i : Int), l)) else ixWafer_L0 F ((l.length - 0) : Int) l n ((i + 1 : Nat) : Int) := by
        show (bif decide ((i : Int) < ((l.length - 0) : Int)) then bif inB (i : Int) (l.length - 0) then ob (check2_S F (nth l dW (i : Int).toNat)) _ else none else _) = _
        rw [Int.sub_zero, lt_t hi, Nat.sub_zero, inB_nat hi, Int.toNat_natCast, chk2 F _ hm.1 hm.2]
        simp only [cond_true, ob_some]
        rw [i64s (by omega)]
      exact ⟨fun h => ⟨_, by rw [e, h]; rfl, rfl⟩, fun h => by rw [e, h]; rfl⟩) l.length 0 F (by omega) (by omega)
  unfold cfWafer_S ixWafer_S
  rw [List.drop_zero] at this
  rcases this with ⟨h1, j, b, _, _, _, _, h2, h3⟩ | ⟨h1, c, h2, _⟩
  · rw [h1, show ixWafer_L0 F ((l.length - 0) : Int) l F 0 = _ from h2]
    have h4 : decide (b.1 ≥ (0 : Int)) = true := by rw [h3]; simp
    show some (decide (b.1 ≥ (0 : Int))) = _
    rw [h4]
  · rw [h1, show ixWafer_L0 F ((l.length - 0) : Int) l F 0 = _ from h2]
    rfl
def inI (n a b : Int) : Bool := decide (n ≥ a) && decide (n ≤ b)
def odB (k : Nat) (o : OdT) : Bool := inI o.1 0 ((k : Int) - 1) && (inI o.2.1 0 60 && (inI o.2.2.1 0 1000000 && inI o.2.2.2 0 100000))
theorem isOd (F : Nat) (o : OdT) (k : Nat) (hk : k ≤ 1000) : isOrder_S F o ((k - 0) : Int) = some (odB k o) := by
  unfold isOrder_S odB
  rw [Int.sub_zero, w64 _ (by omega)]
  simp only [with_S, ob_some]
  change (bif inI o.1 0 ((k : Int) - 1) then (bif inI o.2.1 0 60 then (bif inI o.2.2.1 0 1000000 then some (inI o.2.2.2 0 100000) else some false) else some false) else some false) = _
  cases inI o.1 0 ((k : Int) - 1) <;> cases inI o.2.1 0 60 <;> cases inI o.2.2.1 0 1000000 <;> rfl
theorem cfO (F : Nat) (l : List OdT) (sp : List SpT) (wf : List WfT) (hl : l.length ≤ 12) (hs : sp.length ≤ 20) (hF : 100 < F) : cfOrder_S F l sp wf = some (l.any (fun s => !odB sp.length s)) := by
  have := scan (fun n i => ixOrder_L0 F ((l.length - 0) : Int) l sp wf n i) l dO (fun s => !odB sp.length s) (fun i b => b.1 = (i : Int)) (fun _ => True) (fun n => ⟨_, by
      show (bif decide (((l.length : Nat) : Int) < ((l.length - 0) : Int)) then _ else _) = _
      rw [Int.sub_zero, lt_f]; rfl, trivial⟩) (fun n i hi => by
      have e : ixOrder_L0 F ((l.length - 0) : Int) l sp wf (n + 1) (i : Int) = bif (!odB sp.length (nth l dO i)) then some (.inl ((i : Int), (l, sp, wf))) else ixOrder_L0 F ((l.length - 0) : Int) l sp wf n ((i + 1 : Nat) : Int) := by
        show (bif decide ((i : Int) < ((l.length - 0) : Int)) then bif inB (i : Int) (l.length - 0) then ob (isOrder_S F (nth l dO (i : Int).toNat) ((sp.length - 0) : Int)) _ else none else _) = _
        rw [Int.sub_zero, lt_t hi, Nat.sub_zero, inB_nat hi, Int.toNat_natCast, isOd F _ _ (by omega)]
        simp only [cond_true, ob_some]
        rw [i64s (by omega)]
      exact ⟨fun h => ⟨_, by rw [e, h]; rfl, rfl⟩, fun h => by rw [e, h]; rfl⟩) l.length 0 F (by omega) (by omega)
  unfold cfOrder_S ixOrder_S
  rw [List.drop_zero] at this
  rcases this with ⟨h1, j, b, _, _, _, _, h2, h3⟩ | ⟨h1, c, h2, _⟩
  · rw [h1, show ixOrder_L0 F ((l.length - 0) : Int) l sp wf F 0 = _ from h2]
    have h4 : decide (b.1 ≥ (0 : Int)) = true := by rw [h3]; simp
    show some (decide (b.1 ≥ (0 : Int))) = _
    rw [h4]
  · rw [h1, show ixOrder_L0 F ((l.length - 0) : Int) l sp wf F 0 = _ from h2]
    rfl
/-- The error of a market. -/
def chkE (sp : List SpT) (wf : List WfT) (od : List OdT) : Int :=
  bif decide (20 < sp.length) || (decide (60 < wf.length) || decide (12 < od.length)) then 5 else
  bif sp.any (fun s => !spB s) || (wf.any (fun s => !wfB s) || od.any (fun s => !odB sp.length s)) then 2 else 0
def wfsOk (wf : List WfT) : Prop := ∀ w ∈ wf, (0 ≤ w.2.1 ∧ w.2.1 ≤ 255) ∧ shortW w
theorem gt_n (n k : Nat) : decide (((n - 0) : Int) > (k : Int)) = decide (k < n) := by
  rw [Int.sub_zero]; congr 1; apply propext; omega
theorem check_eq (F : Nat) (hF : 100 < F) (sp : List SpT) (wf : List WfT) (od : List OdT) (hw : wfsOk wf) : check_S F sp wf od = some (chkE sp wf od) := by
  unfold check_S chkE
  rw [show (20 : Int) = ((20 : Nat) : Int) from rfl, show (60 : Int) = ((60 : Nat) : Int) from rfl, show (12 : Int) = ((12 : Nat) : Int) from rfl, gt_n, gt_n, gt_n]
  cases h1 : decide (20 < sp.length) with
  | true => rfl
  | false =>
    cases h2 : decide (60 < wf.length) with
    | true => rfl
    | false =>
      cases h3 : decide (12 < od.length) with
      | true => rfl
      | false =>
        simp only [decide_eq_false_iff_not, Nat.not_lt] at h1 h2 h3
        have a := cfS F sp h1 hF
        have b := cfW F wf h2 hF hw
        have c := cfO F od sp wf h3 h1 hF
        show ob (ob (cfSpec_S F sp) _) _ = _
        rw [a]
        cases hA : sp.any (fun s => !spB s) with
        | true => rfl
        | false =>
          show ob (ob (cfWafer_S F wf) _) _ = _
          rw [b]
          cases hB : wf.any (fun s => !wfB s) with
          | true => rfl
          | false =>
            show ob (ob (cfOrder_S F od sp wf) _) _ = _
            rw [c]
            cases hC : od.any (fun s => !odB sp.length s) <;> rfl
/-! The document -/
end Go.Proofs.YtbepdcodkecboaaDoor


namespace Go.Proofs.YtbepdcodkecboaaDoor
open Go.RowKit
set_option maxRecDepth 100000
structure MOk (sp : List SpT) (wf : List WfT) (od : List OdT) : Prop where
  s : sp.length ≤ 20
  w : wf.length ≤ 60
  o : od.length ≤ 12
  sv : ∀ x ∈ sp, spB x = true
  wv : ∀ x ∈ wf, wfB x = true
  spec : ∀ i, i < od.length → 0 ≤ (nth od dO i).1 ∧ (nth od dO i).1.toNat < sp.length
  cnt : ∀ i, i < od.length → 0 ≤ (nth od dO i).2.1 ∧ (nth od dO i).2.1 ≤ 60
  price : ∀ i, i < od.length → 0 ≤ (nth od dO i).2.2.1 ∧ (nth od dO i).2.2.1 ≤ 1000000
theorem inI_ok {n a b : Int} (h : inI n a b = true) : a ≤ n ∧ n ≤ b := by
  unfold inI at h; simp only [Bool.and_eq_true, decide_eq_true_eq] at h; omega
theorem chk_ok {sp : List SpT} {wf : List WfT} {od : List OdT} (h : chkE sp wf od = 0) : MOk sp wf od := by
  unfold chkE at h
  cases h1 : (decide (20 < sp.length) || (decide (60 < wf.length) || decide (12 < od.length))) with
  | true => rw [h1] at h; cases h
  | false =>
    rw [h1] at h
    cases h2 : (sp.any (fun s => !spB s) || (wf.any (fun s => !wfB s) || od.any (fun s => !odB sp.length s))) with
    | true => rw [h2] at h; cases h
    | false =>
      simp only [Bool.or_eq_false_iff, decide_eq_false_iff_not, Nat.not_lt] at h1 h2
      obtain ⟨a1, a2, a3⟩ := h1
      obtain ⟨b1, b2, b3⟩ := h2
      have b1' : ∀ x ∈ sp, spB x = true := fun x hx => by simpa using List.any_eq_false.1 b1 x hx
      have b2' : ∀ x ∈ wf, wfB x = true := fun x hx => by simpa using List.any_eq_false.1 b2 x hx
      have b3' : ∀ x ∈ od, odB sp.length x = true := fun x hx => by simpa using List.any_eq_false.1 b3 x hx
      have b4 : ∀ i, i < od.length → inI (nth od dO i).1 0 ((sp.length : Int) - 1) = true ∧ inI (nth od dO i).2.1 0 60 = true ∧ inI (nth od dO i).2.2.1 0 1000000 = true := fun i hi => by
        have := b3' _ (nth_mem (d := dO) hi)
        unfold odB at this
        simp only [Bool.and_eq_true] at this
        exact ⟨this.1, this.2.1, this.2.2.1⟩
      exact ⟨a1, a2, a3, b1', b2', fun i hi => by have := inI_ok (b4 i hi).1; omega, fun i hi => inI_ok (b4 i hi).2.1, fun i hi => inI_ok (b4 i hi).2.2⟩
theorem flt_neg (s : SpT) (w : WfT) : decide (fltI s w < 0) = (fltI s w == (-1 : Int)) ∧ decide (fltI s w ≥ 0) = !(fltI s w == (-1 : Int)) := by
  have h : fltI s w = -1 ∨ 0 ≤ fltI s w := by
    unfold fltI
    repeat' (first | (split) | (rw [Bool.cond_eq_ite]))
    all_goals omega
  rcases h with h | h
  · rw [h]; exact ⟨rfl, rfl⟩
  · constructor
    · rw [show decide (fltI s w < 0) = false by simp; omega]; symm; simp; omega
    · rw [show decide (fltI s w ≥ 0) = true by simpa using h]; symm; simp; omega
def passB (sp : List SpT) (od : List OdT) (w : WfT) (o : Nat) : Bool := fltI (nth sp dS (nth od dO o).1.toNat) w == (-1 : Int)
def rowF (sp : List SpT) (od : List OdT) (w : WfT) : List Bool := (List.range od.length).map (passB sp od w)
theorem range_snoc {α : Type} (f : Nat → α) (i : Nat) : (List.range i).map f ++ [f i] = (List.range (i + 1)).map f := by rw [List.range_succ, List.map_append]; rfl
theorem lenOk_of {a b : Nat} (h : a + b ≤ 1000000) : lenOk a b = true := by unfold lenOk; simpa using h
section
variable {sp : List SpT} {wf : List WfT} {od : List OdT}
theorem nf1 (h : MOk sp wf od) (F : Nat) (a b : Int) (ar0 : A0) (ar1 : A1) (w : WfT) (g : List Nat) : ∀ m i n, i + m = od.length → m < n → newFloor_L1 F a b ((od.length - 0) : Int) sp wf od ar0 ar1 w g n (i : Int) ((List.range i).map (passB sp od w)) = some ((a, b), (sp, wf, od, ar0, ar1, rowF sp od w, g))
  | 0, i, n + 1, hi, _ => by
    have : i = od.length := by omega
    subst this
    show (bif decide ((od.length : Int) < ((od.length - 0) : Int)) then _ else _) = _
    rw [Int.sub_zero, lt_f]; rfl
  | m + 1, i, n + 1, hi, hn => by
    have hl : i < od.length := by omega
    have hsp := h.spec i hl
    show (bif decide ((i : Int) < ((od.length - 0) : Int)) then bif inB (i : Int) (od.length - 0) then bif inB (nth od dO (i : Int).toNat).1 (sp.length - 0) then ob (fault_S F (nth sp dS (nth od dO (i : Int).toNat).1.toNat) w) (fun r => bif lenOk (((List.range i).map (passB sp od w)).length - 0) ((decide (r < (0 : Int))) :: []).length then newFloor_L1 F a b ((od.length - 0) : Int) sp wf od ar0 ar1 w g n (IntKind.wrap IntKind.i64 ((i : Int) + 1)) (((List.range i).map (passB sp od w)) ++ ((decide (r < (0 : Int))) :: [])) else none) else none else none else _) = _
    have ho := h.o
    rw [Int.toNat_natCast, fault_eq, show decide ((i : Int) < ((od.length - 0) : Int)) = true by rw [Int.sub_zero]; exact lt_t hl, show inB (i : Int) (od.length - 0) = true from inB_nat hl, show inB (nth od dO i).1 (sp.length - 0) = true by
      rw [Nat.sub_zero, show (nth od dO i).1 = (((nth od dO i).1.toNat : Nat) : Int) by omega]; exact inB_nat hsp.2, ob_some, (flt_neg _ _).1, i64s (by omega), lenOk_of (by rw [List.length_map, List.length_range]; simp only [List.length_cons, List.length_nil]; omega)]
    simp only [cond_true]
    have := nf1 h F a b ar0 ar1 w g m (i + 1) n (by omega) (by omega)
    rw [← range_snoc] at this
    exact this
  | m, i, 0, _, hn => by omega
theorem nf0 (h : MOk sp wf od) (F : Nat) (hF : 100 < F) (ar0 : A0) (ar1 : A1) : ∀ m i n, i + m = wf.length → m < n → newFloor_L0 F n ((wf.length - 0) : Int) (i : Int) sp wf od (ar0 ++ (List.range i).map (fun j => some (rowF sp od (nth wf dW j)))) ar1 ((List.range i).map (fun j => ar0.length + 1 + j)) = some (sp, wf, od, ar0 ++ (List.range wf.length).map (fun j => some (rowF sp od (nth wf dW j))), ar1, (List.range wf.length).map (fun j => ar0.length + 1 + j))
  | 0, i, n + 1, hi, _ => by
    have : i = wf.length := by omega
    subst this
    show (bif decide ((wf.length : Int) < ((wf.length - 0) : Int)) then _ else _) = _
    rw [Int.sub_zero, lt_f]; rfl
  | m + 1, i, n + 1, hi, hn => by
    have hl : i < wf.length := by omega
    have hw := h.w
    have ho := h.o
    generalize hA : ar0 ++ (List.range i).map (fun j => some (rowF sp od (nth wf dW j))) = B
    generalize hP : (List.range i).map (fun j => ar0.length + 1 + j) = ps
    have hB : B.length = ar0.length + i := by rw [← hA]; simp
    have hpl : ps.length = i := by rw [← hP]; simp
    show (bif decide ((i : Int) < ((wf.length - 0) : Int)) then bif inB (i : Int) (wf.length - 0) then ob (newFloor_L1 F ((wf.length - 0) : Int) (i : Int) ((od.length - 0) : Int) sp wf od B ar1 (nth wf dW (i : Int).toNat) ps F (0 : Int) []) _ else none else _) = _
    have e1 := nf1 h F ((wf.length - 0) : Int) (i : Int) B ar1 (nth wf dW i) ps od.length 0 F (by omega) (by omega)
    rw [Int.toNat_natCast, show newFloor_L1 F ((wf.length - 0) : Int) (i : Int) ((od.length - 0) : Int) sp wf od B ar1 (nth wf dW i) ps F (0 : Int) [] = _ from e1, show decide ((i : Int) < ((wf.length - 0) : Int)) = true by rw [Int.sub_zero]; exact lt_t hl, show inB (i : Int) (wf.length - 0) = true from inB_nat hl]
    show (bif lenOk (ps.length - 0) 1 then newFloor_L0 F n ((wf.length - 0) : Int) (IntKind.wrap IntKind.i64 ((i : Int) + 1)) sp wf od (B ++ (some (rowF sp od (nth wf dW i)) :: [])) ar1 (ps ++ ((B.length + 1) :: [])) else none) = _
    rw [lenOk_of (by omega), i64s (by omega), cond_true]
    have := nf0 h F hF ar0 ar1 m (i + 1) n (by omega) (by omega)
    rw [← range_snoc, ← range_snoc, ← List.append_assoc, hA, hP] at this
    rw [show B.length + 1 = ar0.length + 1 + i by omega]
    exact this
  | m, i, 0, _, hn => by omega
/-- What a market that was prepared says. -/
structure Fl (sp : List SpT) (wf : List WfT) (od : List OdT) (ps : List Nat) (ar0 : A0) : Prop where
  len : ps.length = wf.length
  row : ∀ w, w < wf.length → rowAt ar0 (nth ps 0 w) = rowF sp od (nth wf dW w)
theorem nth_map_range {α : Type} (f : Nat → α) (d : α) {k i : Nat} (h : i < k) : nth ((List.range k).map f) d i = f i := by
  unfold nth; simp [List.getD, h]
theorem floor_eq (h : MOk sp wf od) (F : Nat) (hF : 100 < F) (ar0 : A0) (ar1 : A1) : ∃ B ps, newFloor_S F sp wf od ar0 ar1 = some (B, ar1, ps) ∧ Fl sp wf od ps B := by
  have hw := h.w
  refine ⟨ar0 ++ (List.range wf.length).map (fun j => some (rowF sp od (nth wf dW j))), (List.range wf.length).map (fun j => ar0.length + 1 + j), ?_, ?_⟩
  · unfold newFloor_S
    have := nf0 h F hF ar0 ar1 wf.length 0 F (by omega) (by omega)
    rw [show newFloor_L0 F F ((wf.length - 0) : Int) (0 : Int) sp wf od ar0 ar1 [] = _ from by simpa using this]
  · refine ⟨by simp, fun w hl => ?_⟩
    rw [nth_map_range _ _ hl, show ar0.length + 1 + w = (ar0.length + w) + 1 by omega]
    simp only [rowAt]
    rw [List.getElem?_append_right (by omega), show ar0.length + w - ar0.length = w by omega]
    simp [hl]
def wO (od : List OdT) (o : Nat) : Int := 1000000000 + (nth od dO o).2.2.1
def cO (od : List OdT) (o : Nat) : Int := (nth od dO o).2.1
theorem worth_eq (h : MOk sp wf od) (F : Nat) {o : Nat} (ho : o < od.length) (ps : List Nat) (ar0 : A0) (ar1 : A1) : worth_S F (o : Int) sp wf od ps ar0 ar1 = some (wO od o, ar0, ar1) := by
  unfold worth_S wO
  have := h.price o ho
  rw [Int.toNat_natCast, show inB (o : Int) (od.length - 0) = true from inB_nat ho]
  show some (IntKind.wrap IntKind.i64 (1000000000 + (nth od dO o).2.2.1), ar0, ar1) = _
  rw [w64 _ (by omega)]
theorem counts0 (h : MOk sp wf od) (F : Nat) (ps : List Nat) (ar0 : A0) (ar1 : A1) : ∀ m i n, i + m = od.length → m < n → counts_L0 F ((od.length - 0) : Int) sp wf od ps ar0 ar1 n (i : Int) ((List.range i).map (cO od)) = some (sp, wf, od, ps, ar0, ar1, (List.range od.length).map (cO od))
  | 0, i, n + 1, hi, _ => by
    have : i = od.length := by omega
    subst this
    show (bif decide ((od.length : Int) < ((od.length - 0) : Int)) then _ else _) = _
    rw [Int.sub_zero, lt_f]; rfl
  | m + 1, i, n + 1, hi, hn => by
    have hl : i < od.length := by omega
    have ho := h.o
    show (bif decide ((i : Int) < ((od.length - 0) : Int)) then bif inB (i : Int) (od.length - 0) then bif lenOk (((List.range i).map (cO od)).length - 0) ((nth od dO (i : Int).toNat).2.1 :: []).length then counts_L0 F ((od.length - 0) : Int) sp wf od ps ar0 ar1 n (IntKind.wrap IntKind.i64 ((i : Int) + 1)) (((List.range i).map (cO od)) ++ ((nth od dO (i : Int).toNat).2.1 :: [])) else none else none else _) = _
    rw [Int.toNat_natCast, show decide ((i : Int) < ((od.length - 0) : Int)) = true by rw [Int.sub_zero]; exact lt_t hl, show inB (i : Int) (od.length - 0) = true from inB_nat hl, i64s (by omega), lenOk_of (by rw [List.length_map, List.length_range]; simp only [List.length_cons, List.length_nil]; omega)]
    simp only [cond_true]
    have := counts0 h F ps ar0 ar1 m (i + 1) n (by omega) (by omega)
    rw [← range_snoc] at this
    exact this
  | m, i, 0, _, hn => by omega
theorem counts_eq (h : MOk sp wf od) (F : Nat) (hF : 100 < F) (ps : List Nat) (ar0 : A0) (ar1 : A1) : counts_S F sp wf od ps ar0 ar1 = some (ar0, ar1, (List.range od.length).map (cO od)) := by
  have ho := h.o
  unfold counts_S
  have := counts0 h F ps ar0 ar1 od.length 0 F (by omega) (by omega)
  rw [show counts_L0 F ((od.length - 0) : Int) sp wf od ps ar0 ar1 F (0 : Int) [] = _ from this]
theorem row_len (w : WfT) : (rowF sp od w).length = od.length := by simp [rowF]
theorem row_at (w : WfT) {o : Nat} (ho : o < od.length) : nth (rowF sp od w) false o = passB sp od w o := nth_map_range _ _ ho
end
end Go.Proofs.YtbepdcodkecboaaDoor


namespace Go.Proofs.YtbepdcodkecboaaDoor
open Go.RowKit
set_option maxRecDepth 100000
def updF {α : Type} (f : Nat → α) (o : Nat) (v : α) (p : Nat) : α := if p = o then v else f p
/-- What a list is worth, if it is an assignment. -/
def rkF (nW k : Nat) (pm : Nat → Nat → Bool) (W : Nat → Int) : Nat → List Int → (Nat → Int) → Int → Option Int
  | _, [], _, n => some n
  | i, t :: ts, left, n => if t = -1 then rkF nW k pm W (i + 1) ts left n else if i < nW ∧ (0 ≤ t ∧ t.toNat < k) ∧ pm i t.toNat = true ∧ 0 < left t.toNat then rkF nW k pm W (i + 1) ts (updF left t.toNat (left t.toNat - 1)) (n + W t.toNat) else none
theorem nth_set {α : Type} (l : List α) (d : α) {o : Nat} (v : α) (ho : o < l.length) : nth (l.set o v) d = updF (nth l d) o v := by
  funext p
  unfold nth updF
  by_cases h : p = o
  · subst h; simp [List.getD, ho]
  · simp [List.getD, h, Ne.symm h, eq_comm]
theorem rkF_congr {nW k : Nat} {pm : Nat → Nat → Bool} {W : Nat → Int} : ∀ (ts : List Int) (i : Nat) (l l' : Nat → Int) (n : Int), (∀ o, o < k → l o = l' o) → rkF nW k pm W i ts l n = rkF nW k pm W i ts l' n
  | [], _, _, _, _, _ => rfl
  | t :: ts, i, l, l', n, h => by
    simp only [rkF]
    split
    · exact rkF_congr ts _ _ _ _ h
    · by_cases hk : 0 ≤ t ∧ t.toNat < k
      · rw [h _ hk.2]
        split
        · exact rkF_congr ts _ _ _ _ (fun o ho => by unfold updF; split <;> simp [h o ho])
        · rfl
      · rw [if_neg (fun e => hk e.2.1), if_neg (fun e => hk e.2.1)]
section
variable {sp : List SpT} {wf : List WfT} {od : List OdT}
def pmM (sp : List SpT) (wf : List WfT) (od : List OdT) (w o : Nat) : Bool := passB sp od (nth wf dW w) o
theorem wO_le (h : MOk sp wf od) {o : Nat} (ho : o < od.length) : 1000000000 ≤ wO od o ∧ wO od o ≤ 1001000000 := by
  have := h.price o ho; unfold wO; omega
theorem nth_cO {o : Nat} (ho : o < od.length) : nth ((List.range od.length).map (cO od)) 0 o = cO od o := nth_map_range _ _ ho
end
end Go.Proofs.YtbepdcodkecboaaDoor


namespace Go.Proofs.YtbepdcodkecboaaDoor
open Go.RowKit
set_option maxRecDepth 100000
end Go.Proofs.YtbepdcodkecboaaDoor
