/- Plain laws of chapter 10: lists and assignments. No condition. -/
import Derived.Test.YtbnapejkjaddoaaDoorWMI7

namespace Go.Proofs.YtbnapejkjaddoaaDoor
open Go.RowKit
set_option maxRecDepth 100000
section
variable {nW k : Nat} {pm : Nat → Nat → Bool} {W : Nat → Int}
theorem rkF_shift : ∀ (ts : List Int) (i : Nat) (l : Nat → Int) (n c : Int), rkF nW k pm W i ts l (n + c) = (rkF nW k pm W i ts l n).map (· + c)
  | [], _, _, _, _ => rfl
  | t :: ts, i, l, n, c => by
    simp only [rkF]
    split
    · exact rkF_shift ts _ _ _ _
    · split
      · rw [show n + c + W t.toNat = (n + W t.toNat) + c by omega]; exact rkF_shift ts _ _ _ _
      · rfl
theorem rkF_zero (ts : List Int) (i : Nat) (l : Nat → Int) (n v : Int) : rkF nW k pm W i ts l n = some v ↔ rkF nW k pm W i ts l 0 = some (v - n) := by
  have := rkF_shift (nW := nW) (k := k) (pm := pm) (W := W) ts i l 0 n
  rw [Int.zero_add] at this
  rw [this]
  cases rkF nW k pm W i ts l 0 with
  | none => simp
  | some x => simp only [Option.map_some, Option.some.injEq]; omega
def oI : Option Nat → Int
  | none => -1
  | some o => (o : Int)
theorem range'_cons' (i m : Nat) : List.range' i (m + 1) = i :: List.range' (i + 1) m := List.range'_succ
/-- An assignment, as a list. -/
theorem feas_rk : ∀ (m i : Nat) (l : Nat → Int) (a : Nat → Option Nat), i + m ≤ nW → Mt.Feas k pm l (List.range' i m) a → rkF nW k pm W i ((List.range' i m).map (fun w => oI (a w))) l 0 = some (Mt.val W a (List.range' i m))
  | 0, _, _, _, _, _ => rfl
  | m + 1, i, l, a, hi, h => by
    have hni : i ∉ List.range' (i + 1) m := fun hx => by rw [List.mem_range'] at hx; obtain ⟨t, _, e⟩ := hx; omega
    rw [range'_cons'] at h ⊢
    rw [List.map_cons]
    simp only [rkF]
    cases ha : a i with
    | none =>
      have h' : Mt.Feas k pm l (List.range' (i + 1) m) a := ⟨fun w hw => h.ok w (List.mem_cons_of_mem _ hw), fun o ho => by
        have := h.le o ho
        rw [Mt.cnt_cons, ha, if_neg (by simp)] at this; omega⟩
      rw [show oI none = -1 from rfl, if_pos rfl, feas_rk m (i + 1) l a (by omega) h']
      simp only [Mt.val, ha, Mt.gv]
      congr 1; omega
    | some o =>
      obtain ⟨h1, h2⟩ := h.ok i List.mem_cons_self o ha
      have h3 := h.le o h1
      rw [Mt.cnt_cons, ha, if_pos rfl] at h3
      have h4 := Mt.cnt_nn a (List.range' (i + 1) m) o
      have h' : Mt.Feas k pm (updF l o (l o - 1)) (List.range' (i + 1) m) a := ⟨fun w hw => h.ok w (List.mem_cons_of_mem _ hw), fun p hp => by
        have := h.le p hp
        rw [Mt.cnt_cons, ha] at this
        unfold updF
        by_cases e : p = o
        · subst e; rw [if_pos rfl] at this ⊢; omega
        · rw [if_neg e]; rw [if_neg (by simpa using fun e' => e e'.symm)] at this; omega⟩
      rw [show oI (some o) = (o : Int) from rfl, if_neg (by omega), Int.toNat_natCast, if_pos ⟨by omega, ⟨by omega, h1⟩, h2, by omega⟩]
      rw [rkF_zero, feas_rk m (i + 1) _ a (by omega) h' |> (fun e => show rkF nW k pm W (i + 1) _ _ 0 = some _ from e)]
      simp only [Mt.val, ha, Mt.gv]
      congr 1; omega
/-- A list, as an assignment. -/
theorem rk_feas : ∀ (ts : List Int) (i : Nat) (l : Nat → Int) (v : Int), (∀ o, o < k → 0 ≤ l o) → rkF nW k pm W i ts l 0 = some v → ∃ a, Mt.Feas k pm l (List.range' i ts.length) a ∧ Mt.val W a (List.range' i ts.length) = v
  | [], i, l, v, hl, h => by
    cases h
    exact ⟨fun _ => none, ⟨(fun w hw => by cases hw), (fun o ho => by unfold Mt.cnt; simpa using hl o ho)⟩, rfl⟩
  | t :: ts, i, l, v, hl, h => by
    have hni : i ∉ List.range' (i + 1) ts.length := fun hx => by rw [List.mem_range'] at hx; obtain ⟨t, _, e⟩ := hx; omega
    have ext : ∀ (a : Nat → Option Nat) (x : Option Nat), ∀ w, w ∈ List.range' (i + 1) ts.length → (fun w => if w = i then x else a w) w = a w := fun a x w hw => if_neg (by intro e; subst e; exact hni hw)
    rw [List.length_cons, range'_cons']
    simp only [rkF] at h
    split at h
    · obtain ⟨a, h1, h2⟩ := rk_feas ts (i + 1) l v hl h
      refine ⟨fun w => if w = i then none else a w, ⟨fun w hw o ho => ?_, fun o ho => ?_⟩, ?_⟩
      · rcases List.mem_cons.1 hw with rfl | hw
        · simp at ho
        · rw [show (if w = i then none else a w) = a w from ext a none w hw] at ho; exact h1.ok w hw o ho
      · rw [Mt.cnt_cons, if_neg (by simp), Mt.cnt_congr (ext a none)]
        have := h1.le o ho; omega
      · simp only [Mt.val, if_true, Mt.gv]
        rw [Mt.val_congr (ext a none), h2]; omega
    · split at h
      · rename_i hc
        obtain ⟨hc1, ⟨hc2, hc3⟩, hc4, hc5⟩ := hc
        rw [rkF_zero] at h
        obtain ⟨a, h1, h2⟩ := rk_feas ts (i + 1) _ _ (fun o ho => by unfold updF; have := hl o ho; split <;> omega) h
        refine ⟨fun w => if w = i then some t.toNat else a w, ⟨fun w hw o ho => ?_, fun o ho => ?_⟩, ?_⟩
        · rcases List.mem_cons.1 hw with rfl | hw
          · simp only [if_true, Option.some.injEq] at ho
            subst ho; exact ⟨hc3, hc4⟩
          · rw [show (if w = i then some t.toNat else a w) = a w from ext a _ w hw] at ho; exact h1.ok w hw o ho
        · rw [Mt.cnt_cons, Mt.cnt_congr (ext a _)]
          have := h1.le o ho
          unfold updF at this
          by_cases e : o = t.toNat
          · rw [if_pos e] at this; rw [if_pos (by simp [e]), e]
            rw [e] at this; omega
          · rw [if_neg e] at this; rw [if_neg (by simpa using fun e' => e e'.symm)]; omega
        · simp only [Mt.val, if_true, Mt.gv]
          rw [Mt.val_congr (ext a _), h2]; omega
      · cases h
end
section
variable {sp : List SpT} {wf : List WfT} {od : List OdT}
theorem BestM.up (h : MOk sp wf od) {cap : Nat → Int} (hc : ∀ o, o < od.length → 0 ≤ cap o) {fr : Nat} {m : Int} (hb : BestM sp wf od cap fr m) {ts : List Int} (ht : ts.length = wf.length - fr) {v : Int} (hv : rkF wf.length od.length (pmM sp wf od) (wO od) fr ts cap 0 = some v) : v ≤ m := by
  obtain ⟨a, h1, h2⟩ := rk_feas ts fr cap v hc hv
  rw [ht] at h1 h2
  rw [← h2]; exact hb.upper h h1
theorem BestM.ex {cap : Nat → Int} {fr : Nat} (hfr : fr ≤ wf.length) {m : Int} (hb : BestM sp wf od cap fr m) : ∃ ts : List Int, ts.length = wf.length - fr ∧ rkF wf.length od.length (pmM sp wf od) (wO od) fr ts cap 0 = some m := by
  obtain ⟨a, h1, h2⟩ := hb.got
  exact ⟨(List.range' fr (wf.length - fr)).map (fun w => oI (a w)), by rw [List.length_map, List.length_range'], by rw [← h2]; exact feas_rk _ _ _ _ (by omega) h1⟩
end
end Go.Proofs.YtbnapejkjaddoaaDoor


namespace Go.Proofs.YtbnapejkjaddoaaDoor
open Go.RowKit
set_option maxRecDepth 100000
/-- Lists in ascending order. -/
def lexLe : List Int → List Int → Prop
  | [], _ => True
  | _ :: _, [] => False
  | a :: l, b :: m => a < b ∨ (a = b ∧ lexLe l m)
section
variable {sp : List SpT} {wf : List WfT} {od : List OdT}
/-- The smallest of the best lists of the wafers from one on. -/
def Least (sp : List SpT) (wf : List WfT) (od : List OdT) (fr : Nat) (left : Nat → Int) (rest : Int) (ts : List Int) : Prop :=
  ts.length = wf.length - fr ∧ rkF wf.length od.length (pmM sp wf od) (wO od) fr ts left 0 = some rest ∧ ∀ ts' : List Int, ts'.length = wf.length - fr → rkF wf.length od.length (pmM sp wf od) (wO od) fr ts' left 0 = some rest → lexLe ts ts'
theorem set_back (l : List Int) {o : Nat} (ho : o < l.length) (v : Int) : List.set (List.set l o v) o (nth l 0 o) = l := by
  have := List.set_getElem_self ho
  rw [nth_eq l 0 o ho] at this
  rw [List.set_set]
  exact this
/-- A list with a first number that is not there. -/
theorem rk_cons {fr : Nat} {left : Nat → Int} {t : Int} {ts : List Int} {v : Int} (h : rkF wf.length od.length (pmM sp wf od) (wO od) fr (t :: ts) left 0 = some v) : (t = -1 ∧ rkF wf.length od.length (pmM sp wf od) (wO od) (fr + 1) ts left 0 = some v) ∨ (∃ o : Nat, t = (o : Int) ∧ o < od.length ∧ pmM sp wf od fr o = true ∧ 0 < left o ∧ rkF wf.length od.length (pmM sp wf od) (wO od) (fr + 1) ts (updF left o (left o - 1)) 0 = some (v - wO od o)) := by
  simp only [rkF] at h
  split at h
  · exact .inl ⟨by assumption, h⟩
  · split at h
    · rename_i hc
      obtain ⟨_, ⟨h2, h3⟩, h4, h5⟩ := hc
      rw [rkF_zero, Int.zero_add] at h
      exact .inr ⟨t.toNat, by omega, h3, h4, h5, h⟩
    · cases h
theorem rk_none {fr : Nat} {left : Nat → Int} {ts : List Int} {v : Int} (h : rkF wf.length od.length (pmM sp wf od) (wO od) (fr + 1) ts left 0 = some v) : rkF wf.length od.length (pmM sp wf od) (wO od) fr (-1 :: ts) left 0 = some v := by
  simp only [rkF, if_pos]; exact h
theorem rk_some {fr : Nat} (hfr : fr < wf.length) {left : Nat → Int} {ts : List Int} {v : Int} {o : Nat} (ho : o < od.length) (hp : pmM sp wf od fr o = true) (hl : 0 < left o) (h : rkF wf.length od.length (pmM sp wf od) (wO od) (fr + 1) ts (updF left o (left o - 1)) 0 = some v) : rkF wf.length od.length (pmM sp wf od) (wO od) fr ((o : Int) :: ts) left 0 = some (v + wO od o) := by
  simp only [rkF]
  rw [if_neg (by omega), Int.toNat_natCast, if_pos ⟨hfr, ⟨by omega, ho⟩, hp, hl⟩, rkF_zero, h]
  congr 1; omega
theorem asg1 (h : MOk sp wf od) (F : Nat) (hF : 2000 < F) {ps : List Nat} {ar0 : A0} (hf : Fl sp wf od ps ar0) (rank : Int) (a b : Int) {w : Nat} (hw : w < wf.length) {lf : List Int} (hlf : lf.length = od.length) (hl : ∀ o, o < od.length → 0 ≤ nth lf 0 o ∧ nth lf 0 o ≤ 1000) {rest : Int} (hr : BestM sp wf od (nth lf 0) w rest) (hr0 : 0 ≤ rest ∧ rest ≤ 100000000000) {pre : List Int} (hpre : pre.length ≤ 1000) : ∀ (m j n : Nat) (ar1 : A1), j + m = od.length + 1 → m < n → (∀ t : Int, t < (j : Int) - 1 → ∀ ts : List Int, ts.length = wf.length - (w + 1) → rkF wf.length od.length (pmM sp wf od) (wO od) w (t :: ts) (nth lf 0) 0 ≠ some rest) →
    ∃ (t : Int) (rest' : Int) (lf' : List Int) (ar2 : A1), assign_L1 F n rank rest (w : Int) ((j : Int) - 1) a b sp wf od ar0 ar1 pre lf ps = some ((rank, rest', a, b), (sp, wf, od, ar0, ar2, pre ++ [t], lf', ps)) ∧ lf'.length = od.length ∧ (∀ o, o < od.length → 0 ≤ nth lf' 0 o ∧ nth lf' 0 o ≤ 1000) ∧ BestM sp wf od (nth lf' 0) (w + 1) rest' ∧ (0 ≤ rest' ∧ rest' ≤ 100000000000) ∧ (∀ t', t' < t → ∀ ts : List Int, ts.length = wf.length - (w + 1) → rkF wf.length od.length (pmM sp wf od) (wO od) w (t' :: ts) (nth lf 0) 0 ≠ some rest) ∧ (∀ ts : List Int, rkF wf.length od.length (pmM sp wf od) (wO od) w (t :: ts) (nth lf 0) 0 = some rest ↔ rkF wf.length od.length (pmM sp wf od) (wO od) (w + 1) ts (nth lf' 0) 0 = some rest')
  | 0, j, n + 1, ar1, hj, _, hno => by
    -- none is left: but there is one
    exfalso
    obtain ⟨ts, h1, h2⟩ := hr.ex (by omega)
    cases ts with
    | nil => simp at h1; omega
    | cons t ts =>
      have h1' : ts.length = wf.length - (w + 1) := by simp at h1; omega
      refine hno t ?_ ts h1' h2
      rcases rk_cons h2 with ⟨rfl, _⟩ | ⟨o, rfl, ho, _⟩ <;> omega
  | m + 1, j, n + 1, ar1, hj, hn, hno => by
    have ho12 := h.o
    have hw60 := h.w
    -- it goes on to the next number
    have next : (∀ ts : List Int, ts.length = wf.length - (w + 1) → rkF wf.length od.length (pmM sp wf od) (wO od) w (((j : Int) - 1) :: ts) (nth lf 0) 0 ≠ some rest) → ∀ ar2 : A1, _ := fun h1 ar2 => asg1 h F hF hf rank a b hw hlf hl hr hr0 hpre m (j + 1) n ar2 (by omega) (by omega) (fun t ht ts hts => by
      by_cases e : t < (j : Int) - 1
      · exact hno t e ts hts
      · have : t = (j : Int) - 1 := by omega
        subst this; exact h1 ts hts)
    have hlt : decide ((j : Int) - 1 < ((od.length - 0) : Int)) = true := by rw [Int.sub_zero]; simp; omega
    have unf : ∀ X, (bif ((j : Int) - 1 == (-1 : Int)) then ob (most_S F (IntKind.wrap IntKind.i64 ((w : Int) + 1)) sp wf od ps lf ar0 ar1) (fun r4 => bif r4.1 == rest then bif lenOk (pre.length - 0) (((j : Int) - 1) :: []).length then some (.inl ((rank, rest, a, b), (sp, wf, od, r4.2.1, r4.2.2, pre ++ (((j : Int) - 1) :: []), lf, ps))) else none else some (.inr ((rank, rest, (w : Int), (j : Int) - 1, a, b), (sp, wf, od, r4.2.1, r4.2.2, pre, lf, ps)))) else bif inB (w : Int) (ps.length - 0) then bif inB ((j : Int) - 1) (rowAt ar0 (nth ps 0 w)).length then bif decide (((j : Int) - 1).toNat < (rowAt ar0 (nth ps 0 w)).length) then bif !(nth (rowAt ar0 (nth ps 0 w)) false ((j : Int) - 1).toNat) then some (.inr ((rank, rest, (w : Int), (j : Int) - 1, a, b), (sp, wf, od, ar0, ar1, pre, lf, ps))) else bif inB ((j : Int) - 1) (lf.length - 0) then bif nth lf 0 ((j : Int) - 1).toNat == 0 then some (.inr ((rank, rest, (w : Int), (j : Int) - 1, a, b), (sp, wf, od, ar0, ar1, pre, lf, ps))) else bif inB ((j : Int) - 1) (lf.length - 0) then bif inB ((j : Int) - 1) (lf.length - 0) then ob (most_S F (IntKind.wrap IntKind.i64 ((w : Int) + 1)) sp wf od ps (List.set lf ((j : Int) - 1).toNat (IntKind.wrap IntKind.i64 (nth lf 0 ((j : Int) - 1).toNat - 1))) ar0 ar1) (fun r5 => ob (worth_S F ((j : Int) - 1) sp wf od ps r5.2.1 r5.2.2) (fun r6 => bif IntKind.wrap IntKind.i64 (r5.1 + r6.1) == rest then bif lenOk (pre.length - 0) (((j : Int) - 1) :: []).length then ob (worth_S F ((j : Int) - 1) sp wf od ps r6.2.1 r6.2.2) (fun r7 => some (.inl ((rank, IntKind.wrap IntKind.i64 (rest - r7.1), a, b), (sp, wf, od, r7.2.1, r7.2.2, pre ++ (((j : Int) - 1) :: []), List.set lf ((j : Int) - 1).toNat (IntKind.wrap IntKind.i64 (nth lf 0 ((j : Int) - 1).toNat - 1)), ps)))) else none else bif inB ((j : Int) - 1) ((List.set lf ((j : Int) - 1).toNat (IntKind.wrap IntKind.i64 (nth lf 0 ((j : Int) - 1).toNat - 1))).length - 0) then bif inB ((j : Int) - 1) ((List.set lf ((j : Int) - 1).toNat (IntKind.wrap IntKind.i64 (nth lf 0 ((j : Int) - 1).toNat - 1))).length - 0) then some (.inr ((rank, rest, (w : Int), (j : Int) - 1, a, b), (sp, wf, od, r6.2.1, r6.2.2, pre, List.set (List.set lf ((j : Int) - 1).toNat (IntKind.wrap IntKind.i64 (nth lf 0 ((j : Int) - 1).toNat - 1))) ((j : Int) - 1).toNat (IntKind.wrap IntKind.i64 (nth (List.set lf ((j : Int) - 1).toNat (IntKind.wrap IntKind.i64 (nth lf 0 ((j : Int) - 1).toNat - 1))) 0 ((j : Int) - 1).toNat + 1)), ps))) else none else none)) else none else none else none else none else none else none : Option (OdT × ((List SpT) × ((List WfT) × ((List OdT) × (A0 × (A1 × ((List Int) × ((List Int) × (List Nat)))))))) ⊕ ((Int × (Int × (Int × (Int × (Int × Int))))) × ((List SpT) × ((List WfT) × ((List OdT) × (A0 × (A1 × ((List Int) × ((List Int) × (List Nat))))))))))) = some X → assign_L1 F (n + 1) rank rest (w : Int) ((j : Int) - 1) a b sp wf od ar0 ar1 pre lf ps = su X (fun s1 => (some ((s1.1.1, s1.1.2.1, s1.1.2.2.1, s1.1.2.2.2), (s1.2.1, s1.2.2.1, s1.2.2.2.1, s1.2.2.2.2.1, s1.2.2.2.2.2.1, s1.2.2.2.2.2.2.1, s1.2.2.2.2.2.2.2.1, s1.2.2.2.2.2.2.2.2)))) (fun s2 => (assign_L1 F n s2.1.1 s2.1.2.1 s2.1.2.2.1 (IntKind.wrap IntKind.i64 (s2.1.2.2.2.1 + 1)) s2.1.2.2.2.2.1 s2.1.2.2.2.2.2 s2.2.1 s2.2.2.1 s2.2.2.2.1 s2.2.2.2.2.1 s2.2.2.2.2.2.1 s2.2.2.2.2.2.2.1 s2.2.2.2.2.2.2.2.1 s2.2.2.2.2.2.2.2.2)) := by
      intro X hX
      show (bif decide ((j : Int) - 1 < ((od.length - 0) : Int)) then ob _ _ else _) = _
      rw [hlt]
      refine (congrArg (fun z => ob z _) hX).trans ?_
      rfl
    have go : ∀ ar2 : A1, (∀ ts : List Int, ts.length = wf.length - (w + 1) → rkF wf.length od.length (pmM sp wf od) (wO od) w (((j : Int) - 1) :: ts) (nth lf 0) 0 ≠ some rest) → assign_L1 F (n + 1) rank rest (w : Int) ((j : Int) - 1) a b sp wf od ar0 ar1 pre lf ps = assign_L1 F n rank rest (w : Int) (((j + 1 : Nat) : Int) - 1) a b sp wf od ar0 ar2 pre lf ps → _ := fun ar2 h1 h2 => by
      have ih := next h1 ar2
      rw [← h2] at ih
      exact ih
    have hj1 : IntKind.wrap IntKind.i64 ((j : Int) - 1 + 1) = ((j + 1 : Nat) : Int) - 1 := by rw [w64 _ (by omega)]; omega
    cases j with
    | zero =>
      obtain ⟨v, ar2, e1, e2, e3, e4⟩ := most_eq h F hF hf hlf hl (fr := w + 1) (by omega) ar1
      have hw1 : IntKind.wrap IntKind.i64 ((w : Int) + 1) = ((w + 1 : Nat) : Int) := i64s (by omega)
      by_cases hv : v = rest
      · refine ⟨-1, rest, lf, ar2, ?_, hlf, hl, by rw [← hv]; exact e2, hr0, fun t' ht' ts hts => hno t' (by simpa using ht') ts hts, fun ts => ⟨fun hh => ?_, rk_none⟩⟩
        · rw [unf (.inl ((rank, rest, a, b), (sp, wf, od, ar0, ar2, pre ++ [-1], lf, ps))) (by
            show ob (most_S F (IntKind.wrap IntKind.i64 ((w : Int) + 1)) sp wf od ps lf ar0 ar1) _ = _
            rw [hw1, e1]
            show (bif v == rest then bif lenOk (pre.length - 0) 1 then _ else none else _) = _
            rw [show (v == rest) = true by simpa using hv, lenOk_of (by omega)]
            rfl)]
        · rcases rk_cons hh with ⟨_, h2⟩ | ⟨o, ho, _⟩
          · exact h2
          · omega
      · refine go ar2 (fun ts hts hh => ?_) ?_
        · rcases rk_cons hh with ⟨_, h2⟩ | ⟨o, ho, _⟩
          · have h3 := e2.up h (fun o ho => (hl o ho).1) hts h2
            obtain ⟨ts', h4, h5⟩ := e2.ex (by omega)
            have h6 := hr.up h (fun o ho => (hl o ho).1) (ts := -1 :: ts') (by simp; omega) (rk_none h5)
            omega
          · simp at ho
        · rw [unf (.inr ((rank, rest, (w : Int), ((0 : Nat) : Int) - 1, a, b), (sp, wf, od, ar0, ar2, pre, lf, ps))) (by
            show ob (most_S F (IntKind.wrap IntKind.i64 ((w : Int) + 1)) sp wf od ps lf ar0 ar1) _ = _
            rw [hw1, e1]
            show (bif v == rest then bif lenOk (pre.length - 0) 1 then _ else none else _) = _
            rw [show (v == rest) = false by simpa using hv]
            rfl)]
          show assign_L1 F n rank rest (w : Int) (IntKind.wrap IntKind.i64 (((0 : Nat) : Int) - 1 + 1)) a b sp wf od ar0 ar2 pre lf ps = _
          rw [hj1]
    | succ o =>
      have ho : o < od.length := by omega
      have hoe : (((o + 1 : Nat) : Int) - 1) = (o : Int) := by omega
      rw [hoe] at go unf hno hj1 ⊢
      have hne : ((o : Int) == (-1 : Int)) = false := by simp
      have hpsw : inB (w : Int) (ps.length - 0) = true := by rw [Nat.sub_zero, hf.len]; exact inB_nat hw
      cases hp : pmM sp wf od w o with
      | false =>
        refine go ar1 (fun ts hts hh => ?_) ?_
        · rcases rk_cons hh with ⟨h2, _⟩ | ⟨o', ho', _, hp', _⟩
          · omega
          · have : o' = o := by omega
            subst this; rw [hp] at hp'; cases hp'
        · rw [unf (.inr ((rank, rest, (w : Int), (o : Int), a, b), (sp, wf, od, ar0, ar1, pre, lf, ps))) (by
            rw [hne, hpsw, Int.toNat_natCast, hf.row w hw, row_len, inB_nat ho, row_at _ ho, show passB sp od (nth wf dW w) o = false from hp, show decide (o < od.length) = true by simpa using ho]
            rfl)]
          show assign_L1 F n rank rest (w : Int) (IntKind.wrap IntKind.i64 ((o : Int) + 1)) a b sp wf od ar0 ar1 pre lf ps = _
          rw [hj1]
      | true =>
        by_cases hl0 : nth lf 0 o = 0
        · refine go ar1 (fun ts hts hh => ?_) ?_
          · rcases rk_cons hh with ⟨h2, _⟩ | ⟨o', ho', _, _, hl', _⟩
            · omega
            · have : o' = o := by omega
              subst this; omega
          · rw [unf (.inr ((rank, rest, (w : Int), (o : Int), a, b), (sp, wf, od, ar0, ar1, pre, lf, ps))) (by
              rw [hne, hpsw, Int.toNat_natCast, hf.row w hw, row_len, inB_nat ho, row_at _ ho, show passB sp od (nth wf dW w) o = true from hp, show decide (o < od.length) = true by simpa using ho, show inB (o : Int) (lf.length - 0) = true by rw [Nat.sub_zero, hlf]; exact inB_nat ho, hl0]
              rfl)]
            show assign_L1 F n rank rest (w : Int) (IntKind.wrap IntKind.i64 ((o : Int) + 1)) a b sp wf od ar0 ar1 pre lf ps = _
            rw [hj1]
        · have hlo := hl o ho
          have hlp : 0 < nth lf 0 o := by omega
          have hW := wO_le h ho
          have hset : nth (List.set lf o (nth lf 0 o - 1)) 0 = updF (nth lf 0) o (nth lf 0 o - 1) := nth_set lf 0 _ (by omega)
          have hl2 : ∀ p, p < od.length → 0 ≤ nth (List.set lf o (nth lf 0 o - 1)) 0 p ∧ nth (List.set lf o (nth lf 0 o - 1)) 0 p ≤ 1000 := fun p hp' => by
            rw [hset]; unfold updF; have := hl p hp'; split <;> omega
          obtain ⟨v, ar2, e1, e2, e3, e4⟩ := most_eq h F hF hf (lf := List.set lf o (nth lf 0 o - 1)) (by rw [List.length_set]; exact hlf) hl2 (fr := w + 1) (by omega) ar1
          have hw1 : IntKind.wrap IntKind.i64 ((w : Int) + 1) = ((w + 1 : Nat) : Int) := i64s (by omega)
          have hst : IntKind.wrap IntKind.i64 (nth lf 0 o - 1) = nth lf 0 o - 1 := w64 _ (by omega)
          have hin : inB (o : Int) (lf.length - 0) = true := by rw [Nat.sub_zero, hlf]; exact inB_nat ho
          by_cases hv : v + wO od o = rest
          · refine ⟨(o : Int), v, List.set lf o (nth lf 0 o - 1), ar2, ?_, by rw [List.length_set]; exact hlf, hl2, e2, by omega, fun t' ht' ts hts => hno t' ht' ts hts, fun ts => ⟨fun hh => ?_, fun hh => ?_⟩⟩
            · rw [unf (.inl ((rank, v, a, b), (sp, wf, od, ar0, ar2, pre ++ [(o : Int)], List.set lf o (nth lf 0 o - 1), ps))) (by
                rw [hne, hpsw, Int.toNat_natCast, hf.row w hw, row_len, inB_nat ho, row_at _ ho, show passB sp od (nth wf dW w) o = true from hp, show decide (o < od.length) = true by simpa using ho, hin, show (nth lf 0 o == 0) = false by simpa using hl0, hst, hw1, e1]
                show ob (worth_S F (o : Int) sp wf od ps ar0 ar2) _ = _
                rw [worth_eq h F ho]
                show (bif IntKind.wrap IntKind.i64 (v + wO od o) == rest then bif lenOk (pre.length - 0) 1 then ob (worth_S F (o : Int) sp wf od ps ar0 ar2) _ else none else _) = _
                rw [w64 _ (by omega), show (v + wO od o == rest) = true by simpa using hv, lenOk_of (by omega), worth_eq h F ho]
                show some (Sum.inl ((rank, IntKind.wrap IntKind.i64 (rest - wO od o), a, b), _)) = _
                rw [w64 _ (by omega), show rest - wO od o = v by omega])]
            · rcases rk_cons hh with ⟨h2, _⟩ | ⟨o', ho', _, _, _, h2⟩
              · omega
              · have : o' = o := by omega
                subst this
                rw [hset, h2]; congr 1; omega
            · rw [hset] at hh
              have := rk_some hw ho hp hlp hh
              rw [this]; congr 1
          · refine go ar2 (fun ts hts hh => ?_) ?_
            · rcases rk_cons hh with ⟨h2, _⟩ | ⟨o', ho', _, _, _, h2⟩
              · omega
              · have : o' = o := by omega
                subst this
                rw [← hset] at h2
                have h3 := e2.up h (fun p hp' => (hl2 p hp').1) hts h2
                obtain ⟨ts', h4, h5⟩ := e2.ex (by omega)
                rw [hset] at h5
                have h6 := hr.up h (fun p hp' => (hl p hp').1) (ts := (o' : Int) :: ts') (by simp; omega) (rk_some hw ho hp hlp h5)
                omega
            · rw [unf (.inr ((rank, rest, (w : Int), (o : Int), a, b), (sp, wf, od, ar0, ar2, pre, lf, ps))) (by
                rw [hne, hpsw, Int.toNat_natCast, hf.row w hw, row_len, inB_nat ho, row_at _ ho, show passB sp od (nth wf dW w) o = true from hp, show decide (o < od.length) = true by simpa using ho, hin, show (nth lf 0 o == 0) = false by simpa using hl0, hst, hw1, e1]
                show ob (worth_S F (o : Int) sp wf od ps ar0 ar2) _ = _
                rw [worth_eq h F ho]
                show (bif IntKind.wrap IntKind.i64 (v + wO od o) == rest then _ else bif inB (o : Int) ((List.set lf o (nth lf 0 o - 1)).length - 0) then bif inB (o : Int) ((List.set lf o (nth lf 0 o - 1)).length - 0) then some (Sum.inr ((rank, rest, (w : Int), (o : Int), a, b), (sp, wf, od, ar0, ar2, pre, List.set (List.set lf o (nth lf 0 o - 1)) o (IntKind.wrap IntKind.i64 (nth (List.set lf o (nth lf 0 o - 1)) 0 o + 1)), ps))) else none else none) = _
                rw [w64 _ (show -9223372036854775808 ≤ v + wO od o ∧ v + wO od o ≤ 9223372036854775807 by omega), show (v + wO od o == rest) = false by simpa using hv, List.length_set, hin, hset, show updF (nth lf 0) o (nth lf 0 o - 1) o = nth lf 0 o - 1 by simp [updF], w64 _ (show -9223372036854775808 ≤ nth lf 0 o - 1 + 1 ∧ nth lf 0 o - 1 + 1 ≤ 9223372036854775807 by omega), show nth lf 0 o - 1 + 1 = nth lf 0 o by omega, set_back lf (by omega)]
                rfl)]
              show assign_L1 F n rank rest (w : Int) (IntKind.wrap IntKind.i64 ((o : Int) + 1)) a b sp wf od ar0 ar2 pre lf ps = _
              rw [hj1]
  | m, j, 0, _, _, hn, _ => by omega
end
end Go.Proofs.YtbnapejkjaddoaaDoor


namespace Go.Proofs.YtbnapejkjaddoaaDoor
open Go.RowKit
set_option maxRecDepth 100000
section
variable {sp : List SpT} {wf : List WfT} {od : List OdT}
theorem asg0 (h : MOk sp wf od) (F : Nat) (hF : 2000 < F) {ps : List Nat} {ar0 : A0} (hf : Fl sp wf od ps ar0) (rank : Int) : ∀ (m w n : Nat) (rest : Int) (lf : List Int) (pre : List Int) (ar1 : A1), w + m = wf.length → m < n → lf.length = od.length → (∀ o, o < od.length → 0 ≤ nth lf 0 o ∧ nth lf 0 o ≤ 1000) → BestM sp wf od (nth lf 0) w rest → (0 ≤ rest ∧ rest ≤ 100000000000) → pre.length ≤ w →
    ∃ (ts : List Int) (ar2 : A1), assign_L0 F n rank rest ((wf.length - 0) : Int) (w : Int) sp wf od ar0 ar1 pre lf ps = some (rank, (sp, wf, od, ar0, ar2, pre ++ ts)) ∧ Least sp wf od w (nth lf 0) rest ts
  | 0, w, n + 1, rest, lf, pre, ar1, hw, _, hlf, hl, hr, _, _ => by
    have : w = wf.length := by omega
    subst this
    obtain ⟨ts, h1, h2⟩ := hr.ex (Nat.le_refl _)
    have h0 : ts = [] := List.length_eq_zero_iff.1 (by omega)
    subst h0
    refine ⟨[], ar1, ?_, by simp, h2, fun ts' _ _ => trivial⟩
    show (bif decide ((wf.length : Int) < ((wf.length - 0) : Int)) then _ else _) = _
    rw [Int.sub_zero, lt_f, List.append_nil]; rfl
  | m + 1, w, n + 1, rest, lf, pre, ar1, hw, hn, hlf, hl, hr, hr0, hp => by
    have hwl : w < wf.length := by omega
    have hw60 := h.w
    have ho := h.o
    obtain ⟨t, rest', lf', ar2, e1, e2, e3, e4, e5, e6, e7⟩ := asg1 h F hF hf rank ((wf.length - 0) : Int) (w : Int) hwl hlf hl hr hr0 (pre := pre) (by omega) (od.length + 1) 0 F ar1 (by omega) (by omega) (fun t ht ts _ hh => by
      rcases rk_cons hh with ⟨h2, _⟩ | ⟨o, ho', _⟩ <;> omega)
    obtain ⟨ts, ar3, g1, g2, g3, g4⟩ := asg0 h F hF hf rank m (w + 1) n rest' lf' (pre ++ [t]) ar2 (by omega) (by omega) e2 e3 e4 e5 (by simp; omega)
    refine ⟨t :: ts, ar3, ?_, by simp [g2]; omega, (e7 ts).2 g3, fun ts' hl' hh => ?_⟩
    · have e1' : assign_L1 F F rank rest (w : Int) (-1 : Int) ((wf.length - 0) : Int) (w : Int) sp wf od ar0 ar1 pre lf ps = _ := e1
      show (bif decide ((w : Int) < ((wf.length - 0) : Int)) then ob (assign_L1 F F rank rest (w : Int) (-1 : Int) ((wf.length - 0) : Int) (w : Int) sp wf od ar0 ar1 pre lf ps) _ else _) = _
      rw [show decide ((w : Int) < ((wf.length - 0) : Int)) = true by rw [Int.sub_zero]; exact lt_t hwl, e1']
      show assign_L0 F n rank rest' ((wf.length - 0) : Int) (IntKind.wrap IntKind.i64 ((w : Int) + 1)) sp wf od ar0 ar2 (pre ++ [t]) lf' ps = _
      rw [i64s (by omega), g1, List.append_assoc]; rfl
    · cases ts' with
      | nil => simp at hl'; omega
      | cons t' ts' =>
        have hl2 : ts'.length = wf.length - (w + 1) := by simp at hl'; omega
        show t < t' ∨ (t = t' ∧ lexLe ts ts')
        rcases Int.lt_trichotomy t t' with h1 | h1 | h1
        · exact .inl h1
        · subst h1
          exact .inr ⟨rfl, g4 ts' hl2 ((e7 ts').1 hh)⟩
        · exact absurd hh (e6 t' h1 ts' hl2)
  | m, w, 0, _, _, _, _, _, hn, _, _, _, _, _ => by omega
/-- What Assign returns. -/
theorem assign_eq (F : Nat) (hF : 2000 < F) (hw : wfsOk wf) (ar0 : A0) (ar1 : A1) (hc : chkE sp wf od = 0) : ∃ (tl : List Int) (v : Int) (B : A0) (C : A1), assign_S F sp wf od ar0 ar1 = some ((v / 1000000000, v % 1000000000, 0), (B, C, tl)) ∧ Least sp wf od 0 (cO od) v tl ∧ BestM sp wf od (nth ((List.range od.length).map (cO od)) 0) 0 v ∧ 0 ≤ v ∧ v ≤ 1001000000 * (wf.length : Int) := by
  have h := chk_ok hc
  have hw60 := h.w
  obtain ⟨B, ps, e1, hf⟩ := floor_eq h F (by omega) ar0 ar1
  have hcl : ((List.range od.length).map (cO od)).length = od.length := by simp
  have hcb : ∀ o, o < od.length → 0 ≤ nth ((List.range od.length).map (cO od)) 0 o ∧ nth ((List.range od.length).map (cO od)) 0 o ≤ 1000 := fun o ho => by rw [nth_cO ho]; have := h.cnt o ho; unfold cO; omega
  obtain ⟨v, C, e2, e3, e4, e5⟩ := most_eq h F hF hf hcl hcb (fr := 0) (Nat.zero_le _) ar1
  obtain ⟨ts, D, e6, e7⟩ := asg0 h F hF hf v wf.length 0 F v ((List.range od.length).map (cO od)) [] C (by omega) (by omega) hcl hcb e3 (by omega) (Nat.zero_le _)
  refine ⟨ts, v, B, D, ?_, ?_, e3, e4, e5⟩
  · unfold assign_S
    rw [check_eq F (by omega) sp wf od hw, hc]
    show ob (newFloor_S F sp wf od ar0 ar1) _ = _
    rw [e1]
    show ob (counts_S F sp wf od ps B ar1) _ = _
    rw [counts_eq h F (by omega)]
    show ob (most_S F (0 : Int) sp wf od ps ((List.range od.length).map (cO od)) B ar1) _ = _
    rw [show most_S F (0 : Int) sp wf od ps ((List.range od.length).map (cO od)) B ar1 = _ from e2]
    show ob (assign_L0 F F v v ((wf.length - 0) : Int) (0 : Int) sp wf od B C [] ((List.range od.length).map (cO od)) ps) _ = _
    rw [show assign_L0 F F v v ((wf.length - 0) : Int) (0 : Int) sp wf od B C [] ((List.range od.length).map (cO od)) ps = _ from e6]
    show some ((IntKind.wrap IntKind.i64 (Int.tdiv v 1000000000), Int.tmod v 1000000000, (0 : Int)), (B, D, [] ++ ts)) = _
    rw [Int.tdiv_eq_ediv_of_nonneg (by omega), Int.tmod_eq_emod_of_nonneg (by omega), w64 _ (by omega)]
    rfl
  · obtain ⟨g1, g2, g3⟩ := e7
    have hcg : ∀ l, rkF wf.length od.length (pmM sp wf od) (wO od) 0 l (nth ((List.range od.length).map (cO od)) 0) 0 = rkF wf.length od.length (pmM sp wf od) (wO od) 0 l (cO od) 0 := fun l => rkF_congr l 0 _ _ 0 (fun o ho => nth_cO ho)
    exact ⟨g1, by rw [← hcg]; exact g2, fun ts' h1 h2 => g3 ts' h1 (by rw [hcg]; exact h2)⟩
end
end Go.Proofs.YtbnapejkjaddoaaDoor
