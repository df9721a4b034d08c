/- Plain laws of chapter 10: lists and assignments. No condition. -/
import Derived.Test.YtbnapejkjaddoaaDoorWMI7
import Derived.Laws.StructEq
import Derived.Test.YtbnapejkjaddoaaDoorWXA11m

namespace Go.Proofs.YtbnapejkjaddoaaDoor
open Go.RowKit
set_option maxRecDepth 100000
section
variable {nW k : Nat} {pm : Nat → Nat → Bool} {W : Nat → Int}
theorem rkF_shift : ∀ (ts : List Int) (i : Nat) (l : Nat → Int) (n c : Int), rkF nW k pm W i ts l (n + c) = (rkF nW k pm W i ts l n).map (· + c)
  | [], _, _, _, _ => rfl
  | t :: ts, i, l, n, c => by
    simp only [rkF]
    split
    · exact rkF_shift ts _ _ _ _
    · split
      · rw [show n + c + W t.toNat = (n + W t.toNat) + c by omega]; exact rkF_shift ts _ _ _ _
      · rfl
theorem rkF_zero (ts : List Int) (i : Nat) (l : Nat → Int) (n v : Int) : rkF nW k pm W i ts l n = some v ↔ rkF nW k pm W i ts l 0 = some (v - n) := by
  have := rkF_shift (nW := nW) (k := k) (pm := pm) (W := W) ts i l 0 n
  rw [Int.zero_add] at this
  rw [this]
  cases rkF nW k pm W i ts l 0 with
  | none => simp
  | some x => simp only [Option.map_some, Option.some.injEq]; omega
def oI : Option Nat → Int
  | none => -1
  | some o => (o : Int)
theorem range'_cons' (i m : Nat) : List.range' i (m + 1) = i :: List.range' (i + 1) m := List.range'_succ
/-- An assignment, as a list. -/
theorem feas_rk : ∀ (m i : Nat) (l : Nat → Int) (a : Nat → Option Nat), i + m ≤ nW → Mt.Feas k pm l (List.range' i m) a → rkF nW k pm W i ((List.range' i m).map (fun w => oI (a w))) l 0 = some (Mt.val W a (List.range' i m))
  | 0, _, _, _, _, _ => rfl
  | m + 1, i, l, a, hi, h => by
    have hni : i ∉ List.range' (i + 1) m := fun hx => by rw [List.mem_range'] at hx; obtain ⟨t, _, e⟩ := hx; omega
    rw [range'_cons'] at h ⊢
    rw [List.map_cons]
    simp only [rkF]
    cases ha : a i with
    | none =>
      have h' : Mt.Feas k pm l (List.range' (i + 1) m) a := ⟨fun w hw => h.ok w (List.mem_cons_of_mem _ hw), fun o ho => by
        have := h.le o ho
        rw [Mt.cnt_cons, ha, if_neg (by simp)] at this; omega⟩
      rw [show oI none = -1 from rfl, if_pos rfl, feas_rk m (i + 1) l a (by omega) h']
      simp only [Mt.val, ha, Mt.gv]
      congr 1; omega
    | some o =>
      obtain ⟨h1, h2⟩ := h.ok i List.mem_cons_self o ha
      have h3 := h.le o h1
      rw [Mt.cnt_cons, ha, if_pos rfl] at h3
      have h4 := Mt.cnt_nn a (List.range' (i + 1) m) o
      have h' : Mt.Feas k pm (updF l o (l o - 1)) (List.range' (i + 1) m) a := ⟨fun w hw => h.ok w (List.mem_cons_of_mem _ hw), fun p hp => by
        have := h.le p hp
        rw [Mt.cnt_cons, ha] at this
        unfold updF
        by_cases e : p = o
        · subst e; rw [if_pos rfl] at this ⊢; omega
        · rw [if_neg e]; rw [if_neg (by simpa using fun e' => e e'.symm)] at this; omega⟩
      rw [show oI (some o) = (o : Int) from rfl, if_neg (by omega), Int.toNat_natCast, if_pos ⟨by omega, ⟨by omega, h1⟩, h2, by omega⟩]
      rw [rkF_zero, feas_rk m (i + 1) _ a (by omega) h' |> (fun e => show rkF nW k pm W (i + 1) _ _ 0 = some _ from e)]
      simp only [Mt.val, ha, Mt.gv]
      congr 1; omega
/-- A list, as an assignment. -/
theorem rk_feas : ∀ (ts : List Int) (i : Nat) (l : Nat → Int) (v : Int), (∀ o, o < k → 0 ≤ l o) → rkF nW k pm W i ts l 0 = some v → ∃ a, Mt.Feas k pm l (List.range' i ts.length) a ∧ Mt.val W a (List.range' i ts.length) = v
  | [], i, l, v, hl, h => by
    cases h
    exact ⟨fun _ => none, ⟨(fun w hw => by cases hw), (fun o ho => by unfold Mt.cnt; simpa using hl o ho)⟩, rfl⟩
  | t :: ts, i, l, v, hl, h => by
    have hni : i ∉ List.range' (i + 1) ts.length := fun hx => by rw [List.mem_range'] at hx; obtain ⟨t, _, e⟩ := hx; omega
    have ext : ∀ (a : Nat → Option Nat) (x : Option Nat), ∀ w, w ∈ List.range' (i + 1) ts.length → (fun w => if w = i then x else a w) w = a w := fun a x w hw => if_neg (by intro e; subst e; exact hni hw)
    rw [List.length_cons, range'_cons']
    simp only [rkF] at h
    split at h
    · obtain ⟨a, h1, h2⟩ := rk_feas ts (i + 1) l v hl h
      refine ⟨fun w => if w = i then none else a w, ⟨fun w hw o ho => ?_, fun o ho => ?_⟩, ?_⟩
      · rcases List.mem_cons.1 hw with rfl | hw
        · simp at ho
        · rw [show (if w = i then none else a w) = a w from ext a none w hw] at ho; exact h1.ok w hw o ho
      · rw [Mt.cnt_cons, if_neg (by simp), Mt.cnt_congr (ext a none)]
        have := h1.le o ho; omega
      · simp only [Mt.val, if_true, Mt.gv]
        rw [Mt.val_congr (ext a none), h2]; omega
    · split at h
      · rename_i hc
        obtain ⟨hc1, ⟨hc2, hc3⟩, hc4, hc5⟩ := hc
        rw [rkF_zero] at h
        obtain ⟨a, h1, h2⟩ := rk_feas ts (i + 1) _ _ (fun o ho => by unfold updF; have := hl o ho; split <;> omega) h
        refine ⟨fun w => if w = i then some t.toNat else a w, ⟨fun w hw o ho => ?_, fun o ho => ?_⟩, ?_⟩
        · rcases List.mem_cons.1 hw with rfl | hw
          · simp only [if_true, Option.some.injEq] at ho
            subst ho; exact ⟨hc3, hc4⟩
          · rw [show (if w = i then some t.toNat else a w) = a w from ext a _ w hw] at ho; exact h1.ok w hw o ho
        · rw [Mt.cnt_cons, Mt.cnt_congr (ext a _)]
          have := h1.le o ho
          unfold updF at this
          by_cases e : o = t.toNat
          · rw [if_pos e] at this; rw [if_pos (by simp [e]), e]
            rw [e] at this; omega
          · rw [if_neg e] at this; rw [if_neg (by simpa using fun e' => e e'.symm)]; omega
        · simp only [Mt.val, if_true, Mt.gv]
          rw [Mt.val_congr (ext a _), h2]; omega
      · cases h
end
section
variable {sp : List SpT} {wf : List WfT} {od : List OdT}
theorem BestM.up (h : MOk sp wf od) {cap : Nat → Int} (hc : ∀ o, o < od.length → 0 ≤ cap o) {fr : Nat} {m : Int} (hb : BestM sp wf od cap fr m) {ts : List Int} (ht : ts.length = wf.length - fr) {v : Int} (hv : rkF wf.length od.length (pmM sp wf od) (wO od) fr ts cap 0 = some v) : v ≤ m := by
  obtain ⟨a, h1, h2⟩ := rk_feas ts fr cap v hc hv
  rw [ht] at h1 h2
  rw [← h2]; exact hb.upper h h1
theorem BestM.ex {cap : Nat → Int} {fr : Nat} (hfr : fr ≤ wf.length) {m : Int} (hb : BestM sp wf od cap fr m) : ∃ ts : List Int, ts.length = wf.length - fr ∧ rkF wf.length od.length (pmM sp wf od) (wO od) fr ts cap 0 = some m := by
  obtain ⟨a, h1, h2⟩ := hb.got
  exact ⟨(List.range' fr (wf.length - fr)).map (fun w => oI (a w)), by rw [List.length_map, List.length_range'], by rw [← h2]; exact feas_rk _ _ _ _ (by omega) h1⟩
theorem BestM.uniq (h : MOk sp wf od) {cap : Nat → Int} {fr : Nat} {m m' : Int} (hb : BestM sp wf od cap fr m) (hb' : BestM sp wf od cap fr m') : m = m' := by
  obtain ⟨a, h1, h2⟩ := hb.got
  obtain ⟨a', h1', h2'⟩ := hb'.got
  have := hb.upper h h1'
  have := hb'.upper h h1
  omega
end
end Go.Proofs.YtbnapejkjaddoaaDoor


namespace Go.Proofs.YtbnapejkjaddoaaDoor
open Go.RowKit
set_option maxRecDepth 100000
/-- Lists in ascending order. -/
def lexLe : List Int → List Int → Prop
  | [], _ => True
  | _ :: _, [] => False
  | a :: l, b :: m => a < b ∨ (a = b ∧ lexLe l m)
section
variable {sp : List SpT} {wf : List WfT} {od : List OdT}
/-- The smallest of the best lists of the wafers from one on. -/
def Least (sp : List SpT) (wf : List WfT) (od : List OdT) (fr : Nat) (left : Nat → Int) (rest : Int) (ts : List Int) : Prop :=
  ts.length = wf.length - fr ∧ rkF wf.length od.length (pmM sp wf od) (wO od) fr ts left 0 = some rest ∧ ∀ ts' : List Int, ts'.length = wf.length - fr → rkF wf.length od.length (pmM sp wf od) (wO od) fr ts' left 0 = some rest → lexLe ts ts'
theorem set_back (l : List Int) {o : Nat} (ho : o < l.length) (v : Int) : List.set (List.set l o v) o (nth l 0 o) = l := by
  have := List.set_getElem_self ho
  rw [nth_eq l 0 o ho] at this
  rw [List.set_set]
  exact this
/-- A list with a first number that is not there. -/
theorem rk_cons {fr : Nat} {left : Nat → Int} {t : Int} {ts : List Int} {v : Int} (h : rkF wf.length od.length (pmM sp wf od) (wO od) fr (t :: ts) left 0 = some v) : (t = -1 ∧ rkF wf.length od.length (pmM sp wf od) (wO od) (fr + 1) ts left 0 = some v) ∨ (∃ o : Nat, t = (o : Int) ∧ o < od.length ∧ pmM sp wf od fr o = true ∧ 0 < left o ∧ rkF wf.length od.length (pmM sp wf od) (wO od) (fr + 1) ts (updF left o (left o - 1)) 0 = some (v - wO od o)) := by
  simp only [rkF] at h
  split at h
  · exact .inl ⟨by assumption, h⟩
  · split at h
    · rename_i hc
      obtain ⟨_, ⟨h2, h3⟩, h4, h5⟩ := hc
      rw [rkF_zero, Int.zero_add] at h
      exact .inr ⟨t.toNat, by omega, h3, h4, h5, h⟩
    · cases h
theorem rk_none {fr : Nat} {left : Nat → Int} {ts : List Int} {v : Int} (h : rkF wf.length od.length (pmM sp wf od) (wO od) (fr + 1) ts left 0 = some v) : rkF wf.length od.length (pmM sp wf od) (wO od) fr (-1 :: ts) left 0 = some v := by
  simp only [rkF, if_pos]; exact h
theorem rk_some {fr : Nat} (hfr : fr < wf.length) {left : Nat → Int} {ts : List Int} {v : Int} {o : Nat} (ho : o < od.length) (hp : pmM sp wf od fr o = true) (hl : 0 < left o) (h : rkF wf.length od.length (pmM sp wf od) (wO od) (fr + 1) ts (updF left o (left o - 1)) 0 = some v) : rkF wf.length od.length (pmM sp wf od) (wO od) fr ((o : Int) :: ts) left 0 = some (v + wO od o) := by
  simp only [rkF]
  rw [if_neg (by omega), Int.toNat_natCast, if_pos ⟨hfr, ⟨by omega, ho⟩, hp, hl⟩, rkF_zero, h]
  congr 1; omega
theorem asg1 (h : MOk sp wf od) (F : Nat) (hF : 2000 < F) {ps : List Nat} {ar0 : A0} (hf : Fl sp wf od ps ar0) (rank : Int) (a b : Int) {w : Nat} (hw : w < wf.length) {lf : List Int} (hlf : lf.length = od.length) (hl : ∀ o, o < od.length → 0 ≤ nth lf 0 o ∧ nth lf 0 o ≤ 1000) {rest : Int} (hr : BestM sp wf od (nth lf 0) w rest) (hr0 : 0 ≤ rest ∧ rest ≤ 100000000000) {pre : List Int} (hpre : pre.length ≤ 1000) : ∀ (m j n : Nat) (ar1 : A1), j + m = od.length + 1 → m < n → (∀ t : Int, t < (j : Int) - 1 → ∀ ts : List Int, ts.length = wf.length - (w + 1) → rkF wf.length od.length (pmM sp wf od) (wO od) w (t :: ts) (nth lf 0) 0 ≠ some rest) →
    ∃ (t : Int) (rest' : Int) (lf' : List Int) (ar2 : A1), assign_L1 F n rank rest (w : Int) ((j : Int) - 1) a b sp wf od ar0 ar1 pre lf ps = some ((rank, rest', a, b), (sp, wf, od, ar0, ar2, pre ++ [t], lf', ps)) ∧ lf'.length = od.length ∧ (∀ o, o < od.length → 0 ≤ nth lf' 0 o ∧ nth lf' 0 o ≤ 1000) ∧ BestM sp wf od (nth lf' 0) (w + 1) rest' ∧ (0 ≤ rest' ∧ rest' ≤ 100000000000) ∧ (∀ t', t' < t → ∀ ts : List Int, ts.length = wf.length - (w + 1) → rkF wf.length od.length (pmM sp wf od) (wO od) w (t' :: ts) (nth lf 0) 0 ≠ some rest) ∧ (∀ ts : List Int, rkF wf.length od.length (pmM sp wf od) (wO od) w (t :: ts) (nth lf 0) 0 = some rest ↔ rkF wf.length od.length (pmM sp wf od) (wO od) (w + 1) ts (nth lf' 0) 0 = some rest')
  | 0, j, n + 1, ar1, hj, _, hno => by
    -- none is left: but there is one
    exfalso
    obtain ⟨ts, h1, h2⟩ := hr.ex (by omega)
    cases ts with
    | nil => simp at h1; omega
    | cons t ts =>
      have h1' : ts.length = wf.length - (w + 1) := by simp at h1; omega
      refine hno t ?_ ts h1' h2
      rcases rk_cons h2 with ⟨rfl, _⟩ | ⟨o, rfl, ho, _⟩ <;> omega
  | m + 1, j, n + 1, ar1, hj, hn, hno => by
    have ho12 := h.o
    have hw60 := h.w
    -- it goes on to the next number
    have next : (∀ ts : List Int, ts.length = wf.length - (w + 1) → rkF wf.length od.length (pmM sp wf od) (wO od) w (((j : Int) - 1) :: ts) (nth lf 0) 0 ≠ some rest) → ∀ ar2 : A1, _ := fun h1 ar2 => asg1 h F hF hf rank a b hw hlf hl hr hr0 hpre m (j + 1) n ar2 (by omega) (by omega) (fun t ht ts hts => by
      by_cases e : t < (j : Int) - 1
      · exact hno t e ts hts
      · have : t = (j : Int) - 1 := by omega
        subst this; exact h1 ts hts)
    have hlt : decide ((j : Int) - 1 < ((od.length - 0) : Int)) = true := by rw [Int.sub_zero]; simp; omega
    have unf : ∀ X, (bif ((j : Int) - 1 == (-1 : Int)) then ob (most_S F (IntKind.wrap IntKind.i64 ((w : Int) + 1)) sp wf od ps lf ar0 ar1) (fun r4 => bif r4.1 == rest then bif lenOk (pre.length - 0) (((j : Int) - 1) :: []).length then some (.inl ((rank, rest, a, b), (sp, wf, od, r4.2.1, r4.2.2, pre ++ (((j : Int) - 1) :: []), lf, ps))) else none else some (.inr ((rank, rest, (w : Int), (j : Int) - 1, a, b), (sp, wf, od, r4.2.1, r4.2.2, pre, lf, ps)))) else bif inB (w : Int) (ps.length - 0) then bif inB ((j : Int) - 1) (rowAt ar0 (nth ps 0 w)).length then bif decide (((j : Int) - 1).toNat < (rowAt ar0 (nth ps 0 w)).length) then bif !(nth (rowAt ar0 (nth ps 0 w)) false ((j : Int) - 1).toNat) then some (.inr ((rank, rest, (w : Int), (j : Int) - 1, a, b), (sp, wf, od, ar0, ar1, pre, lf, ps))) else bif inB ((j : Int) - 1) (lf.length - 0) then bif nth lf 0 ((j : Int) - 1).toNat == 0 then some (.inr ((rank, rest, (w : Int), (j : Int) - 1, a, b), (sp, wf, od, ar0, ar1, pre, lf, ps))) else bif inB ((j : Int) - 1) (lf.length - 0) then bif inB ((j : Int) - 1) (lf.length - 0) then ob (most_S F (IntKind.wrap IntKind.i64 ((w : Int) + 1)) sp wf od ps (List.set lf ((j : Int) - 1).toNat (IntKind.wrap IntKind.i64 (nth lf 0 ((j : Int) - 1).toNat - 1))) ar0 ar1) (fun r5 => ob (worth_S F ((j : Int) - 1) sp wf od ps r5.2.1 r5.2.2) (fun r6 => bif IntKind.wrap IntKind.i64 (r5.1 + r6.1) == rest then bif lenOk (pre.length - 0) (((j : Int) - 1) :: []).length then ob (worth_S F ((j : Int) - 1) sp wf od ps r6.2.1 r6.2.2) (fun r7 => some (.inl ((rank, IntKind.wrap IntKind.i64 (rest - r7.1), a, b), (sp, wf, od, r7.2.1, r7.2.2, pre ++ (((j : Int) - 1) :: []), List.set lf ((j : Int) - 1).toNat (IntKind.wrap IntKind.i64 (nth lf 0 ((j : Int) - 1).toNat - 1)), ps)))) else none else bif inB ((j : Int) - 1) ((List.set lf ((j : Int) - 1).toNat (IntKind.wrap IntKind.i64 (nth lf 0 ((j : Int) - 1).toNat - 1))).length - 0) then bif inB ((j : Int) - 1) ((List.set lf ((j : Int) - 1).toNat (IntKind.wrap IntKind.i64 (nth lf 0 ((j : Int) - 1).toNat - 1))).length - 0) then some (.inr ((rank, rest, (w : Int), (j : Int) - 1, a, b), (sp, wf, od, r6.2.1, r6.2.2, pre, List.set (List.set lf ((j : Int) - 1).toNat (IntKind.wrap IntKind.i64 (nth lf 0 ((j : Int) - 1).toNat - 1))) ((j : Int) - 1).toNat (IntKind.wrap IntKind.i64 (nth (List.set lf ((j : Int) - 1).toNat (IntKind.wrap IntKind.i64 (nth lf 0 ((j : Int) - 1).toNat - 1))) 0 ((j : Int) - 1).toNat + 1)), ps))) else none else none)) else none else none else none else none else none else none : Option (OdT × ((List SpT) × ((List WfT) × ((List OdT) × (A0 × (A1 × ((List Int) × ((List Int) × (List Nat)))))))) ⊕ ((Int × (Int × (Int × (Int × (Int × Int))))) × ((List SpT) × ((List WfT) × ((List OdT) × (A0 × (A1 × ((List Int) × ((List Int) × (List Nat))))))))))) = some X → assign_L1 F (n + 1) rank rest (w : Int) ((j : Int) - 1) a b sp wf od ar0 ar1 pre lf ps = su X (fun s1 => (some ((s1.1.1, s1.1.2.1, s1.1.2.2.1, s1.1.2.2.2), (s1.2.1, s1.2.2.1, s1.2.2.2.1, s1.2.2.2.2.1, s1.2.2.2.2.2.1, s1.2.2.2.2.2.2.1, s1.2.2.2.2.2.2.2.1, s1.2.2.2.2.2.2.2.2)))) (fun s2 => (assign_L1 F n s2.1.1 s2.1.2.1 s2.1.2.2.1 (IntKind.wrap IntKind.i64 (s2.1.2.2.2.1 + 1)) s2.1.2.2.2.2.1 s2.1.2.2.2.2.2 s2.2.1 s2.2.2.1 s2.2.2.2.1 s2.2.2.2.2.1 s2.2.2.2.2.2.1 s2.2.2.2.2.2.2.1 s2.2.2.2.2.2.2.2.1 s2.2.2.2.2.2.2.2.2)) := by
      intro X hX
      show (bif decide ((j : Int) - 1 < ((od.length - 0) : Int)) then ob _ _ else _) = _
      rw [hlt]
      refine (congrArg (fun z => ob z _) hX).trans ?_
      rfl
    have go : ∀ ar2 : A1, (∀ ts : List Int, ts.length = wf.length - (w + 1) → rkF wf.length od.length (pmM sp wf od) (wO od) w (((j : Int) - 1) :: ts) (nth lf 0) 0 ≠ some rest) → assign_L1 F (n + 1) rank rest (w : Int) ((j : Int) - 1) a b sp wf od ar0 ar1 pre lf ps = assign_L1 F n rank rest (w : Int) (((j + 1 : Nat) : Int) - 1) a b sp wf od ar0 ar2 pre lf ps → _ := fun ar2 h1 h2 => by
      have ih := next h1 ar2
      rw [← h2] at ih
      exact ih
    have hj1 : IntKind.wrap IntKind.i64 ((j : Int) - 1 + 1) = ((j + 1 : Nat) : Int) - 1 := by rw [w64 _ (by omega)]; omega
    cases j with
    | zero =>
      obtain ⟨v, ar2, e1, e2, e3, e4⟩ := most_eq h F hF hf hlf hl (fr := w + 1) (by omega) ar1
      have hw1 : IntKind.wrap IntKind.i64 ((w : Int) + 1) = ((w + 1 : Nat) : Int) := i64s (by omega)
      by_cases hv : v = rest
      · refine ⟨-1, rest, lf, ar2, ?_, hlf, hl, by rw [← hv]; exact e2, hr0, fun t' ht' ts hts => hno t' (by simpa using ht') ts hts, fun ts => ⟨fun hh => ?_, rk_none⟩⟩
        · rw [unf (.inl ((rank, rest, a, b), (sp, wf, od, ar0, ar2, pre ++ [-1], lf, ps))) (by
            show ob (most_S F (IntKind.wrap IntKind.i64 ((w : Int) + 1)) sp wf od ps lf ar0 ar1) _ = _
            rw [hw1, e1]
            show (bif v == rest then bif lenOk (pre.length - 0) 1 then _ else none else _) = _
            rw [show (v == rest) = true by simpa using hv, lenOk_of (by omega)]
            rfl)]
        · rcases rk_cons hh with ⟨_, h2⟩ | ⟨o, ho, _⟩
          · exact h2
          · omega
      · refine go ar2 (fun ts hts hh => ?_) ?_
        · rcases rk_cons hh with ⟨_, h2⟩ | ⟨o, ho, _⟩
          · have h3 := e2.up h (fun o ho => (hl o ho).1) hts h2
            obtain ⟨ts', h4, h5⟩ := e2.ex (by omega)
            have h6 := hr.up h (fun o ho => (hl o ho).1) (ts := -1 :: ts') (by simp; omega) (rk_none h5)
            omega
          · simp at ho
        · rw [unf (.inr ((rank, rest, (w : Int), ((0 : Nat) : Int) - 1, a, b), (sp, wf, od, ar0, ar2, pre, lf, ps))) (by
            show ob (most_S F (IntKind.wrap IntKind.i64 ((w : Int) + 1)) sp wf od ps lf ar0 ar1) _ = _
            rw [hw1, e1]
            show (bif v == rest then bif lenOk (pre.length - 0) 1 then _ else none else _) = _
            rw [show (v == rest) = false by simpa using hv]
            rfl)]
          show assign_L1 F n rank rest (w : Int) (IntKind.wrap IntKind.i64 (((0 : Nat) : Int) - 1 + 1)) a b sp wf od ar0 ar2 pre lf ps = _
          rw [hj1]
    | succ o =>
      have ho : o < od.length := by omega
      have hoe : (((o + 1 : Nat) : Int) - 1) = (o : Int) := by omega
      rw [hoe] at go unf hno hj1 ⊢
      have hne : ((o : Int) == (-1 : Int)) = false := by simp
      have hpsw : inB (w : Int) (ps.length - 0) = true := by rw [Nat.sub_zero, hf.len]; exact inB_nat hw
      cases hp : pmM sp wf od w o with
      | false =>
        refine go ar1 (fun ts hts hh => ?_) ?_
        · rcases rk_cons hh with ⟨h2, _⟩ | ⟨o', ho', _, hp', _⟩
          · omega
          · have : o' = o := by omega
            subst this; rw [hp] at hp'; cases hp'
        · rw [unf (.inr ((rank, rest, (w : Int), (o : Int), a, b), (sp, wf, od, ar0, ar1, pre, lf, ps))) (by
            rw [hne, hpsw, Int.toNat_natCast, hf.row w hw, row_len, inB_nat ho, row_at _ ho, show passB sp od (nth wf dW w) o = false from hp, show decide (o < od.length) = true by simpa using ho]
            rfl)]
          show assign_L1 F n rank rest (w : Int) (IntKind.wrap IntKind.i64 ((o : Int) + 1)) a b sp wf od ar0 ar1 pre lf ps = _
          rw [hj1]
      | true =>
        by_cases hl0 : nth lf 0 o = 0
        · refine go ar1 (fun ts hts hh => ?_) ?_
          · rcases rk_cons hh with ⟨h2, _⟩ | ⟨o', ho', _, _, hl', _⟩
            · omega
            · have : o' = o := by omega
              subst this; omega
          · rw [unf (.inr ((rank, rest, (w : Int), (o : Int), a, b), (sp, wf, od, ar0, ar1, pre, lf, ps))) (by
              rw [hne, hpsw, Int.toNat_natCast, hf.row w hw, row_len, inB_nat ho, row_at _ ho, show passB sp od (nth wf dW w) o = true from hp, show decide (o < od.length) = true by simpa using ho, show inB (o : Int) (lf.length - 0) = true by rw [Nat.sub_zero, hlf]; exact inB_nat ho, hl0]
              rfl)]
            show assign_L1 F n rank rest (w : Int) (IntKind.wrap IntKind.i64 ((o : Int) + 1)) a b sp wf od ar0 ar1 pre lf ps = _
            rw [hj1]
        · have hlo := hl o ho
          have hlp : 0 < nth lf 0 o := by omega
          have hW := wO_le h ho
          have hset : nth (List.set lf o (nth lf 0 o - 1)) 0 = updF (nth lf 0) o (nth lf 0 o - 1) := nth_set lf 0 _ (by omega)
          have hl2 : ∀ p, p < od.length → 0 ≤ nth (List.set lf o (nth lf 0 o - 1)) 0 p ∧ nth (List.set lf o (nth lf 0 o - 1)) 0 p ≤ 1000 := fun p hp' => by
            rw [hset]; unfold updF; have := hl p hp'; split <;> omega
          obtain ⟨v, ar2, e1, e2, e3, e4⟩ := most_eq h F hF hf (lf := List.set lf o (nth lf 0 o - 1)) (by rw [List.length_set]; exact hlf) hl2 (fr := w + 1) (by omega) ar1
          have hw1 : IntKind.wrap IntKind.i64 ((w : Int) + 1) = ((w + 1 : Nat) : Int) := i64s (by omega)
          have hst : IntKind.wrap IntKind.i64 (nth lf 0 o - 1) = nth lf 0 o - 1 := w64 _ (by omega)
          have hin : inB (o : Int) (lf.length - 0) = true := by rw [Nat.sub_zero, hlf]; exact inB_nat ho
          by_cases hv : v + wO od o = rest
          · refine ⟨(o : Int), v, List.set lf o (nth lf 0 o - 1), ar2, ?_, by rw [List.length_set]; exact hlf, hl2, e2, by omega, fun t' ht' ts hts => hno t' ht' ts hts, fun ts => ⟨fun hh => ?_, fun hh => ?_⟩⟩
            · rw [unf (.inl ((rank, v, a, b), (sp, wf, od, ar0, ar2, pre ++ [(o : Int)], List.set lf o (nth lf 0 o - 1), ps))) (by
                rw [hne, hpsw, Int.toNat_natCast, hf.row w hw, row_len, inB_nat ho, row_at _ ho, show passB sp od (nth wf dW w) o = true from hp, show decide (o < od.length) = true by simpa using ho, hin, show (nth lf 0 o == 0) = false by simpa using hl0, hst, hw1, e1]
                show ob (worth_S F (o : Int) sp wf od ps ar0 ar2) _ = _
                rw [worth_eq h F ho]
                show (bif IntKind.wrap IntKind.i64 (v + wO od o) == rest then bif lenOk (pre.length - 0) 1 then ob (worth_S F (o : Int) sp wf od ps ar0 ar2) _ else none else _) = _
                rw [w64 _ (by omega), show (v + wO od o == rest) = true by simpa using hv, lenOk_of (by omega), worth_eq h F ho]
                show some (Sum.inl ((rank, IntKind.wrap IntKind.i64 (rest - wO od o), a, b), _)) = _
                rw [w64 _ (by omega), show rest - wO od o = v by omega])]
            · rcases rk_cons hh with ⟨h2, _⟩ | ⟨o', ho', _, _, _, h2⟩
              · omega
              · have : o' = o := by omega
                subst this
                rw [hset, h2]; congr 1; omega
            · rw [hset] at hh
              have := rk_some hw ho hp hlp hh
              rw [this]; congr 1
          · refine go ar2 (fun ts hts hh => ?_) ?_
            · rcases rk_cons hh with ⟨h2, _⟩ | ⟨o', ho', _, _, _, h2⟩
              · omega
              · have : o' = o := by omega
                subst this
                rw [← hset] at h2
                have h3 := e2.up h (fun p hp' => (hl2 p hp').1) hts h2
                obtain ⟨ts', h4, h5⟩ := e2.ex (by omega)
                rw [hset] at h5
                have h6 := hr.up h (fun p hp' => (hl p hp').1) (ts := (o' : Int) :: ts') (by simp; omega) (rk_some hw ho hp hlp h5)
                omega
            · rw [unf (.inr ((rank, rest, (w : Int), (o : Int), a, b), (sp, wf, od, ar0, ar2, pre, lf, ps))) (by
                rw [hne, hpsw, Int.toNat_natCast, hf.row w hw, row_len, inB_nat ho, row_at _ ho, show passB sp od (nth wf dW w) o = true from hp, show decide (o < od.length) = true by simpa using ho, hin, show (nth lf 0 o == 0) = false by simpa using hl0, hst, hw1, e1]
                show ob (worth_S F (o : Int) sp wf od ps ar0 ar2) _ = _
                rw [worth_eq h F ho]
                show (bif IntKind.wrap IntKind.i64 (v + wO od o) == rest then _ else bif inB (o : Int) ((List.set lf o (nth lf 0 o - 1)).length - 0) then bif inB (o : Int) ((List.set lf o (nth lf 0 o - 1)).length - 0) then some (Sum.inr ((rank, rest, (w : Int), (o : Int), a, b), (sp, wf, od, ar0, ar2, pre, List.set (List.set lf o (nth lf 0 o - 1)) o (IntKind.wrap IntKind.i64 (nth (List.set lf o (nth lf 0 o - 1)) 0 o + 1)), ps))) else none else none) = _
                rw [w64 _ (show -9223372036854775808 ≤ v + wO od o ∧ v + wO od o ≤ 9223372036854775807 by omega), show (v + wO od o == rest) = false by simpa using hv, List.length_set, hin, hset, show updF (nth lf 0) o (nth lf 0 o - 1) o = nth lf 0 o - 1 by simp [updF], w64 _ (show -9223372036854775808 ≤ nth lf 0 o - 1 + 1 ∧ nth lf 0 o - 1 + 1 ≤ 9223372036854775807 by omega), show nth lf 0 o - 1 + 1 = nth lf 0 o by omega, set_back lf (by omega)]
                rfl)]
              show assign_L1 F n rank rest (w : Int) (IntKind.wrap IntKind.i64 ((o : Int) + 1)) a b sp wf od ar0 ar2 pre lf ps = _
              rw [hj1]
  | m, j, 0, _, _, hn, _ => by omega
end
end Go.Proofs.YtbnapejkjaddoaaDoor


namespace Go.Proofs.YtbnapejkjaddoaaDoor
open Go.RowKit
set_option maxRecDepth 100000
section
variable {sp : List SpT} {wf : List WfT} {od : List OdT}
theorem asg0 (h : MOk sp wf od) (F : Nat) (hF : 2000 < F) {ps : List Nat} {ar0 : A0} (hf : Fl sp wf od ps ar0) (rank : Int) : ∀ (m w n : Nat) (rest : Int) (lf : List Int) (pre : List Int) (ar1 : A1), w + m = wf.length → m < n → lf.length = od.length → (∀ o, o < od.length → 0 ≤ nth lf 0 o ∧ nth lf 0 o ≤ 1000) → BestM sp wf od (nth lf 0) w rest → (0 ≤ rest ∧ rest ≤ 100000000000) → pre.length ≤ w →
    ∃ (ts : List Int) (ar2 : A1), assign_L0 F n rank rest ((wf.length - 0) : Int) (w : Int) sp wf od ar0 ar1 pre lf ps = some (rank, (sp, wf, od, ar0, ar2, pre ++ ts)) ∧ Least sp wf od w (nth lf 0) rest ts
  | 0, w, n + 1, rest, lf, pre, ar1, hw, _, hlf, hl, hr, _, _ => by
    have : w = wf.length := by omega
    subst this
    obtain ⟨ts, h1, h2⟩ := hr.ex (Nat.le_refl _)
    have h0 : ts = [] := List.length_eq_zero_iff.1 (by omega)
    subst h0
    refine ⟨[], ar1, ?_, by simp, h2, fun ts' _ _ => trivial⟩
    show (bif decide ((wf.length : Int) < ((wf.length - 0) : Int)) then _ else _) = _
    rw [Int.sub_zero, lt_f, List.append_nil]; rfl
  | m + 1, w, n + 1, rest, lf, pre, ar1, hw, hn, hlf, hl, hr, hr0, hp => by
    have hwl : w < wf.length := by omega
    have hw60 := h.w
    have ho := h.o
    obtain ⟨t, rest', lf', ar2, e1, e2, e3, e4, e5, e6, e7⟩ := asg1 h F hF hf rank ((wf.length - 0) : Int) (w : Int) hwl hlf hl hr hr0 (pre := pre) (by omega) (od.length + 1) 0 F ar1 (by omega) (by omega) (fun t ht ts _ hh => by
      rcases rk_cons hh with ⟨h2, _⟩ | ⟨o, ho', _⟩ <;> omega)
    obtain ⟨ts, ar3, g1, g2, g3, g4⟩ := asg0 h F hF hf rank m (w + 1) n rest' lf' (pre ++ [t]) ar2 (by omega) (by omega) e2 e3 e4 e5 (by simp; omega)
    refine ⟨t :: ts, ar3, ?_, by simp [g2]; omega, (e7 ts).2 g3, fun ts' hl' hh => ?_⟩
    · have e1' : assign_L1 F F rank rest (w : Int) (-1 : Int) ((wf.length - 0) : Int) (w : Int) sp wf od ar0 ar1 pre lf ps = _ := e1
      show (bif decide ((w : Int) < ((wf.length - 0) : Int)) then ob (assign_L1 F F rank rest (w : Int) (-1 : Int) ((wf.length - 0) : Int) (w : Int) sp wf od ar0 ar1 pre lf ps) _ else _) = _
      rw [show decide ((w : Int) < ((wf.length - 0) : Int)) = true by rw [Int.sub_zero]; exact lt_t hwl, e1']
      show assign_L0 F n rank rest' ((wf.length - 0) : Int) (IntKind.wrap IntKind.i64 ((w : Int) + 1)) sp wf od ar0 ar2 (pre ++ [t]) lf' ps = _
      rw [i64s (by omega), g1, List.append_assoc]; rfl
    · cases ts' with
      | nil => simp at hl'; omega
      | cons t' ts' =>
        have hl2 : ts'.length = wf.length - (w + 1) := by simp at hl'; omega
        show t < t' ∨ (t = t' ∧ lexLe ts ts')
        rcases Int.lt_trichotomy t t' with h1 | h1 | h1
        · exact .inl h1
        · subst h1
          exact .inr ⟨rfl, g4 ts' hl2 ((e7 ts').1 hh)⟩
        · exact absurd hh (e6 t' h1 ts' hl2)
  | m, w, 0, _, _, _, _, _, hn, _, _, _, _, _ => by omega
/-- What Assign returns. -/
theorem assign_eq (F : Nat) (hF : 2000 < F) (hw : wfsOk wf) (ar0 : A0) (ar1 : A1) (hc : chkE sp wf od = 0) : ∃ (tl : List Int) (v : Int) (B : A0) (C : A1), assign_S F sp wf od ar0 ar1 = some ((v / 1000000000, v % 1000000000, 0), (B, C, tl)) ∧ Least sp wf od 0 (cO od) v tl ∧ BestM sp wf od (nth ((List.range od.length).map (cO od)) 0) 0 v ∧ 0 ≤ v ∧ v ≤ 1001000000 * (wf.length : Int) := by
  have h := chk_ok hc
  have hw60 := h.w
  obtain ⟨B, ps, e1, hf⟩ := floor_eq h F (by omega) ar0 ar1
  have hcl : ((List.range od.length).map (cO od)).length = od.length := by simp
  have hcb : ∀ o, o < od.length → 0 ≤ nth ((List.range od.length).map (cO od)) 0 o ∧ nth ((List.range od.length).map (cO od)) 0 o ≤ 1000 := fun o ho => by rw [nth_cO ho]; have := h.cnt o ho; unfold cO; omega
  obtain ⟨v, C, e2, e3, e4, e5⟩ := most_eq h F hF hf hcl hcb (fr := 0) (Nat.zero_le _) ar1
  obtain ⟨ts, D, e6, e7⟩ := asg0 h F hF hf v wf.length 0 F v ((List.range od.length).map (cO od)) [] C (by omega) (by omega) hcl hcb e3 (by omega) (Nat.zero_le _)
  refine ⟨ts, v, B, D, ?_, ?_, e3, e4, e5⟩
  · unfold assign_S
    rw [check_eq F (by omega) sp wf od hw, hc]
    show ob (newFloor_S F sp wf od ar0 ar1) _ = _
    rw [e1]
    show ob (counts_S F sp wf od ps B ar1) _ = _
    rw [counts_eq h F (by omega)]
    show ob (most_S F (0 : Int) sp wf od ps ((List.range od.length).map (cO od)) B ar1) _ = _
    rw [show most_S F (0 : Int) sp wf od ps ((List.range od.length).map (cO od)) B ar1 = _ from e2]
    show ob (assign_L0 F F v v ((wf.length - 0) : Int) (0 : Int) sp wf od B C [] ((List.range od.length).map (cO od)) ps) _ = _
    rw [show assign_L0 F F v v ((wf.length - 0) : Int) (0 : Int) sp wf od B C [] ((List.range od.length).map (cO od)) ps = _ from e6]
    show some ((IntKind.wrap IntKind.i64 (Int.tdiv v 1000000000), Int.tmod v 1000000000, (0 : Int)), (B, D, [] ++ ts)) = _
    rw [Int.tdiv_eq_ediv_of_nonneg (by omega), Int.tmod_eq_emod_of_nonneg (by omega), w64 _ (by omega)]
    rfl
  · obtain ⟨g1, g2, g3⟩ := e7
    have hcg : ∀ l, rkF wf.length od.length (pmM sp wf od) (wO od) 0 l (nth ((List.range od.length).map (cO od)) 0) 0 = rkF wf.length od.length (pmM sp wf od) (wO od) 0 l (cO od) 0 := fun l => rkF_congr l 0 _ _ 0 (fun o ho => nth_cO ho)
    exact ⟨g1, by rw [← hcg]; exact g2, fun ts' h1 h2 => g3 ts' h1 (by rw [hcg]; exact h2)⟩
theorem assign_bad (F : Nat) (hF : 2000 < F) (hw : wfsOk wf) (ar0 : A0) (ar1 : A1) (hc : chkE sp wf od ≠ 0) : assign_S F sp wf od ar0 ar1 = some ((0, 0, chkE sp wf od), (ar0, ar1, [])) := by
  unfold assign_S
  rw [check_eq F (by omega) sp wf od hw]
  show (bif chkE sp wf od != 0 then _ else _) = _
  rw [show (chkE sp wf od != 0) = true by simpa using hc]
  rfl
end
end Go.Proofs.YtbnapejkjaddoaaDoor


namespace Go.Proofs.YtbnapejkjaddoaaDoor
open Go.RowKit
set_option maxRecDepth 100000
def lgB (w : WfT) : Bool := decide ((w.2.2.1.size : Int) > 40) || (decide ((w.2.2.2.1.size : Int) > 40) || (decide ((w.2.2.2.2.1.size : Int) > 40) || (decide ((w.2.2.2.2.2.1.size : Int) > 40) || (decide ((w.2.2.2.2.2.2.1.size : Int) > 40) || decide ((w.2.2.2.2.2.2.2.size : Int) > 40)))))
theorem long_eq (F : Nat) (w : WfT) : long_S F w = some (lgB w) := by
  unfold long_S lgB
  simp only [b2, bs]
  change some (bif (decide ((w.2.2.1.size : Int) > 40) || (decide ((w.2.2.2.1.size : Int) > 40) || (decide ((w.2.2.2.2.1.size : Int) > 40) || (decide ((w.2.2.2.2.2.1.size : Int) > 40) || (decide ((w.2.2.2.2.2.2.1.size : Int) > 40) || decide ((w.2.2.2.2.2.2.2.size : Int) > 40)))))) then true else false) = _
  rw [ct, Bool.or_false]
theorem lg_short {w : WfT} (h : lgB w = false) : shortW w := by
  unfold lgB at h
  simp only [Bool.or_eq_false_iff, decide_eq_false_iff_not] at h
  unfold shortW
  omega
theorem ba_refl (x : ByteArray) : (x == x) = true := by rw [beq_toListBytes]; exact beq_self_eq_true _
section
variable {sp : List SpT} {wf : List WfT} {od : List OdT}
def largeB (sp : List SpT) (wf : List WfT) (od : List OdT) : Bool := (decide (25 < sp.length) || (decide (65 < wf.length) || decide (15 < od.length))) || wf.any lgB
theorem large_eq (F : Nat) (hF : 2000 < F) (sp : List SpT) (wf : List WfT) (od : List OdT) : large_S F sp wf od = some (largeB sp wf od) := by
  unfold large_S largeB
  rw [show (25 : Int) = ((25 : Nat) : Int) from rfl, show (65 : Int) = ((65 : Nat) : Int) from rfl, show (15 : Int) = ((15 : Nat) : Int) from rfl, gt_n, gt_n, gt_n]
  cases h1 : decide (25 < sp.length) with
  | true => rfl
  | false =>
    cases h2 : decide (65 < wf.length) with
    | true => rfl
    | false =>
      cases h3 : decide (15 < od.length) with
      | true => rfl
      | false =>
        simp only [decide_eq_false_iff_not, Nat.not_lt] at h1 h2 h3
        show ob (large_L0 F sp wf od F 0) _ = _
        have := scan (fun n i => large_L0 F sp wf od n i) wf dW lgB (fun _ b => b.1 = true) (fun _ => True) (fun n => ⟨_, by
            show (bif decide (((wf.length : Nat) : Int) < ((wf.length - 0) : Int)) then _ else _) = _
            rw [Int.sub_zero, lt_f]; rfl, trivial⟩) (fun n i hi => by
            have e : large_L0 F sp wf od (n + 1) (i : Int) = bif lgB (nth wf dW i) then some (.inl (true, (sp, wf, od))) else large_L0 F sp wf od n ((i + 1 : Nat) : Int) := by
              show (bif decide ((i : Int) < ((wf.length - 0) : Int)) then bif inB (i : Int) (wf.length - 0) then ob (long_S F (nth wf dW (i : Int).toNat)) _ else none else _) = _
              rw [Int.sub_zero, lt_t hi, Nat.sub_zero, inB_nat hi, Int.toNat_natCast, long_eq]
              simp only [cond_true, ob_some]
              rw [i64s (by omega)]
            exact ⟨fun h => ⟨_, by rw [e, h]; rfl, rfl⟩, fun h => by rw [e, h]; rfl⟩) wf.length 0 F (by omega) (by omega)
        rw [List.drop_zero] at this
        rcases this with ⟨h4, j, b, _, _, _, _, h5, h6⟩ | ⟨h4, c, h5, _⟩
        · rw [show large_L0 F sp wf od F 0 = _ from h5, h4]
          show some b.1 = _
          rw [h6]; rfl
        · rw [show large_L0 F sp wf od F 0 = _ from h5, h4]; rfl
theorem large_no (h : largeB sp wf od = false) : (sp.length ≤ 25 ∧ wf.length ≤ 65 ∧ od.length ≤ 15) ∧ ∀ w ∈ wf, shortW w := by
  unfold largeB at h
  simp only [Bool.or_eq_false_iff, decide_eq_false_iff_not, Nat.not_lt] at h
  exact ⟨⟨h.1.1, h.1.2.1, h.1.2.2⟩, fun w hw => lg_short (by simpa using List.any_eq_false.1 h.2 w hw)⟩
theorem own_eq (F : Nat) (h : largeB sp wf od = false) (ar0 : A0) (ar1 : A1) : own_S F sp wf od ar0 ar1 = some (ar0, ar1, sp, wf, od) := by
  have h := (large_no h).1
  unfold own_S
  rw [lenOk_of (by omega), lenOk_of (by omega), lenOk_of (by omega)]
  rfl
theorem ints_eq (F : Nat) {l : List Int} (hl : l.length ≤ 1000000) (ar0 : A0) (ar1 : A1) : ints_S F l ar0 ar1 = some (ar0, ar1, l) := by
  unfold ints_S
  rw [lenOk_of (by omega)]; rfl
end
end Go.Proofs.YtbnapejkjaddoaaDoor


namespace Go.Proofs.YtbnapejkjaddoaaDoor
open Go.RowKit
set_option maxRecDepth 100000
section
variable {sp : List SpT} {wf : List WfT} {od : List OdT}
/-- v is the greatest rank of a market. -/
def Mx (sp : List SpT) (wf : List WfT) (od : List OdT) (v : Int) : Prop :=
  (∃ a, Mt.Feas od.length (pmM sp wf od) (cO od) (List.range' 0 wf.length) a ∧ Mt.val (wO od) a (List.range' 0 wf.length) = v) ∧ ∀ a, Mt.Feas od.length (pmM sp wf od) (cO od) (List.range' 0 wf.length) a → Mt.val (wO od) a (List.range' 0 wf.length) ≤ v
theorem feas_congr {k : Nat} {pm : Nat → Nat → Bool} {c c' : Nat → Int} {ws : List Nat} {a : Nat → Option Nat} (h : ∀ o, o < k → c o = c' o) (hf : Mt.Feas k pm c ws a) : Mt.Feas k pm c' ws a := ⟨hf.ok, fun o ho => by rw [← h o ho]; exact hf.le o ho⟩
theorem BestM.mx (h : MOk sp wf od) {v : Int} (hb : BestM sp wf od (nth ((List.range od.length).map (cO od)) 0) 0 v) : Mx sp wf od v := by
  refine ⟨?_, fun a ha => ?_⟩
  · obtain ⟨a, h1, h2⟩ := hb.got
    rw [Nat.sub_zero] at h1 h2
    exact ⟨a, feas_congr (fun o ho => nth_cO ho) h1, h2⟩
  · have := hb.upper h (a := a) (by rw [Nat.sub_zero]; exact feas_congr (fun o ho => (nth_cO ho).symm) ha)
    rw [Nat.sub_zero] at this; exact this
theorem nth_app {α : Type} (l : List α) (x d : α) {i : Nat} (h : i < l.length) : nth (l ++ [x]) d i = nth l d i := by
  unfold nth
  rw [List.getD_eq_getElem?_getD, List.getD_eq_getElem?_getD, List.getElem?_append_left h]
theorem range'_end (n : Nat) : List.range' 0 (n + 1) = List.range' 0 n ++ [n] := by
  rw [List.range'_concat]; simp
theorem mem_r {n x : Nat} : x ∈ List.range' 0 n ↔ x < n := by rw [List.mem_range']; constructor
                                                              · rintro ⟨i, h, rfl⟩; omega
                                                              · intro h; exact ⟨x, h, by omega⟩
theorem mx_wafer (w : WfT) {v v1 : Int} (h1 : MOk sp (wf ++ [w]) od) (hv : Mx sp wf od v) (hv1 : Mx sp (wf ++ [w]) od v1) : v ≤ v1 ∧ v1 ≤ v + 1001000000 := by
  have hlen : (wf ++ [w]).length = wf.length + 1 := by simp
  have hpm : ∀ x, x < wf.length → ∀ o, pmM sp (wf ++ [w]) od x o = pmM sp wf od x o := fun x hx o => by unfold pmM; rw [nth_app _ _ _ hx]
  constructor
  · obtain ⟨a, f1, f2⟩ := hv.1
    have ext : ∀ x, x ∈ List.range' 0 wf.length → (fun x => if x < wf.length then a x else none) x = a x := fun x hx => if_pos (mem_r.1 hx)
    have := hv1.2 (fun x => if x < wf.length then a x else none) ⟨fun x hx o ho => ?_, fun o ho => ?_⟩
    · rw [hlen, range'_end, Mt.val_app, Mt.val_congr ext, f2] at this
      simp only [Mt.val, Nat.lt_irrefl, if_false, Mt.gv] at this
      omega
    · by_cases hx' : x < wf.length
      · rw [if_pos hx'] at ho
        rw [hpm x hx']
        exact f1.ok x (mem_r.2 hx') o ho
      · rw [if_neg hx'] at ho; cases ho
    · rw [hlen, range'_end, Mt.cnt_app, Mt.cnt_congr ext]
      have := f1.le o ho
      unfold Mt.cnt at this ⊢
      simp only [List.filter_cons, Nat.lt_irrefl, if_false]
      simpa using this
  · obtain ⟨a, f1, f2⟩ := hv1.1
    rw [hlen, range'_end] at f1 f2
    rw [Mt.val_app] at f2
    have h3 := hv.2 a ⟨fun x hx o ho => by
      have := f1.ok x (List.mem_append_left _ hx) o ho
      rw [hpm x (mem_r.1 hx)] at this
      exact this, fun o ho => by
      have := f1.le o ho
      rw [Mt.cnt_app] at this
      have := Mt.cnt_nn a [wf.length] o
      omega⟩
    have h4 : Mt.val (wO od) a [wf.length] ≤ 1001000000 := by
      simp only [Mt.val]
      cases ha : a wf.length with
      | none => simp [Mt.gv]
      | some o =>
        have := f1.ok wf.length (by simp) o ha
        have := wO_le h1 this.1
        simp only [Mt.gv]; omega
    omega
theorem mx_order (o : OdT) {v v2 : Int} (h2 : MOk sp wf (od ++ [o])) (hv : Mx sp wf od v) (hv2 : Mx sp wf (od ++ [o]) v2) : v ≤ v2 := by
  have hlen : (od ++ [o]).length = od.length + 1 := by simp
  have hn : ∀ x, x < od.length → nth (od ++ [o]) dO x = nth od dO x := fun x hx => nth_app _ _ _ hx
  obtain ⟨a, f1, f2⟩ := hv.1
  have := hv2.2 a ⟨fun x hx p hp => ?_, fun p hp => ?_⟩
  · rw [← f2]
    refine Int.le_trans ?_ this
    refine Mt.val_le (fun x hx => ?_)
    cases ha : a x with
    | none => exact Int.le_refl _
    | some p =>
      have := f1.ok x hx p ha
      simp only [Mt.gv, wO, hn p this.1]; omega
  · have := f1.ok x hx p hp
    refine ⟨by omega, ?_⟩
    unfold pmM passB at *
    rw [hn p this.1]; exact this.2
  · by_cases e : p < od.length
    · have := f1.le p e
      unfold cO at this ⊢
      rw [hn p e]; exact this
    · have h0 : Mt.cnt a (List.range' 0 wf.length) p = 0 := by
        unfold Mt.cnt
        rw [List.filter_eq_nil_iff.2 (fun x hx hh => by
          have := f1.ok x hx p (by simpa using hh)
          omega)]
        rfl
      rw [h0]
      exact (h2.cnt p hp).1
/-- One place more in each order. -/
def upO (x : OdT) : OdT := (x.1, ((if (60 : Int) < x.2.1 + 1 then (60 : Int) else x.2.1 + 1), x.2.2))
theorem nth_map {α β : Type} (f : α → β) (l : List α) (d : α) (d' : β) {i : Nat} (h : i < l.length) : nth (l.map f) d' i = f (nth l d i) := by
  unfold nth
  rw [List.getD_eq_getElem?_getD, List.getD_eq_getElem?_getD, List.getElem?_map, List.getElem?_eq_getElem h]; rfl
theorem mx_up {v v3 : Int} (h : MOk sp wf od) (hv : Mx sp wf od v) (hv3 : Mx sp wf (od.map upO) v3) : v ≤ v3 := by
  have hlen : (od.map upO).length = od.length := by simp
  have hn : ∀ x, x < od.length → nth (od.map upO) dO x = upO (nth od dO x) := fun x hx => nth_map upO od dO dO hx
  obtain ⟨a, f1, f2⟩ := hv.1
  have := hv3.2 a ⟨fun x hx p hp => ?_, fun p hp => ?_⟩
  · rw [← f2]
    refine Int.le_trans ?_ this
    refine Mt.val_le (fun x hx => ?_)
    cases ha : a x with
    | none => exact Int.le_refl _
    | some p =>
      have := f1.ok x hx p ha
      simp only [Mt.gv, wO, hn p this.1, upO]; omega
  · have := f1.ok x hx p hp
    refine ⟨by rw [hlen]; exact this.1, ?_⟩
    have h4 := this.2
    unfold pmM passB at h4 ⊢
    rw [hn p this.1]; exact h4
  · rw [hlen] at hp
    have := f1.le p hp
    have h5 := h.cnt p hp
    unfold cO at this ⊢
    rw [hn p hp]
    unfold upO
    dsimp only
    split <;> omega
theorem chk_up (hc : chkE sp wf od = 0) : chkE sp wf (od.map upO) = 0 := by
  have h := chk_ok hc
  have h1 := h.s
  have h2 := h.w
  have h3 := h.o
  unfold chkE at hc ⊢
  rw [show (decide (20 < sp.length) || (decide (60 < wf.length) || decide (12 < (od.map upO).length))) = false by simp; omega]
  rw [show (decide (20 < sp.length) || (decide (60 < wf.length) || decide (12 < od.length))) = false by simp; omega] at hc
  cases h4 : (sp.any (fun s => !spB s) || (wf.any (fun s => !wfB s) || od.any (fun s => !odB sp.length s))) with
  | true => rw [h4] at hc; cases hc
  | false =>
    simp only [Bool.or_eq_false_iff] at h4
    rw [h4.1, h4.2.1]
    have h5 : (od.map upO).any (fun s => !odB sp.length s) = false := by
      rw [List.any_eq_false]
      intro x hx
      obtain ⟨y, hy, rfl⟩ := List.mem_map.1 hx
      have h6 : odB sp.length y = true := by simpa using List.any_eq_false.1 h4.2.2 y hy
      unfold odB at h6
      simp only [Bool.and_eq_true] at h6
      have h7 := inI_ok h6.2.1
      have h8 : odB sp.length (upO y) = true := by
        unfold odB upO
        simp only [Bool.and_eq_true]
        refine ⟨h6.1, ?_, h6.2.2.1, h6.2.2.2⟩
        unfold inI
        simp only [Bool.and_eq_true, decide_eq_true_eq]
        split <;> omega
      simpa using h8
    rw [h5]; rfl
theorem val_map (g : Nat → Int) (a : Nat → Option Nat) (f : Nat → Nat) : ∀ ws : List Nat, Mt.val g (fun x => a (f x)) ws = Mt.val g a (ws.map f)
  | [] => rfl
  | x :: ws => by simp only [Mt.val, List.map_cons, val_map g a f ws]
theorem cnt_map (a : Nat → Option Nat) (f : Nat → Nat) (o : Nat) : ∀ ws : List Nat, Mt.cnt (fun x => a (f x)) ws o = Mt.cnt a (ws.map f) o
  | [] => rfl
  | x :: ws => by rw [Mt.cnt_cons, List.map_cons, Mt.cnt_cons, cnt_map a f o ws]
theorem val_rev (g : Nat → Int) (a : Nat → Option Nat) : ∀ ws : List Nat, Mt.val g a ws.reverse = Mt.val g a ws
  | [] => rfl
  | x :: ws => by rw [List.reverse_cons, Mt.val_app, val_rev g a ws]; simp only [Mt.val]; omega
theorem cnt_rev (a : Nat → Option Nat) (o : Nat) : ∀ ws : List Nat, Mt.cnt a ws.reverse o = Mt.cnt a ws o
  | [] => rfl
  | x :: ws => by rw [List.reverse_cons, Mt.cnt_app, cnt_rev a o ws, Mt.cnt_cons, Mt.cnt_cons]; unfold Mt.cnt; simp; omega
theorem rev_map (n : Nat) : (List.range' 0 n).map (fun x => n - 1 - x) = (List.range' 0 n).reverse := by
  rw [List.reverse_range', ← List.range_eq_range', Nat.zero_add]
theorem nth_rev (l : List WfT) {x : Nat} (hx : x < l.length) : nth l.reverse dW x = nth l dW (l.length - 1 - x) := by
  rw [← nth_eq l.reverse dW x (by simpa using hx), ← nth_eq l dW (l.length - 1 - x) (by omega), List.getElem_reverse]
theorem mx_rev1 {v v4 : Int} (hv : Mx sp wf od v) (hv4 : Mx sp wf.reverse od v4) : v ≤ v4 := by
  obtain ⟨a, f1, f2⟩ := hv.1
  have hl : wf.reverse.length = wf.length := by simp
  have := hv4.2 (fun x => a (wf.length - 1 - x)) (by
    rw [hl]
    refine ⟨fun x hx o ho => ?_, fun o ho => ?_⟩
    · have hx' := mem_r.1 hx
      have := f1.ok (wf.length - 1 - x) (mem_r.2 (by omega)) o ho
      refine ⟨this.1, ?_⟩
      unfold pmM at *
      rw [nth_rev _ hx']; exact this.2
    · rw [cnt_map, rev_map, cnt_rev]; exact f1.le o ho)
  rw [hl, val_map, rev_map, val_rev, f2] at this
  exact this
theorem mx_rev {v v4 : Int} (hv : Mx sp wf od v) (hv4 : Mx sp wf.reverse od v4) : v4 = v := by
  have h1 := mx_rev1 hv hv4
  have h2 := mx_rev1 hv4 (by rw [List.reverse_reverse]; exact hv)
  omega
theorem chk_rev : chkE sp wf.reverse od = chkE sp wf od := by
  unfold chkE
  rw [List.length_reverse, List.any_reverse]
end
end Go.Proofs.YtbnapejkjaddoaaDoor


namespace Go.Proofs.YtbnapejkjaddoaaDoor
open Go.RowKit
set_option maxRecDepth 100000
theorem take_set {α : Type} (L R : List α) (d : α) (h : L.length = R.length) {i : Nat} (hi : i < R.length) : List.set (L.take i ++ R.drop i) i (nth L d i) = L.take (i + 1) ++ R.drop (i + 1) := by
  have hl : (L.take i).length = i := by rw [List.length_take]; omega
  rw [List.set_append_right _ _ (by omega), hl, Nat.sub_self, List.drop_eq_getElem_cons hi, List.set_cons_zero, List.take_succ_eq_append_getElem (by omega), List.append_assoc, ← nth_eq L d i (by omega)]
  rfl
theorem nth_mid {α : Type} (L R : List α) (d : α) (h : L.length = R.length) {i : Nat} (hi : i < R.length) : nth (L.take i ++ R.drop i) d i = nth R d i := by
  have hl : (L.take i).length = i := by rw [List.length_take]; omega
  unfold nth
  rw [List.getD_eq_getElem?_getD, List.getD_eq_getElem?_getD, List.getElem?_append_right (by omega), hl, Nat.sub_self, List.getElem?_drop]
  rfl
theorem len_mid {α : Type} (L R : List α) (h : L.length = R.length) {i : Nat} (hi : i ≤ R.length) : (L.take i ++ R.drop i).length = R.length := by
  rw [List.length_append, List.length_take, List.length_drop]; omega
theorem rk64 {v : Int} (h : 0 ≤ v ∧ v ≤ 1000000000000) : IntKind.wrap IntKind.i64 ((IntKind.wrap IntKind.i64 (v / 1000000000 * 1000000000)) + v % 1000000000) = v := by
  rw [w64 (v / 1000000000 * 1000000000) (by omega), w64 _ (by omega)]; omega
section
variable {sp : List SpT} {wf : List WfT} {od : List OdT}
theorem more0 (F : Nat) (p e : Int) (B : A0) (C : A1) (a1 : List SpT) (a2 : List WfT) (a3 : List OdT) (b1 : List SpT) (b2 : List WfT) (b3 : List OdT) (c1 : List SpT) (c2 : List WfT) (d1 : List SpT) (d2 : List WfT) (d3 : List OdT) (h : ∀ x ∈ od, -1000 ≤ x.2.1 ∧ x.2.1 ≤ 1000) (ho : od.length ≤ 1000) : ∀ m i n, i + m = od.length → m < n → oMore_L0 F p e sp wf od B C a1 a2 a3 b1 b2 b3 c1 c2 d1 d2 d3 n (i : Int) ((od.map upO).take i ++ od.drop i) = some ((p, e), (sp, wf, od, B, C, a1, a2, a3, b1, b2, b3, c1, c2, od.map upO, d1, d2, d3))
  | 0, i, n + 1, hi, _ => by
    have : i = od.length := by omega
    subst this
    rw [List.drop_length, List.append_nil, List.take_of_length_le (by simp)]
    show (bif decide ((od.length : Int) < ((od.length - 0) : Int)) then _ else _) = _
    rw [Int.sub_zero, lt_f]; rfl
  | m + 1, i, n + 1, hi, hn => by
    have hl : i < od.length := by omega
    have ih := more0 F p e B C a1 a2 a3 b1 b2 b3 c1 c2 d1 d2 d3 h ho m (i + 1) n (by omega) (by omega)
    have hlen : (od.map upO).length = od.length := by simp
    rw [← ih, ← take_set (od.map upO) od dO hlen hl, nth_map upO od dO dO hl]
    show (bif decide ((i : Int) < ((od.length - 0) : Int)) then bif inB (i : Int) (((od.map upO).take i ++ od.drop i).length - 0) then bif inB (i : Int) (((od.map upO).take i ++ od.drop i).length - 0) then oMore_L0 F p e sp wf od B C a1 a2 a3 b1 b2 b3 c1 c2 d1 d2 d3 n (IntKind.wrap IntKind.i64 ((i : Int) + 1)) (List.set ((od.map upO).take i ++ od.drop i) (i : Int).toNat ((nth ((od.map upO).take i ++ od.drop i) dO (i : Int).toNat).1, ((if (60 : Int) < (IntKind.wrap IntKind.i64 ((nth ((od.map upO).take i ++ od.drop i) dO (i : Int).toNat).2.1 + 1)) then (60 : Int) else (IntKind.wrap IntKind.i64 ((nth ((od.map upO).take i ++ od.drop i) dO (i : Int).toNat).2.1 + 1))), (nth ((od.map upO).take i ++ od.drop i) dO (i : Int).toNat).2.2))) else none else none else _) = _
    have hx := h _ (nth_mem (d := dO) hl)
    rw [show decide ((i : Int) < ((od.length - 0) : Int)) = true by rw [Int.sub_zero]; exact lt_t hl, len_mid _ _ hlen (by omega), show inB (i : Int) (od.length - 0) = true from inB_nat hl, i64s (by omega), Int.toNat_natCast, nth_mid _ _ _ hlen hl, w64 _ (by omega)]
    rfl
  | m, i, 0, _, hn => by omega
theorem more1 (F : Nat) (p e : Int) (B : A0) (C : A1) (a1 : List SpT) (a2 : List WfT) (a3 : List OdT) (b1 : List SpT) (b2 : List WfT) (b3 : List OdT) (c1 : List SpT) (c2 : List WfT) (c3 : List OdT) (d1 : List SpT) (d3 : List OdT) (hw : wf.length ≤ 1000) : ∀ m i n, i + m = wf.length → m < n → oMore_L1 F p e sp wf od B C a1 a2 a3 b1 b2 b3 c1 c2 c3 d1 d3 n (i : Int) (wf.reverse.take i ++ wf.drop i) = some ((p, e), (sp, wf, od, B, C, a1, a2, a3, b1, b2, b3, c1, c2, c3, d1, wf.reverse, d3))
  | 0, i, n + 1, hi, _ => by
    have : i = wf.length := by omega
    subst this
    rw [List.drop_length, List.append_nil, List.take_of_length_le (by simp)]
    show (bif decide ((wf.length : Int) < ((wf.length - 0) : Int)) then _ else _) = _
    rw [Int.sub_zero, lt_f]; rfl
  | m + 1, i, n + 1, hi, hn => by
    have hl : i < wf.length := by omega
    have ih := more1 F p e B C a1 a2 a3 b1 b2 b3 c1 c2 c3 d1 d3 hw m (i + 1) n (by omega) (by omega)
    have hlen : wf.reverse.length = wf.length := by simp
    rw [← ih, ← take_set wf.reverse wf dW hlen hl, nth_rev _ hl]
    show (bif decide ((i : Int) < ((wf.length - 0) : Int)) then bif inB (IntKind.wrap IntKind.i64 ((IntKind.wrap IntKind.i64 (((wf.length - 0) : Int) - 1)) - (i : Int))) (wf.length - 0) then bif inB (i : Int) ((wf.reverse.take i ++ wf.drop i).length - 0) then oMore_L1 F p e sp wf od B C a1 a2 a3 b1 b2 b3 c1 c2 c3 d1 d3 n (IntKind.wrap IntKind.i64 ((i : Int) + 1)) (List.set (wf.reverse.take i ++ wf.drop i) (i : Int).toNat (nth wf dW (IntKind.wrap IntKind.i64 ((IntKind.wrap IntKind.i64 (((wf.length - 0) : Int) - 1)) - (i : Int))).toNat)) else none else none else _) = _
    rw [show decide ((i : Int) < ((wf.length - 0) : Int)) = true by rw [Int.sub_zero]; exact lt_t hl, len_mid _ _ hlen (by omega), show inB (i : Int) (wf.length - 0) = true from inB_nat hl, i64s (by omega), Int.toNat_natCast, Int.sub_zero, w64 ((wf.length : Int) - 1) (by omega), w64 _ (by omega), show ((wf.length : Int) - 1 - (i : Int)) = ((wf.length - 1 - i : Nat) : Int) by omega, Int.toNat_natCast, show inB ((wf.length - 1 - i : Nat) : Int) (wf.length - 0) = true from inB_nat (by omega)]
    rfl
  | m, i, 0, _, hn => by omega
theorem val_cnt2 {k : Nat} {pm : Nat → Nat → Bool} {a : Nat → Option Nat} (hW : ∀ o, o < k → 1000000000 ≤ wO od o ∧ wO od o ≤ 1001000000) : ∀ ws : List Nat, (∀ w, w ∈ ws → ∀ o, a w = some o → o < k ∧ pm w o = true) → ∃ c : Int, 0 ≤ c ∧ c ≤ (ws.length : Int) ∧ 1000000000 * c ≤ Mt.val (wO od) a ws ∧ Mt.val (wO od) a ws ≤ 1001000000 * c
  | [], _ => ⟨0, by omega, by simp, by simp [Mt.val], by simp [Mt.val]⟩
  | w :: ws, h => by
    obtain ⟨c, h1, h2, h3, h4⟩ := val_cnt2 hW ws (fun x hx => h x (List.mem_cons_of_mem _ hx))
    simp only [Mt.val, List.length_cons]
    cases ha : a w with
    | none => exact ⟨c, h1, by omega, by simp only [Mt.gv]; omega, by simp only [Mt.gv]; omega⟩
    | some o =>
      have := hW o (h w List.mem_cons_self o ha).1
      exact ⟨c + 1, by omega, by omega, by simp only [Mt.gv]; omega, by simp only [Mt.gv]; omega⟩
theorem Mx.cnt (h : MOk sp wf od) {v : Int} (hv : Mx sp wf od v) : ∃ c : Int, 0 ≤ c ∧ c ≤ (wf.length : Int) ∧ 1000000000 * c ≤ v ∧ v ≤ 1001000000 * c := by
  obtain ⟨a, f1, rfl⟩ := hv.1
  have := val_cnt2 (od := od) (k := od.length) (pm := pmM sp wf od) (a := a) (fun o ho => wO_le h ho) (List.range' 0 wf.length) f1.ok
  simpa using this
theorem asg_ok (F : Nat) (hF : 2000 < F) (hw : wfsOk wf) (hc : chkE sp wf od = 0) (ar0 : A0) (ar1 : A1) : ∃ (v : Int) (B : A0) (C : A1) (L : List Int), assign_S F sp wf od ar0 ar1 = some ((v / 1000000000, v % 1000000000, 0), (B, C, L)) ∧ Mx sp wf od v := by
  obtain ⟨tl, v, B, C, e1, _, e2, _⟩ := assign_eq F hF hw ar0 ar1 hc
  exact ⟨v, B, C, tl, e1, e2.mx (chk_ok hc)⟩
theorem oMore_law0 (F : Nat) (hF : 2000 < F) (w : WfT) (o : OdT) (sp : List SpT) (wf : List WfT) (od : List OdT) (hu : ∀ w ∈ wf, 0 ≤ w.2.1 ∧ w.2.1 ≤ 255) (hw1 : 0 ≤ w.2.1 ∧ w.2.1 ≤ 255) : ∃ B C, oMore_S F w o sp wf od [] [] = some (true, B, C) := by
  unfold oMore_S
  rw [large_eq F (by omega)]
  cases hl : largeB sp wf od with
  | true => exact ⟨[], [], rfl⟩
  | false =>
    obtain ⟨hn, hsh⟩ := large_no hl
    have hw : wfsOk wf := fun w h => ⟨hu w h, hsh w h⟩
    rw [show (16 : Int) = ((16 : Nat) : Int) from rfl, show (11 : Int) = ((11 : Nat) : Int) from rfl, gt_n, gt_n]
    cases h16 : decide (16 < wf.length) with
    | true => exact ⟨[], [], rfl⟩
    | false =>
      cases h11 : decide (11 < od.length) with
      | true => exact ⟨[], [], rfl⟩
      | false =>
        simp only [decide_eq_false_iff_not, Nat.not_lt] at h16 h11
        rw [long_eq]
        cases hlg : lgB w with
        | true => exact ⟨[], [], rfl⟩
        | false =>
          have hwm : wfsOk (wf ++ [w]) := fun x hx => by
            rcases List.mem_append.1 hx with hx | hx
            · exact hw x hx
            · rw [List.mem_singleton] at hx; subst hx; exact ⟨hw1, lg_short hlg⟩
          show ∃ B C, ob (own_S F sp wf od [] []) _ = _
          rw [own_eq F hl]
          show ∃ B C, ob (assign_S F sp wf od [] []) _ = _
          by_cases hc : chkE sp wf od = 0
          · have h := chk_ok hc
            obtain ⟨v, B, C, L, e1, hv⟩ := asg_ok F hF hw hc [] []
            obtain ⟨cn, q1, q2, q3, q4⟩ := hv.cnt h
            rw [e1]
            show ∃ B' C', ob (own_S F sp wf od B C) _ = _
            rw [own_eq F hl]
            show ∃ B' C', ob (own_S F sp wf od B C) _ = _
            rw [own_eq F hl]
            show ∃ B' C', ob (own_S F sp wf od B C) _ = _
            rw [own_eq F hl]
            show ∃ B' C', ob (own_S F sp wf od B C) _ = _
            rw [own_eq F hl]
            show ∃ B' C', (bif lenOk (wf.length - 0) 1 then bif lenOk (od.length - 0) 1 then ob (oMore_L0 F (v / 1000000000) (v % 1000000000) sp wf od B C sp (wf ++ [w]) od sp wf (od ++ [o]) sp wf sp wf od F 0 od) _ else none else none) = _
            rw [lenOk_of (by omega), lenOk_of (by omega)]
            have e2 := more0 (sp := sp) (wf := wf) (od := od) F (v / 1000000000) (v % 1000000000) B C sp (wf ++ [w]) od sp wf (od ++ [o]) sp wf sp wf od (fun x hx => by
              obtain ⟨i, hi, rfl⟩ := List.getElem_of_mem hx
              have := h.cnt i hi
              rw [← nth_eq od dO i hi] at this; omega) (by omega) od.length 0 F (by omega) (by omega)
            rw [List.take_zero, List.drop_zero, List.nil_append] at e2
            rw [show oMore_L0 F (v / 1000000000) (v % 1000000000) sp wf od B C sp (wf ++ [w]) od sp wf (od ++ [o]) sp wf sp wf od F 0 od = _ from e2]
            show ∃ B' C', ob (oMore_L1 F (v / 1000000000) (v % 1000000000) sp wf od B C sp (wf ++ [w]) od sp wf (od ++ [o]) sp wf (od.map upO) sp od F 0 wf) _ = _
            have e3 := more1 (sp := sp) (wf := wf) (od := od) F (v / 1000000000) (v % 1000000000) B C sp (wf ++ [w]) od sp wf (od ++ [o]) sp wf (od.map upO) sp od (by omega) wf.length 0 F (by omega) (by omega)
            rw [List.take_zero, List.drop_zero, List.nil_append] at e3
            rw [show oMore_L1 F (v / 1000000000) (v % 1000000000) sp wf od B C sp (wf ++ [w]) od sp wf (od ++ [o]) sp wf (od.map upO) sp od F 0 wf = _ from e3]
            -- the four assignments
            have h8 : ∃ (a b e : Int) (B' : A0) (C' : A1) (L' : List Int), assign_S F sp (wf ++ [w]) od B C = some ((a, b, e), (B', C', L')) ∧ (e = 2 ∨ (e = 0 ∧ ∃ v1 : Int, a = v1 / 1000000000 ∧ b = v1 % 1000000000 ∧ v ≤ v1 ∧ v1 ≤ v + 1001000000)) := by
              by_cases hc1 : chkE sp (wf ++ [w]) od = 0
              · obtain ⟨v1, B', C', L', g1, g2⟩ := asg_ok F hF hwm hc1 B C
                have := mx_wafer w (chk_ok hc1) hv g2
                exact ⟨_, _, _, B', C', L', g1, .inr ⟨rfl, v1, rfl, rfl, this.1, this.2⟩⟩
              · refine ⟨_, _, _, _, _, _, assign_bad F hF hwm B C hc1, .inl ?_⟩
                have h1 := h.s
                unfold chkE at hc1 ⊢
                rw [show (decide (20 < sp.length) || (decide (60 < (wf ++ [w]).length) || decide (12 < od.length))) = false by simp; omega] at hc1 ⊢
                cases hx : (sp.any (fun s => !spB s) || ((wf ++ [w]).any (fun s => !wfB s) || od.any (fun s => !odB sp.length s))) with
                | true => rfl
                | false => rw [hx] at hc1; exact absurd rfl hc1
            obtain ⟨a8, b8, c8, B8, C8, L8, g8, k8⟩ := h8
            have h9 : ∃ (a b e : Int) (B' : A0) (C' : A1) (L' : List Int), assign_S F sp wf (od ++ [o]) B8 C8 = some ((a, b, e), (B', C', L')) ∧ (e = 2 ∨ (e = 0 ∧ ∃ v1 : Int, a = v1 / 1000000000 ∧ b = v1 % 1000000000 ∧ v ≤ v1 ∧ v1 ≤ 1000000000000)) := by
              by_cases hc1 : chkE sp wf (od ++ [o]) = 0
              · obtain ⟨v1, B', C', L', g1, g2⟩ := asg_ok F hF hw hc1 B8 C8
                have := mx_order o (chk_ok hc1) hv g2
                obtain ⟨c', r1, r2, r3, r4⟩ := g2.cnt (chk_ok hc1)
                exact ⟨_, _, _, B', C', L', g1, .inr ⟨rfl, v1, rfl, rfl, this, by omega⟩⟩
              · refine ⟨_, _, _, _, _, _, assign_bad F hF hw B8 C8 hc1, .inl ?_⟩
                have h1 := h.s
                unfold chkE at hc1 ⊢
                rw [show (decide (20 < sp.length) || (decide (60 < wf.length) || decide (12 < (od ++ [o]).length))) = false by simp; omega] at hc1 ⊢
                cases hx : (sp.any (fun s => !spB s) || (wf.any (fun s => !wfB s) || (od ++ [o]).any (fun s => !odB sp.length s))) with
                | true => rfl
                | false => rw [hx] at hc1; exact absurd rfl hc1
            obtain ⟨a9, b9, c9, B9, C9, L9, g9, k9⟩ := h9
            have hcu := chk_up hc
            obtain ⟨v3, B3, C3, L3, g3, m3⟩ := asg_ok F hF hw hcu B9 C9
            have hv3 := mx_up h hv m3
            obtain ⟨c3, r1, r2, r3, r4⟩ := m3.cnt (chk_ok hcu)
            have hcr : chkE sp wf.reverse od = 0 := by rw [chk_rev]; exact hc
            obtain ⟨v4, B4, C4, L4, g4, m4⟩ := asg_ok F hF (wf := wf.reverse) (fun x hx => hw x (List.mem_reverse.1 hx)) hcr B3 C3
            have hv4 := mx_rev hv m4
            subst hv4
            refine ⟨B4, C4, ?_⟩
            show ob (assign_S F sp (wf ++ [w]) od B C) _ = _
            rw [g8]
            show ob (assign_S F sp wf (od ++ [o]) B8 C8) _ = _
            rw [g9]
            show ob (assign_S F sp wf (od.map upO) B9 C9) _ = _
            rw [g3]
            show ob (assign_S F sp wf.reverse od B3 C3) _ = _
            rw [g4]
            have t0 := rk64 (v := v4) (by omega)
            have t3 := rk64 (v := v3) (by omega)
            rcases k8 with rfl | ⟨rfl, v8, rfl, rfl, s1, s2⟩
            · rcases k9 with rfl | ⟨rfl, v9, rfl, rfl, s3, s4⟩
              · simp [ob, t0, t3, hv3]
              · have t9 := rk64 (v := v9) (by omega)
                simp [ob, t0, t3, hv3, t9, s3]
            · have t8 := rk64 (v := v8) (by omega)
              have s5 : v8 / 1000000000 ≤ IntKind.wrap IntKind.i64 (v4 / 1000000000 + 1) := by
                rw [w64 _ (by omega)]; omega
              rcases k9 with rfl | ⟨rfl, v9, rfl, rfl, s3, s4⟩
              · simp [ob, t0, t3, hv3, t8, s1, s5]
              · have t9 := rk64 (v := v9) (by omega)
                simp [ob, t0, t3, hv3, t9, s3, t8, s1, s5]
          · rw [assign_bad F hF hw [] [] hc]
            refine ⟨[], [], ?_⟩
            show (bif chkE sp wf od != 0 then some (true, ([] : A0), ([] : A1)) else _) = _
            rw [show (chkE sp wf od != 0) = true by simpa using hc]
            rfl
end
end Go.Proofs.YtbnapejkjaddoaaDoor
