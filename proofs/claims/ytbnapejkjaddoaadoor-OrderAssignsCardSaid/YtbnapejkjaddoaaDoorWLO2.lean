/- Plain laws of chapter 10: lists and assignments. No condition. -/
import Derived.Test.YtbnapejkjaddoaaDoorWMI7
import Derived.Laws.StructEq
import Derived.Test.YtbnapejkjaddoaaDoorWXA11a

namespace Go.Proofs.YtbnapejkjaddoaaDoor
open Go.RowKit
set_option maxRecDepth 100000
section
variable {nW k : Nat} {pm : Nat → Nat → Bool} {W : Nat → Int}
theorem rkF_shift : ∀ (ts : List Int) (i : Nat) (l : Nat → Int) (n c : Int), rkF nW k pm W i ts l (n + c) = (rkF nW k pm W i ts l n).map (· + c)
  | [], _, _, _, _ => rfl
  | t :: ts, i, l, n, c => by
    simp only [rkF]
    split
    · exact rkF_shift ts _ _ _ _
    · split
      · rw [show n + c + W t.toNat = (n + W t.toNat) + c by omega]; exact rkF_shift ts _ _ _ _
      · rfl
theorem rkF_zero (ts : List Int) (i : Nat) (l : Nat → Int) (n v : Int) : rkF nW k pm W i ts l n = some v ↔ rkF nW k pm W i ts l 0 = some (v - n) := by
  have := rkF_shift (nW := nW) (k := k) (pm := pm) (W := W) ts i l 0 n
  rw [Int.zero_add] at this
  rw [this]
  cases rkF nW k pm W i ts l 0 with
  | none => simp
  | some x => simp only [Option.map_some, Option.some.injEq]; omega
def oI : Option Nat → Int
  | none => -1
  | some o => (o : Int)
theorem range'_cons' (i m : Nat) : List.range' i (m + 1) = i :: List.range' (i + 1) m := List.range'_succ
/-- An assignment, as a list. -/
theorem feas_rk : ∀ (m i : Nat) (l : Nat → Int) (a : Nat → Option Nat), i + m ≤ nW → Mt.Feas k pm l (List.range' i m) a → rkF nW k pm W i ((List.range' i m).map (fun w => oI (a w))) l 0 = some (Mt.val W a (List.range' i m))
  | 0, _, _, _, _, _ => rfl
  | m + 1, i, l, a, hi, h => by
    have hni : i ∉ List.range' (i + 1) m := fun hx => by rw [List.mem_range'] at hx; obtain ⟨t, _, e⟩ := hx; omega
    rw [range'_cons'] at h ⊢
    rw [List.map_cons]
    simp only [rkF]
    cases ha : a i with
    | none =>
      have h' : Mt.Feas k pm l (List.range' (i + 1) m) a := ⟨fun w hw => h.ok w (List.mem_cons_of_mem _ hw), fun o ho => by
        have := h.le o ho
        rw [Mt.cnt_cons, ha, if_neg (by simp)] at this; omega⟩
      rw [show oI none = -1 from rfl, if_pos rfl, feas_rk m (i + 1) l a (by omega) h']
      simp only [Mt.val, ha, Mt.gv]
      congr 1; omega
    | some o =>
      obtain ⟨h1, h2⟩ := h.ok i List.mem_cons_self o ha
      have h3 := h.le o h1
      rw [Mt.cnt_cons, ha, if_pos rfl] at h3
      have h4 := Mt.cnt_nn a (List.range' (i + 1) m) o
      have h' : Mt.Feas k pm (updF l o (l o - 1)) (List.range' (i + 1) m) a := ⟨fun w hw => h.ok w (List.mem_cons_of_mem _ hw), fun p hp => by
        have := h.le p hp
        rw [Mt.cnt_cons, ha] at this
        unfold updF
        by_cases e : p = o
        · subst e; rw [if_pos rfl] at this ⊢; omega
        · rw [if_neg e]; rw [if_neg (by simpa using fun e' => e e'.symm)] at this; omega⟩
      rw [show oI (some o) = (o : Int) from rfl, if_neg (by omega), Int.toNat_natCast, if_pos ⟨by omega, ⟨by omega, h1⟩, h2, by omega⟩]
      rw [rkF_zero, feas_rk m (i + 1) _ a (by omega) h' |> (fun e => show rkF nW k pm W (i + 1) _ _ 0 = some _ from e)]
      simp only [Mt.val, ha, Mt.gv]
      congr 1; omega
/-- A list, as an assignment. -/
theorem rk_feas : ∀ (ts : List Int) (i : Nat) (l : Nat → Int) (v : Int), (∀ o, o < k → 0 ≤ l o) → rkF nW k pm W i ts l 0 = some v → ∃ a, Mt.Feas k pm l (List.range' i ts.length) a ∧ Mt.val W a (List.range' i ts.length) = v
  | [], i, l, v, hl, h => by
    cases h
    exact ⟨fun _ => none, ⟨(fun w hw => by cases hw), (fun o ho => by unfold Mt.cnt; simpa using hl o ho)⟩, rfl⟩
  | t :: ts, i, l, v, hl, h => by
    have hni : i ∉ List.range' (i + 1) ts.length := fun hx => by rw [List.mem_range'] at hx; obtain ⟨t, _, e⟩ := hx; omega
    have ext : ∀ (a : Nat → Option Nat) (x : Option Nat), ∀ w, w ∈ List.range' (i + 1) ts.length → (fun w => if w = i then x else a w) w = a w := fun a x w hw => if_neg (by intro e; subst e; exact hni hw)
    rw [List.length_cons, range'_cons']
    simp only [rkF] at h
    split at h
    · obtain ⟨a, h1, h2⟩ := rk_feas ts (i + 1) l v hl h
      refine ⟨fun w => if w = i then none else a w, ⟨fun w hw o ho => ?_, fun o ho => ?_⟩, ?_⟩
      · rcases List.mem_cons.1 hw with rfl | hw
        · simp at ho
        · rw [show (if w = i then none else a w) = a w from ext a none w hw] at ho; exact h1.ok w hw o ho
      · rw [Mt.cnt_cons, if_neg (by simp), Mt.cnt_congr (ext a none)]
        have := h1.le o ho; omega
      · simp only [Mt.val, if_true, Mt.gv]
        rw [Mt.val_congr (ext a none), h2]; omega
    · split at h
      · rename_i hc
        obtain ⟨hc1, ⟨hc2, hc3⟩, hc4, hc5⟩ := hc
        rw [rkF_zero] at h
        obtain ⟨a, h1, h2⟩ := rk_feas ts (i + 1) _ _ (fun o ho => by unfold updF; have := hl o ho; split <;> omega) h
        refine ⟨fun w => if w = i then some t.toNat else a w, ⟨fun w hw o ho => ?_, fun o ho => ?_⟩, ?_⟩
        · rcases List.mem_cons.1 hw with rfl | hw
          · simp only [if_true, Option.some.injEq] at ho
            subst ho; exact ⟨hc3, hc4⟩
          · rw [show (if w = i then some t.toNat else a w) = a w from ext a _ w hw] at ho; exact h1.ok w hw o ho
        · rw [Mt.cnt_cons, Mt.cnt_congr (ext a _)]
          have := h1.le o ho
          unfold updF at this
          by_cases e : o = t.toNat
          · rw [if_pos e] at this; rw [if_pos (by simp [e]), e]
            rw [e] at this; omega
          · rw [if_neg e] at this; rw [if_neg (by simpa using fun e' => e e'.symm)]; omega
        · simp only [Mt.val, if_true, Mt.gv]
          rw [Mt.val_congr (ext a _), h2]; omega
      · cases h
end
section
variable {sp : List SpT} {wf : List WfT} {od : List OdT}
theorem BestM.up (h : MOk sp wf od) {cap : Nat → Int} (hc : ∀ o, o < od.length → 0 ≤ cap o) {fr : Nat} {m : Int} (hb : BestM sp wf od cap fr m) {ts : List Int} (ht : ts.length = wf.length - fr) {v : Int} (hv : rkF wf.length od.length (pmM sp wf od) (wO od) fr ts cap 0 = some v) : v ≤ m := by
  obtain ⟨a, h1, h2⟩ := rk_feas ts fr cap v hc hv
  rw [ht] at h1 h2
  rw [← h2]; exact hb.upper h h1
theorem BestM.ex {cap : Nat → Int} {fr : Nat} (hfr : fr ≤ wf.length) {m : Int} (hb : BestM sp wf od cap fr m) : ∃ ts : List Int, ts.length = wf.length - fr ∧ rkF wf.length od.length (pmM sp wf od) (wO od) fr ts cap 0 = some m := by
  obtain ⟨a, h1, h2⟩ := hb.got
  exact ⟨(List.range' fr (wf.length - fr)).map (fun w => oI (a w)), by rw [List.length_map, List.length_range'], by rw [← h2]; exact feas_rk _ _ _ _ (by omega) h1⟩
theorem BestM.uniq (h : MOk sp wf od) {cap : Nat → Int} {fr : Nat} {m m' : Int} (hb : BestM sp wf od cap fr m) (hb' : BestM sp wf od cap fr m') : m = m' := by
  obtain ⟨a, h1, h2⟩ := hb.got
  obtain ⟨a', h1', h2'⟩ := hb'.got
  have := hb.upper h h1'
  have := hb'.upper h h1
  omega
end
end Go.Proofs.YtbnapejkjaddoaaDoor


namespace Go.Proofs.YtbnapejkjaddoaaDoor
open Go.RowKit
set_option maxRecDepth 100000
/-- Lists in ascending order. -/
def lexLe : List Int → List Int → Prop
  | [], _ => True
  | _ :: _, [] => False
  | a :: l, b :: m => a < b ∨ (a = b ∧ lexLe l m)
section
variable {sp : List SpT} {wf : List WfT} {od : List OdT}
/-- The smallest of the best lists of the wafers from one on. -/
def Least (sp : List SpT) (wf : List WfT) (od : List OdT) (fr : Nat) (left : Nat → Int) (rest : Int) (ts : List Int) : Prop :=
  ts.length = wf.length - fr ∧ rkF wf.length od.length (pmM sp wf od) (wO od) fr ts left 0 = some rest ∧ ∀ ts' : List Int, ts'.length = wf.length - fr → rkF wf.length od.length (pmM sp wf od) (wO od) fr ts' left 0 = some rest → lexLe ts ts'
theorem set_back (l : List Int) {o : Nat} (ho : o < l.length) (v : Int) : List.set (List.set l o v) o (nth l 0 o) = l := by
  have := List.set_getElem_self ho
  rw [nth_eq l 0 o ho] at this
  rw [List.set_set]
  exact this
/-- A list with a first number that is not there. -/
theorem rk_cons {fr : Nat} {left : Nat → Int} {t : Int} {ts : List Int} {v : Int} (h : rkF wf.length od.length (pmM sp wf od) (wO od) fr (t :: ts) left 0 = some v) : (t = -1 ∧ rkF wf.length od.length (pmM sp wf od) (wO od) (fr + 1) ts left 0 = some v) ∨ (∃ o : Nat, t = (o : Int) ∧ o < od.length ∧ pmM sp wf od fr o = true ∧ 0 < left o ∧ rkF wf.length od.length (pmM sp wf od) (wO od) (fr + 1) ts (updF left o (left o - 1)) 0 = some (v - wO od o)) := by
  simp only [rkF] at h
  split at h
  · exact .inl ⟨by assumption, h⟩
  · split at h
    · rename_i hc
      obtain ⟨_, ⟨h2, h3⟩, h4, h5⟩ := hc
      rw [rkF_zero, Int.zero_add] at h
      exact .inr ⟨t.toNat, by omega, h3, h4, h5, h⟩
    · cases h
theorem rk_none {fr : Nat} {left : Nat → Int} {ts : List Int} {v : Int} (h : rkF wf.length od.length (pmM sp wf od) (wO od) (fr + 1) ts left 0 = some v) : rkF wf.length od.length (pmM sp wf od) (wO od) fr (-1 :: ts) left 0 = some v := by
  simp only [rkF, if_pos]; exact h
theorem rk_some {fr : Nat} (hfr : fr < wf.length) {left : Nat → Int} {ts : List Int} {v : Int} {o : Nat} (ho : o < od.length) (hp : pmM sp wf od fr o = true) (hl : 0 < left o) (h : rkF wf.length od.length (pmM sp wf od) (wO od) (fr + 1) ts (updF left o (left o - 1)) 0 = some v) : rkF wf.length od.length (pmM sp wf od) (wO od) fr ((o : Int) :: ts) left 0 = some (v + wO od o) := by
  simp only [rkF]
  rw [if_neg (by omega), Int.toNat_natCast, if_pos ⟨hfr, ⟨by omega, ho⟩, hp, hl⟩, rkF_zero, h]
  congr 1; omega
theorem asg1 (h : MOk sp wf od) (F : Nat) (hF : 2000 < F) {ps : List Nat} {ar0 : A0} (hf : Fl sp wf od ps ar0) (rank : Int) (a b : Int) {w : Nat} (hw : w < wf.length) {lf : List Int} (hlf : lf.length = od.length) (hl : ∀ o, o < od.length → 0 ≤ nth lf 0 o ∧ nth lf 0 o ≤ 1000) {rest : Int} (hr : BestM sp wf od (nth lf 0) w rest) (hr0 : 0 ≤ rest ∧ rest ≤ 100000000000) {pre : List Int} (hpre : pre.length ≤ 1000) : ∀ (m j n : Nat) (ar1 : A1), j + m = od.length + 1 → m < n → (∀ t : Int, t < (j : Int) - 1 → ∀ ts : List Int, ts.length = wf.length - (w + 1) → rkF wf.length od.length (pmM sp wf od) (wO od) w (t :: ts) (nth lf 0) 0 ≠ some rest) →
    ∃ (t : Int) (rest' : Int) (lf' : List Int) (ar2 : A1), assign_L1 F n rank rest (w : Int) ((j : Int) - 1) a b sp wf od ar0 ar1 pre lf ps = some ((rank, rest', a, b), (sp, wf, od, ar0, ar2, pre ++ [t], lf', ps)) ∧ lf'.length = od.length ∧ (∀ o, o < od.length → 0 ≤ nth lf' 0 o ∧ nth lf' 0 o ≤ 1000) ∧ BestM sp wf od (nth lf' 0) (w + 1) rest' ∧ (0 ≤ rest' ∧ rest' ≤ 100000000000) ∧ (∀ t', t' < t → ∀ ts : List Int, ts.length = wf.length - (w + 1) → rkF wf.length od.length (pmM sp wf od) (wO od) w (t' :: ts) (nth lf 0) 0 ≠ some rest) ∧ (∀ ts : List Int, rkF wf.length od.length (pmM sp wf od) (wO od) w (t :: ts) (nth lf 0) 0 = some rest ↔ rkF wf.length od.length (pmM sp wf od) (wO od) (w + 1) ts (nth lf' 0) 0 = some rest')
  | 0, j, n + 1, ar1, hj, _, hno => by
    -- none is left: but there is one
    exfalso
    obtain ⟨ts, h1, h2⟩ := hr.ex (by omega)
    cases ts with
    | nil => simp at h1; omega
    | cons t ts =>
      have h1' : ts.length = wf.length - (w + 1) := by simp at h1; omega
      refine hno t ?_ ts h1' h2
      rcases rk_cons h2 with ⟨rfl, _⟩ | ⟨o, rfl, ho, _⟩ <;> omega
  | m + 1, j, n + 1, ar1, hj, hn, hno => by
    have ho12 := h.o
    have hw60 := h.w
    -- it goes on to the next number
    have next : (∀ ts : List Int, ts.length = wf.length - (w + 1) → rkF wf.length od.length (pmM sp wf od) (wO od) w (((j : Int) - 1) :: ts) (nth lf 0) 0 ≠ some rest) → ∀ ar2 : A1, _ := fun h1 ar2 => asg1 h F hF hf rank a b hw hlf hl hr hr0 hpre m (j + 1) n ar2 (by omega) (by omega) (fun t ht ts hts => by
      by_cases e : t < (j : Int) - 1
      · exact hno t e ts hts
      · have : t = (j : Int) - 1 := by omega
        subst this; exact h1 ts hts)
    have hlt : decide ((j : Int) - 1 < ((od.length - 0) : Int)) = true := by rw [Int.sub_zero]; simp; omega
    have unf : ∀ X, (bif ((j : Int) - 1 == (-1 : Int)) then ob (most_S F (IntKind.wrap IntKind.i64 ((w : Int) + 1)) sp wf od ps lf ar0 ar1) (fun r4 => bif r4.1 == rest then bif lenOk (pre.length - 0) (((j : Int) - 1) :: []).length then some (.inl ((rank, rest, a, b), (sp, wf, od, r4.2.1, r4.2.2, pre ++ (((j : Int) - 1) :: []), lf, ps))) else none else some (.inr ((rank, rest, (w : Int), (j : Int) - 1, a, b), (sp, wf, od, r4.2.1, r4.2.2, pre, lf, ps)))) else bif inB (w : Int) (ps.length - 0) then bif inB ((j : Int) - 1) (rowAt ar0 (nth ps 0 w)).length then bif decide (((j : Int) - 1).toNat < (rowAt ar0 (nth ps 0 w)).length) then bif !(nth (rowAt ar0 (nth ps 0 w)) false ((j : Int) - 1).toNat) then some (.inr ((rank, rest, (w : Int), (j : Int) - 1, a, b), (sp, wf, od, ar0, ar1, pre, lf, ps))) else bif inB ((j : Int) - 1) (lf.length - 0) then bif nth lf 0 ((j : Int) - 1).toNat == 0 then some (.inr ((rank, rest, (w : Int), (j : Int) - 1, a, b), (sp, wf, od, ar0, ar1, pre, lf, ps))) else bif inB ((j : Int) - 1) (lf.length - 0) then bif inB ((j : Int) - 1) (lf.length - 0) then ob (most_S F (IntKind.wrap IntKind.i64 ((w : Int) + 1)) sp wf od ps (List.set lf ((j : Int) - 1).toNat (IntKind.wrap IntKind.i64 (nth lf 0 ((j : Int) - 1).toNat - 1))) ar0 ar1) (fun r5 => ob (worth_S F ((j : Int) - 1) sp wf od ps r5.2.1 r5.2.2) (fun r6 => bif IntKind.wrap IntKind.i64 (r5.1 + r6.1) == rest then bif lenOk (pre.length - 0) (((j : Int) - 1) :: []).length then ob (worth_S F ((j : Int) - 1) sp wf od ps r6.2.1 r6.2.2) (fun r7 => some (.inl ((rank, IntKind.wrap IntKind.i64 (rest - r7.1), a, b), (sp, wf, od, r7.2.1, r7.2.2, pre ++ (((j : Int) - 1) :: []), List.set lf ((j : Int) - 1).toNat (IntKind.wrap IntKind.i64 (nth lf 0 ((j : Int) - 1).toNat - 1)), ps)))) else none else bif inB ((j : Int) - 1) ((List.set lf ((j : Int) - 1).toNat (IntKind.wrap IntKind.i64 (nth lf 0 ((j : Int) - 1).toNat - 1))).length - 0) then bif inB ((j : Int) - 1) ((List.set lf ((j : Int) - 1).toNat (IntKind.wrap IntKind.i64 (nth lf 0 ((j : Int) - 1).toNat - 1))).length - 0) then some (.inr ((rank, rest, (w : Int), (j : Int) - 1, a, b), (sp, wf, od, r6.2.1, r6.2.2, pre, List.set (List.set lf ((j : Int) - 1).toNat (IntKind.wrap IntKind.i64 (nth lf 0 ((j : Int) - 1).toNat - 1))) ((j : Int) - 1).toNat (IntKind.wrap IntKind.i64 (nth (List.set lf ((j : Int) - 1).toNat (IntKind.wrap IntKind.i64 (nth lf 0 ((j : Int) - 1).toNat - 1))) 0 ((j : Int) - 1).toNat + 1)), ps))) else none else none)) else none else none else none else none else none else none : Option (OdT × ((List SpT) × ((List WfT) × ((List OdT) × (A0 × (A1 × ((List Int) × ((List Int) × (List Nat)))))))) ⊕ ((Int × (Int × (Int × (Int × (Int × Int))))) × ((List SpT) × ((List WfT) × ((List OdT) × (A0 × (A1 × ((List Int) × ((List Int) × (List Nat))))))))))) = some X → assign_L1 F (n + 1) rank rest (w : Int) ((j : Int) - 1) a b sp wf od ar0 ar1 pre lf ps = su X (fun s1 => (some ((s1.1.1, s1.1.2.1, s1.1.2.2.1, s1.1.2.2.2), (s1.2.1, s1.2.2.1, s1.2.2.2.1, s1.2.2.2.2.1, s1.2.2.2.2.2.1, s1.2.2.2.2.2.2.1, s1.2.2.2.2.2.2.2.1, s1.2.2.2.2.2.2.2.2)))) (fun s2 => (assign_L1 F n s2.1.1 s2.1.2.1 s2.1.2.2.1 (IntKind.wrap IntKind.i64 (s2.1.2.2.2.1 + 1)) s2.1.2.2.2.2.1 s2.1.2.2.2.2.2 s2.2.1 s2.2.2.1 s2.2.2.2.1 s2.2.2.2.2.1 s2.2.2.2.2.2.1 s2.2.2.2.2.2.2.1 s2.2.2.2.2.2.2.2.1 s2.2.2.2.2.2.2.2.2)) := by
      intro X hX
      show (bif decide ((j : Int) - 1 < ((od.length - 0) : Int)) then ob _ _ else _) = _
      rw [hlt]
      refine (congrArg (fun z => ob z _) hX).trans ?_
      rfl
    have go : ∀ ar2 : A1, (∀ ts : List Int, ts.length = wf.length - (w + 1) → rkF wf.length od.length (pmM sp wf od) (wO od) w (((j : Int) - 1) :: ts) (nth lf 0) 0 ≠ some rest) → assign_L1 F (n + 1) rank rest (w : Int) ((j : Int) - 1) a b sp wf od ar0 ar1 pre lf ps = assign_L1 F n rank rest (w : Int) (((j + 1 : Nat) : Int) - 1) a b sp wf od ar0 ar2 pre lf ps → _ := fun ar2 h1 h2 => by
      have ih := next h1 ar2
      rw [← h2] at ih
      exact ih
    have hj1 : IntKind.wrap IntKind.i64 ((j : Int) - 1 + 1) = ((j + 1 : Nat) : Int) - 1 := by rw [w64 _ (by omega)]; omega
    cases j with
    | zero =>
      obtain ⟨v, ar2, e1, e2, e3, e4⟩ := most_eq h F hF hf hlf hl (fr := w + 1) (by omega) ar1
      have hw1 : IntKind.wrap IntKind.i64 ((w : Int) + 1) = ((w + 1 : Nat) : Int) := i64s (by omega)
      by_cases hv : v = rest
      · refine ⟨-1, rest, lf, ar2, ?_, hlf, hl, by rw [← hv]; exact e2, hr0, fun t' ht' ts hts => hno t' (by simpa using ht') ts hts, fun ts => ⟨fun hh => ?_, rk_none⟩⟩
        · rw [unf (.inl ((rank, rest, a, b), (sp, wf, od, ar0, ar2, pre ++ [-1], lf, ps))) (by
            show ob (most_S F (IntKind.wrap IntKind.i64 ((w : Int) + 1)) sp wf od ps lf ar0 ar1) _ = _
            rw [hw1, e1]
            show (bif v == rest then bif lenOk (pre.length - 0) 1 then _ else none else _) = _
            rw [show (v == rest) = true by simpa using hv, lenOk_of (by omega)]
            rfl)]
        · rcases rk_cons hh with ⟨_, h2⟩ | ⟨o, ho, _⟩
          · exact h2
          · omega
      · refine go ar2 (fun ts hts hh => ?_) ?_
        · rcases rk_cons hh with ⟨_, h2⟩ | ⟨o, ho, _⟩
          · have h3 := e2.up h (fun o ho => (hl o ho).1) hts h2
            obtain ⟨ts', h4, h5⟩ := e2.ex (by omega)
            have h6 := hr.up h (fun o ho => (hl o ho).1) (ts := -1 :: ts') (by simp; omega) (rk_none h5)
            omega
          · simp at ho
        · rw [unf (.inr ((rank, rest, (w : Int), ((0 : Nat) : Int) - 1, a, b), (sp, wf, od, ar0, ar2, pre, lf, ps))) (by
            show ob (most_S F (IntKind.wrap IntKind.i64 ((w : Int) + 1)) sp wf od ps lf ar0 ar1) _ = _
            rw [hw1, e1]
            show (bif v == rest then bif lenOk (pre.length - 0) 1 then _ else none else _) = _
            rw [show (v == rest) = false by simpa using hv]
            rfl)]
          show assign_L1 F n rank rest (w : Int) (IntKind.wrap IntKind.i64 (((0 : Nat) : Int) - 1 + 1)) a b sp wf od ar0 ar2 pre lf ps = _
          rw [hj1]
    | succ o =>
      have ho : o < od.length := by omega
      have hoe : (((o + 1 : Nat) : Int) - 1) = (o : Int) := by omega
      rw [hoe] at go unf hno hj1 ⊢
      have hne : ((o : Int) == (-1 : Int)) = false := by simp
      have hpsw : inB (w : Int) (ps.length - 0) = true := by rw [Nat.sub_zero, hf.len]; exact inB_nat hw
      cases hp : pmM sp wf od w o with
      | false =>
        refine go ar1 (fun ts hts hh => ?_) ?_
        · rcases rk_cons hh with ⟨h2, _⟩ | ⟨o', ho', _, hp', _⟩
          · omega
          · have : o' = o := by omega
            subst this; rw [hp] at hp'; cases hp'
        · rw [unf (.inr ((rank, rest, (w : Int), (o : Int), a, b), (sp, wf, od, ar0, ar1, pre, lf, ps))) (by
            rw [hne, hpsw, Int.toNat_natCast, hf.row w hw, row_len, inB_nat ho, row_at _ ho, show passB sp od (nth wf dW w) o = false from hp, show decide (o < od.length) = true by simpa using ho]
            rfl)]
          show assign_L1 F n rank rest (w : Int) (IntKind.wrap IntKind.i64 ((o : Int) + 1)) a b sp wf od ar0 ar1 pre lf ps = _
          rw [hj1]
      | true =>
        by_cases hl0 : nth lf 0 o = 0
        · refine go ar1 (fun ts hts hh => ?_) ?_
          · rcases rk_cons hh with ⟨h2, _⟩ | ⟨o', ho', _, _, hl', _⟩
            · omega
            · have : o' = o := by omega
              subst this; omega
          · rw [unf (.inr ((rank, rest, (w : Int), (o : Int), a, b), (sp, wf, od, ar0, ar1, pre, lf, ps))) (by
              rw [hne, hpsw, Int.toNat_natCast, hf.row w hw, row_len, inB_nat ho, row_at _ ho, show passB sp od (nth wf dW w) o = true from hp, show decide (o < od.length) = true by simpa using ho, show inB (o : Int) (lf.length - 0) = true by rw [Nat.sub_zero, hlf]; exact inB_nat ho, hl0]
              rfl)]
            show assign_L1 F n rank rest (w : Int) (IntKind.wrap IntKind.i64 ((o : Int) + 1)) a b sp wf od ar0 ar1 pre lf ps = _
            rw [hj1]
        · have hlo := hl o ho
          have hlp : 0 < nth lf 0 o := by omega
          have hW := wO_le h ho
          have hset : nth (List.set lf o (nth lf 0 o - 1)) 0 = updF (nth lf 0) o (nth lf 0 o - 1) := nth_set lf 0 _ (by omega)
          have hl2 : ∀ p, p < od.length → 0 ≤ nth (List.set lf o (nth lf 0 o - 1)) 0 p ∧ nth (List.set lf o (nth lf 0 o - 1)) 0 p ≤ 1000 := fun p hp' => by
            rw [hset]; unfold updF; have := hl p hp'; split <;> omega
          obtain ⟨v, ar2, e1, e2, e3, e4⟩ := most_eq h F hF hf (lf := List.set lf o (nth lf 0 o - 1)) (by rw [List.length_set]; exact hlf) hl2 (fr := w + 1) (by omega) ar1
          have hw1 : IntKind.wrap IntKind.i64 ((w : Int) + 1) = ((w + 1 : Nat) : Int) := i64s (by omega)
          have hst : IntKind.wrap IntKind.i64 (nth lf 0 o - 1) = nth lf 0 o - 1 := w64 _ (by omega)
          have hin : inB (o : Int) (lf.length - 0) = true := by rw [Nat.sub_zero, hlf]; exact inB_nat ho
          by_cases hv : v + wO od o = rest
          · refine ⟨(o : Int), v, List.set lf o (nth lf 0 o - 1), ar2, ?_, by rw [List.length_set]; exact hlf, hl2, e2, by omega, fun t' ht' ts hts => hno t' ht' ts hts, fun ts => ⟨fun hh => ?_, fun hh => ?_⟩⟩
            · rw [unf (.inl ((rank, v, a, b), (sp, wf, od, ar0, ar2, pre ++ [(o : Int)], List.set lf o (nth lf 0 o - 1), ps))) (by
                rw [hne, hpsw, Int.toNat_natCast, hf.row w hw, row_len, inB_nat ho, row_at _ ho, show passB sp od (nth wf dW w) o = true from hp, show decide (o < od.length) = true by simpa using ho, hin, show (nth lf 0 o == 0) = false by simpa using hl0, hst, hw1, e1]
                show ob (worth_S F (o : Int) sp wf od ps ar0 ar2) _ = _
                rw [worth_eq h F ho]
                show (bif IntKind.wrap IntKind.i64 (v + wO od o) == rest then bif lenOk (pre.length - 0) 1 then ob (worth_S F (o : Int) sp wf od ps ar0 ar2) _ else none else _) = _
                rw [w64 _ (by omega), show (v + wO od o == rest) = true by simpa using hv, lenOk_of (by omega), worth_eq h F ho]
                show some (Sum.inl ((rank, IntKind.wrap IntKind.i64 (rest - wO od o), a, b), _)) = _
                rw [w64 _ (by omega), show rest - wO od o = v by omega])]
            · rcases rk_cons hh with ⟨h2, _⟩ | ⟨o', ho', _, _, _, h2⟩
              · omega
              · have : o' = o := by omega
                subst this
                rw [hset, h2]; congr 1; omega
            · rw [hset] at hh
              have := rk_some hw ho hp hlp hh
              rw [this]; congr 1
          · refine go ar2 (fun ts hts hh => ?_) ?_
            · rcases rk_cons hh with ⟨h2, _⟩ | ⟨o', ho', _, _, _, h2⟩
              · omega
              · have : o' = o := by omega
                subst this
                rw [← hset] at h2
                have h3 := e2.up h (fun p hp' => (hl2 p hp').1) hts h2
                obtain ⟨ts', h4, h5⟩ := e2.ex (by omega)
                rw [hset] at h5
                have h6 := hr.up h (fun p hp' => (hl p hp').1) (ts := (o' : Int) :: ts') (by simp; omega) (rk_some hw ho hp hlp h5)
                omega
            · rw [unf (.inr ((rank, rest, (w : Int), (o : Int), a, b), (sp, wf, od, ar0, ar2, pre, lf, ps))) (by
                rw [hne, hpsw, Int.toNat_natCast, hf.row w hw, row_len, inB_nat ho, row_at _ ho, show passB sp od (nth wf dW w) o = true from hp, show decide (o < od.length) = true by simpa using ho, hin, show (nth lf 0 o == 0) = false by simpa using hl0, hst, hw1, e1]
                show ob (worth_S F (o : Int) sp wf od ps ar0 ar2) _ = _
                rw [worth_eq h F ho]
                show (bif IntKind.wrap IntKind.i64 (v + wO od o) == rest then _ else bif inB (o : Int) ((List.set lf o (nth lf 0 o - 1)).length - 0) then bif inB (o : Int) ((List.set lf o (nth lf 0 o - 1)).length - 0) then some (Sum.inr ((rank, rest, (w : Int), (o : Int), a, b), (sp, wf, od, ar0, ar2, pre, List.set (List.set lf o (nth lf 0 o - 1)) o (IntKind.wrap IntKind.i64 (nth (List.set lf o (nth lf 0 o - 1)) 0 o + 1)), ps))) else none else none) = _
                rw [w64 _ (show -9223372036854775808 ≤ v + wO od o ∧ v + wO od o ≤ 9223372036854775807 by omega), show (v + wO od o == rest) = false by simpa using hv, List.length_set, hin, hset, show updF (nth lf 0) o (nth lf 0 o - 1) o = nth lf 0 o - 1 by simp [updF], w64 _ (show -9223372036854775808 ≤ nth lf 0 o - 1 + 1 ∧ nth lf 0 o - 1 + 1 ≤ 9223372036854775807 by omega), show nth lf 0 o - 1 + 1 = nth lf 0 o by omega, set_back lf (by omega)]
                rfl)]
              show assign_L1 F n rank rest (w : Int) (IntKind.wrap IntKind.i64 ((o : Int) + 1)) a b sp wf od ar0 ar2 pre lf ps = _
              rw [hj1]
  | m, j, 0, _, _, hn, _ => by omega
end
end Go.Proofs.YtbnapejkjaddoaaDoor


namespace Go.Proofs.YtbnapejkjaddoaaDoor
open Go.RowKit
set_option maxRecDepth 100000
section
variable {sp : List SpT} {wf : List WfT} {od : List OdT}
theorem asg0 (h : MOk sp wf od) (F : Nat) (hF : 2000 < F) {ps : List Nat} {ar0 : A0} (hf : Fl sp wf od ps ar0) (rank : Int) : ∀ (m w n : Nat) (rest : Int) (lf : List Int) (pre : List Int) (ar1 : A1), w + m = wf.length → m < n → lf.length = od.length → (∀ o, o < od.length → 0 ≤ nth lf 0 o ∧ nth lf 0 o ≤ 1000) → BestM sp wf od (nth lf 0) w rest → (0 ≤ rest ∧ rest ≤ 100000000000) → pre.length ≤ w →
    ∃ (ts : List Int) (ar2 : A1), assign_L0 F n rank rest ((wf.length - 0) : Int) (w : Int) sp wf od ar0 ar1 pre lf ps = some (rank, (sp, wf, od, ar0, ar2, pre ++ ts)) ∧ Least sp wf od w (nth lf 0) rest ts
  | 0, w, n + 1, rest, lf, pre, ar1, hw, _, hlf, hl, hr, _, _ => by
    have : w = wf.length := by omega
    subst this
    obtain ⟨ts, h1, h2⟩ := hr.ex (Nat.le_refl _)
    have h0 : ts = [] := List.length_eq_zero_iff.1 (by omega)
    subst h0
    refine ⟨[], ar1, ?_, by simp, h2, fun ts' _ _ => trivial⟩
    show (bif decide ((wf.length : Int) < ((wf.length - 0) : Int)) then _ else _) = _
    rw [Int.sub_zero, lt_f, List.append_nil]; rfl
  | m + 1, w, n + 1, rest, lf, pre, ar1, hw, hn, hlf, hl, hr, hr0, hp => by
    have hwl : w < wf.length := by omega
    have hw60 := h.w
    have ho := h.o
    obtain ⟨t, rest', lf', ar2, e1, e2, e3, e4, e5, e6, e7⟩ := asg1 h F hF hf rank ((wf.length - 0) : Int) (w : Int) hwl hlf hl hr hr0 (pre := pre) (by omega) (od.length + 1) 0 F ar1 (by omega) (by omega) (fun t ht ts _ hh => by
      rcases rk_cons hh with ⟨h2, _⟩ | ⟨o, ho', _⟩ <;> omega)
    obtain ⟨ts, ar3, g1, g2, g3, g4⟩ := asg0 h F hF hf rank m (w + 1) n rest' lf' (pre ++ [t]) ar2 (by omega) (by omega) e2 e3 e4 e5 (by simp; omega)
    refine ⟨t :: ts, ar3, ?_, by simp [g2]; omega, (e7 ts).2 g3, fun ts' hl' hh => ?_⟩
    · have e1' : assign_L1 F F rank rest (w : Int) (-1 : Int) ((wf.length - 0) : Int) (w : Int) sp wf od ar0 ar1 pre lf ps = _ := e1
      show (bif decide ((w : Int) < ((wf.length - 0) : Int)) then ob (assign_L1 F F rank rest (w : Int) (-1 : Int) ((wf.length - 0) : Int) (w : Int) sp wf od ar0 ar1 pre lf ps) _ else _) = _
      rw [show decide ((w : Int) < ((wf.length - 0) : Int)) = true by rw [Int.sub_zero]; exact lt_t hwl, e1']
      show assign_L0 F n rank rest' ((wf.length - 0) : Int) (IntKind.wrap IntKind.i64 ((w : Int) + 1)) sp wf od ar0 ar2 (pre ++ [t]) lf' ps = _
      rw [i64s (by omega), g1, List.append_assoc]; rfl
    · cases ts' with
      | nil => simp at hl'; omega
      | cons t' ts' =>
        have hl2 : ts'.length = wf.length - (w + 1) := by simp at hl'; omega
        show t < t' ∨ (t = t' ∧ lexLe ts ts')
        rcases Int.lt_trichotomy t t' with h1 | h1 | h1
        · exact .inl h1
        · subst h1
          exact .inr ⟨rfl, g4 ts' hl2 ((e7 ts').1 hh)⟩
        · exact absurd hh (e6 t' h1 ts' hl2)
  | m, w, 0, _, _, _, _, _, hn, _, _, _, _, _ => by omega
/-- What Assign returns. -/
theorem assign_eq (F : Nat) (hF : 2000 < F) (hw : wfsOk wf) (ar0 : A0) (ar1 : A1) (hc : chkE sp wf od = 0) : ∃ (tl : List Int) (v : Int) (B : A0) (C : A1), assign_S F sp wf od ar0 ar1 = some ((v / 1000000000, v % 1000000000, 0), (B, C, tl)) ∧ Least sp wf od 0 (cO od) v tl ∧ BestM sp wf od (nth ((List.range od.length).map (cO od)) 0) 0 v ∧ 0 ≤ v ∧ v ≤ 1001000000 * (wf.length : Int) := by
  have h := chk_ok hc
  have hw60 := h.w
  obtain ⟨B, ps, e1, hf⟩ := floor_eq h F (by omega) ar0 ar1
  have hcl : ((List.range od.length).map (cO od)).length = od.length := by simp
  have hcb : ∀ o, o < od.length → 0 ≤ nth ((List.range od.length).map (cO od)) 0 o ∧ nth ((List.range od.length).map (cO od)) 0 o ≤ 1000 := fun o ho => by rw [nth_cO ho]; have := h.cnt o ho; unfold cO; omega
  obtain ⟨v, C, e2, e3, e4, e5⟩ := most_eq h F hF hf hcl hcb (fr := 0) (Nat.zero_le _) ar1
  obtain ⟨ts, D, e6, e7⟩ := asg0 h F hF hf v wf.length 0 F v ((List.range od.length).map (cO od)) [] C (by omega) (by omega) hcl hcb e3 (by omega) (Nat.zero_le _)
  refine ⟨ts, v, B, D, ?_, ?_, e3, e4, e5⟩
  · unfold assign_S
    rw [check_eq F (by omega) sp wf od hw, hc]
    show ob (newFloor_S F sp wf od ar0 ar1) _ = _
    rw [e1]
    show ob (counts_S F sp wf od ps B ar1) _ = _
    rw [counts_eq h F (by omega)]
    show ob (most_S F (0 : Int) sp wf od ps ((List.range od.length).map (cO od)) B ar1) _ = _
    rw [show most_S F (0 : Int) sp wf od ps ((List.range od.length).map (cO od)) B ar1 = _ from e2]
    show ob (assign_L0 F F v v ((wf.length - 0) : Int) (0 : Int) sp wf od B C [] ((List.range od.length).map (cO od)) ps) _ = _
    rw [show assign_L0 F F v v ((wf.length - 0) : Int) (0 : Int) sp wf od B C [] ((List.range od.length).map (cO od)) ps = _ from e6]
    show some ((IntKind.wrap IntKind.i64 (Int.tdiv v 1000000000), Int.tmod v 1000000000, (0 : Int)), (B, D, [] ++ ts)) = _
    rw [Int.tdiv_eq_ediv_of_nonneg (by omega), Int.tmod_eq_emod_of_nonneg (by omega), w64 _ (by omega)]
    rfl
  · obtain ⟨g1, g2, g3⟩ := e7
    have hcg : ∀ l, rkF wf.length od.length (pmM sp wf od) (wO od) 0 l (nth ((List.range od.length).map (cO od)) 0) 0 = rkF wf.length od.length (pmM sp wf od) (wO od) 0 l (cO od) 0 := fun l => rkF_congr l 0 _ _ 0 (fun o ho => nth_cO ho)
    exact ⟨g1, by rw [← hcg]; exact g2, fun ts' h1 h2 => g3 ts' h1 (by rw [hcg]; exact h2)⟩
theorem assign_bad (F : Nat) (hF : 2000 < F) (hw : wfsOk wf) (ar0 : A0) (ar1 : A1) (hc : chkE sp wf od ≠ 0) : assign_S F sp wf od ar0 ar1 = some ((0, 0, chkE sp wf od), (ar0, ar1, [])) := by
  unfold assign_S
  rw [check_eq F (by omega) sp wf od hw]
  show (bif chkE sp wf od != 0 then _ else _) = _
  rw [show (chkE sp wf od != 0) = true by simpa using hc]
  rfl
end
end Go.Proofs.YtbnapejkjaddoaaDoor


namespace Go.Proofs.YtbnapejkjaddoaaDoor
open Go.RowKit
set_option maxRecDepth 100000
/-- The next list; none behind the last. -/
def nextL (k : Nat) : List Int → Option (List Int)
  | [] => none
  | t :: ts => match nextL k ts with
    | some ts' => some (t :: ts')
    | none => if t = (k : Int) - 1 then none else some ((t + 1) :: ts.map (fun _ => (-1 : Int)))
def okL (k : Nat) (ts : List Int) : Prop := ∀ t ∈ ts, -1 ≤ t ∧ t ≤ (k : Int) - 1
theorem okL_cons {k : Nat} {t : Int} {ts : List Int} (h : okL k (t :: ts)) : (-1 ≤ t ∧ t ≤ (k : Int) - 1) ∧ okL k ts := ⟨h t List.mem_cons_self, fun x hx => h x (List.mem_cons_of_mem _ hx)⟩
theorem okL_mk {k : Nat} {t : Int} {ts : List Int} (h1 : -1 ≤ t ∧ t ≤ (k : Int) - 1) (h2 : okL k ts) : okL k (t :: ts) := fun x hx => by
  rcases List.mem_cons.1 hx with rfl | hx
  · exact h1
  · exact h2 x hx
theorem okL_start (k : Nat) (ts : List Int) : okL k (ts.map (fun _ => (-1 : Int))) := fun t ht => by
  obtain ⟨_, _, rfl⟩ := List.mem_map.1 ht
  omega
theorem lexLe_refl : ∀ ts : List Int, lexLe ts ts
  | [] => trivial
  | _ :: ts => .inr ⟨rfl, lexLe_refl ts⟩
theorem lexLe_anti : ∀ {l m : List Int}, l.length = m.length → lexLe l m → lexLe m l → l = m
  | [], [], _, _, _ => rfl
  | a :: l, b :: m, hl, h1, h2 => by
    rcases h1 with h1 | ⟨h1, h3⟩
    · rcases h2 with h2 | ⟨h2, _⟩ <;> omega
    · subst h1
      rcases h2 with h2 | ⟨_, h4⟩
      · omega
      · rw [lexLe_anti (by simpa using hl) h3 h4]
theorem lexLe_trans : ∀ {a b c : List Int}, lexLe a b → lexLe b c → lexLe a c
  | [], _, _, _, _ => trivial
  | x :: a, y :: b, z :: c, h1, h2 => by
    rcases h1 with h1 | ⟨h1, h3⟩
    · rcases h2 with h2 | ⟨h2, _⟩
      · exact .inl (by omega)
      · exact .inl (by omega)
    · rcases h2 with h2 | ⟨h2, h4⟩
      · exact .inl (by omega)
      · exact .inr ⟨by omega, lexLe_trans h3 h4⟩
theorem lexLe_total : ∀ {a b : List Int}, a.length = b.length → lexLe a b ∨ lexLe b a
  | [], _, _ => .inl trivial
  | x :: a, y :: b, h => by
    rcases Int.lt_trichotomy x y with h1 | h1 | h1
    · exact .inl (.inl h1)
    · subst h1
      rcases lexLe_total (a := a) (b := b) (by simpa using h) with h2 | h2
      · exact .inl (.inr ⟨rfl, h2⟩)
      · exact .inr (.inr ⟨rfl, h2⟩)
    · exact .inr (.inl h1)
theorem start_le (k : Nat) : ∀ (ts us : List Int), ts.length = us.length → okL k us → lexLe (ts.map (fun _ => (-1 : Int))) us
  | [], _, _, _ => trivial
  | t :: ts, u :: us, hl, hu => by
    obtain ⟨h1, h2⟩ := okL_cons hu
    show (-1 : Int) < u ∨ ((-1 : Int) = u ∧ _)
    rcases Int.lt_or_eq_of_le h1.1 with h3 | h3
    · exact .inl h3
    · exact .inr ⟨h3, start_le k ts us (by simpa using hl) h2⟩
theorem next_none {k : Nat} : ∀ {ts : List Int}, nextL k ts = none → ∀ {us : List Int}, ts.length = us.length → okL k us → lexLe us ts
  | [], _, [], _, _ => trivial
  | t :: ts, h, u :: us, hl, hu => by
    simp only [nextL] at h
    obtain ⟨h1, h2⟩ := okL_cons hu
    cases hn : nextL k ts with
    | some ts' => rw [hn] at h; cases h
    | none =>
      rw [hn] at h
      dsimp only at h
      split at h
      · rename_i ht
        show u < t ∨ (u = t ∧ _)
        rcases Int.lt_or_eq_of_le h1.2 with h3 | h3
        · exact .inl (by omega)
        · exact .inr ⟨by omega, next_none hn (by simpa using hl) h2⟩
      · cases h
theorem next_len {k : Nat} : ∀ {ts ts' : List Int}, nextL k ts = some ts' → ts'.length = ts.length
  | t :: ts, ts', h => by
    simp only [nextL] at h
    cases hn : nextL k ts with
    | some us => rw [hn] at h; cases h; simp [next_len hn]
    | none =>
      rw [hn] at h
      dsimp only at h
      split at h
      · cases h
      · cases h; simp
theorem next_ok {k : Nat} : ∀ {ts ts' : List Int}, nextL k ts = some ts' → okL k ts → okL k ts'
  | t :: ts, ts', h, ho => by
    obtain ⟨h1, h2⟩ := okL_cons ho
    simp only [nextL] at h
    cases hn : nextL k ts with
    | some us => rw [hn] at h; cases h; exact okL_mk h1 (next_ok hn h2)
    | none =>
      rw [hn] at h
      dsimp only at h
      split at h
      · cases h
      · cases h; exact okL_mk (by omega) (okL_start k ts)
/-- Between a list and the next there is no other. -/
theorem next_gap {k : Nat} : ∀ {ts ts' : List Int}, nextL k ts = some ts' → ∀ {us : List Int}, ts.length = us.length → okL k us → lexLe ts' us ∨ lexLe us ts
  | t :: ts, ts', h, u :: us, hl, hu => by
    obtain ⟨h1, h2⟩ := okL_cons hu
    have hl' : ts.length = us.length := by simpa using hl
    simp only [nextL] at h
    cases hn : nextL k ts with
    | some ws =>
      rw [hn] at h; cases h
      rcases Int.lt_trichotomy t u with h3 | h3 | h3
      · exact .inl (.inl h3)
      · subst h3
        rcases next_gap hn hl' h2 with h4 | h4
        · exact .inl (.inr ⟨rfl, h4⟩)
        · exact .inr (.inr ⟨rfl, h4⟩)
      · exact .inr (.inl h3)
    | none =>
      rw [hn] at h
      dsimp only at h
      split at h
      · cases h
      · cases h
        rcases Int.lt_trichotomy t u with h3 | h3 | h3
        · rcases Int.lt_or_eq_of_le (show t + 1 ≤ u by omega) with h4 | h4
          · exact .inl (.inl h4)
          · exact .inl (.inr ⟨h4, start_le k ts us hl' h2⟩)
        · subst h3
          exact .inr (.inr ⟨rfl, next_none hn hl' h2⟩)
        · exact .inr (.inl h3)
theorem next_lt {k : Nat} : ∀ {ts ts' : List Int}, nextL k ts = some ts' → lexLe ts ts'
  | t :: ts, ts', h => by
    simp only [nextL] at h
    cases hn : nextL k ts with
    | some ws => rw [hn] at h; cases h; exact .inr ⟨rfl, next_lt hn⟩
    | none =>
      rw [hn] at h
      dsimp only at h
      split at h
      · cases h
      · cases h; exact .inl (by omega)
/-- How many lists are behind. -/
def remL (k : Nat) : List Int → Nat
  | [] => 0
  | t :: ts => ((k : Int) - 1 - t).toNat * (k + 1) ^ ts.length + remL k ts
theorem rem_none {k : Nat} : ∀ {ts : List Int}, nextL k ts = none → remL k ts = 0
  | [], _ => rfl
  | t :: ts, h => by
    simp only [nextL] at h
    cases hn : nextL k ts with
    | some ws => rw [hn] at h; cases h
    | none =>
      rw [hn] at h
      dsimp only at h
      split at h
      · rename_i ht
        simp only [remL, rem_none hn, ht]
        simp
      · cases h
theorem rem_start (k : Nat) : ∀ ts : List Int, remL k (ts.map (fun _ => (-1 : Int))) + 1 = (k + 1) ^ ts.length
  | [] => by simp [remL]
  | t :: ts => by
    have ih := rem_start k ts
    simp only [List.map_cons, remL, List.length_map, List.length_cons, Nat.pow_succ]
    rw [show ((k : Int) - 1 - -1).toNat = k by omega]
    generalize (k + 1) ^ ts.length = p at ih ⊢
    rw [Nat.mul_succ, Nat.mul_comm p k]; omega
theorem rem_next {k : Nat} : ∀ {ts ts' : List Int}, nextL k ts = some ts' → okL k ts → remL k ts = remL k ts' + 1
  | t :: ts, ts', h, ho => by
    obtain ⟨h1, h2⟩ := okL_cons ho
    simp only [nextL] at h
    cases hn : nextL k ts with
    | some ws =>
      rw [hn] at h; cases h
      have ih := rem_next hn h2
      simp only [remL, next_len hn, ih]; omega
    | none =>
      rw [hn] at h
      dsimp only at h
      split at h
      · cases h
      · cases h
        have h3 := rem_start k ts
        simp only [remL, rem_none hn, List.length_map]
        obtain ⟨c, hc⟩ : ∃ c : Nat, (k : Int) - 1 - t = ((c + 1 : Nat) : Int) := ⟨((k : Int) - 2 - t).toNat, by omega⟩
        rw [hc, show ((k : Int) - 1 - (t + 1)) = (c : Int) by omega, Int.toNat_natCast, Int.toNat_natCast]
        generalize (k + 1) ^ ts.length = p at h3 ⊢
        rw [Nat.add_mul]; omega
/-- The last number that is not the greatest goes up by one, those behind begin anew. -/
theorem next_at {k : Nat} : ∀ (a : List Int) {t : Int} {b : List Int}, nextL k b = none → t ≠ (k : Int) - 1 → nextL k (a ++ t :: b) = some (a ++ (t + 1) :: b.map (fun _ => (-1 : Int)))
  | [], t, b, hb, ht => by simp only [List.nil_append, nextL, hb]; rw [if_neg ht]
  | x :: a, t, b, hb, ht => by simp only [List.cons_append, nextL, next_at a hb ht]
theorem next_max {k : Nat} {b : List Int} (hb : nextL k b = none) : nextL k (((k : Int) - 1) :: b) = none := by
  simp only [nextL, hb, if_pos]
section
variable {sp : List SpT} {wf : List WfT} {od : List OdT}
theorem best2 (F : Nat) (rank : Int) (ar0 : A0) (ar1 : A1) (bs : List Int) (ho : od.length ≤ 12) : ∀ (m n : Nat) (a b : List Int), a.length = m → m < n → m ≤ 1000 → nextL od.length b = none →
    ∃ (kk : Int) (tl' : List Int), best_L2 F rank sp wf od ar0 ar1 bs n ((m : Int) - 1) (a ++ b.map (fun _ => (-1 : Int))) = some ((rank, kk), (sp, wf, od, ar0, ar1, bs, tl')) ∧ ((kk < 0 ∧ nextL od.length (a ++ b) = none) ∨ (∃ i : Nat, kk = (i : Int) ∧ i < tl'.length ∧ nextL od.length (a ++ b) = some (List.set tl' i (nth tl' 0 i + 1)) ∧ nth tl' 0 i ∈ a))
  | 0, n + 1, a, b, ha, _, _, hb => by
    have : a = [] := List.length_eq_zero_iff.1 ha
    subst this
    exact ⟨-1, _, rfl, .inl ⟨by omega, hb⟩⟩
  | m + 1, n + 1, a, b, ha, hn, hm, hb => by
    obtain ⟨a, x, rfl⟩ : ∃ a' x, a = a' ++ [x] := ⟨a.dropLast, a.getLast (by intro e; subst e; cases ha), (List.dropLast_concat_getLast _).symm⟩
    have ha' : a.length = m := by simp at ha; exact ha
    have hlen : (a ++ [x] ++ b.map (fun _ => (-1 : Int))).length = m + 1 + b.length := by simp; omega
    have hnx : nth (a ++ [x] ++ b.map (fun _ => (-1 : Int))) 0 m = x := by
      unfold nth
      rw [List.append_assoc, List.getD_eq_getElem?_getD, List.getElem?_append_right (by omega), ha']
      simp
    have hset : ∀ y, List.set (a ++ [x] ++ b.map (fun _ => (-1 : Int))) m y = a ++ y :: b.map (fun _ => (-1 : Int)) := fun y => by
      rw [List.append_assoc, List.set_append_right _ _ (by omega), ha']
      simp
    have c1 : decide ((((m + 1 : Nat) : Int) - 1) ≥ 0) = true := by simp
    have c2 : (((m + 1 : Nat) : Int) - 1) = (m : Int) := by omega
    have c3 : inB (m : Int) ((a ++ [x] ++ b.map (fun _ => (-1 : Int))).length - 0) = true := by rw [hlen]; exact inB_nat (by omega)
    have c4 : IntKind.wrap IntKind.i64 (((od.length - 0) : Int) - 1) = (od.length : Int) - 1 := by rw [w64 _ (by omega)]; omega
    by_cases hx : x = (od.length : Int) - 1
    · obtain ⟨kk, tl', e1, e2⟩ := best2 F rank ar0 ar1 bs ho m n a (x :: b) ha' (by omega) (by omega) (by rw [hx]; exact next_max hb)
      refine ⟨kk, tl', ?_, ?_⟩
      · rw [← e1]
        show (bif decide ((((m + 1 : Nat) : Int) - 1) ≥ 0) then bif inB (((m + 1 : Nat) : Int) - 1) ((a ++ [x] ++ b.map (fun _ => (-1 : Int))).length - 0) then bif nth (a ++ [x] ++ b.map (fun _ => (-1 : Int))) 0 (((m + 1 : Nat) : Int) - 1).toNat == IntKind.wrap IntKind.i64 (((od.length - 0) : Int) - 1) then bif inB (((m + 1 : Nat) : Int) - 1) ((a ++ [x] ++ b.map (fun _ => (-1 : Int))).length - 0) then best_L2 F rank sp wf od ar0 ar1 bs n (IntKind.wrap IntKind.i64 ((((m + 1 : Nat) : Int) - 1) - 1)) (List.set (a ++ [x] ++ b.map (fun _ => (-1 : Int))) (((m + 1 : Nat) : Int) - 1).toNat (-1)) else none else _ else none else _) = _
        rw [c1, c2, c3, c4, Int.toNat_natCast, hnx, show (x == (od.length : Int) - 1) = true by simpa using hx, hset, w64 _ (by omega)]
        rfl
      · rw [show a ++ [x] ++ b = a ++ x :: b by simp]
        rcases e2 with e2 | ⟨i, f1, f2, f3, f4⟩
        · exact .inl e2
        · exact .inr ⟨i, f1, f2, f3, List.mem_append_left _ f4⟩
    · refine ⟨(m : Int), a ++ [x] ++ b.map (fun _ => (-1 : Int)), ?_, .inr ⟨m, rfl, by rw [hlen]; omega, ?_, by rw [hnx]; simp⟩⟩
      · show (bif decide ((((m + 1 : Nat) : Int) - 1) ≥ 0) then bif inB (((m + 1 : Nat) : Int) - 1) ((a ++ [x] ++ b.map (fun _ => (-1 : Int))).length - 0) then bif nth (a ++ [x] ++ b.map (fun _ => (-1 : Int))) 0 (((m + 1 : Nat) : Int) - 1).toNat == IntKind.wrap IntKind.i64 (((od.length - 0) : Int) - 1) then _ else some ((rank, ((m + 1 : Nat) : Int) - 1), (sp, wf, od, ar0, ar1, bs, a ++ [x] ++ b.map (fun _ => (-1 : Int)))) else none else _) = _
        rw [c1, c2, c3, c4, Int.toNat_natCast, hnx, show (x == (od.length : Int) - 1) = false by simpa using hx]
        rfl
      · rw [hnx, hset, show a ++ [x] ++ b = a ++ x :: b by simp]
        exact next_at a hb hx
  | m, 0, _, _, _, hn, _, _ => by omega
end
end Go.Proofs.YtbnapejkjaddoaaDoor


namespace Go.Proofs.YtbnapejkjaddoaaDoor
open Go.RowKit
set_option maxRecDepth 100000
section
variable {sp : List SpT} {wf : List WfT} {od : List OdT}
/-- What was found among the lists that were seen. -/
def Tried (sp : List SpT) (wf : List WfT) (od : List OdT) (seen : List Int → Prop) (rank : Int) (bs : List Int) : Prop :=
  (∀ us : List Int, us.length = wf.length → okL od.length us → seen us → ∀ v, rkM sp wf od us = some v → v ≤ rank ∧ (v = rank → lexLe bs us)) ∧ (rank = -1 ∨ (bs.length = wf.length ∧ rkM sp wf od bs = some rank ∧ 0 ≤ rank ∧ seen bs))
theorem best1 (h : MOk sp wf od) (hr : regOk sp) (F : Nat) (hF : 2000 < F) (ar0 : A0) (ar1 : A1) : ∀ (n : Nat) (rank : Int) (bs tl : List Int), remL od.length tl < n → tl.length = wf.length → okL od.length tl → -1 ≤ rank → rank ≤ 100000000000 → Tried sp wf od (fun us => lexLe us tl ∧ us ≠ tl) rank bs →
    ∃ (rank' : Int) (bs' : List Int), best_L1 F n rank sp wf od ar0 ar1 bs tl = some (sp, wf, od, ar0, ar1, bs') ∧ Tried sp wf od (fun _ => True) rank' bs' := by
  intro n
  induction n with
  | zero => intro rank bs tl hm; omega
  | succ n ih =>
    intro rank bs tl hm hl hok h1 h2 hT
    have hw := h.w
    have ho := h.o
    let rank2 : Int := match rkM sp wf od tl with
      | some v => if v > rank then v else rank
      | none => rank
    let bs2 : List Int := match rkM sp wf od tl with
      | some v => if v > rank then tl else bs
      | none => bs
    have hb : ∀ v, rkM sp wf od tl = some v → 0 ≤ v ∧ v ≤ 100000000000 := fun v hv => by
      have := rkF_bound h tl 0 _ 0 v hv; omega
    have inner : (bif (match rkM sp wf od tl with | some v => (v / 1000000000, v % 1000000000, true) | none => ((0 : Int), (0 : Int), false)).2.2 then bif decide (IntKind.wrap IntKind.i64 ((IntKind.wrap IntKind.i64 ((match rkM sp wf od tl with | some v => (v / 1000000000, v % 1000000000, true) | none => ((0 : Int), (0 : Int), false)).1 * (1000000000 : Int))) + (match rkM sp wf od tl with | some v => (v / 1000000000, v % 1000000000, true) | none => ((0 : Int), (0 : Int), false)).2.1) > rank) then bif lenOk 0 tl.length then some (IntKind.wrap IntKind.i64 ((IntKind.wrap IntKind.i64 ((match rkM sp wf od tl with | some v => (v / 1000000000, v % 1000000000, true) | none => ((0 : Int), (0 : Int), false)).1 * (1000000000 : Int))) + (match rkM sp wf od tl with | some v => (v / 1000000000, v % 1000000000, true) | none => ((0 : Int), (0 : Int), false)).2.1), (sp, wf, od, ar0, ar1, ([] ++ tl), tl)) else none else some (rank, (sp, wf, od, ar0, ar1, bs, tl)) else some (rank, (sp, wf, od, ar0, ar1, bs, tl))) = some (rank2, (sp, wf, od, ar0, ar1, bs2, tl)) := by
      show _ = some ((match rkM sp wf od tl with
        | some v => if v > rank then v else rank
        | none => rank), (sp, wf, od, ar0, ar1, (match rkM sp wf od tl with
        | some v => if v > rank then tl else bs
        | none => bs), tl))
      cases hv : rkM sp wf od tl with
      | none => rfl
      | some v =>
        have hbv := hb v hv
        dsimp only
        rw [w64 (v / 1000000000 * 1000000000) (by omega), w64 _ (by omega), show v / 1000000000 * 1000000000 + v % 1000000000 = v by omega, lenOk_of (by omega)]
        by_cases hg : v > rank
        · rw [show decide (v > rank) = true by simpa using hg, if_pos hg, if_pos hg]; rfl
        · rw [show decide (v > rank) = false by simpa using hg, if_neg hg, if_neg hg]; rfl
    have hT2 : Tried sp wf od (fun us => lexLe us tl) rank2 bs2 ∧ -1 ≤ rank2 ∧ rank2 ≤ 100000000000 := by
      show Tried sp wf od (fun us => lexLe us tl) (match rkM sp wf od tl with
        | some v => if v > rank then v else rank
        | none => rank) (match rkM sp wf od tl with
        | some v => if v > rank then tl else bs
        | none => bs) ∧ -1 ≤ (match rkM sp wf od tl with
        | some v => if v > rank then v else rank
        | none => rank) ∧ (match rkM sp wf od tl with
        | some v => if v > rank then v else rank
        | none => rank) ≤ 100000000000
      have old : ∀ us, lexLe us tl → us = tl ∨ (lexLe us tl ∧ us ≠ tl) := fun us hu => by
        by_cases e : us = tl
        · exact .inl e
        · exact .inr ⟨hu, e⟩
      cases hv : rkM sp wf od tl with
      | none =>
        refine ⟨⟨fun us g1 g2 g3 v' g4 => ?_, ?_⟩, h1, h2⟩
        · rcases old us g3 with rfl | g5
          · rw [hv] at g4; cases g4
          · exact hT.1 us g1 g2 g5 v' g4
        · rcases hT.2 with g | ⟨g1, g2, g3, g4⟩
          · exact .inl g
          · exact .inr ⟨g1, g2, g3, g4.1⟩
      | some v =>
        have hbv := hb v hv
        dsimp only
        by_cases hg : v > rank
        · rw [if_pos hg, if_pos hg]
          refine ⟨⟨fun us g1 g2 g3 v' g4 => ?_, .inr ⟨hl, hv, hbv.1, lexLe_refl _⟩⟩, by omega, hbv.2⟩
          rcases old us g3 with rfl | g5
          · rw [hv] at g4; cases g4
            exact ⟨Int.le_refl _, fun _ => lexLe_refl _⟩
          · have := (hT.1 us g1 g2 g5 v' g4).1
            exact ⟨by omega, fun e => by omega⟩
        · rw [if_neg hg, if_neg hg]
          refine ⟨⟨fun us g1 g2 g3 v' g4 => ?_, ?_⟩, h1, h2⟩
          · rcases old us g3 with rfl | g5
            · rw [hv] at g4; cases g4
              refine ⟨by omega, fun e => ?_⟩
              rcases hT.2 with g | ⟨_, _, _, g6⟩
              · omega
              · exact g6.1
            · exact hT.1 us g1 g2 g5 v' g4
          · rcases hT.2 with g | ⟨g1, g2, g3, g4⟩
            · exact .inl g
            · exact .inr ⟨g1, g2, g3, g4.1⟩
    obtain ⟨hT3, hr1, hr2⟩ := hT2
    generalize rank2 = rk at inner hT3 hr1 hr2
    generalize bs2 = bb at inner hT3
    obtain ⟨kk, tl', e1, e2⟩ := best2 (sp := sp) (wf := wf) F rk ar0 ar1 bb ho wf.length F tl [] hl (by omega) (by omega) rfl
    rw [List.map_nil, List.append_nil] at e1
    rw [List.append_nil] at e2
    have unf : best_L1 F (n + 1) rank sp wf od ar0 ar1 bs tl = (bif decide (kk < 0) then some (sp, wf, od, ar0, ar1, bb) else bif inB kk (tl'.length - 0) then bif inB kk (tl'.length - 0) then best_L1 F n rk sp wf od ar0 ar1 bb (List.set tl' kk.toNat (IntKind.wrap IntKind.i64 ((nth tl' 0 kk.toNat) + 1))) else none else none) := by
      show ob (rTotal_S F sp wf od tl) _ = _
      rw [rTotal_eq h hr F (by omega) tl, if_pos hl]
      refine (congrArg (fun z => ob z _) inner).trans ?_
      show ob (best_L2 F rk sp wf od ar0 ar1 bb F (IntKind.wrap IntKind.i64 (((tl.length - 0) : Int) - 1)) tl) _ = _
      rw [w64 _ (by omega), hl, Int.sub_zero, e1]
    rcases e2 with ⟨f1, f2⟩ | ⟨i, f1, f2, f3, f4⟩
    · refine ⟨rk, bb, ?_, ⟨fun us g1 g2 _ v g3 => hT3.1 us g1 g2 (next_none f2 (by rw [hl, g1]) g2) v g3, ?_⟩⟩
      · rw [unf, show decide (kk < 0) = true by simpa using f1]; rfl
      · rcases hT3.2 with g | ⟨g1, g2, g3, g4⟩
        · exact .inl g
        · exact .inr ⟨g1, g2, g3, trivial⟩
    · have hx := hok _ f4
      have hrem := rem_next f3 hok
      have hlt := next_lt f3
      obtain ⟨rank', bs', j1, j2⟩ := ih rk bb _ (by omega) (by rw [next_len f3]; exact hl) (next_ok f3 hok) hr1 hr2 (⟨fun us g1 g2 g3 v g4 => by
        rcases next_gap f3 (by rw [hl, g1]) g2 with g5 | g5
        · exact absurd (lexLe_anti (by rw [next_len f3, hl, g1]) g3.1 g5) g3.2
        · exact hT3.1 us g1 g2 g5 v g4, by
        rcases hT3.2 with g | ⟨g1, g2, g3, g4⟩
        · exact .inl g
        · refine .inr ⟨g1, g2, g3, lexLe_trans g4 hlt, fun e => ?_⟩
          rw [e] at g4
          have := lexLe_anti (next_len f3) g4 hlt
          rw [this] at hrem
          omega⟩)
      refine ⟨rank', bs', ?_, j2⟩
      rw [unf, f1, Int.toNat_natCast, w64 _ (by omega), show decide ((i : Int) < 0) = false by simp, show inB (i : Int) (tl'.length - 0) = true from inB_nat f2]
      exact j1
theorem best0 (F : Nat) (ar0 : A0) (ar1 : A1) (hw : wf.length ≤ 1000) : ∀ m i n, i + m = wf.length → m < n → best_L0 F (-1) sp wf od ar0 ar1 [] n (i : Int) (List.replicate i (-1)) = some (-1, (sp, wf, od, ar0, ar1, [], List.replicate wf.length (-1)))
  | 0, i, n + 1, hi, _ => by
    have : i = wf.length := by omega
    subst this
    show (bif decide ((wf.length : Int) < ((wf.length - 0) : Int)) then _ else _) = _
    rw [Int.sub_zero, lt_f]; rfl
  | m + 1, i, n + 1, hi, hn => by
    have hl : i < wf.length := by omega
    have ih := best0 F ar0 ar1 hw m (i + 1) n (by omega) (by omega)
    rw [← ih]
    show (bif decide ((i : Int) < ((wf.length - 0) : Int)) then bif lenOk ((List.replicate i (-1 : Int)).length - 0) 1 then best_L0 F (-1) sp wf od ar0 ar1 [] n (IntKind.wrap IntKind.i64 ((i : Int) + 1)) (List.replicate i (-1) ++ ((-1 : Int) :: [])) else none else _) = _
    rw [show decide ((i : Int) < ((wf.length - 0) : Int)) = true by rw [Int.sub_zero]; exact lt_t hl, lenOk_of (by rw [List.length_replicate]; omega), i64s (by omega), List.replicate_succ']
    rfl
  | m, i, 0, _, hn => by omega
theorem rk_okL : ∀ (ts : List Int) (i : Nat) (l : Nat → Int) (n v : Int), rkF wf.length od.length (pmM sp wf od) (wO od) i ts l n = some v → okL od.length ts
  | [], _, _, _, _, _ => fun t ht => by cases ht
  | t :: ts, i, l, n, v, hh => by
    simp only [rkF] at hh
    split at hh
    · rename_i ht
      exact okL_mk (by omega) (rk_okL ts _ _ _ _ hh)
    · split at hh
      · rename_i hc
        exact okL_mk (by omega) (rk_okL ts _ _ _ _ hh)
      · cases hh
/-- What Best returns. -/
theorem best_eq (h : MOk sp wf od) (hr : regOk sp) (F : Nat) (hF : 2000 < F) (hm : (od.length + 1) ^ wf.length ≤ F) (ar0 : A0) (ar1 : A1) : ∃ (tl : List Int) (v : Int), best_S F sp wf od ar0 ar1 = some (ar0, ar1, tl) ∧ tl.length = wf.length ∧ rkM sp wf od tl = some v ∧ ∀ us : List Int, us.length = wf.length → ∀ v', rkM sp wf od us = some v' → v' ≤ v ∧ (v' = v → lexLe tl us) := by
  have hw := h.w
  have e0 := best0 (sp := sp) (wf := wf) (od := od) F ar0 ar1 (by omega) wf.length 0 F (by omega) (by omega)
  have hrep : List.replicate wf.length (-1 : Int) = (List.replicate wf.length (0 : Int)).map (fun _ => (-1 : Int)) := by simp
  have hrem := rem_start od.length (List.replicate wf.length (0 : Int))
  rw [← hrep, List.length_replicate] at hrem
  obtain ⟨rank', bs', e1, e2, e3⟩ := best1 h hr F hF ar0 ar1 F (-1) [] (List.replicate wf.length (-1)) (by omega) (by simp) (by rw [hrep]; exact okL_start _ _) (by omega) (by omega) ⟨fun us g1 g2 g3 v _ => by
    exfalso
    refine g3.2 (lexLe_anti (by rw [g1]; simp) g3.1 ?_)
    rw [hrep]
    exact start_le od.length _ us (by rw [g1]; simp) g2, .inl rfl⟩
  have hmin : rkM sp wf od (List.replicate wf.length (-1)) = some 0 := by
    unfold rkM
    have : ∀ (m i : Nat) (l : Nat → Int), rkF wf.length od.length (pmM sp wf od) (wO od) i (List.replicate m (-1)) l 0 = some 0 := by
      intro m
      induction m with
      | zero => intro i l; rfl
      | succ m ih => intro i l; rw [List.replicate_succ]; simp only [rkF, if_pos]; exact ih _ _
    exact this _ _ _
  have h0 := (e2 (List.replicate wf.length (-1)) (by simp) (by rw [hrep]; exact okL_start _ _) trivial 0 hmin).1
  rcases e3 with g | ⟨g1, g2, g3, _⟩
  · omega
  · refine ⟨bs', rank', ?_, g1, g2, fun us hu v' hv => e2 us hu (rk_okL us 0 _ 0 v' hv) trivial v' hv⟩
    unfold best_S
    rw [show best_L0 F (-1 : Int) sp wf od ar0 ar1 [] F (0 : Int) [] = _ from e0]
    show ob (best_L1 F F (-1) sp wf od ar0 ar1 [] (List.replicate wf.length (-1))) _ = _
    rw [e1]
end
end Go.Proofs.YtbnapejkjaddoaaDoor


namespace Go.Proofs.YtbnapejkjaddoaaDoor
open Go.RowKit
set_option maxRecDepth 100000
def lgB (w : WfT) : Bool := decide ((w.2.2.1.size : Int) > 40) || (decide ((w.2.2.2.1.size : Int) > 40) || (decide ((w.2.2.2.2.1.size : Int) > 40) || (decide ((w.2.2.2.2.2.1.size : Int) > 40) || (decide ((w.2.2.2.2.2.2.1.size : Int) > 40) || decide ((w.2.2.2.2.2.2.2.size : Int) > 40)))))
theorem long_eq (F : Nat) (w : WfT) : long_S F w = some (lgB w) := by
  unfold long_S lgB
  simp only [b2, bs]
  change some (bif (decide ((w.2.2.1.size : Int) > 40) || (decide ((w.2.2.2.1.size : Int) > 40) || (decide ((w.2.2.2.2.1.size : Int) > 40) || (decide ((w.2.2.2.2.2.1.size : Int) > 40) || (decide ((w.2.2.2.2.2.2.1.size : Int) > 40) || decide ((w.2.2.2.2.2.2.2.size : Int) > 40)))))) then true else false) = _
  rw [ct, Bool.or_false]
theorem lg_short {w : WfT} (h : lgB w = false) : shortW w := by
  unfold lgB at h
  simp only [Bool.or_eq_false_iff, decide_eq_false_iff_not] at h
  unfold shortW
  omega
theorem ba_refl (x : ByteArray) : (x == x) = true := by rw [beq_toListBytes]; exact beq_self_eq_true _
section
variable {sp : List SpT} {wf : List WfT} {od : List OdT}
def largeB (sp : List SpT) (wf : List WfT) (od : List OdT) : Bool := (decide (25 < sp.length) || (decide (65 < wf.length) || decide (15 < od.length))) || wf.any lgB
theorem large_eq (F : Nat) (hF : 2000 < F) (sp : List SpT) (wf : List WfT) (od : List OdT) : large_S F sp wf od = some (largeB sp wf od) := by
  unfold large_S largeB
  rw [show (25 : Int) = ((25 : Nat) : Int) from rfl, show (65 : Int) = ((65 : Nat) : Int) from rfl, show (15 : Int) = ((15 : Nat) : Int) from rfl, gt_n, gt_n, gt_n]
  cases h1 : decide (25 < sp.length) with
  | true => rfl
  | false =>
    cases h2 : decide (65 < wf.length) with
    | true => rfl
    | false =>
      cases h3 : decide (15 < od.length) with
      | true => rfl
      | false =>
        simp only [decide_eq_false_iff_not, Nat.not_lt] at h1 h2 h3
        show ob (large_L0 F sp wf od F 0) _ = _
        have := scan (fun n i => large_L0 F sp wf od n i) wf dW lgB (fun _ b => b.1 = true) (fun _ => True) (fun n => ⟨_, by
            show (bif decide (((wf.length : Nat) : Int) < ((wf.length - 0) : Int)) then _ else _) = _
            rw [Int.sub_zero, lt_f]; rfl, trivial⟩) (fun n i hi => by
            have e : large_L0 F sp wf od (n + 1) (i : Int) = bif lgB (nth wf dW i) then some (.inl (true, (sp, wf, od))) else large_L0 F sp wf od n ((i + 1 : Nat) : Int) := by
              show (bif decide ((i : Int) < ((wf.length - 0) : Int)) then bif inB (i : Int) (wf.length - 0) then ob (long_S F (nth wf dW (i : Int).toNat)) _ else none else _) = _
              rw [Int.sub_zero, lt_t hi, Nat.sub_zero, inB_nat hi, Int.toNat_natCast, long_eq]
              simp only [cond_true, ob_some]
              rw [i64s (by omega)]
            exact ⟨fun h => ⟨_, by rw [e, h]; rfl, rfl⟩, fun h => by rw [e, h]; rfl⟩) wf.length 0 F (by omega) (by omega)
        rw [List.drop_zero] at this
        rcases this with ⟨h4, j, b, _, _, _, _, h5, h6⟩ | ⟨h4, c, h5, _⟩
        · rw [show large_L0 F sp wf od F 0 = _ from h5, h4]
          show some b.1 = _
          rw [h6]; rfl
        · rw [show large_L0 F sp wf od F 0 = _ from h5, h4]; rfl
theorem large_no (h : largeB sp wf od = false) : (sp.length ≤ 25 ∧ wf.length ≤ 65 ∧ od.length ≤ 15) ∧ ∀ w ∈ wf, shortW w := by
  unfold largeB at h
  simp only [Bool.or_eq_false_iff, decide_eq_false_iff_not, Nat.not_lt] at h
  exact ⟨⟨h.1.1, h.1.2.1, h.1.2.2⟩, fun w hw => lg_short (by simpa using List.any_eq_false.1 h.2 w hw)⟩
theorem own_eq (F : Nat) (h : largeB sp wf od = false) (ar0 : A0) (ar1 : A1) : own_S F sp wf od ar0 ar1 = some (ar0, ar1, sp, wf, od) := by
  have h := (large_no h).1
  unfold own_S
  rw [lenOk_of (by omega), lenOk_of (by omega), lenOk_of (by omega)]
  rfl
theorem ints_eq (F : Nat) {l : List Int} (hl : l.length ≤ 1000000) (ar0 : A0) (ar1 : A1) : ints_S F l ar0 ar1 = some (ar0, ar1, l) := by
  unfold ints_S
  rw [lenOk_of (by omega)]; rfl
end
end Go.Proofs.YtbnapejkjaddoaaDoor


namespace Go.Proofs.YtbnapejkjaddoaaDoor
open Go.RowKit
set_option maxRecDepth 100000
section
variable {sp : List SpT} {wf : List WfT} {od : List OdT}
theorem many0 (F : Nat) (ho : od.length ≤ 12) (hw : wf.length ≤ 1000) : ∀ (m i n : Nat) (v : Int), i + m = wf.length → m < n → (v = (((od.length + 1) ^ i : Nat) : Int) ∧ v ≤ 100000 ∨ v = 100000 ∧ 100000 ≤ (od.length + 1) ^ i) → ∃ v' : Int, many_L0 F sp wf od n v (i : Int) = some (v', (sp, wf, od)) ∧ (v' = (((od.length + 1) ^ wf.length : Nat) : Int) ∧ v' ≤ 100000 ∨ v' = 100000 ∧ 100000 ≤ (od.length + 1) ^ wf.length)
  | 0, i, n + 1, v, hi, _, hv => by
    have : i = wf.length := by omega
    subst this
    refine ⟨v, ?_, hv⟩
    show (bif decide ((wf.length : Int) < ((wf.length - 0) : Int)) then _ else _) = _
    rw [Int.sub_zero, lt_f]; rfl
  | m + 1, i, n + 1, v, hi, hn, hv => by
    have hl : i < wf.length := by omega
    have hv0 : 0 ≤ v ∧ v ≤ 100000 := by
      rcases hv with ⟨h1, h2⟩ | ⟨h1, _⟩
      · omega
      · omega
    have hm : 0 ≤ v * ((od.length : Int) + 1) ∧ v * ((od.length : Int) + 1) ≤ 1300000 := by
      refine ⟨Int.mul_nonneg hv0.1 (by omega), ?_⟩
      have := Int.mul_le_mul hv0.2 (show (od.length : Int) + 1 ≤ 13 by omega) (by omega) (by omega)
      omega
    obtain ⟨v', e1, e2⟩ := many0 F ho hw m (i + 1) n (if (100000 : Int) < v * ((od.length : Int) + 1) then 100000 else v * ((od.length : Int) + 1)) (by omega) (by omega) (by
      rw [Nat.pow_succ]
      rcases hv with ⟨h1, h2⟩ | ⟨h1, h2⟩
      · have h3 : v * ((od.length : Int) + 1) = (((od.length + 1) ^ i * (od.length + 1) : Nat) : Int) := by rw [h1]; push_cast; rfl
        rw [h3]
        split
        · exact .inr ⟨rfl, by omega⟩
        · exact .inl ⟨rfl, by omega⟩
      · have h4 : (od.length + 1) ^ i ≤ (od.length + 1) ^ i * (od.length + 1) := Nat.le_mul_of_pos_right _ (by omega)
        split
        · exact .inr ⟨rfl, by omega⟩
        · rename_i hh
          rw [h1] at hh
          have h5 : od.length = 0 := by omega
          rw [h5] at h2
          simp at h2)
    refine ⟨v', ?_, e2⟩
    rw [← e1]
    show (bif decide ((i : Int) < ((wf.length - 0) : Int)) then many_L0 F sp wf od n (if (100000 : Int) < (IntKind.wrap IntKind.i64 (v * (IntKind.wrap IntKind.i64 (((od.length - 0) : Int) + (1 : Int))))) then (100000 : Int) else (IntKind.wrap IntKind.i64 (v * (IntKind.wrap IntKind.i64 (((od.length - 0) : Int) + (1 : Int)))))) (IntKind.wrap IntKind.i64 ((i : Int) + 1)) else _) = _
    rw [show decide ((i : Int) < ((wf.length - 0) : Int)) = true by rw [Int.sub_zero]; exact lt_t hl, Int.sub_zero, w64 ((od.length : Int) + 1) (by omega), w64 (v * ((od.length : Int) + 1)) (by omega), i64s (by omega)]
    rfl
  | m, i, 0, _, _, hn, _ => by omega
theorem many_eq (F : Nat) (hF : 2000 < F) (ho : od.length ≤ 12) (hw : wf.length ≤ 1000) : ∃ v : Int, many_S F sp wf od = some v ∧ (v ≤ 4000 → (od.length + 1) ^ wf.length ≤ 4000) := by
  obtain ⟨v, e1, e2⟩ := many0 (sp := sp) F ho hw wf.length 0 F 1 (by omega) (by omega) (.inl ⟨by simp, by omega⟩)
  refine ⟨v, ?_, fun hv => ?_⟩
  · unfold many_S
    rw [show many_L0 F sp wf od F (1 : Int) (0 : Int) = _ from e1]
  · rcases e2 with ⟨h1, _⟩ | ⟨h1, _⟩ <;> omega
theorem same_eq (F : Nat) (l : List Int) (hl : l.length < F) (hl2 : l.length ≤ 1000000) : sameInts_S F l l = some true := by
  have key : ∀ m i n, i + m = l.length → m < n → sameInts_L0 F l l n (i : Int) = some (.inr (l, l)) := by
    intro m
    induction m with
    | zero =>
      intro i n hi hn
      obtain ⟨n, rfl⟩ : ∃ n', n = n' + 1 := ⟨n - 1, by omega⟩
      have : i = l.length := by omega
      subst this
      show (bif decide ((l.length : Int) < ((l.length - 0) : Int)) then _ else _) = _
      rw [Int.sub_zero, lt_f]; rfl
    | succ m ih =>
      intro i n hi hn
      obtain ⟨n, rfl⟩ : ∃ n', n = n' + 1 := ⟨n - 1, by omega⟩
      have hil : i < l.length := by omega
      rw [← ih (i + 1) n (by omega) (by omega)]
      show (bif decide ((i : Int) < ((l.length - 0) : Int)) then bif inB (i : Int) (l.length - 0) then bif inB (i : Int) (l.length - 0) then bif nth l 0 (i : Int).toNat != nth l 0 (i : Int).toNat then _ else sameInts_L0 F l l n (IntKind.wrap IntKind.i64 ((i : Int) + 1)) else none else none else _) = _
      rw [show decide ((i : Int) < ((l.length - 0) : Int)) = true by rw [Int.sub_zero]; exact lt_t hil, show inB (i : Int) (l.length - 0) = true from inB_nat hil, show (nth l 0 (i : Int).toNat != nth l 0 (i : Int).toNat) = false by simp, i64s (by omega)]
      rfl
  unfold sameInts_S
  rw [show (((l.length - 0) : Int) != ((l.length - 0) : Int)) = false by simp]
  show ob (sameInts_L0 F l l F (0 : Int)) _ = _
  rw [show sameInts_L0 F l l F (0 : Int) = _ from key l.length 0 F (by omega) (by omega)]
theorem oAssigns_law0 (F : Nat) (hF : 4000 ≤ F) (sp : List SpT) (wf : List WfT) (od : List OdT) (hs : regOk sp) (hu : ∀ w ∈ wf, 0 ≤ w.2.1 ∧ w.2.1 ≤ 255) : ∃ B C, oAssigns_S F sp wf od [] [] = some (true, B, C) := by
  unfold oAssigns_S
  rw [large_eq F (by omega)]
  cases hl : largeB sp wf od with
  | true => exact ⟨[], [], rfl⟩
  | false =>
    obtain ⟨hn, hsh⟩ := large_no hl
    have hw : wfsOk wf := fun w h => ⟨hu w h, hsh w h⟩
    -- the first test
    have hbig : ∃ b : Bool, (ob (some false) (fun r => (bif r then (some (true, (sp, wf, od, ([] : A0), ([] : A1)))) else (ob (rCheck_S F sp wf od) (fun r1 => (bif (r1 == (0 : Int)) then (ob (many_S F sp wf od) (fun r2 => (some ((decide (r2 > (4000 : Int))), (sp, wf, od, ([] : A0), ([] : A1)))))) else (some (false, (sp, wf, od, ([] : A0), ([] : A1)))))))))) = some (b, (sp, wf, od, [], [])) ∧ (b = false → chkE sp wf od = 0 → (od.length + 1) ^ wf.length ≤ 4000) := by
      show ∃ b : Bool, ob (rCheck_S F sp wf od) _ = _ ∧ _
      rw [rCheck_eq F (by omega)]
      by_cases hc : chkE sp wf od = 0
      · have h := chk_ok hc
        have := h.o
        have := h.w
        obtain ⟨v, e1, e2⟩ := many_eq (sp := sp) (wf := wf) (od := od) F (by omega) h.o (by omega)
        refine ⟨decide (v > 4000), ?_, fun hb _ => e2 (by simpa using hb)⟩
        rw [hc]
        show ob (many_S F sp wf od) _ = _
        rw [e1]
      · refine ⟨false, ?_, fun _ h => absurd h hc⟩
        show (bif chkE sp wf od == 0 then _ else _) = _
        rw [show (chkE sp wf od == 0) = false by simpa using hc]
        rfl
    obtain ⟨b, e1, e2⟩ := hbig
    rw [show (ob (ob (some false) _) _ : Option (Bool × (A0 × A1))) = _ from congrArg (fun z => ob z _) e1]
    cases b with
    | true => exact ⟨[], [], rfl⟩
    | false =>
      show ∃ B C, ob (own_S F sp wf od [] []) _ = _
      rw [own_eq F hl]
      show ∃ B C, ob (assign_S F sp wf od [] []) _ = _
      by_cases hc : chkE sp wf od = 0
      · have h := chk_ok hc
        have hw60 := h.w
        obtain ⟨tl, v, B, C, a1, ⟨a2, a3, a4⟩, _, a5, a6⟩ := assign_eq F (by omega) hw [] [] hc
        obtain ⟨tb, u, b1, b2, b3, b4⟩ := best_eq h hs F (by omega) (Nat.le_trans (e2 rfl hc) hF) B C
        refine ⟨B, C, ?_⟩
        rw [a1]
        show ob (rCheck_S F sp wf od) _ = _
        rw [rCheck_eq F (by omega), hc]
        show ob (best_S F sp wf od B C) _ = _
        rw [b1]
        show ob (rTotal_S F sp wf od tb) _ = _
        rw [rTotal_eq h hs F (by omega), if_pos b2, b3]
        have huv : u = v := by
          have g1 := (b4 tl a2 v a3).1
          obtain ⟨a, f1, f2⟩ := rk_feas tb 0 (cO od) u (fun o ho => (h.cnt o ho).1) b3
          have hbest := (show BestM sp wf od (nth ((List.range od.length).map (cO od)) 0) 0 v from by assumption)
          have g2 := hbest.up h (fun o ho => by rw [nth_cO ho]; exact (h.cnt o ho).1) (ts := tb) b2 (v := u) (by rw [rkF_congr tb 0 _ (cO od) 0 (fun o ho => nth_cO ho)]; exact b3)
          omega
        subst huv
        have htb : tl = tb := lexLe_anti (by rw [a2, b2]; simp) (a4 tb b2 b3) ((b4 tl a2 u a3).2 rfl)
        subst htb
        show ob (sameInts_S F tl tl) _ = _
        rw [same_eq F tl (by rw [b2]; omega) (by rw [b2]; omega)]
        simp
      · rw [assign_bad F (by omega) hw [] [] hc]
        refine ⟨[], [], ?_⟩
        show ob (rCheck_S F sp wf od) _ = _
        rw [rCheck_eq F (by omega)]
        show (bif chkE sp wf od != 0 then bif chkE sp wf od == chkE sp wf od then some (true, ([] : A0), ([] : A1)) else _ else _) = _
        rw [show (chkE sp wf od != 0) = true by simpa using hc, beq_self_eq_true]
        rfl
end
end Go.Proofs.YtbnapejkjaddoaaDoor
