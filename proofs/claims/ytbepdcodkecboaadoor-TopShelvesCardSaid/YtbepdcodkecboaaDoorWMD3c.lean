/- Plain laws of chapter 10: lists and assignments. No condition. -/
import Derived.Test.YtbepdcodkecboaaDoorWMI7
import Derived.Test.YtbepdcodkecboaaDoorWMC4

namespace Go.Proofs.YtbepdcodkecboaaDoor
open Go.RowKit
set_option maxRecDepth 100000
section
variable {nW k : Nat} {pm : Nat → Nat → Bool} {W : Nat → Int}
theorem rkF_shift : ∀ (ts : List Int) (i : Nat) (l : Nat → Int) (n c : Int), rkF nW k pm W i ts l (n + c) = (rkF nW k pm W i ts l n).map (· + c)
  | [], _, _, _, _ => rfl
  | t :: ts, i, l, n, c => by
    simp only [rkF]
    split
    · exact rkF_shift ts _ _ _ _
    · split
      · rw [show n + c + W t.toNat = (n + W t.toNat) + c by omega]; exact rkF_shift ts _ _ _ _
      · rfl
theorem rkF_zero (ts : List Int) (i : Nat) (l : Nat → Int) (n v : Int) : rkF nW k pm W i ts l n = some v ↔ rkF nW k pm W i ts l 0 = some (v - n) := by
  have := rkF_shift (nW := nW) (k := k) (pm := pm) (W := W) ts i l 0 n
  rw [Int.zero_add] at this
  rw [this]
  cases rkF nW k pm W i ts l 0 with
  | none => simp
  | some x => simp only [Option.map_some, Option.some.injEq]; omega
def oI : Option Nat → Int
  | none => -1
  | some o => (o : Int)
theorem range'_cons' (i m : Nat) : List.range' i (m + 1) = i :: List.range' (i + 1) m := List.range'_succ
/-- An assignment, as a list. -/
theorem feas_rk : ∀ (m i : Nat) (l : Nat → Int) (a : Nat → Option Nat), i + m ≤ nW → Mt.Feas k pm l (List.range' i m) a → rkF nW k pm W i ((List.range' i m).map (fun w => oI (a w))) l 0 = some (Mt.val W a (List.range' i m))
  | 0, _, _, _, _, _ => rfl
  | m + 1, i, l, a, hi, h => by
    have hni : i ∉ List.range' (i + 1) m := fun hx => by rw [List.mem_range'] at hx; obtain ⟨t, _, e⟩ := hx; omega
    rw [range'_cons'] at h ⊢
    rw [List.map_cons]
    simp only [rkF]
    cases ha : a i with
    | none =>
      have h' : Mt.Feas k pm l (List.range' (i + 1) m) a := ⟨fun w hw => h.ok w (List.mem_cons_of_mem _ hw), fun o ho => by
        have := h.le o ho
        rw [Mt.cnt_cons, ha, if_neg (by simp)] at this; omega⟩
      rw [show oI none = -1 from rfl, if_pos rfl, feas_rk m (i + 1) l a (by omega) h']
      simp only [Mt.val, ha, Mt.gv]
      congr 1; omega
    | some o =>
      obtain ⟨h1, h2⟩ := h.ok i List.mem_cons_self o ha
      have h3 := h.le o h1
      rw [Mt.cnt_cons, ha, if_pos rfl] at h3
      have h4 := Mt.cnt_nn a (List.range' (i + 1) m) o
      have h' : Mt.Feas k pm (updF l o (l o - 1)) (List.range' (i + 1) m) a := ⟨fun w hw => h.ok w (List.mem_cons_of_mem _ hw), fun p hp => by
        have := h.le p hp
        rw [Mt.cnt_cons, ha] at this
        unfold updF
        by_cases e : p = o
        · subst e; rw [if_pos rfl] at this ⊢; omega
        · rw [if_neg e]; rw [if_neg (by simpa using fun e' => e e'.symm)] at this; omega⟩
      rw [show oI (some o) = (o : Int) from rfl, if_neg (by omega), Int.toNat_natCast, if_pos ⟨by omega, ⟨by omega, h1⟩, h2, by omega⟩]
      rw [rkF_zero, feas_rk m (i + 1) _ a (by omega) h' |> (fun e => show rkF nW k pm W (i + 1) _ _ 0 = some _ from e)]
      simp only [Mt.val, ha, Mt.gv]
      congr 1; omega
/-- A list, as an assignment. -/
theorem rk_feas : ∀ (ts : List Int) (i : Nat) (l : Nat → Int) (v : Int), (∀ o, o < k → 0 ≤ l o) → rkF nW k pm W i ts l 0 = some v → ∃ a, Mt.Feas k pm l (List.range' i ts.length) a ∧ Mt.val W a (List.range' i ts.length) = v
  | [], i, l, v, hl, h => by
    cases h
    exact ⟨fun _ => none, ⟨(fun w hw => by cases hw), (fun o ho => by unfold Mt.cnt; simpa using hl o ho)⟩, rfl⟩
  | t :: ts, i, l, v, hl, h => by
    have hni : i ∉ List.range' (i + 1) ts.length := fun hx => by rw [List.mem_range'] at hx; obtain ⟨t, _, e⟩ := hx; omega
    have ext : ∀ (a : Nat → Option Nat) (x : Option Nat), ∀ w, w ∈ List.range' (i + 1) ts.length → (fun w => if w = i then x else a w) w = a w := fun a x w hw => if_neg (by intro e; subst e; exact hni hw)
    rw [List.length_cons, range'_cons']
    simp only [rkF] at h
    split at h
    · obtain ⟨a, h1, h2⟩ := rk_feas ts (i + 1) l v hl h
      refine ⟨fun w => if w = i then none else a w, ⟨fun w hw o ho => ?_, fun o ho => ?_⟩, ?_⟩
      · rcases List.mem_cons.1 hw with rfl | hw
        · simp at ho
        · rw [show (if w = i then none else a w) = a w from ext a none w hw] at ho; exact h1.ok w hw o ho
      · rw [Mt.cnt_cons, if_neg (by simp), Mt.cnt_congr (ext a none)]
        have := h1.le o ho; omega
      · simp only [Mt.val, if_true, Mt.gv]
        rw [Mt.val_congr (ext a none), h2]; omega
    · split at h
      · rename_i hc
        obtain ⟨hc1, ⟨hc2, hc3⟩, hc4, hc5⟩ := hc
        rw [rkF_zero] at h
        obtain ⟨a, h1, h2⟩ := rk_feas ts (i + 1) _ _ (fun o ho => by unfold updF; have := hl o ho; split <;> omega) h
        refine ⟨fun w => if w = i then some t.toNat else a w, ⟨fun w hw o ho => ?_, fun o ho => ?_⟩, ?_⟩
        · rcases List.mem_cons.1 hw with rfl | hw
          · simp only [if_true, Option.some.injEq] at ho
            subst ho; exact ⟨hc3, hc4⟩
          · rw [show (if w = i then some t.toNat else a w) = a w from ext a _ w hw] at ho; exact h1.ok w hw o ho
        · rw [Mt.cnt_cons, Mt.cnt_congr (ext a _)]
          have := h1.le o ho
          unfold updF at this
          by_cases e : o = t.toNat
          · rw [if_pos e] at this; rw [if_pos (by simp [e]), e]
            rw [e] at this; omega
          · rw [if_neg e] at this; rw [if_neg (by simpa using fun e' => e e'.symm)]; omega
        · simp only [Mt.val, if_true, Mt.gv]
          rw [Mt.val_congr (ext a _), h2]; omega
      · cases h
end
section
variable {sp : List SpT} {wf : List WfT} {od : List OdT}
theorem BestM.up (h : MOk sp wf od) {cap : Nat → Int} (hc : ∀ o, o < od.length → 0 ≤ cap o) {fr : Nat} {m : Int} (hb : BestM sp wf od cap fr m) {ts : List Int} (ht : ts.length = wf.length - fr) {v : Int} (hv : rkF wf.length od.length (pmM sp wf od) (wO od) fr ts cap 0 = some v) : v ≤ m := by
  obtain ⟨a, h1, h2⟩ := rk_feas ts fr cap v hc hv
  rw [ht] at h1 h2
  rw [← h2]; exact hb.upper h h1
theorem BestM.ex {cap : Nat → Int} {fr : Nat} (hfr : fr ≤ wf.length) {m : Int} (hb : BestM sp wf od cap fr m) : ∃ ts : List Int, ts.length = wf.length - fr ∧ rkF wf.length od.length (pmM sp wf od) (wO od) fr ts cap 0 = some m := by
  obtain ⟨a, h1, h2⟩ := hb.got
  exact ⟨(List.range' fr (wf.length - fr)).map (fun w => oI (a w)), by rw [List.length_map, List.length_range'], by rw [← h2]; exact feas_rk _ _ _ _ (by omega) h1⟩
theorem BestM.uniq (h : MOk sp wf od) {cap : Nat → Int} {fr : Nat} {m m' : Int} (hb : BestM sp wf od cap fr m) (hb' : BestM sp wf od cap fr m') : m = m' := by
  obtain ⟨a, h1, h2⟩ := hb.got
  obtain ⟨a', h1', h2'⟩ := hb'.got
  have := hb.upper h h1'
  have := hb'.upper h h1
  omega
end
end Go.Proofs.YtbepdcodkecboaaDoor


namespace Go.Proofs.YtbepdcodkecboaaDoor
open Go.RowKit
set_option maxRecDepth 100000
/-- Lists in ascending order. -/
def lexLe : List Int → List Int → Prop
  | [], _ => True
  | _ :: _, [] => False
  | a :: l, b :: m => a < b ∨ (a = b ∧ lexLe l m)
section
variable {sp : List SpT} {wf : List WfT} {od : List OdT}
/-- The smallest of the best lists of the wafers from one on. -/
def Least (sp : List SpT) (wf : List WfT) (od : List OdT) (fr : Nat) (left : Nat → Int) (rest : Int) (ts : List Int) : Prop :=
  ts.length = wf.length - fr ∧ rkF wf.length od.length (pmM sp wf od) (wO od) fr ts left 0 = some rest ∧ ∀ ts' : List Int, ts'.length = wf.length - fr → rkF wf.length od.length (pmM sp wf od) (wO od) fr ts' left 0 = some rest → lexLe ts ts'
theorem set_back (l : List Int) {o : Nat} (ho : o < l.length) (v : Int) : List.set (List.set l o v) o (nth l 0 o) = l := by
  have := List.set_getElem_self ho
  rw [nth_eq l 0 o ho] at this
  rw [List.set_set]
  exact this
/-- A list with a first number that is not there. -/
theorem rk_cons {fr : Nat} {left : Nat → Int} {t : Int} {ts : List Int} {v : Int} (h : rkF wf.length od.length (pmM sp wf od) (wO od) fr (t :: ts) left 0 = some v) : (t = -1 ∧ rkF wf.length od.length (pmM sp wf od) (wO od) (fr + 1) ts left 0 = some v) ∨ (∃ o : Nat, t = (o : Int) ∧ o < od.length ∧ pmM sp wf od fr o = true ∧ 0 < left o ∧ rkF wf.length od.length (pmM sp wf od) (wO od) (fr + 1) ts (updF left o (left o - 1)) 0 = some (v - wO od o)) := by
  simp only [rkF] at h
  split at h
  · exact .inl ⟨by assumption, h⟩
  · split at h
    · rename_i hc
      obtain ⟨_, ⟨h2, h3⟩, h4, h5⟩ := hc
      rw [rkF_zero, Int.zero_add] at h
      exact .inr ⟨t.toNat, by omega, h3, h4, h5, h⟩
    · cases h
theorem rk_none {fr : Nat} {left : Nat → Int} {ts : List Int} {v : Int} (h : rkF wf.length od.length (pmM sp wf od) (wO od) (fr + 1) ts left 0 = some v) : rkF wf.length od.length (pmM sp wf od) (wO od) fr (-1 :: ts) left 0 = some v := by
  simp only [rkF, if_pos]; exact h
theorem rk_some {fr : Nat} (hfr : fr < wf.length) {left : Nat → Int} {ts : List Int} {v : Int} {o : Nat} (ho : o < od.length) (hp : pmM sp wf od fr o = true) (hl : 0 < left o) (h : rkF wf.length od.length (pmM sp wf od) (wO od) (fr + 1) ts (updF left o (left o - 1)) 0 = some v) : rkF wf.length od.length (pmM sp wf od) (wO od) fr ((o : Int) :: ts) left 0 = some (v + wO od o) := by
  simp only [rkF]
  rw [if_neg (by omega), Int.toNat_natCast, if_pos ⟨hfr, ⟨by omega, ho⟩, hp, hl⟩, rkF_zero, h]
  congr 1; omega
theorem asg1 (h : MOk sp wf od) (F : Nat) (hF : 2000 < F) {ps : List Nat} {ar0 : A0} (hf : Fl sp wf od ps ar0) (rank : Int) (a b : Int) {w : Nat} (hw : w < wf.length) {lf : List Int} (hlf : lf.length = od.length) (hl : ∀ o, o < od.length → 0 ≤ nth lf 0 o ∧ nth lf 0 o ≤ 1000) {rest : Int} (hr : BestM sp wf od (nth lf 0) w rest) (hr0 : 0 ≤ rest ∧ rest ≤ 100000000000) {pre : List Int} (hpre : pre.length ≤ 1000) : ∀ (m j n : Nat) (ar1 : A1), j + m = od.length + 1 → m < n → (∀ t : Int, t < (j : Int) - 1 → ∀ ts : List Int, ts.length = wf.length - (w + 1) → rkF wf.length od.length (pmM sp wf od) (wO od) w (t :: ts) (nth lf 0) 0 ≠ some rest) →
    ∃ (t : Int) (rest' : Int) (lf' : List Int) (ar2 : A1), assign_L1 F n rank rest (w : Int) ((j : Int) - 1) a b sp wf od ar0 ar1 pre lf ps = some ((rank, rest', a, b), (sp, wf, od, ar0, ar2, pre ++ [t], lf', ps)) ∧ lf'.length = od.length ∧ (∀ o, o < od.length → 0 ≤ nth lf' 0 o ∧ nth lf' 0 o ≤ 1000) ∧ BestM sp wf od (nth lf' 0) (w + 1) rest' ∧ (0 ≤ rest' ∧ rest' ≤ 100000000000) ∧ (∀ t', t' < t → ∀ ts : List Int, ts.length = wf.length - (w + 1) → rkF wf.length od.length (pmM sp wf od) (wO od) w (t' :: ts) (nth lf 0) 0 ≠ some rest) ∧ (∀ ts : List Int, rkF wf.length od.length (pmM sp wf od) (wO od) w (t :: ts) (nth lf 0) 0 = some rest ↔ rkF wf.length od.length (pmM sp wf od) (wO od) (w + 1) ts (nth lf' 0) 0 = some rest')
  | 0, j, n + 1, ar1, hj, _, hno => by
    -- none is left: but there is one
    exfalso
    obtain ⟨ts, h1, h2⟩ := hr.ex (by omega)
    cases ts with
    | nil => simp at h1; omega
    | cons t ts =>
      have h1' : ts.length = wf.length - (w + 1) := by simp at h1; omega
      refine hno t ?_ ts h1' h2
      rcases rk_cons h2 with ⟨rfl, _⟩ | ⟨o, rfl, ho, _⟩ <;> omega
  | m + 1, j, n + 1, ar1, hj, hn, hno => by
    have ho12 := h.o
    have hw60 := h.w
    -- it goes on to the next number
    have next : (∀ ts : List Int, ts.length = wf.length - (w + 1) → rkF wf.length od.length (pmM sp wf od) (wO od) w (((j : Int) - 1) :: ts) (nth lf 0) 0 ≠ some rest) → ∀ ar2 : A1, _ := fun h1 ar2 => asg1 h F hF hf rank a b hw hlf hl hr hr0 hpre m (j + 1) n ar2 (by omega) (by omega) (fun t ht ts hts => by
      by_cases e : t < (j : Int) - 1
      · exact hno t e ts hts
      · have : t = (j : Int) - 1 := by omega
        subst this; exact h1 ts hts)
    have hlt : decide ((j : Int) - 1 < ((od.length - 0) : Int)) = true := by rw [Int.sub_zero]; simp; omega
    have unf : ∀ X, (bif ((j : Int) - 1 == (-1 : Int)) then ob (most_S F (IntKind.wrap IntKind.i64 ((w : Int) + 1)) sp wf od ps lf ar0 ar1) (fun r4 => bif r4.1 == rest then bif lenOk (pre.length - 0) (((j : Int) - 1) :: []).length then some (.inl ((rank, rest, a, b), (sp, wf, od, r4.2.1, r4.2.2, pre ++ (((j : Int) - 1) :: []), lf, ps))) else none else some (.inr ((rank, rest, (w : Int), (j : Int) - 1, a, b), (sp, wf, od, r4.2.1, r4.2.2, pre, lf, ps)))) else bif inB (w : Int) (ps.length - 0) then bif inB ((j : Int) - 1) (rowAt ar0 (nth ps 0 w)).length then bif decide (((j : Int) - 1).toNat < (rowAt ar0 (nth ps 0 w)).length) then bif !(nth (rowAt ar0 (nth ps 0 w)) false ((j : Int) - 1).toNat) then some (.inr ((rank, rest, (w : Int), (j : Int) - 1, a, b), (sp, wf, od, ar0, ar1, pre, lf, ps))) else bif inB ((j : Int) - 1) (lf.length - 0) then bif nth lf 0 ((j : Int) - 1).toNat == 0 then some (.inr ((rank, rest, (w : Int), (j : Int) - 1, a, b), (sp, wf, od, ar0, ar1, pre, lf, ps))) else bif inB ((j : Int) - 1) (lf.length - 0) then bif inB ((j : Int) - 1) (lf.length - 0) then ob (most_S F (IntKind.wrap IntKind.i64 ((w : Int) + 1)) sp wf od ps (List.set lf ((j : Int) - 1).toNat (IntKind.wrap IntKind.i64 (nth lf 0 ((j : Int) - 1).toNat - 1))) ar0 ar1) (fun r5 => ob (worth_S F ((j : Int) - 1) sp wf od ps r5.2.1 r5.2.2) (fun r6 => bif IntKind.wrap IntKind.i64 (r5.1 + r6.1) == rest then bif lenOk (pre.length - 0) (((j : Int) - 1) :: []).length then ob (worth_S F ((j : Int) - 1) sp wf od ps r6.2.1 r6.2.2) (fun r7 => some (.inl ((rank, IntKind.wrap IntKind.i64 (rest - r7.1), a, b), (sp, wf, od, r7.2.1, r7.2.2, pre ++ (((j : Int) - 1) :: []), List.set lf ((j : Int) - 1).toNat (IntKind.wrap IntKind.i64 (nth lf 0 ((j : Int) - 1).toNat - 1)), ps)))) else none else bif inB ((j : Int) - 1) ((List.set lf ((j : Int) - 1).toNat (IntKind.wrap IntKind.i64 (nth lf 0 ((j : Int) - 1).toNat - 1))).length - 0) then bif inB ((j : Int) - 1) ((List.set lf ((j : Int) - 1).toNat (IntKind.wrap IntKind.i64 (nth lf 0 ((j : Int) - 1).toNat - 1))).length - 0) then some (.inr ((rank, rest, (w : Int), (j : Int) - 1, a, b), (sp, wf, od, r6.2.1, r6.2.2, pre, List.set (List.set lf ((j : Int) - 1).toNat (IntKind.wrap IntKind.i64 (nth lf 0 ((j : Int) - 1).toNat - 1))) ((j : Int) - 1).toNat (IntKind.wrap IntKind.i64 (nth (List.set lf ((j : Int) - 1).toNat (IntKind.wrap IntKind.i64 (nth lf 0 ((j : Int) - 1).toNat - 1))) 0 ((j : Int) - 1).toNat + 1)), ps))) else none else none)) else none else none else none else none else none else none : Option (OdT × ((List SpT) × ((List WfT) × ((List OdT) × (A0 × (A1 × ((List Int) × ((List Int) × (List Nat)))))))) ⊕ ((Int × (Int × (Int × (Int × (Int × Int))))) × ((List SpT) × ((List WfT) × ((List OdT) × (A0 × (A1 × ((List Int) × ((List Int) × (List Nat))))))))))) = some X → assign_L1 F (n + 1) rank rest (w : Int) ((j : Int) - 1) a b sp wf od ar0 ar1 pre lf ps = su X (fun s1 => (some ((s1.1.1, s1.1.2.1, s1.1.2.2.1, s1.1.2.2.2), (s1.2.1, s1.2.2.1, s1.2.2.2.1, s1.2.2.2.2.1, s1.2.2.2.2.2.1, s1.2.2.2.2.2.2.1, s1.2.2.2.2.2.2.2.1, s1.2.2.2.2.2.2.2.2)))) (fun s2 => (assign_L1 F n s2.1.1 s2.1.2.1 s2.1.2.2.1 (IntKind.wrap IntKind.i64 (s2.1.2.2.2.1 + 1)) s2.1.2.2.2.2.1 s2.1.2.2.2.2.2 s2.2.1 s2.2.2.1 s2.2.2.2.1 s2.2.2.2.2.1 s2.2.2.2.2.2.1 s2.2.2.2.2.2.2.1 s2.2.2.2.2.2.2.2.1 s2.2.2.2.2.2.2.2.2)) := by
      intro X hX
      show (bif decide ((j : Int) - 1 < ((od.length - 0) : Int)) then ob _ _ else _) = _
      rw [hlt]
      refine (congrArg (fun z => ob z _) hX).trans ?_
      rfl
    have go : ∀ ar2 : A1, (∀ ts : List Int, ts.length = wf.length - (w + 1) → rkF wf.length od.length (pmM sp wf od) (wO od) w (((j : Int) - 1) :: ts) (nth lf 0) 0 ≠ some rest) → assign_L1 F (n + 1) rank rest (w : Int) ((j : Int) - 1) a b sp wf od ar0 ar1 pre lf ps = assign_L1 F n rank rest (w : Int) (((j + 1 : Nat) : Int) - 1) a b sp wf od ar0 ar2 pre lf ps → _ := fun ar2 h1 h2 => by
      have ih := next h1 ar2
      rw [← h2] at ih
      exact ih
    have hj1 : IntKind.wrap IntKind.i64 ((j : Int) - 1 + 1) = ((j + 1 : Nat) : Int) - 1 := by rw [w64 _ (by omega)]; omega
    cases j with
    | zero =>
      obtain ⟨v, ar2, e1, e2, e3, e4⟩ := most_eq h F hF hf hlf hl (fr := w + 1) (by omega) ar1
      have hw1 : IntKind.wrap IntKind.i64 ((w : Int) + 1) = ((w + 1 : Nat) : Int) := i64s (by omega)
      by_cases hv : v = rest
      · refine ⟨-1, rest, lf, ar2, ?_, hlf, hl, by rw [← hv]; exact e2, hr0, fun t' ht' ts hts => hno t' (by simpa using ht') ts hts, fun ts => ⟨fun hh => ?_, rk_none⟩⟩
        · rw [unf (.inl ((rank, rest, a, b), (sp, wf, od, ar0, ar2, pre ++ [-1], lf, ps))) (by
            show ob (most_S F (IntKind.wrap IntKind.i64 ((w : Int) + 1)) sp wf od ps lf ar0 ar1) _ = _
            rw [hw1, e1]
            show (bif v == rest then bif lenOk (pre.length - 0) 1 then _ else none else _) = _
            rw [show (v == rest) = true by simpa using hv, lenOk_of (by omega)]
            rfl)]
        · rcases rk_cons hh with ⟨_, h2⟩ | ⟨o, ho, _⟩
          · exact h2
          · omega
      · refine go ar2 (fun ts hts hh => ?_) ?_
        · rcases rk_cons hh with ⟨_, h2⟩ | ⟨o, ho, _⟩
          · have h3 := e2.up h (fun o ho => (hl o ho).1) hts h2
            obtain ⟨ts', h4, h5⟩ := e2.ex (by omega)
            have h6 := hr.up h (fun o ho => (hl o ho).1) (ts := -1 :: ts') (by simp; omega) (rk_none h5)
            omega
          · simp at ho
        · rw [unf (.inr ((rank, rest, (w : Int), ((0 : Nat) : Int) - 1, a, b), (sp, wf, od, ar0, ar2, pre, lf, ps))) (by
            show ob (most_S F (IntKind.wrap IntKind.i64 ((w : Int) + 1)) sp wf od ps lf ar0 ar1) _ = _
            rw [hw1, e1]
            show (bif v == rest then bif lenOk (pre.length - 0) 1 then _ else none else _) = _
            rw [show (v == rest) = false by simpa using hv]
            rfl)]
          show assign_L1 F n rank rest (w : Int) (IntKind.wrap IntKind.i64 (((0 : Nat) : Int) - 1 + 1)) a b sp wf od ar0 ar2 pre lf ps = _
          rw [hj1]
    | succ o =>
      have ho : o < od.length := by omega
      have hoe : (((o + 1 : Nat) : Int) - 1) = (o : Int) := by omega
      rw [hoe] at go unf hno hj1 ⊢
      have hne : ((o : Int) == (-1 : Int)) = false := by simp
      have hpsw : inB (w : Int) (ps.length - 0) = true := by rw [Nat.sub_zero, hf.len]; exact inB_nat hw
      cases hp : pmM sp wf od w o with
      | false =>
        refine go ar1 (fun ts hts hh => ?_) ?_
        · rcases rk_cons hh with ⟨h2, _⟩ | ⟨o', ho', _, hp', _⟩
          · omega
          · have : o' = o := by omega
            subst this; rw [hp] at hp'; cases hp'
        · rw [unf (.inr ((rank, rest, (w : Int), (o : Int), a, b), (sp, wf, od, ar0, ar1, pre, lf, ps))) (by
            rw [hne, hpsw, Int.toNat_natCast, hf.row w hw, row_len, inB_nat ho, row_at _ ho, show passB sp od (nth wf dW w) o = false from hp, show decide (o < od.length) = true by simpa using ho]
            rfl)]
          show assign_L1 F n rank rest (w : Int) (IntKind.wrap IntKind.i64 ((o : Int) + 1)) a b sp wf od ar0 ar1 pre lf ps = _
          rw [hj1]
      | true =>
        by_cases hl0 : nth lf 0 o = 0
        · refine go ar1 (fun ts hts hh => ?_) ?_
          · rcases rk_cons hh with ⟨h2, _⟩ | ⟨o', ho', _, _, hl', _⟩
            · omega
            · have : o' = o := by omega
              subst this; omega
          · rw [unf (.inr ((rank, rest, (w : Int), (o : Int), a, b), (sp, wf, od, ar0, ar1, pre, lf, ps))) (by
              rw [hne, hpsw, Int.toNat_natCast, hf.row w hw, row_len, inB_nat ho, row_at _ ho, show passB sp od (nth wf dW w) o = true from hp, show decide (o < od.length) = true by simpa using ho, show inB (o : Int) (lf.length - 0) = true by rw [Nat.sub_zero, hlf]; exact inB_nat ho, hl0]
              rfl)]
            show assign_L1 F n rank rest (w : Int) (IntKind.wrap IntKind.i64 ((o : Int) + 1)) a b sp wf od ar0 ar1 pre lf ps = _
            rw [hj1]
        · have hlo := hl o ho
          have hlp : 0 < nth lf 0 o := by omega
          have hW := wO_le h ho
          have hset : nth (List.set lf o (nth lf 0 o - 1)) 0 = updF (nth lf 0) o (nth lf 0 o - 1) := nth_set lf 0 _ (by omega)
          have hl2 : ∀ p, p < od.length → 0 ≤ nth (List.set lf o (nth lf 0 o - 1)) 0 p ∧ nth (List.set lf o (nth lf 0 o - 1)) 0 p ≤ 1000 := fun p hp' => by
            rw [hset]; unfold updF; have := hl p hp'; split <;> omega
          obtain ⟨v, ar2, e1, e2, e3, e4⟩ := most_eq h F hF hf (lf := List.set lf o (nth lf 0 o - 1)) (by rw [List.length_set]; exact hlf) hl2 (fr := w + 1) (by omega) ar1
          have hw1 : IntKind.wrap IntKind.i64 ((w : Int) + 1) = ((w + 1 : Nat) : Int) := i64s (by omega)
          have hst : IntKind.wrap IntKind.i64 (nth lf 0 o - 1) = nth lf 0 o - 1 := w64 _ (by omega)
          have hin : inB (o : Int) (lf.length - 0) = true := by rw [Nat.sub_zero, hlf]; exact inB_nat ho
          by_cases hv : v + wO od o = rest
          · refine ⟨(o : Int), v, List.set lf o (nth lf 0 o - 1), ar2, ?_, by rw [List.length_set]; exact hlf, hl2, e2, by omega, fun t' ht' ts hts => hno t' ht' ts hts, fun ts => ⟨fun hh => ?_, fun hh => ?_⟩⟩
            · rw [unf (.inl ((rank, v, a, b), (sp, wf, od, ar0, ar2, pre ++ [(o : Int)], List.set lf o (nth lf 0 o - 1), ps))) (by
                rw [hne, hpsw, Int.toNat_natCast, hf.row w hw, row_len, inB_nat ho, row_at _ ho, show passB sp od (nth wf dW w) o = true from hp, show decide (o < od.length) = true by simpa using ho, hin, show (nth lf 0 o == 0) = false by simpa using hl0, hst, hw1, e1]
                show ob (worth_S F (o : Int) sp wf od ps ar0 ar2) _ = _
                rw [worth_eq h F ho]
                show (bif IntKind.wrap IntKind.i64 (v + wO od o) == rest then bif lenOk (pre.length - 0) 1 then ob (worth_S F (o : Int) sp wf od ps ar0 ar2) _ else none else _) = _
                rw [w64 _ (by omega), show (v + wO od o == rest) = true by simpa using hv, lenOk_of (by omega), worth_eq h F ho]
                show some (Sum.inl ((rank, IntKind.wrap IntKind.i64 (rest - wO od o), a, b), _)) = _
                rw [w64 _ (by omega), show rest - wO od o = v by omega])]
            · rcases rk_cons hh with ⟨h2, _⟩ | ⟨o', ho', _, _, _, h2⟩
              · omega
              · have : o' = o := by omega
                subst this
                rw [hset, h2]; congr 1; omega
            · rw [hset] at hh
              have := rk_some hw ho hp hlp hh
              rw [this]; congr 1
          · refine go ar2 (fun ts hts hh => ?_) ?_
            · rcases rk_cons hh with ⟨h2, _⟩ | ⟨o', ho', _, _, _, h2⟩
              · omega
              · have : o' = o := by omega
                subst this
                rw [← hset] at h2
                have h3 := e2.up h (fun p hp' => (hl2 p hp').1) hts h2
                obtain ⟨ts', h4, h5⟩ := e2.ex (by omega)
                rw [hset] at h5
                have h6 := hr.up h (fun p hp' => (hl p hp').1) (ts := (o' : Int) :: ts') (by simp; omega) (rk_some hw ho hp hlp h5)
                omega
            · rw [unf (.inr ((rank, rest, (w : Int), (o : Int), a, b), (sp, wf, od, ar0, ar2, pre, lf, ps))) (by
                rw [hne, hpsw, Int.toNat_natCast, hf.row w hw, row_len, inB_nat ho, row_at _ ho, show passB sp od (nth wf dW w) o = true from hp, show decide (o < od.length) = true by simpa using ho, hin, show (nth lf 0 o == 0) = false by simpa using hl0, hst, hw1, e1]
                show ob (worth_S F (o : Int) sp wf od ps ar0 ar2) _ = _
                rw [worth_eq h F ho]
                show (bif IntKind.wrap IntKind.i64 (v + wO od o) == rest then _ else bif inB (o : Int) ((List.set lf o (nth lf 0 o - 1)).length - 0) then bif inB (o : Int) ((List.set lf o (nth lf 0 o - 1)).length - 0) then some (Sum.inr ((rank, rest, (w : Int), (o : Int), a, b), (sp, wf, od, ar0, ar2, pre, List.set (List.set lf o (nth lf 0 o - 1)) o (IntKind.wrap IntKind.i64 (nth (List.set lf o (nth lf 0 o - 1)) 0 o + 1)), ps))) else none else none) = _
                rw [w64 _ (show -9223372036854775808 ≤ v + wO od o ∧ v + wO od o ≤ 9223372036854775807 by omega), show (v + wO od o == rest) = false by simpa using hv, List.length_set, hin, hset, show updF (nth lf 0) o (nth lf 0 o - 1) o = nth lf 0 o - 1 by simp [updF], w64 _ (show -9223372036854775808 ≤ nth lf 0 o - 1 + 1 ∧ nth lf 0 o - 1 + 1 ≤ 9223372036854775807 by omega), show nth lf 0 o - 1 + 1 = nth lf 0 o by omega, set_back lf (by omega)]
                rfl)]
              show assign_L1 F n rank rest (w : Int) (IntKind.wrap IntKind.i64 ((o : Int) + 1)) a b sp wf od ar0 ar2 pre lf ps = _
              rw [hj1]
  | m, j, 0, _, _, hn, _ => by omega
end
end Go.Proofs.YtbepdcodkecboaaDoor


namespace Go.Proofs.YtbepdcodkecboaaDoor
open Go.RowKit
set_option maxRecDepth 100000
section
variable {sp : List SpT} {wf : List WfT} {od : List OdT}
theorem asg0 (h : MOk sp wf od) (F : Nat) (hF : 2000 < F) {ps : List Nat} {ar0 : A0} (hf : Fl sp wf od ps ar0) (rank : Int) : ∀ (m w n : Nat) (rest : Int) (lf : List Int) (pre : List Int) (ar1 : A1), w + m = wf.length → m < n → lf.length = od.length → (∀ o, o < od.length → 0 ≤ nth lf 0 o ∧ nth lf 0 o ≤ 1000) → BestM sp wf od (nth lf 0) w rest → (0 ≤ rest ∧ rest ≤ 100000000000) → pre.length ≤ w →
    ∃ (ts : List Int) (ar2 : A1), assign_L0 F n rank rest ((wf.length - 0) : Int) (w : Int) sp wf od ar0 ar1 pre lf ps = some (rank, (sp, wf, od, ar0, ar2, pre ++ ts)) ∧ Least sp wf od w (nth lf 0) rest ts
  | 0, w, n + 1, rest, lf, pre, ar1, hw, _, hlf, hl, hr, _, _ => by
    have : w = wf.length := by omega
    subst this
    obtain ⟨ts, h1, h2⟩ := hr.ex (Nat.le_refl _)
    have h0 : ts = [] := List.length_eq_zero_iff.1 (by omega)
    subst h0
    refine ⟨[], ar1, ?_, by simp, h2, fun ts' _ _ => trivial⟩
    show (bif decide ((wf.length : Int) < ((wf.length - 0) : Int)) then _ else _) = _
    rw [Int.sub_zero, lt_f, List.append_nil]; rfl
  | m + 1, w, n + 1, rest, lf, pre, ar1, hw, hn, hlf, hl, hr, hr0, hp => by
    have hwl : w < wf.length := by omega
    have hw60 := h.w
    have ho := h.o
    obtain ⟨t, rest', lf', ar2, e1, e2, e3, e4, e5, e6, e7⟩ := asg1 h F hF hf rank ((wf.length - 0) : Int) (w : Int) hwl hlf hl hr hr0 (pre := pre) (by omega) (od.length + 1) 0 F ar1 (by omega) (by omega) (fun t ht ts _ hh => by
      rcases rk_cons hh with ⟨h2, _⟩ | ⟨o, ho', _⟩ <;> omega)
    obtain ⟨ts, ar3, g1, g2, g3, g4⟩ := asg0 h F hF hf rank m (w + 1) n rest' lf' (pre ++ [t]) ar2 (by omega) (by omega) e2 e3 e4 e5 (by simp; omega)
    refine ⟨t :: ts, ar3, ?_, by simp [g2]; omega, (e7 ts).2 g3, fun ts' hl' hh => ?_⟩
    · have e1' : assign_L1 F F rank rest (w : Int) (-1 : Int) ((wf.length - 0) : Int) (w : Int) sp wf od ar0 ar1 pre lf ps = _ := e1
      show (bif decide ((w : Int) < ((wf.length - 0) : Int)) then ob (assign_L1 F F rank rest (w : Int) (-1 : Int) ((wf.length - 0) : Int) (w : Int) sp wf od ar0 ar1 pre lf ps) _ else _) = _
      rw [show decide ((w : Int) < ((wf.length - 0) : Int)) = true by rw [Int.sub_zero]; exact lt_t hwl, e1']
      show assign_L0 F n rank rest' ((wf.length - 0) : Int) (IntKind.wrap IntKind.i64 ((w : Int) + 1)) sp wf od ar0 ar2 (pre ++ [t]) lf' ps = _
      rw [i64s (by omega), g1, List.append_assoc]; rfl
    · cases ts' with
      | nil => simp at hl'; omega
      | cons t' ts' =>
        have hl2 : ts'.length = wf.length - (w + 1) := by simp at hl'; omega
        show t < t' ∨ (t = t' ∧ lexLe ts ts')
        rcases Int.lt_trichotomy t t' with h1 | h1 | h1
        · exact .inl h1
        · subst h1
          exact .inr ⟨rfl, g4 ts' hl2 ((e7 ts').1 hh)⟩
        · exact absurd hh (e6 t' h1 ts' hl2)
  | m, w, 0, _, _, _, _, _, hn, _, _, _, _, _ => by omega
/-- What Assign returns. -/
theorem assign_eq (F : Nat) (hF : 2000 < F) (hw : wfsOk wf) (ar0 : A0) (ar1 : A1) (hc : chkE sp wf od = 0) : ∃ (tl : List Int) (v : Int) (B : A0) (C : A1), assign_S F sp wf od ar0 ar1 = some ((v / 1000000000, v % 1000000000, 0), (B, C, tl)) ∧ Least sp wf od 0 (cO od) v tl ∧ BestM sp wf od (nth ((List.range od.length).map (cO od)) 0) 0 v ∧ 0 ≤ v ∧ v ≤ 1001000000 * (wf.length : Int) := by
  have h := chk_ok hc
  have hw60 := h.w
  obtain ⟨B, ps, e1, hf⟩ := floor_eq h F (by omega) ar0 ar1
  have hcl : ((List.range od.length).map (cO od)).length = od.length := by simp
  have hcb : ∀ o, o < od.length → 0 ≤ nth ((List.range od.length).map (cO od)) 0 o ∧ nth ((List.range od.length).map (cO od)) 0 o ≤ 1000 := fun o ho => by rw [nth_cO ho]; have := h.cnt o ho; unfold cO; omega
  obtain ⟨v, C, e2, e3, e4, e5⟩ := most_eq h F hF hf hcl hcb (fr := 0) (Nat.zero_le _) ar1
  obtain ⟨ts, D, e6, e7⟩ := asg0 h F hF hf v wf.length 0 F v ((List.range od.length).map (cO od)) [] C (by omega) (by omega) hcl hcb e3 (by omega) (Nat.zero_le _)
  refine ⟨ts, v, B, D, ?_, ?_, e3, e4, e5⟩
  · unfold assign_S
    rw [check_eq F (by omega) sp wf od hw, hc]
    show ob (newFloor_S F sp wf od ar0 ar1) _ = _
    rw [e1]
    show ob (counts_S F sp wf od ps B ar1) _ = _
    rw [counts_eq h F (by omega)]
    show ob (most_S F (0 : Int) sp wf od ps ((List.range od.length).map (cO od)) B ar1) _ = _
    rw [show most_S F (0 : Int) sp wf od ps ((List.range od.length).map (cO od)) B ar1 = _ from e2]
    show ob (assign_L0 F F v v ((wf.length - 0) : Int) (0 : Int) sp wf od B C [] ((List.range od.length).map (cO od)) ps) _ = _
    rw [show assign_L0 F F v v ((wf.length - 0) : Int) (0 : Int) sp wf od B C [] ((List.range od.length).map (cO od)) ps = _ from e6]
    show some ((IntKind.wrap IntKind.i64 (Int.tdiv v 1000000000), Int.tmod v 1000000000, (0 : Int)), (B, D, [] ++ ts)) = _
    rw [Int.tdiv_eq_ediv_of_nonneg (by omega), Int.tmod_eq_emod_of_nonneg (by omega), w64 _ (by omega)]
    rfl
  · obtain ⟨g1, g2, g3⟩ := e7
    have hcg : ∀ l, rkF wf.length od.length (pmM sp wf od) (wO od) 0 l (nth ((List.range od.length).map (cO od)) 0) 0 = rkF wf.length od.length (pmM sp wf od) (wO od) 0 l (cO od) 0 := fun l => rkF_congr l 0 _ _ 0 (fun o ho => nth_cO ho)
    exact ⟨g1, by rw [← hcg]; exact g2, fun ts' h1 h2 => g3 ts' h1 (by rw [hcg]; exact h2)⟩
end
end Go.Proofs.YtbepdcodkecboaaDoor


namespace Go.Proofs.YtbepdcodkecboaaDoor
open Go.RowKit
set_option maxRecDepth 100000
section
variable {sp : List SpT} {wf : List WfT} {od : List OdT}
def okL (k : Nat) (ts : List Int) : Prop := ∀ t ∈ ts, -1 ≤ t ∧ t ≤ (k : Int) - 1
theorem okL_mk {k : Nat} {t : Int} {ts : List Int} (h1 : -1 ≤ t ∧ t ≤ (k : Int) - 1) (h2 : okL k ts) : okL k (t :: ts) := fun x hx => by
  rcases List.mem_cons.1 hx with rfl | hx
  · exact h1
  · exact h2 x hx
theorem rk_okL : ∀ (ts : List Int) (i : Nat) (l : Nat → Int) (n v : Int), rkF wf.length od.length (pmM sp wf od) (wO od) i ts l n = some v → okL od.length ts
  | [], _, _, _, _, _ => fun t ht => by cases ht
  | t :: ts, i, l, n, v, hh => by
    simp only [rkF] at hh
    split at hh
    · rename_i ht
      exact okL_mk (by omega) (rk_okL ts _ _ _ _ hh)
    · split at hh
      · rename_i hc
        exact okL_mk (by omega) (rk_okL ts _ _ _ _ hh)
      · cases hh
end
end Go.Proofs.YtbepdcodkecboaaDoor


namespace Go.Proofs.YtbepdcodkecboaaDoor
open Go.RowKit
set_option maxRecDepth 100000
section
variable {sp : List SpT} {wf : List WfT} {od : List OdT}
def Mx (sp : List SpT) (wf : List WfT) (od : List OdT) (v : Int) : Prop :=
  (∃ a, Mt.Feas od.length (pmM sp wf od) (cO od) (List.range' 0 wf.length) a ∧ Mt.val (wO od) a (List.range' 0 wf.length) = v) ∧ ∀ a, Mt.Feas od.length (pmM sp wf od) (cO od) (List.range' 0 wf.length) a → Mt.val (wO od) a (List.range' 0 wf.length) ≤ v
theorem feas_congr {k : Nat} {pm : Nat → Nat → Bool} {c c' : Nat → Int} {ws : List Nat} {a : Nat → Option Nat} (h : ∀ o, o < k → c o = c' o) (hf : Mt.Feas k pm c ws a) : Mt.Feas k pm c' ws a := ⟨hf.ok, fun o ho => by rw [← h o ho]; exact hf.le o ho⟩
theorem BestM.mx (h : MOk sp wf od) {v : Int} (hb : BestM sp wf od (nth ((List.range od.length).map (cO od)) 0) 0 v) : Mx sp wf od v := by
  refine ⟨?_, fun a ha => ?_⟩
  · obtain ⟨a, h1, h2⟩ := hb.got
    rw [Nat.sub_zero] at h1 h2
    exact ⟨a, feas_congr (fun o ho => nth_cO ho) h1, h2⟩
  · have := hb.upper h (a := a) (by rw [Nat.sub_zero]; exact feas_congr (fun o ho => (nth_cO ho).symm) ha)
    rw [Nat.sub_zero] at this; exact this
theorem nth_app {α : Type} (l : List α) (x d : α) {i : Nat} (h : i < l.length) : nth (l ++ [x]) d i = nth l d i := by
  unfold nth
  rw [List.getD_eq_getElem?_getD, List.getD_eq_getElem?_getD, List.getElem?_append_left h]
theorem mem_r {n x : Nat} : x ∈ List.range' 0 n ↔ x < n := by rw [List.mem_range']; constructor
                                                              · rintro ⟨i, h, rfl⟩; omega
                                                              · intro h; exact ⟨x, h, by omega⟩
theorem val_cnt2 {k : Nat} {pm : Nat → Nat → Bool} {a : Nat → Option Nat} (hW : ∀ o, o < k → 1000000000 ≤ wO od o ∧ wO od o ≤ 1001000000) : ∀ ws : List Nat, (∀ w, w ∈ ws → ∀ o, a w = some o → o < k ∧ pm w o = true) → ∃ c : Int, 0 ≤ c ∧ c ≤ (ws.length : Int) ∧ 1000000000 * c ≤ Mt.val (wO od) a ws ∧ Mt.val (wO od) a ws ≤ 1001000000 * c
  | [], _ => ⟨0, by omega, by simp, by simp [Mt.val], by simp [Mt.val]⟩
  | w :: ws, h => by
    obtain ⟨c, h1, h2, h3, h4⟩ := val_cnt2 hW ws (fun x hx => h x (List.mem_cons_of_mem _ hx))
    simp only [Mt.val, List.length_cons]
    cases ha : a w with
    | none => exact ⟨c, h1, by omega, by simp only [Mt.gv]; omega, by simp only [Mt.gv]; omega⟩
    | some o =>
      have := hW o (h w List.mem_cons_self o ha).1
      exact ⟨c + 1, by omega, by omega, by simp only [Mt.gv]; omega, by simp only [Mt.gv]; omega⟩
theorem Mx.cnt (h : MOk sp wf od) {v : Int} (hv : Mx sp wf od v) : ∃ c : Int, 0 ≤ c ∧ c ≤ (wf.length : Int) ∧ 1000000000 * c ≤ v ∧ v ≤ 1001000000 * c := by
  obtain ⟨a, f1, rfl⟩ := hv.1
  have := val_cnt2 (od := od) (k := od.length) (pm := pmM sp wf od) (a := a) (fun o ho => wO_le h ho) (List.range' 0 wf.length) f1.ok
  simpa using this
end
end Go.Proofs.YtbepdcodkecboaaDoor


namespace Go.Proofs.YtbepdcodkecboaaDoor
open Go.RowKit
set_option maxRecDepth 100000
def sm : List Int → Int
  | [] => 0
  | x :: l => x + sm l
section
variable {sp : List SpT} {wf : List WfT} {od : List OdT}
theorem cfOut_eq (F : Nat) (l : List Int) (hl : l.length < F) (hl2 : l.length ≤ 1000000) : cfOut_S F l = some (l.any (fun x => !inI x 0 2000000000)) := by
  have := scan (fun n i => ixOut_L0 F ((l.length - 0) : Int) l n i) l 0 (fun x => !inI x 0 2000000000) (fun i b => b.1 = (i : Int)) (fun _ => True) (fun n => ⟨_, by
      show (bif decide (((l.length : Nat) : Int) < ((l.length - 0) : Int)) then _ else _) = _
      rw [Int.sub_zero, lt_f]; rfl, trivial⟩) (fun n i hi => by
      have e : ixOut_L0 F ((l.length - 0) : Int) l (n + 1) (i : Int) = bif (!inI (nth l 0 i) 0 2000000000) then some (.inl ((i : Int), l)) else ixOut_L0 F ((l.length - 0) : Int) l n ((i + 1 : Nat) : Int) := by
        show (bif decide ((i : Int) < ((l.length - 0) : Int)) then bif inB (i : Int) (l.length - 0) then ob (within_S F (nth l 0 (i : Int).toNat) 0 2000000000) _ else none else _) = _
        rw [Int.sub_zero, lt_t hi, Nat.sub_zero, inB_nat hi, Int.toNat_natCast, with_S]
        simp only [cond_true, ob_some]
        rw [i64s (by omega)]
        rfl
      exact ⟨fun h => ⟨_, by rw [e, h]; rfl, rfl⟩, fun h => by rw [e, h]; rfl⟩) l.length 0 F (by omega) (by omega)
  unfold cfOut_S ixOut_S
  rw [List.drop_zero] at this
  rcases this with ⟨h1, j, b, _, _, _, _, h2, h3⟩ | ⟨h1, c, h2, _⟩
  · rw [h1, show ixOut_L0 F ((l.length - 0) : Int) l F 0 = _ from h2]
    have h4 : decide (b.1 ≥ (0 : Int)) = true := by rw [h3]; simp
    show some (decide (b.1 ≥ (0 : Int))) = _
    rw [h4]
  · rw [h1, show ixOut_L0 F ((l.length - 0) : Int) l F 0 = _ from h2]
    rfl
/-- A pair for which the prices are too low. -/
def badP (sp : List SpT) (wf : List WfT) (od : List OdT) (pw po : List Int) (w o : Nat) : Bool := pmM sp wf od w o && decide (nth pw 0 w + nth po 0 o < wO od o)
def badW (sp : List SpT) (wf : List WfT) (od : List OdT) (pw po : List Int) (w : Nat) : Bool := (List.range od.length).any (badP sp wf od pw po w)
def rgP (l : List Int) : Prop := ∀ x ∈ l, 0 ≤ x ∧ x ≤ 2000000000
theorem rg_nth {l : List Int} (h : rgP l) (i : Nat) : 0 ≤ nth l 0 i ∧ nth l 0 i ≤ 2000000000 := by
  by_cases hi : i < l.length
  · exact h _ (nth_mem hi)
  · unfold nth; rw [List.getD_eq_getElem?_getD, List.getElem?_eq_none (by omega)]; simp
theorem nth_range {k i : Nat} (h : i < k) : nth (List.range k) 0 i = i := by
  unfold nth; simp [List.getD, h]
theorem bnd1 (h : MOk sp wf od) (F : Nat) (hF : 2000 < F) {ps : List Nat} {B : A0} (hf : Fl sp wf od ps B) (C : A1) (pw po : List Int) (hpo : po.length = od.length) (hw1 : rgP pw) (ho1 : rgP po) (nn t1 t2 : Int) {w : Nat} (hw : w < wf.length) :
    bound_L1 F nn (w : Int) (nth pw 0 w) t1 t2 ((po.length - 0) : Int) sp wf od pw po ps F 0 B C = some (if badW sp wf od pw po w = true then .inl ((0, 2), (sp, wf, od, pw, po, B, C)) else .inr ((nn, t1, t2), (sp, wf, od, pw, po, B, C, ps))) := by
  have ho := h.o
  have := scan (fun n i => bound_L1 F nn (w : Int) (nth pw 0 w) t1 t2 ((po.length - 0) : Int) sp wf od pw po ps n i B C) (List.range od.length) 0 (badP sp wf od pw po w) (fun _ b => b = ((0, 2), (sp, wf, od, pw, po, B, C))) (fun c => c = ((nn, t1, t2), (sp, wf, od, pw, po, B, C, ps))) (fun n => ⟨_, by
      show (bif decide ((((List.range od.length).length : Nat) : Int) < ((po.length - 0) : Int)) then _ else _) = _
      rw [List.length_range, Int.sub_zero, hpo, lt_f]; rfl, rfl⟩) (fun n i hi => by
      have hi' : i < od.length := by simpa using hi
      have g1 := rg_nth hw1 w
      have g2 := rg_nth ho1 i
      have g3 := wO_le h hi'
      have e : bound_L1 F nn (w : Int) (nth pw 0 w) t1 t2 ((po.length - 0) : Int) sp wf od pw po ps (n + 1) (i : Int) B C = bif badP sp wf od pw po w i then some (.inl ((0, 2), (sp, wf, od, pw, po, B, C))) else bound_L1 F nn (w : Int) (nth pw 0 w) t1 t2 ((po.length - 0) : Int) sp wf od pw po ps n ((i + 1 : Nat) : Int) B C := by
        show (bif decide ((i : Int) < ((po.length - 0) : Int)) then bif inB (i : Int) (po.length - 0) then bif inB (w : Int) (ps.length - 0) then bif inB (i : Int) (rowAt B (nth ps 0 (w : Int).toNat)).length then bif decide ((i : Int).toNat < (rowAt B (nth ps 0 (w : Int).toNat)).length) then bif nth (rowAt B (nth ps 0 (w : Int).toNat)) false (i : Int).toNat then ob (worth_S F (i : Int) sp wf od ps B C) (fun r4 => bif decide ((IntKind.wrap IntKind.i64 (nth pw 0 w + (nth po 0 (i : Int).toNat))) < r4.1) then some (.inl ((0, 2), (sp, wf, od, pw, po, r4.2.1, r4.2.2))) else bound_L1 F nn (w : Int) (nth pw 0 w) t1 t2 ((po.length - 0) : Int) sp wf od pw po ps n (IntKind.wrap IntKind.i64 ((i : Int) + 1)) r4.2.1 r4.2.2) else bound_L1 F nn (w : Int) (nth pw 0 w) t1 t2 ((po.length - 0) : Int) sp wf od pw po ps n (IntKind.wrap IntKind.i64 ((i : Int) + 1)) B C else none else none else none else none else _) = _
        rw [show decide ((i : Int) < ((po.length - 0) : Int)) = true by rw [Int.sub_zero, hpo]; exact lt_t hi', show inB (i : Int) (po.length - 0) = true by rw [Nat.sub_zero, hpo]; exact inB_nat hi', show inB (w : Int) (ps.length - 0) = true by rw [Nat.sub_zero, hf.len]; exact inB_nat hw, Int.toNat_natCast, Int.toNat_natCast, hf.row w hw, row_len, inB_nat hi', show decide (i < od.length) = true by simpa using hi', row_at _ hi', i64s (by omega), worth_eq h F hi', w64 _ (by omega)]
        unfold badP
        show (bif pmM sp wf od w i then bif decide (nth pw 0 w + nth po 0 i < wO od i) then _ else _ else _) = _
        cases pmM sp wf od w i <;> cases decide (nth pw 0 w + nth po 0 i < wO od i) <;> rfl
      rw [nth_range hi']
      exact ⟨fun h => ⟨_, by rw [e, h]; rfl, rfl⟩, fun h => by rw [e, h]; rfl⟩) od.length 0 F (by simp) (by omega)
  rw [List.drop_zero] at this
  unfold badW
  rcases this with ⟨h1, j, b, _, _, _, _, h2, h3⟩ | ⟨h1, c, h2, h3⟩
  · rw [if_pos h1, ← h3]; exact h2
  · rw [if_neg (by rw [h1]; simp), ← h3]; exact h2
theorem bnd0 (h : MOk sp wf od) (F : Nat) (hF : 2000 < F) {ps : List Nat} {B : A0} (hf : Fl sp wf od ps B) (C : A1) (pw po : List Int) (hpw : pw.length = wf.length) (hpo : po.length = od.length) (hw1 : rgP pw) (ho1 : rgP po) : ∀ (m i n : Nat) (nn : Int), i + m = wf.length → m < n → (0 ≤ nn ∧ nn ≤ 2000000000 * (i : Int)) →
    bound_L0 F n nn ((pw.length - 0) : Int) (i : Int) sp wf od pw po B C ps = some (if (List.range' i m).any (badW sp wf od pw po) = true then .inl ((0, 2), (sp, wf, od, pw, po, B, C)) else .inr (nn + sm (pw.drop i), (sp, wf, od, pw, po, B, C, ps)))
  | 0, i, n + 1, nn, hi, _, _ => by
    have : i = wf.length := by omega
    subst this
    show (bif decide ((wf.length : Int) < ((pw.length - 0) : Int)) then _ else _) = _
    rw [Int.sub_zero, hpw, lt_f, ← hpw, List.drop_length]
    show some (Sum.inr (nn, _)) = some (Sum.inr (nn + 0, _))
    rw [Int.add_zero]
  | m + 1, i, n + 1, nn, hi, hn, hb => by
    have hl : i < wf.length := by omega
    have hw := h.w
    have g1 := rg_nth hw1 i
    have hd : sm (pw.drop i) = nth pw 0 i + sm (pw.drop (i + 1)) := by
      rw [List.drop_eq_getElem_cons (by omega), ← nth_eq pw 0 i (by omega)]; rfl
    show (bif decide ((i : Int) < ((pw.length - 0) : Int)) then bif inB (i : Int) (pw.length - 0) then ob (bound_L1 F (IntKind.wrap IntKind.i64 (nn + (nth pw 0 (i : Int).toNat))) (i : Int) (nth pw 0 (i : Int).toNat) ((pw.length - 0) : Int) (i : Int) ((po.length - 0) : Int) sp wf od pw po ps F 0 B C) _ else none else _) = _
    rw [show decide ((i : Int) < ((pw.length - 0) : Int)) = true by rw [Int.sub_zero, hpw]; exact lt_t hl, show inB (i : Int) (pw.length - 0) = true by rw [Nat.sub_zero, hpw]; exact inB_nat hl, Int.toNat_natCast, bnd1 h F hF hf C pw po hpo hw1 ho1 _ _ _ hl, w64 _ (by omega)]
    rw [List.range'_succ, List.any_cons]
    cases hbw : badW sp wf od pw po i with
    | true => rfl
    | false =>
      have ih := bnd0 h F hF hf C pw po hpw hpo hw1 ho1 m (i + 1) n (nn + nth pw 0 i) (by omega) (by omega) (by omega)
      rw [Bool.false_or, hd, show nn + (nth pw 0 i + sm (pw.drop (i + 1))) = nn + nth pw 0 i + sm (pw.drop (i + 1)) by omega, ← ih]
      show bound_L0 F n (nn + nth pw 0 i) ((pw.length - 0) : Int) (IntKind.wrap IntKind.i64 ((i : Int) + 1)) sp wf od pw po B C ps = _
      rw [i64s (by omega)]
  | m, i, 0, _, _, hn, _ => by omega
theorem mul_le60 {a c : Int} (ha : 0 ≤ a ∧ a ≤ 2000000000) (hc : 0 ≤ c ∧ c ≤ 60) : 0 ≤ a * c ∧ a * c ≤ 120000000000 := by
  refine ⟨Int.mul_nonneg ha.1 hc.1, ?_⟩
  have := Int.mul_le_mul ha.2 hc.2 hc.1 (show (0 : Int) ≤ 2000000000 by omega)
  omega
/-- What the places of all orders cost. -/
def smP (od : List OdT) (po : List Int) : Nat → Nat → Int
  | _, 0 => 0
  | i, m + 1 => nth po 0 i * cO od i + smP od po (i + 1) m
theorem bnd2 (h : MOk sp wf od) (F : Nat) (ps : List Nat) (B : A0) (C : A1) (pw po : List Int) (hpo : po.length = od.length) (ho1 : rgP po) : ∀ (m i n : Nat) (nn : Int), i + m = od.length → m < n → (0 ≤ nn ∧ nn ≤ 1000000000000 + 120000000000 * (i : Int)) →
    bound_L2 F ((po.length - 0) : Int) sp wf od pw po B C ps n nn (i : Int) = some (nn + smP od po i m, (sp, wf, od, pw, po, B, C))
  | 0, i, n + 1, nn, hi, _, _ => by
    have : i = od.length := by omega
    subst this
    show (bif decide ((od.length : Int) < ((po.length - 0) : Int)) then _ else _) = _
    rw [Int.sub_zero, hpo, lt_f]
    show some (nn, _) = some (nn + 0, _)
    rw [Int.add_zero]
  | m + 1, i, n + 1, nn, hi, hn, hb => by
    have hl : i < od.length := by omega
    have ho := h.o
    have g1 := mul_le60 (rg_nth ho1 i) (h.cnt i hl)
    have ih := bnd2 h F ps B C pw po hpo ho1 m (i + 1) n (nn + nth po 0 i * cO od i) (by omega) (by omega) (by unfold cO; omega)
    simp only [smP]
    rw [show nn + (nth po 0 i * cO od i + smP od po (i + 1) m) = nn + nth po 0 i * cO od i + smP od po (i + 1) m by omega, ← ih]
    show (bif decide ((i : Int) < ((po.length - 0) : Int)) then bif inB (i : Int) (po.length - 0) then bif inB (i : Int) (od.length - 0) then bound_L2 F ((po.length - 0) : Int) sp wf od pw po B C ps n (IntKind.wrap IntKind.i64 (nn + (IntKind.wrap IntKind.i64 ((nth po 0 (i : Int).toNat) * (nth od dO (i : Int).toNat).2.1)))) (IntKind.wrap IntKind.i64 ((i : Int) + 1)) else none else none else _) = _
    rw [show decide ((i : Int) < ((po.length - 0) : Int)) = true by rw [Int.sub_zero, hpo]; exact lt_t hl, show inB (i : Int) (po.length - 0) = true by rw [Nat.sub_zero, hpo]; exact inB_nat hl, show inB (i : Int) (od.length - 0) = true from inB_nat hl, Int.toNat_natCast, w64 (nth po 0 i * (nth od dO i).2.1) (by omega), w64 (nn + nth po 0 i * (nth od dO i).2.1) (by omega), i64s (by omega)]
    rfl
  | m, i, 0, _, _, hn, _ => by omega
/-- Prices that are valid. -/
def okP (sp : List SpT) (wf : List WfT) (od : List OdT) (pw po : List Int) : Bool := decide (pw.length = wf.length ∧ po.length = od.length) && ((!pw.any (fun x => !inI x 0 2000000000) && !po.any (fun x => !inI x 0 2000000000)) && !(List.range' 0 wf.length).any (badW sp wf od pw po))
def totP (od : List OdT) (pw po : List Int) : Int := sm pw + smP od po 0 od.length
theorem any_rg {l : List Int} (h : l.any (fun x => !inI x 0 2000000000) = false) : rgP l := fun x hx => inI_ok (by simpa using List.any_eq_false.1 h x hx)
theorem sm_le : ∀ {l : List Int}, rgP l → 0 ≤ sm l ∧ sm l ≤ 2000000000 * (l.length : Int)
  | [], _ => by simp [sm]
  | x :: l, h => by
    have h1 := h x List.mem_cons_self
    have h2 := sm_le (l := l) (fun y hy => h y (List.mem_cons_of_mem _ hy))
    simp only [sm, List.length_cons]; omega
theorem bound_eq (F : Nat) (hF : 2000 < F) (hw : wfsOk wf) (pw po : List Int) (hpw : pw.length ≤ 1000) (hpo : po.length ≤ 1000) (ar0 : A0) (ar1 : A1) : ∃ B C, bound_S F sp wf od pw po ar0 ar1 = some (if chkE sp wf od = 0 then (if okP sp wf od pw po = true then (totP od pw po, 0) else (0, 2)) else (0, chkE sp wf od), (B, C)) := by
  unfold bound_S
  rw [check_eq F (by omega) sp wf od hw]
  by_cases hc : chkE sp wf od = 0
  · have h := chk_ok hc
    have hw60 := h.w
    have ho12 := h.o
    rw [if_pos hc, hc]
    obtain ⟨B, ps, e1, hf⟩ := floor_eq h F (by omega) ar0 ar1
    refine ⟨B, ar1, ?_⟩
    show ob (newFloor_S F sp wf od ar0 ar1) _ = _
    rw [e1]
    -- the tests ahead
    have t1 : (bif (((pw.length - 0) : Int) != ((wf.length - 0) : Int)) then (some (true, (sp, wf, od, pw, po, B, ar1, ps))) else (bif (((po.length - 0) : Int) != ((od.length - 0) : Int)) then (some (true, (sp, wf, od, pw, po, B, ar1, ps))) else (ob (cfOut_S F pw) (fun r2 => (bif r2 then (some (true, (sp, wf, od, pw, po, B, ar1, ps))) else (ob (cfOut_S F po) (fun r3 => (some (r3, (sp, wf, od, pw, po, B, ar1, ps)))))))))) = some (!(decide (pw.length = wf.length ∧ po.length = od.length) && (!pw.any (fun x => !inI x 0 2000000000) && !po.any (fun x => !inI x 0 2000000000))), (sp, wf, od, pw, po, B, ar1, ps)) := by
      rw [cfOut_eq F pw (by omega) (by omega)]
      by_cases h1 : pw.length = wf.length
      · rw [show (((pw.length - 0) : Int) != ((wf.length - 0) : Int)) = false by simp [h1]]
        by_cases h2 : po.length = od.length
        · rw [show (((po.length - 0) : Int) != ((od.length - 0) : Int)) = false by simp [h2], show decide (pw.length = wf.length ∧ po.length = od.length) = true by simp [h1, h2]]
          cases pw.any (fun x => !inI x 0 2000000000) with
          | true => rfl
          | false =>
            show ob (cfOut_S F po) _ = _
            rw [cfOut_eq F po (by omega) (by omega)]
            cases po.any (fun x => !inI x 0 2000000000) <;> rfl
        · rw [show (((po.length - 0) : Int) != ((od.length - 0) : Int)) = true by simp; omega, show decide (pw.length = wf.length ∧ po.length = od.length) = false by simp [h2]]
          rfl
      · rw [show (((pw.length - 0) : Int) != ((wf.length - 0) : Int)) = true by simp; omega, show decide (pw.length = wf.length ∧ po.length = od.length) = false by simp [h1]]
        rfl
    refine (congrArg (fun z => ob z _) t1).trans ?_
    unfold okP
    cases hok : (decide (pw.length = wf.length ∧ po.length = od.length) && (!pw.any (fun x => !inI x 0 2000000000) && !po.any (fun x => !inI x 0 2000000000))) with
    | false =>
      rw [← Bool.and_assoc, hok]
      rfl
    | true =>
      rw [← Bool.and_assoc, hok]
      simp only [Bool.and_eq_true, decide_eq_true_eq, Bool.not_eq_true'] at hok
      obtain ⟨⟨h1, h2⟩, h3, h4⟩ := hok
      have r1 := any_rg h3
      have r2 := any_rg h4
      have b0 := bnd0 h F hF hf ar1 pw po h1 h2 r1 r2 wf.length 0 F 0 (by omega) (by omega) (by omega)
      show ob (bound_L0 F F (0 : Int) ((pw.length - 0) : Int) (0 : Int) sp wf od pw po B ar1 ps) _ = _
      rw [show bound_L0 F F (0 : Int) ((pw.length - 0) : Int) (0 : Int) sp wf od pw po B ar1 ps = _ from b0]
      cases hb : (List.range' 0 wf.length).any (badW sp wf od pw po) with
      | true => rfl
      | false =>
        have hs := sm_le r1
        show ob (bound_L2 F ((po.length - 0) : Int) sp wf od pw po B ar1 ps F (0 + sm (pw.drop 0)) (0 : Int)) _ = _
        rw [List.drop_zero, Int.zero_add]
        have b2 := bnd2 h F ps B ar1 pw po h2 r2 od.length 0 F (sm pw) (by omega) (by omega) (by omega)
        rw [show bound_L2 F ((po.length - 0) : Int) sp wf od pw po B ar1 ps F (sm pw) (0 : Int) = _ from b2]
        rfl
  · refine ⟨ar0, ar1, ?_⟩
    rw [if_neg hc]
    show (bif chkE sp wf od != 0 then _ else _) = _
    rw [show (chkE sp wf od != 0) = true by simpa using hc]
    rfl
end
end Go.Proofs.YtbepdcodkecboaaDoor


namespace Go.Proofs.YtbepdcodkecboaaDoor
open Go.RowKit
set_option maxRecDepth 100000
section
variable {sp : List SpT} {wf : List WfT} {od : List OdT}
theorem BestM.isMax {cap : Nat → Int} {v : Int} (hb : BestM sp wf od cap 0 v) : Mt.IsMax od.length (pmM sp wf od) (wO od) cap (List.range' 0 wf.length) v := by
  obtain ⟨A, left, q, h1, rfl⟩ := hb
  rw [Nat.sub_zero] at h1
  exact h1.isMax List.nodup_range'
theorem prv0 (h : MOk sp wf od) (F : Nat) (hF : 2000 < F) {ps : List Nat} {B : A0} (hf : Fl sp wf od ps B) {M : Int} (hM : 0 ≤ M ∧ M ≤ 100000000000) {cl : List Int} (hcl : cl.length = od.length) (hcb : ∀ o, o < od.length → 0 ≤ nth cl 0 o ∧ nth cl 0 o ≤ 60) {Mp : Nat → Int} (hMp : ∀ o, o < od.length → Mt.IsMax od.length (pmM sp wf od) (wO od) (Mt.upd (nth cl 0) o (nth cl 0 o + 1)) (List.range' 0 wf.length) (Mp o)) : ∀ (m i n : Nat) (C : A1), i + m = od.length → m < n →
    ∃ C' : A1, prove_L0 F M ((od.length - 0) : Int) sp wf od ps n (i : Int) B C cl ((List.range i).map (fun o => Mp o - M)) = some (sp, wf, od, B, C', ps, (List.range od.length).map (fun o => Mp o - M))
  | 0, i, n + 1, C, hi, _ => by
    have : i = od.length := by omega
    subst this
    refine ⟨C, ?_⟩
    show (bif decide ((od.length : Int) < ((od.length - 0) : Int)) then _ else _) = _
    rw [Int.sub_zero, lt_f]; rfl
  | m + 1, i, n + 1, C, hi, hn => by
    have hl : i < od.length := by omega
    have ho := h.o
    have hw := h.w
    have hb := hcb i hl
    have hset : nth (List.set cl i (nth cl 0 i + 1)) 0 = Mt.upd (nth cl 0) i (nth cl 0 i + 1) := by rw [nth_set cl 0 _ (by omega)]; rfl
    obtain ⟨v, C1, e1, e2, e3, e4⟩ := most_eq h F hF hf (lf := List.set cl i (nth cl 0 i + 1)) (by rw [List.length_set]; exact hcl) (fun o ho' => by rw [hset]; unfold Mt.upd; have := hcb o ho'; split <;> omega) (fr := 0) (Nat.zero_le _) C
    rw [hset] at e2
    have hv := e2.isMax.uniq (hMp i hl)
    obtain ⟨C2, j1⟩ := prv0 h F hF hf hM hcl hcb hMp m (i + 1) n C1 (by omega) (by omega)
    refine ⟨C2, ?_⟩
    rw [← j1, ← range_snoc, ← hv]
    show (bif decide ((i : Int) < ((od.length - 0) : Int)) then bif inB (i : Int) (cl.length - 0) then bif inB (i : Int) (cl.length - 0) then ob (most_S F (0 : Int) sp wf od ps (List.set cl (i : Int).toNat (IntKind.wrap IntKind.i64 ((nth cl 0 (i : Int).toNat) + 1))) B C) (fun r4 => bif lenOk (((List.range i).map (fun o => Mp o - M)).length - 0) ((IntKind.wrap IntKind.i64 (r4.1 - M)) :: []).length then bif inB (i : Int) ((List.set cl (i : Int).toNat (IntKind.wrap IntKind.i64 ((nth cl 0 (i : Int).toNat) + 1))).length - 0) then bif inB (i : Int) ((List.set cl (i : Int).toNat (IntKind.wrap IntKind.i64 ((nth cl 0 (i : Int).toNat) + 1))).length - 0) then prove_L0 F M ((od.length - 0) : Int) sp wf od ps n (IntKind.wrap IntKind.i64 ((i : Int) + 1)) r4.2.1 r4.2.2 (List.set (List.set cl (i : Int).toNat (IntKind.wrap IntKind.i64 ((nth cl 0 (i : Int).toNat) + 1))) (i : Int).toNat (IntKind.wrap IntKind.i64 ((nth (List.set cl (i : Int).toNat (IntKind.wrap IntKind.i64 ((nth cl 0 (i : Int).toNat) + 1))) 0 (i : Int).toNat) - 1))) (((List.range i).map (fun o => Mp o - M)) ++ ((IntKind.wrap IntKind.i64 (r4.1 - M)) :: [])) else none else none else none) else none else none else _) = _
    have hin : inB (i : Int) (cl.length - 0) = true := by rw [Nat.sub_zero, hcl]; exact inB_nat hl
    rw [show decide ((i : Int) < ((od.length - 0) : Int)) = true by rw [Int.sub_zero]; exact lt_t hl, hin, Int.toNat_natCast, w64 (nth cl 0 i + 1) (by omega), show most_S F (0 : Int) sp wf od ps (List.set cl i (nth cl 0 i + 1)) B C = _ from e1]
    show (bif lenOk (((List.range i).map (fun o => Mp o - M)).length - 0) 1 then bif inB (i : Int) ((List.set cl i (nth cl 0 i + 1)).length - 0) then bif inB (i : Int) ((List.set cl i (nth cl 0 i + 1)).length - 0) then prove_L0 F M ((od.length - 0) : Int) sp wf od ps n (IntKind.wrap IntKind.i64 ((i : Int) + 1)) B C1 (List.set (List.set cl i (nth cl 0 i + 1)) i (IntKind.wrap IntKind.i64 ((nth (List.set cl i (nth cl 0 i + 1)) 0 i) - 1))) (((List.range i).map (fun o => Mp o - M)) ++ ((IntKind.wrap IntKind.i64 (v - M)) :: [])) else none else none else none) = _
    rw [lenOk_of (by rw [List.length_map, List.length_range]; omega), List.length_set, hin, hset, show Mt.upd (nth cl 0) i (nth cl 0 i + 1) i = nth cl 0 i + 1 by unfold Mt.upd; rw [if_pos rfl], w64 (nth cl 0 i + 1 - 1) (by omega), show nth cl 0 i + 1 - 1 = nth cl 0 i by omega, set_back cl (by omega), w64 (v - M) (by omega), i64s (by omega)]
    rfl
  | m, i, 0, C, _, hn => by omega
/-- What a wafer's price says. -/
def PwQ (sp : List SpT) (wf : List WfT) (od : List OdT) (po : List Int) (w i : Nat) (n : Int) : Prop := (0 ≤ n ∧ n ≤ 2000000000) ∧ (∀ p, p < i → pmM sp wf od w p = true → wO od p - nth po 0 p ≤ n) ∧ (n = 0 ∨ ∃ p, p < i ∧ pmM sp wf od w p = true ∧ n = wO od p - nth po 0 p)
theorem prv2 (h : MOk sp wf od) (F : Nat) {ps : List Nat} {B : A0} (hf : Fl sp wf od ps B) (C : A1) (pre po : List Int) (hpo : po.length = od.length) (hpb : ∀ o, o < od.length → 0 ≤ nth po 0 o ∧ nth po 0 o ≤ 2000000000) {w : Nat} (hw : w < wf.length) (t1 t2 : Int) : ∀ (m i n : Nat) (nn : Int), i + m = od.length → m < n → PwQ sp wf od po w i nn →
    ∃ nn', prove_L2 F (w : Int) t1 t2 ((po.length - 0) : Int) sp wf od po ps pre n nn (i : Int) B C = some ((nn', t1, t2), (sp, wf, od, B, C, ps, pre, po)) ∧ PwQ sp wf od po w od.length nn'
  | 0, i, n + 1, nn, hi, _, hq => by
    have : i = od.length := by omega
    subst this
    refine ⟨nn, ?_, hq⟩
    show (bif decide ((od.length : Int) < ((po.length - 0) : Int)) then _ else _) = _
    rw [Int.sub_zero, hpo, lt_f]; rfl
  | m + 1, i, n + 1, nn, hi, hn, hq => by
    have hl : i < od.length := by omega
    have ho := h.o
    have hW := wO_le h hl
    have hp := hpb i hl
    obtain ⟨q1, q2, q3⟩ := hq
    have unf : ∀ nn2, (bif pmM sp wf od w i then prove_L2 F (w : Int) t1 t2 ((po.length - 0) : Int) sp wf od po ps pre n (if wO od i - nth po 0 i > nn then wO od i - nth po 0 i else nn) ((i + 1 : Nat) : Int) B C else prove_L2 F (w : Int) t1 t2 ((po.length - 0) : Int) sp wf od po ps pre n nn ((i + 1 : Nat) : Int) B C) = nn2 → prove_L2 F (w : Int) t1 t2 ((po.length - 0) : Int) sp wf od po ps pre (n + 1) nn (i : Int) B C = nn2 := by
      intro X hX
      rw [← hX]
      show (bif decide ((i : Int) < ((po.length - 0) : Int)) then bif inB (i : Int) (po.length - 0) then bif inB (w : Int) (ps.length - 0) then bif inB (i : Int) (rowAt B (nth ps 0 (w : Int).toNat)).length then bif decide ((i : Int).toNat < (rowAt B (nth ps 0 (w : Int).toNat)).length) then bif nth (rowAt B (nth ps 0 (w : Int).toNat)) false (i : Int).toNat then ob (worth_S F (i : Int) sp wf od ps B C) (fun r5 => prove_L2 F (w : Int) t1 t2 ((po.length - 0) : Int) sp wf od po ps pre n (if (IntKind.wrap IntKind.i64 (r5.1 - (nth po 0 (i : Int).toNat))) > nn then (IntKind.wrap IntKind.i64 (r5.1 - (nth po 0 (i : Int).toNat))) else nn) (IntKind.wrap IntKind.i64 ((i : Int) + 1)) r5.2.1 r5.2.2) else prove_L2 F (w : Int) t1 t2 ((po.length - 0) : Int) sp wf od po ps pre n nn (IntKind.wrap IntKind.i64 ((i : Int) + 1)) B C else none else none else none else none else _) = _
      rw [show decide ((i : Int) < ((po.length - 0) : Int)) = true by rw [Int.sub_zero, hpo]; exact lt_t hl, show inB (i : Int) (po.length - 0) = true by rw [Nat.sub_zero, hpo]; exact inB_nat hl, show inB (w : Int) (ps.length - 0) = true by rw [Nat.sub_zero, hf.len]; exact inB_nat hw, Int.toNat_natCast, Int.toNat_natCast, hf.row w hw, row_len, inB_nat hl, show decide (i < od.length) = true by simpa using hl, row_at _ hl, i64s (by omega), worth_eq h F hl]
      show (bif pmM sp wf od w i then prove_L2 F (w : Int) t1 t2 ((po.length - 0) : Int) sp wf od po ps pre n (if (IntKind.wrap IntKind.i64 (wO od i - nth po 0 i)) > nn then (IntKind.wrap IntKind.i64 (wO od i - nth po 0 i)) else nn) ((i + 1 : Nat) : Int) B C else _) = _
      rw [w64 (wO od i - nth po 0 i) (by omega)]
    cases hpm : pmM sp wf od w i with
    | false =>
      obtain ⟨nn', j1, j2⟩ := prv2 h F hf C pre po hpo hpb hw t1 t2 m (i + 1) n nn (by omega) (by omega) ⟨q1, fun p hp' hpp => by
        by_cases e : p = i
        · subst e; rw [hpm] at hpp; cases hpp
        · exact q2 p (by omega) hpp, q3.imp id (fun ⟨p, p1, p2, p3⟩ => ⟨p, by omega, p2, p3⟩)⟩
      exact ⟨nn', unf _ (by rw [hpm]; exact j1), j2⟩
    | true =>
      by_cases hg : wO od i - nth po 0 i > nn
      · obtain ⟨nn', j1, j2⟩ := prv2 h F hf C pre po hpo hpb hw t1 t2 m (i + 1) n (wO od i - nth po 0 i) (by omega) (by omega) ⟨by omega, fun p hp' hpp => by
          by_cases e : p = i
          · subst e; exact Int.le_refl _
          · have := q2 p (by omega) hpp; omega, .inr ⟨i, by omega, hpm, rfl⟩⟩
        exact ⟨nn', unf _ (by rw [hpm, if_pos hg]; exact j1), j2⟩
      · obtain ⟨nn', j1, j2⟩ := prv2 h F hf C pre po hpo hpb hw t1 t2 m (i + 1) n nn (by omega) (by omega) ⟨q1, fun p hp' hpp => by
          by_cases e : p = i
          · subst e; omega
          · exact q2 p (by omega) hpp, q3.imp id (fun ⟨p, p1, p2, p3⟩ => ⟨p, by omega, p2, p3⟩)⟩
        exact ⟨nn', unf _ (by rw [hpm, if_neg hg]; exact j1), j2⟩
  | m, i, 0, _, _, hn, _ => by omega
theorem prv1 (h : MOk sp wf od) (F : Nat) (hF : 2000 < F) {ps : List Nat} {B : A0} (hf : Fl sp wf od ps B) (C : A1) (po : List Int) (hpo : po.length = od.length) (hpb : ∀ o, o < od.length → 0 ≤ nth po 0 o ∧ nth po 0 o ≤ 2000000000) : ∀ (m i n : Nat) (pre : List Int), i + m = wf.length → m < n → pre.length = i → (∀ w, w < i → PwQ sp wf od po w od.length (nth pre 0 w)) →
    ∃ pw, prove_L1 F n ((wf.length - 0) : Int) (i : Int) sp wf od B C ps pre po = some (sp, wf, od, B, C, pw, po) ∧ pw.length = wf.length ∧ ∀ w, w < wf.length → PwQ sp wf od po w od.length (nth pw 0 w)
  | 0, i, n + 1, pre, hi, _, hl, hq => by
    have : i = wf.length := by omega
    subst this
    refine ⟨pre, ?_, hl, hq⟩
    show (bif decide ((wf.length : Int) < ((wf.length - 0) : Int)) then _ else _) = _
    rw [Int.sub_zero, lt_f]; rfl
  | m + 1, i, n + 1, pre, hi, hn, hl, hq => by
    have hil : i < wf.length := by omega
    have hw := h.w
    have ho := h.o
    obtain ⟨nn, e1, e2⟩ := prv2 h F hf C pre po hpo hpb hil ((wf.length - 0) : Int) (i : Int) od.length 0 F 0 (by omega) (by omega) ⟨by omega, fun p hp => by omega, .inl rfl⟩
    obtain ⟨pw, j1, j2⟩ := prv1 h F hF hf C po hpo hpb m (i + 1) n (pre ++ [nn]) (by omega) (by omega) (by simp [hl]) (fun w hw' => by
      by_cases e : w = i
      · subst e
        have : nth (pre ++ [nn]) 0 w = nn := by
          unfold nth; rw [List.getD_eq_getElem?_getD, List.getElem?_append_right (by omega), hl]; simp
        rw [this]; exact e2
      · rw [nth_app _ _ _ (by omega)]; exact hq w (by omega))
    refine ⟨pw, ?_, j2⟩
    rw [← j1]
    show (bif decide ((i : Int) < ((wf.length - 0) : Int)) then ob (prove_L2 F (i : Int) ((wf.length - 0) : Int) (i : Int) ((po.length - 0) : Int) sp wf od po ps pre F 0 0 B C) _ else _) = _
    rw [show decide ((i : Int) < ((wf.length - 0) : Int)) = true by rw [Int.sub_zero]; exact lt_t hil, show prove_L2 F (i : Int) ((wf.length - 0) : Int) (i : Int) ((po.length - 0) : Int) sp wf od po ps pre F 0 0 B C = _ from e1]
    show (bif lenOk (pre.length - 0) 1 then prove_L1 F n ((wf.length - 0) : Int) (IntKind.wrap IntKind.i64 ((i : Int) + 1)) sp wf od B C ps (pre ++ (nn :: [])) po else none) = _
    rw [lenOk_of (by omega), i64s (by omega)]
    rfl
  | m, i, 0, _, _, hn, _, _ => by omega
theorem sm_sumL : ∀ (m i : Nat) (l : List Int), i + m = l.length → sm (l.drop i) = Mt.sumL (nth l 0) (List.range' i m)
  | 0, i, l, h => by
    have : i = l.length := by omega
    subst this
    rw [List.drop_length]; rfl
  | m + 1, i, l, h => by
    rw [List.drop_eq_getElem_cons (by omega), nth_eq l 0 i (by omega), List.range'_succ]
    simp only [sm, Mt.sumL, sm_sumL m (i + 1) l (by omega)]
theorem smP_sumN (po : List Int) : ∀ (m i : Nat), smP od po i m = Mt.sumN (i + m) (fun o => nth po 0 o * cO od o) - Mt.sumN i (fun o => nth po 0 o * cO od o)
  | 0, i => by simp [smP]
  | m + 1, i => by
    simp only [smP]
    rw [smP_sumN po m (i + 1), show i + 1 + m = i + (m + 1) by omega]
    simp only [Mt.sumN]; omega
theorem prove_eq (F : Nat) (hF : 2000 < F) (hw : wfsOk wf) (hc : chkE sp wf od = 0) (ar0 : A0) (ar1 : A1) : ∃ (pw po : List Int) (B : A0) (C : A1) (v : Int), prove_S F sp wf od ar0 ar1 = some (0, (B, C, pw, po)) ∧ pw.length = wf.length ∧ po.length = od.length ∧ Mx sp wf od v ∧ okP sp wf od pw po = true ∧ totP od pw po = v := by
  have h := chk_ok hc
  have hw60 := h.w
  have ho12 := h.o
  obtain ⟨B, ps, e1, hf⟩ := floor_eq h F (by omega) ar0 ar1
  have hcl : ((List.range od.length).map (cO od)).length = od.length := by simp
  have hcb : ∀ o, o < od.length → 0 ≤ nth ((List.range od.length).map (cO od)) 0 o ∧ nth ((List.range od.length).map (cO od)) 0 o ≤ 60 := fun o ho => by rw [nth_cO ho]; exact h.cnt o ho
  obtain ⟨M, C, e2, e3, e4, e5⟩ := most_eq h F hF hf hcl (fun o ho => ⟨(hcb o ho).1, by have := (hcb o ho).2; omega⟩) (fr := 0) (Nat.zero_le _) ar1
  have hmx := e3.mx h
  obtain ⟨A, left, q, hI, hMt⟩ := id e3
  rw [Nat.sub_zero] at hI
  have hW0 : ∀ o, o < od.length → 0 ≤ wO od o := fun o ho => by have := wO_le h ho; omega
  have hch : ∀ o, ∃ m : Int, o < od.length → Mt.IsMax od.length (pmM sp wf od) (wO od) (Mt.upd (nth ((List.range od.length).map (cO od)) 0) o (nth ((List.range od.length).map (cO od)) 0 o + 1)) (List.range' 0 wf.length) m := fun o => by
    by_cases ho : o < od.length
    · obtain ⟨A', left', q', h1, _⟩ := hI.aug hW0 ho
      exact ⟨_, fun _ => h1.isMax List.nodup_range'⟩
    · exact ⟨0, fun h => absurd h ho⟩
  obtain ⟨Mp, hMp⟩ := Classical.axiomOfChoice hch
  have hpb : ∀ o, o < od.length → 0 ≤ Mp o - M ∧ Mp o - M ≤ 2000000000 := fun o ho => by
    have h1 := Mt.price_bounds List.nodup_range' ho (hW0 o ho) e3.isMax (hMp o ho)
    have h2 := wO_le h ho
    omega
  obtain ⟨C1, e6⟩ := prv0 h F hF hf (M := M) (by omega) hcl hcb hMp od.length 0 F C (by omega) (by omega)
  have hpn : ∀ o, o < od.length → nth ((List.range od.length).map (fun o => Mp o - M)) 0 o = Mp o - M := fun o ho => nth_map_range _ _ ho
  obtain ⟨pw, e7, e8, e9⟩ := prv1 h F hF hf C1 ((List.range od.length).map (fun o => Mp o - M)) (by simp) (fun o ho => by rw [hpn o ho]; exact hpb o ho) wf.length 0 F [] (by omega) (by omega) rfl (fun w hw' => by omega)
  refine ⟨pw, (List.range od.length).map (fun o => Mp o - M), B, C1, M, ?_, e8, by simp, hmx, ?_, ?_⟩
  · unfold prove_S
    rw [check_eq F (by omega) sp wf od hw, hc]
    show ob (newFloor_S F sp wf od ar0 ar1) _ = _
    rw [e1]
    show ob (counts_S F sp wf od ps B ar1) _ = _
    rw [counts_eq h F (by omega)]
    show ob (most_S F (0 : Int) sp wf od ps ((List.range od.length).map (cO od)) B ar1) _ = _
    rw [show most_S F (0 : Int) sp wf od ps ((List.range od.length).map (cO od)) B ar1 = _ from e2]
    show ob (prove_L0 F M ((od.length - 0) : Int) sp wf od ps F (0 : Int) B C ((List.range od.length).map (cO od)) []) _ = _
    rw [show prove_L0 F M ((od.length - 0) : Int) sp wf od ps F (0 : Int) B C ((List.range od.length).map (cO od)) [] = _ from e6]
    show ob (prove_L1 F F ((wf.length - 0) : Int) (0 : Int) sp wf od B C1 ps [] _) _ = _
    rw [show prove_L1 F F ((wf.length - 0) : Int) (0 : Int) sp wf od B C1 ps [] ((List.range od.length).map (fun o => Mp o - M)) = _ from e7]
  · unfold okP
    have a1 : pw.any (fun x => !inI x 0 2000000000) = false := by
      rw [List.any_eq_false]
      intro x hx
      obtain ⟨i, hi, rfl⟩ := List.getElem_of_mem hx
      have := (e9 i (by omega)).1
      rw [nth_eq pw 0 i hi]
      unfold inI; simp; omega
    have a2 : ((List.range od.length).map (fun o => Mp o - M)).any (fun x => !inI x 0 2000000000) = false := by
      rw [List.any_eq_false]
      intro x hx
      obtain ⟨i, hi, rfl⟩ := List.mem_map.1 hx
      have := hpb i (by simpa using hi)
      unfold inI; simp; omega
    have a3 : (List.range' 0 wf.length).any (badW sp wf od pw ((List.range od.length).map (fun o => Mp o - M))) = false := by
      rw [List.any_eq_false]
      intro w hw'
      have hwl := mem_r.1 hw'
      unfold badW
      rw [Bool.not_eq_true, List.any_eq_false]
      intro o ho
      have hol : o < od.length := by simpa using ho
      unfold badP
      rw [Bool.not_eq_true]
      cases hpm : pmM sp wf od w o with
      | false => rfl
      | true =>
        have := (e9 w hwl).2.1 o hol hpm
        rw [Bool.true_and, decide_eq_false_iff_not]
        omega
    rw [a1, a2, a3, e8]
    simp
  · have hs := hI.strong List.nodup_range' hW0 hMt (Mp := Mp) hMp (pw := nth pw 0) (fun w hw' => by
      obtain ⟨p1, p2, p3⟩ := e9 w (mem_r.1 hw')
      refine ⟨p1.1, fun p hp hpm => ?_, ?_⟩
      · have := p2 p hp hpm; rw [hpn p hp] at this; exact this
      · rcases p3 with p3 | ⟨p, g1, g2, g3⟩
        · exact .inl p3
        · exact .inr ⟨p, g1, g2, by rw [hpn p g1] at g3; exact g3⟩)
    unfold totP
    have s1 := sm_sumL wf.length 0 pw (by omega)
    have s2 := smP_sumN (od := od) ((List.range od.length).map (fun o => Mp o - M)) od.length 0
    rw [List.drop_zero] at s1
    rw [s1, s2, Nat.zero_add, Mt.sumN_eq od.length (f := fun o => nth ((List.range od.length).map (fun o => Mp o - M)) 0 o * cO od o) (g := fun o => (Mp o - M) * nth ((List.range od.length).map (cO od)) 0 o) (fun o ho => by rw [hpn o ho, nth_cO ho])]
    show Mt.sumL (nth pw 0) (List.range' 0 wf.length) + (_ - 0) = M
    omega
end
end Go.Proofs.YtbepdcodkecboaaDoor
