/- Plain laws of the store of chapter 2: traces. No condition. -/
import Derived.Test.YthmicafabimfkaaWMH5
import Derived.Test.YthmicafabimfkaaWXS6

namespace Go.Proofs.Ythmicafabimfkaa
open Go.RowKit
set_option maxRecDepth 100000
section
variable {es : List (QL × List Int)} {m : QM} {a0 : Q0} {a1 : Q1}
theorem Rep.anclen (h : Rep es m a0 a1) (hs : es.length ≤ 1000) {p : Int} (hp : inN1 p es.length = true) : (ancAt es p).length ≤ 1000 := by
  obtain ⟨s1, s2⟩ := h.anc hp
  have hq := inN1_iff.1 hp
  have := srt_len (ancAt es p) 1 1000 s1 (fun x hx => ⟨(s2 x hx).1, by have := (s2 x hx).2; omega⟩)
  omega
end
end Go.Proofs.Ythmicafabimfkaa


namespace Go.Proofs.Ythmicafabimfkaa
open Go.RowKit
set_option maxRecDepth 100000
noncomputable section
abbrev QD := Int × (QL × (Nat × (Nat × Int)))
abbrev QE := Int × (Int × (Int × (Int × (Int × (Int × (Int × (Int × (Int × (Int × (Nat × (Nat × Int)))))))))))
abbrev G7 := List (List Int)
abbrev G8 := List (List (Int × Int))
def mkE (d : QD) : QE := (d.1, (d.2.1.1, (d.2.1.2.1, (d.2.1.2.2.1.1.1, (d.2.1.2.2.1.1.2, (d.2.1.2.2.1.2.1.1, (d.2.1.2.2.1.2.1.2, (d.2.1.2.2.1.2.2.1, (d.2.1.2.2.1.2.2.2, (d.2.1.2.2.2, d.2.2))))))))))
theorem ne0 {a b : Int} (h : a = b) : (a != b) = false := by simp [h]
end
end Go.Proofs.Ythmicafabimfkaa


namespace Go.Proofs.Ythmicafabimfkaa
open Go.RowKit
set_option maxRecDepth 100000
abbrev dQD : QD := (TC.dflt (TC.pair (TC.int IntKind.u8) (TC.pair (TC.pair (TC.int IntKind.i64) (TC.pair (TC.int IntKind.i64) (TC.pair (TC.pair (TC.pair (TC.int IntKind.i64) (TC.int IntKind.i64)) (TC.pair (TC.pair (TC.int IntKind.i64) (TC.int IntKind.i64)) (TC.pair (TC.int IntKind.i64) (TC.int IntKind.i64)))) (TC.int IntKind.i64)))) (TC.pair (TC.rf 1 7) (TC.pair (TC.rf 1 8) (TC.int IntKind.i64))))))
theorem q_ints (F r : Nat) (g : G7) (h : (rrAt g r).length ≤ 1000) : intsR_S F r g = some (rrAt g r) := by
  unfold intsR_S
  have : lenOk 0 (rrAt g r).length = true := by simp [lenOk]; omega
  simp only [cond_false, this, cond_true, List.nil_append]
theorem a7_left {x y z : Q7} (h : a7 x z = a7 y z) : x = y := by
  simp only [a7, Prod.mk.injEq] at h
  obtain ⟨h1, h2, h3, h4, h5, h6, h7⟩ := h
  refine Prod.ext ?_ (Prod.ext ?_ (Prod.ext ?_ (Prod.ext ?_ (Prod.ext ?_ (Prod.ext ?_ ?_)))))
  all_goals omega
theorem drawn_take {es : List (QL × List Int)} {p : Int × Int} (hp : inN1 p.1 es.length = true) : ∀ (ps : List (Int × Int)) (D : Q7), drawn (qtake es p) D ps = drawn es D ps
  | [], _ => rfl
  | q :: ps, D => by
    show drawn (qtake es p) (a7 D (m7 q.2 (lotAt (qtake es p) q.1))) ps = drawn es (a7 D (m7 q.2 (lotAt es q.1))) ps
    rw [drawn_take hp ps]
    have : m7 q.2 (lotAt (qtake es p) q.1) = m7 q.2 (lotAt es q.1) := by
      unfold m7; rw [take_lot2 hp]
    rw [this]
theorem qret_ok {es : List (QL × List Int)} : ∀ (ps pre acc s : List Int), qret es pre acc ps = .inr s → acc.Pairwise (· < ·) → s.Pairwise (· < ·) ∧ (∀ y ∈ ps, inN1 y es.length = true) ∧ ∀ x, x ∈ s ↔ x ∈ acc ∨ x ∈ ps ∨ ∃ y ∈ ps, x ∈ ancAt es y
  | [], pre, acc, s, h, ha => by
    simp only [qret, Sum.inr.injEq] at h
    subst h
    exact ⟨ha, by simp, by simp⟩
  | p :: ps, pre, acc, s, h, ha => by
    simp only [qret] at h
    cases hp : inN1 p es.length with
    | false => rw [hp] at h; cases h
    | true =>
      rw [hp] at h
      simp only [Bool.not_true, cond_false] at h
      by_cases h1 : p ∈ pre
      · rw [decide_eq_true h1] at h; cases h
      · rw [decide_eq_false h1, cond_false] at h
        obtain ⟨i1, i2, i3⟩ := qret_ok ps _ _ s h (uniS_srt _ (insS_srt p ha))
        refine ⟨i1, ?_, fun x => ?_⟩
        · intro y hy
          rcases List.mem_cons.1 hy with rfl | hy
          · exact hp
          · exact i2 y hy
        · rw [i3, uniS_mem, insS_mem]
          constructor
          · rintro (((rfl | h) | h) | h | ⟨y, h, h2⟩)
            · exact .inr (.inl (by simp))
            · exact .inl h
            · exact .inr (.inr ⟨p, by simp, h⟩)
            · exact .inr (.inl (by simp [h]))
            · exact .inr (.inr ⟨y, by simp [h], h2⟩)
          · rintro (h | h | ⟨y, h, h2⟩)
            · exact .inl (.inl (.inr h))
            · rcases List.mem_cons.1 h with rfl | h
              · exact .inl (.inl (.inl rfl))
              · exact .inr (.inl h)
            · rcases List.mem_cons.1 h with rfl | h
              · exact .inl (.inr h2)
              · exact .inr (.inr ⟨y, h, h2⟩)
section
variable {es : List (QL × List Int)} {m : QM} {a0 : Q0} {a1 : Q1}
theorem okL_cnt {l : QL} (h : okL l = true) : 0 ≤ l.1 ∧ l.1 ≤ 1000 := by
  simp only [okL, qLot, Bool.and_eq_true, decide_eq_true_eq] at h
  omega
theorem Cnt.app {es : List (QL × List Int)} (hc : Cnt es) {e : QL × List Int} (h : okL e.1 = true) : Cnt (es ++ [e]) := by
  intro x hx
  rcases List.mem_append.1 hx with hx | hx
  · exact hc x hx
  · rw [List.mem_singleton] at hx
    rw [hx]; exact okL_cnt h
theorem anc_old (e : QL × List Int) {y : Int} (hy : inN1 y es.length = true) : ancAt (es ++ [e]) y = ancAt es y := by
  have := inN1_iff.1 hy
  simp only [ancAt]
  rw [List.getElem?_append_left (by omega)]
theorem anc_new (e : QL × List Int) : ancAt (es ++ [e]) ((es.length : Int) + 1) = e.2 := by
  have : ((es.length : Int) + 1).toNat - 1 = es.length := by omega
  simp only [ancAt, this]
  simp
/-- A lot that was made of others is put in. -/
theorem ret_ok (h : Rep es m a0 a1) {l : QL} {ps s : List Int} (hq : qRet es l ps = .inr s) : okL l = true ∧ Rep (es ++ [(l, s)]) (qmf 0 (es.length + 1)) (a0 ++ [(l, a1.length + 1)]) (a1 ++ [some (anc1 s)]) ∧
    (∀ y ∈ ps, inN1 y es.length = true) ∧ ∀ x, x ∈ s ↔ x ∈ ps ∨ ∃ y ∈ ps, x ∈ ancAt es y := by
  unfold qRet at hq
  cases ho : okL l with
  | false => rw [ho] at hq; cases hq
  | true =>
    rw [ho, cond_true] at hq
    cases hd : decide ((ps.length : Int) > (10 : Int)) with
    | true => rw [hd] at hq; cases hq
    | false =>
      rw [hd, cond_false] at hq
      obtain ⟨i1, i2, i3⟩ := qret_ok ps [] [] s hq List.Pairwise.nil
      have i3' : ∀ x, x ∈ s ↔ x ∈ ps ∨ ∃ y ∈ ps, x ∈ ancAt es y := fun x => by rw [i3]; simp
      refine ⟨rfl, h.add l s _ _ (fun j x hx => ?_) (.inr ⟨a1.length, rfl, by simp⟩) i1 (fun x hx => ?_), i2, i3'⟩
      · rw [List.getElem?_append_left (List.getElem?_eq_some_iff.1 hx).1]; exact hx
      · rcases (i3' x).1 hx with h1 | ⟨y, h1, h2⟩
        · exact inN1_iff.1 (i2 x h1)
        · have := (h.anc (i2 y h1)).2 x h2
          have := inN1_iff.1 (i2 y h1)
          omega
theorem qret_ne {es : List (QL × List Int)} : ∀ (ps pre acc : List Int) (e : Int), qret es pre acc ps = .inl e → e ≠ 0
  | [], _, _, _, h => by simp [qret] at h
  | p :: ps, pre, acc, e, h => by
    simp only [qret] at h
    cases hp : inN1 p es.length with
    | false =>
      rw [hp] at h
      simp only [Bool.not_false, cond_true, Sum.inl.injEq] at h
      omega
    | true =>
      rw [hp] at h
      simp only [Bool.not_true, cond_false] at h
      by_cases h1 : p ∈ pre
      · rw [decide_eq_true h1] at h
        simp only [cond_true, Sum.inl.injEq] at h
        omega
      · rw [decide_eq_false h1, cond_false] at h
        exact qret_ne ps _ _ e h
theorem qRet_ne {es : List (QL × List Int)} {l : QL} {ps : List Int} {e : Int} (h : qRet es l ps = .inl e) : e ≠ 0 := by
  unfold qRet at h
  cases ho : okL l with
  | false =>
    rw [ho] at h
    simp only [cond_false, Sum.inl.injEq] at h
    omega
  | true =>
    rw [ho, cond_true] at h
    cases hd : decide ((ps.length : Int) > (10 : Int)) with
    | true =>
      rw [hd] at h
      simp only [cond_true, Sum.inl.injEq] at h
      omega
    | false =>
      rw [hd, cond_false] at h
      exact qret_ne ps _ _ e h
end
end Go.Proofs.Ythmicafabimfkaa
