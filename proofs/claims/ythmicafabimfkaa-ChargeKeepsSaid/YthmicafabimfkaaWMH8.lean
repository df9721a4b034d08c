/- Plain laws of the store of chapter 2: traces. No condition. -/
import Derived.Test.YthmicafabimfkaaWMH5
import Derived.Test.YthmicafabimfkaaWXS5

namespace Go.Proofs.Ythmicafabimfkaa
open Go.RowKit
set_option maxRecDepth 100000
theorem q_amongL (F : Nat) (x : Int) (g : List Int) (hg : g.length ≤ 1000000) : ∀ (rest pre : List Int) (n : Nat), g = pre ++ rest → rest.length < n →
    among_L0 F x g n (pre.length : Int) = some (bif decide (x ∈ rest) then .inl (true, g) else .inr g)
  | _, _, 0, _, h => absurd h (Nat.not_lt_zero _)
  | [], pre, n + 1, e, _ => by
    rw [List.append_nil] at e
    simp only [among_L0]
    rw [decide_eq_false (by rw [e]; omega), cond_false]
    simp
  | y :: rest, pre, n + 1, e, hn => by
    have hlen : g.length = pre.length + (rest.length + 1) := by rw [e]; simp
    simp only [among_L0]
    rw [decide_eq_true (show (pre.length : Int) < (g.length : Int) - 0 by omega), cond_true]
    have hb : inB (pre.length : Int) (g.length - 0) = true := by simp [inB]; omega
    have hnth : nth g (0 : Int) ((pre.length : Int)).toNat = y := by
      show nth g 0 pre.length = y
      simp [nth, e]
    rw [hb, cond_true, hnth]
    by_cases h : y = x
    · rw [show (y == x) = true by simpa using h, cond_true, decide_eq_true (by rw [h]; simp)]; rfl
    · rw [show (y == x) = false by simpa using h, cond_false, w64 _ (by omega)]
      have ih := q_amongL F x g hg rest (pre ++ [y]) n (by rw [e]; simp) (by simp at hn; omega)
      rw [show ((pre ++ [y]).length : Int) = (pre.length : Int) + 1 by simp] at ih
      rw [ih, show decide (x ∈ y :: rest) = decide (x ∈ rest) from decide_eq_decide.2 (by
        rw [List.mem_cons]
        exact ⟨fun h2 => h2.elim (fun e => absurd e.symm h) id, .inr⟩)]
theorem q_among (F : Nat) (x : Int) (g : List Int) (hg : g.length ≤ 1000000) (hF : g.length < F) : among_S F x g = some (decide (x ∈ g)) := by
  have h := q_amongL F x g hg g [] F (by simp) hF
  change among_L0 F x g F (0 : Int) = _ at h
  unfold among_S
  rw [h]
  cases decide (x ∈ g) <;> rfl
theorem q_amongRL (F : Nat) (r : Nat) (x : Int) (g4 : List (List Int)) (g : List Int) (hr : rrAt g4 r = g) (hg : g.length ≤ 1000000) : ∀ (rest pre : List Int) (n : Nat), g = pre ++ rest → rest.length < n →
    amongR_L0 F r x g4 n (pre.length : Int) = some (bif decide (x ∈ rest) then .inl (true, g4) else .inr g4)
  | _, _, 0, _, h => absurd h (Nat.not_lt_zero _)
  | [], pre, n + 1, e, _ => by
    rw [List.append_nil] at e
    simp only [amongR_L0, hr]
    rw [decide_eq_false (by rw [e]; omega), cond_false]
    simp
  | y :: rest, pre, n + 1, e, hn => by
    have hlen : g.length = pre.length + (rest.length + 1) := by rw [e]; simp
    have h0 : Nat.beq r 0 = false := by
      cases hq : Nat.beq r 0 with
      | false => rfl
      | true =>
        have := Nat.eq_of_beq_eq_true hq
        subst this
        rw [show rrAt g4 0 = [] from rfl] at hr
        rw [← hr] at hlen
        simp at hlen
    simp only [amongR_L0, hr, h0, Bool.not_false, cond_true]
    rw [decide_eq_true (show (pre.length : Int) < (g.length : Int) by omega), cond_true]
    have hb : inB (pre.length : Int) g.length = true := by simp [inB]; omega
    have hnth : nth g (0 : Int) ((pre.length : Int)).toNat = y := by
      show nth g 0 pre.length = y
      simp [nth, e]
    rw [hb, cond_true, decide_eq_true (show ((pre.length : Int)).toNat < g.length by simp; omega), cond_true, hnth]
    by_cases h : y = x
    · rw [show (y == x) = true by simpa using h, cond_true, decide_eq_true (by rw [h]; simp)]; rfl
    · rw [show (y == x) = false by simpa using h, cond_false, w64 _ (by omega)]
      have ih := q_amongRL F r x g4 g hr hg rest (pre ++ [y]) n (by rw [e]; simp) (by simp at hn; omega)
      rw [show ((pre ++ [y]).length : Int) = (pre.length : Int) + 1 by simp] at ih
      rw [ih, show decide (x ∈ y :: rest) = decide (x ∈ rest) from decide_eq_decide.2 (by
        rw [List.mem_cons]
        exact ⟨fun h2 => h2.elim (fun e => absurd e.symm h) id, .inr⟩)]
theorem q_amongR (F : Nat) (r : Nat) (x : Int) (g4 : List (List Int)) (hg : (rrAt g4 r).length ≤ 1000000) (hF : (rrAt g4 r).length < F) : amongR_S F r x g4 = some (decide (x ∈ rrAt g4 r)) := by
  have h := q_amongRL F r x g4 _ rfl hg (rrAt g4 r) [] F (by simp) hF
  change amongR_L0 F r x g4 F (0 : Int) = _ at h
  unfold amongR_S
  rw [h]
  cases decide (x ∈ rrAt g4 r) <;> rfl
section
variable {es : List (QL × List Int)} {m : QM} {a0 : Q0} {a1 : Q1}
theorem Rep.anclen (h : Rep es m a0 a1) (hs : es.length ≤ 1000) {p : Int} (hp : inN1 p es.length = true) : (ancAt es p).length ≤ 1000 := by
  obtain ⟨s1, s2⟩ := h.anc hp
  have hq := inN1_iff.1 hp
  have := srt_len (ancAt es p) 1 1000 s1 (fun x hx => ⟨(s2 x hx).1, by have := (s2 x hx).2; omega⟩)
  omega
theorem q_tracedL1 (F : Nat) (hF : 2000 ≤ F) (h : Rep es m a0 a1) (hs : es.length ≤ 1000) (num : Int) (r : Nat) (g4 : List (List Int)) (want : Int) (i : Nat) (q : Q7) (l : List Int) (hi : i < l.length) (hl : l.length ≤ 1000) (hps : (rrAt g4 r).length ≤ 100) (hin : ∀ y ∈ rrAt g4 r, inN1 y es.length = true) :
    ∀ (rest pre : List Int) (n : Nat) (is : Bool), rrAt g4 r = pre ++ rest → rest.length < n →
    traced_L1 F n num r want (i : Int) is (pre.length : Int) q m g4 a0 a1 l = some ((num, (r, (want, ((i : Int), is || rest.any (fun y => decide (nth l 0 i ∈ ancAt es y)))))), (q, (m, (g4, (a0, (a1, l))))))
  | _, _, 0, _, _, h => absurd h (Nat.not_lt_zero _)
  | [], pre, n + 1, is, e, _ => by
    rw [List.append_nil] at e
    simp only [traced_L1]
    rw [decide_eq_false (by rw [e]; omega), cond_false, List.any_nil, Bool.or_false]
  | y :: rest, pre, n + 1, is, e, hn => by
    have hlen : (rrAt g4 r).length = pre.length + (rest.length + 1) := by rw [e]; simp
    have hy : inN1 y es.length = true := hin y (by rw [e]; simp)
    simp only [traced_L1]
    rw [decide_eq_true (show (pre.length : Int) < ((rrAt g4 r).length : Int) by omega), cond_true]
    have hb : inB (pre.length : Int) (rrAt g4 r).length = true := by simp [inB]; omega
    have hnth : nth (rrAt g4 r) (0 : Int) ((pre.length : Int)).toNat = y := by
      show nth (rrAt g4 r) 0 pre.length = y
      simp [nth, e]
    rw [hb, cond_true, decide_eq_true (show ((pre.length : Int)).toNat < (rrAt g4 r).length by simp; omega), cond_true, hnth]
    have ht := q_trace F y (u7 q) h hs
    rw [hy, cond_true] at ht
    have ih := fun is' => q_tracedL1 F hF h hs num r g4 want i q l hi hl hps hin rest (pre ++ [y]) n is' (by rw [e]; simp) (by simp at hn; omega)
    rw [show ((pre ++ [y]).length : Int) = (pre.length : Int) + 1 by simp] at ih
    show ob (ob (sTrace_S F y (u7 q) m a0 a1) _) _ = _
    rw [ht]
    cases is with
    | true =>
      show traced_L1 F n num r want (i : Int) true (IntKind.wrap IntKind.i64 ((pre.length : Int) + 1)) q m g4 a0 a1 l = _
      rw [w64 _ (by omega), ih true]
      simp
    | false =>
      show ob (bif inB (i : Int) (l.length - 0) then (ob (among_S F (nth l (0 : Int) ((i : Int)).toNat) (ancAt es y)) _) else none) _ = _
      have hbi : inB (i : Int) (l.length - 0) = true := by simp [inB]; omega
      have hal := h.anclen hs hy
      rw [hbi, cond_true, q_among F _ _ (by omega) (by omega)]
      show traced_L1 F n num r want (i : Int) (decide (nth l 0 i ∈ ancAt es y)) (IntKind.wrap IntKind.i64 ((pre.length : Int) + 1)) q m g4 a0 a1 l = _
      rw [w64 _ (by omega), ih]
      simp [List.any_cons]
theorem srt_nth {l : List Int} (h : l.Pairwise (· < ·)) {i j : Nat} (hij : i < j) (hj : j < l.length) : nth l 0 i < nth l 0 j := by
  have := List.pairwise_iff_getElem.1 h i j (by omega) hj hij
  rwa [nth_eq l 0 i, nth_eq l 0 j] at this
theorem q_tracedL0 (F : Nat) (hF : 2000 ≤ F) (h : Rep es m a0 a1) (hs : es.length ≤ 1000) (p : Int) (hp : inN1 p es.length = true) (r : Nat) (g4 : List (List Int)) (q : Q7) (hps : (rrAt g4 r).length ≤ 100) (hin : ∀ y ∈ rrAt g4 r, inN1 y es.length = true)
    (hA : ∀ x, x ∈ ancAt es p → x ∈ rrAt g4 r ∨ ∃ y ∈ rrAt g4 r, x ∈ ancAt es y) : ∀ (k i n : Nat), i + k = (ancAt es p).length → k < n →
    traced_L0 F n p r (i : Int) (i : Int) q m g4 a0 a1 (ancAt es p) = some (.inr ((r, ((ancAt es p).length : Int)), (q, (m, (g4, (a0, (a1, ancAt es p)))))))
  | _, _, 0, _, h => absurd h (Nat.not_lt_zero _)
  | 0, i, n + 1, e, _ => by
    simp only [traced_L0]
    rw [decide_eq_false (by omega), cond_false, show i = (ancAt es p).length by omega]
  | k + 1, i, n + 1, e, hn => by
    obtain ⟨s1, s2⟩ := h.anc hp
    have hal := h.anclen hs hp
    have hil : i < (ancAt es p).length := by omega
    have hx : nth (ancAt es p) 0 i ∈ ancAt es p := by
      rw [← nth_eq _ 0 i hil]; exact List.getElem_mem hil
    have hq := inN1_iff.1 hp
    have hx2 := s2 _ hx
    have hxn : inN1 (nth (ancAt es p) 0 i) es.length = true := inN1_iff.2 (by omega)
    simp only [traced_L0]
    rw [decide_eq_true (show (i : Int) < ((ancAt es p).length : Int) - 0 by omega), cond_true]
    have hb : inB (i : Int) ((ancAt es p).length - 0) = true := by simp [inB]; omega
    rw [hb]
    simp only [cond_true]
    have hm := q_made F (nth (ancAt es p) 0 i) (u7 q) h hs
    rw [hxn, cond_true] at hm
    show ob (sMade_S F (nth (ancAt es p) 0 i) (u7 q) m a0 a1) _ = _
    rw [hm]
    have hml : (madeQ es (nth (ancAt es p) 0 i)).length ≤ 1000 := by
      unfold madeQ madeP
      rw [List.length_map]
      have := List.length_filter_le (fun e : Int × Nat => decide (nth (ancAt es p) 0 i ∈ ancAt es e.1)) (qmf 0 es.length)
      rw [qmf_len] at this
      omega
    have ham : among_S F p (madeQ es (nth (ancAt es p) 0 i)) = some true := by
      rw [q_among F _ _ (by omega) (by omega), decide_eq_true ((madeQ_mem es _ p).2 ⟨hp, hx⟩)]
    have hall : (decide (nth (ancAt es p) 0 i ∈ rrAt g4 r) || (rrAt g4 r).any (fun y => decide (nth (ancAt es p) 0 i ∈ ancAt es y))) = true := by
      rw [Bool.or_eq_true, decide_eq_true_eq, List.any_eq_true]
      exact (hA _ hx).imp id (fun ⟨y, h1, h2⟩ => ⟨y, h1, decide_eq_true h2⟩)
    have h1 := q_tracedL1 F hF h hs p r g4 (i : Int) i q (ancAt es p) hil hal hps hin (rrAt g4 r) [] F (decide (nth (ancAt es p) 0 i ∈ rrAt g4 r)) (by simp) (by omega)
    change traced_L1 F F p r (i : Int) (i : Int) (decide (nth (ancAt es p) 0 i ∈ rrAt g4 r)) (0 : Int) q m g4 a0 a1 (ancAt es p) = _ at h1
    rw [hall] at h1
    have ih := q_tracedL0 F hF h hs p hp r g4 q hps hin hA k (i + 1) n (by omega) (by omega)
    rw [show (((i + 1 : Nat)) : Int) = (i : Int) + 1 by omega] at ih
    have rest : (ob (amongR_S F r (nth (ancAt es p) (0 : Int) ((i : Int)).toNat) g4) (fun r4 => (ob (traced_L1 F F p r (i : Int) (i : Int) r4 (0 : Int) q m g4 a0 a1 (ancAt es p)) (fun s4 => (bif s4.1.2.2.2.2 then (traced_L0 F n s4.1.1 s4.1.2.1 (IntKind.wrap IntKind.i64 (s4.1.2.2.1 + (1 : Int))) (IntKind.wrap IntKind.i64 (s4.1.2.2.2.1 + (1 : Int))) s4.2.1 s4.2.2.1 s4.2.2.2.1 s4.2.2.2.2.1 s4.2.2.2.2.2.1 s4.2.2.2.2.2.2) else (traced_L0 F n s4.1.1 s4.1.2.1 s4.1.2.2.1 (IntKind.wrap IntKind.i64 (s4.1.2.2.2.1 + (1 : Int))) s4.2.1 s4.2.2.1 s4.2.2.2.1 s4.2.2.2.2.1 s4.2.2.2.2.2.1 s4.2.2.2.2.2.2)))))) = some (.inr ((r, ((ancAt es p).length : Int)), (q, (m, (g4, (a0, (a1, ancAt es p))))))) := by
      rw [q_amongR F r _ g4 (by omega) (by omega)]
      show ob (traced_L1 F F p r (i : Int) (i : Int) (decide (nth (ancAt es p) 0 i ∈ rrAt g4 r)) (0 : Int) q m g4 a0 a1 (ancAt es p)) _ = _
      rw [h1]
      show traced_L0 F n p r (IntKind.wrap IntKind.i64 ((i : Int) + (1 : Int))) (IntKind.wrap IntKind.i64 ((i : Int) + (1 : Int))) q m g4 a0 a1 (ancAt es p) = _
      rw [w64 _ (by omega)]
      exact ih
    show ob (bif (decide ((nth (ancAt es p) 0 i) ≥ p)) then _ else (bif (decide ((i : Int) > (0 : Int))) then (bif (inB (IntKind.wrap IntKind.i64 ((i : Int) - (1 : Int))) ((ancAt es p).length - 0)) then (bif (decide ((nth (ancAt es p) (0 : Int) (IntKind.wrap IntKind.i64 ((i : Int) - (1 : Int))).toNat) ≥ (nth (ancAt es p) (0 : Int) i))) then _ else (ob (among_S F p (madeQ es (nth (ancAt es p) 0 i))) _)) else none) else (ob (among_S F p (madeQ es (nth (ancAt es p) 0 i))) _))) _ = _
    rw [decide_eq_false (show ¬ (nth (ancAt es p) 0 i ≥ p) by omega), cond_false, ham]
    by_cases hi0 : (i : Int) > 0
    · rw [decide_eq_true hi0, cond_true, w64 _ (by omega)]
      have hb2 : inB ((i : Int) - 1) ((ancAt es p).length - 0) = true := by simp [inB]; omega
      have e9 : ((i : Int) - 1).toNat = i - 1 := by omega
      have hlt := srt_nth s1 (show i - 1 < i by omega) hil
      rw [hb2, cond_true, e9, decide_eq_false (show ¬ (nth (ancAt es p) 0 (i - 1) ≥ nth (ancAt es p) 0 i) by omega), cond_false]
      show (bif inB (i : Int) ((ancAt es p).length - 0) then _ else none) = _
      rw [hb, cond_true]
      exact rest
    · rw [decide_eq_false hi0, cond_false]
      show (bif inB (i : Int) ((ancAt es p).length - 0) then _ else none) = _
      rw [hb, cond_true]
      exact rest
theorem q_tracedL2 (F : Nat) (hF : 2000 ≤ F) (r : Nat) (want : Int) (q : Q7) (g4 : List (List Int)) (l : List Int) (hl : l.length ≤ 1000) (hps : (rrAt g4 r).length ≤ 100) (hin : ∀ y ∈ rrAt g4 r, y ∈ l) : ∀ (rest pre : List Int) (n : Nat), rrAt g4 r = pre ++ rest → rest.length < n →
    traced_L2 F r want q m g4 a0 a1 l n (pre.length : Int) = some (.inr (want, (q, (m, (g4, (a0, (a1, l)))))))
  | _, _, 0, _, h => absurd h (Nat.not_lt_zero _)
  | [], pre, n + 1, e, _ => by
    rw [List.append_nil] at e
    simp only [traced_L2]
    rw [decide_eq_false (by rw [e]; omega), cond_false]
  | y :: rest, pre, n + 1, e, hn => by
    have hlen : (rrAt g4 r).length = pre.length + (rest.length + 1) := by rw [e]; simp
    have hy : y ∈ l := hin y (by rw [e]; simp)
    simp only [traced_L2]
    rw [decide_eq_true (show (pre.length : Int) < ((rrAt g4 r).length : Int) by omega), cond_true]
    have hb : inB (pre.length : Int) (rrAt g4 r).length = true := by simp [inB]; omega
    have hnth : nth (rrAt g4 r) (0 : Int) ((pre.length : Int)).toNat = y := by
      show nth (rrAt g4 r) 0 pre.length = y
      simp [nth, e]
    rw [hb, cond_true, decide_eq_true (show ((pre.length : Int)).toNat < (rrAt g4 r).length by simp; omega), cond_true, hnth, q_among F _ _ (by omega) (by omega), decide_eq_true hy]
    have ih := q_tracedL2 F hF r want q g4 l hl hps hin rest (pre ++ [y]) n (by rw [e]; simp) (by simp at hn; omega)
    rw [show ((pre ++ [y]).length : Int) = (pre.length : Int) + 1 by simp] at ih
    show traced_L2 F r want q m g4 a0 a1 l n (IntKind.wrap IntKind.i64 ((pre.length : Int) + 1)) = _
    rw [w64 _ (by omega)]
    exact ih
theorem q_traced (F : Nat) (hF : 2000 ≤ F) (h : Rep es m a0 a1) (hs : es.length ≤ 1000) (p : Int) (hp : inN1 p es.length = true) (r : Nat) (g4 : List (List Int)) (q : Q7) (hps : (rrAt g4 r).length ≤ 100) (hin : ∀ y ∈ rrAt g4 r, inN1 y es.length = true)
    (hA : ∀ x, x ∈ ancAt es p ↔ x ∈ rrAt g4 r ∨ ∃ y ∈ rrAt g4 r, x ∈ ancAt es y) : traced_S F p r (u7 q) m a0 a1 g4 = some (true, (q, (m, (a0, a1)))) := by
  have ht := q_trace F p (u7 q) h hs
  rw [hp, cond_true] at ht
  have hal := h.anclen hs hp
  have h0 := q_tracedL0 F hF h hs p hp r g4 q hps hin (fun x => (hA x).1) (ancAt es p).length 0 F (by omega) (by omega)
  have h2 := q_tracedL2 (m := m) (a0 := a0) (a1 := a1) F hF r ((ancAt es p).length : Int) q g4 (ancAt es p) hal hps (fun y hy => (hA y).2 (.inl hy)) (rrAt g4 r) [] F (by simp) (by omega)
  change traced_L0 F F p r (0 : Int) (0 : Int) q m g4 a0 a1 (ancAt es p) = _ at h0
  change traced_L2 F r ((ancAt es p).length : Int) q m g4 a0 a1 (ancAt es p) F (0 : Int) = _ at h2
  unfold traced_S
  rw [ht]
  show ob (traced_L0 F F p r (0 : Int) (0 : Int) q m g4 a0 a1 (ancAt es p)) _ = _
  rw [h0]
  show ob (traced_L2 F r ((ancAt es p).length : Int) q m g4 a0 a1 (ancAt es p) F (0 : Int)) _ = _
  rw [h2]
  show some (((((ancAt es p).length : Int)) == (((ancAt es p).length : Int) - 0)), (q, (m, (a0, a1)))) = _
  rw [Int.sub_zero, beq_self_eq_true]
end
end Go.Proofs.Ythmicafabimfkaa


namespace Go.Proofs.Ythmicafabimfkaa
open Go.RowKit
set_option maxRecDepth 100000
noncomputable section
abbrev QD := Int × (QL × (Nat × (Nat × Int)))
abbrev QE := Int × (Int × (Int × (Int × (Int × (Int × (Int × (Int × (Int × (Int × (Nat × (Nat × Int)))))))))))
abbrev G7 := List (List Int)
abbrev G8 := List (List (Int × Int))
abbrev KR := (Bool × (List QD × (G7 × (G8 × (Q0 × Q1))))) ⊕ (List QD × (G7 × (G8 × (Q0 × Q1))))
abbrev KTL := List QD × (G7 × (G8 × (Q0 × (Q1 × (Q7 × (QP × (QE × (QP × (QP × QM)))))))))
abbrev K2T := (Int × (Int × (Int × (Int × (Nat × (Int × Bool)))))) × KTL
abbrev K6T := (Int × (Int × (Int × (Int × (Nat × (Int × (Bool × Bool))))))) × KTL
abbrev K7T := (Int × (Int × (Nat × (Int × (Bool × (Int × (Int × (Int × (Int × (Int × (Int × (Int × (Bool × Bool))))))))))))) × KTL
def keepsK7 (F n_ : Nat) (s7 : K7T) : Option KR := (bif s7.1.2.2.2.2.2.2.2.2.2.2.2.2.2 then (some (.inl (false, (s7.2.1, s7.2.2.1, s7.2.2.2.1, s7.2.2.2.2.1, s7.2.2.2.2.2.1)))) else (lKeeps_L0 F n_ s7.1.1 (IntKind.wrap IntKind.i64 (s7.1.2.1 + (1 : Int))) s7.2.1 s7.2.2.1 s7.2.2.2.1 s7.2.2.2.2.1 s7.2.2.2.2.2.1 s7.2.2.2.2.2.2.1 s7.2.2.2.2.2.2.2.1 s7.2.2.2.2.2.2.2.2.2.2.2))
def keepsK6 (F n_ : Nat) (s6 : K6T) : Option KR := (bif s6.1.2.2.2.2.2.2.2 then (some (.inl (false, (s6.2.1, s6.2.2.1, s6.2.2.2.1, s6.2.2.2.2.1, s6.2.2.2.2.2.1)))) else (bif ((IntKind.wrap IntKind.i64 (s6.2.2.2.2.2.2.2.2.2.1.2.1.1 + s6.2.2.2.2.2.2.2.2.2.2.1.2.1.1)) != s6.2.2.2.2.2.2.2.1.2.1.1) then (some (.inl (false, (s6.2.1, s6.2.2.1, s6.2.2.2.1, s6.2.2.2.2.1, s6.2.2.2.2.2.1)))) else (bif ((IntKind.wrap IntKind.i64 (s6.2.2.2.2.2.2.2.2.2.1.2.1.2 + s6.2.2.2.2.2.2.2.2.2.2.1.2.1.2)) != s6.2.2.2.2.2.2.2.1.2.1.2) then (some (.inl (false, (s6.2.1, s6.2.2.1, s6.2.2.2.1, s6.2.2.2.2.1, s6.2.2.2.2.2.1)))) else (bif ((IntKind.wrap IntKind.i64 (s6.2.2.2.2.2.2.2.2.2.1.2.2.1.1 + s6.2.2.2.2.2.2.2.2.2.2.1.2.2.1.1)) != s6.2.2.2.2.2.2.2.1.2.2.1.1) then (some (.inl (false, (s6.2.1, s6.2.2.1, s6.2.2.2.1, s6.2.2.2.2.1, s6.2.2.2.2.2.1)))) else (bif ((IntKind.wrap IntKind.i64 (s6.2.2.2.2.2.2.2.2.2.1.2.2.1.2 + s6.2.2.2.2.2.2.2.2.2.2.1.2.2.1.2)) != s6.2.2.2.2.2.2.2.1.2.2.1.2) then (some (.inl (false, (s6.2.1, s6.2.2.1, s6.2.2.2.1, s6.2.2.2.2.1, s6.2.2.2.2.2.1)))) else (bif ((IntKind.wrap IntKind.i64 (s6.2.2.2.2.2.2.2.2.2.1.2.2.2.1 + s6.2.2.2.2.2.2.2.2.2.2.1.2.2.2.1)) != s6.2.2.2.2.2.2.2.1.2.2.2.1) then (some (.inl (false, (s6.2.1, s6.2.2.1, s6.2.2.2.1, s6.2.2.2.2.1, s6.2.2.2.2.2.1)))) else (bif ((IntKind.wrap IntKind.i64 (s6.2.2.2.2.2.2.2.2.2.1.2.2.2.2 + s6.2.2.2.2.2.2.2.2.2.2.1.2.2.2.2)) != s6.2.2.2.2.2.2.2.1.2.2.2.2) then (some (.inl (false, (s6.2.1, s6.2.2.1, s6.2.2.2.1, s6.2.2.2.2.1, s6.2.2.2.2.2.1)))) else (ob (bif (s6.1.2.2.2.1 == (0 : Int)) then (bif ((Int.tmod s6.2.2.2.2.2.2.2.2.1.1 (3 : Int)) == (1 : Int)) then (ob (traced_S F s6.1.2.2.1 s6.2.2.2.2.2.2.2.2.1.2.2.2.2.2.2.2.2.2.2.1 (s6.2.2.2.2.2.2.1.1, ((s6.2.2.2.2.2.2.1.2.1, s6.2.2.2.2.2.2.1.2.2.1), ((s6.2.2.2.2.2.2.1.2.2.2.1, s6.2.2.2.2.2.2.1.2.2.2.2.1), s6.2.2.2.2.2.2.1.2.2.2.2.2))) s6.2.2.2.2.2.2.2.2.2.2.2 s6.2.2.2.2.1 s6.2.2.2.2.2.1 s6.2.2.1) (fun r6 => (some ((s6.1.1, s6.1.2.1, s6.1.2.2.2.2.1, s6.1.2.2.2.2.2.1, s6.1.2.2.2.2.2.2.1, (2 : Int), s6.2.2.2.2.2.2.2.2.2.1.2.2.2.2, (2 : Int), s6.2.2.2.2.2.2.2.2.2.2.1.2.2.2.2, (IntKind.wrap IntKind.i64 (s6.2.2.2.2.2.2.2.2.2.1.2.2.2.2 + s6.2.2.2.2.2.2.2.2.2.2.1.2.2.2.2)), (2 : Int), s6.2.2.2.2.2.2.2.1.2.2.2.2, ((IntKind.wrap IntKind.i64 (s6.2.2.2.2.2.2.2.2.2.1.2.2.2.2 + s6.2.2.2.2.2.2.2.2.2.2.1.2.2.2.2)) != s6.2.2.2.2.2.2.2.1.2.2.2.2), (!r6.1)), (s6.2.1, s6.2.2.1, s6.2.2.2.1, r6.2.2.2.1, r6.2.2.2.2, (r6.2.1.1, (r6.2.1.2.1, (r6.2.1.2.2.1, (r6.2.1.2.2.2.1, (r6.2.1.2.2.2.2.1, (r6.2.1.2.2.2.2.2.1, r6.2.1.2.2.2.2.2.2)))))), s6.2.2.2.2.2.2.2.1, s6.2.2.2.2.2.2.2.2.1, s6.2.2.2.2.2.2.2.2.2.1, s6.2.2.2.2.2.2.2.2.2.2.1, r6.2.2.1))))) else (some ((s6.1.1, s6.1.2.1, s6.1.2.2.2.2.1, s6.1.2.2.2.2.2.1, s6.1.2.2.2.2.2.2.1, (2 : Int), s6.2.2.2.2.2.2.2.2.2.1.2.2.2.2, (2 : Int), s6.2.2.2.2.2.2.2.2.2.2.1.2.2.2.2, (IntKind.wrap IntKind.i64 (s6.2.2.2.2.2.2.2.2.2.1.2.2.2.2 + s6.2.2.2.2.2.2.2.2.2.2.1.2.2.2.2)), (2 : Int), s6.2.2.2.2.2.2.2.1.2.2.2.2, ((IntKind.wrap IntKind.i64 (s6.2.2.2.2.2.2.2.2.2.1.2.2.2.2 + s6.2.2.2.2.2.2.2.2.2.2.1.2.2.2.2)) != s6.2.2.2.2.2.2.2.1.2.2.2.2), false), (s6.2.1, s6.2.2.1, s6.2.2.2.1, s6.2.2.2.2.1, s6.2.2.2.2.2.1, s6.2.2.2.2.2.2.1, s6.2.2.2.2.2.2.2.1, s6.2.2.2.2.2.2.2.2.1, s6.2.2.2.2.2.2.2.2.2.1, s6.2.2.2.2.2.2.2.2.2.2.1, s6.2.2.2.2.2.2.2.2.2.2.2)))) else (some ((s6.1.1, s6.1.2.1, s6.1.2.2.2.2.1, s6.1.2.2.2.2.2.1, s6.1.2.2.2.2.2.2.1, (2 : Int), s6.2.2.2.2.2.2.2.2.2.1.2.2.2.2, (2 : Int), s6.2.2.2.2.2.2.2.2.2.2.1.2.2.2.2, (IntKind.wrap IntKind.i64 (s6.2.2.2.2.2.2.2.2.2.1.2.2.2.2 + s6.2.2.2.2.2.2.2.2.2.2.1.2.2.2.2)), (2 : Int), s6.2.2.2.2.2.2.2.1.2.2.2.2, ((IntKind.wrap IntKind.i64 (s6.2.2.2.2.2.2.2.2.2.1.2.2.2.2 + s6.2.2.2.2.2.2.2.2.2.2.1.2.2.2.2)) != s6.2.2.2.2.2.2.2.1.2.2.2.2), false), (s6.2.1, s6.2.2.1, s6.2.2.2.1, s6.2.2.2.2.1, s6.2.2.2.2.2.1, s6.2.2.2.2.2.2.1, s6.2.2.2.2.2.2.2.1, s6.2.2.2.2.2.2.2.2.1, s6.2.2.2.2.2.2.2.2.2.1, s6.2.2.2.2.2.2.2.2.2.2.1, s6.2.2.2.2.2.2.2.2.2.2.2)))) (keepsK7 F n_)))))))))
def keepsK5 (F n_ : Nat) (s5 : K2T) : Option KR := (ob (sums_S F (s5.2.2.2.2.2.2.1.1, ((s5.2.2.2.2.2.2.1.2.1, s5.2.2.2.2.2.2.1.2.2.1), ((s5.2.2.2.2.2.2.1.2.2.2.1, s5.2.2.2.2.2.2.1.2.2.2.2.1), s5.2.2.2.2.2.2.1.2.2.2.2.2))) s5.2.2.2.2.2.2.2.2.2.2.2 s5.2.2.2.2.1 s5.2.2.2.2.2.1) (fun r5 => (ob (bif (s5.1.2.2.2.1 != (0 : Int)) then (bif (bif true then (!((r5.1.1.1 == s5.2.2.2.2.2.2.2.2.2.1.1) && (((r5.1.1.2.1.1 == s5.2.2.2.2.2.2.2.2.2.1.2.1.1) && (r5.1.1.2.1.2 == s5.2.2.2.2.2.2.2.2.2.1.2.1.2)) && (((r5.1.1.2.2.1.1 == s5.2.2.2.2.2.2.2.2.2.1.2.2.1.1) && (r5.1.1.2.2.1.2 == s5.2.2.2.2.2.2.2.2.2.1.2.2.1.2)) && ((r5.1.1.2.2.2.1 == s5.2.2.2.2.2.2.2.2.2.1.2.2.2.1) && (r5.1.1.2.2.2.2 == s5.2.2.2.2.2.2.2.2.2.1.2.2.2.2)))))) else ((r5.1.1.1 == s5.2.2.2.2.2.2.2.2.2.1.1) && (((r5.1.1.2.1.1 == s5.2.2.2.2.2.2.2.2.2.1.2.1.1) && (r5.1.1.2.1.2 == s5.2.2.2.2.2.2.2.2.2.1.2.1.2)) && (((r5.1.1.2.2.1.1 == s5.2.2.2.2.2.2.2.2.2.1.2.2.1.1) && (r5.1.1.2.2.1.2 == s5.2.2.2.2.2.2.2.2.2.1.2.2.1.2)) && ((r5.1.1.2.2.2.1 == s5.2.2.2.2.2.2.2.2.2.1.2.2.2.1) && (r5.1.1.2.2.2.2 == s5.2.2.2.2.2.2.2.2.2.1.2.2.2.2)))))) then (some ((s5.1.1, s5.1.2.1, s5.1.2.2.1, s5.1.2.2.2.1, s5.1.2.2.2.2.1, s5.1.2.2.2.2.2.1, s5.1.2.2.2.2.2.2, true), (s5.2.1, s5.2.2.1, s5.2.2.2.1, r5.2.2.2.1, r5.2.2.2.2, (r5.2.1.1, (r5.2.1.2.1, (r5.2.1.2.2.1, (r5.2.1.2.2.2.1, (r5.2.1.2.2.2.2.1, (r5.2.1.2.2.2.2.2.1, r5.2.1.2.2.2.2.2.2)))))), s5.2.2.2.2.2.2.2.1, s5.2.2.2.2.2.2.2.2.1, r5.1.1, r5.1.2, r5.2.2.1))) else (bif (bif true then (!((r5.1.2.1 == s5.2.2.2.2.2.2.2.2.2.2.1.1) && (((r5.1.2.2.1.1 == s5.2.2.2.2.2.2.2.2.2.2.1.2.1.1) && (r5.1.2.2.1.2 == s5.2.2.2.2.2.2.2.2.2.2.1.2.1.2)) && (((r5.1.2.2.2.1.1 == s5.2.2.2.2.2.2.2.2.2.2.1.2.2.1.1) && (r5.1.2.2.2.1.2 == s5.2.2.2.2.2.2.2.2.2.2.1.2.2.1.2)) && ((r5.1.2.2.2.2.1 == s5.2.2.2.2.2.2.2.2.2.2.1.2.2.2.1) && (r5.1.2.2.2.2.2 == s5.2.2.2.2.2.2.2.2.2.2.1.2.2.2.2)))))) else ((r5.1.2.1 == s5.2.2.2.2.2.2.2.2.2.2.1.1) && (((r5.1.2.2.1.1 == s5.2.2.2.2.2.2.2.2.2.2.1.2.1.1) && (r5.1.2.2.1.2 == s5.2.2.2.2.2.2.2.2.2.2.1.2.1.2)) && (((r5.1.2.2.2.1.1 == s5.2.2.2.2.2.2.2.2.2.2.1.2.2.1.1) && (r5.1.2.2.2.1.2 == s5.2.2.2.2.2.2.2.2.2.2.1.2.2.1.2)) && ((r5.1.2.2.2.2.1 == s5.2.2.2.2.2.2.2.2.2.2.1.2.2.2.1) && (r5.1.2.2.2.2.2 == s5.2.2.2.2.2.2.2.2.2.2.1.2.2.2.2)))))) then (some ((s5.1.1, s5.1.2.1, s5.1.2.2.1, s5.1.2.2.2.1, s5.1.2.2.2.2.1, s5.1.2.2.2.2.2.1, s5.1.2.2.2.2.2.2, true), (s5.2.1, s5.2.2.1, s5.2.2.2.1, r5.2.2.2.1, r5.2.2.2.2, (r5.2.1.1, (r5.2.1.2.1, (r5.2.1.2.2.1, (r5.2.1.2.2.2.1, (r5.2.1.2.2.2.2.1, (r5.2.1.2.2.2.2.2.1, r5.2.1.2.2.2.2.2.2)))))), s5.2.2.2.2.2.2.2.1, s5.2.2.2.2.2.2.2.2.1, r5.1.1, r5.1.2, r5.2.2.1))) else (some ((s5.1.1, s5.1.2.1, s5.1.2.2.1, s5.1.2.2.2.1, s5.1.2.2.2.2.1, s5.1.2.2.2.2.2.1, s5.1.2.2.2.2.2.2, ((IntKind.wrap IntKind.i64 (r5.1.1.1 + r5.1.2.1)) != s5.2.2.2.2.2.2.2.1.1)), (s5.2.1, s5.2.2.1, s5.2.2.2.1, r5.2.2.2.1, r5.2.2.2.2, (r5.2.1.1, (r5.2.1.2.1, (r5.2.1.2.2.1, (r5.2.1.2.2.2.1, (r5.2.1.2.2.2.2.1, (r5.2.1.2.2.2.2.2.1, r5.2.1.2.2.2.2.2.2)))))), s5.2.2.2.2.2.2.2.1, s5.2.2.2.2.2.2.2.2.1, r5.1.1, r5.1.2, r5.2.2.1))))) else (some ((s5.1.1, s5.1.2.1, s5.1.2.2.1, s5.1.2.2.2.1, s5.1.2.2.2.2.1, s5.1.2.2.2.2.2.1, s5.1.2.2.2.2.2.2, ((IntKind.wrap IntKind.i64 (r5.1.1.1 + r5.1.2.1)) != s5.2.2.2.2.2.2.2.1.1)), (s5.2.1, s5.2.2.1, s5.2.2.2.1, r5.2.2.2.1, r5.2.2.2.2, (r5.2.1.1, (r5.2.1.2.1, (r5.2.1.2.2.1, (r5.2.1.2.2.2.1, (r5.2.1.2.2.2.2.1, (r5.2.1.2.2.2.2.2.1, r5.2.1.2.2.2.2.2.2)))))), s5.2.2.2.2.2.2.2.1, s5.2.2.2.2.2.2.2.2.1, r5.1.1, r5.1.2, r5.2.2.1)))) (keepsK6 F n_))))
def keepsK (F n_ : Nat) (s2 : K2T) : Option KR := (ob (ob (bif (s2.1.2.2.2.1 == (0 : Int)) then (some ((s2.1.1, s2.1.2.1, s2.1.2.2.1, s2.1.2.2.2.1, s2.1.2.2.2.2.1, s2.1.2.2.2.2.2.1, s2.1.2.2.2.2.2.2, ((Int.tmod s2.2.2.2.2.2.2.2.2.1.1 (3 : Int)) != (2 : Int))), (s2.2.1, s2.2.2.1, s2.2.2.2.1, s2.2.2.2.2.1, s2.2.2.2.2.2.1, s2.2.2.2.2.2.2.1, s2.2.2.2.2.2.2.2.1, s2.2.2.2.2.2.2.2.2.1, s2.2.2.2.2.2.2.2.2.2.1, s2.2.2.2.2.2.2.2.2.2.2.1, s2.2.2.2.2.2.2.2.2.2.2.2))) else (some ((s2.1.1, s2.1.2.1, s2.1.2.2.1, s2.1.2.2.2.1, s2.1.2.2.2.2.1, s2.1.2.2.2.2.2.1, s2.1.2.2.2.2.2.2, false), (s2.2.1, s2.2.2.1, s2.2.2.2.1, s2.2.2.2.2.1, s2.2.2.2.2.2.1, s2.2.2.2.2.2.2.1, s2.2.2.2.2.2.2.2.1, s2.2.2.2.2.2.2.2.2.1, s2.2.2.2.2.2.2.2.2.2.1, s2.2.2.2.2.2.2.2.2.2.2.1, s2.2.2.2.2.2.2.2.2.2.2.2)))) (fun s3 => (bif s3.1.2.2.2.2.2.2.2 then (bif (s3.1.2.2.1 != (IntKind.wrap IntKind.i64 (s3.1.1 + (1 : Int)))) then (some (.inl (false, (s3.2.1, s3.2.2.1, s3.2.2.2.1, s3.2.2.2.2.1, s3.2.2.2.2.2.1)))) else (some (.inr (((IntKind.wrap IntKind.i64 (s3.1.1 + (1 : Int))), s3.1.2.1, s3.1.2.2.1, s3.1.2.2.2.1, s3.1.2.2.2.2.1, s3.1.2.2.2.2.2.1, s3.1.2.2.2.2.2.2.1), (s3.2.1, s3.2.2.1, s3.2.2.2.1, s3.2.2.2.2.1, s3.2.2.2.2.2.1, s3.2.2.2.2.2.2.1, ((IntKind.wrap IntKind.i64 (s3.2.2.2.2.2.2.2.1.1 + (IntKind.wrap IntKind.i64 (s3.2.2.2.2.2.2.2.2.1.2.1 * s3.2.2.2.2.2.2.2.2.1.2.2.1)))), (((IntKind.wrap IntKind.i64 (s3.2.2.2.2.2.2.2.1.2.1.1 + (IntKind.wrap IntKind.i64 (s3.2.2.2.2.2.2.2.2.1.2.1 * s3.2.2.2.2.2.2.2.2.1.2.2.2.1)))), (IntKind.wrap IntKind.i64 (s3.2.2.2.2.2.2.2.1.2.1.2 + (IntKind.wrap IntKind.i64 (s3.2.2.2.2.2.2.2.2.1.2.1 * s3.2.2.2.2.2.2.2.2.1.2.2.2.2.1))))), (((IntKind.wrap IntKind.i64 (s3.2.2.2.2.2.2.2.1.2.2.1.1 + (IntKind.wrap IntKind.i64 (s3.2.2.2.2.2.2.2.2.1.2.1 * s3.2.2.2.2.2.2.2.2.1.2.2.2.2.2.1)))), (IntKind.wrap IntKind.i64 (s3.2.2.2.2.2.2.2.1.2.2.1.2 + (IntKind.wrap IntKind.i64 (s3.2.2.2.2.2.2.2.2.1.2.1 * s3.2.2.2.2.2.2.2.2.1.2.2.2.2.2.2.1))))), ((IntKind.wrap IntKind.i64 (s3.2.2.2.2.2.2.2.1.2.2.2.1 + (IntKind.wrap IntKind.i64 (s3.2.2.2.2.2.2.2.2.1.2.1 * s3.2.2.2.2.2.2.2.2.1.2.2.2.2.2.2.2.1)))), (IntKind.wrap IntKind.i64 (s3.2.2.2.2.2.2.2.1.2.2.2.2 + (IntKind.wrap IntKind.i64 (s3.2.2.2.2.2.2.2.2.1.2.1 * s3.2.2.2.2.2.2.2.2.1.2.2.2.2.2.2.2.2.1)))))))), s3.2.2.2.2.2.2.2.2.1, s3.2.2.2.2.2.2.2.2.2.1, s3.2.2.2.2.2.2.2.2.2.2.1, s3.2.2.2.2.2.2.2.2.2.2.2))))) else (some (.inr ((s3.1.1, s3.1.2.1, s3.1.2.2.1, s3.1.2.2.2.1, s3.1.2.2.2.2.1, s3.1.2.2.2.2.2.1, s3.1.2.2.2.2.2.2.1), (s3.2.1, s3.2.2.1, s3.2.2.2.1, s3.2.2.2.2.1, s3.2.2.2.2.2.1, s3.2.2.2.2.2.2.1, s3.2.2.2.2.2.2.2.1, s3.2.2.2.2.2.2.2.2.1, s3.2.2.2.2.2.2.2.2.2.1, s3.2.2.2.2.2.2.2.2.2.2.1, s3.2.2.2.2.2.2.2.2.2.2.2))))))) (fun o_ => su o_ (fun s4 => (some (.inl (s4.1, (s4.2.1, s4.2.2.1, s4.2.2.2.1, s4.2.2.2.2.1, s4.2.2.2.2.2))))) (keepsK5 F n_)))
def GoodK (o : Option KR) : Prop := ∃ x, o = some x ∧ (match x with
  | .inl y => y.1 = true
  | .inr _ => True)
def mkE (d : QD) : QE := (d.1, (d.2.1.1, (d.2.1.2.1, (d.2.1.2.2.1.1.1, (d.2.1.2.2.1.1.2, (d.2.1.2.2.1.2.1.1, (d.2.1.2.2.1.2.1.2, (d.2.1.2.2.1.2.2.1, (d.2.1.2.2.1.2.2.2, (d.2.1.2.2.2, d.2.2))))))))))
def addA (x : QP) (e : QE) : QP := ((IntKind.wrap IntKind.i64 (x.1 + (IntKind.wrap IntKind.i64 (e.2.1 * e.2.2.1)))), (((IntKind.wrap IntKind.i64 (x.2.1.1 + (IntKind.wrap IntKind.i64 (e.2.1 * e.2.2.2.1)))), (IntKind.wrap IntKind.i64 (x.2.1.2 + (IntKind.wrap IntKind.i64 (e.2.1 * e.2.2.2.2.1))))), (((IntKind.wrap IntKind.i64 (x.2.2.1.1 + (IntKind.wrap IntKind.i64 (e.2.1 * e.2.2.2.2.2.1)))), (IntKind.wrap IntKind.i64 (x.2.2.1.2 + (IntKind.wrap IntKind.i64 (e.2.1 * e.2.2.2.2.2.2.1))))), ((IntKind.wrap IntKind.i64 (x.2.2.2.1 + (IntKind.wrap IntKind.i64 (e.2.1 * e.2.2.2.2.2.2.2.1)))), (IntKind.wrap IntKind.i64 (x.2.2.2.2 + (IntKind.wrap IntKind.i64 (e.2.1 * e.2.2.2.2.2.2.2.2.1))))))))
theorem addA_ok (A : Q7) (d : QD) : addA (u7 (w7 A)) (mkE d) = u7 (w7 (a7 A (m7 d.2.1.1 d.2.1))) := by
  have e8 : w7 (a7 A (m7 d.2.1.1 d.2.1)) = w7 (a7 (w7 A) (w7 (m7 d.2.1.1 d.2.1))) := by rw [w7b, w7a]
  rw [e8]; rfl
theorem sum7 {X D A : Q7} (h : a7 X D = A) : IntKind.wrap IntKind.i64 ((w7 X).1 + (w7 D).1) = (w7 A).1 ∧ IntKind.wrap IntKind.i64 ((w7 X).2.1 + (w7 D).2.1) = (w7 A).2.1 ∧ IntKind.wrap IntKind.i64 ((w7 X).2.2.1 + (w7 D).2.2.1) = (w7 A).2.2.1 ∧ IntKind.wrap IntKind.i64 ((w7 X).2.2.2.1 + (w7 D).2.2.2.1) = (w7 A).2.2.2.1 ∧ IntKind.wrap IntKind.i64 ((w7 X).2.2.2.2.1 + (w7 D).2.2.2.2.1) = (w7 A).2.2.2.2.1 ∧ IntKind.wrap IntKind.i64 ((w7 X).2.2.2.2.2.1 + (w7 D).2.2.2.2.2.1) = (w7 A).2.2.2.2.2.1 ∧ IntKind.wrap IntKind.i64 ((w7 X).2.2.2.2.2.2 + (w7 D).2.2.2.2.2.2) = (w7 A).2.2.2.2.2.2 := by
  subst h
  simp only [w7, a7, ww, ww2, and_self]
theorem ne0 {a b : Int} (h : a = b) : (a != b) = false := by simp [h]
theorem pileEq (x y : QP) (h : x = y) : (!((x.1 == y.1) && (((x.2.1.1 == y.2.1.1) && (x.2.1.2 == y.2.1.2)) && (((x.2.2.1.1 == y.2.2.1.1) && (x.2.2.1.2 == y.2.2.1.2)) && ((x.2.2.2.1 == y.2.2.2.1) && (x.2.2.2.2 == y.2.2.2.2)))))) = false := by
  subst h; simp
section
variable {es es' : List (QL × List Int)} {m m' : QM} {a0 a0' : Q0} {a1 a1' : Q1}
theorem keepsK_ok (F : Nat) (hF : 2000 ≤ F) (n_ : Nat) (lots lots' i nn e : Int) (r8 : Nat) (ln : Int) (db : Bool) (d : QD) (g0 : List QD) (g3 : G7) (g4 : G8) (A A' D D' : Q7) (X Y : QP) (hr : Rep es' m' a0' a1') (hs : es'.length ≤ 1000)
    (hi : 0 ≤ i ∧ i ≤ 1000)
    (hX : e ≠ 0 → X = u7 (w7 (tot es')) ∧ Y = u7 (w7 D')) (hsum : a7 (tot es') D' = A')
    (hA : e = 0 → Int.tmod d.1 3 ≠ 2 → nn = IntKind.wrap IntKind.i64 (lots + 1) ∧ lots' = IntKind.wrap IntKind.i64 (lots + 1) ∧ A' = a7 A (m7 d.2.1.1 d.2.1))
    (hB : (e ≠ 0 ∨ Int.tmod d.1 3 = 2) → lots' = lots ∧ A' = A)
    (hT : e = 0 → Int.tmod d.1 3 = 1 → inN1 nn es'.length = true ∧ (rrAt g3 d.2.2.1).length ≤ 100 ∧ (∀ y ∈ rrAt g3 d.2.2.1, inN1 y es'.length = true) ∧ ∀ x, x ∈ ancAt es' nn ↔ x ∈ rrAt g3 d.2.2.1 ∨ ∃ y ∈ rrAt g3 d.2.2.1, x ∈ ancAt es' y)
    (ih : GoodK (lKeeps_L0 F n_ lots' (i + 1) g0 g3 g4 a0' a1' (w7 D') (u7 (w7 A')) m')) :
    GoodK (keepsK F n_ ((lots, (i, (nn, (e, (r8, (ln, db)))))), (g0, (g3, (g4, (a0', (a1', (w7 D', (u7 (w7 A), (mkE d, (X, (Y, m')))))))))))) := by
  obtain ⟨c1, c2, c3, c4, c5, c6, c7⟩ := sum7 hsum
  have hsm := q_sums F (u7 (w7 D')) hr
  have k7 : ∀ (x1 x2 x3 x4 x5 x6 x7 : Int) (b : Bool) (x8 x9 : QP), GoodK (keepsK7 F n_ ((lots', (i, (r8, (ln, (db, (x1, (x2, (x3, (x4, (x5, (x6, (x7, (b, false))))))))))))), (g0, (g3, (g4, (a0', (a1', (w7 D', (u7 (w7 A'), (mkE d, (x8, (x9, m')))))))))))) := by
    intro x1 x2 x3 x4 x5 x6 x7 b x8 x9
    show GoodK (lKeeps_L0 F n_ lots' (IntKind.wrap IntKind.i64 (i + (1 : Int))) g0 g3 g4 a0' a1' (w7 D') (u7 (w7 A')) m')
    rw [w64 (i + 1) (by omega)]
    exact ih
  have k6 : GoodK (keepsK6 F n_ ((lots', (i, (nn, (e, (r8, (ln, (db, false))))))), (g0, (g3, (g4, (a0', (a1', (w7 D', (u7 (w7 A'), (mkE d, (u7 (w7 (tot es')), (u7 (w7 D'), m')))))))))))) := by
    unfold keepsK6
    show GoodK (bif false then _ else (bif (IntKind.wrap IntKind.i64 ((w7 (tot es')).2.1 + (w7 D').2.1) != (w7 A').2.1) then _ else (bif (IntKind.wrap IntKind.i64 ((w7 (tot es')).2.2.1 + (w7 D').2.2.1) != (w7 A').2.2.1) then _ else (bif (IntKind.wrap IntKind.i64 ((w7 (tot es')).2.2.2.1 + (w7 D').2.2.2.1) != (w7 A').2.2.2.1) then _ else (bif (IntKind.wrap IntKind.i64 ((w7 (tot es')).2.2.2.2.1 + (w7 D').2.2.2.2.1) != (w7 A').2.2.2.2.1) then _ else (bif (IntKind.wrap IntKind.i64 ((w7 (tot es')).2.2.2.2.2.1 + (w7 D').2.2.2.2.2.1) != (w7 A').2.2.2.2.2.1) then _ else (bif (IntKind.wrap IntKind.i64 ((w7 (tot es')).2.2.2.2.2.2 + (w7 D').2.2.2.2.2.2) != (w7 A').2.2.2.2.2.2) then _ else (ob (bif (e == (0 : Int)) then (bif ((Int.tmod d.1 (3 : Int)) == (1 : Int)) then (ob (traced_S F nn d.2.2.1 (u7 (w7 D')) m' a0' a1' g3) _) else _) else _) _))))))))
    rw [ne0 c2, ne0 c3, ne0 c4, ne0 c5, ne0 c6, ne0 c7]
    simp only [cond_false]
    by_cases he : e = 0
    · rw [show (e == (0 : Int)) = true by simpa using he, cond_true]
      by_cases hk : Int.tmod d.1 3 = 1
      · obtain ⟨t1, t2, t3, t4⟩ := hT he hk
        rw [show (Int.tmod d.1 (3 : Int) == (1 : Int)) = true by simpa using hk, cond_true, q_traced F hF hr hs nn t1 d.2.2.1 g3 (w7 D') t2 t3 t4]
        exact k7 _ _ _ _ _ _ _ _ _ _
      · rw [show (Int.tmod d.1 (3 : Int) == (1 : Int)) = false by simpa using hk, cond_false]
        exact k7 _ _ _ _ _ _ _ _ _ _
    · rw [show (e == (0 : Int)) = false by simpa using he, cond_false]
      exact k7 _ _ _ _ _ _ _ _ _ _
  have k5 : GoodK (keepsK5 F n_ ((lots', (i, (nn, (e, (r8, (ln, db)))))), (g0, (g3, (g4, (a0', (a1', (w7 D', (u7 (w7 A'), (mkE d, (X, (Y, m')))))))))))) := by
    unfold keepsK5
    show GoodK (ob (sums_S F (u7 (w7 D')) m' a0' a1') _)
    rw [hsm]
    have last : (IntKind.wrap IntKind.i64 ((w7 (tot es')).1 + (w7 D').1) != (w7 A').1) = false := ne0 c1
    by_cases he : e = 0
    · show GoodK (ob (bif (e != (0 : Int)) then _ else (some ((lots', (i, (nn, (e, (r8, (ln, (db, (IntKind.wrap IntKind.i64 ((w7 (tot es')).1 + (w7 D').1) != (w7 A').1)))))))), _))) (keepsK6 F n_))
      rw [show (e != (0 : Int)) = false by simpa using he, cond_false, last]
      exact k6
    · obtain ⟨hX1, hY1⟩ := hX he
      subst hX1; subst hY1
      have p1 := pileEq (u7 (w7 (tot es'))) (u7 (w7 (tot es'))) rfl
      have p2 := pileEq (u7 (w7 D')) (u7 (w7 D')) rfl
      show GoodK (ob (bif (e != (0 : Int)) then (bif (!(((u7 (w7 (tot es'))).1 == (u7 (w7 (tot es'))).1) && ((((u7 (w7 (tot es'))).2.1.1 == (u7 (w7 (tot es'))).2.1.1) && ((u7 (w7 (tot es'))).2.1.2 == (u7 (w7 (tot es'))).2.1.2)) && ((((u7 (w7 (tot es'))).2.2.1.1 == (u7 (w7 (tot es'))).2.2.1.1) && ((u7 (w7 (tot es'))).2.2.1.2 == (u7 (w7 (tot es'))).2.2.1.2)) && (((u7 (w7 (tot es'))).2.2.2.1 == (u7 (w7 (tot es'))).2.2.2.1) && ((u7 (w7 (tot es'))).2.2.2.2 == (u7 (w7 (tot es'))).2.2.2.2)))))) then _ else (bif (!(((u7 (w7 D')).1 == (u7 (w7 D')).1) && ((((u7 (w7 D')).2.1.1 == (u7 (w7 D')).2.1.1) && ((u7 (w7 D')).2.1.2 == (u7 (w7 D')).2.1.2)) && ((((u7 (w7 D')).2.2.1.1 == (u7 (w7 D')).2.2.1.1) && ((u7 (w7 D')).2.2.1.2 == (u7 (w7 D')).2.2.1.2)) && (((u7 (w7 D')).2.2.2.1 == (u7 (w7 D')).2.2.2.1) && ((u7 (w7 D')).2.2.2.2 == (u7 (w7 D')).2.2.2.2)))))) then _ else (some ((lots', (i, (nn, (e, (r8, (ln, (db, (IntKind.wrap IntKind.i64 ((w7 (tot es')).1 + (w7 D').1) != (w7 A').1)))))))), _)))) else _) (keepsK6 F n_))
      rw [show (e != (0 : Int)) = true by simpa using he, cond_true, p1, p2, cond_false, cond_false, last]
      exact k6
  unfold keepsK
  by_cases he : e = 0
  · by_cases hk : Int.tmod d.1 3 = 2
    · obtain ⟨hl, hA1⟩ := hB (.inr hk)
      rw [hl, hA1] at k5
      show GoodK (ob (ob (bif (e == (0 : Int)) then (some ((lots, (i, (nn, (e, (r8, (ln, (db, ((Int.tmod d.1 (3 : Int)) != (2 : Int))))))))), _)) else _) _) _)
      rw [show (e == (0 : Int)) = true by simpa using he, cond_true, show ((Int.tmod d.1 (3 : Int)) != (2 : Int)) = false by simpa using hk]
      exact k5
    · obtain ⟨hn, hl, hA1⟩ := hA he hk
      show GoodK (ob (ob (bif (e == (0 : Int)) then (some ((lots, (i, (nn, (e, (r8, (ln, (db, ((Int.tmod d.1 (3 : Int)) != (2 : Int))))))))), _)) else _) _) _)
      rw [show (e == (0 : Int)) = true by simpa using he, cond_true, show ((Int.tmod d.1 (3 : Int)) != (2 : Int)) = true by simpa using hk]
      show GoodK (ob (bif (nn != (IntKind.wrap IntKind.i64 (lots + (1 : Int)))) then _ else (some (Sum.inr (α := Bool × (List QD × (G7 × (G8 × (Q0 × Q1))))) (((IntKind.wrap IntKind.i64 (lots + (1 : Int))), (i, (nn, (e, (r8, (ln, db)))))), (g0, (g3, (g4, (a0', (a1', (w7 D', (addA (u7 (w7 A)) (mkE d), (mkE d, (X, (Y, m')))))))))))))) _)
      rw [ne0 hn, cond_false, addA_ok, ← hA1, ← hl]
      exact k5
  · obtain ⟨hl, hA1⟩ := hB (.inl he)
    rw [hl, hA1] at k5
    show GoodK (ob (ob (bif (e == (0 : Int)) then _ else (some ((lots, (i, (nn, (e, (r8, (ln, (db, false))))))), _))) _) _)
    rw [show (e == (0 : Int)) = false by simpa using he, cond_false]
    exact k5
end
end
end Go.Proofs.Ythmicafabimfkaa


namespace Go.Proofs.Ythmicafabimfkaa
open Go.RowKit
set_option maxRecDepth 100000
abbrev dQD : QD := (TC.dflt (TC.pair (TC.int IntKind.u8) (TC.pair (TC.pair (TC.int IntKind.i64) (TC.pair (TC.int IntKind.i64) (TC.pair (TC.pair (TC.pair (TC.int IntKind.i64) (TC.int IntKind.i64)) (TC.pair (TC.pair (TC.int IntKind.i64) (TC.int IntKind.i64)) (TC.pair (TC.int IntKind.i64) (TC.int IntKind.i64)))) (TC.int IntKind.i64)))) (TC.pair (TC.rf 1 7) (TC.pair (TC.rf 1 8) (TC.int IntKind.i64))))))
theorem q_ints (F r : Nat) (g : G7) (h : (rrAt g r).length ≤ 1000) : intsR_S F r g = some (rrAt g r) := by
  unfold intsR_S
  have : lenOk 0 (rrAt g r).length = true := by simp [lenOk]; omega
  simp only [cond_false, this, cond_true, List.nil_append]
theorem tot_app : ∀ (es : List (QL × List Int)) (e : QL × List Int), tot (es ++ [e]) = a7 (tot es) (m7 e.1.1 e.1)
  | [], e => by
    show a7 (m7 e.1.1 e.1) z7 = a7 z7 (m7 e.1.1 e.1)
    rw [a7c]
  | x :: es, e => by
    show a7 (m7 x.1.1 x.1) (tot (es ++ [e])) = a7 (a7 (m7 x.1.1 x.1) (tot es)) (m7 e.1.1 e.1)
    rw [tot_app es e, a7s]
theorem tot_set : ∀ (es : List (QL × List Int)) (k : Nat) (e0 e : QL × List Int), es[k]? = some e0 → a7 (tot (es.set k e)) (m7 e0.1.1 e0.1) = a7 (tot es) (m7 e.1.1 e.1)
  | [], k, _, _, h => by simp at h
  | x :: es, 0, e0, e, h => by
    simp only [List.getElem?_cons_zero, Option.some.injEq] at h
    subst h
    show a7 (a7 (m7 e.1.1 e.1) (tot es)) (m7 x.1.1 x.1) = a7 (a7 (m7 x.1.1 x.1) (tot es)) (m7 e.1.1 e.1)
    rw [a7c (a7 (m7 e.1.1 e.1) (tot es)), a7s, a7c (m7 e.1.1 e.1)]
  | x :: es, k + 1, e0, e, h => by
    have ih := tot_set es k e0 e (by simpa using h)
    show a7 (a7 (m7 x.1.1 x.1) (tot (es.set k e))) (m7 e0.1.1 e0.1) = a7 (a7 (m7 x.1.1 x.1) (tot es)) (m7 e.1.1 e.1)
    rw [a7s, a7s, ih]
theorem a7_left {x y z : Q7} (h : a7 x z = a7 y z) : x = y := by
  simp only [a7, Prod.mk.injEq] at h
  obtain ⟨h1, h2, h3, h4, h5, h6, h7⟩ := h
  refine Prod.ext ?_ (Prod.ext ?_ (Prod.ext ?_ (Prod.ext ?_ (Prod.ext ?_ (Prod.ext ?_ ?_)))))
  all_goals omega
theorem m7_sub (c n : Int) (l : QL) : a7 (m7 (c - n) l) (m7 n l) = m7 c l := by
  simp only [a7, m7, Int.sub_mul, Int.sub_add_cancel]
theorem tot_take {es : List (QL × List Int)} {p : Int × Int} (hp : inN1 p.1 es.length = true) : a7 (tot (qtake es p)) (m7 p.2 (lotAt es p.1)) = tot es := by
  have h := tot_set es (p.1.toNat - 1) _ (((lotAt es p.1).1 - p.2, (lotAt es p.1).2), ancAt es p.1) (lot_get hp)
  have e1 : m7 ((lotAt es p.1).1 - p.2) ((lotAt es p.1).1 - p.2, (lotAt es p.1).2) = m7 ((lotAt es p.1).1 - p.2) (lotAt es p.1) := rfl
  change a7 (tot (qtake es p)) (m7 (lotAt es p.1).1 (lotAt es p.1)) = a7 (tot es) (m7 ((lotAt es p.1).1 - p.2) ((lotAt es p.1).1 - p.2, (lotAt es p.1).2)) at h
  rw [e1, ← m7_sub (lotAt es p.1).1 p.2 (lotAt es p.1), a7c (m7 _ _), ← a7s] at h
  exact a7_left h
theorem drawn_take {es : List (QL × List Int)} {p : Int × Int} (hp : inN1 p.1 es.length = true) : ∀ (ps : List (Int × Int)) (D : Q7), drawn (qtake es p) D ps = drawn es D ps
  | [], _ => rfl
  | q :: ps, D => by
    show drawn (qtake es p) (a7 D (m7 q.2 (lotAt (qtake es p) q.1))) ps = drawn es (a7 D (m7 q.2 (lotAt es q.1))) ps
    rw [drawn_take hp ps]
    have : m7 q.2 (lotAt (qtake es p) q.1) = m7 q.2 (lotAt es q.1) := by
      unfold m7; rw [take_lot2 hp]
    rw [this]
theorem tot_takes : ∀ (ps : List (Int × Int)) (es : List (QL × List Int)) (seen : List Int) (D : Q7), qdr es seen ps = 0 → a7 (tot (takes es ps)) (drawn es D ps) = a7 (tot es) D
  | [], _, _, _, _ => rfl
  | p :: ps, es, seen, D, h => by
    obtain ⟨hp, _, _, _, h5⟩ := qdr_cons h
    have ih := tot_takes ps (qtake es p) (insS p.1 seen) (a7 D (m7 p.2 (lotAt es p.1))) (qdr_take hp ps _ ((insS_mem _ _ _).2 (.inl rfl)) h5)
    rw [drawn_take hp] at ih
    show a7 (tot (takes (qtake es p) ps)) (drawn es (a7 D (m7 p.2 (lotAt es p.1))) ps) = _
    rw [ih, a7c D, ← a7s, tot_take hp]
theorem qret_ok {es : List (QL × List Int)} : ∀ (ps pre acc s : List Int), qret es pre acc ps = .inr s → acc.Pairwise (· < ·) → s.Pairwise (· < ·) ∧ (∀ y ∈ ps, inN1 y es.length = true) ∧ ∀ x, x ∈ s ↔ x ∈ acc ∨ x ∈ ps ∨ ∃ y ∈ ps, x ∈ ancAt es y
  | [], pre, acc, s, h, ha => by
    simp only [qret, Sum.inr.injEq] at h
    subst h
    exact ⟨ha, by simp, by simp⟩
  | p :: ps, pre, acc, s, h, ha => by
    simp only [qret] at h
    cases hp : inN1 p es.length with
    | false => rw [hp] at h; cases h
    | true =>
      rw [hp] at h
      simp only [Bool.not_true, cond_false] at h
      by_cases h1 : p ∈ pre
      · rw [decide_eq_true h1] at h; cases h
      · rw [decide_eq_false h1, cond_false] at h
        obtain ⟨i1, i2, i3⟩ := qret_ok ps _ _ s h (uniS_srt _ (insS_srt p ha))
        refine ⟨i1, ?_, fun x => ?_⟩
        · intro y hy
          rcases List.mem_cons.1 hy with rfl | hy
          · exact hp
          · exact i2 y hy
        · rw [i3, uniS_mem, insS_mem]
          constructor
          · rintro (((rfl | h) | h) | h | ⟨y, h, h2⟩)
            · exact .inr (.inl (by simp))
            · exact .inl h
            · exact .inr (.inr ⟨p, by simp, h⟩)
            · exact .inr (.inl (by simp [h]))
            · exact .inr (.inr ⟨y, by simp [h], h2⟩)
          · rintro (h | h | ⟨y, h, h2⟩)
            · exact .inl (.inl (.inr h))
            · rcases List.mem_cons.1 h with rfl | h
              · exact .inl (.inl (.inl rfl))
              · exact .inr (.inl h)
            · rcases List.mem_cons.1 h with rfl | h
              · exact .inl (.inr h2)
              · exact .inr (.inr ⟨y, h, h2⟩)
section
variable {es : List (QL × List Int)} {m : QM} {a0 : Q0} {a1 : Q1}
theorem okL_cnt {l : QL} (h : okL l = true) : 0 ≤ l.1 ∧ l.1 ≤ 1000 := by
  simp only [okL, qLot, Bool.and_eq_true, decide_eq_true_eq] at h
  omega
theorem Cnt.app {es : List (QL × List Int)} (hc : Cnt es) {e : QL × List Int} (h : okL e.1 = true) : Cnt (es ++ [e]) := by
  intro x hx
  rcases List.mem_append.1 hx with hx | hx
  · exact hc x hx
  · rw [List.mem_singleton] at hx
    rw [hx]; exact okL_cnt h
theorem anc_old (e : QL × List Int) {y : Int} (hy : inN1 y es.length = true) : ancAt (es ++ [e]) y = ancAt es y := by
  have := inN1_iff.1 hy
  simp only [ancAt]
  rw [List.getElem?_append_left (by omega)]
theorem anc_new (e : QL × List Int) : ancAt (es ++ [e]) ((es.length : Int) + 1) = e.2 := by
  have : ((es.length : Int) + 1).toNat - 1 = es.length := by omega
  simp only [ancAt, this]
  simp
/-- A lot that was made of others is put in. -/
theorem ret_ok (h : Rep es m a0 a1) {l : QL} {ps s : List Int} (hq : qRet es l ps = .inr s) : okL l = true ∧ Rep (es ++ [(l, s)]) (qmf 0 (es.length + 1)) (a0 ++ [(l, a1.length + 1)]) (a1 ++ [some (anc1 s)]) ∧
    (∀ y ∈ ps, inN1 y es.length = true) ∧ ∀ x, x ∈ s ↔ x ∈ ps ∨ ∃ y ∈ ps, x ∈ ancAt es y := by
  unfold qRet at hq
  cases ho : okL l with
  | false => rw [ho] at hq; cases hq
  | true =>
    rw [ho, cond_true] at hq
    cases hd : decide ((ps.length : Int) > (10 : Int)) with
    | true => rw [hd] at hq; cases hq
    | false =>
      rw [hd, cond_false] at hq
      obtain ⟨i1, i2, i3⟩ := qret_ok ps [] [] s hq List.Pairwise.nil
      have i3' : ∀ x, x ∈ s ↔ x ∈ ps ∨ ∃ y ∈ ps, x ∈ ancAt es y := fun x => by rw [i3]; simp
      refine ⟨rfl, h.add l s _ _ (fun j x hx => ?_) (.inr ⟨a1.length, rfl, by simp⟩) i1 (fun x hx => ?_), i2, i3'⟩
      · rw [List.getElem?_append_left (List.getElem?_eq_some_iff.1 hx).1]; exact hx
      · rcases (i3' x).1 hx with h1 | ⟨y, h1, h2⟩
        · exact inN1_iff.1 (i2 x h1)
        · have := (h.anc (i2 y h1)).2 x h2
          have := inN1_iff.1 (i2 y h1)
          omega
theorem qret_ne {es : List (QL × List Int)} : ∀ (ps pre acc : List Int) (e : Int), qret es pre acc ps = .inl e → e ≠ 0
  | [], _, _, _, h => by simp [qret] at h
  | p :: ps, pre, acc, e, h => by
    simp only [qret] at h
    cases hp : inN1 p es.length with
    | false =>
      rw [hp] at h
      simp only [Bool.not_false, cond_true, Sum.inl.injEq] at h
      omega
    | true =>
      rw [hp] at h
      simp only [Bool.not_true, cond_false] at h
      by_cases h1 : p ∈ pre
      · rw [decide_eq_true h1] at h
        simp only [cond_true, Sum.inl.injEq] at h
        omega
      · rw [decide_eq_false h1, cond_false] at h
        exact qret_ne ps _ _ e h
theorem qRet_ne {es : List (QL × List Int)} {l : QL} {ps : List Int} {e : Int} (h : qRet es l ps = .inl e) : e ≠ 0 := by
  unfold qRet at h
  cases ho : okL l with
  | false =>
    rw [ho] at h
    simp only [cond_false, Sum.inl.injEq] at h
    omega
  | true =>
    rw [ho, cond_true] at h
    cases hd : decide ((ps.length : Int) > (10 : Int)) with
    | true =>
      rw [hd] at h
      simp only [cond_true, Sum.inl.injEq] at h
      omega
    | false =>
      rw [hd, cond_false] at h
      exact qret_ne ps _ _ e h
theorem keeps_loop (F : Nat) (hF : 2000 ≤ F) (g0 : List QD) (g3 : G7) (g4 : G8) (hg : g0.length ≤ 40) (hk : ∀ d ∈ g0, 0 ≤ d.1) : ∀ (k i n : Nat) (es : List (QL × List Int)) (m : QM) (a0 : Q0) (a1 : Q1) (D A : Q7), i + k = g0.length → k < n → Rep es m a0 a1 → es.length ≤ i → Cnt es → a7 (tot es) D = A →
    GoodK (lKeeps_L0 F n (es.length : Int) (i : Int) g0 g3 g4 a0 a1 (w7 D) (u7 (w7 A)) m)
  | _, _, 0, _, _, _, _, _, _, _, h, _, _, _, _ => absurd h (Nat.not_lt_zero _)
  | 0, i, n + 1, es, m, a0, a1, D, A, e, _, _, _, _, _ => by
    unfold lKeeps_L0
    rw [decide_eq_false (show ¬ ((i : Int) < (g0.length : Int) - 0) by omega), cond_false]
    exact ⟨_, rfl, trivial⟩
  | k + 1, i, n + 1, es, m, a0, a1, D, A, e, hn, h, hs, hc, ht => by
    have hil : i < g0.length := by omega
    have hb : inB (i : Int) (g0.length - 0) = true := by simp [inB]; omega
    obtain ⟨d, hd⟩ : ∃ d, nth g0 dQD ((i : Int)).toNat = d := ⟨_, rfl⟩
    have hdm : d ∈ g0 := by
      rw [← hd, show ((i : Int)).toNat = i from rfl, ← nth_eq g0 _ i hil]; exact List.getElem_mem hil
    have hd0 := hk d hdm
    have ih := fun es' m' a0' a1' D' A' => keeps_loop F hF g0 g3 g4 hg hk k (i + 1) n es' m' a0' a1' D' A' (by omega) (by omega)
    have hsm := q_sums F (u7 (w7 D)) h
    unfold lKeeps_L0
    rw [decide_eq_true (show (i : Int) < (g0.length : Int) - 0 by omega), cond_true, hb, cond_true, hd]
    show GoodK (bif (decide (((rrAt g3 d.2.2.1).length : Int) > (15 : Int))) then _ else (bif (decide (((rrAt g4 d.2.2.2.1).length : Int) > (15 : Int))) then _ else (ob (sums_S F (u7 (w7 D)) m a0 a1) _)))
    rw [hsm]
    by_cases h7 : ((rrAt g3 d.2.2.1).length : Int) > 15
    · rw [decide_eq_true h7]; exact ⟨_, rfl, rfl⟩
    rw [decide_eq_false h7, cond_false]
    by_cases h8 : ((rrAt g4 d.2.2.2.1).length : Int) > 15
    · rw [decide_eq_true h8]; exact ⟨_, rfl, rfl⟩
    rw [decide_eq_false h8, cond_false]
    have h15 : decide (((rrAt g4 d.2.2.2.1).length : Int) > (15 : Int)) = false := decide_eq_false h8
    show GoodK (ob (bif ((Int.tmod d.1 (3 : Int)) == (0 : Int)) then (ob (receive_S F d.2.1 (u7 (w7 D)) m a0 a1) (fun r1 => (some (((es.length : Int), ((i : Int), (r1.1.1, (r1.1.2, (d.2.2.2.1, (((rrAt g4 d.2.2.2.1).length : Int), false)))))), (g0, (g3, (g4, (r1.2.2.2.1, (r1.2.2.2.2, (r1.2.1, (u7 (w7 A), (mkE d, (u7 (w7 (tot es)), (u7 (w7 D), r1.2.2.1))))))))))))) ) else (bif ((Int.tmod d.1 (3 : Int)) == (1 : Int)) then (ob (intsR_S F d.2.2.1 g3) (fun r2 => (ob (sReturn_S F d.2.1 (u7 (w7 D)) m r2 a0 a1) (fun r3 => (some (((es.length : Int), ((i : Int), (r3.1.1, (r3.1.2, (d.2.2.2.1, (((rrAt g4 d.2.2.2.1).length : Int), false)))))), (g0, (g3, (g4, (r3.2.2.2.1, (r3.2.2.2.2, (r3.2.1, (u7 (w7 A), (mkE d, (u7 (w7 (tot es)), (u7 (w7 D), r3.2.2.1)))))))))))))))) else (bif (lenOk 0 (rrAt g4 d.2.2.2.1).length) then (ob (sDraw_S F (u7 (w7 D)) m (rrAt g4 d.2.2.2.1) a0 a1) (fun r4 => (some (((es.length : Int), ((i : Int), ((0 : Int), (r4.1, (d.2.2.2.1, (((rrAt g4 d.2.2.2.1).length : Int), false)))))), (g0, (g3, (g4, (r4.2.2.2.1, (r4.2.2.2.2, (r4.2.1, (u7 (w7 A), (mkE d, (u7 (w7 (tot es)), (u7 (w7 D), r4.2.2.1)))))))))))))) else none))) (keepsK F n))
    have hk3 : Int.tmod d.1 3 = 0 ∨ Int.tmod d.1 3 = 1 ∨ Int.tmod d.1 3 = 2 := by
      rw [Int.tmod_eq_emod_of_nonneg hd0]; omega
    have hes : es.length < 200 := by omega
    have u0 : u7 (w7 D) = u7 (w7 D) := rfl
    have same : ∀ e : Int, e ≠ 0 → ∀ nn : Int, GoodK (keepsK F n (((es.length : Int), ((i : Int), (nn, (e, (d.2.2.2.1, (((rrAt g4 d.2.2.2.1).length : Int), false)))))), (g0, (g3, (g4, (a0, (a1, (w7 D, (u7 (w7 A), (mkE d, (u7 (w7 (tot es)), (u7 (w7 D), m)))))))))))) := by
      intro e he nn
      exact keepsK_ok F hF n _ (es.length : Int) (i : Int) nn e _ _ _ d g0 g3 g4 A A D D _ _ h (by omega) (by omega) (fun _ => ⟨rfl, rfl⟩) ht (fun h0 => absurd h0 he) (fun _ => ⟨rfl, rfl⟩) (fun h0 => absurd h0 he) (ih es m a0 a1 D A h (by omega) hc ht)
    have wl : IntKind.wrap IntKind.i64 ((es.length : Int) + 1) = (es.length : Int) + 1 := w64 _ (by omega)
    have put : ∀ (s : List Int) (r : Nat) (a1' : Q1), okL d.2.1 = true → Rep (es ++ [(d.2.1, s)]) (qmf 0 (es.length + 1)) (a0 ++ [(d.2.1, r)]) a1' → Int.tmod d.1 3 ≠ 2 → (Int.tmod d.1 3 = 1 → (∀ y ∈ rrAt g3 d.2.2.1, inN1 y es.length = true) ∧ ∀ x, x ∈ s ↔ x ∈ rrAt g3 d.2.2.1 ∨ ∃ y ∈ rrAt g3 d.2.2.1, x ∈ ancAt es y) →
        GoodK (keepsK F n (((es.length : Int), ((i : Int), (((es.length : Int) + 1), (0, (d.2.2.2.1, (((rrAt g4 d.2.2.2.1).length : Int), false)))))), (g0, (g3, (g4, (a0 ++ [(d.2.1, r)], (a1', (w7 D, (u7 (w7 A), (mkE d, (u7 (w7 (tot es)), (u7 (w7 D), qmf 0 (es.length + 1))))))))))))) := by
      intro s r a1' ho hr hk2 h1
      have hl : (es ++ [(d.2.1, s)]).length = es.length + 1 := by simp
      have ht' : a7 (tot (es ++ [(d.2.1, s)])) D = a7 A (m7 d.2.1.1 d.2.1) := by
        rw [tot_app, a7s, a7c (m7 _ _), ← a7s, ht]
      have ih' := ih _ _ _ a1' D _ hr (by rw [hl]; omega) (hc.app (e := (d.2.1, s)) ho) ht'
      rw [hl, show ((es.length + 1 : Nat) : Int) = (es.length : Int) + 1 by omega] at ih'
      exact keepsK_ok F hF n _ ((es.length : Int) + 1) (i : Int) _ 0 _ _ _ d g0 g3 g4 A (a7 A (m7 d.2.1.1 d.2.1)) D D _ _ hr (by rw [hl]; omega) (by omega) (fun h0 => absurd rfl h0) ht' (fun _ _ => ⟨wl.symm, wl.symm, rfl⟩) (fun h0 => h0.elim (fun h0 => absurd rfl h0) (fun h0 => absurd h0 hk2)) (fun _ h0 => by
        obtain ⟨i1, i2⟩ := h1 h0
        refine ⟨inN1_iff.2 (by rw [hl]; omega), by omega, fun y hy => ?_, fun x => ?_⟩
        · have := inN1_iff.1 (i1 y hy)
          exact inN1_iff.2 (by rw [hl]; omega)
        · rw [anc_new]
          show x ∈ s ↔ _
          rw [i2]
          refine or_congr Iff.rfl ⟨fun ⟨y, h1, h2⟩ => ⟨y, h1, by rw [anc_old _ (i1 y h1)]; exact h2⟩, fun ⟨y, h1, h2⟩ => ⟨y, h1, by rw [anc_old _ (i1 y h1)] at h2; exact h2⟩⟩) ih'
    rcases hk3 with hk0 | hk1 | hk2
    · rw [hk0]
      show GoodK (ob (ob (receive_S F d.2.1 (u7 (w7 D)) m a0 a1) _) (keepsK F n))
      rw [q_receive F d.2.1 (u7 (w7 D)) h hes]
      cases ho : okL d.2.1 with
      | false => exact same 2 (by decide) 0
      | true => exact put [] 0 a1 ho (h.add d.2.1 [] 0 a1 (fun _ _ h => h) (.inl ⟨rfl, rfl⟩) List.Pairwise.nil (by simp)) (by omega) (fun h0 => by omega)
    · rw [hk1]
      show GoodK (ob (ob (intsR_S F d.2.2.1 g3) _) (keepsK F n))
      rw [q_ints F _ _ (by omega)]
      show GoodK (ob (ob (sReturn_S F d.2.1 (u7 (w7 D)) m (rrAt g3 d.2.2.1) a0 a1) _) (keepsK F n))
      rw [q_return F (by omega) d.2.1 (u7 (w7 D)) (rrAt g3 d.2.2.1) (by omega) h hes]
      cases hq : qRet es d.2.1 (rrAt g3 d.2.2.1) with
      | inl e =>
        have he : e ≠ 0 := by
          intro h0
          subst h0
          exact qRet_ne hq rfl
        exact same e he 0
      | inr s =>
        obtain ⟨r1, r2, r3, r4⟩ := ret_ok h hq
        exact put s (a1.length + 1) _ r1 r2 (by omega) (fun _ => ⟨r3, r4⟩)
    · rw [hk2]
      have hlk : lenOk 0 (rrAt g4 d.2.2.2.1).length = true := by simp [lenOk]; omega
      show GoodK (ob (bif (lenOk 0 (rrAt g4 d.2.2.2.1).length) then (ob (sDraw_S F (u7 (w7 D)) m (rrAt g4 d.2.2.2.1) a0 a1) _) else none) (keepsK F n))
      rw [hlk, cond_true]
      rcases q_draw F (by omega) D (rrAt g4 d.2.2.2.1) (by omega) h (by omega) hc with ⟨q1, q2⟩ | ⟨q1, a0', q2, q3, q4⟩
      · rw [q2]
        exact same _ q1 0
      · rw [q2]
        have ht' : a7 (tot (takes es (rrAt g4 d.2.2.2.1))) (drawn es D (rrAt g4 d.2.2.2.1)) = A := by
          rw [tot_takes _ es [] D q1, ht]
        have ih' := ih _ _ _ _ _ _ q3 (by rw [takes_len]; omega) q4 ht'
        rw [takes_len] at ih'
        exact keepsK_ok F hF n _ (es.length : Int) (i : Int) 0 0 _ _ _ d g0 g3 g4 A A D _ _ _ q3 (by rw [takes_len]; omega) (by omega) (fun h0 => absurd rfl h0) ht' (fun _ h0 => absurd hk2 h0) (fun _ => ⟨rfl, rfl⟩) (fun _ h0 => by omega) ih'
/-- The law. -/
theorem keeps_law (F : Nat) (hF : 2000 ≤ F) (l : List QD) (g3 : G7) (g4 : G8) (hk : ∀ d ∈ l, 0 ≤ d.1) : ∃ x, lKeeps_S F l [] [] g3 g4 = some (true, x) := by
  unfold lKeeps_S
  by_cases hl : ((l.length : Int) - 0) > 40
  · rw [decide_eq_true hl]; exact ⟨_, rfl⟩
  · rw [decide_eq_false hl, cond_false]
    obtain ⟨x, h1, h2⟩ := keeps_loop F hF l g3 g4 (by omega) hk l.length 0 F [] [] [] [] z7 z7 (by omega) (by omega) Rep.nil (Nat.le_refl _) (by intro e he; cases he) (a7z z7)
    change lKeeps_L0 F F (0 : Int) (0 : Int) l g3 g4 [] [] ((0 : Int), ((0 : Int), ((0 : Int), ((0 : Int), ((0 : Int), ((0 : Int), (0 : Int))))))) ((0 : Int), (((0 : Int), (0 : Int)), (((0 : Int), (0 : Int)), ((0 : Int), (0 : Int))))) [] = _ at h1
    rw [h1]
    cases x with
    | inl y => exact ⟨_, congrArg some (Prod.ext h2 rfl)⟩
    | inr y => exact ⟨_, rfl⟩
end
end Go.Proofs.Ythmicafabimfkaa
