/- The plain law of TopLengths. No condition. -/
import Derived.Test.YtdcekiigkplmgaaWLK5
namespace Go.Proofs.Ytdcekiigkplmgaa
open Go.RowKit
set_option maxRecDepth 100000
theorem len_L0 (F : Nat) (l : List BkT) (T : List Int) (s : SwC) (c : CkT) (hl : l.length ≤ 20) : ∀ (j k i : Nat), i + j = l.length → j < k → (∀ q, q < i → 1 ≤ lnS l q ∧ lnS l q ≤ 200) →
    lengths_L0 F l T s c k (sm (lnS l) i) i = some (.inl (true, (l, T))) ∨ (lengths_L0 F l T s c k (sm (lnS l) i) i = some (.inr (sm (lnS l) l.length, (l, T, s, c))) ∧ ∀ q, q < l.length → 1 ≤ lnS l q ∧ lnS l q ≤ 200)
  | j, 0, i, _, hk, _ => by omega
  | 0, k + 1, i, hi, _, h => by
    refine .inr ⟨?_, fun q hq => h q (by omega)⟩
    show (bif decide ((i : Int) < (l.length : Int) - 0) then _ else _) = _
    rw [dec_f (by omega), show l.length = i by omega]; rfl
  | j + 1, k + 1, i, hi, hk, h => by
    have e1 : IntKind.wrap IntKind.i64 ((i : Int) + 1) = ((i + 1 : Nat) : Int) := by rw [w64 _ (by omega)]; omega
    have hsm := sm_range (lnS l) 200 i fun x hx => by have := h x hx; omega
    have key : lengths_L0 F l T s c (k + 1) (sm (lnS l) i) i = (bif decide (lnS l i < 1) then some (.inl (true, (l, T))) else (bif decide (lnS l i > 200) then some (.inl (true, (l, T))) else lengths_L0 F l T s c k (IntKind.wrap IntKind.i64 (sm (lnS l) i + lnS l i)) ((i + 1 : Nat) : Int))) := by
      show (bif decide ((i : Int) < (l.length : Int) - 0) then (bif inB (i : Int) (l.length - 0) then (bif decide (lnS l i < 1) then some (.inl (true, (l, T))) else (bif inB (i : Int) (l.length - 0) then (bif decide (lnS l i > 200) then some (.inl (true, (l, T))) else (bif inB (i : Int) (l.length - 0) then lengths_L0 F l T s c k (IntKind.wrap IntKind.i64 (sm (lnS l) i + lnS l i)) (IntKind.wrap IntKind.i64 ((i : Int) + 1)) else none)) else none)) else none) else _) = _
      rw [dec_t (by omega), inB_t (show i < l.length - 0 by omega), e1]
      rfl
    rw [key]
    by_cases h1 : lnS l i < 1
    · rw [dec_t h1]; exact .inl rfl
    by_cases h2 : lnS l i > 200
    · rw [dec_f h1, dec_t h2]; exact .inl rfl
    rw [dec_f h1, dec_f h2, w64 _ (by omega)]
    exact len_L0 F l T s c hl j k (i + 1) (by omega) (by omega) fun q hq => by
      by_cases hqi : q < i
      · exact h q hqi
      · rw [show q = i by omega]; omega
theorem len_L1 (F : Nat) (hF : 2000 < F) (N : Int) (l : List BkT) (T : List Int) (hT : ∀ x ∈ T, 0 ≤ x ∧ x ≤ 255) (w : WrT) (b : WbT) {bl : List BkT} (hb : bl.length ≤ 1000) (hx : ∀ q, q < bl.length → (0 ≤ (nth bl b0 q).1 ∧ (nth bl b0 q).1 ≤ 1000) ∧ (0 ≤ (nth bl b0 q).2 ∧ (nth bl b0 q).2 ≤ 1000) ∧ 0 ≤ lnB bl q) (A : Int) (hA : -1000000000000 ≤ A ∧ A ≤ 1000000000000) :
    ∀ (j k i : Nat), i + j = bl.length → j < k →
    lengths_L1 F N l T (w.1.1, (w.1.2, (w.2.1.1, (w.2.1.2, (w.2.2, b))))) bl k (A + sm (lnB bl) i * 1000000) i = some (.inl (true, (l, T))) ∨ lengths_L1 F N l T (w.1.1, (w.1.2, (w.2.1.1, (w.2.1.2, (w.2.2, b))))) bl k (A + sm (lnB bl) i * 1000000) i = some (.inr ((N, A + sm (lnB bl) bl.length * 1000000), (l, T)))
  | j, 0, i, _, hk => by omega
  | 0, k + 1, i, hi, _ => by
    refine .inr ?_
    show (bif decide ((i : Int) < (bl.length : Int) - 0) then _ else _) = _
    rw [dec_f (by omega), show bl.length = i by omega]; rfl
  | j + 1, k + 1, i, hi, hk => by
    have e1 : IntKind.wrap IntKind.i64 ((i : Int) + 1) = ((i + 1 : Nat) : Int) := by rw [w64 _ (by omega)]; omega
    have hxi := hx i (by omega)
    have hsm := sm_range (lnB bl) 1000 i fun x hq => by have := hx x (by omega); unfold lnB at *; omega
    have en : IntKind.wrap IntKind.i64 (IntKind.wrap IntKind.i64 ((nth bl b0 i).2 - (nth bl b0 i).1) * 1000000) = lnB bl i * 1000000 := by
      rw [w64 ((nth bl b0 i).2 - _) (by omega), w64 _ (by omega)]; rfl
    have key : lengths_L1 F N l T (w.1.1, (w.1.2, (w.2.1.1, (w.2.1.2, (w.2.2, b))))) bl (k + 1) (A + sm (lnB bl) i * 1000000) i =
        ob (followed_S F (w, b) (lnB bl i * 1000000) T) (fun r2 => bif !r2.1.2 then (bif inB (i : Int) (bl.length - 0) then (bif inB (i : Int) (bl.length - 0) then ob (check_S F w b (lnB bl i * 1000000)) (fun r3 => bif r3 != 0 then some (.inl (true, (l, T))) else some (.inl (false, (l, T)))) else none) else none) else ob (sumOf_S F r2.2.1) (fun r4 => ob (sumOf_S F r2.2.2) (fun r5 => lengths_L1 F N l T (w.1.1, (w.1.2, (w.2.1.1, (w.2.1.2, (w.2.2, b))))) bl k (IntKind.wrap IntKind.i64 ((A + sm (lnB bl) i * 1000000) + IntKind.wrap IntKind.i64 (IntKind.wrap IntKind.i64 (IntKind.wrap IntKind.i64 (r2.1.1.1 + r2.1.1.2) + r4) + r5))) ((i + 1 : Nat) : Int)))) := by
      show (bif decide ((i : Int) < (bl.length : Int) - 0) then (bif inB (i : Int) (bl.length - 0) then (bif inB (i : Int) (bl.length - 0) then ob (followed_S F (w, b) (IntKind.wrap IntKind.i64 (IntKind.wrap IntKind.i64 ((nth bl b0 i).2 - (nth bl b0 i).1) * 1000000)) T) (fun r2 => bif !r2.1.2 then (bif inB (i : Int) (bl.length - 0) then (bif inB (i : Int) (bl.length - 0) then ob (check_S F w b (IntKind.wrap IntKind.i64 (IntKind.wrap IntKind.i64 ((nth bl b0 i).2 - (nth bl b0 i).1) * 1000000))) (fun r3 => bif r3 != 0 then some (.inl (true, (l, T))) else some (.inl (false, (l, T)))) else none) else none) else ob (sumOf_S F r2.2.1) (fun r4 => ob (sumOf_S F r2.2.2) (fun r5 => lengths_L1 F N l T (w.1.1, (w.1.2, (w.2.1.1, (w.2.1.2, (w.2.2, b))))) bl k (IntKind.wrap IntKind.i64 ((A + sm (lnB bl) i * 1000000) + IntKind.wrap IntKind.i64 (IntKind.wrap IntKind.i64 (IntKind.wrap IntKind.i64 (r2.1.1.1 + r2.1.1.2) + r4) + r5))) (IntKind.wrap IntKind.i64 ((i : Int) + 1))))) else none) else none) else _) = _
      rw [dec_t (by omega), inB_t (show i < bl.length - 0 by omega), e1, en]
      rfl
    rw [key]
    cases hk0 : (ckI w b (lnB bl i * 1000000) == 0) with
    | false =>
      refine .inl ?_
      rw [followed_bad F w b _ T hk0]
      change (bif inB (i : Int) (bl.length - 0) then (bif inB (i : Int) (bl.length - 0) then ob (check_S F w b (lnB bl i * 1000000)) _ else none) else none) = _
      rw [inB_t (show i < bl.length - 0 by omega), check_eq]
      change (bif ckI w b (lnB bl i * 1000000) != 0 then _ else _) = _
      rw [show (ckI w b (lnB bl i * 1000000) != 0) = true by unfold bne; rw [hk0]; rfl]
      rfl
    | true =>
      obtain ⟨top, bot, P, Q, S, K, f1, f2, f3, f4, f5, f6, f7, f8⟩ := followed_eq F hF (eq_of_beq hk0) T hT
      rw [f1]
      have e5 : IntKind.wrap IntKind.i64 ((A + sm (lnB bl) i * 1000000) + IntKind.wrap IntKind.i64 (IntKind.wrap IntKind.i64 (IntKind.wrap IntKind.i64 (top + bot) + P) + Q)) = A + sm (lnB bl) (i + 1) * 1000000 := by
        rw [w64 (top + bot) (by omega), w64 (top + bot + P) (by omega), w64 (top + bot + P + Q) (by omega)]
        have : sm (lnB bl) (i + 1) = sm (lnB bl) i + lnB bl i := rfl
        rw [w64 _ (by omega)]
        omega
      have go : ob (sumOf_S F S) (fun r4 => ob (sumOf_S F K) (fun r5 => lengths_L1 F N l T (w.1.1, (w.1.2, (w.2.1.1, (w.2.1.2, (w.2.2, b))))) bl k (IntKind.wrap IntKind.i64 ((A + sm (lnB bl) i * 1000000) + IntKind.wrap IntKind.i64 (IntKind.wrap IntKind.i64 (IntKind.wrap IntKind.i64 (top + bot) + r4) + r5))) ((i + 1 : Nat) : Int))) = lengths_L1 F N l T (w.1.1, (w.1.2, (w.2.1.1, (w.2.1.2, (w.2.2, b))))) bl k (A + sm (lnB bl) (i + 1) * 1000000) ((i + 1 : Nat) : Int) := by
        rw [f2, obS, f3, obS, e5]
      have rec0 := len_L1 F hF N l T hT w b hb hx A hA j k (i + 1) (by omega) (by omega)
      rw [← go] at rec0
      exact rec0
theorem lengths_law0 (s : SwC) (w : WrT) (b : WbT) (l : List BkT) (T : List Int) (hT : ∀ x ∈ T, 0 ≤ x ∧ x ≤ 255) : lengths_S 3000 s (w, b) l T = some true := by
  unfold lengths_S
  change (bif decide ((l.length : Int) - 0 > 20) then some true else (bif decide (b.2.1 > 60) then some true else ob (lengths_L0 3000 l T s (w.1.1, (w.1.2, (w.2.1.1, (w.2.1.2, (w.2.2, b))))) 3000 (sm (lnS l) 0) ((0 : Nat) : Int)) _)) = _
  by_cases h1 : (l.length : Int) - 0 > 20
  · rw [dec_t h1]; rfl
  by_cases h2 : b.2.1 > 60
  · rw [dec_f h1, dec_t h2]; rfl
  rw [dec_f h1, dec_f h2]
  simp only [cond_false]
  rcases len_L0 3000 l T s (w.1.1, (w.1.2, (w.2.1.1, (w.2.1.2, (w.2.2, b))))) (by omega) l.length 3000 0 (by omega) (by omega) (fun q hq => by omega) with h | ⟨h, hq⟩
  · rw [h]
  rw [h, obS]
  change (bif decide (sm (lnS l) l.length > 200) then some true else _) = _
  by_cases h3 : sm (lnS l) l.length > 200
  · rw [dec_t h3]; rfl
  rw [dec_f h3]
  change (bif lenOk 0 l.length then ob (best_S 3000 s l) (fun r => bif lenOk 0 l.length then (bif lenOk 0 r.2.length then ob (account_S 3000 s l r.2) (fun r1 => bif (r.1.2 != 0) then (bif (r1.2 == r.1.2) then (bif ((r.2.length : Int) - 0 == 0) then some true else some false) else some false) else (bif (r1.2 != 0) then some false else ob (lengths_L1 3000 (sm (lnS l) l.length) l T (w.1.1, (w.1.2, (w.2.1.1, (w.2.1.2, (w.2.2, b))))) r.2 3000 (IntKind.wrap IntKind.i64 (IntKind.wrap IntKind.i64 (r1.1.2.1 + r1.1.2.2) * 1000000)) ((0 : Nat) : Int)) (fun o_ => su o_ (fun s5 => some s5.1) (fun s6 => bif (s6.1.2 == IntKind.wrap IntKind.i64 (s6.1.1 * 1000000)) then some true else some false)))) else none) else none) else none) = _
  rw [lenOk_t (show 0 + l.length ≤ 1000000 by omega)]
  simp only [cond_true]
  obtain ⟨e, c1, c2⟩ := check7_eq 3000 (by decide) s l (by omega)
  by_cases he : e = 0
  · subst he
    have hs := c2 rfl
    obtain ⟨W, n1, n2⟩ := newB_eq 3000 (by decide) l s (by omega) hq
    obtain ⟨bl, t, q1, q2, q3⟩ := best_eq 3000 (by decide) s l W c1 hs n1 (by omega)
    obtain ⟨kf, a1, a2, a3⟩ := account_eq 3000 (by decide) s l W c1 hs n1 (by omega) q2 q3
    rw [q1, obS]
    change (bif lenOk 0 bl.length then ob (account_S 3000 s l bl) _ else none) = _
    rw [lenOk_t (show 0 + bl.length ≤ 1000000 by omega), a1]
    simp only [cond_true]
    rw [obS]
    have hsm := sm_range (lnB bl) 200 bl.length fun x hx => by have := (q2.ok x (by omega)).a; unfold lnB; omega
    have e3 : IntKind.wrap IntKind.i64 (IntKind.wrap IntKind.i64 (kf + ((W.length : Int) - (sm (lnB bl) bl.length + kf))) * 1000000) = ((W.length : Int) - sm (lnB bl) bl.length) * 1000000 + sm (lnB bl) 0 * 1000000 := by
      rw [w64 (kf + _) (by omega), w64 _ (by omega)]
      show _ = _ + 0 * 1000000
      omega
    change ob (lengths_L1 3000 (sm (lnS l) l.length) l T (w.1.1, (w.1.2, (w.2.1.1, (w.2.1.2, (w.2.2, b))))) bl 3000 (IntKind.wrap IntKind.i64 (IntKind.wrap IntKind.i64 (kf + ((W.length : Int) - (sm (lnB bl) bl.length + kf))) * 1000000)) ((0 : Nat) : Int)) _ = _
    rw [e3]
    rcases len_L1 3000 (by decide) (sm (lnS l) l.length) l T hT w b (bl := bl) q3 (fun q hq => by have := (q2.ok q hq).a; unfold lnB; omega) (((W.length : Int) - sm (lnB bl) bl.length) * 1000000) (by omega) bl.length 3000 0 (by omega) (by omega) with h | h
    · rw [h]
    · rw [h, obS]
      change (bif (((W.length : Int) - sm (lnB bl) bl.length) * 1000000 + sm (lnB bl) bl.length * 1000000 == IntKind.wrap IntKind.i64 (sm (lnS l) l.length * 1000000)) then some true else some false) = _
      rw [w64 _ (by omega), show (((W.length : Int) - sm (lnB bl) bl.length) * 1000000 + sm (lnB bl) bl.length * 1000000 == sm (lnS l) l.length * 1000000) = true from beq_iff_eq.2 (by omega)]
      rfl
  · have hne : (e != 0) = true := bne_iff_ne.2 he
    have q1 : best_S 3000 s l = some ((0, e), []) := by
      unfold best_S
      rw [c1, obS, hne]; rfl
    have q2 : account_S 3000 s l [] = some ((0, (0, 0)), e) := by
      have q3 : totalF_S 3000 s l [] = some (0, e) := by
        unfold totalF_S
        rw [c1, obS, hne]; rfl
      unfold account_S
      rw [q3, obS]
      change (bif (e != 0) then _ else _) = _
      rw [hne]; rfl
    rw [q1, obS]
    change ob (account_S 3000 s l []) (fun r1 => bif (e != 0) then (bif (r1.2 == e) then some true else some false) else _) = _
    rw [q2, obS, hne]
    change (bif (e == e) then some true else some false) = _
    rw [beq_self_eq_true]; rfl
end Go.Proofs.Ytdcekiigkplmgaa
