/- The plain law of SliceRuns. No condition. -/
import Derived.Test.YtdfgmfddkcmalaaDoorWLR8b
namespace Go.Proofs.YtdfgmfddkcmalaaDoor
open Go.RowKit
set_option maxRecDepth 100000
theorem runs1_def (F k : Nat) (d wear n m : Int) (w : WrT) : runs1_L0 F (k + 1) d wear n [m] [w] =
    ob (bif decide (n < 1000) then (bif (m == 0) then some (Sum.inl ((d, wear, n, m, (m == 0), true, true), ([m], [w]))) else (bif decide (mx0 (IntKind.wrap IntKind.i64 (d - IntKind.wrap IntKind.i64 (IntKind.wrap IntKind.i64 (m - 1) * wear))) ≥ w.2.2) then some (Sum.inl ((d, wear, n, m, (m == 0), false, decide (mx0 (IntKind.wrap IntKind.i64 (d - IntKind.wrap IntKind.i64 (IntKind.wrap IntKind.i64 (m - 1) * wear))) ≥ w.2.2)), ([m], [w]))) else some (Sum.inr (n, ([m], [w]))))) else some (Sum.inr (n, ([m], [w]))))
      (fun o_ => su o_ (fun s1 => runs1_L0 F k (mx0 (IntKind.wrap IntKind.i64 (s1.1.1 - IntKind.wrap IntKind.i64 (nth s1.2.1 (0 : Int) 0 * s1.1.2.1)))) s1.1.2.1 (IntKind.wrap IntKind.i64 (s1.1.2.2.1 + 1)) s1.2.1 s1.2.2) (fun s2 => some (s2.1, (s2.2.1, s2.2.2)))) := rfl
theorem runs1_step (F k : Nat) {d wear n : Int} (hd : 0 ≤ d ∧ d ≤ 10000000) (hw : 0 ≤ wear ∧ wear ≤ 10000000) (hn : 0 ≤ n ∧ n < 1000) (m : Nat) (hm : m ≤ 2000) (w : WrT) (hb : thin d wear w.2.2 m = false) :
    runs1_L0 F (k + 1) d wear n [(m : Int)] [w] = runs1_L0 F k (dAt d wear m) wear (n + 1) [(m : Int)] [w] := by
  have h1 : 0 ≤ (m : Int) * wear ∧ (m : Int) * wear ≤ 2000 * 10000000 := ⟨Int.mul_nonneg (by omega) hw.1, Int.mul_le_mul (by omega) hw.2 hw.1 (by omega)⟩
  have e1 : IntKind.wrap IntKind.i64 (d - IntKind.wrap IntKind.i64 ((m : Int) * wear)) = d - (m : Int) * wear := by rw [w64 ((m : Int) * wear) (by omega), w64 _ (by omega)]
  have e2 : IntKind.wrap IntKind.i64 (n + 1) = n + 1 := w64 _ (by omega)
  rw [runs1_def, dec_t (show n < 1000 from hn.2)]
  have fin : runs1_L0 F k (mx0 (IntKind.wrap IntKind.i64 (d - IntKind.wrap IntKind.i64 (nth [(m : Int)] (0 : Int) 0 * wear)))) wear (IntKind.wrap IntKind.i64 (n + 1)) [(m : Int)] [w] = runs1_L0 F k (dAt d wear m) wear (n + 1) [(m : Int)] [w] := by
    show runs1_L0 F k (mx0 (IntKind.wrap IntKind.i64 (d - IntKind.wrap IntKind.i64 ((m : Int) * wear)))) wear (IntKind.wrap IntKind.i64 (n + 1)) [(m : Int)] [w] = _
    rw [e1, e2]; rfl
  cases hz : ((m : Int) == 0) with
  | true => exact fin
  | false =>
    have hm0 : m ≠ 0 := by
      have := beq_eq_false_iff_ne.1 hz
      omega
    have hge : mx0 (IntKind.wrap IntKind.i64 (d - IntKind.wrap IntKind.i64 (IntKind.wrap IntKind.i64 ((m : Int) - 1) * wear))) ≥ w.2.2 := by
      have h2 : 0 ≤ ((m - 1 : Nat) : Int) * wear ∧ ((m - 1 : Nat) : Int) * wear ≤ 2000 * 10000000 := ⟨Int.mul_nonneg (by omega) hw.1, Int.mul_le_mul (by omega) hw.2 hw.1 (by omega)⟩
      have e3 : IntKind.wrap IntKind.i64 ((m : Int) - 1) = ((m - 1 : Nat) : Int) := by rw [w64 _ (by omega)]; omega
      rw [e3, w64 (((m - 1 : Nat) : Int) * wear) (by omega), w64 (d - ((m - 1 : Nat) : Int) * wear) (by omega)]
      unfold thin at hb
      simp only [Bool.and_eq_false_iff, Bool.not_eq_false', decide_eq_true_eq, decide_eq_false_iff_not] at hb
      unfold dAt at hb
      omega
    rw [dec_t hge]
    exact fin
theorem runs1_stop (F k : Nat) {d wear n : Int} (hd : 0 ≤ d ∧ d ≤ 10000000) (hw : 0 ≤ wear ∧ wear ≤ 10000000) (m : Nat) (hm : m ≤ 2000) (w : WrT) (hb : thin d wear w.2.2 m = true) :
    runs1_L0 F (k + 1) d wear n [(m : Int)] [w] = some (n, ([(m : Int)], [w])) := by
  rw [runs1_def]
  unfold thin at hb
  simp only [Bool.and_eq_true, Bool.not_eq_true', decide_eq_false_iff_not, decide_eq_true_eq] at hb
  have h2 : 0 ≤ ((m - 1 : Nat) : Int) * wear ∧ ((m - 1 : Nat) : Int) * wear ≤ 2000 * 10000000 := ⟨Int.mul_nonneg (by omega) hw.1, Int.mul_le_mul (by omega) hw.2 hw.1 (by omega)⟩
  have e3 : IntKind.wrap IntKind.i64 ((m : Int) - 1) = ((m - 1 : Nat) : Int) := by rw [w64 _ (by omega)]; omega
  have hge : ¬ mx0 (IntKind.wrap IntKind.i64 (d - IntKind.wrap IntKind.i64 (IntKind.wrap IntKind.i64 ((m : Int) - 1) * wear))) ≥ w.2.2 := by
    rw [e3, w64 (((m - 1 : Nat) : Int) * wear) (by omega), w64 (d - ((m - 1 : Nat) : Int) * wear) (by omega)]
    have := hb.2
    unfold dAt at this
    omega
  rw [dec_f hge, show ((m : Int) == 0) = false from beq_eq_false_iff_ne.2 (by omega)]
  cases decide (n < 1000) <;> rfl
theorem runs1_end (F k : Nat) (d wear : Int) (m : Int) (w : WrT) : runs1_L0 F (k + 1) d wear 1000 [m] [w] = some (1000, ([m], [w])) := by
  rw [runs1_def]; rfl
theorem rRuns_def (F k : Nat) (d wear least m n : Int) : rRuns_L0 F (k + 1) d wear least m n =
    (bif decide (n < 1000) then (ob (rsame_S F wear m) (fun r => (ob (rDiameters_S F d r) (fun r1 => (ob (rRuns_L1 F wear least m n r1 F (0 : Int)) (fun o_ => su o_ (fun s1 => (some (.inl s1))) (fun s2 => (bif (inB s2.1.2.2.1 (s2.2.length - 0)) then (rRuns_L0 F k (nth s2.2 (0 : Int) s2.1.2.2.1.toNat) s2.1.1 s2.1.2.1 s2.1.2.2.1 (IntKind.wrap IntKind.i64 (s2.1.2.2.2 + (1 : Int)))) else none)))))))) else (some (Sum.inr ()))) := rfl
theorem rRuns_step (F k : Nat) {d wear least n : Int} (hd : 0 ≤ d ∧ d ≤ 10000000) (hw : 0 ≤ wear ∧ wear ≤ 10000000) (hn : 0 ≤ n ∧ n < 1000) (m : Nat) (hm : m ≤ 2000) (hF : 2000 < F) (hb : thin d wear least m = false) :
    rRuns_L0 F (k + 1) d wear least m n = rRuns_L0 F k (dAt d wear m) wear least m (n + 1) := by
  rw [rRuns_def, dec_t (show n < 1000 from hn.2)]
  show ob (rsame_S F wear m) _ = _
  rw [same_eq F wear m hm (by omega)]
  show ob (rDiameters_S F d (List.replicate m wear)) _ = _
  rw [diam_eq F hd hw m hm (by omega)]
  have := L1_no F (n := n) hd.1 hw.1 m hm hb m F 0 (by omega) (by omega)
  show ob (rRuns_L1 F wear least m n ((List.range (m + 1)).map (dAt d wear)) F ((0 : Nat) : Int)) _ = _
  rw [this]
  show (bif inB (m : Int) (((List.range (m + 1)).map (dAt d wear)).length - 0) then rRuns_L0 F k (nth ((List.range (m + 1)).map (dAt d wear)) (0 : Int) (m : Int).toNat) wear least m (IntKind.wrap IntKind.i64 (n + 1)) else none) = _
  rw [len_map, inB_t (show m < m + 1 - 0 by omega), w64 (n + 1) (by omega), Int.toNat_natCast, nth_map _ _ _ (show m < m + 1 by omega)]
  rfl
theorem rRuns_stop (F k : Nat) {d wear least n : Int} (hd : 0 ≤ d ∧ d ≤ 10000000) (hw : 0 ≤ wear ∧ wear ≤ 10000000) (hn : 0 ≤ n ∧ n < 1000) (m : Nat) (hm : m ≤ 2000) (hF : 2000 < F) (hb : thin d wear least m = true) :
    rRuns_L0 F (k + 1) d wear least m n = some (.inl n) := by
  rw [rRuns_def, dec_t (show n < 1000 from hn.2)]
  show ob (rsame_S F wear m) _ = _
  rw [same_eq F wear m hm (by omega)]
  show ob (rDiameters_S F d (List.replicate m wear)) _ = _
  rw [diam_eq F hd hw m hm (by omega)]
  have hm0 : m ≠ 0 := by
    unfold thin at hb
    simp only [Bool.and_eq_true, Bool.not_eq_true', decide_eq_false_iff_not] at hb
    exact hb.1
  have := L1_yes F (n := n) hd.1 hw.1 m hm hb (m - 1) F 0 (by omega) (by omega)
  show ob (rRuns_L1 F wear least m n ((List.range (m + 1)).map (dAt d wear)) F ((0 : Nat) : Int)) _ = _
  rw [this]
theorem runs_sim (F : Nat) (hF : 2000 < F) {wear : Int} (hw : 0 ≤ wear ∧ wear ≤ 10000000) (m : Nat) (hm : m ≤ 2000) (w : WrT) : ∀ (j k k' : Nat) (d n : Int), 0 ≤ d ∧ d ≤ 10000000 → 0 ≤ n → n + j = 1000 → j < k → j < k' →
    ∃ N, runs1_L0 F k d wear n [(m : Int)] [w] = some (N, ([(m : Int)], [w])) ∧ (rRuns_L0 F k' d wear w.2.2 m n = some (.inl N) ∨ (N = 1000 ∧ rRuns_L0 F k' d wear w.2.2 m n = some (.inr ())))
  | j, 0, _, _, _, _, _, _, h, _ => by omega
  | j, _ + 1, 0, _, _, _, _, _, _, h => by omega
  | 0, k + 1, k' + 1, d, n, hd, h0, hj, _, _ => by
    have e : n = 1000 := by omega
    subst e
    exact ⟨1000, runs1_end F k d wear m w, .inr ⟨rfl, by rw [rRuns_def]; rfl⟩⟩
  | j + 1, k + 1, k' + 1, d, n, hd, h0, hj, hk, hk' => by
    cases hb : thin d wear w.2.2 m with
    | true => exact ⟨n, runs1_stop F k hd hw m hm w hb, .inl (rRuns_stop F k' hd hw ⟨h0, by omega⟩ m hm hF hb)⟩
    | false =>
      rw [runs1_step F k hd hw ⟨h0, by omega⟩ m hm w hb, rRuns_step F k' hd hw ⟨h0, by omega⟩ m hm hF hb]
      have := dAt_range hd.1 hw.1 m
      exact runs_sim F hF hw m hm w j k k' (dAt d wear m) (n + 1) (by omega) (by omega) (by omega) (by omega) (by omega)
theorem runs_same (F : Nat) (hF : 2000 < F) {d wear : Int} (hd : 0 ≤ d ∧ d ≤ 10000000) (hw : 0 ≤ wear ∧ wear ≤ 10000000) (m : Nat) (hm : m ≤ 2000) (w : WrT) : ∃ N, runs1_S F d wear [(m : Int)] [w] = some N ∧ rRuns_S F d wear w.2.2 m = some N := by
  obtain ⟨N, h1, h2⟩ := runs_sim F hF hw m hm w 1000 F F d 0 hd (by omega) (by omega) (by omega) (by omega)
  refine ⟨N, ?_, ?_⟩
  · unfold runs1_S; rw [h1]
  · unfold rRuns_S
    rcases h2 with h2 | ⟨rfl, h2⟩ <;> rw [h2]
theorem sRuns_def (F : Nat) (w : WrT) (b : WbT) (n : Int) : sRuns_S F (w, (b, n)) =
    ob (rCheck_S F w b n) (fun r => ob (bif (r == (0 : Int)) then ob (rPlaces_S F b n) (fun r1 => (bif decide (((r1.length : Int) - 0) > 60) then some (Sum.inl true) else some (Sum.inr (r, (w, (b, n)))))) else some (Sum.inr (r, (w, (b, n))))) (fun o_ => su o_ (fun s1 => some s1) (fun s2 =>
      ob (runs_S F s2.2.1 s2.2.2.1 s2.2.2.2) (fun r2 => bif (s2.1 != 0) then (bif (r2.2.2 == s2.1) then (bif (r2.1 == 0) then (bif (r2.2.1 == 0) then some true else some false) else some false) else some false) else
        ob (rPlaces_S F s2.2.2.1 s2.2.2.2) (fun r3 => bif (r2.2.2 == 0) then ob (rRuns_S F s2.2.1.1.1 s2.2.1.2.1.2 s2.2.1.2.2 ((r3.length : Int) - 0)) (fun r4 => bif (r2.1 == r4) then ob (rRuns_S F s2.2.1.1.2 s2.2.1.2.1.1 s2.2.1.2.2 ((r3.length : Int) - 0)) (fun r5 => bif (r2.2.1 == r5) then some true else some false) else some false) else some false))))) := rfl
theorem runs_bad (F : Nat) (w : WrT) (b : WbT) (n : Int) (h : (ckI w b n == 0) = false) : runs_S F w b n = some (0, 0, ckI w b n) := by
  unfold runs_S
  rw [check_eq]
  show (bif (ckI w b n != 0) then _ else _) = _
  rw [show (ckI w b n != 0) = true by unfold bne; rw [h]; rfl]
  rfl
theorem sRuns_law0 (c : WrT × (WbT × Int)) : sRuns_S 3000 c = some true := by
  obtain ⟨w, b, n⟩ := c
  rw [sRuns_def, rCheck_eq]
  cases hk : (ckI w b n == 0) with
  | false =>
    show ob (bif (ckI w b n == 0) then _ else some (Sum.inr (ckI w b n, (w, (b, n))))) _ = _
    rw [hk]
    show ob (runs_S 3000 w b n) _ = _
    rw [runs_bad _ _ _ _ hk]
    show (bif (ckI w b n != 0) then (bif (ckI w b n == ckI w b n) then _ else _) else _) = _
    rw [show (ckI w b n != 0) = true by unfold bne; rw [hk]; rfl, beq_self_eq_true]
    rfl
  | true =>
    have h0 : ckI w b n = 0 := eq_of_beq hk
    have hv := vld_of h0
    have hu := us_range hv
    have hg := hv.g
    have hd := hv.d
    have he := hv.e
    have hmm : (((usN b n).toNat : Nat) : Int) = usN b n := by omega
    obtain ⟨N1, a1, a2⟩ := runs_same 3000 (by decide) (d := w.1.1) (wear := w.2.1.2) (by omega) (by omega) (usN b n).toNat (by omega) w
    obtain ⟨N2, a3, a4⟩ := runs_same 3000 (by decide) (d := w.1.2) (wear := w.2.1.1) (by omega) (by omega) (usN b n).toNat (by omega) w
    have hr : runs_S 3000 w b n = some (N1, N2, 0) := by
      unfold runs_S
      rw [check_eq, h0]
      show ob (used_S 3000 (w, (b, n))) _ = _
      rw [used_eq 3000 hv]
      show ob (runs1_S 3000 w.1.1 w.2.1.2 [usN b n] [w]) _ = _
      rw [← hmm, a1]
      show ob (runs1_S 3000 w.1.2 w.2.1.1 [((usN b n).toNat : Int)] [w]) _ = _
      rw [a3]
    show ob (bif (ckI w b n == 0) then ob (rPlaces_S 3000 b n) _ else _) _ = _
    rw [hk]
    have hp := places_eq 3000 (by decide) hv
    simp only [cond_true]
    rw [hp]
    show ob (bif decide (((((List.range (usN b n).toNat).map (plc b)).length : Nat) : Int) - 0 > 60) then some (Sum.inl true) else some (Sum.inr (ckI w b n, (w, (b, n))))) _ = _
    rw [len_map]
    cases decide ((((usN b n).toNat : Nat) : Int) - 0 > 60) with
    | true => rfl
    | false =>
      show ob (runs_S 3000 w b n) _ = _
      rw [hr, h0]
      show ob (rPlaces_S 3000 b n) _ = _
      rw [hp]
      show ob (rRuns_S 3000 w.1.1 w.2.1.2 w.2.2 ((((List.range (usN b n).toNat).map (plc b)).length : Int) - 0)) _ = _
      rw [len_map, Int.sub_zero, a2]
      show (bif (N1 == N1) then ob (rRuns_S 3000 w.1.2 w.2.1.1 w.2.2 (((usN b n).toNat : Nat) : Int)) _ else _) = _
      rw [a4, beq_self_eq_true]
      show (bif (N2 == N2) then _ else _) = _
      rw [beq_self_eq_true]
      rfl
end Go.Proofs.YtdfgmfddkcmalaaDoor
