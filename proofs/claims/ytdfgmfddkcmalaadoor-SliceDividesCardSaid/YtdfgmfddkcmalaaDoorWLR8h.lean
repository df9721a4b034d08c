/- The plain law of SlicePredicts. No condition. -/
import Derived.Test.YtdfgmfddkcmalaaDoorWLR8f

namespace Go.Proofs.YtdfgmfddkcmalaaDoor
open Go.RowKit
set_option maxRecDepth 100000
theorem nth_rg {α : Type} (f : Nat → α) (d : α) (n i : Nat) (h : i < n) : nth ((List.range n).map f) d i = f i := by
  unfold nth
  rw [List.getD_eq_getElem?_getD, List.getElem?_map, List.getElem?_range h]
  rfl
theorem len_rg {α : Type} (f : Nat → α) (n : Nat) : ((List.range n).map f).length = n := by rw [List.length_map, List.length_range]
def grd (r t : RgT) : Int := if t.1 ≤ r.1 ∧ r.2 ≤ t.2 then 1 else if r.1 ≤ t.2 ∧ t.1 ≤ r.2 then 2 else 3
theorem rGrade_eq (F : Nat) (r t : RgT) : rGrade_S F r t = some (grd r t) := by
  unfold rGrade_S grd
  by_cases h1 : t.1 ≤ r.1
  · rw [dec_t (show r.1 ≥ t.1 from h1)]
    by_cases h2 : r.2 ≤ t.2
    · rw [dec_t h2, if_pos ⟨h1, h2⟩]; rfl
    · rw [dec_f h2, if_neg (fun h => h2 h.2)]
      by_cases h3 : r.1 ≤ t.2
      · by_cases h4 : t.1 ≤ r.2
        · rw [if_pos ⟨h3, h4⟩]
          show (bif decide (r.1 ≤ t.2) then (bif decide (r.2 ≥ t.1) then _ else _) else _) = _
          rw [dec_t h3, dec_t (show r.2 ≥ t.1 from h4)]; rfl
        · rw [if_neg (fun h => h4 h.2)]
          show (bif decide (r.1 ≤ t.2) then (bif decide (r.2 ≥ t.1) then _ else _) else _) = _
          rw [dec_t h3, dec_f (show ¬ r.2 ≥ t.1 from h4)]; rfl
      · rw [if_neg (fun h => h3 h.1)]
        show (bif decide (r.1 ≤ t.2) then _ else _) = _
        rw [dec_f h3]; rfl
  · rw [dec_f (show ¬ r.1 ≥ t.1 from h1), if_neg (fun h => h1 h.1)]
    by_cases h3 : r.1 ≤ t.2
    · by_cases h4 : t.1 ≤ r.2
      · rw [if_pos ⟨h3, h4⟩]
        show (bif decide (r.1 ≤ t.2) then (bif decide (r.2 ≥ t.1) then _ else _) else _) = _
        rw [dec_t h3, dec_t (show r.2 ≥ t.1 from h4)]; rfl
      · rw [if_neg (fun h => h4 h.2)]
        show (bif decide (r.1 ≤ t.2) then (bif decide (r.2 ≥ t.1) then _ else _) else _) = _
        rw [dec_t h3, dec_f (show ¬ r.2 ≥ t.1 from h4)]; rfl
    · rw [if_neg (fun h => h3 h.1)]
      show (bif decide (r.1 ≤ t.2) then _ else _) = _
      rw [dec_f h3]; rfl
noncomputable def jN (F k : Nat) (t : RgT) (out : List Int) (L : List RgT) (q i g : Int) : Option (List Int) :=
  bif lenOk (out.length - 0) (g :: []).length then judge_L0 F k q (IntKind.wrap IntKind.i64 (i + 1)) t (out ++ (g :: [])) L else none
theorem judge_def (F k : Nat) (t : RgT) (out : List Int) (L : List RgT) (q i : Int) (lo hi : Int) (he : nth L (TC.dflt (TC.pair (TC.int IntKind.i64) (TC.int IntKind.i64))) i.toNat = (lo, hi)) :
    judge_L0 F (k + 1) q i t out L = bif decide (i < q) then (bif inB i (L.length - 0) then
      ob (bif decide (lo ≥ t.1) then (bif decide (hi ≤ t.2) then some (((1 : Int), q, i), (t, out, (lo, hi), L)) else some (((2 : Int), q, i), (t, out, (lo, hi), L))) else some (((2 : Int), q, i), (t, out, (lo, hi), L)))
      (fun s1 => ob (bif decide (s1.2.2.2.1.1 > s1.2.1.2) then some (((3 : Int), s1.1.2.1, s1.1.2.2), (s1.2.1, s1.2.2.1, s1.2.2.2.2)) else (bif decide (s1.2.2.2.1.2 < s1.2.1.1) then some (((3 : Int), s1.1.2.1, s1.1.2.2), (s1.2.1, s1.2.2.1, s1.2.2.2.2)) else some ((s1.1.1, s1.1.2.1, s1.1.2.2), (s1.2.1, s1.2.2.1, s1.2.2.2.2))))
        (fun s2 => jN F k s2.2.1 s2.2.2.1 s2.2.2.2 s2.1.2.1 s2.1.2.2 s2.1.1)) else none) else some out := by
  unfold judge_L0
  rw [he]
  rfl
theorem judge_step (F k : Nat) (t : RgT) (ht : t.1 ≤ t.2) (out : List Int) (L : List RgT) (q i : Int) (r : RgT) (hr : r.1 ≤ r.2) (he : nth L (TC.dflt (TC.pair (TC.int IntKind.i64) (TC.int IntKind.i64))) i.toNat = r) (hi : i < q) (hb : inB i (L.length - 0) = true) :
    judge_L0 F (k + 1) q i t out L = jN F k t out L q i (grd r t) := by
  obtain ⟨lo, hi'⟩ := r
  rw [judge_def F k t out L q i lo hi' he, dec_t hi, hb]
  simp only [cond_true]
  have h3 : ∀ g : Int, (g = 1 → t.1 ≤ lo ∧ hi' ≤ t.2) → g = (if t.1 ≤ lo ∧ hi' ≤ t.2 then 1 else 2) → (ob (bif decide (lo > t.2) then some (((3 : Int), q, i), (t, out, L)) else (bif decide (hi' < t.1) then some (((3 : Int), q, i), (t, out, L)) else some ((g, q, i), (t, out, L))))
        (fun s2 => jN F k s2.2.1 s2.2.2.1 s2.2.2.2 s2.1.2.1 s2.1.2.2 s2.1.1)) = jN F k t out L q i (grd (lo, hi') t) := fun g h hg => by
    have hr' : lo ≤ hi' := hr
    unfold grd
    by_cases c1 : lo > t.2
    · rw [dec_t c1, if_neg (fun h => by have := h.1; have := h.2; simp only at *; omega), if_neg (fun h => by have := h.1; simp only at *; omega)]; rfl
    · rw [dec_f c1]
      by_cases c2 : hi' < t.1
      · rw [dec_t c2, if_neg (fun h => by have := h.1; have := h.2; simp only at *; omega), if_neg (fun h => by have := h.2; simp only at *; omega)]; rfl
      · rw [dec_f c2]
        by_cases c3 : t.1 ≤ lo ∧ hi' ≤ t.2
        · rw [if_pos c3] at hg; rw [if_pos c3, hg]; rfl
        · rw [if_neg c3] at hg; rw [if_neg c3, if_pos ⟨by simp only; omega, by simp only; omega⟩, hg]; rfl
  by_cases c1 : t.1 ≤ lo
  · rw [dec_t (show lo ≥ t.1 from c1)]
    by_cases c2 : hi' ≤ t.2
    · rw [dec_t c2]
      exact h3 1 (fun _ => ⟨c1, c2⟩) (by rw [if_pos ⟨c1, c2⟩])
    · rw [dec_f c2]
      exact h3 2 (fun h => by cases h) (by rw [if_neg (fun h => c2 h.2)])
  · rw [dec_f (show ¬ lo ≥ t.1 from c1)]
    exact h3 2 (fun h => by cases h) (by rw [if_neg (fun h => c1 h.1)])
theorem judge_loop (F : Nat) (t : RgT) (ht : t.1 ≤ t.2) (f : Nat → RgT) (q : Nat) (hq : q ≤ 2000) (hf : ∀ i, i < q → (f i).1 ≤ (f i).2) : ∀ (j k i : Nat), i + j = q → j < k →
    judge_L0 F k q i t ((List.range i).map fun i => grd (f i) t) ((List.range q).map f) = some ((List.range q).map fun i => grd (f i) t)
  | j, 0, i, _, hk => by omega
  | 0, k + 1, i, hi, _ => by
    have e : i = q := by omega
    subst e
    show (bif decide ((i : Int) < (i : Int)) then _ else _) = _
    rw [dec_f (by omega)]; rfl
  | j + 1, k + 1, i, hi, hk => by
    have e1 : IntKind.wrap IntKind.i64 ((i : Int) + 1) = ((i + 1 : Nat) : Int) := by rw [w64 _ (by omega)]; omega
    rw [judge_step F k t ht _ _ q i (f i) (hf i (by omega)) (by rw [Int.toNat_natCast]; exact nth_rg f _ q i (by omega)) (by omega) (by rw [len_rg]; exact inB_t (by omega))]
    unfold jN
    rw [e1, len_rg, lenOk_t (show i - 0 + [grd (f i) t].length ≤ 1000000 by simp; omega)]
    simp only [cond_true]
    have e2 : (List.range (i + 1)).map (fun i => grd (f i) t) = (List.range i).map (fun i => grd (f i) t) ++ [grd (f i) t] := map_range_succ _ _
    rw [← e2]
    exact judge_loop F t ht f q hq hf j k (i + 1) (by omega) (by omega)
theorem judge_eq (F : Nat) (hF : 2000 < F) {w : WrT} {b : WbT} {n : Int} (h0 : ckI w b n = 0) (t : RgT) : judge_S F w b n t = some (bif decide (t.1 > t.2) then (2, []) else (0, (rgl w b (mU b n - 1)).map fun r => grd r t)) := by
  have h := vld_of h0
  have hm := (ct_thick h).hm
  unfold judge_S
  rw [predict_eq F hF h0]
  show (bif decide (t.1 > t.2) then some ((2 : Int), []) else ob (judge_L0 F F ((((rgl w b (mU b n - 1)).length - 0 : Nat)) : Int) ((0 : Nat) : Int) t ((List.range 0).map fun i => grd ((slf b w.1.2 w.2.1.1 b.2.2.2.2 i, slf b w.1.1 w.2.1.2 b.2.2.2.1 i)) t) (rgl w b (mU b n - 1))) _) = _
  by_cases ht : t.1 > t.2
  · rw [dec_t ht]; rfl
  · rw [dec_f ht]
    have h1 := h.d; have h2 := h.e; have h3 := h.y
    unfold rgl
    rw [len_rg, Nat.sub_zero, judge_loop F t (by omega) (fun i => (slf b w.1.2 w.2.1.1 b.2.2.2.2 i, slf b w.1.1 w.2.1.2 b.2.2.2.1 i)) (mU b n - 1) (by omega) (fun i _ => by
      have := dAt_mono (d := w.1.1) (d' := w.1.2) (wear := w.2.1.2) (wear' := w.2.1.1) (by omega) (by omega) i
      unfold slf
      show b.1 - _ ≤ b.1 - _
      omega) (mU b n - 1) F 0 (by omega) (by omega)]
    show some ((0 : Int), _) = some (0, _)
    rw [List.map_map]
    rfl
theorem judge_bad (F : Nat) (w : WrT) (b : WbT) (n : Int) (t : RgT) (h : (ckI w b n == 0) = false) : judge_S F w b n t = some (ckI w b n, []) := by
  unfold judge_S
  rw [predict_bad F w b n h]
  show (bif (ckI w b n != 0) then _ else _) = _
  rw [show (ckI w b n != 0) = true by unfold bne; rw [h]; rfl]
  rfl
end Go.Proofs.YtdfgmfddkcmalaaDoor


namespace Go.Proofs.YtdfgmfddkcmalaaDoor
open Go.RowKit
set_option maxRecDepth 100000
theorem rWide_eq (F : Nat) (hF : 2000 < F) {w : WrT} {b : WbT} {n : Int} (h : Vld w b n) : rWide_S F w b n = some (w.1.2, (List.replicate (mU b n) w.2.1.1, List.replicate (mU b n) b.2.2.2.2)) := by
  have hm := (ct_thick h).hm
  unfold rWide_S
  rw [places_eq F hF h]
  change ob (rsame_S F w.2.1.1 (((((List.range (mU b n)).map (plc b)).length - 0 : Nat)) : Int)) _ = _
  rw [len_map, Nat.sub_zero, same_eq F _ _ hm (by omega)]
  change ob (rsame_S F b.2.2.2.2 (((((List.range (mU b n)).map (plc b)).length - 0 : Nat)) : Int)) _ = _
  rw [len_map, Nat.sub_zero, same_eq F _ _ hm (by omega)]
theorem rNarrow_eq (F : Nat) (hF : 2000 < F) {w : WrT} {b : WbT} {n : Int} (h : Vld w b n) : rNarrow_S F w b n = some (w.1.1, (List.replicate (mU b n) w.2.1.2, List.replicate (mU b n) b.2.2.2.1)) := by
  have hm := (ct_thick h).hm
  unfold rNarrow_S
  rw [places_eq F hF h]
  change ob (rsame_S F w.2.1.2 (((((List.range (mU b n)).map (plc b)).length - 0 : Nat)) : Int)) _ = _
  rw [len_map, Nat.sub_zero, same_eq F _ _ hm (by omega)]
  change ob (rsame_S F b.2.2.2.1 (((((List.range (mU b n)).map (plc b)).length - 0 : Nat)) : Int)) _ = _
  rw [len_map, Nat.sub_zero, same_eq F _ _ hm (by omega)]
theorem rPredict_eq (F : Nat) (hF : 2000 < F) {w : WrT} {b : WbT} {n : Int} (h0 : ckI w b n = 0) : rPredict_S F w b n = some (prd w b n (mU b n), rgl w b (mU b n - 1)) := by
  have h := vld_of h0
  have c1 := ct_thick h
  have c2 := ct_thin h
  have hm := c1.hm
  have t1 := top_range h
  have t2 := rsA_range c1
  have t3 := rsA_range c2
  have pe : rPlaces_S F b n = some (pls b (mU b n)) := places_eq F hF h
  unfold rPredict_S
  rw [rWide_eq F hF h]
  change ob (rNarrow_S F w b n) _ = _
  rw [rNarrow_eq F hF h]
  change ob (rCut_S F b n w.1.2 (List.replicate (mU b n) w.2.1.1) (List.replicate (mU b n) b.2.2.2.2)) _ = _
  rw [rCut_eq F c1 hF pe]
  change ob (rCut_S F b n w.1.1 (List.replicate (mU b n) w.2.1.2) (List.replicate (mU b n) b.2.2.2.1)) _ = _
  rw [rCut_eq F c2 hF pe]
  change ob (rSum_S F (kfs b n w.1.1 w.2.1.2 b.2.2.2.1 (mU b n) (mU b n))) _ = _
  rw [(kfs_sum F hF c2).2]
  change ob (rSum_S F (kfs b n w.1.2 w.2.1.1 b.2.2.2.2 (mU b n) (mU b n))) _ = _
  rw [(kfs_sum F hF c1).2, sls_m, sls_m]
  change ob (rPredict_L0 F w _ w.1.2 w.1.1 (mn n b.2.2.1, rsA b n w.1.2 w.2.1.1 b.2.2.2.2 (mU b n) (mU b n)) (mn n b.2.2.1, rsA b n w.1.1 w.2.1.2 b.2.2.2.1 (mU b n) (mU b n))
    (sm (kf b n w.1.1 w.2.1.2 b.2.2.2.1 (mU b n)) (mU b n), (sm (kf b n w.1.2 w.2.1.1 b.2.2.2.2 (mU b n)) (mU b n), (IntKind.wrap IntKind.i64 (mn n b.2.2.1 + rsA b n w.1.2 w.2.1.1 b.2.2.2.2 (mU b n) (mU b n)), (IntKind.wrap IntKind.i64 (mn n b.2.2.1 + rsA b n w.1.1 w.2.1.2 b.2.2.2.1 (mU b n) (mU b n)), ((0 : Int), ((0 : Int), (3 : Int)))))))
    (List.replicate (mU b n) w.2.1.1) (List.replicate (mU b n) b.2.2.2.2) (List.replicate (mU b n) w.2.1.2) (List.replicate (mU b n) b.2.2.2.1)
    ((List.range (mU b n - 1)).map (slf b w.1.2 w.2.1.1 b.2.2.2.2)) (kfs b n w.1.2 w.2.1.1 b.2.2.2.2 (mU b n) (mU b n)) ((List.range (mU b n - 1)).map (slf b w.1.1 w.2.1.2 b.2.2.2.1)) (kfs b n w.1.1 w.2.1.2 b.2.2.2.1 (mU b n) (mU b n)) F ((0 : Nat) : Int) ((List.range 0).map fun i => (slf b w.1.2 w.2.1.1 b.2.2.2.2 i, slf b w.1.1 w.2.1.2 b.2.2.2.1 i))) _ = _
  rw [w64 (mn n b.2.2.1 + _) (by omega), w64 (mn n b.2.2.1 + _) (by omega), zip_R F _ _ _ _ _ _ _ (slf b w.1.2 w.2.1.1 b.2.2.2.2) (slf b w.1.1 w.2.1.2 b.2.2.2.1) (mU b n - 1) (by omega) _ _ _ _ _ _ (mU b n - 1) F 0 (by omega) (by omega)]
  change ob (rDiameters_S F w.1.2 (List.replicate (mU b n) w.2.1.1)) _ = _
  rw [diam_eq F c1.hd c1.hw _ hm (by omega)]
  change ob (rDiameters_S F w.1.1 (List.replicate (mU b n) w.2.1.2)) _ = _
  rw [diam_eq F c2.hd c2.hw _ hm (by omega)]
  have lk : (kfs b n w.1.2 w.2.1.1 b.2.2.2.2 (mU b n) (mU b n)).length = mU b n := kfs_len _ _ _ _ _ _ _
  have i1 : inB (((kfs b n w.1.2 w.2.1.1 b.2.2.2.2 (mU b n) (mU b n)).length - 0 : Nat) : Int) (((List.range (mU b n + 1)).map (dAt w.1.1 w.2.1.2)).length - 0) = true := by
    rw [lk, len_map]; exact inB_t (by omega)
  have i2 : inB (((kfs b n w.1.2 w.2.1.1 b.2.2.2.2 (mU b n) (mU b n)).length - 0 : Nat) : Int) (((List.range (mU b n + 1)).map (dAt w.1.2 w.2.1.1)).length - 0) = true := by
    rw [lk, len_map]; exact inB_t (by omega)
  have q1 : nth ((List.range (mU b n + 1)).map (dAt w.1.1 w.2.1.2)) (0 : Int) ((((kfs b n w.1.2 w.2.1.1 b.2.2.2.2 (mU b n) (mU b n)).length - 0 : Nat) : Int).toNat) = dAt w.1.1 w.2.1.2 (mU b n) := by
    rw [lk, Int.toNat_natCast]; exact nth_map _ _ _ (by omega)
  have q2 : nth ((List.range (mU b n + 1)).map (dAt w.1.2 w.2.1.1)) (0 : Int) ((((kfs b n w.1.2 w.2.1.1 b.2.2.2.2 (mU b n) (mU b n)).length - 0 : Nat) : Int).toNat) = dAt w.1.2 w.2.1.1 (mU b n) := by
    rw [lk, Int.toNat_natCast]; exact nth_map _ _ _ (by omega)
  unfold prd brk
  change (bif inB (((kfs b n w.1.2 w.2.1.1 b.2.2.2.2 (mU b n) (mU b n)).length - 0 : Nat) : Int) (((List.range (mU b n + 1)).map (dAt w.1.1 w.2.1.2)).length - 0) then (bif inB (((kfs b n w.1.2 w.2.1.1 b.2.2.2.2 (mU b n) (mU b n)).length - 0 : Nat) : Int) (((List.range (mU b n + 1)).map (dAt w.1.2 w.2.1.1)).length - 0) then
    ob (bif decide ((((kfs b n w.1.2 w.2.1.1 b.2.2.2.2 (mU b n) (mU b n)).length - 0 : Nat) : Int) > 0) then (bif inB (IntKind.wrap IntKind.i64 ((((kfs b n w.1.2 w.2.1.1 b.2.2.2.2 (mU b n) (mU b n)).length - 0 : Nat) : Int) - 1)) (((List.range (mU b n + 1)).map (dAt w.1.1 w.2.1.2)).length - 0) then
      (bif decide (nth ((List.range (mU b n + 1)).map (dAt w.1.1 w.2.1.2)) (0 : Int) ((IntKind.wrap IntKind.i64 ((((kfs b n w.1.2 w.2.1.1 b.2.2.2.2 (mU b n) (mU b n)).length - 0 : Nat) : Int) - 1)).toNat) < w.2.2) then some ((((kfs b n w.1.2 w.2.1.1 b.2.2.2.2 (mU b n) (mU b n)).length - 0 : Nat) : Int), (w, _, (sm (kf b n w.1.1 w.2.1.2 b.2.2.2.1 (mU b n)) (mU b n), (sm (kf b n w.1.2 w.2.1.1 b.2.2.2.2 (mU b n)) (mU b n), (mn n b.2.2.1 + rsA b n w.1.2 w.2.1.1 b.2.2.2.2 (mU b n) (mU b n), (mn n b.2.2.1 + rsA b n w.1.1 w.2.1.2 b.2.2.2.1 (mU b n) (mU b n), (nth ((List.range (mU b n + 1)).map (dAt w.1.1 w.2.1.2)) (0 : Int) ((((kfs b n w.1.2 w.2.1.1 b.2.2.2.2 (mU b n) (mU b n)).length - 0 : Nat) : Int).toNat), (nth ((List.range (mU b n + 1)).map (dAt w.1.2 w.2.1.1)) (0 : Int) ((((kfs b n w.1.2 w.2.1.1 b.2.2.2.2 (mU b n) (mU b n)).length - 0 : Nat) : Int).toNat), (2 : Int))))))), (List.range (mU b n + 1)).map (dAt w.1.2 w.2.1.1), rgl w b (mU b n - 1)))
        else some ((((kfs b n w.1.2 w.2.1.1 b.2.2.2.2 (mU b n) (mU b n)).length - 0 : Nat) : Int), (w, _, (sm (kf b n w.1.1 w.2.1.2 b.2.2.2.1 (mU b n)) (mU b n), (sm (kf b n w.1.2 w.2.1.1 b.2.2.2.2 (mU b n)) (mU b n), (mn n b.2.2.1 + rsA b n w.1.2 w.2.1.1 b.2.2.2.2 (mU b n) (mU b n), (mn n b.2.2.1 + rsA b n w.1.1 w.2.1.2 b.2.2.2.1 (mU b n) (mU b n), (nth ((List.range (mU b n + 1)).map (dAt w.1.1 w.2.1.2)) (0 : Int) ((((kfs b n w.1.2 w.2.1.1 b.2.2.2.2 (mU b n) (mU b n)).length - 0 : Nat) : Int).toNat), (nth ((List.range (mU b n + 1)).map (dAt w.1.2 w.2.1.1)) (0 : Int) ((((kfs b n w.1.2 w.2.1.1 b.2.2.2.2 (mU b n) (mU b n)).length - 0 : Nat) : Int).toNat), (3 : Int))))))), (List.range (mU b n + 1)).map (dAt w.1.2 w.2.1.1), rgl w b (mU b n - 1)))) else none)
      else some ((((kfs b n w.1.2 w.2.1.1 b.2.2.2.2 (mU b n) (mU b n)).length - 0 : Nat) : Int), (w, _, (sm (kf b n w.1.1 w.2.1.2 b.2.2.2.1 (mU b n)) (mU b n), (sm (kf b n w.1.2 w.2.1.1 b.2.2.2.2 (mU b n)) (mU b n), (mn n b.2.2.1 + rsA b n w.1.2 w.2.1.1 b.2.2.2.2 (mU b n) (mU b n), (mn n b.2.2.1 + rsA b n w.1.1 w.2.1.2 b.2.2.2.1 (mU b n) (mU b n), (nth ((List.range (mU b n + 1)).map (dAt w.1.1 w.2.1.2)) (0 : Int) ((((kfs b n w.1.2 w.2.1.1 b.2.2.2.2 (mU b n) (mU b n)).length - 0 : Nat) : Int).toNat), (nth ((List.range (mU b n + 1)).map (dAt w.1.2 w.2.1.1)) (0 : Int) ((((kfs b n w.1.2 w.2.1.1 b.2.2.2.2 (mU b n) (mU b n)).length - 0 : Nat) : Int).toNat), (3 : Int))))))), (List.range (mU b n + 1)).map (dAt w.1.2 w.2.1.1), rgl w b (mU b n - 1)))) _ else none) else none) = _
  rw [i1, i2, q1, q2, lk, len_map, Nat.sub_zero]
  simp only [cond_true]
  by_cases hz : mU b n = 0
  · rw [if_pos hz, dec_f (show ¬ (mU b n : Int) > 0 by omega)]
    change ob (bif decide ((mU b n : Int) > 0) then _ else _) _ = _
    rw [dec_f (show ¬ (mU b n : Int) > 0 by omega)]
    rfl
  · have e3 : IntKind.wrap IntKind.i64 ((mU b n : Int) - 1) = ((mU b n - 1 : Nat) : Int) := by rw [w64 _ (by omega)]; omega
    have mono := dAt_mono (d := w.1.1) (d' := w.1.2) (wear := w.2.1.2) (wear' := w.2.1.1) (by have := h.d; omega) (by have := h.e; omega) (mU b n - 1)
    rw [if_neg hz, dec_t (show (mU b n : Int) > 0 by omega), e3, inB_t (show mU b n - 1 < mU b n + 1 - 0 by omega), Int.toNat_natCast, nth_map _ _ _ (show mU b n - 1 < mU b n + 1 by omega)]
    have tail : ∀ (x1 x2 x3 x4 x5 x6 g : Int) (t6 : PrT), (ob (bif decide ((mU b n : Int) > 0) then (bif inB (IntKind.wrap IntKind.i64 ((mU b n : Int) - 1)) (((List.range (mU b n + 1)).map (dAt w.1.2 w.2.1.1)).length - 0) then
        (bif decide (nth ((List.range (mU b n + 1)).map (dAt w.1.2 w.2.1.1)) (0 : Int) ((IntKind.wrap IntKind.i64 ((mU b n : Int) - 1)).toNat) < w.2.2) then some (t6, (x1, (x2, (x3, (x4, (x5, (x6, (1 : Int))))))), rgl w b (mU b n - 1)) else some (t6, (x1, (x2, (x3, (x4, (x5, (x6, g)))))), rgl w b (mU b n - 1))) else none) else some (t6, (x1, (x2, (x3, (x4, (x5, (x6, g)))))), rgl w b (mU b n - 1))) (fun s3 => some (s3.2.1, s3.2.2))) =
        some ((x1, (x2, (x3, (x4, (x5, (x6, if dAt w.1.2 w.2.1.1 (mU b n - 1) < w.2.2 then 1 else g)))))), rgl w b (mU b n - 1)) := fun x1 x2 x3 x4 x5 x6 g t6 => by
      rw [dec_t (show (mU b n : Int) > 0 by omega), e3, len_map, inB_t (show mU b n - 1 < mU b n + 1 - 0 by omega), Int.toNat_natCast, nth_map _ _ _ (show mU b n - 1 < mU b n + 1 by omega)]
      by_cases h2 : dAt w.1.2 w.2.1.1 (mU b n - 1) < w.2.2
      · rw [dec_t h2, if_pos h2]; rfl
      · rw [dec_f h2, if_neg h2]; rfl
    by_cases h1 : w.2.2 ≤ dAt w.1.1 w.2.1.2 (mU b n - 1)
    · rw [if_pos h1, dec_f (show ¬ dAt w.1.1 w.2.1.2 (mU b n - 1) < w.2.2 by omega)]
      refine (tail _ _ _ _ _ _ _ _).trans ?_
      rw [if_neg (by omega)]
    · rw [if_neg h1, dec_t (show dAt w.1.1 w.2.1.2 (mU b n - 1) < w.2.2 by omega)]
      exact tail _ _ _ _ _ _ _ _
theorem srg_loop (F : Nat) (f : Nat → RgT) (q : Nat) (hq : q ≤ 2000) : ∀ (j k i : Nat), i + j = q → j < k → ∃ x, lsameRanges_L0 F ((List.range q).map f) ((List.range q).map f) k i = some (.inr x)
  | j, 0, i, _, hk => by omega
  | 0, k + 1, i, hi, _ => by
    have e : i = q := by omega
    subst e
    refine ⟨((List.range i).map f, (List.range i).map f), ?_⟩
    show (bif decide ((i : Int) < ((((List.range i).map f).length - 0 : Nat) : Int)) then _ else _) = _
    rw [len_rg, dec_f (by omega)]; rfl
  | j + 1, k + 1, i, hi, hk => by
    have e1 : IntKind.wrap IntKind.i64 ((i : Int) + 1) = ((i + 1 : Nat) : Int) := by rw [w64 _ (by omega)]; omega
    obtain ⟨x, hx⟩ := srg_loop F f q hq j k (i + 1) (by omega) (by omega)
    refine ⟨x, ?_⟩
    show (bif decide ((i : Int) < ((((List.range q).map f).length - 0 : Nat) : Int)) then (bif inB (i : Int) (((List.range q).map f).length - 0) then (bif inB (i : Int) (((List.range q).map f).length - 0) then (bif (bif true then (!(((nth ((List.range q).map f) (TC.dflt (TC.pair (TC.int IntKind.i64) (TC.int IntKind.i64))) i).1 == (nth ((List.range q).map f) (TC.dflt (TC.pair (TC.int IntKind.i64) (TC.int IntKind.i64))) i).1) && ((nth ((List.range q).map f) (TC.dflt (TC.pair (TC.int IntKind.i64) (TC.int IntKind.i64))) i).2 == (nth ((List.range q).map f) (TC.dflt (TC.pair (TC.int IntKind.i64) (TC.int IntKind.i64))) i).2))) else _) then _ else lsameRanges_L0 F ((List.range q).map f) ((List.range q).map f) k (IntKind.wrap IntKind.i64 ((i : Int) + 1))) else none) else none) else _) = _
    rw [beq_self_eq_true, beq_self_eq_true, e1, len_rg, dec_t (by omega), inB_t (show i < q - 0 by omega)]
    exact hx
theorem srg_eq (F : Nat) (hF : 2000 < F) (f : Nat → RgT) (q : Nat) (hq : q ≤ 2000) : lsameRanges_S F ((List.range q).map f) ((List.range q).map f) = some true := by
  unfold lsameRanges_S
  rw [show (((((List.range q).map f).length : Int) - 0) != ((((List.range q).map f).length : Int) - 0)) = false by unfold bne; rw [beq_self_eq_true]; rfl]
  obtain ⟨x, hx⟩ := srg_loop F f q hq q F 0 (by omega) (by omega)
  change ob (lsameRanges_L0 F ((List.range q).map f) ((List.range q).map f) F ((0 : Nat) : Int)) _ = _
  rw [hx]
theorem sP_loop (F : Nat) (t : RgT) (y : PrT) (f : Nat → RgT) (q : Nat) (hq : q ≤ 2000) : ∀ (j k i : Nat), i + j = q → j < k → sPredicts_L0 F t ((List.range q).map fun i => grd (f i) t) y ((List.range q).map f) k i = some (.inr ())
  | j, 0, i, _, hk => by omega
  | 0, k + 1, i, hi, _ => by
    have e : i = q := by omega
    subst e
    show (bif decide ((i : Int) < ((((List.range i).map fun i => grd (f i) t).length - 0 : Nat) : Int)) then _ else _) = _
    rw [len_rg, dec_f (by omega)]; rfl
  | j + 1, k + 1, i, hi, hk => by
    have e1 : IntKind.wrap IntKind.i64 ((i : Int) + 1) = ((i + 1 : Nat) : Int) := by rw [w64 _ (by omega)]; omega
    show (bif decide ((i : Int) < ((((List.range q).map fun i => grd (f i) t).length - 0 : Nat) : Int)) then (bif inB (i : Int) (((List.range q).map fun i => grd (f i) t).length - 0) then (bif inB (i : Int) (((List.range q).map f).length - 0) then
      ob (rGrade_S F (nth ((List.range q).map f) (TC.dflt (TC.pair (TC.int IntKind.i64) (TC.int IntKind.i64))) i) t) (fun r7 => bif (nth ((List.range q).map fun i => grd (f i) t) (0 : Int) i != r7) then some (.inl false) else sPredicts_L0 F t ((List.range q).map fun i => grd (f i) t) y ((List.range q).map f) k (IntKind.wrap IntKind.i64 ((i : Int) + 1))) else none) else none) else _) = _
    rw [nth_rg f _ q i (by omega), nth_rg (fun i => grd (f i) t) _ q i (by omega), rGrade_eq, e1, len_rg, len_rg, dec_t (by omega), inB_t (show i < q - 0 by omega)]
    show (bif (grd (f i) t != grd (f i) t) then _ else _) = _
    rw [bne_self_eq_false]
    exact sP_loop F t y f q hq j k (i + 1) (by omega) (by omega)
theorem llong_bad (F : Nat) (w : WrT) (b : WbT) (n : Int) (h : (ckI w b n == 0) = false) : llong_S F (w, (b, n)) = some false := by
  unfold llong_S
  rw [rCheck_eq]
  show (bif (ckI w b n == 0) then _ else _) = _
  rw [h]; rfl
theorem llong_ok' (F : Nat) (hF : 2000 < F) {w : WrT} {b : WbT} {n : Int} (h0 : ckI w b n = 0) : llong_S F (w, (b, n)) = some (decide ((mU b n : Int) > 200)) := by
  unfold llong_S
  rw [rCheck_eq, h0]
  change ob (rPlaces_S F b n) _ = _
  rw [places_eq F hF (vld_of h0)]
  show some (decide (((((List.range (mU b n)).map (plc b)).length - 0 : Nat) : Int) > 200)) = _
  rw [len_map, Nat.sub_zero]
theorem sPredicts_law0 (c : WrT × (WbT × Int)) (t : RgT) : sPredicts_S 3000 c t = some true := by
  obtain ⟨w, b, n⟩ := c
  unfold sPredicts_S
  cases hk : (ckI w b n == 0) with
  | false =>
    rw [llong_bad _ _ _ _ hk]
    change ob (check_S 3000 w b n) _ = _
    rw [check_eq]
    change ob (predict_S 3000 w b n) _ = _
    rw [predict_bad _ _ _ _ hk]
    change ob (judge_S 3000 w b n t) _ = _
    rw [judge_bad _ _ _ _ _ hk]
    change ob (rCheck_S 3000 w b n) _ = _
    rw [rCheck_eq]
    change (bif (ckI w b n != ckI w b n) then some false else (bif (ckI w b n != ckI w b n) then some false else (bif (ckI w b n != 0) then (bif (ckI w b n == ckI w b n) then some true else some false) else _))) = _
    rw [bne_self_eq_false, beq_self_eq_true, show (ckI w b n != 0) = true by unfold bne; rw [hk]; rfl]
    rfl
  | true =>
    have h0 : ckI w b n = 0 := eq_of_beq hk
    have hm := (ct_thick (vld_of h0)).hm
    rw [llong_ok' 3000 (by decide) h0]
    change (bif decide ((mU b n : Int) > 200) then _ else ob (check_S 3000 w b n) _) = _
    cases decide ((mU b n : Int) > 200) with
    | true => rfl
    | false =>
      rw [check_eq, h0]
      change ob (predict_S 3000 w b n) _ = _
      rw [predict_eq 3000 (by decide) h0]
      change ob (judge_S 3000 w b n t) _ = _
      rw [judge_eq 3000 (by decide) h0]
      change ob (rCheck_S 3000 w b n) _ = _
      rw [rCheck_eq, h0]
      change ob (rPredict_S 3000 w b n) _ = _
      rw [rPredict_eq 3000 (by decide) h0]
      change ob (ob (lsameRanges_S 3000 (rgl w b (mU b n - 1)) (rgl w b (mU b n - 1))) _) _ = _
      unfold rgl
      rw [srg_eq 3000 (by decide) _ _ (by omega)]
      generalize prd w b n (mU b n) = y
      obtain ⟨y1, y2, y3, y4, y5, y6, y7⟩ := y
      simp only [ob, beq_self_eq_true, bne_self_eq_false, Bool.not_true, Bool.and_self, cond_true, cond_false]
      cases ht : decide (t.1 > t.2) with
      | true => rfl
      | false =>
        simp only [cond_true, cond_false, List.map_map, len_rg, bne_self_eq_false]
        have := sP_loop 3000 t (y1, (y2, (y3, (y4, (y5, (y6, y7)))))) (fun i => (slf b w.1.2 w.2.1.1 b.2.2.2.2 i, slf b w.1.1 w.2.1.2 b.2.2.2.1 i)) (mU b n - 1) (by omega) (mU b n - 1) 3000 0 (by omega) (by omega)
        change ob (sPredicts_L0 3000 t ((List.range (mU b n - 1)).map fun i => grd (slf b w.1.2 w.2.1.1 b.2.2.2.2 i, slf b w.1.1 w.2.1.2 b.2.2.2.1 i) t) (y1, (y2, (y3, (y4, (y5, (y6, y7)))))) ((List.range (mU b n - 1)).map fun i => (slf b w.1.2 w.2.1.1 b.2.2.2.2 i, slf b w.1.1 w.2.1.2 b.2.2.2.1 i)) 3000 ((0 : Nat) : Int)) _ = _
        rw [this]
end Go.Proofs.YtdfgmfddkcmalaaDoor
