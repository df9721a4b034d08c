/- The plain law of SlicePredicts. No condition. -/
import Derived.Test.YtdfgmfddkcmalaaDoorWLR8f
namespace Go.Proofs.YtdfgmfddkcmalaaDoor
open Go.RowKit
set_option maxRecDepth 100000
theorem nth_rg {α : Type} (f : Nat → α) (d : α) (n i : Nat) (h : i < n) : nth ((List.range n).map f) d i = f i := by
  unfold nth
  rw [List.getD_eq_getElem?_getD, List.getElem?_map, List.getElem?_range h]
  rfl
theorem len_rg {α : Type} (f : Nat → α) (n : Nat) : ((List.range n).map f).length = n := by rw [List.length_map, List.length_range]
def grd (r t : RgT) : Int := if t.1 ≤ r.1 ∧ r.2 ≤ t.2 then 1 else if r.1 ≤ t.2 ∧ t.1 ≤ r.2 then 2 else 3
theorem rGrade_eq (F : Nat) (r t : RgT) : rGrade_S F r t = some (grd r t) := by
  unfold rGrade_S grd
  by_cases h1 : t.1 ≤ r.1
  · rw [dec_t (show r.1 ≥ t.1 from h1)]
    by_cases h2 : r.2 ≤ t.2
    · rw [dec_t h2, if_pos ⟨h1, h2⟩]; rfl
    · rw [dec_f h2, if_neg (fun h => h2 h.2)]
      by_cases h3 : r.1 ≤ t.2
      · by_cases h4 : t.1 ≤ r.2
        · rw [if_pos ⟨h3, h4⟩]
          show (bif decide (r.1 ≤ t.2) then (bif decide (r.2 ≥ t.1) then _ else _) else _) = _
          rw [dec_t h3, dec_t (show r.2 ≥ t.1 from h4)]; rfl
        · rw [if_neg (fun h => h4 h.2)]
          show (bif decide (r.1 ≤ t.2) then (bif decide (r.2 ≥ t.1) then _ else _) else _) = _
          rw [dec_t h3, dec_f (show ¬ r.2 ≥ t.1 from h4)]; rfl
      · rw [if_neg (fun h => h3 h.1)]
        show (bif decide (r.1 ≤ t.2) then _ else _) = _
        rw [dec_f h3]; rfl
  · rw [dec_f (show ¬ r.1 ≥ t.1 from h1), if_neg (fun h => h1 h.1)]
    by_cases h3 : r.1 ≤ t.2
    · by_cases h4 : t.1 ≤ r.2
      · rw [if_pos ⟨h3, h4⟩]
        show (bif decide (r.1 ≤ t.2) then (bif decide (r.2 ≥ t.1) then _ else _) else _) = _
        rw [dec_t h3, dec_t (show r.2 ≥ t.1 from h4)]; rfl
      · rw [if_neg (fun h => h4 h.2)]
        show (bif decide (r.1 ≤ t.2) then (bif decide (r.2 ≥ t.1) then _ else _) else _) = _
        rw [dec_t h3, dec_f (show ¬ r.2 ≥ t.1 from h4)]; rfl
    · rw [if_neg (fun h => h3 h.1)]
      show (bif decide (r.1 ≤ t.2) then _ else _) = _
      rw [dec_f h3]; rfl
noncomputable def jN (F k : Nat) (t : RgT) (out : List Int) (L : List RgT) (q i g : Int) : Option (List Int) :=
  bif lenOk (out.length - 0) (g :: []).length then judge_L0 F k q (IntKind.wrap IntKind.i64 (i + 1)) t (out ++ (g :: [])) L else none
theorem judge_def (F k : Nat) (t : RgT) (out : List Int) (L : List RgT) (q i : Int) (lo hi : Int) (he : nth L (TC.dflt (TC.pair (TC.int IntKind.i64) (TC.int IntKind.i64))) i.toNat = (lo, hi)) :
    judge_L0 F (k + 1) q i t out L = bif decide (i < q) then (bif inB i (L.length - 0) then
      ob (bif decide (lo ≥ t.1) then (bif decide (hi ≤ t.2) then some (((1 : Int), q, i), (t, out, (lo, hi), L)) else some (((2 : Int), q, i), (t, out, (lo, hi), L))) else some (((2 : Int), q, i), (t, out, (lo, hi), L)))
      (fun s1 => ob (bif decide (s1.2.2.2.1.1 > s1.2.1.2) then some (((3 : Int), s1.1.2.1, s1.1.2.2), (s1.2.1, s1.2.2.1, s1.2.2.2.2)) else (bif decide (s1.2.2.2.1.2 < s1.2.1.1) then some (((3 : Int), s1.1.2.1, s1.1.2.2), (s1.2.1, s1.2.2.1, s1.2.2.2.2)) else some ((s1.1.1, s1.1.2.1, s1.1.2.2), (s1.2.1, s1.2.2.1, s1.2.2.2.2))))
        (fun s2 => jN F k s2.2.1 s2.2.2.1 s2.2.2.2 s2.1.2.1 s2.1.2.2 s2.1.1)) else none) else some out := by
  unfold judge_L0
  rw [he]
  rfl
theorem judge_step (F k : Nat) (t : RgT) (ht : t.1 ≤ t.2) (out : List Int) (L : List RgT) (q i : Int) (r : RgT) (hr : r.1 ≤ r.2) (he : nth L (TC.dflt (TC.pair (TC.int IntKind.i64) (TC.int IntKind.i64))) i.toNat = r) (hi : i < q) (hb : inB i (L.length - 0) = true) :
    judge_L0 F (k + 1) q i t out L = jN F k t out L q i (grd r t) := by
  obtain ⟨lo, hi'⟩ := r
  rw [judge_def F k t out L q i lo hi' he, dec_t hi, hb]
  simp only [cond_true]
  have h3 : ∀ g : Int, (g = 1 → t.1 ≤ lo ∧ hi' ≤ t.2) → g = (if t.1 ≤ lo ∧ hi' ≤ t.2 then 1 else 2) → (ob (bif decide (lo > t.2) then some (((3 : Int), q, i), (t, out, L)) else (bif decide (hi' < t.1) then some (((3 : Int), q, i), (t, out, L)) else some ((g, q, i), (t, out, L))))
        (fun s2 => jN F k s2.2.1 s2.2.2.1 s2.2.2.2 s2.1.2.1 s2.1.2.2 s2.1.1)) = jN F k t out L q i (grd (lo, hi') t) := fun g h hg => by
    have hr' : lo ≤ hi' := hr
    unfold grd
    by_cases c1 : lo > t.2
    · rw [dec_t c1, if_neg (fun h => by have := h.1; have := h.2; simp only at *; omega), if_neg (fun h => by have := h.1; simp only at *; omega)]; rfl
    · rw [dec_f c1]
      by_cases c2 : hi' < t.1
      · rw [dec_t c2, if_neg (fun h => by have := h.1; have := h.2; simp only at *; omega), if_neg (fun h => by have := h.2; simp only at *; omega)]; rfl
      · rw [dec_f c2]
        by_cases c3 : t.1 ≤ lo ∧ hi' ≤ t.2
        · rw [if_pos c3] at hg; rw [if_pos c3, hg]; rfl
        · rw [if_neg c3] at hg; rw [if_neg c3, if_pos ⟨by simp only; omega, by simp only; omega⟩, hg]; rfl
  by_cases c1 : t.1 ≤ lo
  · rw [dec_t (show lo ≥ t.1 from c1)]
    by_cases c2 : hi' ≤ t.2
    · rw [dec_t c2]
      exact h3 1 (fun _ => ⟨c1, c2⟩) (by rw [if_pos ⟨c1, c2⟩])
    · rw [dec_f c2]
      exact h3 2 (fun h => by cases h) (by rw [if_neg (fun h => c2 h.2)])
  · rw [dec_f (show ¬ lo ≥ t.1 from c1)]
    exact h3 2 (fun h => by cases h) (by rw [if_neg (fun h => c1 h.1)])
theorem judge_loop (F : Nat) (t : RgT) (ht : t.1 ≤ t.2) (f : Nat → RgT) (q : Nat) (hq : q ≤ 2000) (hf : ∀ i, i < q → (f i).1 ≤ (f i).2) : ∀ (j k i : Nat), i + j = q → j < k →
    judge_L0 F k q i t ((List.range i).map fun i => grd (f i) t) ((List.range q).map f) = some ((List.range q).map fun i => grd (f i) t)
  | j, 0, i, _, hk => by omega
  | 0, k + 1, i, hi, _ => by
    have e : i = q := by omega
    subst e
    show (bif decide ((i : Int) < (i : Int)) then _ else _) = _
    rw [dec_f (by omega)]; rfl
  | j + 1, k + 1, i, hi, hk => by
    have e1 : IntKind.wrap IntKind.i64 ((i : Int) + 1) = ((i + 1 : Nat) : Int) := by rw [w64 _ (by omega)]; omega
    rw [judge_step F k t ht _ _ q i (f i) (hf i (by omega)) (by rw [Int.toNat_natCast]; exact nth_rg f _ q i (by omega)) (by omega) (by rw [len_rg]; exact inB_t (by omega))]
    unfold jN
    rw [e1, len_rg, lenOk_t (show i - 0 + [grd (f i) t].length ≤ 1000000 by simp; omega)]
    simp only [cond_true]
    have e2 : (List.range (i + 1)).map (fun i => grd (f i) t) = (List.range i).map (fun i => grd (f i) t) ++ [grd (f i) t] := map_range_succ _ _
    rw [← e2]
    exact judge_loop F t ht f q hq hf j k (i + 1) (by omega) (by omega)
theorem judge_eq (F : Nat) (hF : 2000 < F) {w : WrT} {b : WbT} {n : Int} (h0 : ckI w b n = 0) (t : RgT) : judge_S F w b n t = some (bif decide (t.1 > t.2) then (2, []) else (0, (rgl w b (mU b n - 1)).map fun r => grd r t)) := by
  have h := vld_of h0
  have hm := (ct_thick h).hm
  unfold judge_S
  rw [predict_eq F hF h0]
  show (bif decide (t.1 > t.2) then some ((2 : Int), []) else ob (judge_L0 F F ((((rgl w b (mU b n - 1)).length - 0 : Nat)) : Int) ((0 : Nat) : Int) t ((List.range 0).map fun i => grd ((slf b w.1.2 w.2.1.1 b.2.2.2.2 i, slf b w.1.1 w.2.1.2 b.2.2.2.1 i)) t) (rgl w b (mU b n - 1))) _) = _
  by_cases ht : t.1 > t.2
  · rw [dec_t ht]; rfl
  · rw [dec_f ht]
    have h1 := h.d; have h2 := h.e; have h3 := h.y
    unfold rgl
    rw [len_rg, Nat.sub_zero, judge_loop F t (by omega) (fun i => (slf b w.1.2 w.2.1.1 b.2.2.2.2 i, slf b w.1.1 w.2.1.2 b.2.2.2.1 i)) (mU b n - 1) (by omega) (fun i _ => by
      have := dAt_mono (d := w.1.1) (d' := w.1.2) (wear := w.2.1.2) (wear' := w.2.1.1) (by omega) (by omega) i
      unfold slf
      show b.1 - _ ≤ b.1 - _
      omega) (mU b n - 1) F 0 (by omega) (by omega)]
    show some ((0 : Int), _) = some (0, _)
    rw [List.map_map]
    rfl
theorem judge_bad (F : Nat) (w : WrT) (b : WbT) (n : Int) (t : RgT) (h : (ckI w b n == 0) = false) : judge_S F w b n t = some (ckI w b n, []) := by
  unfold judge_S
  rw [predict_bad F w b n h]
  show (bif (ckI w b n != 0) then _ else _) = _
  rw [show (ckI w b n != 0) = true by unfold bne; rw [h]; rfl]
  rfl
end Go.Proofs.YtdfgmfddkcmalaaDoor
