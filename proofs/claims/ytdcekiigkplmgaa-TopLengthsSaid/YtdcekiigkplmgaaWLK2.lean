/- Plain laws of a cut that is followed: all that becomes of a block is together as long as it. No condition. -/
import Derived.Test.YtdcekiigkplmgaaWLK1
namespace Go.Proofs.Ytdcekiigkplmgaa
open Go.RowKit
set_option maxRecDepth 100000
abbrev CkT := Int × (Int × (Int × (Int × (Int × WbT))))
theorem place_eq (F : Nat) (T : List Int) (hT : ∀ x ∈ T, 0 ≤ x ∧ x ≤ 255) {i : Int} (hi : 0 ≤ i) : ∃ p, placeh_S F i T = some p ∧ 0 ≤ p ∧ p ≤ 255 := by
  unfold placeh_S
  rw [hold_eq]
  unfold place_S
  cases T with
  | nil => exact ⟨0, rfl, by omega⟩
  | cons x T =>
    have h0 : ((((x :: T).length : Int) - 0) == (0 : Int)) = false := beq_eq_false_iff_ne.2 (by simp only [List.length_cons]; omega)
    have h1 : 0 ≤ Int.tmod i (((x :: T).length : Int) - 0) := Int.tmod_nonneg _ hi
    have h2 : Int.tmod i (((x :: T).length : Int) - 0) < ((x :: T).length : Int) - 0 := Int.tmod_lt_of_pos _ (by simp only [List.length_cons]; omega)
    have h3 : ((Int.tmod i (((x :: T).length : Int) - 0)).toNat : Int) = Int.tmod i (((x :: T).length : Int) - 0) := Int.toNat_of_nonneg h1
    rw [h0]
    have h4 : inB (Int.tmod i (((x :: T).length : Int) - 0)) ((x :: T).length - 0) = true := by
      rw [← h3]; exact inB_t (by omega)
    refine ⟨nth (x :: T) (0 : Int) (Int.tmod i (((x :: T).length : Int) - 0)).toNat, ?_, ?_⟩
    · show (bif inB (Int.tmod i (((x :: T).length : Int) - 0)) ((x :: T).length - 0) then _ else none) = _
      rw [h4]; rfl
    · have hlt : (Int.tmod i (((x :: T).length : Int) - 0)).toNat < (x :: T).length := by omega
      unfold nth
      rw [List.getD_eq_getElem?_getD, List.getElem?_eq_getElem hlt]
      exact hT _ (List.getElem_mem hlt)
theorem at_eq (F : Nat) (r : RgT) (p : Int) (h : 0 ≤ r.1 ∧ r.1 ≤ r.2 ∧ r.2 ≤ 10000000) (hp : 0 ≤ p ∧ p ≤ 255) : ∃ v, atRh_S F r p = some v ∧ r.1 ≤ v ∧ v ≤ r.2 := by
  unfold atRh_S
  rw [hold_eq]
  have m1 : 0 ≤ (r.2 - r.1) * p := Int.mul_nonneg (by omega) hp.1
  have m2 : (r.2 - r.1) * p ≤ (r.2 - r.1) * 255 := Int.mul_le_mul_of_nonneg_left hp.2 (by omega)
  have d1 : 0 ≤ (r.2 - r.1) * p / 255 := Int.ediv_nonneg m1 (by omega)
  have d2 : (r.2 - r.1) * p / 255 ≤ r.2 - r.1 := by omega
  refine ⟨r.1 + (r.2 - r.1) * p / 255, ?_, by omega, by omega⟩
  show some (IntKind.wrap IntKind.i64 (r.1 + IntKind.wrap IntKind.i64 (Int.tdiv (IntKind.wrap IntKind.i64 (IntKind.wrap IntKind.i64 (r.2 - r.1) * IntKind.wrap IntKind.i64 p)) 255))) = _
  rw [w64 (r.2 - r.1) (by omega), w64 p (by omega), w64 ((r.2 - r.1) * p) (by omega), Int.tdiv_eq_ediv_of_nonneg m1, w64 ((r.2 - r.1) * p / 255) (by omega), w64 _ (by omega)]
theorem all_app {l : List Int} {a b x : Int} (h : l.all (fun x => inOk x a b) = true) (hx : a ≤ x ∧ x ≤ b) : (l ++ (x :: [])).all (fun x => inOk x a b) = true := by
  rw [List.all_append, h]
  simp only [List.all_cons, List.all_nil, Bool.true_and, Bool.and_true]
  unfold inOk
  rw [dec_t hx.1, dec_t hx.2]; rfl
theorem fo_loop (F : Nat) {w : WrT} {b : WbT} {n : Int} (hv : Vld w b n) (T : List Int) (hT : ∀ x ∈ T, 0 ≤ x ∧ x ≤ 255) (t4 : Int × Int) (t : Int) : ∀ (j k i : Nat) (G H : List Int), i + j = mU b n → j < k →
    G.length = i → H.length = i → G.all (fun x => inOk x w.2.1.1 w.2.1.2) = true → H.all (fun x => inOk x b.2.2.2.1 b.2.2.2.2) = true →
    ∃ G' H', followed_L0 F n T (w.1.1, (w.1.2, (w.2.1.1, (w.2.1.2, (w.2.2, b))))) t4 t k i G H = some (n, (T, (w.1.1, (w.1.2, (w.2.1.1, (w.2.1.2, (w.2.2, b))))), t4, t, G', H')) ∧ G'.length = mU b n ∧ H'.length = mU b n ∧ G'.all (fun x => inOk x w.2.1.1 w.2.1.2) = true ∧ H'.all (fun x => inOk x b.2.2.2.1 b.2.2.2.2) = true
  | j, 0, i, _, _, _, hk, _, _, _, _ => by omega
  | 0, k + 1, i, G, H, hi, _, lG, lH, aG, aH => by
    have u := us_range hv
    have hm := mU_cast hv
    have hp := hv.p; have hs := hv.s; have hg := hv.g; have hn := hv.n
    have e : i = mU b n := by omega
    refine ⟨G, H, ?_, by omega, by omega, aG, aH⟩
    show (bif decide ((i : Int) < b.2.1) then (bif decide (IntKind.wrap IntKind.i64 (b.2.2.1 + IntKind.wrap IntKind.i64 ((i : Int) * b.1)) < n) then _ else some (n, (T, _, t4, t, G, H))) else some (n, (T, _, t4, t, G, H))) = _
    by_cases h1 : (i : Int) < b.2.1
    · have h2 : n ≤ b.2.2.1 + (i : Int) * b.1 := by have := u.2.2.2 (by omega); rw [e, hm]; exact this
      have h3 : (i : Int) * b.1 ≤ 2000 * 10000000 := Int.mul_le_mul (by omega) hp.2 (by omega) (by omega)
      have h4 : 0 ≤ (i : Int) * b.1 := Int.mul_nonneg (by omega) (by omega)
      rw [dec_t h1, w64 ((i : Int) * b.1) (by omega), w64 _ (by omega), dec_f (show ¬ b.2.2.1 + (i : Int) * b.1 < n by omega)]; rfl
    · rw [dec_f h1]; rfl
  | j + 1, k + 1, i, G, H, hi, hk, lG, lH, aG, aH => by
    have u := us_range hv
    have hm := mU_cast hv
    have hp := hv.p; have hs := hv.s; have hg := hv.g; have hn := hv.n; have hd := hv.d; have he := hv.e; have hy := hv.y
    have h2 : b.2.2.1 + (i : Int) * b.1 < n := u.2.2.1 i (by omega) (by omega)
    have h3 : (i : Int) * b.1 ≤ 2000 * 10000000 := Int.mul_le_mul (by omega) hp.2 (by omega) (by omega)
    have h4 : 0 ≤ (i : Int) * b.1 := Int.mul_nonneg (by omega) (by omega)
    have e1 : IntKind.wrap IntKind.i64 ((i : Int) + 1) = ((i + 1 : Nat) : Int) := by rw [w64 _ (by omega)]; omega
    obtain ⟨p, q1, q2⟩ := place_eq F T hT (i := 2 * (i : Int) + 1) (by omega)
    obtain ⟨p', q1', q2'⟩ := place_eq F T hT (i := 2 * (i : Int) + 2) (by omega)
    obtain ⟨x, x1, x2⟩ := at_eq F w.2.1 p (by omega) q2
    obtain ⟨y, y1, y2⟩ := at_eq F b.2.2.2 p' (by omega) q2'
    obtain ⟨G', H', r1, r2⟩ := fo_loop F hv T hT t4 t j k (i + 1) (G ++ (x :: [])) (H ++ (y :: [])) (by omega) (by omega) (by simp [lG]) (by simp [lH]) (all_app aG x2) (all_app aH y2)
    refine ⟨G', H', ?_, r2⟩
    show (bif decide ((i : Int) < b.2.1) then (bif decide (IntKind.wrap IntKind.i64 (b.2.2.1 + IntKind.wrap IntKind.i64 ((i : Int) * b.1)) < n) then ob (placeh_S F (IntKind.wrap IntKind.i64 (IntKind.wrap IntKind.i64 (2 * (i : Int)) + 1)) T) (fun r3 => ob (atRh_S F w.2.1 r3) (fun r4 => bif lenOk (G.length - 0) (r4 :: []).length then ob (placeh_S F (IntKind.wrap IntKind.i64 (IntKind.wrap IntKind.i64 (2 * (i : Int)) + 2)) T) (fun r5 => ob (atRh_S F b.2.2.2 r5) (fun r6 => bif lenOk (H.length - 0) (r6 :: []).length then followed_L0 F n T (w.1.1, (w.1.2, (w.2.1.1, (w.2.1.2, (w.2.2, b))))) t4 t k (IntKind.wrap IntKind.i64 ((i : Int) + 1)) (G ++ (r4 :: [])) (H ++ (r6 :: [])) else none)) else none)) else _) else _) = _
    rw [dec_t (show (i : Int) < b.2.1 by omega), w64 ((i : Int) * b.1) (by omega), w64 (b.2.2.1 + _) (by omega), dec_t h2, w64 (2 * (i : Int)) (by omega), w64 (2 * (i : Int) + 1) (by omega), w64 (2 * (i : Int) + 2) (by omega), q1]
    show ob (atRh_S F w.2.1 p) _ = _
    rw [x1]
    show (bif lenOk (G.length - 0) (x :: []).length then _ else none) = _
    rw [lenOk_t (show G.length - 0 + (x :: []).length ≤ 1000000 by simp; omega)]
    show ob (placeh_S F _ T) _ = _
    rw [q1']
    show ob (atRh_S F b.2.2.2 p') _ = _
    rw [y1]
    show (bif lenOk (H.length - 0) (y :: []).length then _ else none) = _
    rw [lenOk_t (show H.length - 0 + (y :: []).length ≤ 1000000 by simp; omega), e1]
    exact r1
theorem so_loop (F : Nat) (f : Nat → Int) (q : Nat) (hq : q ≤ 2000) (h : ∀ i, i < q → 0 ≤ f i ∧ f i ≤ 600000000) : ∀ (j k i : Nat), i + j = q → j < k →
    sumOf_L0 F ((List.range q).map f) k (sm f i) i = some (sm f q, (List.range q).map f)
  | j, 0, i, _, hk => by omega
  | 0, k + 1, i, hi, _ => by
    have e : i = q := by omega
    subst e
    show (bif decide ((i : Int) < ((((List.range i).map f).length - 0 : Nat) : Int)) then _ else _) = _
    rw [len_map, dec_f (by omega)]; rfl
  | j + 1, k + 1, i, hi, hk => by
    have h1 := sm_range f 600000000 i fun x hx => h x (by omega)
    have h2 := h i (by omega)
    have h3 : (i : Int) * 600000000 ≤ 2000 * 600000000 := by omega
    have e1 : IntKind.wrap IntKind.i64 ((i : Int) + 1) = ((i + 1 : Nat) : Int) := by rw [w64 _ (by omega)]; omega
    have e2 : IntKind.wrap IntKind.i64 (sm f i + f i) = sm f (i + 1) := by rw [w64 _ (by omega)]; rfl
    show (bif decide ((i : Int) < ((((List.range q).map f).length - 0 : Nat) : Int)) then (bif inB (i : Int) (((List.range q).map f).length - 0) then sumOf_L0 F ((List.range q).map f) k (IntKind.wrap IntKind.i64 (sm f i + nth ((List.range q).map f) (0 : Int) i)) (IntKind.wrap IntKind.i64 ((i : Int) + 1)) else none) else _) = _
    rw [nth_map _ _ _ (show i < q by omega), e1, e2, len_map, dec_t (by omega), inB_t (show i < q - 0 by omega)]
    simp only [cond_true]
    exact so_loop F f q hq h j k (i + 1) (by omega) (by omega)
theorem so_eq (F : Nat) (f : Nat → Int) (q : Nat) (hq : q ≤ 2000) (hF : 2000 < F) (h : ∀ i, i < q → 0 ≤ f i ∧ f i ≤ 600000000) : sumOf_S F ((List.range q).map f) = some (sm f q) := by
  unfold sumOf_S
  have := so_loop F f q hq h q F 0 (by omega) (by omega)
  change ob (sumOf_L0 F ((List.range q).map f) F (sm f 0) ((0 : Nat) : Int)) _ = _
  rw [this]
/-- A cut that is valid is followed; what becomes of the block is together as long as it. -/
theorem followed_eq (F : Nat) (hF : 2000 < F) {w : WrT} {b : WbT} {n : Int} (h0 : ckI w b n = 0) (T : List Int) (hT : ∀ x ∈ T, 0 ≤ x ∧ x ≤ 255) :
    ∃ (top bot A B : Int) (S K : List Int), followed_S F (w, b) n T = some (((top, bot), true), (S, K)) ∧ sumOf_S F S = some A ∧ sumOf_S F K = some B ∧ top + bot + A + B = n ∧ (0 ≤ top ∧ top ≤ 600000000) ∧ (0 ≤ bot ∧ bot ≤ 600000000) ∧ (0 ≤ A ∧ A ≤ 1200000000000) ∧ (0 ≤ B ∧ B ≤ 1200000000000) := by
  have hv := vld_of h0
  have hd := hv.d
  obtain ⟨p, q1, q2⟩ := place_eq F T hT (i := 0) (by omega)
  obtain ⟨t, x1, x2⟩ := at_eq F w.1 p (by omega) q2
  have hm := (ct_thick hv).hm
  obtain ⟨G, H, r1, lG, lH, aG, aH⟩ := fo_loop F hv T hT (0, 0) t (mU b n) F 0 [] [] (by omega) (by omega) rfl rfl rfl rfl
  have hc : csOk w b t G H = true := by
    unfold csOk
    rw [aG, aH]
    unfold inOk
    rw [dec_t x2.1, dec_t x2.2]; rfl
  obtain ⟨cg, hG, ht⟩ := cg_of hv hc lG lH
  have hf := follow_fine F hF h0 t G H lG lH hc
  have hk : ∀ i, i < mU b n → 0 ≤ kg b n (dl t G) (sf H) (mU b n) i ∧ kg b n (dl t G) (sf H) (mU b n) i ≤ 600000000 := fun i hi => by
    have a1 := cg.kgr hi; have a2 := cg.hd i (by omega); have a3 := cg.hs i hi
    omega
  have hs : ∀ i, i < mU b n - 1 → 0 ≤ slg b (dl t G) (sf H) i ∧ slg b (dl t G) (sf H) i ≤ 600000000 := fun i hi => by
    have a1 := cg.ht i (by omega); have a2 := cg.hd i (by omega); have a3 := cg.hs i (by omega); have a4 := cg.hp
    unfold slg
    omega
  have es : sgs b (dl t G) (sf H) (mU b n) (mU b n) = (List.range (mU b n - 1)).map (slg b (dl t G) (sf H)) := by unfold sgs; rw [if_neg (by omega)]
  refine ⟨mn n b.2.2.1, rsG b n (dl t G) (sf H) (mU b n) (mU b n), sm (slg b (dl t G) (sf H)) (mU b n - 1), sm (kg b n (dl t G) (sf H) (mU b n)) (mU b n), sgs b (dl t G) (sf H) (mU b n) (mU b n), kgs b n (dl t G) (sf H) (mU b n) (mU b n), ?_, ?_, ?_, ?_, ?_, ?_, ?_, ?_⟩
  · unfold followed_S
    rw [check_eq, h0]
    change ob (placeh_S F 0 T) _ = _
    rw [q1]
    change ob (atRh_S F w.1 p) _ = _
    rw [x1]
    change ob (followed_L0 F n T (w.1.1, (w.1.2, (w.2.1.1, (w.2.1.2, (w.2.2, b))))) (0, 0) t F ((0 : Nat) : Int) [] []) _ = _
    rw [r1]
    change ob (follow_S F w b n t G H) _ = _
    rw [hf]; rfl
  · rw [es]; exact so_eq F _ _ (by omega) hF hs
  · exact so_eq F _ _ hm hF hk
  · have := course_sum cg
    omega
  · have := hv.n; have := hv.s
    unfold mn; split <;> omega
  · unfold rsG
    rw [if_pos rfl]
    by_cases hz : mU b n = 0
    · rw [if_pos hz]; omega
    · rw [if_neg hz]
      have a1 := cg.kgr (show mU b n - 1 < mU b n by omega)
      obtain ⟨p1, p2, p3⟩ := cg.plr (i := mU b n - 1) (by omega)
      have := hv.n; have := hv.s
      omega
  · have := sm_range _ 600000000 _ hs
    omega
  · have := sm_range _ 600000000 _ hk
    omega
theorem followed_bad (F : Nat) (w : WrT) (b : WbT) (n : Int) (T : List Int) (h : (ckI w b n == 0) = false) : followed_S F (w, b) n T = some (((0, 0), false), ([], [])) := by
  unfold followed_S
  rw [check_eq]
  change (bif (ckI w b n != 0) then _ else _) = _
  rw [show (ckI w b n != 0) = true by unfold bne; rw [h]; rfl]
  rfl
end Go.Proofs.Ytdcekiigkplmgaa
