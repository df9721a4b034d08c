/- Plain laws of chapter 8, on: what is predicted. No condition. -/
import Derived.Test.YtdfgmfddkcmalaaDoorWLR8e
namespace Go.Proofs.YtdfgmfddkcmalaaDoor
open Go.RowKit
set_option maxRecDepth 100000
/-! Sums -/
def sm (f : Nat → Int) : Nat → Int
  | 0 => 0
  | k + 1 => sm f k + f k
theorem sm_range (f : Nat → Int) (c : Int) : ∀ (q : Nat), (∀ i, i < q → 0 ≤ f i ∧ f i ≤ c) → 0 ≤ sm f q ∧ sm f q ≤ (q : Int) * c
  | 0, _ => by simp [sm]
  | q + 1, h => by
    have h1 := sm_range f c q fun i hi => h i (by omega)
    have h2 := h q (by omega)
    have e : ((q + 1 : Nat) : Int) * c = (q : Int) * c + c := by rw [Int.natCast_add, Int.add_mul]; omega
    rw [e]
    unfold sm
    omega
theorem rSum_loop (F : Nat) (f : Nat → Int) (q : Nat) (hq : q ≤ 2000) (h : ∀ i, i < q → 0 ≤ f i ∧ f i ≤ 600000000) : ∀ (j k i : Nat), i + j = q → j < k →
    rSum_L0 F ((List.range q).map f) k (sm f i) i = some (sm f q, (List.range q).map f)
  | j, 0, i, _, hk => by omega
  | 0, k + 1, i, hi, _ => by
    have e : i = q := by omega
    subst e
    show (bif decide ((i : Int) < ((((List.range i).map f).length - 0 : Nat) : Int)) then _ else _) = _
    rw [len_map, dec_f (by omega)]; rfl
  | j + 1, k + 1, i, hi, hk => by
    have h1 := sm_range f 600000000 i fun x hx => h x (by omega)
    have h2 := h i (by omega)
    have h3 : (i : Int) * 600000000 ≤ 2000 * 600000000 := by omega
    have e1 : IntKind.wrap IntKind.i64 ((i : Int) + 1) = ((i + 1 : Nat) : Int) := by rw [w64 _ (by omega)]; omega
    have e2 : IntKind.wrap IntKind.i64 (sm f i + f i) = sm f (i + 1) := by rw [w64 _ (by omega)]; rfl
    show (bif decide ((i : Int) < ((((List.range q).map f).length - 0 : Nat) : Int)) then (bif inB (i : Int) (((List.range q).map f).length - 0) then rSum_L0 F ((List.range q).map f) k (IntKind.wrap IntKind.i64 (sm f i + nth ((List.range q).map f) (0 : Int) i)) (IntKind.wrap IntKind.i64 ((i : Int) + 1)) else none) else _) = _
    rw [nth_map _ _ _ (show i < q by omega), e1, e2, len_map, dec_t (by omega), inB_t (show i < q - 0 by omega)]
    simp only [cond_true]
    exact rSum_loop F f q hq h j k (i + 1) (by omega) (by omega)
theorem rSum_eq (F : Nat) (f : Nat → Int) (q : Nat) (hq : q ≤ 2000) (hF : 2000 < F) (h : ∀ i, i < q → 0 ≤ f i ∧ f i ≤ 600000000) : rSum_S F ((List.range q).map f) = some (sm f q) := by
  unfold rSum_S
  have := rSum_loop F f q hq h q F 0 (by omega) (by omega)
  change ob (rSum_L0 F ((List.range q).map f) F (sm f 0) ((0 : Nat) : Int)) _ = _
  rw [this]
theorem sum_same (F : Nat) (l : List Int) : ∀ (k : Nat) (v i : Int), sum_L0 F ((l.length - 0 : Nat) : Int) l k v i = rSum_L0 F l k v i
  | 0, _, _ => rfl
  | k + 1, v, i => by
    show (bif decide (i < ((l.length - 0 : Nat) : Int)) then (bif inB i (l.length - 0) then sum_L0 F ((l.length - 0 : Nat) : Int) l k (IntKind.wrap IntKind.i64 (v + nth l (0 : Int) i.toNat)) (IntKind.wrap IntKind.i64 (i + 1)) else none) else some (v, l)) = _
    rw [sum_same F l k]
    rfl
theorem sum_eq (F : Nat) (f : Nat → Int) (q : Nat) (hq : q ≤ 2000) (hF : 2000 < F) (h : ∀ i, i < q → 0 ≤ f i ∧ f i ≤ 600000000) : sum_S F ((List.range q).map f) = some (sm f q) := by
  have := rSum_eq F f q hq hF h
  unfold sum_S
  change ob (sum_L0 F (((((List.range q).map f).length - 0 : Nat) : Int)) ((List.range q).map f) F 0 0) _ = _
  rw [sum_same]
  exact this
/-! Both cuts of what is valid -/
def mU (b : WbT) (n : Int) : Nat := (usN b n).toNat
theorem mU_cast {w : WrT} {b : WbT} {n : Int} (h : Vld w b n) : ((mU b n : Nat) : Int) = usN b n := by
  have := us_range h
  unfold mU
  omega
theorem ct_thick {w : WrT} {b : WbT} {n : Int} (h : Vld w b n) : Ct b n w.1.2 w.2.1.1 b.2.2.2.2 (mU b n) := by
  have hu := us_range h
  have hc := mU_cast h
  have h1 := h.d; have h2 := h.e; have h3 := h.p; have h4 := h.g; have h5 := h.s; have h6 := h.y; have h7 := h.t; have h8 := h.n
  refine ⟨by omega, by omega, by omega, h3, h7, h5, h8, by omega, fun i hi => hu.2.2.1 i (by omega) (by omega), fun hm => ?_⟩
  have e : usN b n = 0 := by omega
  have := hu.2.2.2 (by omega)
  rw [e] at this
  simpa using this
theorem ct_thin {w : WrT} {b : WbT} {n : Int} (h : Vld w b n) : Ct b n w.1.1 w.2.1.2 b.2.2.2.1 (mU b n) := by
  have hu := us_range h
  have hc := mU_cast h
  have h1 := h.d; have h2 := h.e; have h3 := h.p; have h4 := h.g; have h5 := h.s; have h6 := h.y; have h7 := h.t; have h8 := h.n
  refine ⟨by omega, by omega, by omega, h3, by omega, h5, h8, by omega, fun i hi => hu.2.2.1 i (by omega) (by omega), fun hm => ?_⟩
  have e : usN b n = 0 := by omega
  have := hu.2.2.2 (by omega)
  rw [e] at this
  simpa using this
theorem dAt_mono {d d' wear wear' : Int} (hd : d ≤ d') (hw : wear' ≤ wear) (i : Nat) : dAt d wear i ≤ dAt d' wear' i := by
  unfold dAt mx0
  have := Int.mul_le_mul_of_nonneg_left hw (show 0 ≤ (i : Int) by omega)
  split <;> split <;> omega
theorem rsA_range {b : WbT} {n d wear sl : Int} {m : Nat} (h : Ct b n d wear sl m) : 0 ≤ rsA b n d wear sl m m ∧ rsA b n d wear sl m m ≤ 600000000 := by
  unfold rsA
  rw [if_pos rfl]
  by_cases hm : m = 0
  · rw [if_pos hm]; omega
  · rw [if_neg hm]
    have h1 := h.kfr (i := m - 1) (by omega)
    have h2 := h.hn
    obtain ⟨p1, p2, p3⟩ := h.plr (i := m - 1) (by have := h.hm; omega)
    have h3 := h.hst
    omega
theorem sls_m (b : WbT) (d wear sl : Int) (m : Nat) : sls b d wear sl m m = (List.range (m - 1)).map (slf b d wear sl) := by unfold sls; rw [if_neg (by omega)]
abbrev PrT := Int × (Int × (Int × (Int × (Int × (Int × Int)))))
def brk (w : WrT) (m : Nat) : Int := if m = 0 then 3 else if w.2.2 ≤ dAt w.1.1 w.2.1.2 (m - 1) then 3 else if dAt w.1.2 w.2.1.1 (m - 1) < w.2.2 then 1 else 2
def prd (w : WrT) (b : WbT) (n : Int) (m : Nat) : PrT :=
  (sm (kf b n w.1.1 w.2.1.2 b.2.2.2.1 m) m, (sm (kf b n w.1.2 w.2.1.1 b.2.2.2.2 m) m,
   (mn n b.2.2.1 + rsA b n w.1.2 w.2.1.1 b.2.2.2.2 m m, (mn n b.2.2.1 + rsA b n w.1.1 w.2.1.2 b.2.2.2.1 m m,
   (dAt w.1.1 w.2.1.2 m, (dAt w.1.2 w.2.1.1 m, brk w m))))))
def rgl (w : WrT) (b : WbT) (q : Nat) : List RgT := (List.range q).map fun i => (slf b w.1.2 w.2.1.1 b.2.2.2.2 i, slf b w.1.1 w.2.1.2 b.2.2.2.1 i)
theorem rg_succ (f : Nat → RgT) (n : Nat) : (List.range (n + 1)).map f = (List.range n).map f ++ [f n] := by
  rw [List.range_succ, List.map_append]; rfl
theorem zip_A (F : Nat) (most least : Int) (w1 : WrT) (t6 : PrT) (s1 : SwT) (wide narrow : RgT) (x : PrT) (f g : Nat → Int) (q : Nat) (hq : q ≤ 2000) (g41 g51 : List Int) : ∀ (j k i : Nat), i + j = q → j < k →
    predict_L0 F most least q w1 t6 s1 wide narrow x ((List.range q).map f) g41 ((List.range q).map g) g51 k i ((List.range i).map fun i => (f i, g i)) = some ((most, least), (w1, t6, s1, x, (List.range q).map fun i => (f i, g i)))
  | j, 0, i, _, hk => by omega
  | 0, k + 1, i, hi, _ => by
    have e : i = q := by omega
    subst e
    show (bif decide ((i : Int) < (i : Int)) then _ else _) = _
    rw [dec_f (by omega)]; rfl
  | j + 1, k + 1, i, hi, hk => by
    have e1 : IntKind.wrap IntKind.i64 ((i : Int) + 1) = ((i + 1 : Nat) : Int) := by rw [w64 _ (by omega)]; omega
    show (bif decide ((i : Int) < (q : Int)) then (bif inB (i : Int) (((List.range q).map f).length - 0) then (bif inB (i : Int) (((List.range q).map g).length - 0) then (bif lenOk (((List.range i).map fun i => (f i, g i)).length - 0) (((nth ((List.range q).map f) (0 : Int) i), (nth ((List.range q).map g) (0 : Int) i)) :: []).length then
      predict_L0 F most least q w1 t6 s1 wide narrow x ((List.range q).map f) g41 ((List.range q).map g) g51 k (IntKind.wrap IntKind.i64 ((i : Int) + 1)) (((List.range i).map fun i => (f i, g i)) ++ (((nth ((List.range q).map f) (0 : Int) i), (nth ((List.range q).map g) (0 : Int) i)) :: [])) else none) else none) else none) else _) = _
    rw [nth_map f _ _ (show i < q by omega), nth_map g _ _ (show i < q by omega), e1, len_map, len_map, List.length_map, List.length_range, dec_t (by omega), inB_t (show i < q - 0 by omega), lenOk_t (show i - 0 + [(f i, g i)].length ≤ 1000000 by simp; omega)]
    simp only [cond_true]
    rw [← rg_succ (fun i => (f i, g i))]
    exact zip_A F most least w1 t6 s1 wide narrow x f g q hq g41 g51 j k (i + 1) (by omega) (by omega)
theorem zip_R (F : Nat) (w1 : WrT) (t6 : PrT) (wide narrow : Int) (p r : RgT) (x : PrT) (f g : Nat → Int) (q : Nat) (hq : q ≤ 2000) (g3 g31 g4 g41 g51 g61 : List Int) : ∀ (j k i : Nat), i + j = q → j < k →
    rPredict_L0 F w1 t6 wide narrow p r x g3 g31 g4 g41 ((List.range q).map f) g51 ((List.range q).map g) g61 k i ((List.range i).map fun i => (f i, g i)) = some (w1, t6, wide, narrow, p, x, g3, g31, g4, g41, (List.range q).map f, g51, (List.range q).map fun i => (f i, g i))
  | j, 0, i, _, hk => by omega
  | 0, k + 1, i, hi, _ => by
    have e : i = q := by omega
    subst e
    show (bif decide ((i : Int) < ((((List.range i).map f).length - 0 : Nat) : Int)) then _ else _) = _
    rw [len_map, dec_f (by omega)]; rfl
  | j + 1, k + 1, i, hi, hk => by
    have e1 : IntKind.wrap IntKind.i64 ((i : Int) + 1) = ((i + 1 : Nat) : Int) := by rw [w64 _ (by omega)]; omega
    show (bif decide ((i : Int) < ((((List.range q).map f).length - 0 : Nat) : Int)) then (bif inB (i : Int) (((List.range q).map f).length - 0) then (bif inB (i : Int) (((List.range q).map g).length - 0) then (bif lenOk (((List.range i).map fun i => (f i, g i)).length - 0) (((nth ((List.range q).map f) (0 : Int) i), (nth ((List.range q).map g) (0 : Int) i)) :: []).length then
      rPredict_L0 F w1 t6 wide narrow p r x g3 g31 g4 g41 ((List.range q).map f) g51 ((List.range q).map g) g61 k (IntKind.wrap IntKind.i64 ((i : Int) + 1)) (((List.range i).map fun i => (f i, g i)) ++ (((nth ((List.range q).map f) (0 : Int) i), (nth ((List.range q).map g) (0 : Int) i)) :: [])) else none) else none) else none) else _) = _
    rw [nth_map f _ _ (show i < q by omega), nth_map g _ _ (show i < q by omega), e1, len_map, len_map, List.length_map, List.length_range, dec_t (by omega), inB_t (show i < q - 0 by omega), lenOk_t (show i - 0 + [(f i, g i)].length ≤ 1000000 by simp; omega)]
    simp only [cond_true]
    rw [← rg_succ (fun i => (f i, g i))]
    exact zip_R F w1 t6 wide narrow p r x f g q hq g3 g31 g4 g41 g51 g61 j k (i + 1) (by omega) (by omega)
theorem us_nat {w : WrT} {b : WbT} {n : Int} (F : Nat) (h : Vld w b n) : used_S F (w, (b, n)) = some (mU b n : Int) := by
  rw [used_eq F h, mU_cast h]
theorem top_range {w : WrT} {b : WbT} {n : Int} (h : Vld w b n) : 0 ≤ mn n b.2.2.1 ∧ mn n b.2.2.1 ≤ 600000000 := by
  have h1 := h.n; have h2 := h.s
  unfold mn
  split <;> omega
def lastD (d wear : Int) (m : Nat) : Int := if m = 0 then d else dAt d wear (m - 1)
theorem thick_eq (F : Nat) (hF : 2000 < F) {w : WrT} {b : WbT} {n : Int} (h : Vld w b n) : thick_S F (w, (b, n)) =
    some (((mn n b.2.2.1, rsA b n w.1.2 w.2.1.1 b.2.2.2.2 (mU b n) (mU b n)), (lastD w.1.2 w.2.1.1 (mU b n), dAt w.1.2 w.2.1.1 (mU b n))), (sls b w.1.2 w.2.1.1 b.2.2.2.2 (mU b n) (mU b n), kfs b n w.1.2 w.2.1.1 b.2.2.2.2 (mU b n) (mU b n))) := by
  unfold thick_S
  change ob (cutA_S F (w, (b, n)) w.1.2 (w.2.1.1, b.2.2.2.2)) _ = _
  rw [cutA_eq F (ct_thick h) hF w (us_nat F h)]
  rfl
theorem thin_eq (F : Nat) (hF : 2000 < F) {w : WrT} {b : WbT} {n : Int} (h : Vld w b n) : thin_S F (w, (b, n)) =
    some (((mn n b.2.2.1, rsA b n w.1.1 w.2.1.2 b.2.2.2.1 (mU b n) (mU b n)), (lastD w.1.1 w.2.1.2 (mU b n), dAt w.1.1 w.2.1.2 (mU b n))), (sls b w.1.1 w.2.1.2 b.2.2.2.1 (mU b n) (mU b n), kfs b n w.1.1 w.2.1.2 b.2.2.2.1 (mU b n) (mU b n))) := by
  unfold thin_S
  change ob (cutA_S F (w, (b, n)) w.1.1 (w.2.1.2, b.2.2.2.1)) _ = _
  rw [cutA_eq F (ct_thin h) hF w (us_nat F h)]
  rfl
theorem kfs_sum (F : Nat) (hF : 2000 < F) {b : WbT} {n d wear sl : Int} {m : Nat} (h : Ct b n d wear sl m) : sum_S F (kfs b n d wear sl m m) = some (sm (kf b n d wear sl m) m) ∧ rSum_S F (kfs b n d wear sl m m) = some (sm (kf b n d wear sl m) m) := by
  have h1 : ∀ i, i < m → 0 ≤ kf b n d wear sl m i ∧ kf b n d wear sl m i ≤ 600000000 := fun i hi => by
    have := h.kfr hi
    have := dAt_range h.hd.1 h.hw.1 i
    have := h.hd; have := h.hs
    omega
  exact ⟨sum_eq F _ m h.hm hF h1, rSum_eq F _ m h.hm hF h1⟩
theorem predict_eq (F : Nat) (hF : 2000 < F) {w : WrT} {b : WbT} {n : Int} (h0 : ckI w b n = 0) : predict_S F w b n = some ((prd w b n (mU b n), 0), rgl w b (mU b n - 1)) := by
  have h := vld_of h0
  have c1 := ct_thick h
  have c2 := ct_thin h
  have hm := c1.hm
  have t1 := top_range h
  have t2 := rsA_range c1
  have t3 := rsA_range c2
  unfold predict_S
  rw [check_eq, h0]
  change ob (thick_S F (w, (b, n))) _ = _
  rw [thick_eq F hF h]
  change ob (thin_S F (w, (b, n))) _ = _
  rw [thin_eq F hF h]
  change ob (sum_S F (kfs b n w.1.1 w.2.1.2 b.2.2.2.1 (mU b n) (mU b n))) _ = _
  rw [(kfs_sum F hF c2).1]
  change ob (sum_S F (kfs b n w.1.2 w.2.1.1 b.2.2.2.2 (mU b n) (mU b n))) _ = _
  rw [(kfs_sum F hF c1).1, sls_m, sls_m]
  change ob (predict_L0 F (lastD w.1.2 w.2.1.1 (mU b n)) (lastD w.1.1 w.2.1.2 (mU b n)) (((((List.range (mU b n - 1)).map (slf b w.1.2 w.2.1.1 b.2.2.2.2)).length - 0 : Nat)) : Int) w _ (w, (b, n)) (mn n b.2.2.1, rsA b n w.1.2 w.2.1.1 b.2.2.2.2 (mU b n) (mU b n)) (mn n b.2.2.1, rsA b n w.1.1 w.2.1.2 b.2.2.2.1 (mU b n) (mU b n))
    (sm (kf b n w.1.1 w.2.1.2 b.2.2.2.1 (mU b n)) (mU b n), (sm (kf b n w.1.2 w.2.1.1 b.2.2.2.2 (mU b n)) (mU b n), (IntKind.wrap IntKind.i64 (mn n b.2.2.1 + rsA b n w.1.2 w.2.1.1 b.2.2.2.2 (mU b n) (mU b n)), (IntKind.wrap IntKind.i64 (mn n b.2.2.1 + rsA b n w.1.1 w.2.1.2 b.2.2.2.1 (mU b n) (mU b n)), (dAt w.1.1 w.2.1.2 (mU b n), (dAt w.1.2 w.2.1.1 (mU b n), (2 : Int)))))))
    ((List.range (mU b n - 1)).map (slf b w.1.2 w.2.1.1 b.2.2.2.2)) (kfs b n w.1.2 w.2.1.1 b.2.2.2.2 (mU b n) (mU b n)) ((List.range (mU b n - 1)).map (slf b w.1.1 w.2.1.2 b.2.2.2.1)) (kfs b n w.1.1 w.2.1.2 b.2.2.2.1 (mU b n) (mU b n)) F ((0 : Nat) : Int) ((List.range 0).map fun i => (slf b w.1.2 w.2.1.1 b.2.2.2.2 i, slf b w.1.1 w.2.1.2 b.2.2.2.1 i))) _ = _
  rw [len_map, Nat.sub_zero, w64 (mn n b.2.2.1 + _) (by omega), w64 (mn n b.2.2.1 + _) (by omega), zip_A F _ _ _ _ _ _ _ _ (slf b w.1.2 w.2.1.1 b.2.2.2.2) (slf b w.1.1 w.2.1.2 b.2.2.2.1) (mU b n - 1) (by omega) _ _ (mU b n - 1) F 0 (by omega) (by omega)]
  change ob (ob (ob (used_S F (w, (b, n))) _) _) _ = _
  rw [us_nat F h]
  unfold prd brk
  by_cases hz : mU b n = 0
  · rw [if_pos hz]
    change ob (ob (bif ((mU b n : Int) == 0) then _ else _) _) _ = _
    rw [show ((mU b n : Int) == 0) = true from beq_iff_eq.2 (by omega)]
    rfl
  · rw [if_neg hz]
    change ob (ob (bif ((mU b n : Int) == 0) then _ else some ((lastD w.1.2 w.2.1.1 (mU b n), decide (lastD w.1.1 w.2.1.2 (mU b n) ≥ w.2.2)), _)) _) _ = _
    rw [show ((mU b n : Int) == 0) = false from beq_eq_false_iff_ne.2 (by omega)]
    unfold lastD
    rw [if_neg hz, if_neg hz]
    by_cases h1 : w.2.2 ≤ dAt w.1.1 w.2.1.2 (mU b n - 1)
    · rw [if_pos h1, dec_t (show dAt w.1.1 w.2.1.2 (mU b n - 1) ≥ w.2.2 from h1)]
      rfl
    · rw [if_neg h1, dec_f (show ¬ dAt w.1.1 w.2.1.2 (mU b n - 1) ≥ w.2.2 from h1)]
      change ob (bif decide (dAt w.1.2 w.2.1.1 (mU b n - 1) < w.2.2) then _ else _) _ = _
      by_cases h2 : dAt w.1.2 w.2.1.1 (mU b n - 1) < w.2.2
      · rw [if_pos h2, dec_t h2]; rfl
      · rw [if_neg h2, dec_f h2]; rfl
theorem predict_bad (F : Nat) (w : WrT) (b : WbT) (n : Int) (h : (ckI w b n == 0) = false) : predict_S F w b n = some (((0, (0, (0, (0, (0, (0, 0)))))), ckI w b n), []) := by
  unfold predict_S
  rw [check_eq]
  show (bif (ckI w b n != 0) then _ else _) = _
  rw [show (ckI w b n != 0) = true by unfold bne; rw [h]; rfl]
  rfl
end Go.Proofs.YtdfgmfddkcmalaaDoor
