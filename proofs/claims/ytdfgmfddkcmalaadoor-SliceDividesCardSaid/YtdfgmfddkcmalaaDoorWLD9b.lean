/- Plain laws of SliceDivides: the portion digit by digit. No condition. -/
import Derived.Test.YtdfgmfddkcmalaaDoorWLD8b
import Derived.Test.YtdfgmfddkcmalaaDoorWX8g

namespace Go.Proofs.YtdfgmfddkcmalaaDoor
open Go.RowKit
set_option maxRecDepth 100000
def di (ds : List Nat) : List Int := List.map (fun (d : Nat) => ((d : Nat) : Int)) ds
def hor : Nat → List Nat → Nat
  | v, [] => v
  | v, d :: t => hor (10 * v + d) t
theorem hor_ge : ∀ (t : List Nat) (v : Nat), v ≤ hor v t
  | [], v => Nat.le_refl _
  | d :: t, v => Nat.le_trans (by omega) (hor_ge t (10 * v + d))
theorem nth_di (ds : List Nat) (i : Nat) (h : i < ds.length) : nth (di ds) (0 : Int) i = ((ds[i] : Nat) : Int) := by
  unfold nth di
  rw [List.getD_eq_getElem?_getD, List.getElem?_map, List.getElem?_eq_getElem h]
  rfl
theorem len_di (ds : List Nat) : (di ds).length = ds.length := by unfold di; simp
theorem port0 (F : Nat) (a b : Int) : ∀ (j k x : Nat) (ds : List Nat), x < 10 ^ j → x ≤ 1000000000000000 → j < k → (∀ d ∈ ds, d < 10) → ds.length + j ≤ 100 →
    ∃ ds' : List Nat, rPortion_L0 F a b k x (di ds) = some ((a, b), di ds') ∧ hor 0 ds' = hor x ds ∧ (∀ d ∈ ds', d < 10) ∧ ds'.length ≤ ds.length + j
  | j, 0, _, _, _, _, hk, _, _ => by omega
  | 0, k + 1, x, ds, hx, _, _, hd, _ => by
    have : x = 0 := by omega
    subst this
    exact ⟨ds, rfl, rfl, hd, by omega⟩
  | j + 1, k + 1, x, ds, hx, hx2, hk, hd, hl => by
    by_cases h0 : x = 0
    · subst h0
      exact ⟨ds, rfl, rfl, hd, by omega⟩
    · obtain ⟨ds', h1, h2, h3, h4⟩ := port0 F a b j k (x / 10) (x % 10 :: ds) (by rw [Nat.pow_succ] at hx; omega) (by omega) (by omega) (fun d hd' => by
        rcases List.mem_cons.1 hd' with rfl | h
        · exact Nat.mod_lt _ (by decide)
        · exact hd d h) (by simp only [List.length_cons]; omega)
      refine ⟨ds', ?_, ?_, h3, by simp only [List.length_cons] at h4; omega⟩
      · rw [← h1]
        show (bif decide ((x : Int) > 0) then (bif lenOk ([Int.tmod (x : Int) 10].length - 0) (di ds).length then rPortion_L0 F a b k (IntKind.wrap IntKind.i64 (Int.tdiv (x : Int) 10)) ([Int.tmod (x : Int) 10] ++ di ds) else none) else _) = _
        rw [dec_t (show (x : Int) > 0 by omega), lenOk_t (by rw [len_di]; simp; omega), show Int.tdiv (x : Int) 10 = ((x / 10 : Nat) : Int) from rfl, show Int.tmod (x : Int) 10 = ((x % 10 : Nat) : Int) from rfl, w64 _ (by omega)]
        rfl
      · rw [h2]
        show hor (10 * (x / 10) + x % 10) ds = hor x ds
        rw [show 10 * (x / 10) + x % 10 = x by omega]
theorem port1 (F : Nat) (a b : Nat) (hb : 1 ≤ b ∧ b ≤ 600000000) (ha : a ≤ b) (ds : List Nat) (hd : ∀ d ∈ ds, d < 10) (hl : ds.length ≤ 200) : ∀ (j k i v : Nat), i + j = ds.length → j < k → hor v (ds.drop i) ≤ 1000000000000000 →
    rPortion_L1 F a b (di ds) k ((v * a / b : Nat) : Int) ((v * a % b : Nat) : Int) i = some ((hor v (ds.drop i) * a / b : Nat) : Int)
  | j, 0, i, _, _, hk, _ => by omega
  | 0, k + 1, i, v, hi, _, _ => by
    show (bif decide ((i : Int) < (((di ds).length - 0 : Nat) : Int)) then _ else _) = _
    rw [len_di, dec_f (by omega), List.drop_eq_nil_of_le (by omega)]; rfl
  | j + 1, k + 1, i, v, hi, hk, hv => by
    have e1 : IntKind.wrap IntKind.i64 ((i : Int) + 1) = ((i + 1 : Nat) : Int) := by rw [w64 _ (by omega)]; omega
    have hil : i < ds.length := by omega
    rw [List.drop_eq_getElem_cons hil] at hv ⊢
    have hdi : ds[i] < 10 := hd _ (List.getElem_mem hil)
    have hnx := nth_di ds i hil
    generalize ds[i] = dg at *
    have hv2 : hor (10 * v + dg) (ds.drop (i + 1)) ≤ 1000000000000000 := hv
    have hv3 := hor_ge (ds.drop (i + 1)) (10 * v + dg)
    have ih := port1 F a b hb ha ds hd hl j k (i + 1) (10 * v + dg) (by omega) (by omega) hv2
    have hva : v * a / b ≤ v := by
      apply Nat.div_le_of_le_mul
      rw [Nat.mul_comm b]
      exact Nat.mul_le_mul_left v ha
    have hr : v * a % b < b := Nat.mod_lt _ (by omega)
    have hdm := Nat.div_add_mod (v * a) b
    have hda : dg * a ≤ 9 * a := Nat.mul_le_mul_right a (by omega)
    have key : (10 * v + dg) * a = v * a % b * 10 + dg * a + b * (v * a / b * 10) := by
      rw [Nat.add_mul, Nat.mul_assoc 10 v a, ← Nat.mul_assoc b]
      generalize b * (v * a / b) = t at *
      generalize v * a % b = t2 at *
      omega
    have k1 : (10 * v + dg) * a / b = v * a / b * 10 + (v * a % b * 10 + dg * a) / b := by
      rw [key, Nat.add_mul_div_left _ _ (by omega), Nat.add_comm]
    have k2 : (10 * v + dg) * a % b = (v * a % b * 10 + dg * a) % b := by
      rw [key, Nat.add_mul_mod_self_left]
    rw [k1, k2] at ih
    show (bif decide ((i : Int) < (((di ds).length - 0 : Nat) : Int)) then (bif inB (i : Int) ((di ds).length - 0) then (bif (!((b : Int) == 0)) then (bif (!((b : Int) == 0)) then
      rPortion_L1 F a b (di ds) k (IntKind.wrap IntKind.i64 ((IntKind.wrap IntKind.i64 (((v * a / b : Nat) : Int) * 10)) + (IntKind.wrap IntKind.i64 (Int.tdiv (IntKind.wrap IntKind.i64 ((IntKind.wrap IntKind.i64 (((v * a % b : Nat) : Int) * 10)) + (IntKind.wrap IntKind.i64 (nth (di ds) (0 : Int) i * (a : Int))))) (b : Int))))) (Int.tmod (IntKind.wrap IntKind.i64 ((IntKind.wrap IntKind.i64 (((v * a % b : Nat) : Int) * 10)) + (IntKind.wrap IntKind.i64 (nth (di ds) (0 : Int) i * (a : Int))))) (b : Int)) (IntKind.wrap IntKind.i64 ((i : Int) + 1))
      else none) else none) else none) else _) = _
    have m1 : nth (di ds) (0 : Int) i * (a : Int) = ((dg * a : Nat) : Int) := by rw [hnx]; exact (Int.natCast_mul _ _).symm
    rw [m1, e1, len_di, dec_t (by omega), inB_t (show i < ds.length - 0 by omega), show ((b : Int) == 0) = false from beq_eq_false_iff_ne.2 (by omega)]
    generalize v * a / b = q at *
    generalize v * a % b = r at *
    generalize dg * a = p at *
    have r1 : IntKind.wrap IntKind.i64 ((IntKind.wrap IntKind.i64 ((r : Int) * 10)) + (IntKind.wrap IntKind.i64 (p : Int))) = ((r * 10 + p : Nat) : Int) := by
      rw [w64 ((r : Int) * 10) (by omega), w64 (p : Int) (by omega), w64 _ (by omega)]; omega
    have hle : (r * 10 + p) / b ≤ r * 10 + p := Nat.div_le_self _ _
    rw [r1, show Int.tdiv ((r * 10 + p : Nat) : Int) (b : Int) = (((r * 10 + p) / b : Nat) : Int) from rfl, show Int.tmod ((r * 10 + p : Nat) : Int) (b : Int) = (((r * 10 + p) % b : Nat) : Int) from rfl]
    generalize hz : (r * 10 + p) / b = z at *
    have r2 : IntKind.wrap IntKind.i64 ((IntKind.wrap IntKind.i64 ((q : Int) * 10)) + (IntKind.wrap IntKind.i64 (z : Int))) = ((q * 10 + z : Nat) : Int) := by
      rw [w64 ((q : Int) * 10) (by omega), w64 (z : Int) (by omega), w64 _ (by omega)]; omega
    rw [r2]
    exact ih
theorem portion_eq (F : Nat) (hF : 2000 < F) (n a b : Nat) (hn : n ≤ 1000000000000000) (hb : 1 ≤ b ∧ b ≤ 600000000) (ha : a ≤ b) : rPortion_S F n a b = some ((n * a / b : Nat) : Int) := by
  obtain ⟨ds, h1, h2, h3, h4⟩ := port0 F a b 16 F n [] (Nat.lt_of_le_of_lt hn (by decide)) hn (by omega) (by simp) (by simp)
  unfold rPortion_S
  change ob (rPortion_L0 F a b F n (di [])) _ = _
  rw [h1]
  have h5 : hor 0 ds = n := h2
  have p1 := port1 F a b hb ha ds h3 (by simp at h4; omega) ds.length F 0 0 (by omega) (by simp at h4; omega) (by rw [List.drop_zero, h5]; exact hn)
  rw [List.drop_zero, h5, Nat.zero_mul, Nat.zero_div, Nat.zero_mod] at p1
  change ob (rPortion_L1 F a b (di ds) F ((0 : Nat) : Int) ((0 : Nat) : Int) ((0 : Nat) : Int)) _ = _
  rw [p1]
end Go.Proofs.YtdfgmfddkcmalaaDoor


namespace Go.Proofs.YtdfgmfddkcmalaaDoor
open Go.RowKit
set_option maxRecDepth 100000
noncomputable def d3 (F : Nat) (s3 : (Int × Int) × (List Int × (List Int × ((Int × Int) × (List Int × (List Int × List Int)))))) : Option Bool := (bif (lenOk (s3.2.2.2.2.2.2.length - 0) (s3.1.2 :: []).length) then (bif ((((s3.2.2.2.2.2.2 ++ (s3.1.2 :: [])).length - 0) : Int) != ((s3.2.2.2.2.2.1.length - 0) : Int)) then (some false) else (bif (((s3.2.2.2.2.1.length - 0) : Int) != ((s3.2.2.1.length - 0) : Int)) then (some false) else (ob (rSum_S F s3.2.2.2.2.2.1) (fun r5 => (ob (sDivides_L1 F s3.1.1 r5 s3.2.1 s3.2.2.1 s3.2.2.2.2.2.1 (s3.2.2.2.2.2.2 ++ (s3.1.2 :: [])) F (0 : Int) (0 : Int) (0 : Int)) (fun o_ => su o_ (fun s4 => (some s4.1)) (fun s5 => (some true)))))))) else none)
noncomputable def d2 (F : Nat) (s2 : (Int × (Int × (Int × (Int × Int)))) × (List Int × (List Int × ((Int × Int) × ((Int × Int) × (List Int × (List Int × (List Int × (List Int × List Int))))))))) : Option Bool := (ob (sameParts_S F s2.2.2.2.2.1 s2.2.2.2.1 s2.2.2.2.2.2.2.2.2.1 s2.2.2.2.2.2.2.2.2.2 s2.2.1 s2.2.2.1) (fun r4 => (bif (!r4) then (some false) else (bif (s2.1.2.2.2.1 != s2.1.2.2.2.2) then (some false) else (bif (s2.1.2.2.2.2 != (0 : Int)) then (bif (s2.1.2.1 == (0 : Int)) then (bif (s2.1.2.2.1 == (0 : Int)) then (bif ((IntKind.wrap IntKind.i64 (((s2.2.2.2.2.2.1.length - 0) : Int) + ((s2.2.2.2.2.2.2.1.length - 0) : Int))) == (0 : Int)) then (some true) else (some false)) else (some false)) else (some false)) else (ob (sDivides_L0 F s2.1.1 s2.1.2.2.1 s2.2.1 s2.2.2.1 s2.2.2.2.1 s2.2.2.2.2.2.1 s2.2.2.2.2.2.2.1 s2.2.2.2.2.2.2.2.1 F (0 : Int) (s2.1.2.1 :: [])) (fun s3 => d3 F s3)))))))
theorem div_def (F : Nat) (n : Int) (p : Int × Int) (p_Slices p_Kerfs : List Int) : sDivides_S F n p p_Slices p_Kerfs = (bif (decide (((p_Kerfs.length - 0) : Int) > (250 : Int))) then (some true) else (bif (decide (((p_Slices.length - 0) : Int) > (250 : Int))) then (some true) else (ob (ints_S F p_Slices) (fun r => (ob (ints_S F p_Kerfs) (fun r1 => (ob (divide_S F n p r r1) (fun r2 => (ob (rLengths_S F p p_Slices p_Kerfs) (fun r3 => (ob (bif (!r3.1) then (some ((n, r2.1.1, r2.1.2.1, r2.1.2.2, (2 : Int)), (p_Slices, p_Kerfs, p, p, r2.2.1, r2.2.2, r3.2, r, r1))) else (some ((n, r2.1.1, r2.1.2.1, r2.1.2.2, (0 : Int)), (p_Slices, p_Kerfs, p, p, r2.2.1, r2.2.2, r3.2, r, r1)))) (fun s1 => (ob (bif (decide (s1.1.1 < (0 : Int))) then (some ((s1.1.1, s1.1.2.1, s1.1.2.2.1, s1.1.2.2.2.1, (3 : Int)), (s1.2.1, s1.2.2.1, s1.2.2.2.1, s1.2.2.2.2.1, s1.2.2.2.2.2.1, s1.2.2.2.2.2.2.1, s1.2.2.2.2.2.2.2.1, s1.2.2.2.2.2.2.2.2.1, s1.2.2.2.2.2.2.2.2.2))) else (bif (decide (s1.1.1 > (1000000000000000 : Int))) then (some ((s1.1.1, s1.1.2.1, s1.1.2.2.1, s1.1.2.2.2.1, (3 : Int)), (s1.2.1, s1.2.2.1, s1.2.2.2.1, s1.2.2.2.2.1, s1.2.2.2.2.2.1, s1.2.2.2.2.2.2.1, s1.2.2.2.2.2.2.2.1, s1.2.2.2.2.2.2.2.2.1, s1.2.2.2.2.2.2.2.2.2))) else (some ((s1.1.1, s1.1.2.1, s1.1.2.2.1, s1.1.2.2.2.1, s1.1.2.2.2.2), (s1.2.1, s1.2.2.1, s1.2.2.2.1, s1.2.2.2.2.1, s1.2.2.2.2.2.1, s1.2.2.2.2.2.2.1, s1.2.2.2.2.2.2.2.1, s1.2.2.2.2.2.2.2.2.1, s1.2.2.2.2.2.2.2.2.2))))) (fun s2 => d2 F s2)))))))))))))) := rfl
theorem ints_eq' (F : Nat) (l : List Int) (h : l.length ≤ 250) : ints_S F l = some l := by
  unfold ints_S
  rw [lenOk_t (by omega)]
  rfl
theorem rin_eq9 (F : Nat) (n a b : Int) : rin_S F n a b = some (inOk n a b) := by
  unfold rin_S inOk
  change (bif decide (a ≤ n) then _ else _) = _
  cases decide (a ≤ n) <;> rfl
theorem rl_loop (F : Nat) (T B : Int) (K S : List Int) (p : Int × Int) (h : S.length = K.length - 1) (hK : K.length ≤ 2000) : ∀ (j k i : Nat), i + j = K.length → j < k →
    rLengths_L0 F S K p k i ((List.range (lp K.length i)).map (ll T B K S)) = some (S, (K, (p, (List.range (lp K.length K.length)).map (ll T B K S))))
  | j, 0, i, _, hk => by omega
  | 0, k + 1, i, hi, _ => by
    have e : i = K.length := by omega
    subst e
    show (bif decide (((K.length : Nat) : Int) < (K.length : Int) - 0) then _ else _) = _
    rw [dec_f (by omega)]; rfl
  | j + 1, k + 1, i, hi, hk => by
    have e1 : IntKind.wrap IntKind.i64 ((i : Int) + 1) = ((i + 1 : Nat) : Int) := by rw [w64 _ (by omega)]; omega
    have hl : lp K.length i = 2 * i + 1 := by unfold lp; rw [if_pos (by omega)]
    show (bif decide ((i : Int) < (K.length : Int) - 0) then (bif inB (i : Int) (K.length - 0) then (bif lenOk (((List.range (lp K.length i)).map (ll T B K S)).length - 0) [nth K (0 : Int) i].length then
      (bif decide ((i : Int) < (S.length : Int) - 0) then (bif inB (i : Int) (S.length - 0) then (bif lenOk ((((List.range (lp K.length i)).map (ll T B K S)) ++ [nth K (0 : Int) i]).length - 0) [nth S (0 : Int) i].length then
      rLengths_L0 F S K p k (IntKind.wrap IntKind.i64 ((i : Int) + 1)) ((((List.range (lp K.length i)).map (ll T B K S)) ++ [nth K (0 : Int) i]) ++ [nth S (0 : Int) i]) else none) else none)
      else rLengths_L0 F S K p k (IntKind.wrap IntKind.i64 ((i : Int) + 1)) (((List.range (lp K.length i)).map (ll T B K S)) ++ [nth K (0 : Int) i])) else none) else none) else _) = _
    rw [e1, dec_t (by omega), inB_t (show i < K.length - 0 by omega), len_map, hl, lenOk_t (show 2 * i + 1 - 0 + [nth K (0 : Int) i].length ≤ 1000000 by simp; omega)]
    simp only [cond_true]
    by_cases hm : i + 1 < K.length
    · rw [dec_t (by omega), inB_t (show i < S.length - 0 by omega), List.length_append, len_map, lenOk_t (by simp; omega)]
      simp only [cond_true]
      rw [← ll_k T B h (show i < K.length by omega), ← ll_s T B h hm, ← map_range_succ, ← map_range_succ]
      have hl2 : 2 * i + 1 + 1 + 1 = lp K.length (i + 1) := by unfold lp; rw [if_pos hm]; omega
      rw [hl2]
      exact rl_loop F T B K S p h hK j k (i + 1) (by omega) (by omega)
    · rw [dec_f (by omega)]
      simp only [cond_false]
      rw [← ll_k T B h (show i < K.length by omega), ← map_range_succ]
      have hl2 : 2 * i + 1 + 1 = lp K.length (i + 1) := by unfold lp; rw [if_neg hm, if_neg (by omega)]; omega
      rw [hl2]
      exact rl_loop F T B K S p h hK j k (i + 1) (by omega) (by omega)
theorem got_loop (F : Nat) (n1 bo : Int) (g0 g1 : List Int) (p : Int × Int) (f : Nat → Int) (m s : Nat) (h : s = m - 1) (hm : m ≤ 2000) (l : List Int) : ∀ (j k i : Nat), i + j = m → j < k →
    sDivides_L0 F n1 bo g0 g1 p ((List.range m).map (fun j => f (2 * j + 1))) ((List.range s).map (fun j => f (2 * j + 2))) l k i ((List.range (lp m i)).map f) = some ((n1, bo), (g0, (g1, (p, ((List.range m).map (fun j => f (2 * j + 1)), (l, (List.range (lp m m)).map f))))))
  | j, 0, i, _, hk => by omega
  | 0, k + 1, i, hi, _ => by
    have e : i = m := by omega
    subst e
    show (bif decide (((i : Nat) : Int) < (((List.range i).map (fun j => f (2 * j + 1))).length : Int) - 0) then _ else _) = _
    rw [len_rg, dec_f (by omega)]; rfl
  | j + 1, k + 1, i, hi, hk => by
    have e1 : IntKind.wrap IntKind.i64 ((i : Int) + 1) = ((i + 1 : Nat) : Int) := by rw [w64 _ (by omega)]; omega
    have hl : lp m i = 2 * i + 1 := by unfold lp; rw [if_pos (by omega)]
    show (bif decide ((i : Int) < (((List.range m).map (fun j => f (2 * j + 1))).length : Int) - 0) then (bif inB (i : Int) (((List.range m).map (fun j => f (2 * j + 1))).length - 0) then (bif lenOk (((List.range (lp m i)).map f).length - 0) [nth ((List.range m).map (fun j => f (2 * j + 1))) (0 : Int) i].length then
      (bif decide ((i : Int) < (((List.range s).map (fun j => f (2 * j + 2))).length : Int) - 0) then (bif inB (i : Int) (((List.range s).map (fun j => f (2 * j + 2))).length - 0) then (bif lenOk ((((List.range (lp m i)).map f) ++ [nth ((List.range m).map (fun j => f (2 * j + 1))) (0 : Int) i]).length - 0) [nth ((List.range s).map (fun j => f (2 * j + 2))) (0 : Int) i].length then
      sDivides_L0 F n1 bo g0 g1 p ((List.range m).map (fun j => f (2 * j + 1))) ((List.range s).map (fun j => f (2 * j + 2))) l k (IntKind.wrap IntKind.i64 ((i : Int) + 1)) ((((List.range (lp m i)).map f) ++ [nth ((List.range m).map (fun j => f (2 * j + 1))) (0 : Int) i]) ++ [nth ((List.range s).map (fun j => f (2 * j + 2))) (0 : Int) i]) else none) else none)
      else sDivides_L0 F n1 bo g0 g1 p ((List.range m).map (fun j => f (2 * j + 1))) ((List.range s).map (fun j => f (2 * j + 2))) l k (IntKind.wrap IntKind.i64 ((i : Int) + 1)) (((List.range (lp m i)).map f) ++ [nth ((List.range m).map (fun j => f (2 * j + 1))) (0 : Int) i])) else none) else none) else _) = _
    rw [e1, len_map, len_map, len_map, nth_map _ _ _ (show i < m by omega), dec_t (by omega), inB_t (show i < m - 0 by omega), hl, lenOk_t (show 2 * i + 1 - 0 + [f (2 * i + 1)].length ≤ 1000000 by simp; omega)]
    simp only [cond_true]
    by_cases hm' : i + 1 < m
    · rw [dec_t (by omega), inB_t (show i < s - 0 by omega), nth_map _ _ _ (show i < s by omega), List.length_append, len_map, lenOk_t (by simp; omega)]
      simp only [cond_true]
      rw [← map_range_succ, ← map_range_succ]
      have hl2 : 2 * i + 1 + 1 + 1 = lp m (i + 1) := by unfold lp; rw [if_pos hm']; omega
      rw [hl2]
      exact got_loop F n1 bo g0 g1 p f m s h hm l j k (i + 1) (by omega) (by omega)
    · rw [dec_f (by omega)]
      simp only [cond_false]
      rw [← map_range_succ]
      have hl2 : 2 * i + 1 + 1 = lp m (i + 1) := by unfold lp; rw [if_neg hm', if_neg (by omega)]; omega
      rw [hl2]
      exact got_loop F n1 bo g0 g1 p f m s h hm l j k (i + 1) (by omega) (by omega)
theorem rl1_good (F : Nat) (g0 g1 : List Int) (f : Nat → Int) (q : Nat) (hq : q ≤ 2000) (h : ∀ i, i < q → 0 ≤ f i ∧ f i ≤ 600000000) : ∀ (j k i : Nat), i + j = q → j < k →
    rLengths_L1 F g0 g1 ((List.range q).map f) k (sm f i) i = some (.inr (sm f q, (g0, (g1, (List.range q).map f))))
  | j, 0, i, _, hk => by omega
  | 0, k + 1, i, hi, _ => by
    have e : i = q := by omega
    subst e
    show (bif decide ((i : Int) < (((List.range i).map f).length : Int) - 0) then _ else _) = _
    rw [len_map, dec_f (by omega)]; rfl
  | j + 1, k + 1, i, hi, hk => by
    have h1 := sm_range f 600000000 i fun x hx => h x (by omega)
    have h2 := h i (by omega)
    have h3 : (i : Int) * 600000000 ≤ 2000 * 600000000 := by omega
    have e1 : IntKind.wrap IntKind.i64 ((i : Int) + 1) = ((i + 1 : Nat) : Int) := by rw [w64 _ (by omega)]; omega
    have e2 : IntKind.wrap IntKind.i64 (sm f i + f i) = sm f (i + 1) := by rw [w64 _ (by omega)]; rfl
    show (bif decide ((i : Int) < (((List.range q).map f).length : Int) - 0) then (bif inB (i : Int) (((List.range q).map f).length - 0) then ob (rin_S F (nth ((List.range q).map f) (0 : Int) i) 0 600000000) (fun r => (bif (!r) then some (.inl (false, (g0, g1))) else (bif inB (i : Int) (((List.range q).map f).length - 0) then rLengths_L1 F g0 g1 ((List.range q).map f) k (IntKind.wrap IntKind.i64 (sm f i + nth ((List.range q).map f) (0 : Int) i)) (IntKind.wrap IntKind.i64 ((i : Int) + 1)) else none))) else none) else _) = _
    rw [nth_map _ _ _ (show i < q by omega), e1, e2, len_map, dec_t (by omega), inB_t (show i < q - 0 by omega), rin_eq9, show inOk (f i) 0 600000000 = true by unfold inOk; rw [dec_t h2.1, dec_t h2.2]; rfl]
    exact rl1_good F g0 g1 f q hq h j k (i + 1) (by omega) (by omega)
theorem rl1_bad (F : Nat) (g0 g1 : List Int) (f : Nat → Int) (q : Nat) (hq : q ≤ 2000) : ∀ (j k i : Nat) (v : Int), i + j = q → j < k → (∃ x, i ≤ x ∧ x < q ∧ ¬ (0 ≤ f x ∧ f x ≤ 600000000)) →
    rLengths_L1 F g0 g1 ((List.range q).map f) k v i = some (.inl (false, (g0, g1)))
  | j, 0, i, _, _, hk, _ => by omega
  | 0, k + 1, i, v, hi, _, ⟨x, h1, h2, _⟩ => by omega
  | j + 1, k + 1, i, v, hi, hk, ⟨x, h1, h2, h3⟩ => by
    have e1 : IntKind.wrap IntKind.i64 ((i : Int) + 1) = ((i + 1 : Nat) : Int) := by rw [w64 _ (by omega)]; omega
    show (bif decide ((i : Int) < (((List.range q).map f).length : Int) - 0) then (bif inB (i : Int) (((List.range q).map f).length - 0) then ob (rin_S F (nth ((List.range q).map f) (0 : Int) i) 0 600000000) (fun r => (bif (!r) then some (.inl (false, (g0, g1))) else (bif inB (i : Int) (((List.range q).map f).length - 0) then rLengths_L1 F g0 g1 ((List.range q).map f) k (IntKind.wrap IntKind.i64 (v + nth ((List.range q).map f) (0 : Int) i)) (IntKind.wrap IntKind.i64 ((i : Int) + 1)) else none))) else none) else _) = _
    rw [nth_map _ _ _ (show i < q by omega), e1, len_map, dec_t (by omega), inB_t (show i < q - 0 by omega), rin_eq9]
    cases hb : inOk (f i) 0 600000000 with
    | false => rfl
    | true =>
      unfold inOk at hb
      simp only [Bool.and_eq_true, decide_eq_true_eq] at hb
      have hne : i ≠ x := fun e => h3 (e ▸ hb)
      exact rl1_bad F g0 g1 f q hq j k (i + 1) _ (by omega) (by omega) ⟨x, by omega, h2, h3⟩
/-- The shape of parts. -/
def Shp (B : Int) (K S : List Int) : Prop := S.length = K.length - 1 ∧ (K.length = 0 → B = 0)
theorem rl_shape (F : Nat) (hF : 2000 < F) {T B : Int} {K S : List Int} (h : Shp B K S) (hK : K.length ≤ 900) : rLengths_S F (T, B) S K =
    ob (rLengths_L1 F S K ((List.range (K.length + S.length + 2)).map (ll T B K S)) F 0 ((0 : Nat) : Int)) (fun o_ => su o_ (fun s3 => (some (s3.1, []))) (fun s4 => (ob (rin_S F s4.1 (1 : Int) (600000000 : Int)) (fun r1 => (some (r1, s4.2.2.2)))))) := by
  obtain ⟨h1, h2⟩ := h
  have l0 : ((List.range (lp K.length 0)).map (ll T B K S)) = T :: [] := by rw [lp_0]; rfl
  have fl : (bif (decide ((K.length : Int) - 0 > (2000 : Int))) then (some (true, (S, K, (T, B), (T :: [])))) else (bif (decide ((K.length : Int) - 0 > (0 : Int))) then (bif ((S.length : Int) - 0 != (IntKind.wrap IntKind.i64 ((K.length : Int) - 0 - (1 : Int)))) then (some (true, (S, K, (T, B), (T :: [])))) else (bif ((K.length : Int) - 0 == (0 : Int)) then (bif ((S.length : Int) - 0 != (0 : Int)) then (some (true, (S, K, (T, B), (T :: [])))) else (some ((B != (0 : Int)), (S, K, (T, B), (T :: []))))) else (some (false, (S, K, (T, B), (T :: [])))))) else (bif ((K.length : Int) - 0 == (0 : Int)) then (bif ((S.length : Int) - 0 != (0 : Int)) then (some (true, (S, K, (T, B), (T :: [])))) else (some ((B != (0 : Int)), (S, K, (T, B), (T :: []))))) else (some (false, (S, K, (T, B), (T :: []))))))) = some (false, (S, K, (T, B), (T :: []))) := by
    rw [dec_f (by omega)]
    by_cases hz : K.length = 0
    · rw [dec_f (by omega), show ((K.length : Int) - 0 == (0 : Int)) = true from beq_iff_eq.2 (by omega), show ((S.length : Int) - 0 != (0 : Int)) = false by rw [show (S.length : Int) - 0 = 0 by omega, bne_self_eq_false], h2 hz, bne_self_eq_false]
      rfl
    · rw [dec_t (by omega), w64 _ (by omega), show ((S.length : Int) - 0 != (K.length : Int) - 0 - 1) = false by rw [show (S.length : Int) - 0 = (K.length : Int) - 0 - 1 by omega, bne_self_eq_false], show ((K.length : Int) - 0 == (0 : Int)) = false from beq_eq_false_iff_ne.2 (by omega)]
      rfl
  unfold rLengths_S
  change ob (bif (decide ((K.length : Int) - 0 > (2000 : Int))) then (some (true, (S, K, (T, B), (T :: [])))) else (bif (decide ((K.length : Int) - 0 > (0 : Int))) then (bif ((S.length : Int) - 0 != (IntKind.wrap IntKind.i64 ((K.length : Int) - 0 - (1 : Int)))) then (some (true, (S, K, (T, B), (T :: [])))) else (bif ((K.length : Int) - 0 == (0 : Int)) then (bif ((S.length : Int) - 0 != (0 : Int)) then (some (true, (S, K, (T, B), (T :: [])))) else (some ((B != (0 : Int)), (S, K, (T, B), (T :: []))))) else (some (false, (S, K, (T, B), (T :: [])))))) else (bif ((K.length : Int) - 0 == (0 : Int)) then (bif ((S.length : Int) - 0 != (0 : Int)) then (some (true, (S, K, (T, B), (T :: [])))) else (some ((B != (0 : Int)), (S, K, (T, B), (T :: []))))) else (some (false, (S, K, (T, B), (T :: []))))))) _ = _
  rw [fl]
  change ob (rLengths_L0 F S K (T, B) F ((0 : Nat) : Int) (T :: [])) _ = _
  rw [← l0, rl_loop F T B K S (T, B) h1 (by omega) K.length F 0 (by omega) (by omega), lp_m h1]
  change (bif lenOk (((List.range (K.length + S.length + 1)).map (ll T B K S)).length - 0) [B].length then ob (rLengths_L1 F S K (((List.range (K.length + S.length + 1)).map (ll T B K S)) ++ [B]) F 0 ((0 : Nat) : Int)) _ else none) = _
  have e : ll T B K S (K.length + S.length + 1) = B := by unfold ll; rw [if_neg (by omega), if_pos rfl]
  rw [len_map, lenOk_t (by simp; omega), map_range_succ (ll T B K S) (K.length + S.length + 1), e]
  rfl
theorem rl_good (F : Nat) (hF : 2000 < F) {T B : Int} {K S : List Int} (p : Pv T B K S) : rLengths_S F (T, B) S K = some (true, (List.range (K.length + S.length + 2)).map (ll T B K S)) := by
  have h1 := p.h; have h2 := p.k
  rw [rl_shape F hF ⟨p.h, p.z⟩ p.k]
  change ob (rLengths_L1 F S K ((List.range (K.length + S.length + 2)).map (ll T B K S)) F (sm (ll T B K S) 0) ((0 : Nat) : Int)) _ = _
  rw [rl1_good F S K _ _ (by omega) p.r (K.length + S.length + 2) F 0 (by omega) (by omega)]
  change ob (rin_S F (sm (ll T B K S) (K.length + S.length + 2)) 1 600000000) _ = _
  rw [rin_eq9, show inOk (sm (ll T B K S) (K.length + S.length + 2)) 1 600000000 = true by unfold inOk; rw [dec_t p.w.1, dec_t p.w.2]; rfl]
theorem parts_bad (F : Nat) (hF : 2000 < F) {T B : Int} {K S : List Int} (hK : K.length ≤ 900) (hp : ¬ Pv T B K S) : areParts_S F (T, B) S K = some false ∧ ∃ l, rLengths_S F (T, B) S K = some (false, l) := by
  by_cases hs : Shp B K S
  · obtain ⟨h1, h2⟩ := hs
    have e1 : (if (IntKind.wrap IntKind.i64 (((K.length - 0 : Nat) : Int) - (1 : Int))) > (0 : Int) then (IntKind.wrap IntKind.i64 (((K.length - 0 : Nat) : Int) - (1 : Int))) else (0 : Int)) = ((K.length - 1 : Nat) : Int) := by
      rw [w64 _ (by omega)]
      split <;> omega
    have e2 : (((S.length - 0 : Nat) : Int) != ((K.length - 1 : Nat) : Int)) = false := by rw [show S.length - 0 = K.length - 1 by omega, bne_self_eq_false]
    have e3 : (bif (((K.length - 0 : Nat) : Int) == (0 : Int)) then (some ((B != (0 : Int)), (S, (K, (T, B))))) else (some (false, (S, (K, (T, B)))))) = some (false, (S, (K, (T, B)))) := by
      by_cases hz : K.length = 0
      · rw [h2 hz, bne_self_eq_false]
        cases (((K.length - 0 : Nat) : Int) == (0 : Int)) <;> rfl
      · rw [show (((K.length - 0 : Nat) : Int) == (0 : Int)) = false from beq_eq_false_iff_ne.2 (by omega)]; rfl
    have ap : areParts_S F (T, B) S K = ob (contQ_S F ((List.range (K.length + S.length + 2)).map (ll T B K S))) (fun r1 => (bif (!r1) then (ob (sum_S F ((List.range (K.length + S.length + 2)).map (ll T B K S))) (fun r2 => (ob (within_S F r2 (1 : Int) (600000000 : Int)) (fun r3 => (some r3))))) else (some false))) := by
      unfold areParts_S
      change ob (bif (decide (((K.length - 0 : Nat) : Int) > (2000 : Int))) then _ else (bif (((S.length - 0 : Nat) : Int) != (if (IntKind.wrap IntKind.i64 (((K.length - 0 : Nat) : Int) - (1 : Int))) > (0 : Int) then (IntKind.wrap IntKind.i64 (((K.length - 0 : Nat) : Int) - (1 : Int))) else (0 : Int))) then _ else (bif (((K.length - 0 : Nat) : Int) == (0 : Int)) then (some ((B != (0 : Int)), (S, (K, (T, B))))) else (some (false, (S, (K, (T, B)))))))) _ = _
      rw [e1, e2, dec_f (show ¬ ((K.length - 0 : Nat) : Int) > 2000 by omega)]
      change ob (bif (((K.length - 0 : Nat) : Int) == (0 : Int)) then (some ((B != (0 : Int)), (S, (K, (T, B))))) else (some (false, (S, (K, (T, B)))))) _ = _
      rw [e3]
      change ob (lengths_S F (T, B) S K) _ = _
      rw [lengths_eq F hF T B K S h1 (by omega)]
    rw [ap, rl_shape F hF ⟨h1, h2⟩ hK, contQ_eq F hF _ (by rw [len_map]; omega)]
    by_cases ha : ∀ i, i < K.length + S.length + 2 → 0 ≤ ll T B K S i ∧ ll T B K S i ≤ 600000000
    · rw [(all_rg _ _).2 ha]
      have hw : inOk (sm (ll T B K S) (K.length + S.length + 2)) 1 600000000 = false := by
        cases hb : inOk (sm (ll T B K S) (K.length + S.length + 2)) 1 600000000 with
        | false => rfl
        | true =>
          unfold inOk at hb
          simp only [Bool.and_eq_true, decide_eq_true_eq] at hb
          exact absurd ⟨h1, hK, h2, ha, hb⟩ hp
      constructor
      · change ob (sum_S F _) _ = _
        rw [sum_eq F _ _ (by omega) hF ha]
        change ob (within_S F _ _ _) _ = _
        rw [with_S, hw]
      · refine ⟨(List.range (K.length + S.length + 2)).map (ll T B K S), ?_⟩
        change ob (rLengths_L1 F S K ((List.range (K.length + S.length + 2)).map (ll T B K S)) F (sm (ll T B K S) 0) ((0 : Nat) : Int)) _ = _
        rw [rl1_good F S K _ _ (by omega) ha (K.length + S.length + 2) F 0 (by omega) (by omega)]
        change ob (rin_S F (sm (ll T B K S) (K.length + S.length + 2)) 1 600000000) _ = _
        rw [rin_eq9, hw]
    · have hf : ((List.range (K.length + S.length + 2)).map (ll T B K S)).all (fun x => inOk x 0 600000000) = false := by
        cases hb : ((List.range (K.length + S.length + 2)).map (ll T B K S)).all (fun x => inOk x 0 600000000) with
        | false => rfl
        | true => exact absurd ((all_rg _ _).1 hb) ha
      rw [hf]
      refine ⟨rfl, [], ?_⟩
      have hx : ∃ x, 0 ≤ x ∧ x < K.length + S.length + 2 ∧ ¬ (0 ≤ ll T B K S x ∧ ll T B K S x ≤ 600000000) := by
        apply Classical.byContradiction
        intro hn
        exact ha fun i hi => Classical.byContradiction fun hc => hn ⟨i, Nat.zero_le _, hi, hc⟩
      rw [rl1_bad F S K _ _ (by omega) (K.length + S.length + 2) F 0 0 (by omega) (by omega) hx]
  · have fl : ∀ x : Nat, S.length ≠ K.length - 1 ∨ (K.length = 0 ∧ S.length = 0 ∧ B ≠ 0) := fun _ => by
      by_cases h1 : S.length = K.length - 1
      · refine .inr ?_
        by_cases hz : K.length = 0
        · exact ⟨hz, by omega, fun hb => hs ⟨h1, fun _ => hb⟩⟩
        · exact absurd ⟨h1, fun h => absurd h hz⟩ hs
      · exact .inl h1
    have e1 : (if (IntKind.wrap IntKind.i64 (((K.length - 0 : Nat) : Int) - (1 : Int))) > (0 : Int) then (IntKind.wrap IntKind.i64 (((K.length - 0 : Nat) : Int) - (1 : Int))) else (0 : Int)) = ((K.length - 1 : Nat) : Int) := by
      rw [w64 _ (by omega)]
      split <;> omega
    constructor
    · unfold areParts_S
      change ob (bif (decide (((K.length - 0 : Nat) : Int) > (2000 : Int))) then some (true, (S, (K, (T, B)))) else (bif (((S.length - 0 : Nat) : Int) != (if (IntKind.wrap IntKind.i64 (((K.length - 0 : Nat) : Int) - (1 : Int))) > (0 : Int) then (IntKind.wrap IntKind.i64 (((K.length - 0 : Nat) : Int) - (1 : Int))) else (0 : Int))) then some (true, (S, (K, (T, B)))) else (bif (((K.length - 0 : Nat) : Int) == (0 : Int)) then (some ((B != (0 : Int)), (S, (K, (T, B))))) else (some (false, (S, (K, (T, B)))))))) _ = _
      rw [e1, dec_f (show ¬ ((K.length - 0 : Nat) : Int) > 2000 by omega)]
      rcases fl 0 with h | ⟨h1, h2, h3⟩
      · rw [show (((S.length - 0 : Nat) : Int) != ((K.length - 1 : Nat) : Int)) = true from bne_iff_ne.2 (by omega)]
        rfl
      · rw [show (((S.length - 0 : Nat) : Int) != ((K.length - 1 : Nat) : Int)) = false by rw [show S.length - 0 = K.length - 1 by omega, bne_self_eq_false], show (((K.length - 0 : Nat) : Int) == (0 : Int)) = true from beq_iff_eq.2 (by omega), show (B != (0 : Int)) = true from bne_iff_ne.2 h3]
        rfl
    · refine ⟨[], ?_⟩
      unfold rLengths_S
      change ob (bif (decide ((K.length : Int) - 0 > (2000 : Int))) then (some (true, (S, K, (T, B), (T :: [])))) else (bif (decide ((K.length : Int) - 0 > (0 : Int))) then (bif ((S.length : Int) - 0 != (IntKind.wrap IntKind.i64 ((K.length : Int) - 0 - (1 : Int)))) then (some (true, (S, K, (T, B), (T :: [])))) else (bif ((K.length : Int) - 0 == (0 : Int)) then (bif ((S.length : Int) - 0 != (0 : Int)) then (some (true, (S, K, (T, B), (T :: [])))) else (some ((B != (0 : Int)), (S, K, (T, B), (T :: []))))) else (some (false, (S, K, (T, B), (T :: [])))))) else (bif ((K.length : Int) - 0 == (0 : Int)) then (bif ((S.length : Int) - 0 != (0 : Int)) then (some (true, (S, K, (T, B), (T :: [])))) else (some ((B != (0 : Int)), (S, K, (T, B), (T :: []))))) else (some (false, (S, K, (T, B), (T :: []))))))) _ = _
      rw [dec_f (show ¬ (K.length : Int) - 0 > 2000 by omega)]
      by_cases hz : K.length = 0
      · rw [dec_f (show ¬ (K.length : Int) - 0 > 0 by omega), show ((K.length : Int) - 0 == (0 : Int)) = true from beq_iff_eq.2 (by omega)]
        rcases fl 0 with h | ⟨h1, h2, h3⟩
        · rw [show ((S.length : Int) - 0 != (0 : Int)) = true from bne_iff_ne.2 (by omega)]
          rfl
        · rw [show ((S.length : Int) - 0 != (0 : Int)) = false by rw [show (S.length : Int) - 0 = 0 by omega, bne_self_eq_false], show (B != (0 : Int)) = true from bne_iff_ne.2 h3]
          rfl
      · rw [dec_t (show (K.length : Int) - 0 > 0 by omega), w64 _ (by omega)]
        rcases fl 0 with h | ⟨h1, h2, h3⟩
        · rw [show ((S.length : Int) - 0 != (K.length : Int) - 0 - 1) = true from bne_iff_ne.2 (by omega)]
          rfl
        · exact absurd h1 hz
theorem divL1 (F : Nat) (hF : 2000 < F) (n W : Int) (f : Nat → Int) (q : Nat) (hq : q ≤ 2000) (hn : 0 ≤ n ∧ n ≤ 1000000000000000) (hW : 1 ≤ W ∧ W ≤ 600000000) (hWs : W = sm f q) (hf : ∀ i, i < q → 0 ≤ f i ∧ f i ≤ 600000000) (g0 g1 : List Int) : ∀ (j k i : Nat), i + j = q → j < k →
    sDivides_L1 F n W g0 g1 ((List.range q).map f) ((List.range q).map (sh n W f)) k (sm f i) (dv n W f i) i = some (.inr (g0, g1))
  | j, 0, i, _, hk => by omega
  | 0, k + 1, i, hi, _ => by
    have e : i = q := by omega
    subst e
    show (bif decide (((i : Nat) : Int) < (((List.range i).map f).length : Int) - 0) then _ else _) = _
    rw [len_map, dec_f (by omega)]; rfl
  | j + 1, k + 1, i, hi, hk => by
    have e1 : IntKind.wrap IntKind.i64 ((i : Int) + 1) = ((i + 1 : Nat) : Int) := by rw [w64 _ (by omega)]; omega
    have r0 := sm_range f 600000000 i fun x hx => hf x (by omega)
    have h2 := hf i (by omega)
    have r1 := sm_mono_le f q (fun x hx => (hf x hx).1) j (i + 1) (by omega)
    have r2 := sm_mono_le f q (fun x hx => (hf x hx).1) (j + 1) i (by omega)
    have es : sm f (i + 1) = sm f i + f i := rfl
    have e2 : IntKind.wrap IntKind.i64 (sm f i + f i) = sm f (i + 1) := by rw [w64 _ (by omega), es]
    obtain ⟨r, m1, m2, m3⟩ := mulDiv_int F hF n (sm f (i + 1)) W hn (by omega) hW
    obtain ⟨_, _, m4, m5⟩ := mulDiv_int F hF n (sm f i) W hn (by omega) hW
    have e3 : IntKind.wrap IntKind.i64 (n * sm f (i + 1) / W - dv n W f i) = sh n W f i := by
      rw [w64 _ (by unfold dv; omega)]; rfl
    have pe : rPortion_S F n (sm f (i + 1)) W = some (n * sm f (i + 1) / W) := by
      obtain ⟨n', hn'⟩ := Int.eq_ofNat_of_zero_le hn.1
      obtain ⟨a', ha'⟩ := Int.eq_ofNat_of_zero_le (show 0 ≤ sm f (i + 1) by omega)
      obtain ⟨W', hW'⟩ := Int.eq_ofNat_of_zero_le (show 0 ≤ W by omega)
      rw [ha', hW', hn', portion_eq F hF n' a' W' (by omega) (by omega) (by omega), ← Int.natCast_mul, Int.natCast_ediv]
    show (bif decide ((i : Int) < (((List.range q).map f).length : Int) - 0) then (bif inB (i : Int) (((List.range q).map f).length - 0) then ob (rPortion_S F n (IntKind.wrap IntKind.i64 (sm f i + nth ((List.range q).map f) (0 : Int) i)) W) (fun r6 => (bif inB (i : Int) (((List.range q).map (sh n W f)).length - 0) then (bif (nth ((List.range q).map (sh n W f)) (0 : Int) i != IntKind.wrap IntKind.i64 (r6 - dv n W f i)) then some (.inl (false, (g0, g1))) else
      sDivides_L1 F n W g0 g1 ((List.range q).map f) ((List.range q).map (sh n W f)) k (IntKind.wrap IntKind.i64 (sm f i + nth ((List.range q).map f) (0 : Int) i)) r6 (IntKind.wrap IntKind.i64 ((i : Int) + 1))) else none)) else none) else _) = _
    rw [nth_map f _ _ (show i < q by omega), nth_map (sh n W f) _ _ (show i < q by omega), e1, e2, pe, len_map, len_map, dec_t (by omega), inB_t (by omega)]
    change (bif (sh n W f i != IntKind.wrap IntKind.i64 (n * sm f (i + 1) / W - dv n W f i)) then _ else sDivides_L1 F n W g0 g1 ((List.range q).map f) ((List.range q).map (sh n W f)) k (sm f (i + 1)) (n * sm f (i + 1) / W) ((i + 1 : Nat) : Int)) = _
    rw [e3, bne_self_eq_false]
    exact divL1 F hF n W f q hq hn hW hWs hf g0 g1 j k (i + 1) (by omega) (by omega)
theorem sDivides_law0 (n : Int) (p : Int × Int) (S K : List Int) : sDivides_S 3000 n p S K = some true := by
  obtain ⟨T, B⟩ := p
  have hF : 2000 < 3000 := by decide
  rw [div_def]
  by_cases hK : K.length ≤ 250
  · by_cases hS : S.length ≤ 250
    · rw [dec_f (show ¬ (K.length : Int) - 0 > 250 by omega), dec_f (show ¬ (S.length : Int) - 0 > 250 by omega), ints_eq' 3000 S hS, ints_eq' 3000 K hK]
      have sp := sp_eq 3000 hF (T, B) S K (by omega) (by omega)
      have bad : ∀ (e want : Int) (l : List Int), (e != want) = false → (want != 0) = true → d2 3000 ((n, 0, 0, e, want), (S, K, (T, B), (T, B), [], [], l, S, K)) = some true := fun e want l h1 h2 => by
        unfold d2
        change ob (sameParts_S 3000 (T, B) (T, B) S K S K) _ = _
        rw [sp]
        change (bif (e != want) then _ else (bif (want != 0) then some true else _)) = _
        rw [h1, h2]
        rfl
      by_cases hn : 0 ≤ n ∧ n ≤ 1000000000000000
      · by_cases hp : Pv T B K S
        · have h1 := hp.h; have h2 := hp.k; have h3 := hp.w; have h4 := hp.r
          change ob (divide_S 3000 n (T, B) S K) _ = _
          rw [divide_eq 3000 hF hp n hn]
          change ob (rLengths_S 3000 (T, B) S K) _ = _
          rw [rl_good 3000 hF hp]
          have gl := fun (n1 bo : Int) (l : List Int) => got_loop 3000 n1 bo S K (T, B) (sh n (sm (ll T B K S) (K.length + S.length + 2)) (ll T B K S)) K.length S.length h1 (by omega) l K.length 3000 0 (by omega) (by omega)
          rw [lp_0, lp_m h1] at gl
          have lq := fun (g0 g1 : List Int) => divL1 3000 hF n (sm (ll T B K S) (K.length + S.length + 2)) (ll T B K S) (K.length + S.length + 2) (by omega) hn h3 rfl h4 g0 g1 (K.length + S.length + 2) 3000 0 (by omega) (by omega)
          have rs := rSum_eq 3000 (ll T B K S) (K.length + S.length + 2) (by omega) hF h4
          generalize hW : sm (ll T B K S) (K.length + S.length + 2) = W at *
          change ob (bif decide (n < 0) then _ else bif decide (n > 1000000000000000) then _ else some ((n, sh n W (ll T B K S) 0, sh n W (ll T B K S) (K.length + S.length + 1), 0, 0), (S, K, (T, B), (T, B), (List.range K.length).map (od n W (ll T B K S)), (List.range S.length).map (ev n W (ll T B K S)), (List.range (K.length + S.length + 2)).map (ll T B K S), S, K))) _ = _
          rw [dec_f (by omega), dec_f (show ¬ n > 1000000000000000 by omega)]
          change d2 3000 ((n, sh n W (ll T B K S) 0, sh n W (ll T B K S) (K.length + S.length + 1), 0, 0), (S, K, (T, B), (T, B), (List.range K.length).map (od n W (ll T B K S)), (List.range S.length).map (ev n W (ll T B K S)), (List.range (K.length + S.length + 2)).map (ll T B K S), S, K)) = _
          unfold d2
          change ob (sameParts_S 3000 (T, B) (T, B) S K S K) _ = _
          rw [sp]
          change ob (sDivides_L0 3000 n (sh n W (ll T B K S) (K.length + S.length + 1)) S K (T, B) ((List.range K.length).map (fun j => sh n W (ll T B K S) (2 * j + 1))) ((List.range S.length).map (fun j => sh n W (ll T B K S) (2 * j + 2))) ((List.range (K.length + S.length + 2)).map (ll T B K S)) 3000 ((0 : Nat) : Int) ((List.range 1).map (sh n W (ll T B K S)))) (fun s3 => d3 3000 s3) = _
          rw [gl]
          change d3 3000 ((n, sh n W (ll T B K S) (K.length + S.length + 1)), (S, (K, ((T, B), ((List.range K.length).map (fun j => sh n W (ll T B K S) (2 * j + 1)), ((List.range (K.length + S.length + 2)).map (ll T B K S), (List.range (K.length + S.length + 1)).map (sh n W (ll T B K S)))))))) = _
          unfold d3
          change (bif lenOk (((List.range (K.length + S.length + 1)).map (sh n W (ll T B K S))).length - 0) [sh n W (ll T B K S) (K.length + S.length + 1)].length then
            (bif (((((List.range (K.length + S.length + 1)).map (sh n W (ll T B K S)) ++ [sh n W (ll T B K S) (K.length + S.length + 1)]).length : Int) - 0) != ((((List.range (K.length + S.length + 2)).map (ll T B K S)).length : Int) - 0)) then some false else
            (bif (((((List.range K.length).map (fun j => sh n W (ll T B K S) (2 * j + 1))).length : Int) - 0) != ((K.length : Int) - 0)) then some false else
            ob (rSum_S 3000 ((List.range (K.length + S.length + 2)).map (ll T B K S))) (fun r5 => ob (sDivides_L1 3000 n r5 S K ((List.range (K.length + S.length + 2)).map (ll T B K S)) ((List.range (K.length + S.length + 1)).map (sh n W (ll T B K S)) ++ [sh n W (ll T B K S) (K.length + S.length + 1)]) 3000 ((0 : Nat) : Int) ((0 : Nat) : Int) ((0 : Nat) : Int)) (fun o_ => su o_ (fun s4 => some s4.1) (fun _ => some true))))) else none) = _
          rw [← map_range_succ (sh n W (ll T B K S)), len_map, len_map, len_map, len_map, lenOk_t (by simp; omega), bne_self_eq_false, bne_self_eq_false, rs]
          have d0 : ((0 : Nat) : Int) = dv n W (ll T B K S) 0 := by unfold dv; rw [show sm (ll T B K S) 0 = 0 from rfl, Int.mul_zero, Int.zero_ediv]; rfl
          have lq' := lq S K
          rw [← d0] at lq'
          change ob (sDivides_L1 3000 n W S K ((List.range (K.length + S.length + 2)).map (ll T B K S)) ((List.range (K.length + S.length + 1 + 1)).map (sh n W (ll T B K S))) 3000 ((0 : Nat) : Int) ((0 : Nat) : Int) ((0 : Nat) : Int)) _ = _
          change sDivides_L1 3000 n W S K ((List.range (K.length + S.length + 2)).map (ll T B K S)) ((List.range (K.length + S.length + 1 + 1)).map (sh n W (ll T B K S))) 3000 ((0 : Nat) : Int) ((0 : Nat) : Int) ((0 : Nat) : Int) = _ at lq'
          rw [lq']
        · obtain ⟨ap, l, rl⟩ := parts_bad 3000 hF (by omega) hp
          have hd : divide_S 3000 n (T, B) S K = some ((0, (0, 2)), ([], [])) := by
            unfold divide_S
            rw [with_S, show inOk n 0 1000000000000000 = true by unfold inOk; rw [dec_t hn.1, dec_t hn.2]; rfl]
            change ob (areParts_S 3000 (T, B) S K) _ = _
            rw [ap]
            rfl
          change ob (divide_S 3000 n (T, B) S K) _ = _
          rw [hd]
          change ob (rLengths_S 3000 (T, B) S K) _ = _
          rw [rl]
          change ob (bif decide (n < 0) then _ else bif decide (n > 1000000000000000) then _ else some ((n, 0, 0, 2, 2), (S, K, (T, B), (T, B), [], [], l, S, K))) _ = _
          rw [dec_f (by omega), dec_f (show ¬ n > 1000000000000000 by omega)]
          exact bad 2 2 l rfl rfl
      · have hd : divide_S 3000 n (T, B) S K = some ((0, (0, 3)), ([], [])) := by
          unfold divide_S
          rw [with_S, show inOk n 0 1000000000000000 = false by
            unfold inOk
            rcases Int.lt_or_le n 0 with x | x
            · rw [dec_f (show ¬ (0 : Int) ≤ n by omega)]; rfl
            · rw [dec_t x, dec_f (show ¬ n ≤ 1000000000000000 by omega)]; rfl]
          rfl
        have hl : ∃ ok l, rLengths_S 3000 (T, B) S K = some (ok, l) := by
          by_cases hp : Pv T B K S
          · exact ⟨_, _, rl_good 3000 hF hp⟩
          · obtain ⟨_, l, rl⟩ := parts_bad 3000 hF (by omega) hp
            exact ⟨_, l, rl⟩
        obtain ⟨ok, l, rl⟩ := hl
        change ob (divide_S 3000 n (T, B) S K) _ = _
        rw [hd]
        change ob (rLengths_S 3000 (T, B) S K) _ = _
        rw [rl]
        have fin : ∀ w2 : Int, (bif decide (n < 0) then some ((n, (0 : Int), (0 : Int), (3 : Int), (3 : Int)), (S, K, (T, B), (T, B), ([] : List Int), ([] : List Int), l, S, K)) else bif decide (n > 1000000000000000) then some ((n, (0 : Int), (0 : Int), (3 : Int), (3 : Int)), (S, K, (T, B), (T, B), ([] : List Int), ([] : List Int), l, S, K)) else some ((n, (0 : Int), (0 : Int), (3 : Int), w2), (S, K, (T, B), (T, B), ([] : List Int), ([] : List Int), l, S, K))) = some ((n, (0 : Int), (0 : Int), (3 : Int), (3 : Int)), (S, K, (T, B), (T, B), ([] : List Int), ([] : List Int), l, S, K)) := fun w2 => by
          rcases Int.lt_or_le n 0 with x | x
          · rw [dec_t x]; rfl
          · rw [dec_f (show ¬ n < 0 by omega), dec_t (show n > 1000000000000000 by omega)]; rfl
        cases ok with
        | true =>
          change ob (bif decide (n < 0) then some ((n, (0 : Int), (0 : Int), (3 : Int), (3 : Int)), (S, K, (T, B), (T, B), ([] : List Int), ([] : List Int), l, S, K)) else bif decide (n > 1000000000000000) then some ((n, (0 : Int), (0 : Int), (3 : Int), (3 : Int)), (S, K, (T, B), (T, B), ([] : List Int), ([] : List Int), l, S, K)) else some ((n, (0 : Int), (0 : Int), (3 : Int), 0), (S, K, (T, B), (T, B), ([] : List Int), ([] : List Int), l, S, K))) (fun s2 => d2 3000 s2) = _
          rw [fin]
          exact bad 3 3 l rfl rfl
        | false =>
          change ob (bif decide (n < 0) then some ((n, (0 : Int), (0 : Int), (3 : Int), (3 : Int)), (S, K, (T, B), (T, B), ([] : List Int), ([] : List Int), l, S, K)) else bif decide (n > 1000000000000000) then some ((n, (0 : Int), (0 : Int), (3 : Int), (3 : Int)), (S, K, (T, B), (T, B), ([] : List Int), ([] : List Int), l, S, K)) else some ((n, (0 : Int), (0 : Int), (3 : Int), 2), (S, K, (T, B), (T, B), ([] : List Int), ([] : List Int), l, S, K))) (fun s2 => d2 3000 s2) = _
          rw [fin]
          exact bad 3 3 l rfl rfl
    · rw [dec_t (show (S.length : Int) - 0 > 250 by omega)]
      cases decide ((K.length : Int) - 0 > 250) <;> rfl
  · rw [dec_t (show (K.length : Int) - 0 > 250 by omega)]
    rfl
end Go.Proofs.YtdfgmfddkcmalaaDoor
