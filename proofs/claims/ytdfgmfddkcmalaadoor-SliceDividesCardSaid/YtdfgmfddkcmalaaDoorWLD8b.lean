/- Plain laws: how a number is divided among parts. No condition. -/
import Derived.Test.YtdfgmfddkcmalaaDoorWLU8c

namespace Go.Proofs.YtdfgmfddkcmalaaDoor
open Go.RowKit
set_option maxRecDepth 100000
theorem over_eq (F : Nat) (hF : 0 < F) (N c : Nat) (hc : 1 ≤ c ∧ c < 4294967296) (hq : N / c ≤ 1000000000000000) : over_S F (((N / 18446744073709551616 : Nat) : Int), (((N % 18446744073709551616 : Nat) : Int), false)) c = some (((N / c : Nat) : Int), (((N % c : Nat) : Int), true)) := by
  have h1 : N % c < c := Nat.mod_lt _ (by omega)
  have hN := Nat.div_add_mod N 18446744073709551616
  have hm : N % 18446744073709551616 < 18446744073709551616 := Nat.mod_lt _ (by decide)
  have hhi : N / 18446744073709551616 < c := by
    have e := Nat.div_add_mod N c
    have e2 : c * (N / c) ≤ c * 1000000000000000 := Nat.mul_le_mul_left c hq
    apply (Nat.div_lt_iff_lt_mul (by decide)).2
    generalize c * (N / c) = t at *
    omega
  have e1 : IntKind.wrap IntKind.u64 (c : Int) = (c : Int) := Mul64.wrapN c (by omega)
  have e2 : div64_S F ((N / 18446744073709551616 : Nat) : Int) ((N % 18446744073709551616 : Nat) : Int) (c : Int) = some (((N / c : Nat) : Int), ((N % c : Nat) : Int)) := by
    by_cases h0 : N / 18446744073709551616 = 0
    · have hlo : N % 18446744073709551616 = N := by omega
      rw [h0, hlo]
      unfold div64_S
      rw [show ((c : Int) == 0) = false from beq_eq_false_iff_ne.2 (by omega), show decide ((c : Int) ≤ ((0 : Nat) : Int)) = false from decide_eq_false (by omega)]
      show some (IntKind.wrap IntKind.u64 (Int.tdiv (N : Int) (c : Int)), Int.tmod (N : Int) (c : Int)) = _
      rw [show Int.tdiv (N : Int) (c : Int) = ((N / c : Nat) : Int) from rfl, show Int.tmod (N : Int) (c : Int) = ((N % c : Nat) : Int) from rfl, Mul64.wrapN _ (by omega)]
    · rw [div64_small F hF _ _ c (by omega) hhi hc.2 hm, Nat.mul_comm (N / 18446744073709551616), hN]
  unfold over_S
  show (bif decide (((N / 18446744073709551616 : Nat) : Int) ≥ IntKind.wrap IntKind.u64 (c : Int)) then _ else ob (div64_S F ((N / 18446744073709551616 : Nat) : Int) ((N % 18446744073709551616 : Nat) : Int) (IntKind.wrap IntKind.u64 (c : Int))) _) = _
  rw [e1, e2, show decide (((N / 18446744073709551616 : Nat) : Int) ≥ (c : Int)) = false from decide_eq_false (by omega)]
  show (bif decide (((N / c : Nat) : Int) > 1000000000000000) then _ else ob (some ((c : Int), (IntKind.wrap IntKind.i64 ((N / c : Nat) : Int), IntKind.wrap IntKind.i64 ((N % c : Nat) : Int)))) _) = _
  rw [show decide (((N / c : Nat) : Int) > 1000000000000000) = false from decide_eq_false (by omega), w64N (N / c) (by omega), w64N (N % c) (by omega)]
  show (bif decide (((N % c : Nat) : Int) < 0) then _ else _) = _
  rw [show decide (((N % c : Nat) : Int) < 0) = false from decide_eq_false (by omega)]
  rfl
theorem ixI_loop (F : Nat) (l : List Int) (hq : l.length ≤ 5000) (h : ∀ i : Nat, i < l.length → -1000000000000000 ≤ nth l (0 : Int) i ∧ nth l (0 : Int) i ≤ 1000000000000000) : ∀ (j k i : Nat), i + j = l.length → j < k →
    indexI_L0 F ((l.length - 0 : Nat) : Int) l k i = some (.inr l)
  | j, 0, i, _, hk => by omega
  | 0, k + 1, i, hi, _ => by
    show (bif decide ((i : Int) < ((l.length - 0 : Nat) : Int)) then _ else _) = _
    rw [dec_f (by omega)]; rfl
  | j + 1, k + 1, i, hi, hk => by
    have e1 : IntKind.wrap IntKind.i64 ((i : Int) + 1) = ((i + 1 : Nat) : Int) := by rw [w64 _ (by omega)]; omega
    have h1 := h i (by omega)
    show (bif decide ((i : Int) < ((l.length - 0 : Nat) : Int)) then (bif inB (i : Int) (l.length - 0) then (bif decide (nth l (0 : Int) i < -1000000000000000) then _ else (bif decide (nth l (0 : Int) i > 1000000000000000) then _ else indexI_L0 F ((l.length - 0 : Nat) : Int) l k (IntKind.wrap IntKind.i64 ((i : Int) + 1)))) else none) else _) = _
    rw [e1, dec_t (by omega), inB_t (show i < l.length - 0 by omega), dec_f (by omega), dec_f (by omega)]
    exact ixI_loop F l hq h j k (i + 1) (by omega) (by omega)
theorem isN_eq (F : Nat) (hF : 2000 < F) (l : List Int) (hq : l.length ≤ 1000) (h : ∀ i : Nat, i < l.length → -1000000000000000 ≤ nth l (0 : Int) i ∧ nth l (0 : Int) i ≤ 1000000000000000) : isN_S F l = some true := by
  unfold isN_S contI_S indexI_S
  change ob (ob (ob (indexI_L0 F ((l.length - 0 : Nat) : Int) l F ((0 : Nat) : Int)) _) _) _ = _
  rw [ixI_loop F l (by omega) h l.length F 0 (by omega) (by omega)]
  rfl
theorem isN_two (F : Nat) (hF : 2000 < F) (a b : Int) (ha : -1000000000000000 ≤ a ∧ a ≤ 1000000000000000) (hb : -1000000000000000 ≤ b ∧ b ≤ 1000000000000000) : isN_S F (a :: (b :: [])) = some true :=
  isN_eq F hF _ (by simp) fun i hi => match i, hi with
    | 0, _ => ha
    | 1, _ => hb
theorem isN_one (F : Nat) (hF : 2000 < F) (a : Int) (ha : -1000000000000000 ≤ a ∧ a ≤ 1000000000000000) : isN_S F (a :: []) = some true :=
  isN_eq F hF _ (by simp) fun i hi => match i, hi with
    | 0, _ => ha
theorem mulDiv_eq (F : Nat) (hF : 2000 < F) (a b c : Nat) (ha : a ≤ 1000000000000000) (hb : b ≤ 1000000000000000) (hc : 1 ≤ c ∧ c < 4294967296) (hq : a * b / c ≤ 1000000000000000) : mulDiv_S F a b c 1 = some (((a * b / c : Nat) : Int), (((a * b % c : Nat) : Int), 0)) := by
  unfold mulDiv_S
  change ob (ob (isN_S F ((a : Int) :: ((b : Int) :: []))) (fun r => (bif (!r) then _ else (bif (decide ((c : Int) < (1 : Int))) then _ else (some ((a : Int), (b : Int), (c : Int), (1 : Int), (decide ((c : Int) > (1000000000000000 : Int))))))))) _ = _
  rw [isN_two F hF _ _ (by omega) (by omega)]
  change ob (bif (decide ((c : Int) < (1 : Int))) then _ else (some ((a : Int), (b : Int), (c : Int), (1 : Int), (decide ((c : Int) > (1000000000000000 : Int)))))) _ = _
  rw [dec_f (show ¬ (c : Int) < 1 by omega), dec_f (show ¬ (c : Int) > 1000000000000000 by omega)]
  change ob (prod_S F (a : Int) (b : Int)) _ = _
  rw [prod_eq F a b (by omega) (by omega)]
  change ob (over_S F _ (c : Int)) _ = _
  rw [over_eq F (by omega) (a * b) c hc hq]
  generalize a * b / c = q at *
  generalize a * b % c = r at *
  by_cases h0 : (r : Int) > 0
  · change ob (ob (bif (decide ((r : Int) > (0 : Int))) then _ else _) _) _ = _
    rw [dec_t h0]
    change ob (isN_S F ((q : Int) :: [])) _ = _
    rw [isN_one F hF _ (by omega)]
    rfl
  · change ob (ob (bif (decide ((r : Int) > (0 : Int))) then _ else _) _) _ = _
    rw [dec_f h0]
    change ob (isN_S F ((q : Int) :: [])) _ = _
    rw [isN_one F hF _ (by omega)]
    rfl
end Go.Proofs.YtdfgmfddkcmalaaDoor


namespace Go.Proofs.YtdfgmfddkcmalaaDoor
open Go.RowKit
set_option maxRecDepth 100000
theorem inC_t {k n : Nat} (h : k ≤ n) : inC (k : Int) n = true := by
  unfold inC
  rw [dec_t (by omega), dec_t (by omega)]; rfl
/-- The lengths of all parts, from the top on. -/
def ll (T B : Int) (K S : List Int) (i : Nat) : Int := if i = 0 then T else if i = K.length + S.length + 1 then B else if i % 2 = 1 then nth K (0 : Int) (i / 2) else nth S (0 : Int) (i / 2 - 1)
def lp (m i : Nat) : Nat := if i < m then 2 * i + 1 else if m = 0 then 1 else 2 * m
theorem lp_0 (m : Nat) : lp m 0 = 1 := by unfold lp; split <;> (try split) <;> omega
theorem lp_m {m s : Nat} (h : s = m - 1) : lp m m = m + s + 1 := by unfold lp; rw [if_neg (by omega)]; split <;> omega
theorem ll_k (T B : Int) {K S : List Int} {i : Nat} (h : S.length = K.length - 1) (hi : i < K.length) : ll T B K S (2 * i + 1) = nth K (0 : Int) i := by
  unfold ll
  rw [if_neg (by omega), if_neg (by omega), if_pos (by omega), show (2 * i + 1) / 2 = i by omega]
theorem ll_s (T B : Int) {K S : List Int} {i : Nat} (h : S.length = K.length - 1) (hi : i + 1 < K.length) : ll T B K S (2 * i + 2) = nth S (0 : Int) i := by
  unfold ll
  rw [if_neg (by omega), if_neg (by omega), if_neg (by omega), show (2 * i + 2) / 2 - 1 = i by omega]
theorem take_one (l : List Int) (i : Nat) (h : i < l.length) : List.take 1 (List.drop i l) = [nth l (0 : Int) i] := by
  rw [drop_nth l i h]; rfl
theorem len_loop (F : Nat) (T B : Int) (K S : List Int) (p : Int × Int) (h : S.length = K.length - 1) (hK : K.length ≤ 2000) : ∀ (j k i : Nat), i + j = K.length → j < k →
    lengths_L0 F ((K.length - 0 : Nat) : Int) S K p k i ((List.range (lp K.length i)).map (ll T B K S)) = some (S, K, p, (List.range (lp K.length K.length)).map (ll T B K S))
  | j, 0, i, _, hk => by omega
  | 0, k + 1, i, hi, _ => by
    have e : i = K.length := by omega
    subst e
    show (bif decide (((K.length : Nat) : Int) < ((K.length - 0 : Nat) : Int)) then _ else _) = _
    rw [dec_f (by omega)]; rfl
  | j + 1, k + 1, i, hi, hk => by
    have e1 : IntKind.wrap IntKind.i64 ((i : Int) + 1) = ((i + 1 : Nat) : Int) := by rw [w64 _ (by omega)]; omega
    have hl : lp K.length i = 2 * i + 1 := by unfold lp; rw [if_pos (by omega)]
    have e2 : (if ((S.length - 0 : Nat) : Int) < (i : Int) then ((S.length - 0 : Nat) : Int) else (i : Int)) = (i : Int) := by rw [if_neg (by omega)]
    show (bif decide ((i : Int) < ((K.length - 0 : Nat) : Int)) then (bif inB (i : Int) (K.length - 0) then (bif lenOk (((List.range (lp K.length i)).map (ll T B K S)).length - 0) [nth K (0 : Int) i].length then
      (bif (inC (if ((S.length - 0 : Nat) : Int) < (IntKind.wrap IntKind.i64 ((i : Int) + 1)) then ((S.length - 0 : Nat) : Int) else (IntKind.wrap IntKind.i64 ((i : Int) + 1))) (S.length - 0)) then
      (bif (inC (if ((S.length - 0 : Nat) : Int) < (i : Int) then ((S.length - 0 : Nat) : Int) else (i : Int)) (if ((S.length - 0 : Nat) : Int) < (IntKind.wrap IntKind.i64 ((i : Int) + 1)) then ((S.length - 0 : Nat) : Int) else (IntKind.wrap IntKind.i64 ((i : Int) + 1))).toNat) then
      (bif lenOk ((((List.range (lp K.length i)).map (ll T B K S)) ++ [nth K (0 : Int) i]).length - 0) (List.take ((if ((S.length - 0 : Nat) : Int) < (IntKind.wrap IntKind.i64 ((i : Int) + 1)) then ((S.length - 0 : Nat) : Int) else (IntKind.wrap IntKind.i64 ((i : Int) + 1))).toNat - (if ((S.length - 0 : Nat) : Int) < (i : Int) then ((S.length - 0 : Nat) : Int) else (i : Int)).toNat) (List.drop (if ((S.length - 0 : Nat) : Int) < (i : Int) then ((S.length - 0 : Nat) : Int) else (i : Int)).toNat S)).length then
      lengths_L0 F ((K.length - 0 : Nat) : Int) S K p k (IntKind.wrap IntKind.i64 ((i : Int) + 1)) ((((List.range (lp K.length i)).map (ll T B K S)) ++ [nth K (0 : Int) i]) ++ (List.take ((if ((S.length - 0 : Nat) : Int) < (IntKind.wrap IntKind.i64 ((i : Int) + 1)) then ((S.length - 0 : Nat) : Int) else (IntKind.wrap IntKind.i64 ((i : Int) + 1))).toNat - (if ((S.length - 0 : Nat) : Int) < (i : Int) then ((S.length - 0 : Nat) : Int) else (i : Int)).toNat) (List.drop (if ((S.length - 0 : Nat) : Int) < (i : Int) then ((S.length - 0 : Nat) : Int) else (i : Int)).toNat S))) else none) else none) else none) else none) else none) else _) = _
    rw [e1, e2, dec_t (by omega), inB_t (show i < K.length - 0 by omega), len_map, hl, lenOk_t (show 2 * i + 1 - 0 + [nth K (0 : Int) i].length ≤ 1000000 by simp; omega)]
    simp only [cond_true]
    by_cases hm : i + 1 < K.length
    · rw [if_neg (show ¬ ((S.length - 0 : Nat) : Int) < ((i + 1 : Nat) : Int) by omega), inC_t (show i + 1 ≤ S.length - 0 by omega), Int.toNat_natCast, Int.toNat_natCast, inC_t (show i ≤ i + 1 by omega), show i + 1 - i = 1 by omega, take_one S i (by omega), List.length_append, len_map, lenOk_t (by simp; omega)]
      simp only [cond_true]
      rw [← ll_k T B h (show i < K.length by omega), ← ll_s T B h hm, ← map_range_succ, ← map_range_succ]
      have hl2 : 2 * i + 1 + 1 + 1 = lp K.length (i + 1) := by unfold lp; rw [if_pos hm]; omega
      rw [hl2]
      exact len_loop F T B K S p h hK j k (i + 1) (by omega) (by omega)
    · rw [if_pos (show ((S.length - 0 : Nat) : Int) < ((i + 1 : Nat) : Int) by omega), inC_t (show S.length - 0 ≤ S.length - 0 by omega), Int.toNat_natCast, Int.toNat_natCast, inC_t (show i ≤ S.length - 0 by omega), show S.length - 0 - i = 0 by omega, List.take_zero, List.length_append, len_map, lenOk_t (by simp; omega)]
      simp only [cond_true]
      rw [← ll_k T B h (show i < K.length by omega), ← map_range_succ, List.append_nil]
      have hl2 : 2 * i + 1 + 1 = lp K.length (i + 1) := by unfold lp; rw [if_neg hm, if_neg (by omega)]; omega
      rw [hl2]
      exact len_loop F T B K S p h hK j k (i + 1) (by omega) (by omega)
theorem lengths_eq (F : Nat) (hF : 2000 < F) (T B : Int) (K S : List Int) (h : S.length = K.length - 1) (hK : K.length ≤ 2000) : lengths_S F (T, B) S K = some ((List.range (K.length + S.length + 2)).map (ll T B K S)) := by
  have h0 : ((List.range (lp K.length 0)).map (ll T B K S)) = T :: [] := by rw [lp_0]; rfl
  unfold lengths_S
  change ob (lengths_L0 F ((K.length - 0 : Nat) : Int) S K (T, B) F ((0 : Nat) : Int) (T :: [])) _ = _
  rw [← h0, len_loop F T B K S (T, B) h hK K.length F 0 (by omega) (by omega), lp_m h]
  change (bif lenOk (((List.range (K.length + S.length + 1)).map (ll T B K S)).length - 0) [B].length then some (((List.range (K.length + S.length + 1)).map (ll T B K S)) ++ [B]) else none) = _
  rw [len_map, lenOk_t (by simp; omega)]
  have e : ll T B K S (K.length + S.length + 1) = B := by unfold ll; rw [if_neg (by omega), if_pos rfl]
  rw [map_range_succ (ll T B K S) (K.length + S.length + 1), e]
  rfl
/-- The shares. -/
def dv (n W : Int) (f : Nat → Int) (i : Nat) : Int := n * sm f i / W
def sh (n W : Int) (f : Nat → Int) (i : Nat) : Int := dv n W f (i + 1) - dv n W f i
theorem sm_mono_le (f : Nat → Int) (q : Nat) (h : ∀ i, i < q → 0 ≤ f i) : ∀ (j i : Nat), i + j = q → sm f i ≤ sm f q
  | 0, i, hi => by rw [show i = q by omega]; exact Int.le_refl _
  | j + 1, i, hi => by
    have h1 := sm_mono_le f q h j (i + 1) (by omega)
    have h2 := h i (by omega)
    have : sm f (i + 1) = sm f i + f i := rfl
    omega
theorem mulDiv_int (F : Nat) (hF : 2000 < F) (n a W : Int) (hn : 0 ≤ n ∧ n ≤ 1000000000000000) (ha : 0 ≤ a ∧ a ≤ W) (hW : 1 ≤ W ∧ W ≤ 600000000) : ∃ r, mulDiv_S F n a W 1 = some (n * a / W, (r, 0)) ∧ 0 ≤ n * a / W ∧ n * a / W ≤ n := by
  obtain ⟨n', rfl⟩ := Int.eq_ofNat_of_zero_le hn.1
  obtain ⟨a', rfl⟩ := Int.eq_ofNat_of_zero_le ha.1
  obtain ⟨W', rfl⟩ := Int.eq_ofNat_of_zero_le (show 0 ≤ W by omega)
  have hq : n' * a' / W' ≤ n' := by
    apply Nat.div_le_of_le_mul
    rw [Nat.mul_comm W']
    exact Nat.mul_le_mul_left n' (by omega)
  have e : (n' : Int) * (a' : Int) / (W' : Int) = ((n' * a' / W' : Nat) : Int) := by rw [← Int.natCast_mul, Int.natCast_ediv]
  rw [e]
  exact ⟨_, mulDiv_eq F hF n' a' W' (by omega) (by omega) (by omega) (Nat.le_trans hq (by omega)), Int.natCast_nonneg _, Int.ofNat_le.2 hq⟩
theorem div_loop (F : Nat) (hF : 2000 < F) (n W : Int) (f : Nat → Int) (q : Nat) (hq : q ≤ 2000) (hn : 0 ≤ n ∧ n ≤ 1000000000000000) (hW : 1 ≤ W ∧ W ≤ 600000000) (hWs : W = sm f q) (hf : ∀ i, i < q → 0 ≤ f i ∧ f i ≤ 600000000) (S K : List Int) : ∀ (j k i : Nat), i + j = q → j < k →
    divide_L0 F n W ((((List.range q).map f).length - 0 : Nat) : Int) S K ((List.range q).map f) k (sm f i) (dv n W f i) i ((List.range i).map (sh n W f)) = some (S, K, (List.range q).map (sh n W f))
  | j, 0, i, _, hk => by omega
  | 0, k + 1, i, hi, _ => by
    have e : i = q := by omega
    subst e
    show (bif decide (((i : Nat) : Int) < ((((List.range i).map f).length - 0 : Nat) : Int)) then _ else _) = _
    rw [len_map, dec_f (by omega)]; rfl
  | j + 1, k + 1, i, hi, hk => by
    have e1 : IntKind.wrap IntKind.i64 ((i : Int) + 1) = ((i + 1 : Nat) : Int) := by rw [w64 _ (by omega)]; omega
    have r0 := sm_range f 600000000 i fun x hx => hf x (by omega)
    have h2 := hf i (by omega)
    have r1 := sm_mono_le f q (fun x hx => (hf x hx).1) j (i + 1) (by omega)
    have r2 := sm_mono_le f q (fun x hx => (hf x hx).1) (j + 1) i (by omega)
    have es : sm f (i + 1) = sm f i + f i := rfl
    have e2 : IntKind.wrap IntKind.i64 (sm f i + f i) = sm f (i + 1) := by rw [w64 _ (by omega), es]
    obtain ⟨r, m1, m2, m3⟩ := mulDiv_int F hF n (sm f (i + 1)) W hn (by omega) hW
    obtain ⟨_, _, m4, m5⟩ := mulDiv_int F hF n (sm f i) W hn (by omega) hW
    have e3 : IntKind.wrap IntKind.i64 (n * sm f (i + 1) / W - dv n W f i) = sh n W f i := by
      rw [w64 _ (by unfold dv; omega)]; rfl
    show (bif decide ((i : Int) < ((((List.range q).map f).length - 0 : Nat) : Int)) then (bif inB (i : Int) (((List.range q).map f).length - 0) then ob (mulDiv_S F n (IntKind.wrap IntKind.i64 (sm f i + nth ((List.range q).map f) (0 : Int) i)) W 1) (fun r4 => bif lenOk (((List.range i).map (sh n W f)).length - 0) [IntKind.wrap IntKind.i64 (r4.1 - dv n W f i)].length then
      divide_L0 F n W ((((List.range q).map f).length - 0 : Nat) : Int) S K ((List.range q).map f) k (IntKind.wrap IntKind.i64 (sm f i + nth ((List.range q).map f) (0 : Int) i)) r4.1 (IntKind.wrap IntKind.i64 ((i : Int) + 1)) (((List.range i).map (sh n W f)) ++ [IntKind.wrap IntKind.i64 (r4.1 - dv n W f i)]) else none) else none) else _) = _
    rw [nth_map _ _ _ (show i < q by omega), e1, e2, m1, dec_t (by rw [len_map]; omega), inB_t (by rw [len_map]; omega)]
    show (bif lenOk (((List.range i).map (sh n W f)).length - 0) [IntKind.wrap IntKind.i64 (n * sm f (i + 1) / W - dv n W f i)].length then
      divide_L0 F n W ((((List.range q).map f).length - 0 : Nat) : Int) S K ((List.range q).map f) k (sm f (i + 1)) (n * sm f (i + 1) / W) ((i + 1 : Nat) : Int) (((List.range i).map (sh n W f)) ++ [IntKind.wrap IntKind.i64 (n * sm f (i + 1) / W - dv n W f i)]) else none) = _
    rw [e3, len_map, lenOk_t (show i - 0 + [sh n W f i].length ≤ 1000000 by simp; omega), ← map_range_succ]
    exact div_loop F hF n W f q hq hn hW hWs hf S K j k (i + 1) (by omega) (by omega)
def od (n W : Int) (f : Nat → Int) (j : Nat) : Int := sh n W f (2 * j + 1)
def ev (n W : Int) (f : Nat → Int) (j : Nat) : Int := sh n W f (2 * j + 2)
theorem div_loop1 (F : Nat) (n W : Int) (f : Nat → Int) (q : Nat) (hq : q + 2 ≤ 2000) (a b : Int) (S K : List Int) : ∀ (j k i : Nat), i + j = q → j < k →
    divide_L1 F a b (1, q) (q : Int) S K ((List.range (q + 2)).map (sh n W f)) k i ((List.range ((i + 1) / 2)).map (od n W f)) ((List.range (i / 2)).map (ev n W f)) = some ((a, b), (S, (K, ((List.range ((q + 1) / 2)).map (od n W f), (List.range (q / 2)).map (ev n W f)))))
  | j, 0, i, _, hk => by omega
  | 0, k + 1, i, hi, _ => by
    have e : i = q := by omega
    subst e
    show (bif decide (((i : Nat) : Int) < (i : Int)) then _ else _) = _
    rw [dec_f (by omega)]; rfl
  | j + 1, k + 1, i, hi, hk => by
    have e1 : IntKind.wrap IntKind.i64 ((i : Int) + 1) = ((i + 1 : Nat) : Int) := by rw [w64 _ (by omega)]; omega
    have e4 : nth ((List.range (q + 2)).map (sh n W f)) (0 : Int) (addN 1 i) = sh n W f (i + 1) := by rw [addN_eq, nth_map _ _ _ (by omega), Nat.add_comm]
    show (bif decide ((i : Int) < (q : Int)) then (bif inB (i : Int) q then (bif (Int.tmod (i : Int) (2 : Int)) == (0 : Int) then
      (bif lenOk (((List.range ((i + 1) / 2)).map (od n W f)).length - 0) [nth ((List.range (q + 2)).map (sh n W f)) (0 : Int) (addN 1 i)].length then divide_L1 F a b (1, q) (q : Int) S K ((List.range (q + 2)).map (sh n W f)) k (IntKind.wrap IntKind.i64 ((i : Int) + 1)) (((List.range ((i + 1) / 2)).map (od n W f)) ++ [nth ((List.range (q + 2)).map (sh n W f)) (0 : Int) (addN 1 i)]) ((List.range (i / 2)).map (ev n W f)) else none)
      else (bif lenOk (((List.range (i / 2)).map (ev n W f)).length - 0) [nth ((List.range (q + 2)).map (sh n W f)) (0 : Int) (addN 1 i)].length then divide_L1 F a b (1, q) (q : Int) S K ((List.range (q + 2)).map (sh n W f)) k (IntKind.wrap IntKind.i64 ((i : Int) + 1)) ((List.range ((i + 1) / 2)).map (od n W f)) (((List.range (i / 2)).map (ev n W f)) ++ [nth ((List.range (q + 2)).map (sh n W f)) (0 : Int) (addN 1 i)]) else none)) else none) else _) = _
    rw [e4, e1, dec_t (by omega), inB_t (show i < q by omega), show Int.tmod (i : Int) (2 : Int) = ((i % 2 : Nat) : Int) from rfl]
    simp only [cond_true]
    by_cases h2 : i % 2 = 0
    · rw [h2, show (((0 : Nat) : Int) == 0) = true from rfl, len_map, lenOk_t (show (i + 1) / 2 - 0 + [sh n W f (i + 1)].length ≤ 1000000 by simp; omega)]
      simp only [cond_true]
      have e5 : sh n W f (i + 1) = od n W f ((i + 1) / 2) := by unfold od; rw [show 2 * ((i + 1) / 2) + 1 = i + 1 by omega]
      rw [e5, ← map_range_succ, show (i + 1) / 2 + 1 = (i + 1 + 1) / 2 by omega, show (List.range (i / 2)) = List.range ((i + 1) / 2) by rw [show i / 2 = (i + 1) / 2 by omega]]
      exact div_loop1 F n W f q hq a b S K j k (i + 1) (by omega) (by omega)
    · rw [show i % 2 = 1 by omega, show (((1 : Nat) : Int) == 0) = false from rfl, len_map, len_map, lenOk_t (show i / 2 - 0 + [sh n W f (i + 1)].length ≤ 1000000 by simp; omega)]
      simp only [cond_true, cond_false]
      have e5 : sh n W f (i + 1) = ev n W f (i / 2) := by unfold ev; rw [show 2 * (i / 2) + 2 = i + 1 by omega]
      rw [e5, ← map_range_succ, show i / 2 + 1 = (i + 1) / 2 by omega, show (List.range ((i + 1) / 2)).map (od n W f) = (List.range ((i + 1 + 1) / 2)).map (od n W f) by rw [show (i + 1) / 2 = (i + 1 + 1) / 2 by omega]]
      exact div_loop1 F n W f q hq a b S K j k (i + 1) (by omega) (by omega)
theorem ixQ_loop (F : Nat) (l : List Int) (hq : l.length ≤ 5000) : ∀ (j k i : Nat), i + j = l.length → j < k →
    (∃ x : Int, 0 ≤ x ∧ indexQ_L0 F ((l.length - 0 : Nat) : Int) l k i = some (.inl (x, l)) ∧ (l.drop i).all (fun x => inOk x 0 600000000) = false) ∨ (indexQ_L0 F ((l.length - 0 : Nat) : Int) l k i = some (.inr l) ∧ (l.drop i).all (fun x => inOk x 0 600000000) = true)
  | j, 0, i, _, hk => by omega
  | 0, k + 1, i, hi, _ => by
    refine .inr ⟨?_, ?_⟩
    · show (bif decide ((i : Int) < ((l.length - 0 : Nat) : Int)) then _ else _) = _
      rw [dec_f (by omega)]; rfl
    · rw [List.drop_eq_nil_of_le (by omega)]; rfl
  | j + 1, k + 1, i, hi, hk => by
    have e1 : IntKind.wrap IntKind.i64 ((i : Int) + 1) = ((i + 1 : Nat) : Int) := by rw [w64 _ (by omega)]; omega
    have key : indexQ_L0 F ((l.length - 0 : Nat) : Int) l (k + 1) i = (bif (!inOk (nth l (0 : Int) i) 0 600000000) then some (.inl ((i : Int), l)) else indexQ_L0 F ((l.length - 0 : Nat) : Int) l k ((i + 1 : Nat) : Int)) := by
      show (bif decide ((i : Int) < ((l.length - 0 : Nat) : Int)) then (bif inB (i : Int) (l.length - 0) then ob (within_S F (nth l (0 : Int) i) 0 600000000) (fun r' => bif (!r') then some (.inl ((i : Int), l)) else indexQ_L0 F ((l.length - 0 : Nat) : Int) l k (IntKind.wrap IntKind.i64 ((i : Int) + 1))) else none) else _) = _
      rw [with_S, e1, dec_t (by omega), inB_t (show i < l.length - 0 by omega)]
      rfl
    rw [key, drop_nth l i (by omega), List.all_cons]
    cases h : inOk (nth l (0 : Int) i) 0 600000000 with
    | false => exact .inl ⟨i, by omega, rfl, rfl⟩
    | true =>
      rw [Bool.true_and]
      exact ixQ_loop F l hq j k (i + 1) (by omega) (by omega)
theorem contQ_eq (F : Nat) (hF : 2000 < F) (l : List Int) (hq : l.length ≤ 2000) : contQ_S F l = some (!l.all (fun x => inOk x 0 600000000)) := by
  unfold contQ_S indexQ_S
  change ob (ob (indexQ_L0 F ((l.length - 0 : Nat) : Int) l F ((0 : Nat) : Int)) _) _ = _
  rcases ixQ_loop F l (by omega) l.length F 0 (by omega) (by omega) with ⟨x, h0, h1, h2⟩ | ⟨h1, h2⟩
  · rw [h1]
    rw [List.drop_zero] at h2
    rw [h2]
    show some (decide (x ≥ 0)) = _
    rw [dec_t h0]; rfl
  · rw [h1]
    rw [List.drop_zero] at h2
    rw [h2]
    rfl
theorem all_rg (f : Nat → Int) (q : Nat) : (((List.range q).map f).all (fun x => inOk x 0 600000000) = true) ↔ ∀ i, i < q → 0 ≤ f i ∧ f i ≤ 600000000 := by
  rw [List.all_eq_true]
  constructor
  · intro h i hi
    have := h (f i) (List.mem_map.2 ⟨i, List.mem_range.2 hi, rfl⟩)
    unfold inOk at this
    simp only [Bool.and_eq_true, decide_eq_true_eq] at this
    exact this
  · intro h x hx
    obtain ⟨i, hi, rfl⟩ := List.mem_map.1 hx
    have := h i (List.mem_range.1 hi)
    unfold inOk
    simp only [Bool.and_eq_true, decide_eq_true_eq]
    exact this
/-- Parts that are valid. -/
structure Pv (T B : Int) (K S : List Int) : Prop where
  h : S.length = K.length - 1
  k : K.length ≤ 900
  z : K.length = 0 → B = 0
  r : ∀ i, i < K.length + S.length + 2 → 0 ≤ ll T B K S i ∧ ll T B K S i ≤ 600000000
  w : 1 ≤ sm (ll T B K S) (K.length + S.length + 2) ∧ sm (ll T B K S) (K.length + S.length + 2) ≤ 600000000
theorem areParts_eq (F : Nat) (hF : 2000 < F) {T B : Int} {K S : List Int} (p : Pv T B K S) : areParts_S F (T, B) S K = some true := by
  have h1 := p.h; have h2 := p.k; have h3 := p.w
  unfold areParts_S
  have e1 : (if (IntKind.wrap IntKind.i64 (((K.length - 0 : Nat) : Int) - (1 : Int))) > (0 : Int) then (IntKind.wrap IntKind.i64 (((K.length - 0 : Nat) : Int) - (1 : Int))) else (0 : Int)) = ((K.length - 1 : Nat) : Int) := by
    rw [w64 _ (by omega)]
    split <;> omega
  have e2 : (((S.length - 0 : Nat) : Int) != ((K.length - 1 : Nat) : Int)) = false := by rw [show S.length - 0 = K.length - 1 by omega, bne_self_eq_false]
  change ob (bif (decide (((K.length - 0 : Nat) : Int) > (2000 : Int))) then _ else (bif (((S.length - 0 : Nat) : Int) != (if (IntKind.wrap IntKind.i64 (((K.length - 0 : Nat) : Int) - (1 : Int))) > (0 : Int) then (IntKind.wrap IntKind.i64 (((K.length - 0 : Nat) : Int) - (1 : Int))) else (0 : Int))) then _ else (bif (((K.length - 0 : Nat) : Int) == (0 : Int)) then (some ((B != (0 : Int)), (S, (K, (T, B))))) else (some (false, (S, (K, (T, B)))))))) _ = _
  rw [e1, e2, dec_f (show ¬ ((K.length - 0 : Nat) : Int) > 2000 by omega)]
  have e3 : (bif (((K.length - 0 : Nat) : Int) == (0 : Int)) then (some ((B != (0 : Int)), (S, (K, (T, B))))) else (some (false, (S, (K, (T, B)))))) = some (false, (S, (K, (T, B)))) := by
    by_cases hz : K.length = 0
    · rw [p.z hz, bne_self_eq_false]
      cases (((K.length - 0 : Nat) : Int) == (0 : Int)) <;> rfl
    · rw [show (((K.length - 0 : Nat) : Int) == (0 : Int)) = false from beq_eq_false_iff_ne.2 (by omega)]; rfl
  change ob (bif (((K.length - 0 : Nat) : Int) == (0 : Int)) then (some ((B != (0 : Int)), (S, (K, (T, B))))) else (some (false, (S, (K, (T, B)))))) _ = _
  rw [e3]
  change ob (lengths_S F (T, B) S K) _ = _
  rw [lengths_eq F hF T B K S h1 (by omega)]
  change ob (contQ_S F _) _ = _
  rw [contQ_eq F hF _ (by rw [len_map]; omega), (all_rg _ _).2 p.r]
  change ob (sum_S F _) _ = _
  rw [sum_eq F _ _ (by omega) hF p.r]
  change ob (within_S F _ _ _) _ = _
  rw [with_S]
  unfold inOk
  rw [dec_t h3.1, dec_t h3.2]
  rfl
theorem divide_eq (F : Nat) (hF : 2000 < F) {T B : Int} {K S : List Int} (p : Pv T B K S) (n : Int) (hn : 0 ≤ n ∧ n ≤ 1000000000000000) :
    divide_S F n (T, B) S K = some ((sh n (sm (ll T B K S) (K.length + S.length + 2)) (ll T B K S) 0, (sh n (sm (ll T B K S) (K.length + S.length + 2)) (ll T B K S) (K.length + S.length + 1), 0)),
      ((List.range K.length).map (od n (sm (ll T B K S) (K.length + S.length + 2)) (ll T B K S)), (List.range S.length).map (ev n (sm (ll T B K S) (K.length + S.length + 2)) (ll T B K S)))) := by
  have h1 := p.h; have h2 := p.k; have h3 := p.w; have h4 := p.r
  unfold divide_S
  rw [with_S]
  unfold inOk
  rw [dec_t hn.1, dec_t hn.2]
  change ob (areParts_S F (T, B) S K) _ = _
  rw [areParts_eq F hF p]
  change ob (lengths_S F (T, B) S K) _ = _
  rw [lengths_eq F hF T B K S h1 (by omega)]
  change ob (sum_S F _) _ = _
  rw [sum_eq F _ _ (by omega) hF p.r]
  generalize hq : K.length + S.length = q at *
  generalize hW : sm (ll T B K S) (q + 2) = W at *
  change ob (divide_L0 F n W ((((List.range (q + 2)).map (ll T B K S)).length - 0 : Nat) : Int) S K ((List.range (q + 2)).map (ll T B K S)) F (sm (ll T B K S) 0) 0 ((0 : Nat) : Int) ((List.range 0).map (sh n W (ll T B K S)))) _ = _
  have d0 : (0 : Int) = dv n W (ll T B K S) 0 := by unfold dv; rw [show sm (ll T B K S) 0 = 0 from rfl, Int.mul_zero, Int.zero_ediv]
  have dl := div_loop F hF n W (ll T B K S) (q + 2) (by omega) hn h3 hW.symm h4 S K (q + 2) F 0 (by omega) (by omega)
  rw [← d0] at dl
  rw [dl]
  have e1 : IntKind.wrap IntKind.i64 ((((((List.range (q + 2)).map (sh n W (ll T B K S))).length - 0 : Nat) : Int)) - 1) = ((q + 1 : Nat) : Int) := by
    rw [len_map, w64 _ (by omega)]; omega
  change (bif inB ((0 : Nat) : Int) (((List.range (q + 2)).map (sh n W (ll T B K S))).length - 0) then (bif inB (IntKind.wrap IntKind.i64 ((((((List.range (q + 2)).map (sh n W (ll T B K S))).length - 0 : Nat) : Int)) - 1)) (((List.range (q + 2)).map (sh n W (ll T B K S))).length - 0) then (bif inC (IntKind.wrap IntKind.i64 ((((((List.range (q + 2)).map (sh n W (ll T B K S))).length - 0 : Nat) : Int)) - 1)) (((List.range (q + 2)).map (sh n W (ll T B K S))).length - 0) then (bif inC ((1 : Nat) : Int) (IntKind.wrap IntKind.i64 ((((((List.range (q + 2)).map (sh n W (ll T B K S))).length - 0 : Nat) : Int)) - 1)).toNat then
    ob (divide_L1 F (nth ((List.range (q + 2)).map (sh n W (ll T B K S))) (0 : Int) 0) (nth ((List.range (q + 2)).map (sh n W (ll T B K S))) (0 : Int) (IntKind.wrap IntKind.i64 ((((((List.range (q + 2)).map (sh n W (ll T B K S))).length - 0 : Nat) : Int)) - 1)).toNat) (1, (IntKind.wrap IntKind.i64 ((((((List.range (q + 2)).map (sh n W (ll T B K S))).length - 0 : Nat) : Int)) - 1)).toNat - 1) ((((IntKind.wrap IntKind.i64 ((((((List.range (q + 2)).map (sh n W (ll T B K S))).length - 0 : Nat) : Int)) - 1)).toNat - 1 : Nat) : Int)) S K ((List.range (q + 2)).map (sh n W (ll T B K S))) F ((0 : Nat) : Int) [] []) _ else none) else none) else none) else none) = _
  rw [e1, len_map, Int.toNat_natCast, inB_t (show 0 < q + 2 - 0 by omega), inB_t (show q + 1 < q + 2 - 0 by omega), inC_t (show q + 1 ≤ q + 2 - 0 by omega), inC_t (show 1 ≤ q + 1 by omega), show q + 1 - 1 = q by omega, nth_map _ _ _ (show 0 < q + 2 by omega), nth_map _ _ _ (show q + 1 < q + 2 by omega)]
  have l1 := div_loop1 F n W (ll T B K S) q (by omega) (sh n W (ll T B K S) 0) (sh n W (ll T B K S) (q + 1)) S K q F 0 (by omega) (by omega)
  change ob (divide_L1 F (sh n W (ll T B K S) 0) (sh n W (ll T B K S) (q + 1)) (1, q) (q : Int) S K ((List.range (q + 2)).map (sh n W (ll T B K S))) F ((0 : Nat) : Int) ((List.range ((0 + 1) / 2)).map (od n W (ll T B K S))) ((List.range (0 / 2)).map (ev n W (ll T B K S)))) _ = _
  rw [l1, show (q + 1) / 2 = K.length by omega, show q / 2 = S.length by omega]
end Go.Proofs.YtdfgmfddkcmalaaDoor
