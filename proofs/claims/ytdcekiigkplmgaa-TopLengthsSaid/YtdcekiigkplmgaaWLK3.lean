/- Plain laws of a cropping: what is prepared, what is valid. No condition. -/
import Derived.Test.YtdcekiigkplmgaaWLK2
import Derived.Test.YtdcekiigkplmgaaWXS8
import Derived.Shelf.Bits.Mul64
namespace Go.Proofs.Ytdcekiigkplmgaa
open Go.RowKit
set_option maxRecDepth 100000
theorem fdN (a : Nat) : Int.fdiv (a : Int) 4294967296 = ((a / 4294967296 : Nat) : Int) := by
  rw [Int.fdiv_eq_ediv_of_nonneg _ (by decide)]
  exact Mul64.divN a
theorem mkN (a : Nat) (h : a < 18446744073709551616) : IntKind.wrap IntKind.u64 ((BitVec.toNat ((BitVec.ofInt 64 (a : Int)) &&& (BitVec.ofInt 64 (4294967295 : Int))) : Nat) : Int) = ((a % 4294967296 : Nat) : Int) := Mul64.maskN a h
theorem mul64_eq (F : Nat) (x y : Nat) (hx : x < 18446744073709551616) (hy : y < 18446744073709551616) : mul64_S F x y = some (((x * y / 18446744073709551616 : Nat) : Int), ((x * y % 18446744073709551616 : Nat) : Int)) := by
  obtain ⟨bd, bt, bw, hhi⟩ := Lib.mul64_hi x y hx hy
  have ba := Lib.half_mul_le (a := x / 4294967296) (b := y / 4294967296) (by omega) (by omega)
  have bb := Lib.half_mul_le (a := x / 4294967296) (b := y % 4294967296) (by omega) (by omega)
  have bc := Lib.half_mul_le (a := x % 4294967296) (b := y / 4294967296) (by omega) (by omega)
  have ba' : x / 4294967296 * (y / 4294967296) < 18446744073709551616 := by omega
  have bb' : x / 4294967296 * (y % 4294967296) < 18446744073709551616 := by omega
  have bc' : x % 4294967296 * (y / 4294967296) < 18446744073709551616 := by omega
  have bh1 : x / 4294967296 * (y / 4294967296) + (x / 4294967296 * (y % 4294967296) + x % 4294967296 * (y % 4294967296) / 4294967296) / 4294967296 < 18446744073709551616 := by omega
  have bh : x / 4294967296 * (y / 4294967296) + (x / 4294967296 * (y % 4294967296) + x % 4294967296 * (y % 4294967296) / 4294967296) / 4294967296 + ((x / 4294967296 * (y % 4294967296) + x % 4294967296 * (y % 4294967296) / 4294967296) % 4294967296 + x % 4294967296 * (y / 4294967296)) / 4294967296 < 18446744073709551616 := by omega
  unfold mul64_S
  simp only [mkN x hx, mkN y hy, fdN, Mul64.mulN, Mul64.addN, Mul64.wrapN _ bd, Mul64.wrapN _ bb', Mul64.wrapN _ bt, mkN _ bt, Mul64.wrapN _ bc', Mul64.wrapN _ bw, Mul64.wrapN _ ba', Mul64.wrapN _ bh1, Mul64.wrapN _ bh, Mul64.wrapM (x * y)]
  rw [hhi]
abbrev SwC := Int × (Int × Int)
abbrev BkT := Int × Int
abbrev RsT := Int × (Int × BkT)
theorem inC_t {k n : Nat} (h : k ≤ n) : inC (k : Int) n = true := by
  unfold inC
  rw [dec_t (by omega), dec_t (by omega)]; rfl
theorem addN0 (x : Nat) : addN x 0 = x := by rw [addN_eq]; rfl
theorem with7 (F : Nat) (n a b : Int) : within7_S F n a b = some (inOk n a b) := by
  unfold within7_S inOk
  change (bif decide (a ≤ n) then _ else _) = _
  cases decide (a ≤ n) <;> rfl
theorem repI_L (F : Nat) (g0 : List Int) (c : Nat) (hc : c ≤ 200) : ∀ (k n : Nat) (l : List Int), l.length = c → 1 ≤ n → n ≤ c → c - n < k → ∃ r, repI_L0 F g0 k n l = some (g0, r) ∧ r.length = c
  | 0, n, l, _, _, _, hk => by omega
  | k + 1, n, l, hl, h1, hn, hk => by
    by_cases h : n = c
    · refine ⟨l, ?_, hl⟩
      show (bif decide ((n : Int) < ((l.length - 0 : Nat) : Int)) then _ else some (g0, l)) = _
      rw [dec_f (by omega)]; rfl
    · have lT : (List.take (l.length - n) (List.take (n - 0) l)).length = min (c - n) n := by simp [hl]; omega
      have key : repI_L0 F g0 (k + 1) n l = repI_L0 F g0 k (IntKind.wrap IntKind.i64 ((n : Int) + ((List.take (l.length - n) (List.take (n - 0) l)).length : Nat))) (((List.take n l) ++ (List.take (l.length - n) (List.take (n - 0) l))) ++ (List.drop (n + (List.take (l.length - n) (List.take (n - 0) l)).length) l)) := by
        show (bif decide ((n : Int) < ((l.length - 0 : Nat) : Int)) then (bif inC (n : Int) (l.length - 0) then (bif inC (n : Int) (l.length - 0) then _ else none) else none) else _) = _
        rw [dec_t (by omega), inC_t (show n ≤ l.length - 0 by omega)]
        rfl
      rw [key, lT, w64 _ (by omega), show (n : Int) + (min (c - n) n : Nat) = ((n + min (c - n) n : Nat) : Int) by omega]
      exact repI_L F g0 c hc k _ _ (by simp [hl]; omega) (by omega) (by omega) (by omega)
theorem repI_eq (F : Nat) (hF : 2000 < F) (w c : Int) (h : 1 ≤ c ∧ c ≤ 200) : ∃ r, repI_S F c [w] = some r ∧ (r.length : Int) = c := by
  obtain ⟨q, rfl⟩ : ∃ q : Nat, c = q := ⟨c.toNat, by omega⟩
  have e1 : IntKind.wrap IntKind.u64 (q : Int) = (q : Int) := by rw [IntKind.wrap_u64]; omega
  have e2 : bitsMul_S F 1 (q : Int) = some (0, (q : Int)) := by
    unfold bitsMul_S mul64h_S
    rw [hold_eq]
    have := mul64_eq F 1 q (by omega) (by omega)
    rw [show ((1 : Nat) : Int) = 1 from rfl, show 1 * q / 18446744073709551616 = 0 by omega, show 1 * q % 18446744073709551616 = q by omega] at this
    rw [this]; rfl
  have e3 : IntKind.wrap IntKind.i64 (q : Int) = (q : Int) := w64 _ (by omega)
  obtain ⟨r, r1, r2⟩ := repI_L F [w] q (by omega) F 1 (((List.take 0 (List.replicate q (0 : Int))) ++ (List.take ((List.replicate q (0 : Int)).length - 0) [w])) ++ (List.drop (0 + (List.take ((List.replicate q (0 : Int)).length - 0) [w]).length) (List.replicate q (0 : Int)))) (by simp; omega) (by omega) (by omega) (by omega)
  refine ⟨r, ?_, by omega⟩
  unfold repI_S
  rw [dec_f (show ¬ (q : Int) < 0 by omega)]
  change ob (bitsMul_S F (IntKind.wrap IntKind.u64 1) (IntKind.wrap IntKind.u64 (q : Int))) _ = _
  rw [e1, show IntKind.wrap IntKind.u64 1 = 1 by decide, e2]
  change (bif decide ((0 : Int) > 0) then none else (bif decide ((q : Int) > 9223372036854775807) then none else (bif (decide ((0 : Int) ≤ IntKind.wrap IntKind.i64 (q : Int)) && decide (IntKind.wrap IntKind.i64 (q : Int) ≤ 1000000)) then ob (repI_L0 F [w] F ((List.take ((List.replicate (IntKind.wrap IntKind.i64 (q : Int)).toNat (0 : Int)).length - 0) [w]).length : Nat) (((List.take 0 (List.replicate (IntKind.wrap IntKind.i64 (q : Int)).toNat (0 : Int))) ++ (List.take ((List.replicate (IntKind.wrap IntKind.i64 (q : Int)).toNat (0 : Int)).length - 0) [w])) ++ (List.drop (0 + (List.take ((List.replicate (IntKind.wrap IntKind.i64 (q : Int)).toNat (0 : Int)).length - 0) [w]).length) (List.replicate (IntKind.wrap IntKind.i64 (q : Int)).toNat (0 : Int))))) _ else none))) = _
  rw [e3, Int.toNat_natCast, dec_f (show ¬ (0 : Int) > 0 by omega), dec_f (show ¬ (q : Int) > 9223372036854775807 by omega), dec_t (show (0 : Int) ≤ q by omega), dec_t (show (q : Int) ≤ 1000000 by omega)]
  have lt : (List.take ((List.replicate q (0 : Int)).length - 0) [w]).length = 1 := by simp; omega
  rw [lt] at r1 ⊢
  change ob (repI_L0 F [w] F ((1 : Nat) : Int) _) _ = _
  rw [r1]
/-- Lengths of stretches. -/
def lnS (l : List BkT) (i : Nat) : Int := (nth l ((0 : Int), (0 : Int)) i).1
theorem sm_le (f : Nat → Int) (h : ∀ i, 0 ≤ f i) : ∀ {i j : Nat}, i ≤ j → sm f i ≤ sm f j
  | i, 0, hij => by rw [show i = 0 by omega]; exact Int.le_refl _
  | i, j + 1, hij => by
    rcases Nat.lt_or_ge i (j + 1) with h1 | h1
    · have := sm_le f h (show i ≤ j by omega)
      have := h j
      show _ ≤ sm f j + f j
      omega
    · rw [show i = j + 1 by omega]; exact Int.le_refl _
theorem newB_L (F : Nat) (hF : 2000 < F) (l : List BkT) (t4 s : SwC) (hl : l.length ≤ 20) (h : ∀ i, i < l.length → 1 ≤ lnS l i ∧ lnS l i ≤ 200) : ∀ (j k i : Nat) (g : List Int), i + j = l.length → j < k → (g.length : Int) = sm (lnS l) i →
    ∃ W, newB_L0 F l.length l t4 s k i g = some (l, t4, s, W) ∧ (W.length : Int) = sm (lnS l) l.length
  | j, 0, i, g, _, hk, _ => by omega
  | 0, k + 1, i, g, hi, _, hg => by
    refine ⟨g, ?_, by rw [hg, show i = l.length by omega]⟩
    show (bif decide ((i : Int) < (l.length : Int)) then _ else _) = _
    rw [dec_f (by omega)]; rfl
  | j + 1, k + 1, i, g, hi, hk, hg => by
    have h1 := h i (by omega)
    obtain ⟨r, r1, r2⟩ := repI_eq F hF (nth l ((0 : Int), (0 : Int)) i).2 (lnS l i) h1
    have hs := sm_range (lnS l) 200 i fun x hx => by have := h x (by omega); omega
    have e1 : IntKind.wrap IntKind.i64 ((i : Int) + 1) = ((i + 1 : Nat) : Int) := by rw [w64 _ (by omega)]; omega
    obtain ⟨W, w1, w2⟩ := newB_L F hF l t4 s hl h j k (i + 1) (g ++ r) (by omega) (by omega) (by rw [List.length_append]; show _ = sm (lnS l) i + lnS l i; omega)
    refine ⟨W, ?_, w2⟩
    show (bif decide ((i : Int) < (l.length : Int)) then (bif inB (i : Int) (l.length - 0) then ob (repI_S F (lnS l i) [(nth l ((0 : Int), (0 : Int)) i).2]) (fun r => bif lenOk (g.length - 0) r.length then newB_L0 F l.length l t4 s k (IntKind.wrap IntKind.i64 ((i : Int) + 1)) (g ++ r) else none) else none) else _) = _
    rw [dec_t (by omega), inB_t (show i < l.length - 0 by omega), r1, e1]
    show (bif lenOk (g.length - 0) r.length then _ else none) = _
    rw [lenOk_t (by omega)]
    exact w1
theorem newB_eq (F : Nat) (hF : 2000 < F) (l : List BkT) (s : SwC) (hl : l.length ≤ 20) (h : ∀ i, i < l.length → 1 ≤ lnS l i ∧ lnS l i ≤ 200) : ∃ W, newB_S F s l = some (s, W) ∧ (W.length : Int) = sm (lnS l) l.length := by
  obtain ⟨W, w1, w2⟩ := newB_L F hF l (0, (0, 0)) s hl h l.length F 0 [] (by omega) (by omega) rfl
  refine ⟨W, ?_, w2⟩
  unfold newB_S
  change ob (newB_L0 F l.length l (0, (0, 0)) s F ((0 : Nat) : Int) []) _ = _
  rw [w1]
/-! What is valid -/
theorem ixB_L (F : Nat) (l : List BkT) (hq : l.length ≤ 1000) : ∀ (j k i : Nat), i + j = l.length → j < k → ∃ r, indexB_L0 F l.length l k i = some r
  | j, 0, i, _, hk => by omega
  | 0, k + 1, i, hi, _ => by
    refine ⟨.inr l, ?_⟩
    show (bif decide ((i : Int) < (l.length : Int)) then _ else _) = _
    rw [dec_f (by omega)]; rfl
  | j + 1, k + 1, i, hi, hk => by
    have e1 : IntKind.wrap IntKind.i64 ((i : Int) + 1) = ((i + 1 : Nat) : Int) := by rw [w64 _ (by omega)]; omega
    obtain ⟨r, hr⟩ := ixB_L F l hq j k (i + 1) (by omega) (by omega)
    have key : indexB_L0 F l.length l (k + 1) i = (bif !inOk (nth l ((0 : Int), (0 : Int)) i).1 1 3000 then some (.inl ((i : Int), l)) else (bif !inOk (nth l ((0 : Int), (0 : Int)) i).2 (-1) 1000 then some (.inl ((i : Int), l)) else indexB_L0 F l.length l k ((i + 1 : Nat) : Int))) := by
      show (bif decide ((i : Int) < (l.length : Int)) then (bif inB (i : Int) (l.length - 0) then ob (within7_S F (nth l ((0 : Int), (0 : Int)) i).1 1 3000) (fun r => bif !r then some (.inl ((i : Int), l)) else ob (within7_S F (nth l ((0 : Int), (0 : Int)) i).2 (-1) 1000) (fun r1 => bif !r1 then some (.inl ((i : Int), l)) else indexB_L0 F l.length l k (IntKind.wrap IntKind.i64 ((i : Int) + 1)))) else none) else _) = _
      rw [dec_t (by omega), inB_t (show i < l.length - 0 by omega), with7, with7, e1]
      rfl
    rw [key]
    cases inOk (nth l ((0 : Int), (0 : Int)) i).1 1 3000 with
    | false => exact ⟨_, rfl⟩
    | true =>
      cases inOk (nth l ((0 : Int), (0 : Int)) i).2 (-1) 1000 with
      | false => exact ⟨_, rfl⟩
      | true => exact ⟨r, hr⟩
theorem contB_eq (F : Nat) (hF : 2000 < F) (l : List BkT) (hq : l.length ≤ 1000) : ∃ r, contB_S F l = some r := by
  obtain ⟨r, hr⟩ := ixB_L F l hq l.length F 0 (by omega) (by omega)
  unfold contB_S indexB_S
  change ∃ r, ob (ob (indexB_L0 F l.length l F ((0 : Nat) : Int)) _) _ = some r
  rw [hr]
  cases r <;> exact ⟨_, rfl⟩
theorem len7_L (F : Nat) (l : List BkT) (hq : l.length ≤ 1000) : ∀ (j k i : Nat) (n : Int), i + j = l.length → j < k → ∃ r, len7_L0 F l.length l k n i = some r
  | j, 0, i, _, _, hk => by omega
  | 0, k + 1, i, n, hi, _ => by
    refine ⟨(n, l), ?_⟩
    show (bif decide ((i : Int) < (l.length : Int)) then _ else _) = _
    rw [dec_f (by omega)]; rfl
  | j + 1, k + 1, i, n, hi, hk => by
    have e1 : IntKind.wrap IntKind.i64 ((i : Int) + 1) = ((i + 1 : Nat) : Int) := by rw [w64 _ (by omega)]; omega
    have key : ∃ x, len7_L0 F l.length l (k + 1) n i = len7_L0 F l.length l k x ((i + 1 : Nat) : Int) := by
      refine ⟨IntKind.wrap IntKind.i64 (n + (if (3001 : Int) < (nth l ((0 : Int), (0 : Int)) i).1 then (3001 : Int) else (nth l ((0 : Int), (0 : Int)) i).1)), ?_⟩
      show (bif decide ((i : Int) < (l.length : Int)) then (bif inB (i : Int) (l.length - 0) then len7_L0 F l.length l k _ (IntKind.wrap IntKind.i64 ((i : Int) + 1)) else none) else _) = _
      rw [dec_t (by omega), inB_t (show i < l.length - 0 by omega), e1]
      rfl
    obtain ⟨x, hx⟩ := key
    rw [hx]
    exact len7_L F l hq j k (i + 1) x (by omega) (by omega)
theorem len7_eq (F : Nat) (hF : 2000 < F) (l : List BkT) (hq : l.length ≤ 1000) : ∃ r, len7_S F l = some r := by
  obtain ⟨r, hr⟩ := len7_L F l hq l.length F 0 0 (by omega) (by omega)
  unfold len7_S
  change ∃ r, ob (len7_L0 F l.length l F 0 ((0 : Nat) : Int)) _ = some r
  rw [hr]
  exact ⟨_, rfl⟩
structure SwOk (s : SwC) : Prop where
  a : 1 ≤ s.1 ∧ s.1 ≤ s.2.1
  b : s.2.1 ≤ 600
  c : 0 ≤ s.2.2 ∧ s.2.2 ≤ 20
theorem check7_eq (F : Nat) (hF : 2000 < F) (s : SwC) (l : List BkT) (hq : l.length ≤ 20) : ∃ e, check7_S F s l = some e ∧ (e = 0 → SwOk s) := by
  obtain ⟨r, hr⟩ := contB_eq F hF l (by omega)
  obtain ⟨n, hn⟩ := len7_eq F hF l (by omega)
  unfold check7_S
  change ∃ e, (bif decide ((l.length : Int) - 0 > 60) then some 5 else ob (ob (contB_S F l) _) _) = some e ∧ _
  rw [dec_f (show ¬ (l.length : Int) - 0 > 60 by omega), hr]
  cases r with
  | true => exact ⟨2, rfl, fun h => by cases h⟩
  | false =>
    change ∃ e, ob (ob (len7_S F l) _) _ = some e ∧ _
    rw [hn]
    change ∃ e, ob (bif decide (n > 3000) then some (true, l) else (bif decide (s.1 < 1) then some (true, l) else (bif decide (s.1 > s.2.1) then some (true, l) else (bif decide (s.2.1 > 600) then some (true, l) else ob (within7_S F s.2.2 0 20) (fun r2 => some ((!r2), l)))))) _ = some e ∧ _
    by_cases h1 : n > 3000
    · rw [dec_t h1]; exact ⟨2, rfl, fun h => by cases h⟩
    by_cases h2 : s.1 < 1
    · rw [dec_f h1, dec_t h2]; exact ⟨2, rfl, fun h => by cases h⟩
    by_cases h3 : s.1 > s.2.1
    · rw [dec_f h1, dec_f h2, dec_t h3]; exact ⟨2, rfl, fun h => by cases h⟩
    by_cases h4 : s.2.1 > 600
    · rw [dec_f h1, dec_f h2, dec_f h3, dec_t h4]; exact ⟨2, rfl, fun h => by cases h⟩
    rw [dec_f h1, dec_f h2, dec_f h3, dec_f h4, with7]
    by_cases h5 : 0 ≤ s.2.2
    · by_cases h6 : s.2.2 ≤ 20
      · unfold inOk; rw [dec_t h5, dec_t h6]; exact ⟨0, rfl, fun _ => ⟨⟨by omega, by omega⟩, by omega, h5, h6⟩⟩
      · unfold inOk; rw [dec_t h5, dec_f h6]; exact ⟨2, rfl, fun h => by cases h⟩
    · unfold inOk; rw [dec_f h5]; exact ⟨2, rfl, fun h => by cases h⟩
end Go.Proofs.Ytdcekiigkplmgaa
