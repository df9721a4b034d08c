/- Plain laws of the products of 64 bits. No condition. -/
import Derived.Test.YtdfgmfddkcmalaaDoorWLR8b
import Derived.Test.YtdfgmfddkcmalaaDoorWX8b3
import Derived.Shelf.Bits.Mul64

namespace Go.Proofs.YtdfgmfddkcmalaaDoor
open Go.RowKit
set_option maxRecDepth 100000
theorem fdN (a : Nat) : Int.fdiv (a : Int) 4294967296 = ((a / 4294967296 : Nat) : Int) := by
  rw [Int.fdiv_eq_ediv_of_nonneg _ (by decide)]
  exact Mul64.divN a
theorem mkN (a : Nat) (h : a < 18446744073709551616) : IntKind.wrap IntKind.u64 ((BitVec.toNat ((BitVec.ofInt 64 (a : Int)) &&& (BitVec.ofInt 64 (4294967295 : Int))) : Nat) : Int) = ((a % 4294967296 : Nat) : Int) := Mul64.maskN a h
theorem mul64_eq (F : Nat) (x y : Nat) (hx : x < 18446744073709551616) (hy : y < 18446744073709551616) : mul64_S F x y = some (((x * y / 18446744073709551616 : Nat) : Int), ((x * y % 18446744073709551616 : Nat) : Int)) := by
  obtain ⟨bd, bt, bw, hhi⟩ := Lib.mul64_hi x y hx hy
  have ba := Lib.half_mul_le (a := x / 4294967296) (b := y / 4294967296) (by omega) (by omega)
  have bb := Lib.half_mul_le (a := x / 4294967296) (b := y % 4294967296) (by omega) (by omega)
  have bc := Lib.half_mul_le (a := x % 4294967296) (b := y / 4294967296) (by omega) (by omega)
  have ba' : x / 4294967296 * (y / 4294967296) < 18446744073709551616 := by omega
  have bb' : x / 4294967296 * (y % 4294967296) < 18446744073709551616 := by omega
  have bc' : x % 4294967296 * (y / 4294967296) < 18446744073709551616 := by omega
  have bh1 : x / 4294967296 * (y / 4294967296) + (x / 4294967296 * (y % 4294967296) + x % 4294967296 * (y % 4294967296) / 4294967296) / 4294967296 < 18446744073709551616 := by omega
  have bh : x / 4294967296 * (y / 4294967296) + (x / 4294967296 * (y % 4294967296) + x % 4294967296 * (y % 4294967296) / 4294967296) / 4294967296 + ((x / 4294967296 * (y % 4294967296) + x % 4294967296 * (y % 4294967296) / 4294967296) % 4294967296 + x % 4294967296 * (y / 4294967296)) / 4294967296 < 18446744073709551616 := by omega
  unfold mul64_S
  simp only [mkN x hx, mkN y hy, fdN, Mul64.mulN, Mul64.addN, Mul64.wrapN _ bd, Mul64.wrapN _ bb', Mul64.wrapN _ bt, mkN _ bt, Mul64.wrapN _ bc', Mul64.wrapN _ bw, Mul64.wrapN _ ba', Mul64.wrapN _ bh1, Mul64.wrapN _ bh, Mul64.wrapM (x * y)]
  rw [hhi]
theorem magn_eq (F : Nat) (x : Nat) (hx : x ≤ 9223372036854775807) : magn_S F x = some ((x : Int), false) := by
  unfold magn_S
  rw [show decide ((x : Int) < 0) = false from decide_eq_false (by omega), Mul64.wrapN x (by omega)]
  rfl
theorem prod_eq (F : Nat) (x y : Nat) (hx : x ≤ 9223372036854775807) (hy : y ≤ 9223372036854775807) : prod_S F x y = some (((x * y / 18446744073709551616 : Nat) : Int), (((x * y % 18446744073709551616 : Nat) : Int), false)) := by
  unfold prod_S
  rw [magn_eq F x hx, magn_eq F y hy]
  change ob (mul64h_S F x y) _ = _
  unfold mul64h_S
  rw [hold_eq, mul64_eq F x y (by omega) (by omega)]
  rfl
theorem w64N (a : Nat) (h : a ≤ 9223372036854775807) : IntKind.i64.wrap (a : Int) = (a : Int) := w64 _ (by omega)
/-- Division, where the upper half is nothing. -/
theorem over_low (F : Nat) (p c : Nat) (hc : 1 ≤ c ∧ c ≤ 1000000000000000) (hp : p ≤ 9223372036854775807) (hq : p / c ≤ 1000000000000000) : over_S F (0, ((p : Int), false)) c = some (((p / c : Nat) : Int), (((p % c : Nat) : Int), true)) := by
  have h1 : p % c < c := Nat.mod_lt _ (by omega)
  have e1 : IntKind.wrap IntKind.u64 (c : Int) = (c : Int) := Mul64.wrapN c (by omega)
  unfold over_S
  show (bif decide ((0 : Int) ≥ IntKind.wrap IntKind.u64 (c : Int)) then _ else ob (div64_S F 0 (p : Int) (IntKind.wrap IntKind.u64 (c : Int))) _) = _
  have e2 : div64_S F 0 (p : Int) (c : Int) = some (((p / c : Nat) : Int), ((p % c : Nat) : Int)) := by
    unfold div64_S
    rw [show ((c : Int) == 0) = false from beq_eq_false_iff_ne.2 (by omega), show decide ((c : Int) ≤ 0) = false from decide_eq_false (by omega)]
    show some (IntKind.wrap IntKind.u64 (Int.tdiv (p : Int) (c : Int)), Int.tmod (p : Int) (c : Int)) = _
    rw [show Int.tdiv (p : Int) (c : Int) = ((p / c : Nat) : Int) from rfl, show Int.tmod (p : Int) (c : Int) = ((p % c : Nat) : Int) from rfl, Mul64.wrapN _ (by omega)]
  rw [e1, e2, show decide ((0 : Int) ≥ (c : Int)) = false from decide_eq_false (by omega)]
  show (bif decide (((p / c : Nat) : Int) > 1000000000000000) then _ else ob (some ((c : Int), (IntKind.wrap IntKind.i64 ((p / c : Nat) : Int), IntKind.wrap IntKind.i64 ((p % c : Nat) : Int)))) _) = _
  rw [show decide (((p / c : Nat) : Int) > 1000000000000000) = false from decide_eq_false (by omega), w64N (p / c) (by omega), w64N (p % c) (by omega)]
  show (bif decide (((p % c : Nat) : Int) < 0) then _ else _) = _
  rw [show decide (((p % c : Nat) : Int) < 0) = false from decide_eq_false (by omega)]
  rfl
end Go.Proofs.YtdfgmfddkcmalaaDoor


namespace Go.Proofs.YtdfgmfddkcmalaaDoor
open Go.RowKit
set_option maxRecDepth 100000
theorem ixI_loop (F : Nat) (l : List Int) (hl : l.length ≤ 5000) (h : ∀ i, i < l.length → -1000000000000000 ≤ nth l (0 : Int) i ∧ nth l (0 : Int) i ≤ 1000000000000000) : ∀ (j k i : Nat), i + j = l.length → j < k → indexI_L0 F l.length l k i = some (.inr l)
  | j, 0, i, _, hk => by omega
  | 0, k + 1, i, hi, _ => by
    show (bif decide ((i : Int) < (l.length : Int)) then _ else _) = _
    rw [dec_f (by omega)]; rfl
  | j + 1, k + 1, i, hi, hk => by
    have e1 : IntKind.wrap IntKind.i64 ((i : Int) + 1) = ((i + 1 : Nat) : Int) := by rw [w64 _ (by omega)]; omega
    have h1 := h i (by omega)
    show (bif decide ((i : Int) < (l.length : Int)) then (bif inB (i : Int) (l.length - 0) then (bif decide (nth l (0 : Int) i < -1000000000000000) then _ else (bif decide (nth l (0 : Int) i > 1000000000000000) then _ else indexI_L0 F l.length l k (IntKind.wrap IntKind.i64 ((i : Int) + 1)))) else none) else _) = _
    rw [e1, dec_t (by omega), inB_t (show i < l.length - 0 by omega), dec_f (show ¬ nth l (0 : Int) i < -1000000000000000 by omega), dec_f (show ¬ nth l (0 : Int) i > 1000000000000000 by omega)]
    exact ixI_loop F l hl h j k (i + 1) (by omega) (by omega)
theorem isN_eq (F : Nat) (hF : 2000 < F) (l : List Int) (hl : l.length ≤ 1000) (h : ∀ i, i < l.length → -1000000000000000 ≤ nth l (0 : Int) i ∧ nth l (0 : Int) i ≤ 1000000000000000) : isN_S F l = some true := by
  unfold isN_S contI_S indexI_S
  change ob (ob (ob (indexI_L0 F (((l.length - 0 : Nat)) : Int) l F ((0 : Nat) : Int)) _) _) _ = _
  rw [Nat.sub_zero, ixI_loop F l (by omega) h l.length F 0 (by omega) (by omega)]
  rfl
theorem isN_one (F : Nat) (hF : 2000 < F) (a : Int) (ha : 0 ≤ a ∧ a ≤ 1000000000000000) : isN_S F (a :: []) = some true := isN_eq F hF _ (show 1 ≤ 1000 by decide) fun i hi => by
  cases i with
  | zero => show -1000000000000000 ≤ a ∧ a ≤ _; omega
  | succ i => simp at hi
theorem isN_two (F : Nat) (hF : 2000 < F) (a b : Int) (ha : 0 ≤ a ∧ a ≤ 1000000000000000) (hb : 0 ≤ b ∧ b ≤ 1000000000000000) : isN_S F (a :: (b :: [])) = some true := isN_eq F hF _ (show 2 ≤ 1000 by decide) fun i hi => by
  match i with
  | 0 => show -1000000000000000 ≤ a ∧ a ≤ _; omega
  | 1 => show -1000000000000000 ≤ b ∧ b ≤ _; omega
  | i + 2 => have : i + 2 < 2 := hi; omega
theorem fits_eq (F : Nat) (hF : 2000 < F) (a b : Int) (ha : 0 ≤ a ∧ a ≤ 1000000000000000) (hb : 0 ≤ b ∧ b ≤ 1000000000000000) : fits_S F a b = some ((a, b), 0) := by
  unfold fits_S
  rw [isN_two F hF a b ha hb]
  rfl
theorem validR_one (F k : Nat) (hF : F = k + 2) (h2 : 2000 < F) (r : RgT) (h : 0 ≤ r.1 ∧ r.1 ≤ r.2 ∧ r.2 ≤ 1000000000000000) : validR_S F (r :: []) = some true := by
  have e1 : indexV_L0 F (1 : Int) (r :: []) (k + 2) (0 : Int) = some (.inr (r :: [])) := by
    show ob (isN_S F (r.1 :: (r.2 :: []))) (fun r' => bif (!r') then some (.inl ((0 : Int), (r :: []))) else (bif decide (r.1 > r.2) then some (.inl ((0 : Int), (r :: []))) else indexV_L0 F 1 (r :: []) (k + 1) (IntKind.wrap IntKind.i64 (0 + 1)))) = _
    rw [isN_two F h2 r.1 r.2 (by omega) (by omega)]
    show (bif decide (r.1 > r.2) then _ else indexV_L0 F 1 (r :: []) (k + 1) 1) = _
    rw [dec_f (by omega)]
    rfl
  unfold validR_S contV_S indexV_S
  show ob (ob (ob (indexV_L0 F (1 : Int) (r :: []) F (0 : Int)) _) _) _ = _
  have e2 : indexV_L0 F (1 : Int) (r :: []) F (0 : Int) = some (.inr (r :: [])) := by
    have := e1
    rw [← hF] at this
    exact this
  rw [e2]
  rfl
theorem fracOk_eq (F : Nat) (hF : 2000 < F) (f : RgT) (h : 0 ≤ f.1 ∧ f.1 ≤ 1000000000000000) (h2 : 1 ≤ f.2 ∧ f.2 ≤ 1000000000000000) : fracOk_S F f = some true := by
  unfold fracOk_S
  rw [isN_one F hF f.1 h]
  show (bif decide (f.2 ≥ 1) then some (decide (f.2 ≤ 1000000000000000)) else _) = _
  rw [dec_t (show f.2 ≥ 1 from h2.1), dec_t h2.2]
  rfl
def upD (p c : Nat) : Nat := if p % c > 0 then p / c + 1 else p / c
def mxI (a b : Int) : Int := if a > b then a else b
def mnI (a b : Int) : Int := if a < b then a else b
theorem hadd_eq (F : Nat) (a b c : Nat) (ha : a ≤ 1000000) (hb : b ≤ 1000000) (hc : 1 ≤ c ∧ c ≤ 1000000) (h : RgT × (Bool × Bool)) : hadd_S F a b c h =
    some (bif h.2.1 then ((mnI ((a * b / c : Nat) : Int) h.1.1, mxI ((upD (a * b) c : Nat) : Int) h.1.2), h.2) else ((((a * b / c : Nat) : Int), ((upD (a * b) c : Nat) : Int)), (true, h.2.2))) := by
  obtain ⟨hr, some', far⟩ := h
  have m1 : a * b ≤ 1000000 * 1000000 := Nat.mul_le_mul ha hb
  have m2 : a * b / c ≤ a * b := Nat.div_le_self _ _
  unfold hadd_S
  rw [prod_eq F a b (by omega) (by omega), Nat.div_eq_of_lt (show a * b < 18446744073709551616 by omega), Nat.mod_eq_of_lt (show a * b < 18446744073709551616 by omega)]
  change ob (over_S F (0, (((a * b : Nat) : Int), false)) c) _ = _
  rw [over_low F (a * b) c ⟨hc.1, by omega⟩ (by omega) (by omega)]
  have e1 : IntKind.wrap IntKind.i64 (((a * b / c : Nat) : Int) + 1) = ((a * b / c + 1 : Nat) : Int) := (by rw [show ((a * b / c : Nat) : Int) + 1 = ((a * b / c + 1 : Nat) : Int) from rfl]; exact w64N _ (by omega))
  change ob (bif decide (((a * b % c : Nat) : Int) > 0) then some ((((a * b / c : Nat) : Int), IntKind.wrap IntKind.i64 (((a * b / c : Nat) : Int) + 1)), (hr, (some', far))) else some ((((a * b / c : Nat) : Int), ((a * b / c : Nat) : Int)), (hr, (some', far)))) _ = _
  rw [e1]
  have key : (bif decide (((a * b % c : Nat) : Int) > 0) then some ((((a * b / c : Nat) : Int), ((a * b / c + 1 : Nat) : Int)), (hr, (some', far))) else some ((((a * b / c : Nat) : Int), ((a * b / c : Nat) : Int)), (hr, (some', far)))) = some ((((a * b / c : Nat) : Int), ((upD (a * b) c : Nat) : Int)), (hr, (some', far))) := by
    unfold upD
    by_cases h0 : a * b % c > 0
    · rw [dec_t (by omega), if_pos h0]; rfl
    · rw [dec_f (by omega), if_neg h0]; rfl
  rw [key]
  cases some' with
  | true => rfl
  | false =>
    change some (((if ((a * b / c : Nat) : Int) < ((a * b / c : Nat) : Int) then ((a * b / c : Nat) : Int) else ((a * b / c : Nat) : Int)), (if ((upD (a * b) c : Nat) : Int) > ((upD (a * b) c : Nat) : Int) then ((upD (a * b) c : Nat) : Int) else ((upD (a * b) c : Nat) : Int))), (true, far)) = _
    rw [if_neg (Int.lt_irrefl _), if_neg (Int.lt_irrefl _)]
    rfl
theorem upD_eq (p c : Nat) (hc : 1 ≤ c) : upD p c = (p + c - 1) / c := by
  unfold upD
  have h1 := Nat.div_add_mod p c
  have h2 : p % c < c := Nat.mod_lt _ (by omega)
  have e : p + c - 1 = c * (p / c) + (p % c + c - 1) := by omega
  rw [e, Nat.mul_add_div (by omega)]
  by_cases h0 : p % c > 0
  · rw [if_pos h0]
    have g : ∀ r : Nat, 0 < r → r < c → (r + c - 1) / c = 1 := fun r a1 a2 => Nat.div_eq_of_lt_le (by omega) (by omega)
    rw [g _ h0 h2]
  · have g : ∀ r : Nat, ¬ r > 0 → (r + c - 1) / c = 0 := fun r a1 => Nat.div_eq_of_lt (by omega)
    rw [if_neg h0, g _ h0]; rfl
theorem scale_eq (F k : Nat) (hF : F = k + 2) (h2 : 2000 < F) (lo hi f t : Nat) (hr : lo ≤ hi ∧ hi ≤ 1000000) (hf : f ≤ 1000000) (ht : 1 ≤ t ∧ t ≤ 1000000) : scale_S F ((lo : Int), (hi : Int)) ((f : Int), (t : Int)) = some ((((lo * f / t : Nat) : Int), ((upD (hi * f) t : Nat) : Int)), 0) := by
  have m1 : lo * f ≤ hi * f := Nat.mul_le_mul_right _ hr.1
  have m2 : hi * f ≤ 1000000 * 1000000 := Nat.mul_le_mul hr.2 hf
  have m3 : lo * f / t ≤ hi * f / t := Nat.div_le_div_right m1
  have m4 : upD (lo * f) t ≤ upD (hi * f) t := by rw [upD_eq _ _ ht.1, upD_eq _ _ ht.1]; exact Nat.div_le_div_right (by omega)
  have m5 : hi * f / t ≤ hi * f := Nat.div_le_self _ _
  have m6 : upD (hi * f) t ≤ hi * f / t + 1 := by unfold upD; split <;> omega
  have m7 : lo * f / t ≤ upD (lo * f) t := by unfold upD; split <;> omega
  unfold scale_S
  rw [validR_one F k hF h2 _ ⟨by simp only; omega, by simp only; omega, by simp only; omega⟩]
  change ob (fracOk_S F ((f : Int), (t : Int))) _ = _
  rw [fracOk_eq F h2 _ ⟨by simp only; omega, by simp only; omega⟩ ⟨by simp only; omega, by simp only; omega⟩]
  change ob (hadd_S F (lo : Int) (f : Int) (t : Int) (((0 : Int), (0 : Int)), (false, false))) _ = _
  rw [hadd_eq F lo f t (by omega) hf ht]
  change ob (hadd_S F (hi : Int) (f : Int) (t : Int) ((((lo * f / t : Nat) : Int), ((upD (lo * f) t : Nat) : Int)), (true, false))) _ = _
  rw [hadd_eq F hi f t hr.2 hf ht]
  change ob (hres_S F ((mnI ((hi * f / t : Nat) : Int) ((lo * f / t : Nat) : Int), mxI ((upD (hi * f) t : Nat) : Int) ((upD (lo * f) t : Nat) : Int)), (true, false))) _ = _
  have e1 : mnI ((hi * f / t : Nat) : Int) ((lo * f / t : Nat) : Int) = ((lo * f / t : Nat) : Int) := by unfold mnI; split <;> omega
  have e2 : mxI ((upD (hi * f) t : Nat) : Int) ((upD (lo * f) t : Nat) : Int) = ((upD (hi * f) t : Nat) : Int) := by unfold mxI; split <;> omega
  rw [e1, e2]
  unfold hres_S
  change ob (ob (fits_S F ((lo * f / t : Nat) : Int) ((upD (hi * f) t : Nat) : Int)) _) _ = _
  rw [fits_eq F h2 ((lo * f / t : Nat) : Int) ((upD (hi * f) t : Nat) : Int) ⟨Int.natCast_nonneg _, by omega⟩ ⟨Int.natCast_nonneg _, by omega⟩]
end Go.Proofs.YtdfgmfddkcmalaaDoor


namespace Go.Proofs.YtdfgmfddkcmalaaDoor
open Go.RowKit
set_option maxRecDepth 100000
theorem brRg (F : Nat) (r : RgT) (a b : Int) : brRange_S F r a b = some (rgOk r a b) := by
  unfold brRange_S rgOk
  change (bif decide (a ≤ r.1) then _ else _) = _
  cases decide (a ≤ r.1) <;> cases decide (r.1 ≤ r.2) <;> rfl
theorem isF (F : Nat) (n a : Int) : isForce_S F n a = some (inOk n a 1000000) := by
  unfold isForce_S
  rw [with_S]
abbrev PsT := RgT × (Int × (Int × Int))
/-- What Bow tells. -/
def bowV (x : PsT) : RgT × Int := bif inOk x.2.1 0 1000000 && inOk x.2.2.1 1 1000000 then ((Int.tdiv (x.1.1 * x.2.1) x.2.2.1, Int.tdiv (x.1.2 * x.2.1 + x.2.2.1 - 1) x.2.2.1), 0) else ((0, 0), 3)
def feedV (x : PsT) : Int × Int := bif inOk x.2.2.1 1 1000000 && inOk x.2.2.2 0 1000000000000 then ((if x.1.2 = 0 then 1000000 else mnI 1000000 (Int.tdiv (x.2.2.2 * x.2.2.1) x.1.2)), 0) else (0, 3)
theorem rg_of {r : RgT} {a b : Int} (h : rgOk r a b = true) : a ≤ r.1 ∧ r.1 ≤ r.2 ∧ r.2 ≤ b := by
  unfold rgOk at h
  simp only [Bool.and_eq_true, decide_eq_true_eq] at h
  exact h
theorem in_of {n a b : Int} (h : inOk n a b = true) : a ≤ n ∧ n ≤ b := by
  unfold inOk at h
  simp only [Bool.and_eq_true, decide_eq_true_eq] at h
  exact h
theorem bow_bad (F : Nat) (x : PsT) (h : rgOk x.1 0 1000000 = false) : bow_S F x.1 x.2.1 x.2.2.1 = some ((0, 0), 2) := by
  unfold bow_S
  rw [isRg, h]; rfl
theorem feed_bad (F : Nat) (x : PsT) (h : rgOk x.1 0 1000000 = false) : feed_S F x.1 x.2.2.1 x.2.2.2 = some (0, 2) := by
  unfold feed_S
  rw [isRg, h]; rfl
theorem bow_eq (F k : Nat) (hF : F = k + 2) (h2 : 2000 < F) (x : PsT) (h : rgOk x.1 0 1000000 = true) : bow_S F x.1 x.2.1 x.2.2.1 = some (bowV x) := by
  unfold bow_S bowV
  rw [isRg, h]
  change ob (isForce_S F x.2.1 0) _ = _
  rw [isF]
  cases c1 : inOk x.2.1 0 1000000 with
  | false => rfl
  | true =>
    change ob (isForce_S F x.2.2.1 1) _ = _
    rw [isF]
    cases c2 : inOk x.2.2.1 1 1000000 with
    | false => rfl
    | true =>
      change ob (scale_S F x.1 (x.2.1, x.2.2.1)) _ = _
      obtain ⟨⟨lo, hi⟩, f, t, m⟩ := x
      have h1 := rg_of h; have h3 := in_of c1; have h4 := in_of c2
      simp only at h1 h3 h4
      obtain ⟨lo, rfl⟩ := Int.eq_ofNat_of_zero_le h1.1
      obtain ⟨hi, rfl⟩ := Int.eq_ofNat_of_zero_le (show 0 ≤ hi by omega)
      obtain ⟨f, rfl⟩ := Int.eq_ofNat_of_zero_le h3.1
      obtain ⟨t, rfl⟩ := Int.eq_ofNat_of_zero_le (show 0 ≤ t by omega)
      have m2 : (hi : Nat) * f ≤ 1000000 * 1000000 := Nat.mul_le_mul (by omega) (by omega)
      rw [scale_eq F k hF h2 lo hi f t (by omega) (by omega) (by omega), upD_eq _ _ (by omega)]
      show some ((((lo * f / t : Nat) : Int), (((hi * f + t - 1) / t : Nat) : Int)), (0 : Int)) = some ((Int.tdiv ((lo : Int) * (f : Int)) (t : Int), Int.tdiv ((hi : Int) * (f : Int) + (t : Int) - 1) (t : Int)), (0 : Int))
      rw [show (lo : Int) * (f : Int) = ((lo * f : Nat) : Int) from rfl, show (hi : Int) * (f : Int) + (t : Int) - 1 = ((hi * f + t - 1 : Nat) : Int) by rw [show (hi : Int) * (f : Int) = ((hi * f : Nat) : Int) from rfl]; omega]
      rfl
theorem feed_eq (F : Nat) (x : PsT) (h : rgOk x.1 0 1000000 = true) : feed_S F x.1 x.2.2.1 x.2.2.2 = some (feedV x) := by
  unfold feed_S feedV
  rw [isRg, h]
  change ob (ob (isForce_S F x.2.2.1 1) _) _ = _
  rw [isF]
  cases c1 : inOk x.2.2.1 1 1000000 with
  | false => rfl
  | true =>
    change ob (ob (within_S F x.2.2.2 0 1000000000000) _) _ = _
    rw [with_S]
    cases c2 : inOk x.2.2.2 0 1000000000000 with
    | false => rfl
    | true =>
      have h1 := rg_of h; have h3 := in_of c1; have h4 := in_of c2
      by_cases hz : x.1.2 = 0
      · change (bif (x.1.2 == 0) then some ((1000000 : Int), (0 : Int)) else _) = some ((if x.1.2 = 0 then 1000000 else _), 0)
        rw [show (x.1.2 == 0) = true from beq_iff_eq.2 hz, if_pos hz]; rfl
      · have m1 : 0 ≤ x.2.2.2 * x.2.2.1 := Int.mul_nonneg h4.1 (by omega)
        have m2 : x.2.2.2 * x.2.2.1 ≤ 1000000000000 * 1000000 := Int.mul_le_mul h4.2 h3.2 (by omega) (by omega)
        have m3 : Int.tdiv (x.2.2.2 * x.2.2.1) x.1.2 = (x.2.2.2 * x.2.2.1) / x.1.2 := Int.tdiv_eq_ediv_of_nonneg m1
        have m4 : (x.2.2.2 * x.2.2.1) / x.1.2 ≤ x.2.2.2 * x.2.2.1 := Int.ediv_le_self _ m1
        have m5 : 0 ≤ (x.2.2.2 * x.2.2.1) / x.1.2 := Int.ediv_nonneg m1 (by omega)
        change (bif (x.1.2 == 0) then _ else (bif !(x.1.2 == 0) then some (mnI 1000000 (IntKind.wrap IntKind.i64 (Int.tdiv (IntKind.wrap IntKind.i64 (x.2.2.2 * x.2.2.1)) x.1.2)), (0 : Int)) else none)) = some ((if x.1.2 = 0 then 1000000 else mnI 1000000 (Int.tdiv (x.2.2.2 * x.2.2.1) x.1.2)), 0)
        rw [show (x.1.2 == 0) = false from beq_eq_false_iff_ne.2 hz, if_neg hz, w64 (x.2.2.2 * x.2.2.1) (by omega), m3, w64 _ (by omega)]
        rfl
end Go.Proofs.YtdfgmfddkcmalaaDoor


namespace Go.Proofs.YtdfgmfddkcmalaaDoor
open Go.RowKit
set_option maxRecDepth 100000
noncomputable def sB5 (F : Nat) (s7 : (Int × Bool) × PsT) : Option Bool := (bif s7.1.2 then (some false) else (bif (s7.1.1 == (1000000 : Int)) then (some true) else (bif (decide ((IntKind.wrap IntKind.i64 (s7.2.1.2 * (IntKind.wrap IntKind.i64 (s7.1.1 + (1 : Int))))) > (IntKind.wrap IntKind.i64 (s7.2.2.2.2 * s7.2.2.2.1)))) then (some true) else (some false))))
noncomputable def sB4 (F : Nat) (s6 : (Int × (Int × Bool)) × PsT) : Option Bool := (bif s6.1.2.2 then (bif (s6.1.2.1 == (3 : Int)) then (bif (s6.1.1 == (0 : Int)) then (some true) else (some false)) else (some false)) else (ob (bif (s6.1.2.1 != (0 : Int)) then (some ((s6.1.1, true), s6.2)) else (bif (decide (s6.1.1 < (0 : Int))) then (some ((s6.1.1, true), s6.2)) else (bif (decide (s6.1.1 > (1000000 : Int))) then (some ((s6.1.1, true), s6.2)) else (some ((s6.1.1, (decide ((IntKind.wrap IntKind.i64 (s6.2.1.2 * s6.1.1)) > (IntKind.wrap IntKind.i64 (s6.2.2.2.2 * s6.2.2.2.1))))), s6.2))))) (fun s7 => sB5 F s7)))
noncomputable def sB3 (F : Nat) (s5 : (Int × (Int × Bool)) × PsT) : Option Bool := (ob (bif (!s5.1.2.2) then (some ((s5.1.1, s5.1.2.1, true), s5.2)) else (bif (decide (s5.2.2.2.2 < (0 : Int))) then (some ((s5.1.1, s5.1.2.1, true), s5.2)) else (some ((s5.1.1, s5.1.2.1, (decide (s5.2.2.2.2 > (1000000000000 : Int)))), s5.2)))) (fun s6 => sB4 F s6))
noncomputable def sB2b (F : Nat) (s3 : (Int × (Int × (Bool × Bool))) × PsT) : Option (Bool ⊕ ((Int × (Int × Bool)) × PsT)) := (bif s3.1.2.2.2 then (some (.inl false)) else (some (.inr ((s3.1.1, s3.1.2.1, s3.1.2.2.1), s3.2))))
noncomputable def sB2 (F : Nat) (s2 : (Int × (Int × (Int × (Bool × Bool)))) × (PsT × RgT)) : Option (Bool ⊕ ((Int × (Int × Bool)) × PsT)) := (bif s2.1.2.2.2.2 then (bif (s2.1.1 != (3 : Int)) then (some (.inl false)) else (bif (bif true then (!((s2.2.2.1 == (0 : Int)) && (s2.2.2.2 == (0 : Int)))) else ((s2.2.2.1 == (0 : Int)) && (s2.2.2.2 == (0 : Int)))) then (some (.inl false)) else (some (.inr ((s2.1.2.1, s2.1.2.2.1, s2.1.2.2.2.1), s2.2.1))))) else (ob (bif (s2.1.1 != (0 : Int)) then (some ((s2.1.2.1, s2.1.2.2.1, s2.1.2.2.2.1, true), s2.2.1)) else (bif (!(s2.2.1.2.2.1 == (0 : Int))) then (bif (s2.2.2.1 != (IntKind.wrap IntKind.i64 (Int.tdiv (IntKind.wrap IntKind.i64 (s2.2.1.1.1 * s2.2.1.2.1)) s2.2.1.2.2.1))) then (some ((s2.1.2.1, s2.1.2.2.1, s2.1.2.2.2.1, true), s2.2.1)) else (bif (!(s2.2.1.2.2.1 == (0 : Int))) then (some ((s2.1.2.1, s2.1.2.2.1, s2.1.2.2.2.1, (s2.2.2.2 != (IntKind.wrap IntKind.i64 (Int.tdiv (IntKind.wrap IntKind.i64 ((IntKind.wrap IntKind.i64 ((IntKind.wrap IntKind.i64 (s2.2.1.1.2 * s2.2.1.2.1)) + s2.2.1.2.2.1)) - (1 : Int))) s2.2.1.2.2.1)))), s2.2.1)) else none)) else none)) (fun s3 => sB2b F s3)))
noncomputable def sB1 (F : Nat) (s1 : (Int × (Int × (Int × Bool))) × (PsT × RgT)) : Option Bool := (ob (ob (bif (!s1.1.2.2.2) then (some ((s1.1.1, s1.1.2.1, s1.1.2.2.1, s1.1.2.2.2, true), (s1.2.1, s1.2.2))) else (bif (decide (s1.2.1.2.1 < (0 : Int))) then (some ((s1.1.1, s1.1.2.1, s1.1.2.2.1, s1.1.2.2.2, true), (s1.2.1, s1.2.2))) else (some ((s1.1.1, s1.1.2.1, s1.1.2.2.1, s1.1.2.2.2, (decide (s1.2.1.2.1 > (1000000 : Int)))), (s1.2.1, s1.2.2))))) (fun s2 => sB2 F s2)) (fun o_ => su o_ (fun s4 => (some s4)) (fun s5 => sB3 F s5)))
theorem sBows_def (F : Nat) (x : PsT) : sBows_S F x = (ob (bow_S F x.1 x.2.1 x.2.2.1) (fun r => (ob (feed_S F x.1 x.2.2.1 x.2.2.2) (fun r1 => (ob (brRange_S F x.1 (0 : Int) (1000000 : Int)) (fun r2 => (bif (!r2) then (bif (r.2 == (2 : Int)) then (bif (r1.2 == (2 : Int)) then (bif (bif false then (!((r.1.1 == (0 : Int)) && (r.1.2 == (0 : Int)))) else ((r.1.1 == (0 : Int)) && (r.1.2 == (0 : Int)))) then (bif (r1.1 == (0 : Int)) then (some true) else (some false)) else (some false)) else (some false)) else (some false)) else (ob (bif (decide (x.2.2.1 ≥ (1 : Int))) then (some ((r.2, r1.1, r1.2, (decide (x.2.2.1 ≤ (1000000 : Int)))), (x, r.1))) else (some ((r.2, r1.1, r1.2, false), (x, r.1)))) (fun s1 => sB1 F s1))))))))) := rfl
theorem sB5_ok (F : Nat) (x : PsT) (n : Int) (hn : n = 1000000 ∨ IntKind.wrap IntKind.i64 (x.1.2 * IntKind.wrap IntKind.i64 (n + 1)) > IntKind.wrap IntKind.i64 (x.2.2.2 * x.2.2.1)) : sB5 F ((n, false), x) = some true := by
  unfold sB5
  show (bif (n == 1000000) then some true else (bif decide (IntKind.wrap IntKind.i64 (x.1.2 * IntKind.wrap IntKind.i64 (n + 1)) > IntKind.wrap IntKind.i64 (x.2.2.2 * x.2.2.1)) then some true else some false)) = _
  rcases hn with rfl | hn
  · rfl
  · rw [dec_t hn]
    cases (n == 1000000) <;> rfl
/-- Feed's answer holds. -/
theorem sB4_ok (F : Nat) (x : PsT) (h : rgOk x.1 0 1000000 = true) (c1 : inOk x.2.2.1 1 1000000 = true) (c2 : inOk x.2.2.2 0 1000000000000 = true) : sB4 F (((feedV x).1, ((feedV x).2, false)), x) = some true := by
  have h1 := rg_of h; have h3 := in_of c1; have h4 := in_of c2
  have m1 : 0 ≤ x.2.2.2 * x.2.2.1 := Int.mul_nonneg h4.1 (by omega)
  have m2 : x.2.2.2 * x.2.2.1 ≤ 1000000000000 * 1000000 := Int.mul_le_mul h4.2 h3.2 (by omega) (by omega)
  have e0 : feedV x = ((if x.1.2 = 0 then 1000000 else mnI 1000000 (Int.tdiv (x.2.2.2 * x.2.2.1) x.1.2)), 0) := by unfold feedV; rw [c1, c2]; rfl
  rw [e0]
  have key : ∀ n : Int, 0 ≤ n → n ≤ 1000000 → x.1.2 * n ≤ x.2.2.2 * x.2.2.1 → (n = 1000000 ∨ x.1.2 * (n + 1) > x.2.2.2 * x.2.2.1) → sB4 F ((n, ((0 : Int), false)), x) = some true := fun n a1 a2 a3 a4 => by
    have m3 : 0 ≤ x.1.2 * n := Int.mul_nonneg (by omega) a1
    have m4 : x.1.2 * (n + 1) ≤ 1000000 * 1000001 := Int.mul_le_mul h1.2.2 (by omega) (by omega) (by omega)
    have m5 : 0 ≤ x.1.2 * (n + 1) := Int.mul_nonneg (by omega) (by omega)
    have e1 : IntKind.wrap IntKind.i64 (x.1.2 * n) = x.1.2 * n := w64 _ (by omega)
    have e2 : IntKind.wrap IntKind.i64 (x.2.2.2 * x.2.2.1) = x.2.2.2 * x.2.2.1 := w64 _ (by omega)
    have e3 : IntKind.wrap IntKind.i64 (x.1.2 * IntKind.wrap IntKind.i64 (n + 1)) = x.1.2 * (n + 1) := by rw [w64 (n + 1) (by omega), w64 _ (by omega)]
    unfold sB4
    show ob (bif decide (n < 0) then some ((n, true), x) else (bif decide (n > 1000000) then some ((n, true), x) else some ((n, decide (IntKind.wrap IntKind.i64 (x.1.2 * n) > IntKind.wrap IntKind.i64 (x.2.2.2 * x.2.2.1))), x))) (fun s7 => sB5 F s7) = _
    rw [e1, e2, dec_f (show ¬ n < 0 by omega), dec_f (show ¬ n > 1000000 by omega), dec_f (show ¬ x.1.2 * n > x.2.2.2 * x.2.2.1 by omega)]
    exact sB5_ok F x n (a4.imp id fun a4 => by rw [e2, e3]; exact a4)
  by_cases hz : x.1.2 = 0
  · rw [if_pos hz]
    exact key 1000000 (by decide) (by decide) (by rw [hz, Int.zero_mul]; exact m1) (.inl rfl)
  · rw [if_neg hz, Int.tdiv_eq_ediv_of_nonneg m1]
    have p1 : 0 < x.1.2 := by omega
    have m5 : 0 ≤ (x.2.2.2 * x.2.2.1) / x.1.2 := Int.ediv_nonneg m1 (by omega)
    have m6 : (x.2.2.2 * x.2.2.1) / x.1.2 * x.1.2 ≤ x.2.2.2 * x.2.2.1 := Int.ediv_mul_le _ (by omega)
    have m7 : x.2.2.2 * x.2.2.1 < ((x.2.2.2 * x.2.2.1) / x.1.2 + 1) * x.1.2 := Int.lt_ediv_add_one_mul_self _ p1
    unfold mnI
    by_cases hq : 1000000 < (x.2.2.2 * x.2.2.1) / x.1.2
    · rw [if_pos hq]
      have m8 : 1000000 * x.1.2 ≤ (x.2.2.2 * x.2.2.1) / x.1.2 * x.1.2 := Int.mul_le_mul_of_nonneg_right (by omega) (by omega)
      exact key 1000000 (by decide) (by decide) (by rw [Int.mul_comm]; omega) (.inl rfl)
    · rw [if_neg hq]
      exact key _ m5 (by omega) (by rw [Int.mul_comm]; exact m6) (.inr (by rw [Int.mul_comm]; exact m7))
theorem sB3_ok (F : Nat) (x : PsT) (h : rgOk x.1 0 1000000 = true) : sB3 F (((feedV x).1, ((feedV x).2, inOk x.2.2.1 1 1000000)), x) = some true := by
  unfold sB3
  cases c1 : inOk x.2.2.1 1 1000000 with
  | false =>
    have e0 : feedV x = (0, 3) := by unfold feedV; rw [c1]; rfl
    rw [e0]; rfl
  | true =>
    show ob (bif decide (x.2.2.2 < 0) then some (((feedV x).1, ((feedV x).2, true)), x) else some (((feedV x).1, ((feedV x).2, decide (x.2.2.2 > 1000000000000))), x)) (fun s6 => sB4 F s6) = _
    cases c2 : inOk x.2.2.2 0 1000000000000 with
    | false =>
      have e0 : feedV x = (0, 3) := by unfold feedV; rw [c1, c2]; rfl
      rw [e0]
      unfold inOk at c2
      by_cases h0 : x.2.2.2 < 0
      · rw [dec_t h0]; rfl
      · have h9 : x.2.2.2 > 1000000000000 := by
          simp only [Bool.and_eq_false_iff, decide_eq_false_iff_not] at c2
          omega
        rw [dec_f h0, dec_t h9]; rfl
    | true =>
      have h4 := in_of c2
      rw [dec_f (show ¬ x.2.2.2 < 0 by omega), dec_f (show ¬ x.2.2.2 > 1000000000000 by omega)]
      exact sB4_ok F x h c1 c2
theorem sB2_ok (F : Nat) (x : PsT) (h : rgOk x.1 0 1000000 = true) (n f : Int) : sB2 F (((bowV x).2, (n, (f, (inOk x.2.2.1 1 1000000, !(inOk x.2.1 0 1000000 && inOk x.2.2.1 1 1000000))))), (x, (bowV x).1)) = some (.inr ((n, (f, inOk x.2.2.1 1 1000000)), x)) := by
  unfold sB2
  cases c : inOk x.2.1 0 1000000 && inOk x.2.2.1 1 1000000 with
  | false =>
    have e0 : bowV x = ((0, 0), 3) := by unfold bowV; rw [c]; rfl
    rw [e0]; rfl
  | true =>
    have e0 : bowV x = ((Int.tdiv (x.1.1 * x.2.1) x.2.2.1, Int.tdiv (x.1.2 * x.2.1 + x.2.2.1 - 1) x.2.2.1), 0) := by unfold bowV; rw [c]; rfl
    rw [e0]
    rw [Bool.and_eq_true] at c
    have h1 := rg_of h; have h3 := in_of c.1; have h4 := in_of c.2
    have m1 : 0 ≤ x.1.1 * x.2.1 := Int.mul_nonneg h1.1 h3.1
    have m2 : x.1.2 * x.2.1 ≤ 1000000 * 1000000 := Int.mul_le_mul h1.2.2 h3.2 h3.1 (by decide)
    have m3 : x.1.1 * x.2.1 ≤ x.1.2 * x.2.1 := Int.mul_le_mul_of_nonneg_right h1.2.1 h3.1
    have d1 : Int.tdiv (x.1.1 * x.2.1) x.2.2.1 = (x.1.1 * x.2.1) / x.2.2.1 := Int.tdiv_eq_ediv_of_nonneg m1
    have d2 : Int.tdiv (x.1.2 * x.2.1 + x.2.2.1 - 1) x.2.2.1 = (x.1.2 * x.2.1 + x.2.2.1 - 1) / x.2.2.1 := Int.tdiv_eq_ediv_of_nonneg (by omega)
    have q1 : 0 ≤ (x.1.1 * x.2.1) / x.2.2.1 := Int.ediv_nonneg m1 (by omega)
    have q2 : (x.1.1 * x.2.1) / x.2.2.1 ≤ x.1.1 * x.2.1 := Int.ediv_le_self _ m1
    have q3 : 0 ≤ (x.1.2 * x.2.1 + x.2.2.1 - 1) / x.2.2.1 := Int.ediv_nonneg (by omega) (by omega)
    have q4 : (x.1.2 * x.2.1 + x.2.2.1 - 1) / x.2.2.1 ≤ x.1.2 * x.2.1 + x.2.2.1 - 1 := Int.ediv_le_self _ (by omega)
    have e1 : IntKind.wrap IntKind.i64 (Int.tdiv (IntKind.wrap IntKind.i64 (x.1.1 * x.2.1)) x.2.2.1) = Int.tdiv (x.1.1 * x.2.1) x.2.2.1 := by rw [w64 (x.1.1 * x.2.1) (by omega), d1, w64 _ (by omega)]
    have e2 : IntKind.wrap IntKind.i64 (Int.tdiv (IntKind.wrap IntKind.i64 (IntKind.wrap IntKind.i64 (IntKind.wrap IntKind.i64 (x.1.2 * x.2.1) + x.2.2.1) - 1)) x.2.2.1) = Int.tdiv (x.1.2 * x.2.1 + x.2.2.1 - 1) x.2.2.1 := by rw [w64 (x.1.2 * x.2.1) (by omega), w64 (x.1.2 * x.2.1 + x.2.2.1) (by omega), w64 (x.1.2 * x.2.1 + x.2.2.1 - 1) (by omega), d2, w64 _ (by omega)]
    show ob (bif !(x.2.2.1 == 0) then (bif (Int.tdiv (x.1.1 * x.2.1) x.2.2.1 != IntKind.wrap IntKind.i64 (Int.tdiv (IntKind.wrap IntKind.i64 (x.1.1 * x.2.1)) x.2.2.1)) then some ((n, (f, (inOk x.2.2.1 1 1000000, true))), x) else (bif !(x.2.2.1 == 0) then some ((n, (f, (inOk x.2.2.1 1 1000000, (Int.tdiv (x.1.2 * x.2.1 + x.2.2.1 - 1) x.2.2.1 != IntKind.wrap IntKind.i64 (Int.tdiv (IntKind.wrap IntKind.i64 (IntKind.wrap IntKind.i64 (IntKind.wrap IntKind.i64 (x.1.2 * x.2.1) + x.2.2.1) - 1)) x.2.2.1))))), x) else none)) else none) (fun s3 => sB2b F s3) = _
    rw [e1, e2, bne_self_eq_false, bne_self_eq_false, show (x.2.2.1 == 0) = false from beq_eq_false_iff_ne.2 (by omega)]
    rfl
theorem sB1_ok (F : Nat) (x : PsT) (h : rgOk x.1 0 1000000 = true) : sB1 F (((bowV x).2, ((feedV x).1, ((feedV x).2, inOk x.2.2.1 1 1000000))), (x, (bowV x).1)) = some true := by
  have key : (bif !inOk x.2.2.1 1 1000000 then some (((bowV x).2, ((feedV x).1, ((feedV x).2, (inOk x.2.2.1 1 1000000, true)))), (x, (bowV x).1)) else (bif decide (x.2.1 < 0) then some (((bowV x).2, ((feedV x).1, ((feedV x).2, (inOk x.2.2.1 1 1000000, true)))), (x, (bowV x).1)) else some (((bowV x).2, ((feedV x).1, ((feedV x).2, (inOk x.2.2.1 1 1000000, decide (x.2.1 > 1000000))))), (x, (bowV x).1)))) =
      some (((bowV x).2, ((feedV x).1, ((feedV x).2, (inOk x.2.2.1 1 1000000, !(inOk x.2.1 0 1000000 && inOk x.2.2.1 1 1000000))))), (x, (bowV x).1)) := by
    cases c1 : inOk x.2.2.1 1 1000000 with
    | false => rw [Bool.and_false]; rfl
    | true =>
      rw [Bool.and_true]
      unfold inOk
      by_cases a1 : x.2.1 < 0
      · rw [dec_t a1, dec_f (show ¬ 0 ≤ x.2.1 by omega)]; rfl
      · rw [dec_f a1, dec_t (show 0 ≤ x.2.1 by omega)]
        by_cases a2 : x.2.1 > 1000000
        · rw [dec_t a2, dec_f (show ¬ x.2.1 ≤ 1000000 by omega)]; rfl
        · rw [dec_f a2, dec_t (show x.2.1 ≤ 1000000 by omega)]; rfl
  unfold sB1
  show ob (ob (bif !inOk x.2.2.1 1 1000000 then some (((bowV x).2, ((feedV x).1, ((feedV x).2, (inOk x.2.2.1 1 1000000, true)))), (x, (bowV x).1)) else (bif decide (x.2.1 < 0) then some (((bowV x).2, ((feedV x).1, ((feedV x).2, (inOk x.2.2.1 1 1000000, true)))), (x, (bowV x).1)) else some (((bowV x).2, ((feedV x).1, ((feedV x).2, (inOk x.2.2.1 1 1000000, decide (x.2.1 > 1000000))))), (x, (bowV x).1)))) (fun s2 => sB2 F s2)) _ = _
  rw [key]
  show ob (sB2 F (((bowV x).2, ((feedV x).1, ((feedV x).2, (inOk x.2.2.1 1 1000000, !(inOk x.2.1 0 1000000 && inOk x.2.2.1 1 1000000))))), (x, (bowV x).1))) _ = _
  rw [sB2_ok F x h]
  exact sB3_ok F x h
theorem sBows_law0 (x : PsT) : sBows_S 3000 x = some true := by
  rw [sBows_def]
  cases h : rgOk x.1 0 1000000 with
  | false =>
    rw [bow_bad _ _ h, feed_bad _ _ h, brRg, h]; rfl
  | true =>
    rw [bow_eq 3000 2998 rfl (by decide) x h, feed_eq 3000 x h, brRg, h]
    show ob (bif decide (x.2.2.1 ≥ 1) then some (((bowV x).2, ((feedV x).1, ((feedV x).2, decide (x.2.2.1 ≤ 1000000)))), (x, (bowV x).1)) else some (((bowV x).2, ((feedV x).1, ((feedV x).2, false))), (x, (bowV x).1))) (fun s1 => sB1 3000 s1) = _
    have key : (bif decide (x.2.2.1 ≥ 1) then some (((bowV x).2, ((feedV x).1, ((feedV x).2, decide (x.2.2.1 ≤ 1000000)))), (x, (bowV x).1)) else some (((bowV x).2, ((feedV x).1, ((feedV x).2, false))), (x, (bowV x).1))) = some (((bowV x).2, ((feedV x).1, ((feedV x).2, inOk x.2.2.1 1 1000000))), (x, (bowV x).1)) := by
      unfold inOk
      change (bif decide (1 ≤ x.2.2.1) then _ else _) = _
      cases decide (1 ≤ x.2.2.1) <;> rfl
    rw [key]
    exact sB1_ok 3000 x h
end Go.Proofs.YtdfgmfddkcmalaaDoor
