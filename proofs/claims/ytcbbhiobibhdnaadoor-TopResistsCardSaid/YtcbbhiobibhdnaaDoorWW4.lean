/- Plain laws: a table, and the value at one number. No condition. -/
import Derived.Test.YtcbbhiobibhdnaaDoorWXM10
import Derived.Test.YtcbbhiobibhdnaaDoorWV7
import Derived.Test.YtcbbhiobibhdnaaDoorWV4

namespace Go.Proofs.YtcbbhiobibhdnaaDoor
namespace M3
open Go.RowKit U8
set_option maxRecDepth 100000
set_option maxHeartbeats 4000000
abbrev zR : Tr := TC.dflt (TC.pair (TC.int IntKind.i64) (TC.int IntKind.i64))
/-- The value of a piece, rounded outwards. -/
def pv (p q : Tr) (x : Int) : Tr := (p.2 + (q.2 - p.2) * (x - p.1) / (q.1 - p.1), p.2 + (q.2 - p.2) * (x - p.1) / (q.1 - p.1) + (if 0 < (q.2 - p.2) * (x - p.1) % (q.1 - p.1) then 1 else 0))
theorem or_ne {a b : Nat} (ha : a < 18446744073709551616) (hb : b < 18446744073709551616) (h : a ≠ 0 ∨ b ≠ 0) : ((IntKind.wrap IntKind.u64 ((BitVec.toNat ((BitVec.ofInt 64 (a : Int)) ||| (BitVec.ofInt 64 (b : Int)))) : Int)) != (0 : Int)) = true := by
  have e : ((BitVec.ofInt 64 (a : Int)) ||| (BitVec.ofInt 64 (b : Int))).toNat = a ||| b := by
    rw [BitVec.toNat_or, BitVec.ofInt_natCast, BitVec.ofInt_natCast, BitVec.toNat_ofNat, BitVec.toNat_ofNat, Nat.mod_eq_of_lt ha, Nat.mod_eq_of_lt hb]
  have h1 : a ≤ a ||| b := Nat.left_le_or
  have h2 : b ≤ a ||| b := Nat.right_le_or
  have h3 : a ||| b < 18446744073709551616 := Nat.or_lt_two_pow (n := 64) ha hb
  rw [e, u64N _ h3]
  have : ((a ||| b : Nat) : Int) ≠ 0 := by omega
  exact bne_iff_ne.2 this
section
variable (F : Nat) (hF : 4 ≤ F)
theorem prod_neg (n b : Nat) (h0 : 0 < n) (hn : n ≤ 9223372036854775807) (hb : b ≤ 9223372036854775807) : ∃ s, prod_S F (-(n : Int)) b = some (((n * b / 18446744073709551616 : Nat) : Int), (((n * b % 18446744073709551616 : Nat) : Int), s)) ∧ (n * b ≠ 0 → s = true) := by
  have hlo : n * b % 18446744073709551616 < 18446744073709551616 := Nat.mod_lt _ (by decide)
  have hnb : n * b ≤ 9223372036854775807 * 9223372036854775807 := Nat.mul_le_mul hn hb
  have hhi : n * b / 18446744073709551616 < 18446744073709551616 := Nat.div_lt_of_lt_mul (by omega)
  refine ⟨_, ?_, fun h => or_ne hhi hlo (by
    have := Nat.div_add_mod (n * b) 18446744073709551616
    omega)⟩
  unfold prod_S
  rw [dec_t (show -(n : Int) < 0 by omega), cond_true, ob_some]
  dsimp only
  rw [dec_f (show ¬ (b : Int) < 0 by omega), cond_false, ob_some]
  change some (mh (IntKind.wrap IntKind.u64 (IntKind.wrap IntKind.i64 (0 - -(n : Int)))) (IntKind.wrap IntKind.u64 (b : Int)), (IntKind.wrap IntKind.u64 (IntKind.wrap IntKind.u64 (IntKind.wrap IntKind.i64 (0 - -(n : Int))) * IntKind.wrap IntKind.u64 (b : Int)), ((IntKind.wrap IntKind.u64 ((BitVec.toNat ((BitVec.ofInt 64 (mh (IntKind.wrap IntKind.u64 (IntKind.wrap IntKind.i64 (0 - -(n : Int)))) (IntKind.wrap IntKind.u64 (b : Int)))) ||| (BitVec.ofInt 64 (IntKind.wrap IntKind.u64 (IntKind.wrap IntKind.u64 (IntKind.wrap IntKind.i64 (0 - -(n : Int))) * IntKind.wrap IntKind.u64 (b : Int)))))) : Int)) != (0 : Int)))) = _
  rw [show (0 : Int) - -(n : Int) = (n : Int) by omega, w64 (n : Int) (by omega), u64N n (by omega), u64N b (by omega), mh_eq n b (by omega) (by omega), ml_eq]
theorem ediv_nat (N c : Nat) : (N : Int) / (c : Int) = ((N / c : Nat) : Int) ∧ (N : Int) % (c : Int) = ((N % c : Nat) : Int) := ⟨(Int.natCast_ediv _ _).symm, (Int.natCast_emod _ _).symm⟩
theorem ediv_neg_nat (N c : Nat) (hc : 1 ≤ c) : (-(N : Int)) / (c : Int) = (if 0 < N % c then -((N / c : Nat) : Int) - 1 else -((N / c : Nat) : Int)) ∧ (-(N : Int)) % (c : Int) = if 0 < N % c then (c : Int) - ((N % c : Nat) : Int) else 0 := by
  have h1 := Nat.div_add_mod N c
  have h2 := Nat.mod_lt N (show 0 < c by omega)
  have h3 : (c : Int) * ((N / c : Nat) : Int) + ((N % c : Nat) : Int) = (N : Int) := by
    rw [← Int.natCast_mul, ← Int.natCast_add, h1]
  refine (Int.ediv_emod_unique (show (0 : Int) < (c : Int) by omega)).2 ?_
  by_cases h : 0 < N % c
  · rw [if_pos h, if_pos h, Int.mul_sub, Int.mul_neg]
    omega
  · rw [if_neg h, if_neg h, Int.mul_neg]
    omega
include hF
theorem over_negA (N c : Nat) (hc : 1 ≤ c ∧ c ≤ 1000000000000000) (hhi : N / 18446744073709551616 < c) (hq : N / c ≤ 1000000000000000) : over_S F (((N / 18446744073709551616 : Nat) : Int), (((N % 18446744073709551616 : Nat) : Int), true)) c = some ((-(N : Int)) / (c : Int), ((-(N : Int)) % (c : Int), true)) := by
  have h1 : N % c < c := Nat.mod_lt _ (by omega)
  have e1 : IntKind.wrap IntKind.u64 (c : Int) = (c : Int) := Mul64.wrapN c (by omega)
  obtain ⟨q1, q2⟩ := ediv_neg_nat N c hc.1
  unfold over_S
  show (bif decide (((N / 18446744073709551616 : Nat) : Int) ≥ IntKind.wrap IntKind.u64 (c : Int)) then _ else ob (div64_S F ((N / 18446744073709551616 : Nat) : Int) ((N % 18446744073709551616 : Nat) : Int) (IntKind.wrap IntKind.u64 (c : Int))) _) = _
  rw [e1, div64_all F hF N c hc hhi, dec_f (show ¬ ((N / 18446744073709551616 : Nat) : Int) ≥ (c : Int) by omega), cond_false, ob_some, q1, q2]
  generalize N / c = q at *
  generalize N % c = r at *
  show (bif decide ((q : Int) > 1000000000000000) then _ else ob (some ((c : Int), (IntKind.wrap IntKind.i64 (0 - IntKind.wrap IntKind.i64 (q : Int)), IntKind.wrap IntKind.i64 (0 - IntKind.wrap IntKind.i64 (r : Int))))) _) = _
  rw [dec_f (show ¬ (q : Int) > 1000000000000000 by omega), w64 (q : Int) (by omega), w64 (r : Int) (by omega), w64 (0 - (q : Int)) (by omega), w64 (0 - (r : Int)) (by omega)]
  show (bif decide ((0 - r : Int) < 0) then some ((IntKind.wrap IntKind.i64 (0 - (q : Int) - 1)), (IntKind.wrap IntKind.i64 (0 - (r : Int) + (c : Int))), true) else some ((0 - q : Int), (0 - r : Int), true)) = _
  rw [w64 (0 - (q : Int) - 1) (by omega), w64 (0 - (r : Int) + (c : Int)) (by omega)]
  by_cases h5 : 0 < r
  · rw [if_pos h5, if_pos h5, dec_t (show (0 - r : Int) < 0 by omega), cond_true, show (0 : Int) - q - 1 = -q - 1 by omega, show (0 : Int) - r + c = c - r by omega]
  · rw [if_neg h5, if_neg h5, dec_f (show ¬ (0 - r : Int) < 0 by omega), cond_false, show (0 : Int) - q = -q by omega, show (0 : Int) - r = 0 by omega]
/-- A product that is divided: rounded down, and the rest. -/
theorem po_eq {a : Int} (b c : Nat) (ha : -2000000000000 ≤ a ∧ a ≤ 2000000000000) (hb : b ≤ c) (hc : 1 ≤ c ∧ c ≤ 2000000000000) : ∃ w, prod_S F a (b : Int) = some w ∧ over_S F w (c : Int) = some (a * (b : Int) / (c : Int), (a * (b : Int) % (c : Int), true)) := by
  by_cases h : 0 ≤ a
  · obtain ⟨n, rfl⟩ := Int.eq_ofNat_of_zero_le h
    have hq : n * b / c ≤ 2000000000000 := by
      have : n * b ≤ 2000000000000 * c := Nat.mul_le_mul (by omega) hb
      exact Nat.div_le_of_le_mul (by rw [Nat.mul_comm c]; exact this)
    refine ⟨_, prod_eq F n b (by omega) (by omega), ?_⟩
    rw [over_any F hF (n * b) c ⟨hc.1, by omega⟩, if_pos (by omega), ← Int.natCast_mul, (ediv_nat _ _).1, (ediv_nat _ _).2]
  · obtain ⟨n, hn⟩ := Int.eq_ofNat_of_zero_le (show 0 ≤ -a by omega)
    have ha' : a = -(n : Int) := by omega
    subst ha'
    have hm : n * b ≤ 2000000000000 * c := Nat.mul_le_mul (by omega) hb
    have hq : n * b / c ≤ 2000000000000 := Nat.div_le_of_le_mul (by rw [Nat.mul_comm c]; exact hm)
    obtain ⟨s, e1, e2⟩ := prod_neg F n b (by omega) (by omega) (by omega)
    refine ⟨_, e1, ?_⟩
    rw [Int.neg_mul, ← Int.natCast_mul]
    by_cases h0 : n * b = 0
    · rw [h0]
      cases s with
      | true => exact over_negA F hF 0 c ⟨hc.1, by omega⟩ (by omega) (by rw [Nat.zero_div]; omega)
      | false =>
        have := over_any F hF 0 c ⟨hc.1, by omega⟩
        simp only [Nat.zero_div, Nat.zero_mod] at this ⊢
        rw [if_pos (by omega)] at this
        rw [this]
        simp
    · rw [e2 h0]
      refine over_negA F hF (n * b) c ⟨hc.1, by omega⟩ ?_ (by omega)
      exact Nat.div_lt_of_lt_mul (by omega)
def nC (x : Int) : Prop := -1000000000000 ≤ x ∧ x ≤ 1000000000000
theorem at_line {p q : Tr} {x : Int} (hp : nC p.1 ∧ nC p.2) (hq : nC q.1 ∧ nC q.2) (h : p.1 < q.1) (h1 : p.1 ≤ x) (h2 : x ≤ q.1) : at__S F (p, q) x = some (pv p q x) := by
  unfold nC at hp hq
  obtain ⟨b, hb⟩ := Int.eq_ofNat_of_zero_le (show 0 ≤ x - p.1 by omega)
  obtain ⟨c, hc⟩ := Int.eq_ofNat_of_zero_le (show 0 ≤ q.1 - p.1 by omega)
  obtain ⟨w, e1, e2⟩ := po_eq F hF (a := q.2 - p.2) b c (by omega) (by omega) (by omega)
  have hc0 : 0 < (c : Int) := by omega
  have n1 : (q.2 - p.2) * (b : Int) / (c : Int) ≤ 2000000000000 := by
    by_cases hr : 0 ≤ q.2 - p.2
    · have : (q.2 - p.2) * (b : Int) ≤ (q.2 - p.2) * (c : Int) := Int.mul_le_mul_of_nonneg_left (by omega) hr
      have h3 := Int.ediv_le_ediv hc0 this
      rw [Int.mul_ediv_cancel _ (by omega)] at h3
      omega
    · have : (q.2 - p.2) * (b : Int) ≤ 0 := Int.mul_nonpos_of_nonpos_of_nonneg (by omega) (by omega)
      have h3 := Int.ediv_le_ediv hc0 this
      rw [Int.zero_ediv] at h3
      omega
  have n2 : -2000000000000 ≤ (q.2 - p.2) * (b : Int) / (c : Int) := by
    by_cases hr : 0 ≤ q.2 - p.2
    · have := Int.ediv_nonneg (Int.mul_nonneg hr (show 0 ≤ (b : Int) by omega)) (show 0 ≤ (c : Int) by omega)
      omega
    · have : (q.2 - p.2) * (c : Int) ≤ (q.2 - p.2) * (b : Int) := Int.mul_le_mul_of_nonpos_left (by omega) (by omega)
      have h3 := Int.ediv_le_ediv hc0 this
      rw [Int.mul_ediv_cancel _ (by omega)] at h3
      omega
  unfold at__S pv
  dsimp only
  rw [hb, hc, w64 (q.2 - p.2) (by omega), w64 (b : Int) (by omega), w64 (c : Int) (by omega)]
  refine ob_at e1 (ob_at e2 ?_)
  dsimp only
  generalize (q.2 - p.2) * (b : Int) / (c : Int) = n at n1 n2
  rw [w64 (p.2 + n) (by omega), w64 (p.2 + n + 1) (by omega)]
  by_cases hr : (q.2 - p.2) * (b : Int) % (c : Int) > 0
  · rw [dec_t hr, if_pos hr]
    rfl
  · rw [dec_f hr, if_neg hr, Int.add_zero]
    rfl
end
end M3
end Go.Proofs.YtcbbhiobibhdnaaDoor


namespace Go.Proofs.YtcbbhiobibhdnaaDoor
namespace M3
open Go.RowKit U8
set_option maxRecDepth 100000
set_option maxHeartbeats 4000000
abbrev X_ (t : List Tr) (i : Nat) : Int := (nth t zR i).1
abbrev Y_ (t : List Tr) (i : Nat) : Int := (nth t zR i).2
structure TB (t : List Tr) : Prop where
  two : 2 ≤ t.length
  len : t.length ≤ 60
  num : ∀ i, i < t.length → nC (X_ t i) ∧ nC (Y_ t i)
  asc : ∀ i, i + 1 < t.length → X_ t i < X_ t (i + 1)
theorem TB.lt {t : List Tr} (h : TB t) {i : Nat} : ∀ {j : Nat}, i < j → j < t.length → X_ t i < X_ t j
  | 0, h1, _ => by omega
  | j + 1, h1, h2 => by
    have h3 := h.asc j h2
    by_cases e : i = j
    · rw [e]; exact h3
    · exact Int.lt_trans (TB.lt h (show i < j by omega) (by omega)) h3
theorem TB.le {t : List Tr} (h : TB t) {i j : Nat} (h1 : i ≤ j) (h2 : j < t.length) : X_ t i ≤ X_ t j := by
  by_cases e : i = j
  · rw [e]; exact Int.le_refl _
  · exact Int.le_of_lt (h.lt (by omega) h2)
instance nC_dec (n : Int) : Decidable (nC n) := by unfold nC; infer_instance
section
variable (F : Nat)
theorem ck1_eq (n : Int) : ckT1_S F n = some (decide (nC n)) := by
  unfold ckT1_S
  by_cases h : n ≥ -1000000000000
  · rw [dec_t h, cond_true]
    exact congrArg some (decide_eq_decide.2 (by unfold nC; omega))
  · rw [dec_f h, cond_false, decide_eq_false (show ¬ nC n by unfold nC; omega)]
theorem ckt_loop (t : List Tr) (hl : t.length ≤ 60) : ∀ (j k i : Nat), i + j = t.length → j < k → (∀ q, q < i → nC (X_ t q) ∧ nC (Y_ t q)) → (∀ q, q + 1 < t.length → q + 1 < i → X_ t q < X_ t (q + 1)) → ∃ v, checkT_L0 F k ((t.length - 0) : Int) (i : Int) t = some v ∧ (∀ g, v = .inr g → g = t ∧ (∀ q, q < t.length → nC (X_ t q) ∧ nC (Y_ t q)) ∧ (∀ q, q + 1 < t.length → X_ t q < X_ t (q + 1))) ∧ (∀ p, v = .inl p → p.1 ≠ 0)
  | j, 0, _, _, h, _, _ => by omega
  | 0, k + 1, i, h, _, h1, h2 => by
    simp only [checkT_L0]
    rw [dec_f (show ¬ (i : Int) < (t.length - 0 : Int) by omega), cond_false]
    have e : i = t.length := by omega
    subst e
    exact ⟨.inr t, rfl, fun g hg => (by cases hg; exact ⟨rfl, h1, fun q hq => h2 q hq hq⟩), fun p hp => (by cases hp)⟩
  | j + 1, k + 1, i, h, hj, h1, h2 => by
    have hi : i < t.length := by omega
    have bad : ∀ X : Option ((Int × (Int × Bool)) × List Tr), X = some ((((t.length - 0) : Int), ((i : Int), true)), t) → ∃ v, ob X (fun s1 => (bif s1.1.2.2 then (some (.inl ((2 : Int), s1.2))) else (checkT_L0 F k s1.1.1 (IntKind.wrap IntKind.i64 (s1.1.2.1 + (1 : Int))) s1.2))) = some v ∧ (∀ g, v = .inr g → g = t ∧ (∀ q, q < t.length → nC (X_ t q) ∧ nC (Y_ t q)) ∧ (∀ q, q + 1 < t.length → X_ t q < X_ t (q + 1))) ∧ (∀ p, v = .inl p → p.1 ≠ 0) := by
      intro X hX
      exact ⟨.inl (2, t), ob_at hX rfl, fun g hg => (by cases hg), fun p hp => (by cases hp; simp)⟩
    simp only [checkT_L0]
    rw [dec_t (show (i : Int) < (t.length - 0 : Int) by omega), show inB (i : Int) (t.length - 0) = true from inB_t hi, Int.toNat_natCast, cond_true, cond_true, ck1_eq, ck1_eq]
    by_cases n1 : nC (nth t zR i).1
    · by_cases n2 : nC (nth t zR i).2
      · have go : ∀ X : Option ((Int × (Int × Bool)) × List Tr), X = some ((((t.length - 0) : Int), ((i : Int), false)), t) → (∀ q, q + 1 < t.length → q + 1 < i + 1 → X_ t q < X_ t (q + 1)) → ∃ v, ob X (fun s1 => (bif s1.1.2.2 then (some (.inl ((2 : Int), s1.2))) else (checkT_L0 F k s1.1.1 (IntKind.wrap IntKind.i64 (s1.1.2.1 + (1 : Int))) s1.2))) = some v ∧ (∀ g, v = .inr g → g = t ∧ (∀ q, q < t.length → nC (X_ t q) ∧ nC (Y_ t q)) ∧ (∀ q, q + 1 < t.length → X_ t q < X_ t (q + 1))) ∧ (∀ p, v = .inl p → p.1 ≠ 0) := by
          intro X hX hs
          obtain ⟨v, e1, e2⟩ := ckt_loop t hl j k (i + 1) (by omega) (by omega) (fun q hq => by
            by_cases e : q = i
            · rw [e]; exact ⟨n1, n2⟩
            · exact h1 q (by omega)) hs
          refine ⟨v, ob_at hX ?_, e2⟩
          dsimp only
          rw [cond_false, wI i hi (by omega)]
          exact e1
        by_cases hi0 : 0 < i
        · have hp : i - 1 < t.length := by omega
          have ew : IntKind.wrap IntKind.i64 ((i : Int) - 1) = ((i - 1 : Nat) : Int) := by rw [w64 _ (by omega)]; omega
          by_cases ha : (nth t zR (i - 1)).1 ≥ (nth t zR i).1
          · refine bad _ ?_
            rw [dec_t n1, ob_some, dec_t n2, ob_some, dec_t (show (i : Int) > 0 by omega), ew, show inB ((i - 1 : Nat) : Int) (t.length - 0) = true from inB_t hp, Int.toNat_natCast, dec_t ha]
            rfl
          · refine go _ ?_ (fun q hq hq2 => ?_)
            · rw [dec_t n1, ob_some, dec_t n2, ob_some, dec_t (show (i : Int) > 0 by omega), ew, show inB ((i - 1 : Nat) : Int) (t.length - 0) = true from inB_t hp, Int.toNat_natCast, dec_f ha]
              rfl
            · by_cases e : q + 1 = i
              · have e' : q = i - 1 := by omega
                subst e'
                rw [e]
                exact Int.lt_of_not_ge ha
              · exact h2 q hq (by omega)
        · refine go _ ?_ (fun q hq hq2 => by omega)
          rw [dec_t n1, ob_some, dec_t n2, ob_some, dec_f (show ¬ (i : Int) > 0 by omega)]
          rfl
      · refine bad _ ?_
        rw [dec_t n1, ob_some, dec_f n2, ob_some]
        rfl
    · refine bad _ ?_
      rw [dec_f n1, ob_some]
      rfl
theorem ckt_eq (hF : 2000 < F) (t : List Tr) (hl : t.length ≤ 60) : ∃ e, checkT_S F t = some e ∧ (e = 0 → TB t) := by
  obtain ⟨v, e1, e2, e3⟩ := ckt_loop F t hl t.length F 0 (by omega) (by omega) (fun q h => by omega) (fun q _ h => by omega)
  unfold checkT_S
  have e1' : checkT_L0 F F ((t.length - 0) : Int) (0 : Int) t = some v := e1
  rw [e1', ob_some]
  cases v with
  | inl p => exact ⟨p.1, rfl, fun h => absurd h (e3 p rfl)⟩
  | inr g =>
    obtain ⟨rfl, g1, g2⟩ := e2 g rfl
    show ∃ e, (bif decide (((g.length - 0) : Int) < 2) then some (2 : Int) else bif decide (((g.length - 0) : Int) > 60) then some (2 : Int) else some (0 : Int)) = some e ∧ _
    by_cases h2 : g.length < 2
    · rw [dec_t (show ((g.length - 0) : Int) < 2 by omega)]
      exact ⟨2, rfl, fun h => absurd h (by decide)⟩
    · rw [dec_f (show ¬ ((g.length - 0) : Int) < 2 by omega), dec_f (show ¬ ((g.length - 0) : Int) > 60 by omega)]
      exact ⟨0, rfl, fun _ => ⟨by omega, hl, g1, g2⟩⟩
/-- The binary search. -/
theorem v1_eq (k : Tr) (x : Int) : ∃ r, value1_S F k x = some r ∧ (r < 0 ↔ k.1 < x) := by
  unfold value1_S cmpI_S
  rw [show (k.1 != k.1) = false by simp, show (x != x) = false by simp, cond_false, cond_false]
  by_cases h : k.1 < x
  · rw [dec_t h]
    exact ⟨-1, rfl, by omega⟩
  · rw [dec_f h]
    by_cases h2 : k.1 > x
    · rw [dec_t h2]
      exact ⟨1, rfl, by omega⟩
    · rw [dec_f h2]
      exact ⟨0, rfl, by omega⟩
theorem mid_eq {i j : Nat} (h : i < j) (hj : j ≤ 60) : IntKind.wrap IntKind.i64 (Int.fdiv (IntKind.wrap IntKind.u64 (IntKind.wrap IntKind.i64 ((i : Int) + (j : Int)))) (2 : Int)) = (((i + j) / 2 : Nat) : Int) := by
  rw [w64 ((i : Int) + (j : Int)) (by omega), show (i : Int) + (j : Int) = ((i + j : Nat) : Int) by omega, u64N _ (by omega), show Int.fdiv ((i + j : Nat) : Int) (2 : Int) = (((i + j) / 2 : Nat) : Int) from by rw [Int.fdiv_eq_ediv_of_nonneg _ (by omega)]; omega, w64 _ (by omega)]
theorem bs_loop (t : List Tr) (hT : TB t) (x : Int) : ∀ (k i j : Nat), i ≤ j → j ≤ t.length → j - i < k → (∀ q, q < i → X_ t q < x) → (∀ q, j ≤ q → q < t.length → x ≤ X_ t q) → ∃ i', i' ≤ t.length ∧ bsF_L0 F x ((t.length - 0) : Int) t k (i : Int) (j : Int) = some ((x, (((t.length - 0) : Int), (i' : Int))), t) ∧ (∀ q, q < i' → X_ t q < x) ∧ (∀ q, i' ≤ q → q < t.length → x ≤ X_ t q)
  | 0, _, _, _, _, h, _, _ => by omega
  | k + 1, i, j, hij, hj, hk, h1, h2 => by
    have hl := hT.len
    simp only [bsF_L0]
    by_cases h : i < j
    · have hm : (i + j) / 2 < t.length := by omega
      obtain ⟨r, e1, e2⟩ := v1_eq F (nth t zR ((i + j) / 2)) x
      rw [dec_t (show (i : Int) < (j : Int) by omega), cond_true, mid_eq h (by omega), show inB (((i + j) / 2 : Nat) : Int) (t.length - 0) = true from inB_t hm, cond_true, Int.toNat_natCast, e1, ob_some]
      by_cases hr : r < 0
      · rw [dec_t hr, cond_true, show IntKind.wrap IntKind.i64 ((((i + j) / 2 : Nat) : Int) + 1) = (((i + j) / 2 + 1 : Nat) : Int) by rw [w64 _ (by omega)]; omega]
        exact bs_loop t hT x k ((i + j) / 2 + 1) j (by omega) hj (by omega) (fun q hq => Int.lt_of_le_of_lt (hT.le (show q ≤ (i + j) / 2 by omega) hm) (e2.1 hr)) h2
      · rw [dec_f hr, cond_false]
        have hx : x ≤ X_ t ((i + j) / 2) := Int.not_lt.1 (fun h => hr (e2.2 h))
        exact bs_loop t hT x k i ((i + j) / 2) (by omega) (by omega) (by omega) h1 (fun q hq hq2 => Int.le_trans hx (hT.le hq hq2))
    · rw [dec_f (show ¬ (i : Int) < (j : Int) by omega)]
      exact ⟨i, by omega, rfl, h1, fun q hq => h2 q (by omega)⟩
/-- A number lies in a piece. -/
def pc (t : List Tr) (x : Int) (i : Nat) : Prop := 1 ≤ i ∧ i < t.length ∧ X_ t (i - 1) ≤ x ∧ x ≤ X_ t i ∧ (X_ t (i - 1) < x ∨ i = 1)
theorem pc_uniq {t : List Tr} (hT : TB t) {x : Int} {i j : Nat} (h1 : pc t x i) (h2 : pc t x j) : i = j := by
  have key : ∀ i j : Nat, pc t x i → pc t x j → ¬ i < j := by
    intro i j a b h
    obtain ⟨_, _, _, a4, _⟩ := a
    obtain ⟨b1, b2, b3, _, b5⟩ := b
    have h3 : X_ t i ≤ X_ t (j - 1) := hT.le (by omega) (by omega)
    rcases b5 with b5 | b5
    · omega
    · omega
  have := key i j h1 h2
  have := key j i h2 h1
  omega
theorem value_eq (hF : 2000 < F) (t : List Tr) (hT : TB t) (x : Int) (h0 : X_ t 0 ≤ x) (h1 : x ≤ X_ t (t.length - 1)) : ∃ i, pc t x i ∧ value_S F x t = some (pv (nth t zR (i - 1)) (nth t zR i) x) := by
  have hl := hT.len
  have h2 := hT.two
  obtain ⟨i, e1, e2, e3, e4⟩ := bs_loop F t hT x F 0 t.length (by omega) (Nat.le_refl _) (by omega) (fun q h => by omega) (fun q h1 h2 => by omega)
  have hi : i < t.length := by
    refine Nat.lt_of_not_le fun h => ?_
    have := e3 (t.length - 1) (by omega)
    omega
  have e2' : bsF_L0 F x ((t.length - 0) : Int) t F (0 : Int) ((t.length - 0) : Int) = some ((x, (((t.length - 0) : Int), (i : Int))), t) := by
    rw [← e2, show ((t.length - 0) : Int) = ((t.length : Nat) : Int) by omega]
    rfl
  have bs : ∃ b, bsF_S F x t = some ((i : Int), b) := by
    obtain ⟨r, r1, _⟩ := v1_eq F (nth t zR i) x
    unfold bsF_S
    refine ⟨(r == 0), ob_at e2' ?_⟩
    dsimp only
    rw [dec_t (show (i : Int) < ((t.length - 0) : Int) by omega), cond_true, show inB (i : Int) (t.length - 0) = true from inB_t hi, cond_true, Int.toNat_natCast, r1]
  obtain ⟨b, bs⟩ := bs
  have hmax : ∃ m : Nat, (if (1 : Int) > (i : Int) then (1 : Int) else (i : Int)) = (m : Int) ∧ 1 ≤ m ∧ m < t.length ∧ (m = i ∨ (i = 0 ∧ m = 1)) := by
    by_cases h : i = 0
    · exact ⟨1, by rw [if_pos (by omega)]; rfl, by omega, by omega, Or.inr ⟨h, rfl⟩⟩
    · exact ⟨i, by rw [if_neg (by omega)], by omega, hi, Or.inl rfl⟩
  obtain ⟨m, m1, m2, m3, m4⟩ := hmax
  have em : IntKind.wrap IntKind.i64 ((m : Int) - 1) = ((m - 1 : Nat) : Int) := by rw [w64 _ (by omega)]; omega
  have hp : pc t x m := by
    refine ⟨m2, m3, ?_, ?_, ?_⟩
    · rcases m4 with h | ⟨h, h'⟩
      · exact Int.le_of_lt (e3 (m - 1) (by omega))
      · rw [h']; exact h0
    · exact e4 m (by omega) m3
    · rcases m4 with h | ⟨h, h'⟩
      · exact Or.inl (e3 (m - 1) (by omega))
      · exact Or.inr h'
  refine ⟨m, hp, ?_⟩
  unfold value_S
  refine ob_at bs ?_
  dsimp only
  rw [m1, em, show inB ((m - 1 : Nat) : Int) (t.length - 0) = true from inB_t (by omega), show inB (m : Int) (t.length - 0) = true from inB_t m3, cond_true, cond_true, Int.toNat_natCast, Int.toNat_natCast]
  obtain ⟨_, _, p3, p4, _⟩ := hp
  have ha := hT.asc (m - 1) (by omega)
  rw [show m - 1 + 1 = m by omega] at ha
  rw [at_line F (by omega) (hT.num (m - 1) (by omega)) (hT.num m m3) ha p3 p4]
end
end M3
end Go.Proofs.YtcbbhiobibhdnaaDoor


namespace Go.Proofs.YtcbbhiobibhdnaaDoor
namespace M3
open Go.RowKit U8
set_option maxRecDepth 100000
set_option maxHeartbeats 4000000
def ins (x : Tr) (a : Int) : Prop := x.1 < a ∧ a < x.2
/-- A range that holds another one. -/
def sub (y z : Tr) : Prop := z.1 ≤ y.1 ∧ y.2 ≤ z.2
theorem sub_t {a b c : Tr} (h : sub a b) (h2 : sub b c) : sub a c := by unfold sub at *; omega
theorem sub_r (a : Tr) : sub a a := ⟨Int.le_refl _, Int.le_refl _⟩
section
variable (F : Nat)
theorem arL (t : List Tr) (hl : t.length ≤ 60) (x u : Tr) : ∀ (j k i : Nat) (y : Tr), i + j = t.length → j < k → ∃ y', around_L0 F k ((t.length - 0) : Int) (i : Int) t x u y = some (t, (u, y')) ∧ sub y y' ∧ (∀ q, i ≤ q → q < t.length → ins x (X_ t q) → sub (Y_ t q, Y_ t q) y') ∧ (∀ z, sub y z → (∀ q, q < t.length → ins x (X_ t q) → sub (Y_ t q, Y_ t q) z) → sub y' z)
  | j, 0, _, _, _, h => by omega
  | 0, k + 1, i, y, h, _ => by
    simp only [around_L0]
    rw [dec_f (show ¬ (i : Int) < (t.length - 0 : Int) by omega)]
    exact ⟨y, rfl, sub_r y, fun q h1 h2 => by omega, fun z hz _ => hz⟩
  | j + 1, k + 1, i, y, h, hj => by
    have hi : i < t.length := by omega
    have eY : Y_ t i = (nth t zR i).2 := rfl
    have go : ∀ (X : Option ((Int × Int) × (List Tr × (Tr × (Tr × Tr))))) (y1 : Tr), X = some ((((t.length - 0) : Int), (i : Int)), (t, (x, (u, y1)))) → sub y y1 → (ins x (X_ t i) → sub (Y_ t i, Y_ t i) y1) → (∀ z, sub y z → (ins x (X_ t i) → sub (Y_ t i, Y_ t i) z) → sub y1 z) → ∃ y', ob X (fun s1 => around_L0 F k s1.1.1 (IntKind.wrap IntKind.i64 (s1.1.2 + (1 : Int))) s1.2.1 s1.2.2.1 s1.2.2.2.1 s1.2.2.2.2) = some (t, (u, y')) ∧ sub y y' ∧ (∀ q, i ≤ q → q < t.length → ins x (X_ t q) → sub (Y_ t q, Y_ t q) y') ∧ (∀ z, sub y z → (∀ q, q < t.length → ins x (X_ t q) → sub (Y_ t q, Y_ t q) z) → sub y' z) := by
      intro X y1 hX h1 h2 h3
      obtain ⟨y', e1, e2, e3, e4⟩ := arL t hl x u j k (i + 1) y1 (by omega) (by omega)
      refine ⟨y', ob_at hX ?_, sub_t h1 e2, fun q hq hq2 hin => ?_, fun z hz hk => e4 z (h3 z hz (hk i hi)) hk⟩
      · dsimp only
        rw [wI i hi (by omega)]
        exact e1
      · by_cases e : q = i
        · rw [e] at hin ⊢
          exact sub_t (h2 hin) e2
        · exact e3 q (by omega) hq2 hin
    simp only [around_L0]
    rw [dec_t (show (i : Int) < (t.length - 0 : Int) by omega), show inB (i : Int) (t.length - 0) = true from inB_t hi, Int.toNat_natCast, cond_true]
    by_cases c1 : (nth t zR i).1 > x.1
    · by_cases c2 : (nth t zR i).1 < x.2
      · refine go _ ((if (nth t zR i).2 < y.1 then (nth t zR i).2 else y.1), (if (nth t zR i).2 > y.2 then (nth t zR i).2 else y.2)) ?_ ?_ ?_ ?_
        · rw [dec_t c1, dec_t c2]; rfl
        · unfold sub; dsimp only; constructor <;> split <;> omega
        · intro _; unfold sub; dsimp only; constructor <;> split <;> omega
        · intro z hz hk
          have hh := hk ⟨c1, c2⟩
          unfold sub at hh hz ⊢
          dsimp only at hh ⊢
          constructor <;> split <;> omega
      · refine go _ y ?_ (sub_r y) (fun h => absurd h.2 c2) (fun z hz _ => hz)
        rw [dec_t c1, dec_f c2]; rfl
    · refine go _ y ?_ (sub_r y) (fun h => absurd h.1 c1) (fun z hz _ => hz)
      rw [dec_f c1]; rfl
/-- The values at a range. -/
def AR (t : List Tr) (x y : Tr) : Prop := ∃ a b, pc t x.1 a ∧ pc t x.2 b ∧ sub (pv (nth t zR (a - 1)) (nth t zR a) x.1) y ∧ sub (pv (nth t zR (b - 1)) (nth t zR b) x.2) y ∧ (∀ q, q < t.length → ins x (X_ t q) → sub (Y_ t q, Y_ t q) y) ∧ (∀ z, sub (pv (nth t zR (a - 1)) (nth t zR a) x.1) z → sub (pv (nth t zR (b - 1)) (nth t zR b) x.2) z → (∀ q, q < t.length → ins x (X_ t q) → sub (Y_ t q, Y_ t q) z) → sub y z)
theorem around_eq (hF : 2000 < F) (t : List Tr) (hT : TB t) (x : Tr) (hx : x.1 ≤ x.2) (h0 : X_ t 0 ≤ x.1) (h1 : x.2 ≤ X_ t (t.length - 1)) : ∃ y, around_S F x t = some y ∧ AR t x y := by
  have hl := hT.len
  obtain ⟨a, a1, a2⟩ := value_eq F hF t hT x.1 h0 (by omega)
  obtain ⟨b, b1, b2⟩ := value_eq F hF t hT x.2 (by omega) h1
  generalize hv : pv (nth t zR (a - 1)) (nth t zR a) x.1 = v at a2
  generalize hw : pv (nth t zR (b - 1)) (nth t zR b) x.2 = w at b2
  obtain ⟨y, e1, e2, e3, e4⟩ := arL F t hl x (0, 0) t.length F 0 ((if w.1 < v.1 then w.1 else v.1), (if w.2 > v.2 then w.2 else v.2)) (by omega) (by omega)
  refine ⟨y, ?_, a, b, a1, b1, ?_, ?_, fun q hq => e3 q (Nat.zero_le _) hq, fun z z1 z2 z3 => e4 z ?_ z3⟩
  · unfold around_S
    refine ob_at a2 (ob_at b2 ?_)
    exact ob_at e1 rfl
  · rw [hv]
    refine sub_t ?_ e2
    unfold sub; dsimp only; constructor <;> split <;> omega
  · rw [hw]
    refine sub_t ?_ e2
    unfold sub; dsimp only; constructor <;> split <;> omega
  · rw [hv] at z1
    rw [hw] at z2
    unfold sub at *; dsimp only; constructor <;> split <;> omega
end
/-! ## One piece -/
section
variable {p q : Tr}
/-- Rounded up. -/
def up (a b : Int) : Int := a / b + (if 0 < a % b then 1 else 0)
theorem up_mono {a a' b : Int} (hb : 0 < b) (h : a ≤ a') : up a b ≤ up a' b := by
  have h1 := Int.ediv_le_ediv hb h
  unfold up
  by_cases e : a / b = a' / b
  · have q1 := Int.emod_add_mul_ediv a b
    have q2 := Int.emod_add_mul_ediv a' b
    rw [e] at q1 ⊢
    split <;> split <;> omega
  · split <;> split <;> omega
theorem pv_up (x : Int) : (pv p q x).2 = p.2 + up ((q.2 - p.2) * (x - p.1)) (q.1 - p.1) := by
  unfold pv up
  dsimp only
  omega
/-- A value between two others. -/
theorem pv_mid (hw : p.1 < q.1) {a x b : Int} (h1 : a ≤ x) (h2 : x ≤ b) {y : Tr} (ha : sub (pv p q a) y) (hb : sub (pv p q b) y) : sub (pv p q x) y := by
  obtain ⟨a1, a2⟩ := ha
  obtain ⟨b1, b2⟩ := hb
  rw [pv_up] at a2 b2
  have hw' : 0 < q.1 - p.1 := by omega
  have c1 : y.1 ≤ p.2 + (q.2 - p.2) * (a - p.1) / (q.1 - p.1) := a1
  have c2 : y.1 ≤ p.2 + (q.2 - p.2) * (b - p.1) / (q.1 - p.1) := b1
  refine ⟨?_, ?_⟩
  · show y.1 ≤ p.2 + (q.2 - p.2) * (x - p.1) / (q.1 - p.1)
    by_cases hr : 0 ≤ q.2 - p.2
    · have := Int.ediv_le_ediv hw' (Int.mul_le_mul_of_nonneg_left (show a - p.1 ≤ x - p.1 by omega) hr)
      omega
    · have := Int.ediv_le_ediv hw' (Int.mul_le_mul_of_nonpos_left (show q.2 - p.2 ≤ 0 by omega) (show x - p.1 ≤ b - p.1 by omega))
      omega
  · rw [pv_up]
    by_cases hr : 0 ≤ q.2 - p.2
    · have := up_mono hw' (Int.mul_le_mul_of_nonneg_left (show x - p.1 ≤ b - p.1 by omega) hr)
      omega
    · have := up_mono hw' (Int.mul_le_mul_of_nonpos_left (show q.2 - p.2 ≤ 0 by omega) (show a - p.1 ≤ x - p.1 by omega))
      omega
theorem pv_left : pv p q p.1 = (p.2, p.2) := by
  unfold pv
  rw [Int.sub_self, Int.mul_zero, Int.zero_ediv, Int.zero_emod, Int.add_zero]
  simp
theorem pv_right (hw : p.1 < q.1) : pv p q q.1 = (q.2, q.2) := by
  unfold pv
  rw [Int.mul_ediv_cancel _ (by omega), Int.mul_emod_left]
  simp
  omega
end
/-- At a knot the value is that of the knot. -/
theorem pv_knot {t : List Tr} (hT : TB t) {i a : Nat} (hi : i < t.length) (h : pc t (X_ t i) a) : pv (nth t zR (a - 1)) (nth t zR a) (X_ t i) = (Y_ t i, Y_ t i) := by
  obtain ⟨a1, a2, a3, a4, a5⟩ := h
  have hs := hT.asc (a - 1) (by omega)
  rw [show a - 1 + 1 = a by omega] at hs
  have e : i = a ∨ i = a - 1 := by
    by_cases h1 : i < a - 1
    · have := hT.lt h1 (by omega); omega
    · by_cases h2 : a < i
      · have := hT.lt h2 hi; omega
      · omega
  rcases e with e | e
  · rw [e]; exact pv_right hs
  · rw [e]; exact pv_left
theorem AR_in {t : List Tr} (hT : TB t) {x y : Tr} (h : AR t x y) {v : Int} (h1 : x.1 ≤ v) (h2 : v ≤ x.2) {i : Nat} (hp : pc t v i) : sub (pv (nth t zR (i - 1)) (nth t zR i) v) y := by
  obtain ⟨a, b, pa, pb, sa, sb, kn, _⟩ := h
  by_cases e1 : v = x.1
  · rw [e1] at hp ⊢
    rw [pc_uniq hT hp pa]
    exact sa
  by_cases e2 : v = x.2
  · rw [e2] at hp ⊢
    rw [pc_uniq hT hp pb]
    exact sb
  obtain ⟨i1, i2, i3, i4, i5⟩ := id hp
  have hs := hT.asc (i - 1) (by omega)
  rw [show i - 1 + 1 = i by omega] at hs
  have left : ∃ c, c ≤ v ∧ sub (pv (nth t zR (i - 1)) (nth t zR i) c) y := by
    by_cases c1 : x.1 < X_ t (i - 1)
    · refine ⟨X_ t (i - 1), i3, ?_⟩
      rw [show X_ t (i - 1) = (nth t zR (i - 1)).1 from rfl, pv_left]
      exact kn (i - 1) (by omega) ⟨c1, by omega⟩
    · by_cases c2 : x.1 = X_ t (i - 1)
      · refine ⟨X_ t (i - 1), i3, ?_⟩
        rw [c2] at pa sa
        rw [pv_knot hT (by omega) pa] at sa
        rw [show X_ t (i - 1) = (nth t zR (i - 1)).1 from rfl, pv_left]
        exact sa
      · refine ⟨x.1, h1, ?_⟩
        have : pc t x.1 i := ⟨i1, i2, by omega, by omega, Or.inl (by omega)⟩
        rw [pc_uniq hT this pa]
        exact sa
  have right : ∃ c, v ≤ c ∧ sub (pv (nth t zR (i - 1)) (nth t zR i) c) y := by
    by_cases c1 : X_ t i < x.2
    · refine ⟨X_ t i, i4, ?_⟩
      rw [show X_ t i = (nth t zR i).1 from rfl, pv_right hs]
      exact kn i i2 ⟨by omega, c1⟩
    · refine ⟨x.2, h2, ?_⟩
      have : pc t x.2 i := ⟨i1, i2, by omega, by omega, Or.inl (by omega)⟩
      rw [pc_uniq hT this pb]
      exact sb
  obtain ⟨c, l1, l2⟩ := left
  obtain ⟨d, r1, r2⟩ := right
  exact pv_mid hs l1 r1 l2 r2
theorem AR_mono {t : List Tr} (hT : TB t) {x x' y y' : Tr} (h : AR t x y) (h' : AR t x' y') (h1 : x.1 ≤ x'.1) (h2 : x'.1 ≤ x'.2) (h3 : x'.2 ≤ x.2) : sub y' y := by
  obtain ⟨a, b, pa, pb, _, _, _, mn⟩ := h'
  have kn : ∀ q, q < t.length → ins x (X_ t q) → sub (Y_ t q, Y_ t q) y := by
    obtain ⟨_, _, _, _, _, _, kn, _⟩ := h
    exact kn
  exact mn y (AR_in hT h h1 (by omega) pa) (AR_in hT h (by omega) h3 pb) (fun q hq hin => kn q hq ⟨by unfold ins at hin; omega, by unfold ins at hin; omega⟩)
section
variable (F : Nat) (hF : 2000 < F)
include hF
theorem valid_eq {x : Tr} (h1 : -1000000000000000 ≤ x.1) (h2 : x.1 ≤ x.2) (h3 : x.2 ≤ 1000000000000000) : valid_S F (x :: []) = some true := by
  have h : valid1_S F x = some false := by
    unfold valid1_S
    rw [isN_two F hF _ _ ⟨h1, by omega⟩ ⟨by omega, h3⟩, ob_some]
    show some (decide (x.1 > x.2)) = _
    rw [dec_f (show ¬ x.1 > x.2 by omega)]
  have hi : ixV_S F (x :: []) = some (-1) := by
    obtain ⟨n, rfl⟩ : ∃ n, F = n + 2 := ⟨F - 2, by omega⟩
    unfold ixV_S
    have e : ixV_L0 (n + 2) (((x :: []).length - 0) : Int) (x :: []) (n + 2) (0 : Int) = some (.inr (x :: [])) := by
      simp only [ixV_L0]
      show (bif (true) then (bif true then ob (valid1_S (n + 2) x) _ else none) else _) = _
      rw [h]
      rfl
    rw [e]
  unfold valid_S cfV_S
  rw [hi]
  rfl
/-- Value: an error if the range is not in the table, or the values. -/
theorem valueR_any (t : List Tr) (hT : TB t) (hc : checkT_S F t = some 0) (x : Tr) (h1 : -1000000000000000 ≤ x.1) (h2 : x.1 ≤ x.2) (h3 : x.2 ≤ 1000000000000000) : (X_ t 0 ≤ x.1 ∧ x.2 ≤ X_ t (t.length - 1) ∧ ∃ y, valueR_S F x t = some (y, 0) ∧ AR t x y) ∨ (¬ (X_ t 0 ≤ x.1 ∧ x.2 ≤ X_ t (t.length - 1)) ∧ valueR_S F x t = some ((0, 0), 7)) := by
  have hl := hT.len
  have h2' := hT.two
  have hv := valid_eq F hF h1 h2 h3
  have st : ∀ r, (bif (inB 0 (t.length - 0)) then (bif (decide (x.1 < (nth t zR 0).1)) then (some (((0 : Int), (0 : Int)), (7 : Int))) else (bif (inB (IntKind.wrap IntKind.i64 (((t.length - 0) : Int) - 1)) (t.length - 0)) then (bif (decide (x.2 > (nth t zR (IntKind.wrap IntKind.i64 (((t.length - 0) : Int) - 1)).toNat).1)) then (some (((0 : Int), (0 : Int)), (7 : Int))) else (ob (around_S F x t) (fun r2 => (some (r2, (0 : Int)))))) else none)) else none) = r → valueR_S F x t = r := by
    intro r hr
    rw [← hr]
    unfold valueR_S
    refine ob_at (y := (false, (t, (x, (0, 0))))) (ob_at hc ?_) rfl
    rw [show ((0 : Int) != 0) = false from rfl, cond_false]
    exact ob_at hv rfl
  have ew : IntKind.wrap IntKind.i64 (((t.length - 0) : Int) - 1) = ((t.length - 1 : Nat) : Int) := by rw [w64 _ (by omega)]; omega
  have i0 : inB 0 (t.length - 0) = true := inB_t (k := 0) (by omega)
  rw [ew, i0, show inB ((t.length - 1 : Nat) : Int) (t.length - 0) = true from inB_t (by omega), Int.toNat_natCast] at st
  simp only [cond_true] at st
  by_cases c1 : x.1 < (nth t zR 0).1
  · right
    refine ⟨fun h => ?_, st _ (by rw [dec_t c1]; rfl)⟩
    have : (nth t zR 0).1 ≤ x.1 := h.1
    omega
  · by_cases c2 : x.2 > (nth t zR (t.length - 1)).1
    · right
      refine ⟨fun h => ?_, st _ (by rw [dec_f c1, dec_t c2]; rfl)⟩
      have : x.2 ≤ (nth t zR (t.length - 1)).1 := h.2
      omega
    · left
      obtain ⟨y, e1, e2⟩ := around_eq F hF t hT x h2 (Int.not_lt.1 c1) (Int.not_lt.1 c2)
      exact ⟨Int.not_lt.1 c1, Int.not_lt.1 c2, y, st _ (by rw [dec_f c1, dec_f c2, e1]; rfl), e2⟩
end
end M3
end Go.Proofs.YtcbbhiobibhdnaaDoor


namespace Go.Proofs.YtcbbhiobibhdnaaDoor
namespace M3
open Go.RowKit U8
set_option maxRecDepth 100000
set_option maxHeartbeats 4000000
theorem poured_eq : poured_S 5000 = some true := by kernel_rfl
abbrev TR : Type := Int × (Int × (Int × (Int × (Int × (Int × (Int × (Int × (Int × (Int × (Int × (Int × (Int × (Int × (Int × (Int × (Int × (Int × (Int × (Int × (Int × (Int × (Int × (Int × Int)))))))))))))))))))))))
section
variable (F : Nat) (hF : 2000 < F)
include hF
/-- What is known of one slice. -/
def R1 (f : Tfr) (a : Tc3) : Prop := (1 ≤ f.1 ∧ f.1 ≤ 1000000000) ∧ (0 ≤ f.2.1.1 ∧ f.2.1.1 ≤ f.2.1.2) ∧ inR a.1 f.2.1
theorem resL (l : List Tst) (tt : List Int) (t : List Tr) (hT : TB t) (hc : checkT_S F t = some 0) (R : TR) (a : List Tc3) (sls : List Tfr) (hs : sls.length = a.length) (hl : a.length ≤ 200) (H : ∀ i, i < a.length → R1 (nth sls zF i) (nth a zC i)) : ∀ (j k i : Nat), i + j = a.length → j < k → tResists_L0 F k (i : Int) l tt t R a sls = some (.inr (l, (tt, t)))
  | j, 0, _, _, h => by omega
  | 0, k + 1, i, h, _ => by
    simp only [tResists_L0]
    rw [dec_f (show ¬ (i : Int) < (a.length - 0 : Int) by omega)]
    rfl
  | j + 1, k + 1, i, h, hj => by
    have hi : i < a.length := by omega
    have ih := resL l tt t hT hc R a sls hs hl H j k (i + 1) (by omega) (by omega)
    have hH := H i hi
    have hlen := hT.len
    have hap : (bif false then (lenOk2 0 t.length) else (lenOk 0 t.length)) = true := by
      show lenOk _ _ = true
      unfold lenOk
      rw [dec_t (by omega)]
    simp only [tResists_L0]
    rw [dec_t (show (i : Int) < (a.length - 0 : Int) by omega), show inB (i : Int) (sls.length - 0) = true from inB_t (by omega), show inB (i : Int) (a.length - 0) = true from inB_t hi, Int.toNat_natCast, cond_true, hap]
    simp only [cond_true]
    generalize hf : nth sls zF i = f at hH ⊢
    generalize ha : nth a zC i = c at hH ⊢
    obtain ⟨hm, ⟨hc1, hc2⟩, hin⟩ := hH
    refine ob_at (y := .inl ((i : Int), (l, (tt, (t, (R, (a, sls))))))) ?_ ?_
    · obtain ⟨v, e, e1, e2⟩ := conc_any F hF f hm
      refine ob_at e1 ?_
      by_cases he : e = 0
      · obtain ⟨r1, r2, r3⟩ := e2 he
        obtain ⟨b1, b2, b3⟩ := id r1
        subst he
        rw [show ((0 : Int) != 0) = false from rfl, cond_false]
        unfold inR at hin
        have q1 := fl_u (a := 1000000) (show 0 < f.1 by omega) (by omega) hin.1
        have q2 := cl_u (a := 1000000) (show 0 < f.1 by omega) (by omega) hin.2
        have q3 := fl_cl (u := c.1) (a := 1000000) (show 0 < f.1 by omega)
        have q4 := pos (u := f.2.1.1) (a := 1000000) (show 0 < f.1 by omega) b1 (by omega)
        have hv1 : v.1 = fl f.2.1.1 1000000 f.1 := by rw [r2]
        have hv2 : v.2 = cl f.2.1.2 1000000 f.1 := by rw [r2]
        have hnil : ([] ++ t : List Tr) = t := rfl
        rw [hnil]
        rcases valueR_any F hF t hT hc v (by omega) (by omega) (by omega) with ⟨g1, g2, y, g3, g4⟩ | ⟨_, g3⟩
        · refine ob_at g3 ?_
          rw [show ((0 : Int) != 0) = false from rfl, cond_false]
          obtain ⟨z1, m1⟩ := mdI1 F hF (u := c.1) (a := 1000000) (b := f.1) (by omega) (by omega) (by omega)
          obtain ⟨z2, m2⟩ := mdI2 F hF (u := c.1) (a := 1000000) (b := f.1) (by omega) (by omega) (by omega)
          rw [if_pos (by omega)] at m1 m2
          refine ob_at m1 (ob_at m2 ?_)
          dsimp only
          rcases valueR_any F hF t hT hc (fl c.1 1000000 f.1, cl c.1 1000000 f.1) (by dsimp only; omega) (by dsimp only; omega) (by dsimp only; omega) with ⟨_, _, y', k3, k4⟩ | ⟨no, _⟩
          · have hsub := AR_mono hT g4 k4 (by dsimp only; omega) (by dsimp only; omega) (by dsimp only; omega)
            unfold sub at hsub
            refine ob_at k3 ?_
            refine ob_at (y := (((i : Int), false), (l, (tt, (t, (R, (a, sls))))))) ?_ ?_
            · rw [show ((0 : Int) != 0) = false from rfl, cond_false, cond_false, cond_false, dec_f (show ¬ fl c.1 1000000 f.1 < v.1 by omega), dec_f (show ¬ cl c.1 1000000 f.1 > v.2 by omega), cond_false, cond_false, dec_f (show ¬ y'.1 < y.1 by omega), dec_f (show ¬ y'.2 > y.2 by omega)]
              rfl
            · rfl
          · exact absurd ⟨by dsimp only; omega, by dsimp only; omega⟩ no
        · refine ob_at g3 ?_
          rfl
      · rw [show (e != 0) = true by simp [he], cond_true]
    · show tResists_L0 F k (IntKind.wrap IntKind.i64 ((i : Int) + 1)) l tt t R a sls = _
      rw [wI i hi hl]
      exact ih
/-- The law. -/
theorem resists_law (hP : poured_S F = some true) (m : Tfr) (l : List Tst) (tt : List Int) (t : List Tr) (hk : ∀ x ∈ l, 0 ≤ x.1 ∧ x.1 ≤ 255) (htt : isT tt) : tResists_S F m l tt t = some true := by
  unfold tResists_S
  have hskip : ∀ X : Option (Bool × (List Tst × (List Int × (List Tr × Tfr)))), X = some (true, (l, (tt, (t, m)))) → ∀ G : (Bool × (List Tst × (List Int × (List Tr × Tfr)))) → Option Bool, (∀ s, s.1 = true → G s = some true) → ob X G = some true := fun X hX G hG => ob_at hX (hG _ rfl)
  by_cases h40 : l.length ≤ 40
  · by_cases h60 : t.length ≤ 60
    · obtain ⟨et, et1, et2⟩ := ckt_eq F hF t h60
      have hap : (bif false then (lenOk2 0 t.length) else (lenOk 0 t.length)) = true := by
        show lenOk _ _ = true
        unfold lenOk
        rw [dec_t (by omega)]
      rw [dec_f (show ¬ (l.length - 0 : Int) > 40 by omega), cond_false, dec_f (show ¬ (t.length - 0 : Int) > 60 by omega), cond_false, hap, cond_true]
      by_cases ht0 : et = 0
      · subst ht0
        have hT := et2 rfl
        refine ob_at (y := (false, (l, (tt, (t, m))))) (ob_at et1 rfl) ?_
        rw [cond_false]
        have hst : stepsOf_S F l = some l := by
          unfold stepsOf_S
          have : lenOk 0 l.length = true := by unfold lenOk; rw [dec_t (by omega)]
          show (bif lenOk 0 l.length then _ else _) = _
          rw [this]
          rfl
        obtain ⟨e, e1, e2⟩ := check_eq F hF m l hk
        refine ob_at hst ?_
        by_cases he : e = 0
        · obtain ⟨hl, hm, hB, hr⟩ := e2 he
          subst he
          obtain ⟨R, sls, p1, p2, p3, p4⟩ := predict_ok F hF m l e1 hl hm hB hr
          refine ob_at p1 ?_
          rw [show ((0 : Int) != 0) = false from rfl, cond_false]
          have hsl := sl_ok sp0 l m.1 (s0 m.2).1 (s0 m.2).2 hr hB.1.1 hB.1.2.1
          have hS : ∀ i, i < sls.length → (1 ≤ (nth sls zF i).1 ∧ (nth sls zF i).1 ≤ 1000000000) ∧ 0 ≤ (nth sls zF i).2.1.1 ∧ (nth sls zF i).2.1.1 ≤ (nth sls zF i).2.1.2 := by
            intro i hi
            obtain ⟨q1, q2⟩ := p4 i (by omega)
            rw [q1]
            have := hsl _ (List.getElem_mem (show i < (sl s0 l m.1 (s0 m.2).1 (s0 m.2).2).length by omega))
            exact ⟨q2, this.1, this.2.1⟩
          obtain ⟨v0, hv0, hv0b⟩ := place_eq F htt (i := 0) (by omega)
          obtain ⟨v1, hv1, hv1b⟩ := place_eq F htt (i := 1) (by omega)
          obtain ⟨v2, hv2, hv2b⟩ := place_eq F htt (i := 2) (by omega)
          refine ob_at hv0 (ob_at hv1 (ob_at hv2 (ob_at hst ?_)))
          obtain ⟨a0, ha0, ha0b⟩ := at_eq hB.1 (Int.le_refl _) hv0b
          obtain ⟨a1, ha1, ha1b⟩ := at_eq hB.2.1 (Int.le_refl _) hv1b
          obtain ⟨a2, ha2, ha2b⟩ := at_eq hB.2.2 (Int.le_refl _) hv2b
          dsimp only
          rw [ha0, ha1, ha2]
          obtain ⟨k1, k2, k3⟩ := hB.1
          obtain ⟨k4, k5, k6⟩ := hB.2.1
          obtain ⟨k7, k8, k9⟩ := hB.2.2
          obtain ⟨cs, c1, c2, c3, c4, c5⟩ := course_eq F hF l hl tt htt m hm hr (a0, (a1, a2)) (by dsimp only; omega) (by dsimp only; omega) (by dsimp only; omega)
          refine ob_at c1 ?_
          obtain ⟨en, f1⟩ := follow_eq F hF l hl m hm hB hr e1 (a0, (a1, a2)) ha0b ha1b ha2b cs c2 c3 c4 c5
          refine ob_at f1 ?_
          have hfz : (fz l cs).length = sls.length := by rw [p2]; exact fz_len s0 l cs m.1 _ _ c2
          have bt := between sp0 l (cs.map g0) m.1 (s0 m.2).1 a0 (s0 m.2).2 hr c3 k1 ha0b.1 ha0b.2
          rw [fz_map] at bt
          have loop := resL F hF l tt t hT et1 R (fz l cs) sls (by omega) (by omega) (by
            intro i hi
            have q := hS i (by omega)
            have q4 := p4 i (by omega)
            refine ⟨q.1, ⟨q.2.1, q.2.2⟩, ?_⟩
            rw [q4.1]
            have := bt.get i (by omega) (by rw [List.length_map]; omega)
            rw [List.getElem_map] at this
            rw [← nth_eq (fz l cs) zC i hi]
            exact this) (fz l cs).length F 0 (by omega) (by omega)
          rw [show ((0 : Int) != 0) = false from rfl, cond_false, hfz, show (((sls.length - 0) : Int) != ((sls.length - 0) : Int)) = false by simp, cond_false]
          refine ob_at loop ?_
          exact ob_at hP rfl
        · obtain ⟨R, p1⟩ := predict_no F m l e1 he
          refine ob_at p1 ?_
          rw [show (e != 0) = true by simp [he], cond_true]
          exact ob_at hP rfl
      · refine hskip _ (ob_at et1 ?_) _ (fun s hs => by rw [hs, cond_true]; exact ob_at hP rfl)
        rw [show (et != 0) = true by simp [ht0]]
    · refine hskip _ ?_ _ (fun s hs => by rw [hs, cond_true]; exact ob_at hP rfl)
      rw [dec_f (show ¬ (l.length - 0 : Int) > 40 by omega), cond_false, dec_t (show (t.length - 0 : Int) > 60 by omega), cond_true]
  · refine hskip _ ?_ _ (fun s hs => by rw [hs, cond_true]; exact ob_at hP rfl)
    rw [dec_t (show (l.length - 0 : Int) > 40 by omega), cond_true]
end
end M3
end Go.Proofs.YtcbbhiobibhdnaaDoor
