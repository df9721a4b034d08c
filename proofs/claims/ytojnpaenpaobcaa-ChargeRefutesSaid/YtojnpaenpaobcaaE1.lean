/- The plain law of Fits: the margins say what the reference's conditions say. No condition. -/
import Derived.Test.YtojnpaenpaobcaaD4
import Derived.Test.YtojnpaenpaobcaaC9
import Derived.Test.YtojnpaenpaobcaaC22
namespace Go.Proofs.Ytojnpaenpaobcaa
open Go.RowKit

theorem mul_bd {n m a b : Int} (h1 : 0 ≤ n) (h2 : n ≤ a) (h3 : 0 ≤ m) (h4 : m ≤ b) : 0 ≤ n * m ∧ n * m ≤ a * b :=
  ⟨Int.mul_nonneg h1 h3, Int.mul_le_mul h2 h4 h3 (by omega)⟩
theorem isRange_is {n a b : Int} (h : isRangeB n a b = true) : 0 ≤ n ∧ n ≤ a ∧ a ≤ b := by
  unfold isRangeB at h; simp only [Bool.and_eq_true, decide_eq_true_eq] at h; omega
theorem bounds_are {b : Bnds} (h : areBoundsB b = true) : (0 ≤ b.a.lo ∧ b.a.lo ≤ b.a.hi ∧ b.a.hi ≤ 100000000) ∧ (0 ≤ b.b.lo ∧ b.b.lo ≤ b.b.hi ∧ b.b.hi ≤ 100000000) ∧ (0 ≤ b.c.lo ∧ b.c.lo ≤ b.c.hi ∧ b.c.hi ≤ 100000000) := by
  unfold areBoundsB isRangeB at h
  simp at h
  omega
theorem isLot_is {l : Lot} (h : isLotB l = true) : (0 ≤ l.count ∧ l.count ≤ 1000) ∧ (1 ≤ l.mass ∧ l.mass ≤ 1000000) ∧ areBoundsB l.con = true ∧ (0 ≤ l.cost ∧ l.cost ≤ 1000000) := by
  unfold isLotB withinB at h
  simp only [Bool.and_eq_true, decide_eq_true_eq] at h
  exact ⟨h.1.1.1, h.1.1.2, h.1.2, h.2⟩
theorem check_rest {p : Recipe} (h : checkE p = 0) : (0 ≤ p.mass.lo ∧ p.mass.lo ≤ p.mass.hi ∧ p.mass.hi ≤ 1000000000) ∧ areBoundsB p.target = true := by
  unfold checkE at h
  split at h
  · cases h
  · split at h
    · cases h
    · rename_i h1
      simp only [Bool.or_eq_true, Bool.not_eq_true', not_or, Bool.not_eq_false] at h1
      exact ⟨isRange_is h1.1.2, h1.2⟩
theorem okTo_at {lots : List Lot} {counts : List Int} : ∀ {n k : Nat}, okTo lots counts n = true → k < n → k < lots.length ∧ 0 ≤ nth counts 0 k ∧ nth counts 0 k ≤ (nth lots .zero k).count := by
  intro n k h hk
  have h1 := okTo_mono lots counts (show k + 1 ≤ n from hk) h
  rw [okTo] at h1
  simp only [Bool.and_eq_true, decide_eq_true_eq, withinB] at h1
  exact ⟨h1.1.2, h1.2⟩

/-- What k lots can weigh at most. -/
structure PileBd (x : Pile) (k : Int) : Prop where
  m : 0 ≤ x.mass ∧ x.mass ≤ k * 1000000000
  al : 0 ≤ x.con.a.lo ∧ x.con.a.lo ≤ k * 100000000000
  ah : 0 ≤ x.con.a.hi ∧ x.con.a.hi ≤ k * 100000000000
  bl : 0 ≤ x.con.b.lo ∧ x.con.b.lo ≤ k * 100000000000
  bh : 0 ≤ x.con.b.hi ∧ x.con.b.hi ≤ k * 100000000000
  cl : 0 ≤ x.con.c.lo ∧ x.con.c.lo ≤ k * 100000000000
  ch : 0 ≤ x.con.c.hi ∧ x.con.c.hi ≤ k * 100000000000
theorem add_bd {m n f k a b : Int} (hm : 0 ≤ m ∧ m ≤ k * b) (hk : 0 ≤ k ∧ k ≤ 6) (hn : 0 ≤ n ∧ n ≤ 1000) (hf : 0 ≤ f ∧ f ≤ a) (hb : b = 1000 * a) (ha : 0 ≤ a ∧ a ≤ 100000000) : 0 ≤ wrap64 (m + wrap64 (n * f)) ∧ wrap64 (m + wrap64 (n * f)) ≤ (k + 1) * b := by
  have h1 := mul_bd hn.1 hn.2 hf.1 hf.2
  have h2 : k * b ≤ 6 * b := Int.mul_le_mul_of_nonneg_right hk.2 (by omega)
  have e1 : wrap64 (n * f) = n * f := by unfold wrap64; omega
  have e2 : wrap64 (m + n * f) = m + n * f := by unfold wrap64; omega
  rw [e1, e2, Int.add_mul]
  omega
theorem weighTo_bd {p : Recipe} {counts : List Int} (h : checkE p = 0) : ∀ k : Nat, k ≤ 6 → okTo p.lots counts k = true → PileBd (weighTo p.lots counts k) k
  | 0, _, _ => by
    refine ⟨?_, ?_, ?_, ?_, ?_, ?_, ?_⟩ <;> simp [weighTo, Pile.zero, Bnds.zero, Rng.zero]
  | k + 1, hk, hok => by
    have ih := weighTo_bd h k (by omega) (okTo_mono p.lots counts (by omega) hok)
    obtain ⟨hl, h1, h2⟩ := okTo_at hok (Nat.lt_succ_self k)
    have hlot := isLot_is (check_lot h _ (List.getElem_mem hl))
    rw [nth_eq p.lots .zero k hl] at hlot
    obtain ⟨hc, hm, hb, _⟩ := hlot
    obtain ⟨⟨a1, a2, a3⟩, ⟨b1, b2, b3⟩, ⟨c1, c2, c3⟩⟩ := bounds_are hb
    have hn : 0 ≤ nth counts 0 k ∧ nth counts 0 k ≤ 1000 := by omega
    have hk' : (0 : Int) ≤ (k : Int) ∧ (k : Int) ≤ 6 := by omega
    have e : ((k + 1 : Nat) : Int) = (k : Int) + 1 := by omega
    rw [weighTo, e]
    exact ⟨add_bd ih.m hk' hn (by omega) (a := 1000000) (by omega) (by omega), add_bd ih.al hk' hn (by omega) (a := 100000000) (by omega) (by omega), add_bd ih.ah hk' hn (by omega) (a := 100000000) (by omega) (by omega),
      add_bd ih.bl hk' hn (by omega) (a := 100000000) (by omega) (by omega), add_bd ih.bh hk' hn (by omega) (a := 100000000) (by omega) (by omega), add_bd ih.cl hk' hn (by omega) (a := 100000000) (by omega) (by omega), add_bd ih.ch hk' hn (by omega) (a := 100000000) (by omega) (by omega)⟩
theorem isCharge_ok {lots : List Lot} {counts : List Int} (h : isChargeB lots counts = true) : okTo lots counts counts.length = true := by
  unfold isChargeB at h; simp only [Bool.and_eq_true] at h; exact h.1
theorem weigh_bd {p : Recipe} {counts : List Int} (h : checkE p = 0) (hc : isChargeB p.lots counts = true) : PileBd (weighM p.lots counts) 6 := by
  have hl := check_len h
  have hn := isCharge_len hc
  have b := weighTo_bd h counts.length (by omega) (isCharge_ok hc)
  have hk : (counts.length : Int) ≤ 6 := by omega
  unfold weighM
  exact ⟨by have := b.m; omega, by have := b.al; omega, by have := b.ah; omega, by have := b.bl; omega, by have := b.bh; omega, by have := b.cl; omega, by have := b.ch; omega⟩

theorem not_ite (b : Bool) (x y : Int) : (if (!b) = true then x else y) = (if b = true then y else x) := by cases b <;> rfl
theorem wrap_id {n : Int} (h : -9223372036854775808 ≤ n ∧ n ≤ 9223372036854775807) : wrap64 n = n := by unfold wrap64; omega
theorem wrapK_id {n : Int} (h : -9223372036854775808 ≤ n ∧ n ≤ 9223372036854775807) : IntKind.i64.wrap n = n := by rw [IntKind.wrap_i64]; omega
theorem hi_law {t c m : Int} (ht : 0 ≤ t ∧ t ≤ 100000000) (hc : 0 ≤ c ∧ c ≤ 600000000000) (hm : 0 ≤ m ∧ m ≤ 6000000000) :
    decide (IntKind.i64.wrap (1000000 * c) ≤ IntKind.i64.wrap (t * m)) = !decide (wrap64 (0 + wrap64 (1 * wrap64 (wrap64 (t * m) - wrap64 (1000000 * c)))) < 0) := by
  have h1 := mul_bd ht.1 ht.2 hm.1 hm.2
  generalize t * m = A at *
  rw [wrapK_id (by omega), wrapK_id (by omega), wrap_id (n := A) (by omega), wrap_id (n := 1000000 * c) (by omega), wrap_id (n := A - 1000000 * c) (by omega), wrap_id (n := 1 * _) (by omega), wrap_id (by omega), Bool.eq_iff_iff]
  simp only [Bool.not_eq_true', decide_eq_true_eq, decide_eq_false_iff_not]
  omega
theorem lo_law {t c m : Int} (ht : 0 ≤ t ∧ t ≤ 100000000) (hc : 0 ≤ c ∧ c ≤ 600000000000) (hm : 0 ≤ m ∧ m ≤ 6000000000) :
    decide (IntKind.i64.wrap (t * m) ≤ IntKind.i64.wrap (1000000 * c)) = !decide (wrap64 (0 + wrap64 (1 * wrap64 (wrap64 (1000000 * c) - wrap64 (t * m)))) < 0) := by
  have h1 := mul_bd ht.1 ht.2 hm.1 hm.2
  generalize t * m = A at *
  rw [wrapK_id (by omega), wrapK_id (by omega), wrap_id (n := A) (by omega), wrap_id (n := 1000000 * c) (by omega), wrap_id (n := 1000000 * c - A) (by omega), wrap_id (n := 1 * _) (by omega), wrap_id (by omega), Bool.eq_iff_iff]
  simp only [Bool.not_eq_true', decide_eq_true_eq, decide_eq_false_iff_not]
  omega
/-- The margins of a pile. -/
def marM (p : Recipe) (x : Pile) : Mar := plusM (baseM p) (ofM p x) 1
theorem true_mar {p : Recipe} {x : Pile} (h : checkE p = 0) (hx : PileBd x 6) :
    trueB p x 0 = !decide ((marM p x).m0 < 0) ∧ trueB p x 1 = !decide ((marM p x).m1 < 0) ∧ trueB p x 2 = !decide ((marM p x).m2 < 0) ∧ trueB p x 3 = !decide ((marM p x).m3 < 0) ∧
    trueB p x 4 = !decide ((marM p x).m4 < 0) ∧ trueB p x 5 = !decide ((marM p x).m5 < 0) ∧ trueB p x 6 = !decide ((marM p x).m6 < 0) ∧ trueB p x 7 = !decide ((marM p x).m7 < 0) := by
  obtain ⟨hm, ht⟩ := check_rest h
  obtain ⟨⟨a1, a2, a3⟩, ⟨b1, b2, b3⟩, ⟨c1, c2, c3⟩⟩ := bounds_are ht
  have m := hx.m; have al := hx.al; have ah := hx.ah; have bl := hx.bl; have bh := hx.bh; have cl := hx.cl; have ch := hx.ch
  refine ⟨?_, ?_, hi_law (by omega) (by omega) (by omega), lo_law (by omega) (by omega) (by omega), hi_law (by omega) (by omega) (by omega), lo_law (by omega) (by omega) (by omega), hi_law (by omega) (by omega) (by omega), lo_law (by omega) (by omega) (by omega)⟩
  · show decide (p.mass.lo ≤ x.mass) = !decide (wrap64 (wrap64 (-p.mass.lo) + wrap64 (1 * x.mass)) < 0)
    unfold wrap64
    rw [Bool.eq_iff_iff]
    simp only [Bool.not_eq_true', decide_eq_true_eq, decide_eq_false_iff_not]
    omega
  · show decide (x.mass ≤ p.mass.hi) = !decide (wrap64 (p.mass.hi + wrap64 (1 * wrap64 (-x.mass))) < 0)
    unfold wrap64
    rw [Bool.eq_iff_iff]
    simp only [Bool.not_eq_true', decide_eq_true_eq, decide_eq_false_iff_not]
    omega
theorem fits_is {p : Recipe} {x : Pile} (h : checkE p = 0) (hx : PileBd x 6) : fitsR p x = brokenM (marM p x) := by
  obtain ⟨h0, h1, h2, h3, h4, h5, h6, h7⟩ := true_mar h hx
  simp only [fitsR, fitsFrom, h0, h1, h2, h3, h4, h5, h6, h7, not_ite, brokenM, Mar.list, idxOf]
/-- The answers of Fits and of the reference are the same. -/
theorem fits_law {p : Recipe} {counts : List Int} (h : checkE p = 0) (hc : isChargeB p.lots counts = true) : fitsK p counts = fitsR p (weighM p.lots counts) := by
  have hw : weighE p counts = 0 := by unfold weighE; rw [h, hc]; rfl
  rw [fits_is h (weigh_bd h hc), fitsK, if_pos hw]
  rfl
end Go.Proofs.Ytojnpaenpaobcaa
