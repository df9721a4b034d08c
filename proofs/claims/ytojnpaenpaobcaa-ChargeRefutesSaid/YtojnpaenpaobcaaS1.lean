/- The plain laws of what is true of a charge: its pile meets the recipe; the cheapest one costs no more than any other. No condition. -/
import Derived.Test.YtojnpaenpaobcaaF1
namespace Go.Proofs.Ytojnpaenpaobcaa
open Go.RowKit

/-- A pile that meets a recipe. -/
structure TruePile (p : Recipe) (x : Pile) : Prop where
  m0 : p.mass.lo ≤ x.mass
  m1 : x.mass ≤ p.mass.hi
  ah : 1000000 * x.con.a.hi ≤ p.target.a.hi * x.mass
  al : p.target.a.lo * x.mass ≤ 1000000 * x.con.a.lo
  bh : 1000000 * x.con.b.hi ≤ p.target.b.hi * x.mass
  bl : p.target.b.lo * x.mass ≤ 1000000 * x.con.b.lo
  ch : 1000000 * x.con.c.hi ≤ p.target.c.hi * x.mass
  cl : p.target.c.lo * x.mass ≤ 1000000 * x.con.c.lo

theorem add_ex {m n f k a b : Int} (hm : 0 ≤ m ∧ m ≤ k * b) (hk : 0 ≤ k ∧ k ≤ 6) (hn : 0 ≤ n ∧ n ≤ 1000) (hf : 0 ≤ f ∧ f ≤ a) (hb : b = 1000 * a) (ha : 0 ≤ a ∧ a ≤ 100000000) : wrap64 (m + wrap64 (n * f)) = m + n * f := by
  have h1 := mul_bd hn.1 hn.2 hf.1 hf.2
  have h2 : k * b ≤ 6 * b := Int.mul_le_mul_of_nonneg_right hk.2 (by omega)
  have e1 : wrap64 (n * f) = n * f := by unfold wrap64; omega
  have e2 : wrap64 (m + n * f) = m + n * f := by unfold wrap64; omega
  rw [e1, e2]
/-- What the bounds of a lot are. -/
structure LotBd (l : Lot) : Prop where
  c : 0 ≤ l.count ∧ l.count ≤ 1000
  m : 1 ≤ l.mass ∧ l.mass ≤ 1000000
  a : 0 ≤ l.con.a.lo ∧ l.con.a.lo ≤ l.con.a.hi ∧ l.con.a.hi ≤ 100000000
  b : 0 ≤ l.con.b.lo ∧ l.con.b.lo ≤ l.con.b.hi ∧ l.con.b.hi ≤ 100000000
  k : 0 ≤ l.con.c.lo ∧ l.con.c.lo ≤ l.con.c.hi ∧ l.con.c.hi ≤ 100000000
theorem lot_bd {p : Recipe} (h : checkE p = 0) {k : Nat} (hk : k < p.lots.length) : LotBd (nth p.lots .zero k) := by
  rw [← nth_eq p.lots .zero k hk]
  obtain ⟨hc, hm, hb, _⟩ := isLot_is (check_lot h _ (List.getElem_mem hk))
  obtain ⟨a, b, c⟩ := bounds_are hb
  exact ⟨hc, hm, a, b, c⟩
/-- One lot more, reckoned without bounds. -/
structure WeighEx (x y : Pile) (l : Lot) (n : Int) : Prop where
  m : y.mass = x.mass + n * l.mass
  al : y.con.a.lo = x.con.a.lo + n * l.con.a.lo
  ah : y.con.a.hi = x.con.a.hi + n * l.con.a.hi
  bl : y.con.b.lo = x.con.b.lo + n * l.con.b.lo
  bh : y.con.b.hi = x.con.b.hi + n * l.con.b.hi
  cl : y.con.c.lo = x.con.c.lo + n * l.con.c.lo
  ch : y.con.c.hi = x.con.c.hi + n * l.con.c.hi
theorem weigh_ex {p : Recipe} {counts : List Int} (h : checkE p = 0) {k : Nat} (hk : k < 6) (hok : okTo p.lots counts (k + 1) = true) : WeighEx (weighTo p.lots counts k) (weighTo p.lots counts (k + 1)) (nth p.lots .zero k) (nth counts 0 k) := by
  have ih := weighTo_bd h k (by omega) (okTo_mono p.lots counts (by omega) hok)
  obtain ⟨hl, h1, h2⟩ := okTo_at hok (Nat.lt_succ_self k)
  have b := lot_bd h hl
  have bc := b.c; have bm := b.m; have ba := b.a; have bb := b.b; have bk := b.k
  have hn : 0 ≤ nth counts 0 k ∧ nth counts 0 k ≤ 1000 := by omega
  have hk' : (0 : Int) ≤ (k : Int) ∧ (k : Int) ≤ 6 := by omega
  rw [weighTo]
  exact ⟨add_ex ih.m hk' hn (by omega) (a := 1000000) (by omega) (by omega), add_ex ih.al hk' hn (by omega) (a := 100000000) (by omega) (by omega), add_ex ih.ah hk' hn (by omega) (a := 100000000) (by omega) (by omega),
    add_ex ih.bl hk' hn (by omega) (a := 100000000) (by omega) (by omega), add_ex ih.bh hk' hn (by omega) (a := 100000000) (by omega) (by omega), add_ex ih.cl hk' hn (by omega) (a := 100000000) (by omega) (by omega), add_ex ih.ch hk' hn (by omega) (a := 100000000) (by omega) (by omega)⟩
/-- The margins of one piece of a lot, without bounds. -/
def oneEx (p : Recipe) (l : Lot) : Mar := ⟨l.mass, -l.mass, p.target.a.hi * l.mass - 1000000 * l.con.a.hi, 1000000 * l.con.a.lo - p.target.a.lo * l.mass, p.target.b.hi * l.mass - 1000000 * l.con.b.hi, 1000000 * l.con.b.lo - p.target.b.lo * l.mass, p.target.c.hi * l.mass - 1000000 * l.con.c.hi, 1000000 * l.con.c.lo - p.target.c.lo * l.mass⟩
theorem one_val {p : Recipe} (h : checkE p = 0) {k : Nat} (hk : k < p.lots.length) : nth (onesM p) .zero k = oneEx p (nth p.lots .zero k) := by
  obtain ⟨_, ht⟩ := check_rest h
  obtain ⟨⟨a1, a2, a3⟩, ⟨b1, b2, b3⟩, ⟨c1, c2, c3⟩⟩ := bounds_are ht
  have e0 : nth (onesM p) .zero k = oneM p (nth p.lots .zero k) := by rw [← nth_eq (onesM p) .zero k (by simpa [onesM] using hk), ← nth_eq p.lots .zero k hk]; simp [onesM]
  have b := lot_bd h hk
  have hm := b.m; obtain ⟨d1, d2, d3⟩ := b.a; obtain ⟨f1, f2, f3⟩ := b.b; obtain ⟨g1, g2, g3⟩ := b.k
  rw [e0]
  generalize nth p.lots .zero k = l at *
  have w1 : ∀ n : Int, 0 ≤ n → n ≤ 100000000 → wrap64 (0 + wrap64 (1 * n)) = n := fun n h1 h2 => by rw [Int.one_mul, wrap_id (n := n) (by omega), wrap_id (by omega)]; omega
  have e1 : addPile .zero l 1 = ⟨l.mass, l.con⟩ := by
    obtain ⟨lc, lm, ⟨⟨x1, x2⟩, ⟨y1, y2⟩, ⟨z1, z2⟩⟩, lk⟩ := l
    simp only at *
    simp only [addPile, Pile.zero, Bnds.zero, Rng.zero]
    rw [w1 lm (by omega) (by omega), w1 x1 (by omega) (by omega), w1 x2 (by omega) (by omega), w1 y1 (by omega) (by omega), w1 y2 (by omega) (by omega), w1 z1 (by omega) (by omega), w1 z2 (by omega) (by omega)]
  rw [oneM, e1]
  have mb : ∀ t : Int, 0 ≤ t → t ≤ 100000000 → 0 ≤ t * l.mass ∧ t * l.mass ≤ 100000000000000 := fun t h1 h2 => by
    have := mul_bd h1 h2 (show 0 ≤ l.mass by omega) hm.2; omega
  have wm : ∀ t : Int, 0 ≤ t → t ≤ 100000000 → wrap64 (t * l.mass) = t * l.mass := fun t h1 h2 => by have := mb t h1 h2; exact wrap_id (by omega)
  have wc : ∀ t : Int, 0 ≤ t → t ≤ 100000000 → wrap64 (1000000 * t) = 1000000 * t := fun t h1 h2 => wrap_id (by omega)
  have A1 := mb p.target.a.lo (by omega) (by omega); have A2 := mb p.target.a.hi (by omega) (by omega)
  have B1 := mb p.target.b.lo (by omega) (by omega); have B2 := mb p.target.b.hi (by omega) (by omega)
  have C1 := mb p.target.c.lo (by omega) (by omega); have C2 := mb p.target.c.hi (by omega) (by omega)
  simp only [ofM, oneEx, Mar.mk.injEq, true_and]
  rw [wm p.target.a.hi (by omega) (by omega), wc l.con.a.hi (by omega) (by omega), wm p.target.a.lo (by omega) (by omega), wc l.con.a.lo (by omega) (by omega), wm p.target.b.hi (by omega) (by omega), wc l.con.b.hi (by omega) (by omega), wm p.target.b.lo (by omega) (by omega), wc l.con.b.lo (by omega) (by omega), wm p.target.c.hi (by omega) (by omega), wc l.con.c.hi (by omega) (by omega), wm p.target.c.lo (by omega) (by omega), wc l.con.c.lo (by omega) (by omega)]
  refine ⟨?_, ?_, ?_, ?_, ?_, ?_, ?_⟩ <;> exact wrap_id (by omega)
theorem lin_hi {t m x n lm lx : Int} : t * m - 1000000 * x + n * (t * lm - 1000000 * lx) = t * (m + n * lm) - 1000000 * (x + n * lx) := by
  have e1 : t * (m + n * lm) = t * m + n * (t * lm) := by rw [Int.mul_add, Int.mul_left_comm]
  have e2 : n * (t * lm - 1000000 * lx) = n * (t * lm) - 1000000 * (n * lx) := by rw [Int.mul_sub, Int.mul_left_comm n 1000000 lx]
  have e3 : 1000000 * (x + n * lx) = 1000000 * x + 1000000 * (n * lx) := Int.mul_add ..
  omega
theorem lin_lo {t m x n lm lx : Int} : 1000000 * x - t * m + n * (1000000 * lx - t * lm) = 1000000 * (x + n * lx) - t * (m + n * lm) := by
  have e1 : t * (m + n * lm) = t * m + n * (t * lm) := by rw [Int.mul_add, Int.mul_left_comm]
  have e2 : n * (1000000 * lx - t * lm) = 1000000 * (n * lx) - n * (t * lm) := by rw [Int.mul_sub, Int.mul_left_comm n 1000000 lx]
  have e3 : 1000000 * (x + n * lx) = 1000000 * x + 1000000 * (n * lx) := Int.mul_add ..
  omega
/-- The margins of a pile, without bounds. -/
def marEx (p : Recipe) (x : Pile) : Mar := ⟨x.mass - p.mass.lo, p.mass.hi - x.mass, p.target.a.hi * x.mass - 1000000 * x.con.a.hi, 1000000 * x.con.a.lo - p.target.a.lo * x.mass, p.target.b.hi * x.mass - 1000000 * x.con.b.hi, 1000000 * x.con.b.lo - p.target.b.lo * x.mass, p.target.c.hi * x.mass - 1000000 * x.con.c.hi, 1000000 * x.con.c.lo - p.target.c.lo * x.mass⟩
theorem ex_pile {p : Recipe} {c : List Int} (h : checkE p = 0) {j : Nat} (hj : j < 8) : ∀ k, k ≤ p.lots.length → okTo p.lots c k = true → exM p j c k = (marEx p (weighTo p.lots c k)).get j
  | 0, _, _ => by
    obtain ⟨hm, _⟩ := check_rest h
    have e : wrap64 (-p.mass.lo) = -p.mass.lo := wrap_id (by omega)
    rcases j8 hj with rfl | rfl | rfl | rfl | rfl | rfl | rfl | rfl <;> simp [exM, baseM, Mar.get, Mar.list, e, marEx, weighTo, Pile.zero, Bnds.zero, Rng.zero]
  | k + 1, hk, hok => by
    have hl := check_len h
    have ih := ex_pile (c := c) h hj k (by omega) (okTo_mono p.lots c (by omega) hok)
    have e := weigh_ex h (show k < 6 by omega) hok
    rw [exM, ih, one_val h (by omega)]
    rcases j8 hj with rfl | rfl | rfl | rfl | rfl | rfl | rfl | rfl <;> simp only [Mar.get, Mar.list, marEx, oneEx] <;> simp only [List.getD_cons_zero, List.getD_cons_succ]
    · rw [e.m]; omega
    · rw [e.m, Int.mul_neg]; omega
    · rw [e.m, e.ah]; exact lin_hi
    · rw [e.m, e.al]; exact lin_lo
    · rw [e.m, e.bh]; exact lin_hi
    · rw [e.m, e.bl]; exact lin_lo
    · rw [e.m, e.ch]; exact lin_hi
    · rw [e.m, e.cl]; exact lin_lo
theorem true_marEx {p : Recipe} {x : Pile} : TruePile p x ↔ ∀ j, j < 8 → 0 ≤ (marEx p x).get j := by
  constructor
  · intro t j hj
    obtain ⟨t0, t1, t2, t3, t4, t5, t6, t7⟩ := t
    rcases j8 hj with rfl | rfl | rfl | rfl | rfl | rfl | rfl | rfl <;> simp only [Mar.get, Mar.list, marEx] <;> simp only [List.getD_cons_zero, List.getD_cons_succ] <;> omega
  · intro t
    have t0 := t 0 (by omega); have t1 := t 1 (by omega); have t2 := t 2 (by omega); have t3 := t 3 (by omega)
    have t4 := t 4 (by omega); have t5 := t 5 (by omega); have t6 := t 6 (by omega); have t7 := t 7 (by omega)
    simp only [Mar.get, Mar.list, marEx, List.getD_cons_zero, List.getD_cons_succ] at t0 t1 t2 t3 t4 t5 t6 t7
    constructor <;> omega
/-- A charge meets a recipe if its pile does. -/
theorem meets_pile {p : Recipe} {c : List Int} (h : checkE p = 0) (hc : isChargeB p.lots c = true) : Meets p c ↔ TruePile p (weighM p.lots c) := by
  have hl := isCharge_len hc
  rw [true_marEx, weighM]
  constructor
  · intro m j hj
    rw [hl, ← ex_pile h hj _ (Nat.le_refl _) (by rw [← hl]; exact isCharge_ok hc)]; exact m j hj
  · intro m j hj
    rw [ex_pile h hj _ (Nat.le_refl _) (by rw [← hl]; exact isCharge_ok hc), ← hl]; exact m j hj
theorem broken_neg (m : Mar) (h : brokenM m < 0) : brokenM m = -1 := by
  obtain ⟨a, b, c, d, e, f, g, i⟩ := m
  simp only [brokenM, Mar.list, idxOf] at h ⊢
  by_cases h0 : a < 0
  · simp [h0] at h
  by_cases h1 : b < 0
  · simp [h0, h1] at h
  by_cases h2 : c < 0
  · simp [h0, h1, h2] at h
  by_cases h3 : d < 0
  · simp [h0, h1, h2, h3] at h
  by_cases h4 : e < 0
  · simp [h0, h1, h2, h3, h4] at h
  by_cases h5 : f < 0
  · simp [h0, h1, h2, h3, h4, h5] at h
  by_cases h6 : g < 0
  · simp [h0, h1, h2, h3, h4, h5, h6] at h
  by_cases h7 : i < 0
  · simp [h0, h1, h2, h3, h4, h5, h6, h7] at h
  · simp [h0, h1, h2, h3, h4, h5, h6, h7]
/-- What Fits answers. -/
theorem fits_pile {p : Recipe} {c : List Int} (h : checkE p = 0) (hc : isChargeB p.lots c = true) : fitsK p c = -1 ↔ TruePile p (weighM p.lots c) := by
  rw [fits_law h hc, fits_is h (weigh_bd h hc)]
  obtain ⟨h0, h1, h2, h3, h4, h5, h6, h7⟩ := true_mar h (weigh_bd h hc)
  have b := weigh_bd h hc
  generalize weighM p.lots c = x at *
  have e : brokenM (marM p x) = -1 ↔ ∀ j, j < 8 → 0 ≤ (marM p x).get j := by
    rcases broken_get (marM p x) with g | ⟨k, g1, g2, g3⟩
    · constructor
      · intro _; exact g.2
      · intro _
        exact broken_neg _ g.1
    · constructor
      · intro e; omega
      · intro e; have := e k g2; omega
  rw [e]
  obtain ⟨hm, ht⟩ := check_rest h
  obtain ⟨⟨a1, a2, a3⟩, ⟨b1, b2, b3⟩, ⟨c1, c2, c3⟩⟩ := bounds_are ht
  obtain ⟨bm, bal, bah, bbl, bbh, bcl, bch⟩ := b
  have W : ∀ t c : Int, 0 ≤ t → t ≤ 100000000 → 0 ≤ c → c ≤ 600000000000 → IntKind.i64.wrap (1000000 * c) = 1000000 * c ∧ IntKind.i64.wrap (t * x.mass) = t * x.mass := fun t c g1 g2 g3 g4 => by
    have := mul_bd g1 g2 bm.1 bm.2
    exact ⟨wrapK_id (by omega), wrapK_id (by omega)⟩
  have k : ∀ j, j < 8 → (0 ≤ (marM p x).get j ↔ 0 ≤ (marEx p x).get j) := by
    have q0 := (W p.target.a.hi x.con.a.hi (by omega) (by omega) (by omega) (by omega))
    have q1 := (W p.target.a.lo x.con.a.lo (by omega) (by omega) (by omega) (by omega))
    have q2 := (W p.target.b.hi x.con.b.hi (by omega) (by omega) (by omega) (by omega))
    have q3 := (W p.target.b.lo x.con.b.lo (by omega) (by omega) (by omega) (by omega))
    have q4 := (W p.target.c.hi x.con.c.hi (by omega) (by omega) (by omega) (by omega))
    have q5 := (W p.target.c.lo x.con.c.lo (by omega) (by omega) (by omega) (by omega))
    simp only [trueB, trueL, List.getD_cons_zero, List.getD_cons_succ, q0, q1, q2, q3, q4, q5] at h0 h1 h2 h3 h4 h5 h6 h7
    rw [Bool.eq_iff_iff] at h0 h1 h2 h3 h4 h5 h6 h7
    simp only [Bool.not_eq_true', decide_eq_true_eq, decide_eq_false_iff_not, Int.not_lt] at h0 h1 h2 h3 h4 h5 h6 h7
    intro j hj
    rcases j8 hj with rfl | rfl | rfl | rfl | rfl | rfl | rfl | rfl <;> simp only [Mar.get, Mar.list, marEx] <;> simp only [List.getD_cons_zero, List.getD_cons_succ] <;> omega
  rw [true_marEx]
  exact ⟨fun g j hj => (k j hj).1 (g j hj), fun g j hj => (k j hj).2 (g j hj)⟩

/-- The cheapest charge: it is one that meets the recipe, and none that does costs less. -/
theorem best_step (lots : List Lot) : ∀ (l : List (List Int × Mar)) (st s : Option (List Int × Int)), l.foldl (bestStep lots) st = s →
    (∀ y, s = some y → (st = some y ∨ ∃ x ∈ l, y = (x.1, costM lots x.1) ∧ brokenM x.2 < 0)) ∧ (∀ y, s = some y → (∀ z, st = some z → y.2 ≤ z.2) ∧ ∀ x ∈ l, brokenM x.2 < 0 → y.2 ≤ costM lots x.1)
  | [], st, s, e => by
    subst e
    exact ⟨fun y h => .inl h, fun y h => ⟨fun z h2 => by rw [List.foldl_nil, h2] at h; cases h; exact Int.le_refl _, fun x hx => absurd hx (by simp)⟩⟩
  | x :: l, st, s, e => by
    rw [List.foldl_cons] at e
    obtain ⟨h1, h2⟩ := best_step lots l _ s e
    have key : ∀ y, bestStep lots st x = some y → (st = some y ∨ (y = (x.1, costM lots x.1) ∧ brokenM x.2 < 0)) ∧ (∀ z, st = some z → y.2 ≤ z.2) ∧ (brokenM x.2 < 0 → y.2 ≤ costM lots x.1) := by
      intro y hy
      cases st with
      | none =>
        by_cases hb : brokenM x.2 < 0
        · simp only [bestStep, if_pos hb, Option.some.injEq] at hy
          subst hy
          exact ⟨.inr ⟨rfl, hb⟩, fun z hz => (by cases hz), fun _ => Int.le_refl _⟩
        · simp [bestStep, hb] at hy
      | some t =>
        by_cases hb : brokenM x.2 < 0
        · by_cases hc : costM lots x.1 < t.2
          · simp only [bestStep, if_pos hb, if_pos hc, Option.some.injEq] at hy
            subst hy
            exact ⟨.inr ⟨rfl, hb⟩, fun z hz => by cases hz; simp only; omega, fun _ => Int.le_refl _⟩
          · simp only [bestStep, if_pos hb, if_neg hc, Option.some.injEq] at hy
            subst hy
            exact ⟨.inl rfl, fun z hz => by cases hz; omega, fun _ => by omega⟩
        · simp only [bestStep, if_neg hb, Option.some.injEq] at hy
          subst hy
          exact ⟨.inl rfl, fun z hz => by cases hz; omega, fun h => absurd h hb⟩
    have some_stays : ∀ z, bestStep lots st x = some z → ∀ y, s = some y → y.2 ≤ z.2 := fun z hz y hy => (h2 y hy).1 z hz
    refine ⟨fun y hy => ?_, fun y hy => ⟨fun z hz => ?_, fun u hu hb => ?_⟩⟩
    · rcases h1 y hy with g | ⟨u, hu, g1, g2⟩
      · rcases (key y g).1 with g | ⟨g1, g2⟩
        · exact .inl g
        · exact .inr ⟨x, by simp, g1, g2⟩
      · exact .inr ⟨u, by simp [hu], g1, g2⟩
    · obtain ⟨t, ht⟩ : ∃ t, bestStep lots st x = some t := by
        subst hz; simp only [bestStep]; split
        · split <;> exact ⟨_, rfl⟩
        · exact ⟨_, rfl⟩
      have a := some_stays t ht y hy
      have b := (key t ht).2.1 z hz
      omega
    · rcases List.mem_cons.1 hu with rfl | hu
      · obtain ⟨t, ht⟩ : ∃ t, bestStep lots st u = some t := by
          cases st <;> simp only [bestStep, if_pos hb]
          · exact ⟨_, rfl⟩
          · split <;> exact ⟨_, rfl⟩
        have a := some_stays t ht y hy
        have b := (key t ht).2.2 hb
        omega
      · exact (h2 y hy).2 u hu hb
theorem isCharge_of {p : Recipe} {c : List Int} (hl : c.length = p.lots.length) (hc : IsCh p p.lots.length c) : isChargeB p.lots c = true := by
  have : ∀ k, k ≤ p.lots.length → okTo p.lots c k = true := by
    intro k
    induction k with
    | zero => intro _; rfl
    | succ k ih =>
      intro hk
      have h1 := hc k (by omega)
      rw [okTo]
      simp only [ih (by omega), withinB, Bool.true_and, Bool.and_eq_true, decide_eq_true_eq]
      omega
  unfold isChargeB
  rw [hl, this _ (Nat.le_refl _)]; simp
theorem isCh_of {p : Recipe} {c : List Int} (hc : isChargeB p.lots c = true) : c.length = p.lots.length ∧ IsCh p p.lots.length c := by
  have hl := isCharge_len hc
  exact ⟨hl, fun i hi => (okTo_at (isCharge_ok hc) (by omega)).2⟩
/-- The cheapest charge is a charge that meets the recipe. -/
theorem best_is {p : Recipe} (h : checkE p = 0) {s : List Int × Int} (hs : bestOf p.lots (allCharges p) = some s) : isChargeB p.lots s.1 = true ∧ Meets p s.1 ∧ s.2 = costM p.lots s.1 := by
  rcases (best_step p.lots (allCharges p) none _ hs).1 s rfl with g | ⟨x, hx, g1, g2⟩
  · cases g
  · obtain ⟨a, b, c⟩ := all_sound h x hx
    subst g1
    exact ⟨isCharge_of a b, (meets_iff c).1 g2, rfl⟩
/-- None costs less. -/
theorem best_min {p : Recipe} (h : checkE p = 0) {s : List Int × Int} (hs : bestOf p.lots (allCharges p) = some s) {c : List Int} (hc : isChargeB p.lots c = true) (hm : Meets p c) : s.2 ≤ costM p.lots c := by
  obtain ⟨a, b⟩ := isCh_of hc
  obtain ⟨m, hx⟩ := all_complete h a b
  have h3 := (all_sound h _ hx).2.2
  exact ((best_step p.lots (allCharges p) none _ hs).2 s rfl).2 _ hx ((meets_iff h3).2 hm)
/-- Where a charge meets the recipe there is a cheapest one. -/
theorem best_of_meets {p : Recipe} (h : checkE p = 0) {c : List Int} (hc : isChargeB p.lots c = true) (hm : Meets p c) : (bestOf p.lots (allCharges p)).isSome = true := by
  obtain ⟨a, b⟩ := isCh_of hc
  obtain ⟨m, hx⟩ := all_complete h a b
  have h3 := (all_sound h _ hx).2.2
  rw [bestOf, best_some]
  exact .inr ⟨_, hx, (meets_iff h3).2 hm⟩
end Go.Proofs.Ytojnpaenpaobcaa
