/- The plain laws of Best, Refute and Refutes: either a charge meets a recipe, or a proof is found and accepted. No condition. -/
import Derived.Test.YtojnpaenpaobcaaC28
import Derived.Test.YtojnpaenpaobcaaE1
namespace Go.Proofs.Ytojnpaenpaobcaa
open Go.RowKit

/-- The margin with number j. -/
def Mar.get (m : Mar) (j : Nat) : Int := m.list.getD j 0
theorem j8 {j : Nat} (h : j < 8) : j = 0 ∨ j = 1 ∨ j = 2 ∨ j = 3 ∨ j = 4 ∨ j = 5 ∨ j = 6 ∨ j = 7 := by omega
theorem plus_get (a b : Mar) (n : Int) {j : Nat} (h : j < 8) : (plusM a b n).get j = wrap64 (a.get j + wrap64 (n * b.get j)) := by
  rcases j8 h with rfl | rfl | rfl | rfl | rfl | rfl | rfl | rfl <;> rfl
theorem box_get (m o : Mar) (lo hi : Int) {j : Nat} (h : j < 8) : (addBox m o lo hi).get j = wrap64 (m.get j + mx (wrap64 (o.get j * lo)) (wrap64 (o.get j * hi))) := by
  rcases j8 h with rfl | rfl | rfl | rfl | rfl | rfl | rfl | rfl <;> rfl
theorem at_get (m : Mar) (j : Nat) : m.at' (j : Int) = m.get j := by simp [Mar.at', Mar.get]
theorem broken_get (m : Mar) : (brokenM m < 0 ∧ ∀ j, j < 8 → 0 ≤ m.get j) ∨ (∃ j : Nat, brokenM m = (j : Int) ∧ j < 8 ∧ m.get j < 0) := by
  obtain ⟨a, b, c, d, e, f, g, h⟩ := m
  simp only [brokenM, Mar.list, idxOf]
  by_cases h0 : a < 0
  · exact .inr ⟨0, by simp [h0], by omega, h0⟩
  by_cases h1 : b < 0
  · exact .inr ⟨1, by simp [h0, h1], by omega, h1⟩
  by_cases h2 : c < 0
  · exact .inr ⟨2, by simp [h0, h1, h2], by omega, h2⟩
  by_cases h3 : d < 0
  · exact .inr ⟨3, by simp [h0, h1, h2, h3], by omega, h3⟩
  by_cases h4 : e < 0
  · exact .inr ⟨4, by simp [h0, h1, h2, h3, h4], by omega, h4⟩
  by_cases h5 : f < 0
  · exact .inr ⟨5, by simp [h0, h1, h2, h3, h4, h5], by omega, h5⟩
  by_cases h6 : g < 0
  · exact .inr ⟨6, by simp [h0, h1, h2, h3, h4, h5, h6], by omega, h6⟩
  by_cases h7 : h < 0
  · exact .inr ⟨7, by simp [h0, h1, h2, h3, h4, h5, h6, h7], by omega, h7⟩
  · refine .inl ⟨by simp [h0, h1, h2, h3, h4, h5, h6, h7], fun j hj => ?_⟩
    rcases j8 hj with rfl | rfl | rfl | rfl | rfl | rfl | rfl | rfl <;> simp only [Mar.get, Mar.list] <;> simp <;> omega

/-- The margins of the first k lots of a charge, reckoned without bounds. -/
def exM (p : Recipe) (j : Nat) (c : List Int) : Nat → Int
  | 0 => (baseM p).get j
  | k + 1 => exM p j c k + nth c 0 k * (nth (onesM p) .zero k).get j
/-- The greatest margins of a box, reckoned without bounds. -/
def exG (p : Recipe) (j : Nat) (lows highs : List Int) : Nat → Int
  | 0 => (baseM p).get j
  | k + 1 => exG p j lows highs k + mx ((nth (onesM p) .zero k).get j * nth lows 0 k) ((nth (onesM p) .zero k).get j * nth highs 0 k)
theorem base_bd {p : Recipe} (h : checkE p = 0) {j : Nat} (hj : j < 8) : -1000000000 ≤ (baseM p).get j ∧ (baseM p).get j ≤ 1000000000 := by
  obtain ⟨hm, _⟩ := check_rest h
  have e : wrap64 (-p.mass.lo) = -p.mass.lo := wrap_id (by omega)
  rcases j8 hj with rfl | rfl | rfl | rfl | rfl | rfl | rfl | rfl <;> simp only [baseM, Mar.get, Mar.list, e] <;> simp <;> omega
theorem one_bd {p : Recipe} (h : checkE p = 0) {k : Nat} (hk : k < p.lots.length) {j : Nat} (hj : j < 8) : -200000000000000 ≤ (nth (onesM p) .zero k).get j ∧ (nth (onesM p) .zero k).get j ≤ 200000000000000 := by
  obtain ⟨_, ht⟩ := check_rest h
  obtain ⟨⟨a1, a2, a3⟩, ⟨b1, b2, b3⟩, ⟨c1, c2, c3⟩⟩ := bounds_are ht
  have e0 : nth (onesM p) .zero k = oneM p p.lots[k] := by rw [← nth_eq (onesM p) .zero k (by simpa [onesM] using hk)]; simp [onesM]
  obtain ⟨_, hm, hb, _⟩ := isLot_is (check_lot h _ (List.getElem_mem hk))
  generalize p.lots[k] = l at *
  obtain ⟨⟨d1, d2, d3⟩, ⟨f1, f2, f3⟩, ⟨g1, g2, g3⟩⟩ := bounds_are hb
  have w1 : ∀ n : Int, 0 ≤ n → n ≤ 100000000 → wrap64 (0 + wrap64 (1 * n)) = n := fun n h1 h2 => by rw [Int.one_mul, wrap_id (n := n) (by omega), wrap_id (by omega)]; omega
  have e1 : addPile .zero l 1 = ⟨l.mass, l.con⟩ := by
    obtain ⟨lc, lm, ⟨⟨x1, x2⟩, ⟨y1, y2⟩, ⟨z1, z2⟩⟩, lk⟩ := l
    simp only at *
    simp only [addPile, Pile.zero, Bnds.zero, Rng.zero]
    rw [w1 lm (by omega) (by omega), w1 x1 (by omega) (by omega), w1 x2 (by omega) (by omega), w1 y1 (by omega) (by omega), w1 y2 (by omega) (by omega), w1 z1 (by omega) (by omega), w1 z2 (by omega) (by omega)]
  rw [e0, oneM, e1]
  have mb : ∀ t : Int, 0 ≤ t → t ≤ 100000000 → 0 ≤ t * l.mass ∧ t * l.mass ≤ 100000000000000 := fun t h1 h2 => by
    have := mul_bd h1 h2 (show 0 ≤ l.mass by omega) hm.2; omega
  have wm : ∀ t : Int, 0 ≤ t → t ≤ 100000000 → wrap64 (t * l.mass) = t * l.mass := fun t h1 h2 => by have := mb t h1 h2; exact wrap_id (by omega)
  have wc : ∀ t : Int, 0 ≤ t → t ≤ 100000000 → wrap64 (1000000 * t) = 1000000 * t := fun t h1 h2 => wrap_id (by omega)
  have A1 := mb p.target.a.lo (by omega) (by omega); have A2 := mb p.target.a.hi (by omega) (by omega)
  have B1 := mb p.target.b.lo (by omega) (by omega); have B2 := mb p.target.b.hi (by omega) (by omega)
  have C1 := mb p.target.c.lo (by omega) (by omega); have C2 := mb p.target.c.hi (by omega) (by omega)
  rcases j8 hj with rfl | rfl | rfl | rfl | rfl | rfl | rfl | rfl <;> simp only [ofM, Mar.get, Mar.list] <;> simp
  · omega
  · rw [wrap_id (by omega)]; omega
  · rw [wm p.target.a.hi (by omega) (by omega), wc l.con.a.hi (by omega) (by omega), wrap_id (by omega)]; omega
  · rw [wm p.target.a.lo (by omega) (by omega), wc l.con.a.lo (by omega) (by omega), wrap_id (by omega)]; omega
  · rw [wm p.target.b.hi (by omega) (by omega), wc l.con.b.hi (by omega) (by omega), wrap_id (by omega)]; omega
  · rw [wm p.target.b.lo (by omega) (by omega), wc l.con.b.lo (by omega) (by omega), wrap_id (by omega)]; omega
  · rw [wm p.target.c.hi (by omega) (by omega), wc l.con.c.hi (by omega) (by omega), wrap_id (by omega)]; omega
  · rw [wm p.target.c.lo (by omega) (by omega), wc l.con.c.lo (by omega) (by omega), wrap_id (by omega)]; omega
/-- A product of a number of pieces and a margin. -/
theorem prod_bd {c o : Int} (hc : 0 ≤ c ∧ c ≤ 1000) (ho : -200000000000000 ≤ o ∧ o ≤ 200000000000000) : -200000000000000000 ≤ o * c ∧ o * c ≤ 200000000000000000 := by
  have h1 : o * c ≤ 200000000000000 * c := Int.mul_le_mul_of_nonneg_right ho.2 hc.1
  have h2 : -200000000000000 * c ≤ o * c := Int.mul_le_mul_of_nonneg_right ho.1 hc.1
  omega
theorem exM_bd {p : Recipe} (h : checkE p = 0) {j : Nat} (hj : j < 8) {c : List Int} : ∀ k, k ≤ p.lots.length → (∀ i, i < k → 0 ≤ nth c 0 i ∧ nth c 0 i ≤ 1000) → -1000000000 - k * 200000000000000000 ≤ exM p j c k ∧ exM p j c k ≤ 1000000000 + k * 200000000000000000
  | 0, _, _ => by have := base_bd h hj; simp only [exM]; omega
  | k + 1, hk, hc => by
    have ih := exM_bd h hj k (by omega) (fun i hi => hc i (by omega))
    have hp := prod_bd (hc k (by omega)) (one_bd h (show k < p.lots.length by omega) hj)
    rw [Int.mul_comm] at hp
    simp only [exM]; omega
theorem exG_bd {p : Recipe} (h : checkE p = 0) {j : Nat} (hj : j < 8) {lows highs : List Int} : ∀ k, k ≤ p.lots.length → (∀ i, i < k → 0 ≤ nth lows 0 i ∧ nth lows 0 i ≤ nth highs 0 i ∧ nth highs 0 i ≤ 1000) → -1000000000 - k * 200000000000000000 ≤ exG p j lows highs k ∧ exG p j lows highs k ≤ 1000000000 + k * 200000000000000000
  | 0, _, _ => by have := base_bd h hj; simp only [exG]; omega
  | k + 1, hk, hc => by
    have ih := exG_bd h hj k (by omega) (fun i hi => hc i (by omega))
    have hk' := hc k (by omega)
    have h1 := prod_bd (c := nth lows 0 k) (by omega) (one_bd h (show k < p.lots.length by omega) hj)
    have h2 := prod_bd (c := nth highs 0 k) (by omega) (one_bd h (show k < p.lots.length by omega) hj)
    simp only [exG, mx]; split <;> omega
/-- The greatest margins as the code reckons them are the true ones. -/
theorem great_ex {p : Recipe} (h : checkE p = 0) {j : Nat} (hj : j < 8) {lows highs : List Int} : ∀ k, k ≤ p.lots.length → (∀ i, i < k → 0 ≤ nth lows 0 i ∧ nth lows 0 i ≤ nth highs 0 i ∧ nth highs 0 i ≤ 1000) → (greatTo p (onesM p) lows highs k).get j = exG p j lows highs k
  | 0, _, _ => rfl
  | k + 1, hk, hc => by
    have hl := check_len h
    have ih := great_ex h hj k (by omega) (fun i hi => hc i (by omega))
    have hk' := hc k (by omega)
    have h1 := prod_bd (c := nth lows 0 k) (by omega) (one_bd h (show k < p.lots.length by omega) hj)
    have h2 := prod_bd (c := nth highs 0 k) (by omega) (one_bd h (show k < p.lots.length by omega) hj)
    have hb := exG_bd h hj (lows := lows) (highs := highs) k (by omega) (fun i hi => hc i (by omega))
    have hk6 : (k : Int) ≤ 5 := by omega
    rw [greatTo, box_get _ _ _ _ hj, ih, wrap_id (n := _ * nth lows 0 k) (by omega), wrap_id (n := _ * nth highs 0 k) (by omega), exG]
    exact wrap_id (by simp only [mx]; split <;> omega)
/-- A charge of a box. -/
def InBox (n : Nat) (lows highs c : List Int) : Prop := ∀ i, i < n → nth lows 0 i ≤ nth c 0 i ∧ nth c 0 i ≤ nth highs 0 i
/-- A charge meets a recipe. -/
def Meets (p : Recipe) (c : List Int) : Prop := ∀ j, j < 8 → 0 ≤ exM p j c p.lots.length
theorem le_mx_mul {o lo c hi : Int} (h1 : lo ≤ c) (h2 : c ≤ hi) : c * o ≤ mx (o * lo) (o * hi) := by
  rw [Int.mul_comm c o]
  unfold mx
  rcases Int.le_total 0 o with h | h
  · have := Int.mul_le_mul_of_nonneg_left h2 h; split <;> omega
  · have := Int.mul_le_mul_of_nonpos_left h h1; split <;> omega
theorem ex_le {p : Recipe} {j : Nat} {lows highs c : List Int} : ∀ k, InBox k lows highs c → exM p j c k ≤ exG p j lows highs k
  | 0, _ => Int.le_refl _
  | k + 1, h => by
    have ih := ex_le (p := p) (j := j) k (fun i hi => h i (by omega))
    have hk := h k (by omega)
    have := le_mx_mul (o := (nth (onesM p) .zero k).get j) hk.1 hk.2
    simp only [exM, exG]; omega
theorem ex_eq {p : Recipe} {j : Nat} {lows highs : List Int} : ∀ k, (∀ i, i < k → nth lows 0 i = nth highs 0 i) → exM p j lows k = exG p j lows highs k
  | 0, _ => rfl
  | k + 1, h => by
    have ih := ex_eq (p := p) (j := j) k (fun i hi => h i (by omega))
    have hk := h k (by omega)
    simp only [exM, exG, ih, ← hk, mx, Int.mul_comm]; simp

theorem great_at {p : Recipe} (h : checkE p = 0) {j : Nat} (hj : j < 8) {lows highs : List Int} (hl : lows.length = p.lots.length) (hb : BoxOk lows highs) : (greatM p (onesM p) lows highs).get j = exG p j lows highs p.lots.length := by
  unfold greatM
  rw [onesM_len]
  exact great_ex h hj _ (Nat.le_refl _) (fun i hi => hb i (by omega))

theorem at_nth {x : Int} (h : 0 ≤ x) : ((x.toNat : Nat) : Int) = x := by omega
/-- What is accepted is a proof: no charge of the box meets the recipe. -/
theorem accept_sound {p : Recipe} (h : checkE p = 0) : ∀ (n : Nat) (lows highs : List Int) (l : List Split), lows.length = p.lots.length → highs.length = p.lots.length → BoxOk lows highs →
    (acceptM p (onesM p) n lows highs l).2 = true → ∀ c, InBox p.lots.length lows highs c → ¬ Meets p c := by
  intro n
  induction n with
  | zero => intro lows highs l _ _ _ ha; simp [acceptM] at ha
  | succ n ih =>
    intro lows highs l hl hh hb ha c hc hm
    cases l with
    | nil => simp [acceptM] at ha
    | cons x rest =>
      rw [acceptM] at ha
      split at ha
      · simp only [Bool.and_eq_true, decide_eq_true_eq, withinB] at ha
        obtain ⟨⟨_, hr⟩, hg⟩ := ha
        have hj : x.reason.toNat < 8 := by omega
        rw [← at_nth hr.1, at_get, great_at h hj hl hb] at hg
        have h1 := ex_le (p := p) (j := x.reason.toNat) _ hc
        have h2 := hm _ hj
        omega
      · split at ha
        · rename_i hk
          simp only [Bool.and_eq_true, withinB, decide_eq_true_eq] at hk
          obtain ⟨⟨hi, _⟩, hat⟩ := hk
          have hil : x.lot.toNat < p.lots.length := by omega
          have hbi := hb x.lot.toNat (by omega)
          have hw : wrap64 (nth highs 0 x.lot.toNat - 1) = nth highs 0 x.lot.toNat - 1 := wrap_id (by omega)
          rw [hw] at hat
          have hw2 : wrap64 (x.at_ + 1) = x.at_ + 1 := wrap_id (by omega)
          rw [hw2] at ha
          have m2 : x.at_ < nth highs 0 x.lot.toNat := by omega
          have hbL := hb.left (by omega) (show x.lot.toNat < lows.length by omega) hat.1 m2
          have hbR := hb.right (show x.lot.toNat < lows.length by omega) hat.1 m2
          split at ha
          · rename_i h1
            rcases Int.lt_or_le x.at_ (nth c 0 x.lot.toNat) with hlt | hge
            · refine ih _ _ _ (by simpa using hl) hh hbR ha c (fun i hi' => ?_) hm
              rw [nth_set 0 _ lows _ i (by omega)]
              have := hc i hi'
              split
              · rename_i e; subst e; omega
              · exact this
            · refine ih _ _ _ hl (by simpa using hh) hbL h1 c (fun i hi' => ?_) hm
              rw [nth_set 0 _ highs _ i (by omega)]
              have := hc i hi'
              split
              · rename_i e; subst e; omega
              · exact this
          · cases ha
        · cases ha

theorem firstFrom_none {lows highs : List Int} : ∀ (r k : Nat), firstFrom lows highs r k = none → ∀ i, k ≤ i → i < k + r → nth lows 0 i = nth highs 0 i
  | 0, k, _, i, h1, h2 => by omega
  | r + 1, k, h, i, h1, h2 => by
    rw [firstFrom] at h
    split at h
    · rename_i he
      by_cases hi : i = k
      · subst hi; simpa using he
      · exact firstFrom_none r (k + 1) h i (by omega) (by omega)
    · cases h
/-- Where no proof is found, a charge of the box meets the recipe. -/
theorem prove_complete {p : Recipe} (h : checkE p = 0) : ∀ (n : Nat) (lows highs : List Int), lows.length = p.lots.length → highs.length = p.lots.length → BoxOk lows highs → boxN lows highs ≤ n →
    (proveM p (onesM p) n lows highs).2 = false → ∃ c, c.length = p.lots.length ∧ InBox p.lots.length lows highs c ∧ Meets p c := by
  intro n
  induction n with
  | zero => intro lows highs _ _ hb hn; exact absurd hn (by have := boxN_pos hb; omega)
  | succ n ih =>
    intro lows highs hl hh hb hn hp
    rw [proveM] at hp
    split at hp
    · cases hp
    · rename_i hbr
      split at hp
      · rename_i hf
        have heq := firstFrom_none _ _ hf
        refine ⟨lows, hl, fun i hi => ?_, fun j hj => ?_⟩
        · have := heq i (by omega) (by omega); omega
        · rw [ex_eq _ (fun i hi => heq i (by omega) (by omega)), ← great_at h hj hl hb]
          rcases broken_get (greatM p (onesM p) lows highs) with h1 | ⟨k, h1, _, _⟩
          · exact h1.2 j hj
          · omega
      · rename_i i hf
        obtain ⟨_, hi, hne⟩ := firstFrom_some _ _ _ hf
        simp only [Nat.zero_add] at hi
        obtain ⟨m1, m2, m3⟩ := midOf_in hb hi hne
        have e := boxN_cut i _ (by omega) hi m1 m2
        have hbL := hb.left (by omega) hi m1 m2
        have hbR := hb.right hi m1 m2
        have p1 := boxN_pos hbL
        have p2 := boxN_pos hbR
        have hbi := hb i hi
        rw [m3] at hp
        split at hp
        · obtain ⟨c, c1, c2, c3⟩ := ih _ _ (by simpa using hl) hh hbR (by omega) hp
          refine ⟨c, c1, fun k hk => ?_, c3⟩
          have := c2 k hk
          rw [nth_set 0 _ lows i k hi] at this
          split at this
          · rename_i e; subst e; omega
          · exact this
        · rename_i h1
          obtain ⟨c, c1, c2, c3⟩ := ih _ _ hl (by simpa using hh) hbL (by omega) (by simpa using h1)
          refine ⟨c, c1, fun k hk => ?_, c3⟩
          have := c2 k hk
          rw [nth_set 0 _ highs i k (by omega)] at this
          split at this
          · rename_i e; subst e; omega
          · exact this

/-- What is found is accepted. -/
theorem prove_accept {p : Recipe} (h : checkE p = 0) : ∀ (n : Nat) (lows highs : List Int), lows.length = p.lots.length → highs.length = p.lots.length → BoxOk lows highs →
    (proveM p (onesM p) n lows highs).2 = true → ∀ (rest : List Split) (m : Nat), (proveM p (onesM p) n lows highs).1.length ≤ m → acceptM p (onesM p) m lows highs ((proveM p (onesM p) n lows highs).1 ++ rest) = (rest, true) ∧ 0 < (proveM p (onesM p) n lows highs).1.length := by
  intro n
  induction n with
  | zero => intro lows highs _ _ _ hp; cases hp
  | succ n ih =>
    intro lows highs hl hh hb hp rest m hm
    rw [proveM] at hp hm ⊢
    by_cases hbr : 0 ≤ brokenM (greatM p (onesM p) lows highs)
    · rw [if_pos hbr] at hp hm ⊢
      obtain ⟨k, hk, hk8, hneg⟩ : ∃ j : Nat, brokenM (greatM p (onesM p) lows highs) = (j : Int) ∧ j < 8 ∧ (greatM p (onesM p) lows highs).get j < 0 := by
        rcases broken_get (greatM p (onesM p) lows highs) with h1 | h1
        · omega
        · exact h1
      cases m with
      | zero => simp at hm
      | succ m =>
        refine ⟨?_, by simp⟩
        simp only [List.cons_append, List.nil_append, acceptM]
        rw [hk, at_get]
        simp [withinB, hneg]; omega
    · rw [if_neg hbr] at hp hm ⊢
      cases hf : firstD lows highs with
      | none => rw [hf] at hp; cases hp
      | some i =>
        rw [hf] at hp hm
        simp only at hp hm ⊢
        obtain ⟨_, hi, hne⟩ := firstFrom_some _ _ _ hf
        simp only [Nat.zero_add] at hi
        obtain ⟨m1, m2, m3⟩ := midOf_in hb hi hne
        have hbL := hb.left (by omega) hi m1 m2
        have hbR := hb.right hi m1 m2
        have hbi := hb i hi
        rw [m3] at hp hm ⊢
        by_cases h1 : (proveM p (onesM p) n lows (highs.set i (midOf lows highs i))).2 = true
        · rw [if_pos h1] at hp hm ⊢
          simp only at hp hm ⊢
          cases m with
          | zero => simp at hm
          | succ m =>
            simp only [List.length_cons, List.length_append] at hm
            have a1 := ih lows _ hl (by simpa using hh) hbL h1 ((proveM p (onesM p) n (lows.set i (midOf lows highs i + 1)) highs).1 ++ rest) m (by omega)
            have a2 := ih _ highs (by simpa using hl) hh hbR hp rest m (by omega)
            refine ⟨?_, by simp⟩
            have hw : wrap64 (nth highs 0 i - 1) = nth highs 0 i - 1 := wrap_id (by omega)
            have c1 : (((i : Int)) == -1) = false := by rw [beq_eq_false_iff_ne]; omega
            have c2 : withinB (i : Int) 0 (p.lots.length - 1) = true := by simp [withinB]; omega
            have c3 : withinB (midOf lows highs i) (nth lows 0 i) (nth highs 0 i - 1) = true := by simp [withinB]; omega
            rw [List.cons_append, acceptM]
            simp only [c1, Bool.false_eq_true, if_false, Int.toNat_natCast, c2, hw, c3, List.append_assoc, a1.1, m3, a2.1]
            simp
        · rw [if_neg h1] at hp; cases hp
/-- A charge, and its numbers. -/
def IsCh (p : Recipe) (k : Nat) (c : List Int) : Prop := ∀ i, i < k → 0 ≤ nth c 0 i ∧ nth c 0 i ≤ (nth p.lots .zero i).count
theorem nth_append {α : Type} (d : α) (xs : List α) (y : α) (i : Nat) (h : i < xs.length) : nth (xs ++ [y]) d i = nth xs d i := by
  unfold nth; simp [List.getD, List.getElem?_append_left h]
theorem nth_append_last {α : Type} (d : α) (xs : List α) (y : α) : nth (xs ++ [y]) d xs.length = y := by
  unfold nth; simp [List.getD]
theorem exM_congr {p : Recipe} {j : Nat} {c c' : List Int} : ∀ k, (∀ i, i < k → nth c 0 i = nth c' 0 i) → exM p j c k = exM p j c' k
  | 0, _ => rfl
  | k + 1, h => by rw [exM, exM, exM_congr k (fun i hi => h i (by omega)), h k (by omega)]
theorem count_le {p : Recipe} (h : checkE p = 0) {i : Nat} (hi : i < p.lots.length) : 0 ≤ (nth p.lots .zero i).count ∧ (nth p.lots .zero i).count ≤ 1000 := by
  rw [← nth_eq p.lots .zero i hi]; exact isLot_count (check_lot h _ (List.getElem_mem hi))
/-- Margins that are reckoned piece by piece are the true ones. -/
theorem plus_ex {p : Recipe} (h : checkE p = 0) {c : List Int} {m : Mar} {n : Nat} (hk : c.length < p.lots.length) (hc : IsCh p c.length c) (hn : (n : Int) ≤ (nth p.lots .zero c.length).count) (hm : ∀ j, j < 8 → m.get j = exM p j c c.length) :
    ∀ j, j < 8 → (plusM m (nth (onesM p) .zero c.length) (n : Int)).get j = exM p j (c ++ [(n : Int)]) (c.length + 1) := by
  intro j hj
  have hl := check_len h
  have hcn := count_le h hk
  have hb := exM_bd h hj (c := c) c.length (by omega) (fun i hi => by have := hc i hi; have := count_le h (show i < p.lots.length by omega); omega)
  have hp := prod_bd (c := (n : Int)) (by omega) (one_bd h hk hj)
  have hk6 : (c.length : Int) ≤ 5 := by omega
  rw [plus_get _ _ _ hj, hm j hj, Int.mul_comm (n : Int), wrap_id (n := _ * (n : Int)) (by omega), wrap_id (by omega), exM, nth_append_last, exM_congr (c := c ++ [(n : Int)]) (c' := c) _ (fun i hi => nth_append 0 c _ i hi), Int.mul_comm (n : Int)]
theorem charges_sound {p : Recipe} (h : checkE p = 0) : ∀ (r : Nat) (c : List Int) (m : Mar), c.length + r = p.lots.length → IsCh p c.length c → (∀ j, j < 8 → m.get j = exM p j c c.length) →
    ∀ x ∈ chargesR p (onesM p) r c m, x.1.length = p.lots.length ∧ IsCh p p.lots.length x.1 ∧ ∀ j, j < 8 → x.2.get j = exM p j x.1 p.lots.length := by
  intro r
  induction r with
  | zero =>
    intro c m hl hc hm x hx
    simp only [chargesR, List.mem_singleton] at hx
    subst hx
    have e : c.length = p.lots.length := by omega
    rw [e] at hc hm
    exact ⟨e, hc, hm⟩
  | succ r ih =>
    intro c m hl hc hm x hx
    have hk : c.length < p.lots.length := by omega
    have hcn := count_le h hk
    simp only [chargesR, List.mem_flatMap, List.mem_range] at hx
    obtain ⟨n, hn, hx⟩ := hx
    have hn' : (n : Int) ≤ (nth p.lots .zero c.length).count := by omega
    refine ih (c ++ [(n : Int)]) _ (by simp; omega) (fun i hi => ?_) (fun j hj => ?_) x hx
    · simp only [List.length_append, List.length_cons, List.length_nil] at hi
      by_cases hi2 : i < c.length
      · rw [nth_append 0 c _ i hi2]; exact hc i hi2
      · obtain rfl : i = c.length := by omega
        rw [nth_append_last]; omega
    · rw [plus_ex h hk hc hn' hm j hj]; simp
theorem charges_complete {p : Recipe} (h : checkE p = 0) : ∀ (r : Nat) (c : List Int) (m : Mar), c.length + r = p.lots.length → ∀ c', c'.length = p.lots.length → IsCh p p.lots.length c' → c'.take c.length = c → ∃ m', (c', m') ∈ chargesR p (onesM p) r c m := by
  intro r
  induction r with
  | zero =>
    intro c m hl c' hl' _ ht
    have : c' = c := by rw [← ht, List.take_of_length_le (by omega)]
    exact ⟨m, by simp [chargesR, this]⟩
  | succ r ih =>
    intro c m hl c' hl' hc' ht
    have hk : c.length < p.lots.length := by omega
    have hck := hc' c.length hk
    obtain ⟨n, hn⟩ : ∃ n : Nat, nth c' 0 c.length = (n : Int) := ⟨(nth c' 0 c.length).toNat, by omega⟩
    have ht2 : c'.take (c.length + 1) = c ++ [(n : Int)] := by
      rw [List.take_succ_eq_append_getElem (show c.length < c'.length by omega), ht, nth_eq c' 0 c.length (by omega), hn]
    obtain ⟨m', hm'⟩ := ih (c ++ [(n : Int)]) (plusM m (nth (onesM p) .zero c.length) n) (by simp; omega) c' hl' hc' (by simpa using ht2)
    refine ⟨m', ?_⟩
    simp only [chargesR, List.mem_flatMap, List.mem_range]
    exact ⟨n, by omega, hm'⟩
theorem all_sound {p : Recipe} (h : checkE p = 0) : ∀ x ∈ allCharges p, x.1.length = p.lots.length ∧ IsCh p p.lots.length x.1 ∧ ∀ j, j < 8 → x.2.get j = exM p j x.1 p.lots.length :=
  charges_sound h p.lots.length [] (baseM p) (by simp) (fun i hi => absurd hi (by simp)) (fun j hj => rfl)
theorem all_complete {p : Recipe} (h : checkE p = 0) {c : List Int} (hl : c.length = p.lots.length) (hc : IsCh p p.lots.length c) : ∃ m, (c, m) ∈ allCharges p :=
  charges_complete h p.lots.length [] (baseM p) (by simp) c hl hc rfl
theorem meets_iff {p : Recipe} {x : List Int × Mar} (hx : ∀ j, j < 8 → x.2.get j = exM p j x.1 p.lots.length) : brokenM x.2 < 0 ↔ Meets p x.1 := by
  constructor
  · intro hb j hj
    rcases broken_get x.2 with h1 | ⟨k, h1, _, _⟩
    · rw [← hx j hj]; exact h1.2 j hj
    · omega
  · intro hm
    rcases broken_get x.2 with h1 | ⟨k, _, h2, h3⟩
    · exact h1.1
    · rw [hx k h2] at h3; have := hm k h2; omega
theorem best_some (lots : List Lot) : ∀ (l : List (List Int × Mar)) (st : Option (List Int × Int)), (l.foldl (bestStep lots) st).isSome = true ↔ st.isSome = true ∨ ∃ x ∈ l, brokenM x.2 < 0
  | [], st => by simp
  | x :: l, st => by
    rw [List.foldl_cons, best_some lots l]
    cases st with
    | none =>
      by_cases hb : brokenM x.2 < 0
      · simp [bestStep, hb]
      · simp [bestStep, hb]
    | some s =>
      by_cases hb : brokenM x.2 < 0
      · by_cases hc : costM lots x.1 < s.2 <;> simp [bestStep, hb, hc]
      · simp [bestStep, hb]
theorem whole_in {p : Recipe} {c : List Int} : InBox p.lots.length (lowsM p) (highsM p) c ↔ IsCh p p.lots.length c := by
  have e1 : ∀ i, i < p.lots.length → nth (lowsM p) 0 i = 0 := fun i hi => by rw [← nth_eq (lowsM p) 0 i (by simpa [lowsM] using hi)]; simp [lowsM]
  have e2 : ∀ i, i < p.lots.length → nth (highsM p) 0 i = (nth p.lots .zero i).count := fun i hi => by rw [← nth_eq (highsM p) 0 i (by simpa [highsM] using hi), ← nth_eq p.lots .zero i hi]; simp [highsM]
  constructor
  · intro h i hi; have := h i hi; rw [e1 i hi, e2 i hi] at this; exact this
  · intro h i hi; rw [e1 i hi, e2 i hi]; exact h i hi
/-- A charge that meets the recipe: nothing is accepted. -/
theorem either_some {p : Recipe} (h : checkE p = 0) (hs : (bestOf p.lots (allCharges p)).isSome = true) : ∀ n l, (acceptM p (onesM p) n (lowsM p) (highsM p) l).2 = false := by
  rw [bestOf, best_some] at hs
  rcases hs with hs | ⟨x, hx, hb⟩
  · cases hs
  · obtain ⟨_, h2, h3⟩ := all_sound h x hx
    intro n l
    cases ha : (acceptM p (onesM p) n (lowsM p) (highsM p) l).2
    · rfl
    · exact absurd ((meets_iff h3).1 hb) (accept_sound h n _ _ l (lowsM_len p) (highsM_len p) (boxOk_whole h) ha x.1 (whole_in.2 h2))
theorem either_proof {p : Recipe} (h : checkE p = 0) (hs : (bestOf p.lots (allCharges p)).isSome = true) : (proofM p).2 = false := by
  cases hp : (proofM p).2
  · rfl
  · have a := prove_accept h (boxN (lowsM p) (highsM p)) (lowsM p) (highsM p) (lowsM_len p) (highsM_len p) (boxOk_whole h) hp [] _ (Nat.le_refl _)
    have b := either_some h hs (proveM p (onesM p) (boxN (lowsM p) (highsM p)) (lowsM p) (highsM p)).1.length ((proveM p (onesM p) (boxN (lowsM p) (highsM p)) (lowsM p) (highsM p)).1 ++ [])
    rw [a.1] at b; cases b
/-- No charge meets the recipe: a proof is found, and accepted. -/
theorem either_none {p : Recipe} (h : checkE p = 0) (hm : manyM p = false) (hs : (bestOf p.lots (allCharges p)).isSome = false) :
    (proofM p).2 = true ∧ 0 < (proofM p).1.length ∧ (proofM p).1.length < 40000 ∧ acceptM p (onesM p) (proofM p).1.length (lowsM p) (highsM p) (proofM p).1 = ([], true) := by
  have hp : (proofM p).2 = true := by
    cases hp : (proofM p).2
    · obtain ⟨c, c1, c2, c3⟩ := prove_complete h _ _ _ (lowsM_len p) (highsM_len p) (boxOk_whole h) (Nat.le_refl _) hp
      obtain ⟨m, hmem⟩ := all_complete h c1 (whole_in.1 c2)
      have h3 := (all_sound h _ hmem).2.2
      have : (bestOf p.lots (allCharges p)).isSome = true := by
        rw [bestOf, best_some]
        exact .inr ⟨_, hmem, (meets_iff h3).2 c3⟩
      rw [this] at hs; cases hs
    · rfl
  have a := prove_accept h (boxN (lowsM p) (highsM p)) (lowsM p) (highsM p) (lowsM_len p) (highsM_len p) (boxOk_whole h) hp [] _ (Nat.le_refl _)
  have b := proveM_len p (onesM p) (boxN (lowsM p) (highsM p)) (lowsM p) (highsM p) (by rw [lowsM_len, highsM_len]) (boxOk_whole h)
  have c := boxN_whole h hm
  rw [List.append_nil] at a
  exact ⟨hp, a.2, by unfold proofM; omega, a.1⟩
end Go.Proofs.Ytojnpaenpaobcaa
