/- Plain laws: the checks of chapter 3, and what a step may choose. No condition. -/
import Derived.Test.YtcbbhiobibhdnaaDoorWXM3
import Derived.Test.YtcbbhiobibhdnaaDoorWU5
import Derived.Test.YtcbbhiobibhdnaaDoorWV1
import Derived.Test.YtcbbhiobibhdnaaDoorWXM5

namespace Go.Proofs.YtcbbhiobibhdnaaDoor
namespace M3
open Go.RowKit U8
set_option maxRecDepth 100000
abbrev zS : Tst := TC.dflt (TC.pair (TC.int IntKind.u8) (TC.pair (TC.int IntKind.i64) (TC.pair (TC.pair (TC.int IntKind.i64) (TC.int IntKind.i64)) (TC.pair (TC.pair (TC.int IntKind.i64) (TC.int IntKind.i64)) (TC.pair (TC.int IntKind.i64) (TC.int IntKind.i64))))))
instance okR_dec (r : Tr) (m : Int) : Decidable (okR r m) := by unfold okR; infer_instance
instance okB_dec (b : Tb) (m : Int) : Decidable (okB b m) := by unfold okB; infer_instance
theorem drop_c {α : Type} {l : List α} {i : Nat} (h : i < l.length) (d : α) : l.drop i = nth l d i :: l.drop (i + 1) := by
  rw [List.drop_eq_getElem_cons h, nth_eq l d i h]
section
variable (F : Nat)
theorem within_eq (n a b : Int) : mWithin_S F n a b = some (decide (a ≤ n ∧ n ≤ b)) := by
  unfold mWithin_S
  by_cases h : n ≥ a
  · rw [dec_t h]
    exact congrArg some (decide_eq_decide.2 (by omega))
  · rw [dec_f h, dec_f (show ¬ (a ≤ n ∧ n ≤ b) by omega)]
    rfl
theorem isR_eq (r : Tr) (m : Int) : mIsRange_S F r m = some (decide (okR r m)) := by
  unfold mIsRange_S okR
  by_cases h : 0 ≤ r.1
  · rw [dec_t h]
    by_cases h1 : r.1 ≤ r.2
    · rw [dec_t h1]
      exact congrArg some (decide_eq_decide.2 (by omega))
    · rw [dec_f h1, dec_f (show ¬ (0 ≤ r.1 ∧ r.1 ≤ r.2 ∧ r.2 ≤ m) by omega)]
      rfl
  · rw [dec_f h, dec_f (show ¬ (0 ≤ r.1 ∧ r.1 ≤ r.2 ∧ r.2 ≤ m) by omega)]
    rfl
theorem areB_eq (b : Tb) (m : Int) : areBounds_S F b m = some (decide (okB b m)) := by
  unfold areBounds_S
  simp only [isR_eq]
  by_cases h0 : okR b.1 m <;> by_cases h1 : okR b.2.1 m <;> by_cases h2 : okR b.2.2 m <;> simp [h0, h1, h2, okB]
theorem isMelt_eq (m : Tfr) : isMelt_S F m = some (decide ((0 ≤ m.1 ∧ m.1 ≤ 1000000000) ∧ okB m.2 1000000000000)) := by
  unfold isMelt_S
  rw [within_eq, areB_eq]
  by_cases h0 : 0 ≤ m.1 ∧ m.1 ≤ 1000000000 <;> by_cases h1 : okB m.2 1000000000000 <;> simp [h0, h1]
noncomputable def stepT (M : Int) (B : Tb) (y : Int) (q : Bool) : Option Bool := (bif (M == (0 : Int)) then (ob (mWithin_S F M (1 : Int) (1000000000 : Int)) (fun r1 => (bif r1 then (ob (areBounds_S F B y) (fun r2 => (some r2))) else (bif (!q) then (ob (areBounds_S F B y) (fun r3 => (some r3))) else (some false))))) else (bif q then (ob (mWithin_S F M (1 : Int) (1000000000 : Int)) (fun r4 => (bif r4 then (ob (areBounds_S F B y) (fun r5 => (some r5))) else (bif (!q) then (ob (areBounds_S F B y) (fun r6 => (some r6))) else (some false))))) else (some false)))
theorem stepT_eq (M : Int) (B : Tb) (y : Int) (q : Bool) : ∃ c, stepT F M B y q = some c ∧ (c = true → okB B y ∧ if q then 1 ≤ M ∧ M ≤ 1000000000 else M = 0) := by
  unfold stepT
  simp only [within_eq, areB_eq]
  by_cases h0 : M = 0
  · subst h0
    cases q <;> refine ⟨_, rfl, ?_⟩ <;> simp
  · have e : (M == 0) = false := beq_eq_false_iff_ne.2 h0
    rw [e]
    cases q
    · exact ⟨_, rfl, by simp⟩
    · by_cases h1 : 1 ≤ M ∧ M ≤ 1000000000
      · rw [dec_t h1]
        exact ⟨_, rfl, by simp [h1]⟩
      · rw [dec_f h1]
        exact ⟨_, rfl, by simp⟩
theorem isStep_eq (x : Tst) (h : 0 ≤ x.1 ∧ x.1 ≤ 255) : ∃ c, isStep_S F x = some c ∧ (c = true → stOk x) := by
  obtain ⟨k, M, B⟩ := x
  have e : IntKind.wrap IntKind.i64 k = k := w64 k (by dsimp only at h; omega)
  unfold isStep_S
  simp only [e, within_eq]
  by_cases hk : 1 ≤ k ∧ k ≤ 4
  · have hk' : k = 1 ∨ k = 2 ∨ k = 3 ∨ k = 4 := by omega
    rcases hk' with rfl | rfl | rfl | rfl
    · obtain ⟨c, h1, h2⟩ := stepT_eq F M B 20000 true
      unfold stepT at h1
      simp only [within_eq, areB_eq] at h1 ⊢
      exact ⟨c, h1, fun hc => Or.inl ⟨rfl, (h2 hc).2, (h2 hc).1⟩⟩
    · obtain ⟨c, h1, h2⟩ := stepT_eq F M B 1000000000000 true
      unfold stepT at h1
      simp only [within_eq, areB_eq] at h1 ⊢
      exact ⟨c, h1, fun hc => Or.inr (Or.inl ⟨rfl, (h2 hc).2, (h2 hc).1⟩)⟩
    · obtain ⟨c, h1, h2⟩ := stepT_eq F M B 1000000000000 false
      unfold stepT at h1
      simp only [within_eq, areB_eq] at h1 ⊢
      exact ⟨c, h1, fun hc => Or.inr (Or.inr (Or.inl ⟨rfl, (h2 hc).2, (h2 hc).1⟩))⟩
    · obtain ⟨c, h1, h2⟩ := stepT_eq F M B 10000 false
      unfold stepT at h1
      simp only [within_eq, areB_eq] at h1 ⊢
      exact ⟨c, h1, fun hc => Or.inr (Or.inr (Or.inr ⟨rfl, (h2 hc).2, (h2 hc).1⟩))⟩
  · refine ⟨false, ?_, by simp⟩
    simp only [dec_f hk]
    rfl
theorem stM {x : Tst} (h : stOk x) : 0 ≤ x.2.1 ∧ x.2.1 ≤ 1000000000 := by
  rcases h with ⟨_, h, _⟩ | ⟨_, h, _⟩ | ⟨_, h, _⟩ | ⟨_, h, _⟩ <;> omega
theorem stK {x : Tst} (h : stOk x) : 1 ≤ x.1 ∧ x.1 ≤ 4 := by
  rcases h with ⟨h, _⟩ | ⟨h, _⟩ | ⟨h, _⟩ | ⟨h, _⟩ <;> omega
theorem grown_eq {x : Tst} {m : Int} (h : 0 ≤ x.2.1 ∧ x.2.1 ≤ 1000000000) (hm : 0 ≤ m ∧ m ≤ 1000000000) : grown_S F m x = some (gm m x) := by
  unfold grown_S gm
  by_cases h1 : x.1 = 1
  · rw [if_pos h1, h1, w64 _ (by omega)]
    rfl
  · rw [if_neg h1, show (x.1 == 1) = false from beq_eq_false_iff_ne.2 h1]
    by_cases h2 : x.1 = 2
    · rw [if_pos h2, h2, w64 (m + x.2.1) (by omega)]
      rfl
    · rw [if_neg h2, show (x.1 == 2) = false from beq_eq_false_iff_ne.2 h2]
      rfl
theorem chk_loop (l : List Tst) (hl : l.length ≤ 200) (hk : ∀ x ∈ l, 0 ≤ x.1 ∧ x.1 ≤ 255) : ∀ (j k i : Nat) (m : Int), i + j = l.length → j < k → 0 ≤ m ∧ m ≤ 1000000000 → ∃ v, mCheck_L0 F ((l.length - 0) : Int) l k m (i : Int) = some v ∧ (∀ g, v = .inr g → run (l.drop i) m) ∧ (∀ p, v = .inl p → p.1 ≠ 0)
  | j, 0, _, _, _, h, _ => by omega
  | 0, k + 1, i, m, h, _, _ => by
    simp only [mCheck_L0]
    rw [dec_f (show ¬ (i : Int) < (l.length - 0 : Int) by omega)]
    refine ⟨_, rfl, fun g _ => ?_, fun p hp => by cases hp⟩
    rw [List.drop_eq_nil_of_le (by omega)]
    exact trivial
  | j + 1, k + 1, i, m, h, hj, hm => by
    have hi : i < l.length := by omega
    simp only [mCheck_L0]
    rw [dec_t (show (i : Int) < (l.length - 0 : Int) by omega), show inB (i : Int) (l.length - 0) = true from inB_t hi, Int.toNat_natCast]
    rw [drop_c hi zS]
    have hx : nth l zS i ∈ l := by
      rw [← nth_eq l _ i hi]; exact List.getElem_mem hi
    generalize nth l zS i = x at hx ⊢
    obtain ⟨c, h1, h2⟩ := isStep_eq F x (hk x hx)
    rw [h1]
    cases c with
    | false => exact ⟨.inl (2, l), rfl, fun g hg => (by cases hg), fun p hp => (by cases hp; simp)⟩
    | true =>
      have hs := h2 rfl
      simp only [cond_true]
      rw [ob_some]
      simp only [Bool.not_true, cond_false]
      rw [grown_eq F (stM hs) hm, ob_some]
      by_cases h3 : gm m x < 0
      · rw [dec_t h3]
        exact ⟨.inl (31, l), rfl, fun g hg => (by cases hg), fun p hp => (by cases hp; simp)⟩
      · rw [dec_f h3]
        by_cases h4 : gm m x > 1000000000
        · rw [dec_t h4]
          exact ⟨.inl (8, l), rfl, fun g hg => (by cases hg), fun p hp => (by cases hp; simp)⟩
        · rw [dec_f h4]
          obtain ⟨v, e1, e2, e3⟩ := chk_loop l hl hk j k (i + 1) (gm m x) (by omega) (by omega) (by omega)
          refine ⟨v, ?_, fun g hg => ⟨hs, by omega, by omega, e2 g hg⟩, e3⟩
          rw [w64 _ (by omega)]
          exact e1
theorem check_eq (hF : 2000 < F) (m : Tfr) (l : List Tst) (hk : ∀ x ∈ l, 0 ≤ x.1 ∧ x.1 ≤ 255) : ∃ e, mCheck_S F m l = some e ∧ (e = 0 → l.length ≤ 200 ∧ (0 ≤ m.1 ∧ m.1 ≤ 1000000000) ∧ okB m.2 1000000000000 ∧ run l m.1) := by
  unfold mCheck_S
  rw [isMelt_eq, ob_some]
  by_cases h0 : (0 ≤ m.1 ∧ m.1 ≤ 1000000000) ∧ okB m.2 1000000000000
  · rw [dec_t h0]
    by_cases h1 : l.length ≤ 200
    · rw [dec_f (show ¬ (l.length - 0 : Int) > 200 by omega)]
      obtain ⟨v, e1, e2, e3⟩ := chk_loop F l h1 hk l.length F 0 m.1 (by omega) (by omega) h0.1
      simp only [Bool.not_true, cond_false]
      have e1' : mCheck_L0 F ((l.length - 0) : Int) l F m.1 (0 : Int) = some v := e1
      rw [e1']
      cases v with
      | inl p => exact ⟨p.1, rfl, fun h => absurd h (e3 p rfl)⟩
      | inr g => exact ⟨0, rfl, fun _ => ⟨h1, h0.1, h0.2, e2 g rfl⟩⟩
    · rw [dec_t (show (l.length - 0 : Int) > 200 by omega)]
      exact ⟨5, rfl, fun h => absurd h (by decide)⟩
  · rw [dec_f h0]
    exact ⟨2, rfl, fun h => absurd h (by decide)⟩
end
/-! ## Shares -/
theorem fl_cast (u a b : Nat) : fl (u : Int) (a : Int) (b : Int) = ((u * a / b : Nat) : Int) := by
  unfold fl
  rw [← Int.natCast_mul, ← Int.natCast_ediv]
theorem cl_cast (u a b : Nat) (hb : 1 ≤ b) : cl (u : Int) (a : Int) (b : Int) = (((u * a + (b - 1)) / b : Nat) : Int) := by
  unfold cl
  rw [Int.natCast_ediv, Int.natCast_add, Int.natCast_mul, show (((b - 1 : Nat)) : Int) = (b : Int) - 1 by omega]
section
variable (F : Nat) (hF : 2000 < F) {u a b : Int} (hu : 0 ≤ u ∧ u ≤ 1000000000000000) (ha : 0 ≤ a ∧ a ≤ 1000000000000000) (hb : 1 ≤ b ∧ b ≤ 1000000000000000)
include hF hu ha hb
theorem mdI1 : ∃ z, mulDiv_S F u a b 1 = some (if fl u a b ≤ 1000000000000000 then (fl u a b, (z, 0)) else (0, (0, 10))) := by
  obtain ⟨u, rfl⟩ := Int.eq_ofNat_of_zero_le hu.1
  obtain ⟨a, rfl⟩ := Int.eq_ofNat_of_zero_le ha.1
  obtain ⟨b, rfl⟩ := Int.eq_ofNat_of_zero_le (show 0 ≤ b by omega)
  obtain ⟨z, h⟩ := md1 F hF u a b (by omega) (by omega) (by omega)
  refine ⟨z, ?_⟩
  rw [h, fl_cast]
  by_cases hq : u * a / b ≤ 1000000000000000
  · rw [if_pos hq, if_pos (by omega)]
  · rw [if_neg hq, if_neg (by omega)]
theorem mdI2 : ∃ z, mulDiv_S F u a b 2 = some (if cl u a b ≤ 1000000000000000 then (cl u a b, (z, 0)) else (0, (0, 10))) := by
  obtain ⟨u, rfl⟩ := Int.eq_ofNat_of_zero_le hu.1
  obtain ⟨a, rfl⟩ := Int.eq_ofNat_of_zero_le ha.1
  obtain ⟨b, rfl⟩ := Int.eq_ofNat_of_zero_le (show 0 ≤ b by omega)
  obtain ⟨z, h⟩ := md2 F hF u a b (by omega) (by omega) (by omega)
  refine ⟨z, ?_⟩
  rw [h, cl_cast _ _ _ (by omega)]
  by_cases hq : (u * a + (b - 1)) / b ≤ 1000000000000000
  · rw [if_pos hq, if_pos (by omega)]
  · rw [if_neg hq, if_neg (by omega)]
theorem mdI3 (hq : cl u a b ≤ 1000000000000000) : ∃ n z, mulDiv_S F u a b 3 = some (n, (z, 0)) ∧ fl u a b ≤ n ∧ n ≤ cl u a b := by
  obtain ⟨u, rfl⟩ := Int.eq_ofNat_of_zero_le hu.1
  obtain ⟨a, rfl⟩ := Int.eq_ofNat_of_zero_le ha.1
  obtain ⟨b, rfl⟩ := Int.eq_ofNat_of_zero_le (show 0 ≤ b by omega)
  rw [cl_cast _ _ _ (by omega)] at hq ⊢
  obtain ⟨n, z, h1, h2, h3⟩ := md3 F hF u a b (by omega) (by omega) (by omega) (by omega)
  refine ⟨n, z, h1, ?_, by omega⟩
  rw [fl_cast]
  omega
end
theorem cl2 {u a b : Int} (hb : 0 < b) (hu : 0 ≤ u) (h : a ≤ 2 * b) : cl u a b ≤ 2 * u := by
  have h1 := cl_a hb hu h
  have h2 : cl u (2 * b) b = 2 * u := by
    unfold cl
    rw [show u * (2 * b) + (b - 1) = (b - 1) + (2 * u) * b by rw [← Int.mul_assoc, Int.mul_comm u 2]; omega, Int.add_mul_ediv_right _ _ (by omega), Int.ediv_eq_zero_of_lt (by omega) (by omega)]; omega
  omega
theorem mi_eq (u n : Int) : (if u < n then u else n) = mi n u := by unfold mi; split <;> split <;> omega
/-- A share of a mass, for MulDiv: its bounds. -/
theorem sh_b {s k m : Int} (hs : 0 ≤ s ∧ s ≤ 20000) (hk : 0 ≤ k ∧ k ≤ m) (hm : 1 ≤ m ∧ m ≤ 1000000000) : (0 ≤ s * k ∧ s * k ≤ 20000000000000) ∧ s * k ≤ 2 * (10000 * m) := by
  have h1 : 0 ≤ s * k := mul_nn hs.1 hk.1
  have h2 : s * k ≤ 20000 * k := mul_lr hs.2 hk.1
  omega
section
variable (F : Nat) (hF : 2000 < F)
include hF
theorem part1 {s u k m : Int} (hs : 0 ≤ s ∧ s ≤ 20000) (hu : 0 ≤ u ∧ u ≤ 400000000000000) (hk : 0 ≤ k ∧ k ≤ m) (hm : 1 ≤ m ∧ m ≤ 1000000000) : part_S F s u k m 1 = some (mi (fl u (s * k) (10000 * m)) u) := by
  obtain ⟨h1, h2⟩ := sh_b hs hk hm
  have h3 := cl2 (b := 10000 * m) (by omega) hu.1 h2
  have h4 := fl_cl (u := u) (a := s * k) (b := 10000 * m) (by omega)
  unfold part_S
  rw [w64 _ (by omega), w64 _ (by omega)]
  obtain ⟨z, h⟩ := mdI1 F hF (u := u) (a := s * k) (b := 10000 * m) (by omega) (by omega) (by omega)
  rw [h, if_pos (by omega), ob_some, mi_eq]
theorem part2 {s u k m : Int} (hs : 0 ≤ s ∧ s ≤ 20000) (hu : 0 ≤ u ∧ u ≤ 400000000000000) (hk : 0 ≤ k ∧ k ≤ m) (hm : 1 ≤ m ∧ m ≤ 1000000000) : part_S F s u k m 2 = some (mi (cl u (s * k) (10000 * m)) u) := by
  obtain ⟨h1, h2⟩ := sh_b hs hk hm
  have h3 := cl2 (b := 10000 * m) (by omega) hu.1 h2
  unfold part_S
  rw [w64 _ (by omega), w64 _ (by omega)]
  obtain ⟨z, h⟩ := mdI2 F hF (u := u) (a := s * k) (b := 10000 * m) (by omega) (by omega) (by omega)
  rw [h, if_pos (by omega), ob_some, mi_eq]
end
section
variable (F : Nat)
noncomputable def chT (x : Tst) (q : Tr) (d mass : Int) : Option Tr := (ob (bif (x.1 == (1 : Int)) then (some ((d, mass, (x.2.1 == mass)), (x, q))) else (some ((d, mass, false), (x, q)))) (fun s1 => (bif s1.1.2.2 then (some (s1.1.1, s1.1.1)) else (bif (s1.2.1.1 == (1 : Int)) then (ob (part_S F s1.2.2.1 s1.1.1 s1.2.1.2.1 s1.1.2.1 (1 : Int)) (fun r => (ob (part_S F s1.2.2.2 s1.1.1 s1.2.1.2.1 s1.1.2.1 (2 : Int)) (fun r1 => (some (r, r1)))))) else (bif (s1.2.1.1 == (4 : Int)) then (ob (part_S F s1.2.2.1 s1.1.1 (1 : Int) (1 : Int) (1 : Int)) (fun r2 => (ob (part_S F s1.2.2.2 s1.1.1 (1 : Int) (1 : Int) (2 : Int)) (fun r3 => (some (r2, r3)))))) else (some (s1.2.2.1, s1.2.2.2)))))))
theorem chT_eq (hF : 2000 < F) {x : Tst} {r : Tr} {d m : Int} (h : stR x r) (hm : 0 ≤ gm m x) (hm2 : m ≤ 1000000000) (hd : 0 ≤ d ∧ d ≤ 400000000000000) : chT F x r d m = some (ch r x d m) := by
  obtain ⟨k, M, B⟩ := x
  rcases h with ⟨e, h1, h2, h3, h4⟩ | ⟨e, h1, h2, h3, h4⟩ | ⟨e, h1, h2, h3, h4⟩ | ⟨e, h1, h2, h3, h4⟩ <;> dsimp only at e h1 <;> subst e
  · unfold ch
    rw [if_pos rfl]
    by_cases hx : M = m
    · rw [if_pos hx]
      subst hx
      unfold chT
      show ob (some ((d, M, (M == M)), _)) _ = _
      rw [beq_self_eq_true]
      rfl
    · rw [if_neg hx]
      have hb : M < m := by
        have hm' : 0 ≤ m - M := hm
        omega
      have e : (M == m) = false := beq_eq_false_iff_ne.2 hx
      unfold chT
      show ob (some ((d, m, (M == m)), _)) _ = _
      rw [e]
      show ob (part_S F r.1 d M m 1) (fun q => ob (part_S F r.2 d M m 2) (fun q1 => some (q, q1))) = _
      rw [part1 F hF (by omega) hd (by omega) (by omega), part2 F hF (by omega) hd (by omega) (by omega)]
  · rfl
  · rfl
  · show ob (part_S F r.1 d 1 1 1) (fun q => ob (part_S F r.2 d 1 1 2) (fun q1 => some (q, q1))) = _
    rw [part1 F hF (by omega) hd (by omega) (by omega), part2 F hF (by omega) hd (by omega) (by omega), Int.mul_one r.1, Int.mul_one r.2]
    rfl
theorem ch0_eq (hF : 2000 < F) {x : Tst} {d m : Int} (h : stOk x) (hm : 0 ≤ gm m x) (hm2 : m ≤ 1000000000) (hd : 0 ≤ d ∧ d ≤ 400000000000000) : choices0_S F x d m = some (ch (s0 x.2.2) x d m) := chT_eq F hF (st_R sp0 h) hm hm2 hd
theorem ch1_eq (hF : 2000 < F) {x : Tst} {d m : Int} (h : stOk x) (hm : 0 ≤ gm m x) (hm2 : m ≤ 1000000000) (hd : 0 ≤ d ∧ d ≤ 400000000000000) : choices1_S F x d m = some (ch (s1 x.2.2) x d m) := chT_eq F hF (st_R sp1 h) hm hm2 hd
theorem ch2_eq (hF : 2000 < F) {x : Tst} {d m : Int} (h : stOk x) (hm : 0 ≤ gm m x) (hm2 : m ≤ 1000000000) (hd : 0 ≤ d ∧ d ≤ 400000000000000) : choices2_S F x d m = some (ch (s2 x.2.2) x d m) := chT_eq F hF (st_R sp2 h) hm hm2 hd
theorem pick_eq {l : List Tst} {i : Nat} (hi : i < l.length) {a b : Int} {c : Tco} {x : Tst} (hx : nth l zS i = x) : pick_S F (i : Int) a b c l = some (pn c x (a, b), c) := by
  unfold pick_S pn pk
  rw [show inB (i : Int) (l.length - 0) = true from inB_t hi, Int.toNat_natCast, hx]
  by_cases h1 : x.1 = 1
  · rw [if_pos h1, h1]
    obtain ⟨c0, c1, c2⟩ := c
    cases c1 <;> rfl
  · rw [if_neg h1, show (x.1 == 1) = false from beq_eq_false_iff_ne.2 h1]
    by_cases h4 : x.1 = 4
    · rw [if_pos h4, h4]
      obtain ⟨c0, c1, c2⟩ := c
      cases c2 <;> rfl
    · rw [if_neg h4, show (x.1 == 4) = false from beq_eq_false_iff_ne.2 h4]
      obtain ⟨c0, c1, c2⟩ := c
      cases c0 <;> rfl
end
end M3
end Go.Proofs.YtcbbhiobibhdnaaDoor


namespace Go.Proofs.YtcbbhiobibhdnaaDoor
namespace M3
open Go.RowKit U8
set_option maxRecDepth 100000
theorem ob_at {α β : Type} {x : Option α} {y : α} {f : α → Option β} {z : Option β} (h : x = some y) (h2 : f y = z) : ob x f = z := by rw [h]; exact h2
theorem getT_upd {α : Type} (z : α) (n : Int) (cl : Nat) (x : α) : ∀ ts : List (Int × Nat × α), getT z n (updT n cl x ts) = x
  | [] => by simp [updT, getT]
  | e :: r => by
    unfold updT
    by_cases h : n = e.1
    · rw [show (n == e.1) = true from beq_iff_eq.2 h]
      simp [getT]
    · have h' : (n == e.1) = false := beq_eq_false_iff_ne.2 h
      rw [h']
      show getT z n (e :: updT n cl x r) = x
      unfold getT
      rw [h']
      exact getT_upd z n cl x r
theorem getT_upd_ne {α : Type} (z : α) {n w : Int} (hw : w ≠ n) (cl : Nat) (x : α) : ∀ ts : List (Int × Nat × α), getT z w (updT n cl x ts) = getT z w ts
  | [] => by
    show (bif w == n then x else z) = z
    rw [show (w == n) = false from beq_eq_false_iff_ne.2 hw]
    rfl
  | e :: r => by
    unfold updT
    by_cases h : n = e.1
    · rw [show (n == e.1) = true from beq_iff_eq.2 h]
      have h2 : (w == n) = false := beq_eq_false_iff_ne.2 hw
      have h3 : (w == e.1) = false := beq_eq_false_iff_ne.2 (by rw [← h]; exact hw)
      show getT z w ((n, e.2.1, x) :: r) = _
      unfold getT
      rw [h2, h3]
      rfl
    · have h' : (n == e.1) = false := beq_eq_false_iff_ne.2 h
      rw [h']
      show getT z w (e :: updT n cl x r) = getT z w (e :: r)
      unfold getT
      rw [getT_upd_ne z hw cl x r]
abbrev zF : Tfr := TC.dflt (TC.pair (TC.int IntKind.i64) (TC.pair (TC.pair (TC.int IntKind.i64) (TC.int IntKind.i64)) (TC.pair (TC.pair (TC.int IntKind.i64) (TC.int IntKind.i64)) (TC.pair (TC.int IntKind.i64) (TC.int IntKind.i64)))))
def z3 : Tc3 := (0, (0, 0))
/-- Ranges that are filled in, one after another. -/
def puts (f : Tfr → Tr → Tfr) : List Tfr → Nat → List Tr → List Tfr
  | s, _, [] => s
  | s, k, r :: rs => puts f (s.set k (f (nth s zF k) r)) (k + 1) rs
def put0 (x : Tfr) (r : Tr) : Tfr := (x.1, (r, x.2.2))
def put1 (x : Tfr) (r : Tr) : Tfr := (x.1, (x.2.1, (r, x.2.2.2)))
def put2 (x : Tfr) (r : Tr) : Tfr := (x.1, (x.2.1, (x.2.2.1, r)))
theorem puts_len (f : Tfr → Tr → Tfr) : ∀ (rs : List Tr) (s : List Tfr) (k : Nat), (puts f s k rs).length = s.length
  | [], _, _ => rfl
  | r :: rs, s, k => by rw [puts, puts_len f rs, List.length_set]
theorem nth_sne (s : List Tfr) {k i : Nat} (h : k ≠ i) (v : Tfr) : nth (s.set k v) zF i = nth s zF i := by
  unfold nth
  simp only [List.getD_eq_getElem?_getD, List.getElem?_set_ne h]
theorem nth_sself (s : List Tfr) {k : Nat} (h : k < s.length) (v : Tfr) : nth (s.set k v) zF k = v := by
  unfold nth
  simp only [List.getD_eq_getElem?_getD, List.getElem?_set_self h, Option.getD_some]
theorem puts_lt (f : Tfr → Tr → Tfr) : ∀ (rs : List Tr) (s : List Tfr) (k i : Nat), i < k → nth (puts f s k rs) zF i = nth s zF i
  | [], _, _, _, _ => rfl
  | r :: rs, s, k, i, h => by
    rw [puts, puts_lt f rs _ _ i (by omega)]
    exact nth_sne s (by omega) _
theorem puts_nth (f : Tfr → Tr → Tfr) : ∀ (rs : List Tr) (s : List Tfr) (k i : Nat) (h : i < rs.length), k + rs.length ≤ s.length → nth (puts f s k rs) zF (k + i) = f (nth s zF (k + i)) rs[i]
  | [], _, _, _, h, _ => absurd h (by simp)
  | r :: rs, s, k, 0, _, h => by
    rw [List.length_cons] at h
    rw [puts, puts_lt f rs _ _ _ (by omega)]
    exact nth_sself s (by omega) _
  | r :: rs, s, k, i + 1, h1, h => by
    rw [List.length_cons] at h h1
    have ih := puts_nth f rs (s.set k (f (nth s zF k) r)) (k + 1) i (by omega) (by rw [List.length_set]; omega)
    rw [puts, show k + (i + 1) = k + 1 + i by omega, ih]
    rw [nth_sne s (by omega)]
    rfl
def g0 (c : Tc3) : Int := c.1
def g1 (c : Tc3) : Int := c.2.1
def g2 (c : Tc3) : Int := c.2.2
theorem stK4 {x : Tst} (h : stOk x) : x.1 = 1 ∨ x.1 = 2 ∨ x.1 = 3 ∨ x.1 = 4 := by have := stK h; omega
theorem bq {a b : Int} (h : a = b) : (a == b) = true := beq_iff_eq.2 h
theorem bn {a b : Int} (h : ¬ a = b) : (a == b) = false := beq_eq_false_iff_ne.2 h
theorem wAdd {x : Tst} {d n : Int} (k : x.1 = 2 ∨ x.1 = 3) (h : 0 ≤ nx x d n ∧ nx x d n ≤ 1000000000000000) : IntKind.wrap IntKind.i64 (d + n) = nx x d n := by
  rw [nx_a k] at h ⊢
  exact w64 _ (by omega)
theorem wSub {x : Tst} {d n : Int} (k : x.1 = 1 ∨ x.1 = 4) (h : 0 ≤ nx x d n ∧ nx x d n ≤ 1000000000000000) : IntKind.wrap IntKind.i64 (d - n) = nx x d n := by
  rw [nx_l k] at h ⊢
  exact w64 _ (by omega)
theorem wI (i : Nat) {n : Nat} (h : i < n) (hn : n ≤ 200) : IntKind.wrap IntKind.i64 ((i : Int) + 1) = ((i + 1 : Nat) : Int) := w64 _ (by omega)
end M3
end Go.Proofs.YtcbbhiobibhdnaaDoor


namespace Go.Proofs.YtcbbhiobibhdnaaDoor
namespace M3
open Go.RowKit U8
set_option maxRecDepth 100000
set_option maxHeartbeats 4000000
section
variable (F : Nat) (hF : 2000 < F)
include hF
theorem tot0_loop (l : List Tst) (hl : l.length ≤ 200) (c : Tco) : ∀ (j k i : Nat) (d m so go dd e : Int) (a f : Int × (Int × (Int × (Int × (Int × (Int × Int)))))), i + j = l.length → j < k → run (l.drop i) m → 0 ≤ m ∧ m ≤ 1000000000 → 0 ≤ d → d + 1000000000000 * j ≤ 400000000000000 → ∃ t, total0_rf0_L F k ((d, m, ((l.length - 0) : Int), (i : Int)), (l, a, so, go, dd, e, f, c)) = some t
  | j, 0, _, _, _, _, _, _, _, _, _, _, h, _, _, _, _ => by omega
  | 0, k + 1, i, d, m, so, go, dd, e, a, f, h, _, _, _, _, _ => by
    simp only [total0_rf0_L]
    rw [dec_f (show ¬ (i : Int) < (l.length - 0 : Int) by omega)]
    exact ⟨_, rfl⟩
  | j + 1, k + 1, i, d, m, so, go, dd, e, a, f, h, hj, hr, hm, hd, hD => by
    have hi : i < l.length := by omega
    have hx : nth l zS i = nth l zS i := rfl
    rw [drop_c hi zS] at hr
    simp only [total0_rf0_L]
    rw [dec_t (show (i : Int) < (l.length - 0 : Int) by omega), show inB (i : Int) (l.length - 0) = true from inB_t hi, Int.toNat_natCast]
    generalize hx : nth l zS i = x at hr ⊢
    obtain ⟨hs, hg0, hg1, hr'⟩ := hr
    simp only [cond_true]
    rw [ch0_eq F hF hs hg0 hm.2 (by omega), ob_some]
    have hq := ch_in (st_R sp0 hs) hg0 hd
    generalize hr0 : ch (s0 x.2.2) x d m = r at hq ⊢
    have hn := nx_in (st_R sp0 hs) hg0 hd (n := pn c x r) (by rw [hr0]; exact pn_in c x hq.2.1)
    rw [show pick_S F (i : Int) r.1 r.2 c l = some (pn c x r, c) from pick_eq F hi hx, ob_some]
    have hw : 0 ≤ nx x d (pn c x r) ∧ nx x d (pn c x r) ≤ 1000000000000000 := ⟨hn.2.1, by omega⟩
    rcases stK4 hs with k1 | k1 | k1 | k1
    · have b1 : (x.1 == 1) = true := bq k1
      have b2 : (x.1 == 2) = false := bn (by omega)
      have b3 : (x.1 == 3) = false := bn (by omega)
      have b4 : (x.1 == 4) = false := bn (by omega)
      simp only [b1, b2, b3, b4, cond_true, cond_false]
      rw [grown_eq F (stM hs) hm, ob_some, wSub (by omega) hw, wI i hi hl]
      exact tot0_loop l hl c j k (i + 1) _ _ _ _ _ _ _ _ (by omega) (by omega) hr' ⟨hg0, hg1⟩ hn.2.1 (by omega)
    · have b1 : (x.1 == 1) = false := bn (by omega)
      have b2 : (x.1 == 2) = true := bq k1
      have b3 : (x.1 == 3) = false := bn (by omega)
      have b4 : (x.1 == 4) = false := bn (by omega)
      simp only [b1, b2, b3, b4, cond_true, cond_false]
      rw [grown_eq F (stM hs) hm, ob_some, wAdd (by omega) hw, wI i hi hl]
      exact tot0_loop l hl c j k (i + 1) _ _ _ _ _ _ _ _ (by omega) (by omega) hr' ⟨hg0, hg1⟩ hn.2.1 (by omega)
    · have b1 : (x.1 == 1) = false := bn (by omega)
      have b2 : (x.1 == 2) = false := bn (by omega)
      have b3 : (x.1 == 3) = true := bq k1
      have b4 : (x.1 == 4) = false := bn (by omega)
      simp only [b1, b2, b3, b4, cond_true, cond_false]
      rw [grown_eq F (stM hs) hm, ob_some, wAdd (by omega) hw, wI i hi hl]
      exact tot0_loop l hl c j k (i + 1) _ _ _ _ _ _ _ _ (by omega) (by omega) hr' ⟨hg0, hg1⟩ hn.2.1 (by omega)
    · have b1 : (x.1 == 1) = false := bn (by omega)
      have b2 : (x.1 == 2) = false := bn (by omega)
      have b3 : (x.1 == 3) = false := bn (by omega)
      have b4 : (x.1 == 4) = true := bq k1
      simp only [b1, b2, b3, b4, cond_true, cond_false]
      rw [grown_eq F (stM hs) hm, ob_some, wSub (by omega) hw, wI i hi hl]
      exact tot0_loop l hl c j k (i + 1) _ _ _ _ _ _ _ _ (by omega) (by omega) hr' ⟨hg0, hg1⟩ hn.2.1 (by omega)
theorem tot0 (l : List Tst) (hl : l.length ≤ 200) (a : Tfr) (hm : 0 ≤ a.1 ∧ a.1 ≤ 1000000000) (ha : okR (s0 a.2) 1000000000000) (hr : run l a.1) (c : Tco) : ∃ t, total0_S F a c l = some t := by
  obtain ⟨c0, c1⟩ := c
  obtain ⟨h1, h2, h3⟩ := ha
  unfold total0_S
  cases c0
  · obtain ⟨t, h⟩ := tot0_loop F hF l hl (false, c1) l.length F 0 (s0 a.2).1 a.1 0 0 (s0 a.2).1 (s0 a.2).1 (a.1, (a.2.1.1, (a.2.1.2, (a.2.2.1.1, (a.2.2.1.2, a.2.2.2))))) (a.1, (a.2.1.1, (a.2.1.2, (a.2.2.1.1, (a.2.2.1.2, a.2.2.2))))) (by omega) (by omega) hr hm h1 (by omega)
    exact ⟨_, ob_at rfl (ob_at h rfl)⟩
  · obtain ⟨t, h⟩ := tot0_loop F hF l hl (true, c1) l.length F 0 (s0 a.2).2 a.1 0 0 (s0 a.2).2 (s0 a.2).2 (a.1, (a.2.1.1, (a.2.1.2, (a.2.2.1.1, (a.2.2.1.2, a.2.2.2))))) (a.1, (a.2.1.1, (a.2.1.2, (a.2.2.1.1, (a.2.2.1.2, a.2.2.2))))) (by omega) (by omega) hr hm (by omega) (by omega)
    exact ⟨_, ob_at rfl (ob_at h rfl)⟩
theorem fil0_a (l : List Tst) (hl : l.length ≤ 200) (c : Tco) (R : (Int × (Int × (Int × (Int × (Int × (Int × (Int × (Int × (Int × (Int × (Int × (Int × (Int × (Int × (Int × (Int × (Int × (Int × (Int × (Int × (Int × (Int × (Int × (Int × Int))))))))))))))))))))))))) (sls : List Tfr) (a f : Int × (Int × (Int × (Int × (Int × (Int × Int)))))) (e : Int) : ∀ (j k i : Nat) (d m : Int) (cl : Nat) (ts : List (Int × Nat × Tc3)), i + j = l.length → j < k → run (l.drop i) m → 0 ≤ m ∧ m ≤ 1000000000 → 0 ≤ d → d + 1000000000000 * j ≤ 400000000000000 → ∃ cl' ts', fill0_rf0_L F k ((d, m, ((l.length - 0) : Int), (i : Int)), (l, R, sls, a, (cl, ts), e, f, c)) = some (l, R, sls, a, (cl', ts'), e, f, c) ∧ (∀ q, q < j → getT (0, (0, 0)) ((i : Int) + (q : Int)) ts' = nth (tr s0 c (l.drop i) m d) z3 q) ∧ (∀ w : Int, w < i → getT (0, (0, 0)) w ts' = getT (0, (0, 0)) w ts)
  | j, 0, _, _, _, _, _, _, h, _, _, _, _ => by omega
  | 0, k + 1, i, d, m, cl, ts, h, _, _, _, _, _ => by
    simp only [fill0_rf0_L]
    rw [dec_f (show ¬ (i : Int) < (l.length - 0 : Int) by omega)]
    exact ⟨_, _, rfl, fun q hq => absurd hq (by omega), fun _ _ => rfl⟩
  | j + 1, k + 1, i, d, m, cl, ts, h, hj, hr, hm, hd, hD => by
    have hi : i < l.length := by omega
    rw [drop_c hi zS] at hr ⊢
    simp only [fill0_rf0_L]
    rw [dec_t (show (i : Int) < (l.length - 0 : Int) by omega), show inB (i : Int) (l.length - 0) = true from inB_t hi, Int.toNat_natCast]
    generalize hx : nth l zS i = x at hr ⊢
    obtain ⟨hs, hg0, hg1, hr'⟩ := hr
    simp only [cond_true]
    rw [ch0_eq F hF hs hg0 hm.2 (by omega), ob_some]
    have hq := ch_in (st_R sp0 hs) hg0 hd
    rw [tr]
    generalize hr0 : ch (s0 x.2.2) x d m = r at hq ⊢
    have hn := nx_in (st_R sp0 hs) hg0 hd (n := pn c x r) (by rw [hr0]; exact pn_in c x hq.2.1)
    rw [show pick_S F (i : Int) r.1 r.2 c l = some (pn c x r, c) from pick_eq F hi hx, ob_some]
    have hw : 0 ≤ nx x d (pn c x r) ∧ nx x d (pn c x r) ≤ 1000000000000000 := ⟨hn.2.1, by omega⟩
    obtain ⟨cl', ts', e1, e2, e3⟩ := fil0_a l hl c R sls a f e j k (i + 1) (nx x d (pn c x r)) (gm m x) (newCl (i : Int) cl ts) (updT (i : Int) cl (r.1, (r.2, nx x d (pn c x r))) ts) (by omega) (by omega) hr' ⟨hg0, hg1⟩ hn.2.1 (by omega)
    refine ⟨cl', ts', ?_, fun q hq' => ?_, fun w hw' => ?_⟩
    rotate_left
    · cases q with
      | zero =>
        rw [show (i : Int) + ((0 : Nat) : Int) = (i : Int) by omega, e3 _ (by omega), getT_upd]
        rfl
      | succ q =>
        rw [show (i : Int) + ((q + 1 : Nat) : Int) = ((i + 1 : Nat) : Int) + (q : Int) by omega, e2 q (by omega)]
        rfl
    · rw [e3 w (by omega), getT_upd_ne _ (by omega)]
    rcases stK4 hs with k1 | k1 | k1 | k1
    · have b1 : (x.1 == 1) = true := bq k1
      have b2 : (x.1 == 2) = false := bn (by omega)
      have b3 : (x.1 == 3) = false := bn (by omega)
      have b4 : (x.1 == 4) = false := bn (by omega)
      simp only [b2, b3, cond_false]
      rw [grown_eq F (stM hs) hm, ob_some, wSub (by omega) hw, wI i hi hl]
      exact e1
    · have b1 : (x.1 == 1) = false := bn (by omega)
      have b2 : (x.1 == 2) = true := bq k1
      have b3 : (x.1 == 3) = false := bn (by omega)
      have b4 : (x.1 == 4) = false := bn (by omega)
      simp only [b2, b3, cond_true, cond_false]
      rw [grown_eq F (stM hs) hm, ob_some, wAdd (by omega) hw, wI i hi hl]
      exact e1
    · have b1 : (x.1 == 1) = false := bn (by omega)
      have b2 : (x.1 == 2) = false := bn (by omega)
      have b3 : (x.1 == 3) = true := bq k1
      have b4 : (x.1 == 4) = false := bn (by omega)
      simp only [b2, b3, cond_true, cond_false]
      rw [grown_eq F (stM hs) hm, ob_some, wAdd (by omega) hw, wI i hi hl]
      exact e1
    · have b1 : (x.1 == 1) = false := bn (by omega)
      have b2 : (x.1 == 2) = false := bn (by omega)
      have b3 : (x.1 == 3) = false := bn (by omega)
      have b4 : (x.1 == 4) = true := bq k1
      simp only [b2, b3, cond_false]
      rw [grown_eq F (stM hs) hm, ob_some, wSub (by omega) hw, wI i hi hl]
      exact e1
theorem fil0_b (l : List Tst) (hl : l.length ≤ 200) (a f : Int × (Int × (Int × (Int × (Int × (Int × Int)))))) (e : Int) (cl : Nat) (ts : List (Int × Nat × Tc3)) : ∀ (j k i : Nat) (d dr m : Int) (R : (Int × (Int × (Int × (Int × (Int × (Int × (Int × (Int × (Int × (Int × (Int × (Int × (Int × (Int × (Int × (Int × (Int × (Int × (Int × (Int × (Int × (Int × (Int × (Int × Int))))))))))))))))))))))))) (sls : List Tfr) (kk : Nat), i + j = l.length → j < k → run (l.drop i) m → 0 ≤ m ∧ m ≤ 1000000000 → 0 ≤ d → d + 1000000000000 * j ≤ 400000000000000 → (∀ q, q < j → getT (0, (0, 0)) ((i : Int) + (q : Int)) ts = nth (tr s0 richC (l.drop i) m dr) z3 q) → kk + (sl s0 (l.drop i) m d dr).length ≤ sls.length → sls.length ≤ 200 → ∃ R' kk', fill0_rf1_L F k ((d, m, ((l.length - 0) : Int), (i : Int)), (l, R, sls, a, (kk : Int), (cl, ts), e, f, poorC)) = some (l, R', puts put0 sls kk (sl s0 (l.drop i) m d dr), a, kk', (cl, ts), e, f, poorC)
  | j, 0, _, _, _, _, _, _, _, h, _, _, _, _, _, _, _, _ => by omega
  | 0, k + 1, i, d, dr, m, R, sls, kk, h, _, _, _, _, _, _, _, _ => by
    simp only [fill0_rf1_L]
    rw [dec_f (show ¬ (i : Int) < (l.length - 0 : Int) by omega), List.drop_eq_nil_of_le (by omega)]
    exact ⟨_, _, rfl⟩
  | j + 1, k + 1, i, d, dr, m, R, sls, kk, h, hj, hr, hm, hd, hD, ht, hk, hk2 => by
    have hi : i < l.length := by omega
    rw [drop_c hi zS] at hr hk ht ⊢
    simp only [fill0_rf1_L]
    rw [dec_t (show (i : Int) < (l.length - 0 : Int) by omega), show inB (i : Int) (l.length - 0) = true from inB_t hi, Int.toNat_natCast]
    generalize hx : nth l zS i = x at hr hk ht ⊢
    obtain ⟨hs, hg0, hg1, hr'⟩ := hr
    simp only [cond_true]
    have ht0 : getT (0, (0, 0)) (i : Int) ts = ((ch (s0 x.2.2) x dr m).1, ((ch (s0 x.2.2) x dr m).2, nx x dr (pn richC x (ch (s0 x.2.2) x dr m)))) := by
      have h0 := ht 0 (by omega)
      rw [show (i : Int) + ((0 : Nat) : Int) = (i : Int) by omega] at h0
      exact h0
    have ht' : ∀ q, q < j → getT (0, (0, 0)) (((i + 1 : Nat) : Int) + (q : Int)) ts = nth (tr s0 richC (l.drop (i + 1)) (gm m x) (nx x dr (pn richC x (ch (s0 x.2.2) x dr m)))) z3 q := by
      intro q hq
      have h0 := ht (q + 1) (by omega)
      rw [show (i : Int) + ((q + 1 : Nat) : Int) = ((i + 1 : Nat) : Int) + (q : Int) by omega] at h0
      exact h0
    rw [ht0]
    rw [ch0_eq F hF hs hg0 hm.2 (by omega), ob_some]
    have hq := ch_in (st_R sp0 hs) hg0 hd
    rw [sl] at hk ⊢
    generalize hr0 : ch (s0 x.2.2) x d m = r at hq hk ⊢
    generalize ch (s0 x.2.2) x dr m = rr at hk ht' ⊢
    have hn := nx_in (st_R sp0 hs) hg0 hd (n := pn poorC x r) (by rw [hr0]; exact pn_in poorC x hq.2.1)
    rw [show pick_S F (i : Int) r.1 r.2 poorC l = some (pn poorC x r, poorC) from pick_eq F hi hx, ob_some]
    have hw : 0 ≤ nx x d (pn poorC x r) ∧ nx x d (pn poorC x r) ≤ 1000000000000000 := ⟨hn.2.1, by omega⟩
    rcases stK4 hs with k1 | k1 | k1 | k1
    · have b1 : (x.1 == 1) = true := bq k1
      have b2 : (x.1 == 2) = false := bn (by omega)
      have b3 : (x.1 == 3) = false := bn (by omega)
      have b4 : (x.1 == 4) = false := bn (by omega)
      rw [if_pos k1, List.length_cons] at hk
      rw [if_pos k1]
      simp only [b1, b2, b3, cond_true, cond_false]
      rw [grown_eq F (stM hs) hm, ob_some, show inB (kk : Int) (sls.length - 0) = true from inB_t (by omega), wSub (by omega) hw, wI i hi hl, w64 ((kk : Int) + 1) (by omega), Int.toNat_natCast]
      exact fil0_b l hl a f e cl ts j k (i + 1) _ _ _ _ (sls.set kk (put0 (nth sls zF kk) (r.1, rr.2))) (kk + 1) (by omega) (by omega) hr' ⟨hg0, hg1⟩ hn.2.1 (by omega) ht' (by rw [List.length_set]; omega) (by rw [List.length_set]; omega)
    · have b1 : (x.1 == 1) = false := bn (by omega)
      have b2 : (x.1 == 2) = true := bq k1
      have b3 : (x.1 == 3) = false := bn (by omega)
      have b4 : (x.1 == 4) = false := bn (by omega)
      rw [if_neg (by omega)] at hk
      rw [if_neg (show ¬ x.1 = 1 by omega)]
      simp only [b1, b2, b3, cond_true, cond_false]
      rw [grown_eq F (stM hs) hm, ob_some, wAdd (by omega) hw, wI i hi hl]
      exact fil0_b l hl a f e cl ts j k (i + 1) _ _ _ _ sls kk (by omega) (by omega) hr' ⟨hg0, hg1⟩ hn.2.1 (by omega) ht' hk hk2
    · have b1 : (x.1 == 1) = false := bn (by omega)
      have b2 : (x.1 == 2) = false := bn (by omega)
      have b3 : (x.1 == 3) = true := bq k1
      have b4 : (x.1 == 4) = false := bn (by omega)
      rw [if_neg (by omega)] at hk
      rw [if_neg (show ¬ x.1 = 1 by omega)]
      simp only [b1, b2, b3, cond_true, cond_false]
      rw [grown_eq F (stM hs) hm, ob_some, wAdd (by omega) hw, wI i hi hl]
      exact fil0_b l hl a f e cl ts j k (i + 1) _ _ _ _ sls kk (by omega) (by omega) hr' ⟨hg0, hg1⟩ hn.2.1 (by omega) ht' hk hk2
    · have b1 : (x.1 == 1) = false := bn (by omega)
      have b2 : (x.1 == 2) = false := bn (by omega)
      have b3 : (x.1 == 3) = false := bn (by omega)
      have b4 : (x.1 == 4) = true := bq k1
      rw [if_neg (by omega)] at hk
      rw [if_neg (show ¬ x.1 = 1 by omega)]
      simp only [b1, b2, b3, cond_false]
      rw [grown_eq F (stM hs) hm, ob_some, wSub (by omega) hw, wI i hi hl]
      exact fil0_b l hl a f e cl ts j k (i + 1) _ _ _ _ sls kk (by omega) (by omega) hr' ⟨hg0, hg1⟩ hn.2.1 (by omega) ht' hk hk2
/-- What fill makes of the slices. -/
theorem fil0 (l : List Tst) (hl : l.length ≤ 200) (a : Tfr) (hm : 0 ≤ a.1 ∧ a.1 ≤ 1000000000) (ha : okR (s0 a.2) 1000000000000) (hr : run l a.1) (R : Tfr × (Tb × (Tb × Tb))) (sls : List Tfr) (hk : (sl s0 l a.1 (s0 a.2).1 (s0 a.2).2).length ≤ sls.length) (hk2 : sls.length ≤ 200) : ∃ R', fill0_S F a l R sls = some (R', puts put0 sls 0 (sl s0 l a.1 (s0 a.2).1 (s0 a.2).2)) := by
  obtain ⟨h1, h2, h3⟩ := id ha
  unfold fill0_S
  have h0 := fun R0 => fil0_a F hF l hl richC R0 sls (a.1, (a.2.1.1, (a.2.1.2, (a.2.2.1.1, (a.2.2.1.2, a.2.2.2))))) (a.1, (a.2.1.1, (a.2.1.2, (a.2.2.1.1, (a.2.2.1.2, a.2.2.2))))) (s0 a.2).2 l.length F 0 (s0 a.2).2 a.1 0 [] (by omega) (by omega) hr hm (by omega) (by omega)
  obtain ⟨cl, ts, e1, e2, _⟩ := h0 _
  obtain ⟨R1, kk, e3⟩ := fil0_b F hF l hl (a.1, (a.2.1.1, (a.2.1.2, (a.2.2.1.1, (a.2.2.1.2, a.2.2.2))))) (a.1, (a.2.1.1, (a.2.1.2, (a.2.2.1.1, (a.2.2.1.2, a.2.2.2))))) (s0 a.2).1 cl ts l.length F 0 (s0 a.2).1 (s0 a.2).2 a.1 _ sls 0 (by omega) (by omega) hr hm h1 (by omega) e2 (by rw [List.drop_zero]; omega) hk2
  obtain ⟨t1, e4⟩ := tot0 F hF l hl a hm ha hr (false, (false, true))
  obtain ⟨t2, e5⟩ := tot0 F hF l hl a hm ha hr (true, (true, false))
  obtain ⟨t3, e6⟩ := tot0 F hF l hl a hm ha hr (false, (true, false))
  obtain ⟨t4, e7⟩ := tot0 F hF l hl a hm ha hr (true, (false, true))
  exact ⟨_, ob_at e1 (ob_at e3 (ob_at e4 (ob_at e5 (ob_at e6 (ob_at e7 rfl)))))⟩
end
end M3
end Go.Proofs.YtcbbhiobibhdnaaDoor


namespace Go.Proofs.YtcbbhiobibhdnaaDoor
namespace M3
open Go.RowKit U8
set_option maxRecDepth 100000
set_option maxHeartbeats 4000000
section
variable (F : Nat) (hF : 2000 < F)
include hF
theorem tot1_loop (l : List Tst) (hl : l.length ≤ 200) (c : Tco) : ∀ (j k i : Nat) (d m so go dd e : Int) (a f : Int × (Int × (Int × (Int × (Int × (Int × Int)))))), i + j = l.length → j < k → run (l.drop i) m → 0 ≤ m ∧ m ≤ 1000000000 → 0 ≤ d → d + 1000000000000 * j ≤ 400000000000000 → ∃ t, total1_rf0_L F k ((d, m, ((l.length - 0) : Int), (i : Int)), (l, a, so, go, dd, e, f, c)) = some t
  | j, 0, _, _, _, _, _, _, _, _, _, _, h, _, _, _, _ => by omega
  | 0, k + 1, i, d, m, so, go, dd, e, a, f, h, _, _, _, _, _ => by
    simp only [total1_rf0_L]
    rw [dec_f (show ¬ (i : Int) < (l.length - 0 : Int) by omega)]
    exact ⟨_, rfl⟩
  | j + 1, k + 1, i, d, m, so, go, dd, e, a, f, h, hj, hr, hm, hd, hD => by
    have hi : i < l.length := by omega
    have hx : nth l zS i = nth l zS i := rfl
    rw [drop_c hi zS] at hr
    simp only [total1_rf0_L]
    rw [dec_t (show (i : Int) < (l.length - 0 : Int) by omega), show inB (i : Int) (l.length - 0) = true from inB_t hi, Int.toNat_natCast]
    generalize hx : nth l zS i = x at hr ⊢
    obtain ⟨hs, hg0, hg1, hr'⟩ := hr
    simp only [cond_true]
    rw [ch1_eq F hF hs hg0 hm.2 (by omega), ob_some]
    have hq := ch_in (st_R sp1 hs) hg0 hd
    generalize hr0 : ch (s1 x.2.2) x d m = r at hq ⊢
    have hn := nx_in (st_R sp1 hs) hg0 hd (n := pn c x r) (by rw [hr0]; exact pn_in c x hq.2.1)
    rw [show pick_S F (i : Int) r.1 r.2 c l = some (pn c x r, c) from pick_eq F hi hx, ob_some]
    have hw : 0 ≤ nx x d (pn c x r) ∧ nx x d (pn c x r) ≤ 1000000000000000 := ⟨hn.2.1, by omega⟩
    rcases stK4 hs with k1 | k1 | k1 | k1
    · have b1 : (x.1 == 1) = true := bq k1
      have b2 : (x.1 == 2) = false := bn (by omega)
      have b3 : (x.1 == 3) = false := bn (by omega)
      have b4 : (x.1 == 4) = false := bn (by omega)
      simp only [b1, b2, b3, b4, cond_true, cond_false]
      rw [grown_eq F (stM hs) hm, ob_some, wSub (by omega) hw, wI i hi hl]
      exact tot1_loop l hl c j k (i + 1) _ _ _ _ _ _ _ _ (by omega) (by omega) hr' ⟨hg0, hg1⟩ hn.2.1 (by omega)
    · have b1 : (x.1 == 1) = false := bn (by omega)
      have b2 : (x.1 == 2) = true := bq k1
      have b3 : (x.1 == 3) = false := bn (by omega)
      have b4 : (x.1 == 4) = false := bn (by omega)
      simp only [b1, b2, b3, b4, cond_true, cond_false]
      rw [grown_eq F (stM hs) hm, ob_some, wAdd (by omega) hw, wI i hi hl]
      exact tot1_loop l hl c j k (i + 1) _ _ _ _ _ _ _ _ (by omega) (by omega) hr' ⟨hg0, hg1⟩ hn.2.1 (by omega)
    · have b1 : (x.1 == 1) = false := bn (by omega)
      have b2 : (x.1 == 2) = false := bn (by omega)
      have b3 : (x.1 == 3) = true := bq k1
      have b4 : (x.1 == 4) = false := bn (by omega)
      simp only [b1, b2, b3, b4, cond_true, cond_false]
      rw [grown_eq F (stM hs) hm, ob_some, wAdd (by omega) hw, wI i hi hl]
      exact tot1_loop l hl c j k (i + 1) _ _ _ _ _ _ _ _ (by omega) (by omega) hr' ⟨hg0, hg1⟩ hn.2.1 (by omega)
    · have b1 : (x.1 == 1) = false := bn (by omega)
      have b2 : (x.1 == 2) = false := bn (by omega)
      have b3 : (x.1 == 3) = false := bn (by omega)
      have b4 : (x.1 == 4) = true := bq k1
      simp only [b1, b2, b3, b4, cond_true, cond_false]
      rw [grown_eq F (stM hs) hm, ob_some, wSub (by omega) hw, wI i hi hl]
      exact tot1_loop l hl c j k (i + 1) _ _ _ _ _ _ _ _ (by omega) (by omega) hr' ⟨hg0, hg1⟩ hn.2.1 (by omega)
theorem tot1 (l : List Tst) (hl : l.length ≤ 200) (a : Tfr) (hm : 0 ≤ a.1 ∧ a.1 ≤ 1000000000) (ha : okR (s1 a.2) 1000000000000) (hr : run l a.1) (c : Tco) : ∃ t, total1_S F a c l = some t := by
  obtain ⟨c0, c1⟩ := c
  obtain ⟨h1, h2, h3⟩ := ha
  unfold total1_S
  cases c0
  · obtain ⟨t, h⟩ := tot1_loop F hF l hl (false, c1) l.length F 0 (s1 a.2).1 a.1 0 0 (s1 a.2).1 (s1 a.2).1 (a.1, (a.2.1.1, (a.2.1.2, (a.2.2.1.1, (a.2.2.1.2, a.2.2.2))))) (a.1, (a.2.1.1, (a.2.1.2, (a.2.2.1.1, (a.2.2.1.2, a.2.2.2))))) (by omega) (by omega) hr hm h1 (by omega)
    exact ⟨_, ob_at rfl (ob_at h rfl)⟩
  · obtain ⟨t, h⟩ := tot1_loop F hF l hl (true, c1) l.length F 0 (s1 a.2).2 a.1 0 0 (s1 a.2).2 (s1 a.2).2 (a.1, (a.2.1.1, (a.2.1.2, (a.2.2.1.1, (a.2.2.1.2, a.2.2.2))))) (a.1, (a.2.1.1, (a.2.1.2, (a.2.2.1.1, (a.2.2.1.2, a.2.2.2))))) (by omega) (by omega) hr hm (by omega) (by omega)
    exact ⟨_, ob_at rfl (ob_at h rfl)⟩
theorem fil1_a (l : List Tst) (hl : l.length ≤ 200) (c : Tco) (R : (Int × (Int × (Int × (Int × (Int × (Int × (Int × (Int × (Int × (Int × (Int × (Int × (Int × (Int × (Int × (Int × (Int × (Int × (Int × (Int × (Int × (Int × (Int × (Int × Int))))))))))))))))))))))))) (sls : List Tfr) (a f : Int × (Int × (Int × (Int × (Int × (Int × Int)))))) (e : Int) : ∀ (j k i : Nat) (d m : Int) (cl : Nat) (ts : List (Int × Nat × Tc3)), i + j = l.length → j < k → run (l.drop i) m → 0 ≤ m ∧ m ≤ 1000000000 → 0 ≤ d → d + 1000000000000 * j ≤ 400000000000000 → ∃ cl' ts', fill1_rf0_L F k ((d, m, ((l.length - 0) : Int), (i : Int)), (l, R, sls, a, (cl, ts), e, f, c)) = some (l, R, sls, a, (cl', ts'), e, f, c) ∧ (∀ q, q < j → getT (0, (0, 0)) ((i : Int) + (q : Int)) ts' = nth (tr s1 c (l.drop i) m d) z3 q) ∧ (∀ w : Int, w < i → getT (0, (0, 0)) w ts' = getT (0, (0, 0)) w ts)
  | j, 0, _, _, _, _, _, _, h, _, _, _, _ => by omega
  | 0, k + 1, i, d, m, cl, ts, h, _, _, _, _, _ => by
    simp only [fill1_rf0_L]
    rw [dec_f (show ¬ (i : Int) < (l.length - 0 : Int) by omega)]
    exact ⟨_, _, rfl, fun q hq => absurd hq (by omega), fun _ _ => rfl⟩
  | j + 1, k + 1, i, d, m, cl, ts, h, hj, hr, hm, hd, hD => by
    have hi : i < l.length := by omega
    rw [drop_c hi zS] at hr ⊢
    simp only [fill1_rf0_L]
    rw [dec_t (show (i : Int) < (l.length - 0 : Int) by omega), show inB (i : Int) (l.length - 0) = true from inB_t hi, Int.toNat_natCast]
    generalize hx : nth l zS i = x at hr ⊢
    obtain ⟨hs, hg0, hg1, hr'⟩ := hr
    simp only [cond_true]
    rw [ch1_eq F hF hs hg0 hm.2 (by omega), ob_some]
    have hq := ch_in (st_R sp1 hs) hg0 hd
    rw [tr]
    generalize hr0 : ch (s1 x.2.2) x d m = r at hq ⊢
    have hn := nx_in (st_R sp1 hs) hg0 hd (n := pn c x r) (by rw [hr0]; exact pn_in c x hq.2.1)
    rw [show pick_S F (i : Int) r.1 r.2 c l = some (pn c x r, c) from pick_eq F hi hx, ob_some]
    have hw : 0 ≤ nx x d (pn c x r) ∧ nx x d (pn c x r) ≤ 1000000000000000 := ⟨hn.2.1, by omega⟩
    obtain ⟨cl', ts', e1, e2, e3⟩ := fil1_a l hl c R sls a f e j k (i + 1) (nx x d (pn c x r)) (gm m x) (newCl (i : Int) cl ts) (updT (i : Int) cl (r.1, (r.2, nx x d (pn c x r))) ts) (by omega) (by omega) hr' ⟨hg0, hg1⟩ hn.2.1 (by omega)
    refine ⟨cl', ts', ?_, fun q hq' => ?_, fun w hw' => ?_⟩
    rotate_left
    · cases q with
      | zero =>
        rw [show (i : Int) + ((0 : Nat) : Int) = (i : Int) by omega, e3 _ (by omega), getT_upd]
        rfl
      | succ q =>
        rw [show (i : Int) + ((q + 1 : Nat) : Int) = ((i + 1 : Nat) : Int) + (q : Int) by omega, e2 q (by omega)]
        rfl
    · rw [e3 w (by omega), getT_upd_ne _ (by omega)]
    rcases stK4 hs with k1 | k1 | k1 | k1
    · have b1 : (x.1 == 1) = true := bq k1
      have b2 : (x.1 == 2) = false := bn (by omega)
      have b3 : (x.1 == 3) = false := bn (by omega)
      have b4 : (x.1 == 4) = false := bn (by omega)
      simp only [b2, b3, cond_false]
      rw [grown_eq F (stM hs) hm, ob_some, wSub (by omega) hw, wI i hi hl]
      exact e1
    · have b1 : (x.1 == 1) = false := bn (by omega)
      have b2 : (x.1 == 2) = true := bq k1
      have b3 : (x.1 == 3) = false := bn (by omega)
      have b4 : (x.1 == 4) = false := bn (by omega)
      simp only [b2, b3, cond_true, cond_false]
      rw [grown_eq F (stM hs) hm, ob_some, wAdd (by omega) hw, wI i hi hl]
      exact e1
    · have b1 : (x.1 == 1) = false := bn (by omega)
      have b2 : (x.1 == 2) = false := bn (by omega)
      have b3 : (x.1 == 3) = true := bq k1
      have b4 : (x.1 == 4) = false := bn (by omega)
      simp only [b2, b3, cond_true, cond_false]
      rw [grown_eq F (stM hs) hm, ob_some, wAdd (by omega) hw, wI i hi hl]
      exact e1
    · have b1 : (x.1 == 1) = false := bn (by omega)
      have b2 : (x.1 == 2) = false := bn (by omega)
      have b3 : (x.1 == 3) = false := bn (by omega)
      have b4 : (x.1 == 4) = true := bq k1
      simp only [b2, b3, cond_false]
      rw [grown_eq F (stM hs) hm, ob_some, wSub (by omega) hw, wI i hi hl]
      exact e1
theorem fil1_b (l : List Tst) (hl : l.length ≤ 200) (a f : Int × (Int × (Int × (Int × (Int × (Int × Int)))))) (e : Int) (cl : Nat) (ts : List (Int × Nat × Tc3)) : ∀ (j k i : Nat) (d dr m : Int) (R : (Int × (Int × (Int × (Int × (Int × (Int × (Int × (Int × (Int × (Int × (Int × (Int × (Int × (Int × (Int × (Int × (Int × (Int × (Int × (Int × (Int × (Int × (Int × (Int × Int))))))))))))))))))))))))) (sls : List Tfr) (kk : Nat), i + j = l.length → j < k → run (l.drop i) m → 0 ≤ m ∧ m ≤ 1000000000 → 0 ≤ d → d + 1000000000000 * j ≤ 400000000000000 → (∀ q, q < j → getT (0, (0, 0)) ((i : Int) + (q : Int)) ts = nth (tr s1 richC (l.drop i) m dr) z3 q) → kk + (sl s1 (l.drop i) m d dr).length ≤ sls.length → sls.length ≤ 200 → ∃ R' kk', fill1_rf1_L F k ((d, m, ((l.length - 0) : Int), (i : Int)), (l, R, sls, a, (kk : Int), (cl, ts), e, f, poorC)) = some (l, R', puts put1 sls kk (sl s1 (l.drop i) m d dr), a, kk', (cl, ts), e, f, poorC)
  | j, 0, _, _, _, _, _, _, _, h, _, _, _, _, _, _, _, _ => by omega
  | 0, k + 1, i, d, dr, m, R, sls, kk, h, _, _, _, _, _, _, _, _ => by
    simp only [fill1_rf1_L]
    rw [dec_f (show ¬ (i : Int) < (l.length - 0 : Int) by omega), List.drop_eq_nil_of_le (by omega)]
    exact ⟨_, _, rfl⟩
  | j + 1, k + 1, i, d, dr, m, R, sls, kk, h, hj, hr, hm, hd, hD, ht, hk, hk2 => by
    have hi : i < l.length := by omega
    rw [drop_c hi zS] at hr hk ht ⊢
    simp only [fill1_rf1_L]
    rw [dec_t (show (i : Int) < (l.length - 0 : Int) by omega), show inB (i : Int) (l.length - 0) = true from inB_t hi, Int.toNat_natCast]
    generalize hx : nth l zS i = x at hr hk ht ⊢
    obtain ⟨hs, hg0, hg1, hr'⟩ := hr
    simp only [cond_true]
    have ht0 : getT (0, (0, 0)) (i : Int) ts = ((ch (s1 x.2.2) x dr m).1, ((ch (s1 x.2.2) x dr m).2, nx x dr (pn richC x (ch (s1 x.2.2) x dr m)))) := by
      have h0 := ht 0 (by omega)
      rw [show (i : Int) + ((0 : Nat) : Int) = (i : Int) by omega] at h0
      exact h0
    have ht' : ∀ q, q < j → getT (0, (0, 0)) (((i + 1 : Nat) : Int) + (q : Int)) ts = nth (tr s1 richC (l.drop (i + 1)) (gm m x) (nx x dr (pn richC x (ch (s1 x.2.2) x dr m)))) z3 q := by
      intro q hq
      have h0 := ht (q + 1) (by omega)
      rw [show (i : Int) + ((q + 1 : Nat) : Int) = ((i + 1 : Nat) : Int) + (q : Int) by omega] at h0
      exact h0
    rw [ht0]
    rw [ch1_eq F hF hs hg0 hm.2 (by omega), ob_some]
    have hq := ch_in (st_R sp1 hs) hg0 hd
    rw [sl] at hk ⊢
    generalize hr0 : ch (s1 x.2.2) x d m = r at hq hk ⊢
    generalize ch (s1 x.2.2) x dr m = rr at hk ht' ⊢
    have hn := nx_in (st_R sp1 hs) hg0 hd (n := pn poorC x r) (by rw [hr0]; exact pn_in poorC x hq.2.1)
    rw [show pick_S F (i : Int) r.1 r.2 poorC l = some (pn poorC x r, poorC) from pick_eq F hi hx, ob_some]
    have hw : 0 ≤ nx x d (pn poorC x r) ∧ nx x d (pn poorC x r) ≤ 1000000000000000 := ⟨hn.2.1, by omega⟩
    rcases stK4 hs with k1 | k1 | k1 | k1
    · have b1 : (x.1 == 1) = true := bq k1
      have b2 : (x.1 == 2) = false := bn (by omega)
      have b3 : (x.1 == 3) = false := bn (by omega)
      have b4 : (x.1 == 4) = false := bn (by omega)
      rw [if_pos k1, List.length_cons] at hk
      rw [if_pos k1]
      simp only [b1, b2, b3, cond_true, cond_false]
      rw [grown_eq F (stM hs) hm, ob_some, show inB (kk : Int) (sls.length - 0) = true from inB_t (by omega), wSub (by omega) hw, wI i hi hl, w64 ((kk : Int) + 1) (by omega), Int.toNat_natCast]
      exact fil1_b l hl a f e cl ts j k (i + 1) _ _ _ _ (sls.set kk (put1 (nth sls zF kk) (r.1, rr.2))) (kk + 1) (by omega) (by omega) hr' ⟨hg0, hg1⟩ hn.2.1 (by omega) ht' (by rw [List.length_set]; omega) (by rw [List.length_set]; omega)
    · have b1 : (x.1 == 1) = false := bn (by omega)
      have b2 : (x.1 == 2) = true := bq k1
      have b3 : (x.1 == 3) = false := bn (by omega)
      have b4 : (x.1 == 4) = false := bn (by omega)
      rw [if_neg (by omega)] at hk
      rw [if_neg (show ¬ x.1 = 1 by omega)]
      simp only [b1, b2, b3, cond_true, cond_false]
      rw [grown_eq F (stM hs) hm, ob_some, wAdd (by omega) hw, wI i hi hl]
      exact fil1_b l hl a f e cl ts j k (i + 1) _ _ _ _ sls kk (by omega) (by omega) hr' ⟨hg0, hg1⟩ hn.2.1 (by omega) ht' hk hk2
    · have b1 : (x.1 == 1) = false := bn (by omega)
      have b2 : (x.1 == 2) = false := bn (by omega)
      have b3 : (x.1 == 3) = true := bq k1
      have b4 : (x.1 == 4) = false := bn (by omega)
      rw [if_neg (by omega)] at hk
      rw [if_neg (show ¬ x.1 = 1 by omega)]
      simp only [b1, b2, b3, cond_true, cond_false]
      rw [grown_eq F (stM hs) hm, ob_some, wAdd (by omega) hw, wI i hi hl]
      exact fil1_b l hl a f e cl ts j k (i + 1) _ _ _ _ sls kk (by omega) (by omega) hr' ⟨hg0, hg1⟩ hn.2.1 (by omega) ht' hk hk2
    · have b1 : (x.1 == 1) = false := bn (by omega)
      have b2 : (x.1 == 2) = false := bn (by omega)
      have b3 : (x.1 == 3) = false := bn (by omega)
      have b4 : (x.1 == 4) = true := bq k1
      rw [if_neg (by omega)] at hk
      rw [if_neg (show ¬ x.1 = 1 by omega)]
      simp only [b1, b2, b3, cond_false]
      rw [grown_eq F (stM hs) hm, ob_some, wSub (by omega) hw, wI i hi hl]
      exact fil1_b l hl a f e cl ts j k (i + 1) _ _ _ _ sls kk (by omega) (by omega) hr' ⟨hg0, hg1⟩ hn.2.1 (by omega) ht' hk hk2
/-- What fill makes of the slices. -/
theorem fil1 (l : List Tst) (hl : l.length ≤ 200) (a : Tfr) (hm : 0 ≤ a.1 ∧ a.1 ≤ 1000000000) (ha : okR (s1 a.2) 1000000000000) (hr : run l a.1) (R : Tfr × (Tb × (Tb × Tb))) (sls : List Tfr) (hk : (sl s1 l a.1 (s1 a.2).1 (s1 a.2).2).length ≤ sls.length) (hk2 : sls.length ≤ 200) : ∃ R', fill1_S F a l R sls = some (R', puts put1 sls 0 (sl s1 l a.1 (s1 a.2).1 (s1 a.2).2)) := by
  obtain ⟨h1, h2, h3⟩ := id ha
  unfold fill1_S
  have h0 := fun R0 => fil1_a F hF l hl richC R0 sls (a.1, (a.2.1.1, (a.2.1.2, (a.2.2.1.1, (a.2.2.1.2, a.2.2.2))))) (a.1, (a.2.1.1, (a.2.1.2, (a.2.2.1.1, (a.2.2.1.2, a.2.2.2))))) (s1 a.2).2 l.length F 0 (s1 a.2).2 a.1 0 [] (by omega) (by omega) hr hm (by omega) (by omega)
  obtain ⟨cl, ts, e1, e2, _⟩ := h0 _
  obtain ⟨R1, kk, e3⟩ := fil1_b F hF l hl (a.1, (a.2.1.1, (a.2.1.2, (a.2.2.1.1, (a.2.2.1.2, a.2.2.2))))) (a.1, (a.2.1.1, (a.2.1.2, (a.2.2.1.1, (a.2.2.1.2, a.2.2.2))))) (s1 a.2).1 cl ts l.length F 0 (s1 a.2).1 (s1 a.2).2 a.1 _ sls 0 (by omega) (by omega) hr hm h1 (by omega) e2 (by rw [List.drop_zero]; omega) hk2
  obtain ⟨t1, e4⟩ := tot1 F hF l hl a hm ha hr (false, (false, true))
  obtain ⟨t2, e5⟩ := tot1 F hF l hl a hm ha hr (true, (true, false))
  obtain ⟨t3, e6⟩ := tot1 F hF l hl a hm ha hr (false, (true, false))
  obtain ⟨t4, e7⟩ := tot1 F hF l hl a hm ha hr (true, (false, true))
  exact ⟨_, ob_at e1 (ob_at e3 (ob_at e4 (ob_at e5 (ob_at e6 (ob_at e7 rfl)))))⟩
end
end M3
end Go.Proofs.YtcbbhiobibhdnaaDoor


namespace Go.Proofs.YtcbbhiobibhdnaaDoor
namespace M3
open Go.RowKit U8
set_option maxRecDepth 100000
set_option maxHeartbeats 4000000
section
variable (F : Nat) (hF : 2000 < F)
include hF
theorem tot2_loop (l : List Tst) (hl : l.length ≤ 200) (c : Tco) : ∀ (j k i : Nat) (d m so go dd e : Int) (a f : Int × (Int × (Int × (Int × (Int × (Int × Int)))))), i + j = l.length → j < k → run (l.drop i) m → 0 ≤ m ∧ m ≤ 1000000000 → 0 ≤ d → d + 1000000000000 * j ≤ 400000000000000 → ∃ t, total2_rf0_L F k ((d, m, ((l.length - 0) : Int), (i : Int)), (l, a, so, go, dd, e, f, c)) = some t
  | j, 0, _, _, _, _, _, _, _, _, _, _, h, _, _, _, _ => by omega
  | 0, k + 1, i, d, m, so, go, dd, e, a, f, h, _, _, _, _, _ => by
    simp only [total2_rf0_L]
    rw [dec_f (show ¬ (i : Int) < (l.length - 0 : Int) by omega)]
    exact ⟨_, rfl⟩
  | j + 1, k + 1, i, d, m, so, go, dd, e, a, f, h, hj, hr, hm, hd, hD => by
    have hi : i < l.length := by omega
    have hx : nth l zS i = nth l zS i := rfl
    rw [drop_c hi zS] at hr
    simp only [total2_rf0_L]
    rw [dec_t (show (i : Int) < (l.length - 0 : Int) by omega), show inB (i : Int) (l.length - 0) = true from inB_t hi, Int.toNat_natCast]
    generalize hx : nth l zS i = x at hr ⊢
    obtain ⟨hs, hg0, hg1, hr'⟩ := hr
    simp only [cond_true]
    rw [ch2_eq F hF hs hg0 hm.2 (by omega), ob_some]
    have hq := ch_in (st_R sp2 hs) hg0 hd
    generalize hr0 : ch (s2 x.2.2) x d m = r at hq ⊢
    have hn := nx_in (st_R sp2 hs) hg0 hd (n := pn c x r) (by rw [hr0]; exact pn_in c x hq.2.1)
    rw [show pick_S F (i : Int) r.1 r.2 c l = some (pn c x r, c) from pick_eq F hi hx, ob_some]
    have hw : 0 ≤ nx x d (pn c x r) ∧ nx x d (pn c x r) ≤ 1000000000000000 := ⟨hn.2.1, by omega⟩
    rcases stK4 hs with k1 | k1 | k1 | k1
    · have b1 : (x.1 == 1) = true := bq k1
      have b2 : (x.1 == 2) = false := bn (by omega)
      have b3 : (x.1 == 3) = false := bn (by omega)
      have b4 : (x.1 == 4) = false := bn (by omega)
      simp only [b1, b2, b3, b4, cond_true, cond_false]
      rw [grown_eq F (stM hs) hm, ob_some, wSub (by omega) hw, wI i hi hl]
      exact tot2_loop l hl c j k (i + 1) _ _ _ _ _ _ _ _ (by omega) (by omega) hr' ⟨hg0, hg1⟩ hn.2.1 (by omega)
    · have b1 : (x.1 == 1) = false := bn (by omega)
      have b2 : (x.1 == 2) = true := bq k1
      have b3 : (x.1 == 3) = false := bn (by omega)
      have b4 : (x.1 == 4) = false := bn (by omega)
      simp only [b1, b2, b3, b4, cond_true, cond_false]
      rw [grown_eq F (stM hs) hm, ob_some, wAdd (by omega) hw, wI i hi hl]
      exact tot2_loop l hl c j k (i + 1) _ _ _ _ _ _ _ _ (by omega) (by omega) hr' ⟨hg0, hg1⟩ hn.2.1 (by omega)
    · have b1 : (x.1 == 1) = false := bn (by omega)
      have b2 : (x.1 == 2) = false := bn (by omega)
      have b3 : (x.1 == 3) = true := bq k1
      have b4 : (x.1 == 4) = false := bn (by omega)
      simp only [b1, b2, b3, b4, cond_true, cond_false]
      rw [grown_eq F (stM hs) hm, ob_some, wAdd (by omega) hw, wI i hi hl]
      exact tot2_loop l hl c j k (i + 1) _ _ _ _ _ _ _ _ (by omega) (by omega) hr' ⟨hg0, hg1⟩ hn.2.1 (by omega)
    · have b1 : (x.1 == 1) = false := bn (by omega)
      have b2 : (x.1 == 2) = false := bn (by omega)
      have b3 : (x.1 == 3) = false := bn (by omega)
      have b4 : (x.1 == 4) = true := bq k1
      simp only [b1, b2, b3, b4, cond_true, cond_false]
      rw [grown_eq F (stM hs) hm, ob_some, wSub (by omega) hw, wI i hi hl]
      exact tot2_loop l hl c j k (i + 1) _ _ _ _ _ _ _ _ (by omega) (by omega) hr' ⟨hg0, hg1⟩ hn.2.1 (by omega)
theorem tot2 (l : List Tst) (hl : l.length ≤ 200) (a : Tfr) (hm : 0 ≤ a.1 ∧ a.1 ≤ 1000000000) (ha : okR (s2 a.2) 1000000000000) (hr : run l a.1) (c : Tco) : ∃ t, total2_S F a c l = some t := by
  obtain ⟨c0, c1⟩ := c
  obtain ⟨h1, h2, h3⟩ := ha
  unfold total2_S
  cases c0
  · obtain ⟨t, h⟩ := tot2_loop F hF l hl (false, c1) l.length F 0 (s2 a.2).1 a.1 0 0 (s2 a.2).1 (s2 a.2).1 (a.1, (a.2.1.1, (a.2.1.2, (a.2.2.1.1, (a.2.2.1.2, a.2.2.2))))) (a.1, (a.2.1.1, (a.2.1.2, (a.2.2.1.1, (a.2.2.1.2, a.2.2.2))))) (by omega) (by omega) hr hm h1 (by omega)
    exact ⟨_, ob_at rfl (ob_at h rfl)⟩
  · obtain ⟨t, h⟩ := tot2_loop F hF l hl (true, c1) l.length F 0 (s2 a.2).2 a.1 0 0 (s2 a.2).2 (s2 a.2).2 (a.1, (a.2.1.1, (a.2.1.2, (a.2.2.1.1, (a.2.2.1.2, a.2.2.2))))) (a.1, (a.2.1.1, (a.2.1.2, (a.2.2.1.1, (a.2.2.1.2, a.2.2.2))))) (by omega) (by omega) hr hm (by omega) (by omega)
    exact ⟨_, ob_at rfl (ob_at h rfl)⟩
theorem fil2_a (l : List Tst) (hl : l.length ≤ 200) (c : Tco) (R : (Int × (Int × (Int × (Int × (Int × (Int × (Int × (Int × (Int × (Int × (Int × (Int × (Int × (Int × (Int × (Int × (Int × (Int × (Int × (Int × (Int × (Int × (Int × (Int × Int))))))))))))))))))))))))) (sls : List Tfr) (a f : Int × (Int × (Int × (Int × (Int × (Int × Int)))))) (e : Int) : ∀ (j k i : Nat) (d m : Int) (cl : Nat) (ts : List (Int × Nat × Tc3)), i + j = l.length → j < k → run (l.drop i) m → 0 ≤ m ∧ m ≤ 1000000000 → 0 ≤ d → d + 1000000000000 * j ≤ 400000000000000 → ∃ cl' ts', fill2_rf0_L F k ((d, m, ((l.length - 0) : Int), (i : Int)), (l, R, sls, a, (cl, ts), e, f, c)) = some (l, R, sls, a, (cl', ts'), e, f, c) ∧ (∀ q, q < j → getT (0, (0, 0)) ((i : Int) + (q : Int)) ts' = nth (tr s2 c (l.drop i) m d) z3 q) ∧ (∀ w : Int, w < i → getT (0, (0, 0)) w ts' = getT (0, (0, 0)) w ts)
  | j, 0, _, _, _, _, _, _, h, _, _, _, _ => by omega
  | 0, k + 1, i, d, m, cl, ts, h, _, _, _, _, _ => by
    simp only [fill2_rf0_L]
    rw [dec_f (show ¬ (i : Int) < (l.length - 0 : Int) by omega)]
    exact ⟨_, _, rfl, fun q hq => absurd hq (by omega), fun _ _ => rfl⟩
  | j + 1, k + 1, i, d, m, cl, ts, h, hj, hr, hm, hd, hD => by
    have hi : i < l.length := by omega
    rw [drop_c hi zS] at hr ⊢
    simp only [fill2_rf0_L]
    rw [dec_t (show (i : Int) < (l.length - 0 : Int) by omega), show inB (i : Int) (l.length - 0) = true from inB_t hi, Int.toNat_natCast]
    generalize hx : nth l zS i = x at hr ⊢
    obtain ⟨hs, hg0, hg1, hr'⟩ := hr
    simp only [cond_true]
    rw [ch2_eq F hF hs hg0 hm.2 (by omega), ob_some]
    have hq := ch_in (st_R sp2 hs) hg0 hd
    rw [tr]
    generalize hr0 : ch (s2 x.2.2) x d m = r at hq ⊢
    have hn := nx_in (st_R sp2 hs) hg0 hd (n := pn c x r) (by rw [hr0]; exact pn_in c x hq.2.1)
    rw [show pick_S F (i : Int) r.1 r.2 c l = some (pn c x r, c) from pick_eq F hi hx, ob_some]
    have hw : 0 ≤ nx x d (pn c x r) ∧ nx x d (pn c x r) ≤ 1000000000000000 := ⟨hn.2.1, by omega⟩
    obtain ⟨cl', ts', e1, e2, e3⟩ := fil2_a l hl c R sls a f e j k (i + 1) (nx x d (pn c x r)) (gm m x) (newCl (i : Int) cl ts) (updT (i : Int) cl (r.1, (r.2, nx x d (pn c x r))) ts) (by omega) (by omega) hr' ⟨hg0, hg1⟩ hn.2.1 (by omega)
    refine ⟨cl', ts', ?_, fun q hq' => ?_, fun w hw' => ?_⟩
    rotate_left
    · cases q with
      | zero =>
        rw [show (i : Int) + ((0 : Nat) : Int) = (i : Int) by omega, e3 _ (by omega), getT_upd]
        rfl
      | succ q =>
        rw [show (i : Int) + ((q + 1 : Nat) : Int) = ((i + 1 : Nat) : Int) + (q : Int) by omega, e2 q (by omega)]
        rfl
    · rw [e3 w (by omega), getT_upd_ne _ (by omega)]
    rcases stK4 hs with k1 | k1 | k1 | k1
    · have b1 : (x.1 == 1) = true := bq k1
      have b2 : (x.1 == 2) = false := bn (by omega)
      have b3 : (x.1 == 3) = false := bn (by omega)
      have b4 : (x.1 == 4) = false := bn (by omega)
      simp only [b2, b3, cond_false]
      rw [grown_eq F (stM hs) hm, ob_some, wSub (by omega) hw, wI i hi hl]
      exact e1
    · have b1 : (x.1 == 1) = false := bn (by omega)
      have b2 : (x.1 == 2) = true := bq k1
      have b3 : (x.1 == 3) = false := bn (by omega)
      have b4 : (x.1 == 4) = false := bn (by omega)
      simp only [b2, b3, cond_true, cond_false]
      rw [grown_eq F (stM hs) hm, ob_some, wAdd (by omega) hw, wI i hi hl]
      exact e1
    · have b1 : (x.1 == 1) = false := bn (by omega)
      have b2 : (x.1 == 2) = false := bn (by omega)
      have b3 : (x.1 == 3) = true := bq k1
      have b4 : (x.1 == 4) = false := bn (by omega)
      simp only [b2, b3, cond_true, cond_false]
      rw [grown_eq F (stM hs) hm, ob_some, wAdd (by omega) hw, wI i hi hl]
      exact e1
    · have b1 : (x.1 == 1) = false := bn (by omega)
      have b2 : (x.1 == 2) = false := bn (by omega)
      have b3 : (x.1 == 3) = false := bn (by omega)
      have b4 : (x.1 == 4) = true := bq k1
      simp only [b2, b3, cond_false]
      rw [grown_eq F (stM hs) hm, ob_some, wSub (by omega) hw, wI i hi hl]
      exact e1
theorem fil2_b (l : List Tst) (hl : l.length ≤ 200) (a f : Int × (Int × (Int × (Int × (Int × (Int × Int)))))) (e : Int) (cl : Nat) (ts : List (Int × Nat × Tc3)) : ∀ (j k i : Nat) (d dr m : Int) (R : (Int × (Int × (Int × (Int × (Int × (Int × (Int × (Int × (Int × (Int × (Int × (Int × (Int × (Int × (Int × (Int × (Int × (Int × (Int × (Int × (Int × (Int × (Int × (Int × Int))))))))))))))))))))))))) (sls : List Tfr) (kk : Nat), i + j = l.length → j < k → run (l.drop i) m → 0 ≤ m ∧ m ≤ 1000000000 → 0 ≤ d → d + 1000000000000 * j ≤ 400000000000000 → (∀ q, q < j → getT (0, (0, 0)) ((i : Int) + (q : Int)) ts = nth (tr s2 richC (l.drop i) m dr) z3 q) → kk + (sl s2 (l.drop i) m d dr).length ≤ sls.length → sls.length ≤ 200 → ∃ R' kk', fill2_rf1_L F k ((d, m, ((l.length - 0) : Int), (i : Int)), (l, R, sls, a, (kk : Int), (cl, ts), e, f, poorC)) = some (l, R', puts put2 sls kk (sl s2 (l.drop i) m d dr), a, kk', (cl, ts), e, f, poorC)
  | j, 0, _, _, _, _, _, _, _, h, _, _, _, _, _, _, _, _ => by omega
  | 0, k + 1, i, d, dr, m, R, sls, kk, h, _, _, _, _, _, _, _, _ => by
    simp only [fill2_rf1_L]
    rw [dec_f (show ¬ (i : Int) < (l.length - 0 : Int) by omega), List.drop_eq_nil_of_le (by omega)]
    exact ⟨_, _, rfl⟩
  | j + 1, k + 1, i, d, dr, m, R, sls, kk, h, hj, hr, hm, hd, hD, ht, hk, hk2 => by
    have hi : i < l.length := by omega
    rw [drop_c hi zS] at hr hk ht ⊢
    simp only [fill2_rf1_L]
    rw [dec_t (show (i : Int) < (l.length - 0 : Int) by omega), show inB (i : Int) (l.length - 0) = true from inB_t hi, Int.toNat_natCast]
    generalize hx : nth l zS i = x at hr hk ht ⊢
    obtain ⟨hs, hg0, hg1, hr'⟩ := hr
    simp only [cond_true]
    have ht0 : getT (0, (0, 0)) (i : Int) ts = ((ch (s2 x.2.2) x dr m).1, ((ch (s2 x.2.2) x dr m).2, nx x dr (pn richC x (ch (s2 x.2.2) x dr m)))) := by
      have h0 := ht 0 (by omega)
      rw [show (i : Int) + ((0 : Nat) : Int) = (i : Int) by omega] at h0
      exact h0
    have ht' : ∀ q, q < j → getT (0, (0, 0)) (((i + 1 : Nat) : Int) + (q : Int)) ts = nth (tr s2 richC (l.drop (i + 1)) (gm m x) (nx x dr (pn richC x (ch (s2 x.2.2) x dr m)))) z3 q := by
      intro q hq
      have h0 := ht (q + 1) (by omega)
      rw [show (i : Int) + ((q + 1 : Nat) : Int) = ((i + 1 : Nat) : Int) + (q : Int) by omega] at h0
      exact h0
    rw [ht0]
    rw [ch2_eq F hF hs hg0 hm.2 (by omega), ob_some]
    have hq := ch_in (st_R sp2 hs) hg0 hd
    rw [sl] at hk ⊢
    generalize hr0 : ch (s2 x.2.2) x d m = r at hq hk ⊢
    generalize ch (s2 x.2.2) x dr m = rr at hk ht' ⊢
    have hn := nx_in (st_R sp2 hs) hg0 hd (n := pn poorC x r) (by rw [hr0]; exact pn_in poorC x hq.2.1)
    rw [show pick_S F (i : Int) r.1 r.2 poorC l = some (pn poorC x r, poorC) from pick_eq F hi hx, ob_some]
    have hw : 0 ≤ nx x d (pn poorC x r) ∧ nx x d (pn poorC x r) ≤ 1000000000000000 := ⟨hn.2.1, by omega⟩
    rcases stK4 hs with k1 | k1 | k1 | k1
    · have b1 : (x.1 == 1) = true := bq k1
      have b2 : (x.1 == 2) = false := bn (by omega)
      have b3 : (x.1 == 3) = false := bn (by omega)
      have b4 : (x.1 == 4) = false := bn (by omega)
      rw [if_pos k1, List.length_cons] at hk
      rw [if_pos k1]
      simp only [b1, b2, b3, cond_true, cond_false]
      rw [grown_eq F (stM hs) hm, ob_some, show inB (kk : Int) (sls.length - 0) = true from inB_t (by omega), wSub (by omega) hw, wI i hi hl, w64 ((kk : Int) + 1) (by omega), Int.toNat_natCast]
      exact fil2_b l hl a f e cl ts j k (i + 1) _ _ _ _ (sls.set kk (put2 (nth sls zF kk) (r.1, rr.2))) (kk + 1) (by omega) (by omega) hr' ⟨hg0, hg1⟩ hn.2.1 (by omega) ht' (by rw [List.length_set]; omega) (by rw [List.length_set]; omega)
    · have b1 : (x.1 == 1) = false := bn (by omega)
      have b2 : (x.1 == 2) = true := bq k1
      have b3 : (x.1 == 3) = false := bn (by omega)
      have b4 : (x.1 == 4) = false := bn (by omega)
      rw [if_neg (by omega)] at hk
      rw [if_neg (show ¬ x.1 = 1 by omega)]
      simp only [b1, b2, b3, cond_true, cond_false]
      rw [grown_eq F (stM hs) hm, ob_some, wAdd (by omega) hw, wI i hi hl]
      exact fil2_b l hl a f e cl ts j k (i + 1) _ _ _ _ sls kk (by omega) (by omega) hr' ⟨hg0, hg1⟩ hn.2.1 (by omega) ht' hk hk2
    · have b1 : (x.1 == 1) = false := bn (by omega)
      have b2 : (x.1 == 2) = false := bn (by omega)
      have b3 : (x.1 == 3) = true := bq k1
      have b4 : (x.1 == 4) = false := bn (by omega)
      rw [if_neg (by omega)] at hk
      rw [if_neg (show ¬ x.1 = 1 by omega)]
      simp only [b1, b2, b3, cond_true, cond_false]
      rw [grown_eq F (stM hs) hm, ob_some, wAdd (by omega) hw, wI i hi hl]
      exact fil2_b l hl a f e cl ts j k (i + 1) _ _ _ _ sls kk (by omega) (by omega) hr' ⟨hg0, hg1⟩ hn.2.1 (by omega) ht' hk hk2
    · have b1 : (x.1 == 1) = false := bn (by omega)
      have b2 : (x.1 == 2) = false := bn (by omega)
      have b3 : (x.1 == 3) = false := bn (by omega)
      have b4 : (x.1 == 4) = true := bq k1
      rw [if_neg (by omega)] at hk
      rw [if_neg (show ¬ x.1 = 1 by omega)]
      simp only [b1, b2, b3, cond_false]
      rw [grown_eq F (stM hs) hm, ob_some, wSub (by omega) hw, wI i hi hl]
      exact fil2_b l hl a f e cl ts j k (i + 1) _ _ _ _ sls kk (by omega) (by omega) hr' ⟨hg0, hg1⟩ hn.2.1 (by omega) ht' hk hk2
/-- What fill makes of the slices. -/
theorem fil2 (l : List Tst) (hl : l.length ≤ 200) (a : Tfr) (hm : 0 ≤ a.1 ∧ a.1 ≤ 1000000000) (ha : okR (s2 a.2) 1000000000000) (hr : run l a.1) (R : Tfr × (Tb × (Tb × Tb))) (sls : List Tfr) (hk : (sl s2 l a.1 (s2 a.2).1 (s2 a.2).2).length ≤ sls.length) (hk2 : sls.length ≤ 200) : ∃ R', fill2_S F a l R sls = some (R', puts put2 sls 0 (sl s2 l a.1 (s2 a.2).1 (s2 a.2).2)) := by
  obtain ⟨h1, h2, h3⟩ := id ha
  unfold fill2_S
  have h0 := fun R0 => fil2_a F hF l hl richC R0 sls (a.1, (a.2.1.1, (a.2.1.2, (a.2.2.1.1, (a.2.2.1.2, a.2.2.2))))) (a.1, (a.2.1.1, (a.2.1.2, (a.2.2.1.1, (a.2.2.1.2, a.2.2.2))))) (s2 a.2).2 l.length F 0 (s2 a.2).2 a.1 0 [] (by omega) (by omega) hr hm (by omega) (by omega)
  obtain ⟨cl, ts, e1, e2, _⟩ := h0 _
  obtain ⟨R1, kk, e3⟩ := fil2_b F hF l hl (a.1, (a.2.1.1, (a.2.1.2, (a.2.2.1.1, (a.2.2.1.2, a.2.2.2))))) (a.1, (a.2.1.1, (a.2.1.2, (a.2.2.1.1, (a.2.2.1.2, a.2.2.2))))) (s2 a.2).1 cl ts l.length F 0 (s2 a.2).1 (s2 a.2).2 a.1 _ sls 0 (by omega) (by omega) hr hm h1 (by omega) e2 (by rw [List.drop_zero]; omega) hk2
  obtain ⟨t1, e4⟩ := tot2 F hF l hl a hm ha hr (false, (false, true))
  obtain ⟨t2, e5⟩ := tot2 F hF l hl a hm ha hr (true, (true, false))
  obtain ⟨t3, e6⟩ := tot2 F hF l hl a hm ha hr (false, (true, false))
  obtain ⟨t4, e7⟩ := tot2 F hF l hl a hm ha hr (true, (false, true))
  exact ⟨_, ob_at e1 (ob_at e3 (ob_at e4 (ob_at e5 (ob_at e6 (ob_at e7 rfl)))))⟩
end
end M3
end Go.Proofs.YtcbbhiobibhdnaaDoor


namespace Go.Proofs.YtcbbhiobibhdnaaDoor
namespace M3
open Go.RowKit U8
set_option maxRecDepth 100000
set_option maxHeartbeats 4000000
abbrev zC : Tc3 := TC.dflt (TC.pair (TC.int IntKind.i64) (TC.pair (TC.int IntKind.i64) (TC.int IntKind.i64)))
theorem in_clamp {n a b : Int} (h : a ≤ n ∧ n ≤ b) : (if b < (if a > n then a else n) then b else (if a > n then a else n)) = n := by
  rw [if_neg (show ¬ a > n by omega), if_neg (by omega)]
theorem Tru_c {b : Tb → Tr} {x : Tst} {n : Int} {l : List Tst} {cs : List Int} {m d : Int} (h : Tru b (x :: l) (n :: cs) m d) : inR n (ch (b x.2.2) x d m) ∧ Tru b l cs (gm m x) (nx x d n) := h
section
variable (F : Nat)
theorem told0_eq {cs : List Tc3} {i : Nat} (hi : i < cs.length) {r : Tr} {c : Tc3} (hc : nth cs zC i = c) (hn : inR (g0 c) r) : told0_S F (i : Int) r.1 r.2 true cs = some (g0 c, true) := by
  have hn' : r.1 ≤ g0 c ∧ g0 c ≤ r.2 := hn
  unfold told0_S
  rw [show inB (i : Int) (cs.length - 0) = true from inB_t hi, Int.toNat_natCast, hc]
  show ob (mWithin_S F (g0 c) r.1 r.2) (fun q => some ((if r.2 < (if r.1 > g0 c then r.1 else g0 c) then r.2 else (if r.1 > g0 c then r.1 else g0 c)), q)) = _
  rw [within_eq, dec_t hn', ob_some, in_clamp hn']
theorem told1_eq {cs : List Tc3} {i : Nat} (hi : i < cs.length) {r : Tr} {c : Tc3} (hc : nth cs zC i = c) (hn : inR (g1 c) r) : told1_S F (i : Int) r.1 r.2 true cs = some (g1 c, true) := by
  have hn' : r.1 ≤ g1 c ∧ g1 c ≤ r.2 := hn
  unfold told1_S
  rw [show inB (i : Int) (cs.length - 0) = true from inB_t hi, Int.toNat_natCast, hc]
  show ob (mWithin_S F (g1 c) r.1 r.2) (fun q => some ((if r.2 < (if r.1 > g1 c then r.1 else g1 c) then r.2 else (if r.1 > g1 c then r.1 else g1 c)), q)) = _
  rw [within_eq, dec_t hn', ob_some, in_clamp hn']
theorem told2_eq {cs : List Tc3} {i : Nat} (hi : i < cs.length) {r : Tr} {c : Tc3} (hc : nth cs zC i = c) (hn : inR (g2 c) r) : told2_S F (i : Int) r.1 r.2 true cs = some (g2 c, true) := by
  have hn' : r.1 ≤ g2 c ∧ g2 c ≤ r.2 := hn
  unfold told2_S
  rw [show inB (i : Int) (cs.length - 0) = true from inB_t hi, Int.toNat_natCast, hc]
  show ob (mWithin_S F (g2 c) r.1 r.2) (fun q => some ((if r.2 < (if r.1 > g2 c then r.1 else g2 c) then r.2 else (if r.1 > g2 c then r.1 else g2 c)), q)) = _
  rw [within_eq, dec_t hn', ob_some, in_clamp hn']
theorem folL (l : List Tst) (hl : l.length ≤ 200) (cs : List Tc3) (hcs : cs.length = l.length) (m1 : Tfr) (st en : Tc3) : ∀ (j k i : Nat) (acc : List Tc3), i + j = l.length → j < k → acc.length ≤ i → follow_L0 F ((l.length - 0) : Int) l cs m1 st en k (i : Int) acc = some (l, cs, m1, st, acc ++ fz (l.drop i) (cs.drop i), en)
  | j, 0, _, _, _, h, _ => by omega
  | 0, k + 1, i, acc, h, _, _ => by
    simp only [follow_L0]
    rw [dec_f (show ¬ (i : Int) < (l.length - 0 : Int) by omega), List.drop_eq_nil_of_le (show l.length ≤ i by omega), fz, List.append_nil]
    · rfl
    · intro _ _ _ _ h; cases h
  | j + 1, k + 1, i, acc, h, hj, ha => by
    have hi : i < l.length := by omega
    rw [drop_c hi zS, drop_c (show i < cs.length by omega) zC]
    simp only [follow_L0]
    rw [dec_t (show (i : Int) < (l.length - 0 : Int) by omega), show inB (i : Int) (l.length - 0) = true from inB_t hi, show inB (i : Int) (cs.length - 0) = true from inB_t (by omega), Int.toNat_natCast, wI i hi hl]
    have hlen : ∀ c : Tc3, lenOk (acc.length - 0) (c :: []).length = true := by
      intro c
      unfold lenOk
      rw [dec_t (by simp only [List.length_cons, List.length_nil]; omega)]
    rw [fz]
    by_cases k1 : (nth l zS i).1 = 1
    · rw [if_pos k1, bq k1, hlen]
      simp only [cond_true, cond_false]
      rw [folL l hl cs hcs m1 st en j k (i + 1) _ (by omega) (by omega) (by simp only [List.length_append, List.length_cons, List.length_nil]; omega), List.append_assoc]
      rfl
    · rw [if_neg k1, bn k1]
      simp only [cond_true, cond_false]
      exact folL l hl cs hcs m1 st en j k (i + 1) _ (by omega) (by omega) (by omega)
variable (hF : 2000 < F)
include hF
theorem fol0 (l : List Tst) (hl : l.length ≤ 200) (cs : List Tc3) (hcs : cs.length = l.length) (m1 : Tfr) (st en : Tc3) (sls : List Tc3) (e : Int) (a : Int × (Int × (Int × (Int × (Int × (Int × Int)))))) : ∀ (j k i : Nat) (d m dd : Int), i + j = l.length → j < k → run (l.drop i) m → 0 ≤ m ∧ m ≤ 1000000000 → 0 ≤ d → d + 1000000000000 * j ≤ 400000000000000 → Tru s0 (l.drop i) ((cs.drop i).map g0) m d → ∃ dd', follow_rf2_L F k ((d, m, ((l.length - 0) : Int), (i : Int)), (l, cs, m1, st, sls, en, dd, true, e, a)) = some (l, cs, m1, st, sls, en, dd', true, e, a)
  | j, 0, _, _, _, _, _, h, _, _, _, _, _ => by omega
  | 0, k + 1, i, d, m, dd, h, _, _, _, _, _, _ => by
    simp only [follow_rf2_L]
    rw [dec_f (show ¬ (i : Int) < (l.length - 0 : Int) by omega)]
    exact ⟨_, rfl⟩
  | j + 1, k + 1, i, d, m, dd, h, hj, hr, hm, hd, hD, ht => by
    have hi : i < l.length := by omega
    rw [drop_c hi zS] at hr ht
    rw [drop_c (show i < cs.length by omega) zC, List.map_cons] at ht
    simp only [follow_rf2_L]
    rw [dec_t (show (i : Int) < (l.length - 0 : Int) by omega), show inB (i : Int) (l.length - 0) = true from inB_t hi, Int.toNat_natCast]
    generalize hx : nth l zS i = x at hr ht ⊢
    generalize hc : nth cs zC i = c at ht
    obtain ⟨hs, hg0, hg1, hr'⟩ := hr
    obtain ⟨hn0, ht'⟩ := Tru_c ht
    simp only [cond_true]
    rw [ch0_eq F hF hs hg0 hm.2 (by omega), ob_some]
    have hq := ch_in (st_R sp0 hs) hg0 hd
    have hn := nx_in (st_R sp0 hs) hg0 hd hn0
    generalize ch (s0 x.2.2) x d m = r at hq hn0 ⊢
    rw [told0_eq F (by omega) hc hn0, ob_some]
    have hw : 0 ≤ nx x d (g0 c) ∧ nx x d (g0 c) ≤ 1000000000000000 := ⟨hn.2.1, by omega⟩
    rcases stK4 hs with k1 | k1 | k1 | k1
    · have b2 : (x.1 == 2) = false := bn (by omega)
      have b3 : (x.1 == 3) = false := bn (by omega)
      simp only [b2, b3, cond_false]
      rw [grown_eq F (stM hs) hm, ob_some, wSub (by omega) hw, wI i hi hl]
      exact fol0 l hl cs hcs m1 st en sls e a j k (i + 1) _ _ _ (by omega) (by omega) hr' ⟨hg0, hg1⟩ hn.2.1 (by omega) ht'
    · have b2 : (x.1 == 2) = true := bq k1
      have b3 : (x.1 == 3) = false := bn (by omega)
      simp only [b2, b3, cond_true, cond_false]
      rw [grown_eq F (stM hs) hm, ob_some, wAdd (by omega) hw, wI i hi hl]
      exact fol0 l hl cs hcs m1 st en sls e a j k (i + 1) _ _ _ (by omega) (by omega) hr' ⟨hg0, hg1⟩ hn.2.1 (by omega) ht'
    · have b2 : (x.1 == 2) = false := bn (by omega)
      have b3 : (x.1 == 3) = true := bq k1
      simp only [b2, b3, cond_true, cond_false]
      rw [grown_eq F (stM hs) hm, ob_some, wAdd (by omega) hw, wI i hi hl]
      exact fol0 l hl cs hcs m1 st en sls e a j k (i + 1) _ _ _ (by omega) (by omega) hr' ⟨hg0, hg1⟩ hn.2.1 (by omega) ht'
    · have b2 : (x.1 == 2) = false := bn (by omega)
      have b3 : (x.1 == 3) = false := bn (by omega)
      simp only [b2, b3, cond_false]
      rw [grown_eq F (stM hs) hm, ob_some, wSub (by omega) hw, wI i hi hl]
      exact fol0 l hl cs hcs m1 st en sls e a j k (i + 1) _ _ _ (by omega) (by omega) hr' ⟨hg0, hg1⟩ hn.2.1 (by omega) ht'
theorem fol1 (l : List Tst) (hl : l.length ≤ 200) (cs : List Tc3) (hcs : cs.length = l.length) (m1 : Tfr) (st en : Tc3) (sls : List Tc3) (e : Int) (a : Int × (Int × (Int × (Int × (Int × (Int × Int)))))) : ∀ (j k i : Nat) (d m dd : Int), i + j = l.length → j < k → run (l.drop i) m → 0 ≤ m ∧ m ≤ 1000000000 → 0 ≤ d → d + 1000000000000 * j ≤ 400000000000000 → Tru s1 (l.drop i) ((cs.drop i).map g1) m d → ∃ dd', follow_rf3_L F k ((d, m, ((l.length - 0) : Int), (i : Int)), (l, cs, m1, st, sls, en, dd, true, e, a)) = some (l, cs, m1, st, sls, en, dd', true, e, a)
  | j, 0, _, _, _, _, _, h, _, _, _, _, _ => by omega
  | 0, k + 1, i, d, m, dd, h, _, _, _, _, _, _ => by
    simp only [follow_rf3_L]
    rw [dec_f (show ¬ (i : Int) < (l.length - 0 : Int) by omega)]
    exact ⟨_, rfl⟩
  | j + 1, k + 1, i, d, m, dd, h, hj, hr, hm, hd, hD, ht => by
    have hi : i < l.length := by omega
    rw [drop_c hi zS] at hr ht
    rw [drop_c (show i < cs.length by omega) zC, List.map_cons] at ht
    simp only [follow_rf3_L]
    rw [dec_t (show (i : Int) < (l.length - 0 : Int) by omega), show inB (i : Int) (l.length - 0) = true from inB_t hi, Int.toNat_natCast]
    generalize hx : nth l zS i = x at hr ht ⊢
    generalize hc : nth cs zC i = c at ht
    obtain ⟨hs, hg0, hg1, hr'⟩ := hr
    obtain ⟨hn0, ht'⟩ := Tru_c ht
    simp only [cond_true]
    rw [ch1_eq F hF hs hg0 hm.2 (by omega), ob_some]
    have hq := ch_in (st_R sp1 hs) hg0 hd
    have hn := nx_in (st_R sp1 hs) hg0 hd hn0
    generalize ch (s1 x.2.2) x d m = r at hq hn0 ⊢
    rw [told1_eq F (by omega) hc hn0, ob_some]
    have hw : 0 ≤ nx x d (g1 c) ∧ nx x d (g1 c) ≤ 1000000000000000 := ⟨hn.2.1, by omega⟩
    rcases stK4 hs with k1 | k1 | k1 | k1
    · have b2 : (x.1 == 2) = false := bn (by omega)
      have b3 : (x.1 == 3) = false := bn (by omega)
      simp only [b2, b3, cond_false]
      rw [grown_eq F (stM hs) hm, ob_some, wSub (by omega) hw, wI i hi hl]
      exact fol1 l hl cs hcs m1 st en sls e a j k (i + 1) _ _ _ (by omega) (by omega) hr' ⟨hg0, hg1⟩ hn.2.1 (by omega) ht'
    · have b2 : (x.1 == 2) = true := bq k1
      have b3 : (x.1 == 3) = false := bn (by omega)
      simp only [b2, b3, cond_true, cond_false]
      rw [grown_eq F (stM hs) hm, ob_some, wAdd (by omega) hw, wI i hi hl]
      exact fol1 l hl cs hcs m1 st en sls e a j k (i + 1) _ _ _ (by omega) (by omega) hr' ⟨hg0, hg1⟩ hn.2.1 (by omega) ht'
    · have b2 : (x.1 == 2) = false := bn (by omega)
      have b3 : (x.1 == 3) = true := bq k1
      simp only [b2, b3, cond_true, cond_false]
      rw [grown_eq F (stM hs) hm, ob_some, wAdd (by omega) hw, wI i hi hl]
      exact fol1 l hl cs hcs m1 st en sls e a j k (i + 1) _ _ _ (by omega) (by omega) hr' ⟨hg0, hg1⟩ hn.2.1 (by omega) ht'
    · have b2 : (x.1 == 2) = false := bn (by omega)
      have b3 : (x.1 == 3) = false := bn (by omega)
      simp only [b2, b3, cond_false]
      rw [grown_eq F (stM hs) hm, ob_some, wSub (by omega) hw, wI i hi hl]
      exact fol1 l hl cs hcs m1 st en sls e a j k (i + 1) _ _ _ (by omega) (by omega) hr' ⟨hg0, hg1⟩ hn.2.1 (by omega) ht'
theorem fol2 (l : List Tst) (hl : l.length ≤ 200) (cs : List Tc3) (hcs : cs.length = l.length) (m1 : Tfr) (st en : Tc3) (sls : List Tc3) (e : Int) (a : Int × (Int × (Int × (Int × (Int × (Int × Int)))))) : ∀ (j k i : Nat) (d m dd : Int), i + j = l.length → j < k → run (l.drop i) m → 0 ≤ m ∧ m ≤ 1000000000 → 0 ≤ d → d + 1000000000000 * j ≤ 400000000000000 → Tru s2 (l.drop i) ((cs.drop i).map g2) m d → ∃ dd', follow_rf4_L F k ((d, m, ((l.length - 0) : Int), (i : Int)), (l, cs, m1, st, sls, en, dd, true, e, a)) = some (l, cs, m1, st, sls, en, dd', true, e, a)
  | j, 0, _, _, _, _, _, h, _, _, _, _, _ => by omega
  | 0, k + 1, i, d, m, dd, h, _, _, _, _, _, _ => by
    simp only [follow_rf4_L]
    rw [dec_f (show ¬ (i : Int) < (l.length - 0 : Int) by omega)]
    exact ⟨_, rfl⟩
  | j + 1, k + 1, i, d, m, dd, h, hj, hr, hm, hd, hD, ht => by
    have hi : i < l.length := by omega
    rw [drop_c hi zS] at hr ht
    rw [drop_c (show i < cs.length by omega) zC, List.map_cons] at ht
    simp only [follow_rf4_L]
    rw [dec_t (show (i : Int) < (l.length - 0 : Int) by omega), show inB (i : Int) (l.length - 0) = true from inB_t hi, Int.toNat_natCast]
    generalize hx : nth l zS i = x at hr ht ⊢
    generalize hc : nth cs zC i = c at ht
    obtain ⟨hs, hg0, hg1, hr'⟩ := hr
    obtain ⟨hn0, ht'⟩ := Tru_c ht
    simp only [cond_true]
    rw [ch2_eq F hF hs hg0 hm.2 (by omega), ob_some]
    have hq := ch_in (st_R sp2 hs) hg0 hd
    have hn := nx_in (st_R sp2 hs) hg0 hd hn0
    generalize ch (s2 x.2.2) x d m = r at hq hn0 ⊢
    rw [told2_eq F (by omega) hc hn0, ob_some]
    have hw : 0 ≤ nx x d (g2 c) ∧ nx x d (g2 c) ≤ 1000000000000000 := ⟨hn.2.1, by omega⟩
    rcases stK4 hs with k1 | k1 | k1 | k1
    · have b2 : (x.1 == 2) = false := bn (by omega)
      have b3 : (x.1 == 3) = false := bn (by omega)
      simp only [b2, b3, cond_false]
      rw [grown_eq F (stM hs) hm, ob_some, wSub (by omega) hw, wI i hi hl]
      exact fol2 l hl cs hcs m1 st en sls e a j k (i + 1) _ _ _ (by omega) (by omega) hr' ⟨hg0, hg1⟩ hn.2.1 (by omega) ht'
    · have b2 : (x.1 == 2) = true := bq k1
      have b3 : (x.1 == 3) = false := bn (by omega)
      simp only [b2, b3, cond_true, cond_false]
      rw [grown_eq F (stM hs) hm, ob_some, wAdd (by omega) hw, wI i hi hl]
      exact fol2 l hl cs hcs m1 st en sls e a j k (i + 1) _ _ _ (by omega) (by omega) hr' ⟨hg0, hg1⟩ hn.2.1 (by omega) ht'
    · have b2 : (x.1 == 2) = false := bn (by omega)
      have b3 : (x.1 == 3) = true := bq k1
      simp only [b2, b3, cond_true, cond_false]
      rw [grown_eq F (stM hs) hm, ob_some, wAdd (by omega) hw, wI i hi hl]
      exact fol2 l hl cs hcs m1 st en sls e a j k (i + 1) _ _ _ (by omega) (by omega) hr' ⟨hg0, hg1⟩ hn.2.1 (by omega) ht'
    · have b2 : (x.1 == 2) = false := bn (by omega)
      have b3 : (x.1 == 3) = false := bn (by omega)
      simp only [b2, b3, cond_false]
      rw [grown_eq F (stM hs) hm, ob_some, wSub (by omega) hw, wI i hi hl]
      exact fol2 l hl cs hcs m1 st en sls e a j k (i + 1) _ _ _ (by omega) (by omega) hr' ⟨hg0, hg1⟩ hn.2.1 (by omega) ht'
theorem follow_eq (l : List Tst) (hl : l.length ≤ 200) (m : Tfr) (hm : 0 ≤ m.1 ∧ m.1 ≤ 1000000000) (hB : okB m.2 1000000000000) (hr : run l m.1) (hc : mCheck_S F m l = some 0) (st : Tc3) (h0 : inR st.1 (s0 m.2)) (h1 : inR st.2.1 (s1 m.2)) (h2 : inR st.2.2 (s2 m.2)) (cs : List Tc3) (hcs : cs.length = l.length) (t0 : Tru s0 l (cs.map g0) m.1 st.1) (t1 : Tru s1 l (cs.map g1) m.1 st.2.1) (t2 : Tru s2 l (cs.map g2) m.1 st.2.2) : ∃ en, follow_S F m st l cs = some ((en, 0), fz l cs) := by
  have e0 := folL F l hl cs hcs m st (0, (0, 0)) l.length F 0 [] (by omega) (by omega) (Nat.le_refl _)
  rw [List.nil_append, List.drop_zero, List.drop_zero] at e0
  obtain ⟨⟨b0, b1, b2⟩, ⟨b3, b4, b5⟩, ⟨b6, b7, b8⟩⟩ := id hB
  have i0 := id h0
  have i1 := id h1
  have i2 := id h2
  unfold inR at i0 i1 i2
  have w0 : mWithin_S F st.1 m.2.1.1 m.2.1.2 = some true := by rw [within_eq]; exact congrArg some (decide_eq_true i0)
  have w1 : mWithin_S F st.2.1 m.2.2.1.1 m.2.2.1.2 = some true := by rw [within_eq]; exact congrArg some (decide_eq_true i1)
  have w2 : mWithin_S F st.2.2 m.2.2.2.1 m.2.2.2.2 = some true := by rw [within_eq]; exact congrArg some (decide_eq_true i2)
  have q0 : 0 ≤ (s0 m.2).1 ∧ (s0 m.2).2 ≤ 1000000000000 := ⟨b0, b2⟩
  have q1 : 0 ≤ (s1 m.2).1 ∧ (s1 m.2).2 ≤ 1000000000000 := ⟨b3, b5⟩
  have q2 : 0 ≤ (s2 m.2).1 ∧ (s2 m.2).2 ≤ 1000000000000 := ⟨b6, b8⟩
  obtain ⟨d0, f0⟩ := fol0 F hF l hl cs hcs m st (0, (0, 0)) (fz l cs) st.1 (m.1, (m.2.1.1, (m.2.1.2, (m.2.2.1.1, (m.2.2.1.2, m.2.2.2))))) l.length F 0 st.1 m.1 st.1 (by omega) (by omega) hr hm (by omega) (by omega) t0
  obtain ⟨d1, f1⟩ := fol1 F hF l hl cs hcs m st (d0, (0, 0)) (fz l cs) st.2.1 (m.1, (m.2.1.1, (m.2.1.2, (m.2.2.1.1, (m.2.2.1.2, m.2.2.2))))) l.length F 0 st.2.1 m.1 st.2.1 (by omega) (by omega) hr hm (by omega) (by omega) t1
  obtain ⟨d2, f2⟩ := fol2 F hF l hl cs hcs m st (d0, (d1, 0)) (fz l cs) st.2.2 (m.1, (m.2.1.1, (m.2.1.2, (m.2.2.1.1, (m.2.2.1.2, m.2.2.2))))) l.length F 0 st.2.2 m.1 st.2.2 (by omega) (by omega) hr hm (by omega) (by omega) t2
  refine ⟨(d0, (d1, d2)), ?_⟩
  unfold follow_S
  refine ob_at hc ?_
  show (bif (((cs.length - 0) : Int) != ((l.length - 0) : Int)) then _ else _) = _
  rw [hcs, show (((l.length - 0) : Int) != ((l.length - 0) : Int)) = false by simp]
  refine ob_at e0 (ob_at w0 ?_)
  refine ob_at (ob_at f0 rfl) (ob_at w1 ?_)
  refine ob_at (ob_at f1 rfl) (ob_at w2 ?_)
  exact ob_at (ob_at f2 rfl) rfl
end
end M3
end Go.Proofs.YtcbbhiobibhdnaaDoor
