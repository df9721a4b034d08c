/- Plain laws: the checks of chapter 3, and what a step may choose. No condition. -/
import Derived.Test.YtcbbhiobibhdnaaDoorWXM3
import Derived.Test.YtcbbhiobibhdnaaDoorWU5
import Derived.Test.YtcbbhiobibhdnaaDoorWV1
import Derived.Test.YtcbbhiobibhdnaaDoorWXN3

namespace Go.Proofs.YtcbbhiobibhdnaaDoor
namespace M3
open Go.RowKit U8
set_option maxRecDepth 100000
abbrev zS : Tst := TC.dflt (TC.pair (TC.int IntKind.u8) (TC.pair (TC.int IntKind.i64) (TC.pair (TC.pair (TC.int IntKind.i64) (TC.int IntKind.i64)) (TC.pair (TC.pair (TC.int IntKind.i64) (TC.int IntKind.i64)) (TC.pair (TC.int IntKind.i64) (TC.int IntKind.i64))))))
instance okR_dec (r : Tr) (m : Int) : Decidable (okR r m) := by unfold okR; infer_instance
instance okB_dec (b : Tb) (m : Int) : Decidable (okB b m) := by unfold okB; infer_instance
theorem xCS {α : Type} {l : List α} {i : Nat} (h : i < l.length) (d : α) : l.drop i = nth l d i :: l.drop (i + 1) := by
 rw [List.drop_eq_getElem_cons h, xAG l d i h]
section
variable (F : Nat)
theorem xBt (n a b : Int) : xA3 F n a b = some (decide (a ≤ n ∧ n ≤ b)) := by
 unfold xA3
 by_cases h : n ≥ a
 ·rw [xAu h]
  exact congrArg some (decide_eq_decide.2 (by omega))
 ·rw [xAv h, xAv (show ¬ (a ≤ n ∧ n ≤ b) by omega)]
  rfl
theorem xHA (r : Tr) (m : Int) : xAT F r m = some (decide (okR r m)) := by
 unfold xAT okR
 by_cases h : 0 ≤ r.1
 ·rw [xAu h]
  by_cases h1 : r.1 ≤ r.2
  ·rw [xAu h1]
   exact congrArg some (decide_eq_decide.2 (by omega))
  ·rw [xAv h1, xAv (show ¬ (0 ≤ r.1 ∧ r.1 ≤ r.2 ∧ r.2 ≤ m) by omega)]
   rfl
 ·rw [xAv h, xAv (show ¬ (0 ≤ r.1 ∧ r.1 ≤ r.2 ∧ r.2 ≤ m) by omega)]
  rfl
theorem xEM (b : Tb) (m : Int) : xAO F b m = some (decide (okB b m)) := by
 unfold xAO
 simp only [xHA, xAd]
 by_cases h0 : okR b.1 m <;> by_cases h1 : okR b.2.1 m <;> by_cases h2 : okR b.2.2 m <;> simp [h0, h1, h2, okB]
theorem xLa (m : Tfr) : xFg F m = some (decide ((0 ≤ m.1 ∧ m.1 ≤ 1000000000) ∧ okB m.2 1000000000000)) := by
 unfold xFg
 rw [xBt, xEM]
 by_cases h0 : 0 ≤ m.1 ∧ m.1 ≤ 1000000000 <;> by_cases h1 : okB m.2 1000000000000 <;> simp [h0, h1]
noncomputable def stepT (M : Int) (B : Tb) (y : Int) (q : Bool) : Option Bool := (bif (M == (0 : Int)) then (ob (xA3 F M (1 : Int) (1000000000 : Int)) (fun r1 => (bif r1 then (ob (xAO F B y) (fun r2 => (some r2))) else (bif (!q) then (ob (xAO F B y) (fun r3 => (some r3))) else (some false))))) else (bif q then (ob (xA3 F M (1 : Int) (1000000000 : Int)) (fun r4 => (bif r4 then (ob (xAO F B y) (fun r5 => (some r5))) else (bif (!q) then (ob (xAO F B y) (fun r6 => (some r6))) else (some false))))) else (some false)))
theorem xGJ (M : Int) (B : Tb) (y : Int) (q : Bool) : ∃ c, stepT F M B y q = some c ∧ (c = true → okB B y ∧ if q then 1 ≤ M ∧ M ≤ 1000000000 else M = 0) := by
 unfold stepT
 simp only [xBt, xEM, xAd]
 by_cases h0 : M = 0
 ·subst h0
  cases q <;> refine ⟨_, rfl, ?_⟩ <;> simp
 ·have e : (M == 0) = false := beq_eq_false_iff_ne.2 h0
  rw [e]
  cases q
  ·exact ⟨_, rfl, by simp⟩
  ·by_cases h1 : 1 ≤ M ∧ M ≤ 1000000000
   ·rw [xAu h1]
    exact ⟨_, rfl, by simp [h1]⟩
   ·rw [xAv h1]
    exact ⟨_, rfl, by simp⟩
theorem xQg (x : Tst) (h : 0 ≤ x.1 ∧ x.1 ≤ 255) : ∃ c, xCQ F x = some c ∧ (c = true → xKu x) := by
 obtain ⟨k, M, B⟩ := x
 have e : IntKind.wrap IntKind.i64 k = k := w64 k (by dsimp only at h; omega)
 unfold xCQ
 simp only [e, xBt, xAd]
 by_cases hk : 1 ≤ k ∧ k ≤ 4
 ·have hk' : k = 1 ∨ k = 2 ∨ k = 3 ∨ k = 4 := by omega
  rcases hk' with rfl | rfl | rfl | rfl
  ·obtain ⟨c, h1, h2⟩ := xGJ F M B 20000 true
   unfold stepT at h1
   simp only [xBt, xEM, xAd] at h1 ⊢
   exact ⟨c, h1, fun hc => Or.inl ⟨rfl, (h2 hc).2, (h2 hc).1⟩⟩
  ·obtain ⟨c, h1, h2⟩ := xGJ F M B 1000000000000 true
   unfold stepT at h1
   simp only [xBt, xEM, xAd] at h1 ⊢
   exact ⟨c, h1, fun hc => Or.inr (Or.inl ⟨rfl, (h2 hc).2, (h2 hc).1⟩)⟩
  ·obtain ⟨c, h1, h2⟩ := xGJ F M B 1000000000000 false
   unfold stepT at h1
   simp only [xBt, xEM, xAd] at h1 ⊢
   exact ⟨c, h1, fun hc => Or.inr (Or.inr (Or.inl ⟨rfl, (h2 hc).2, (h2 hc).1⟩))⟩
  ·obtain ⟨c, h1, h2⟩ := xGJ F M B 10000 false
   unfold stepT at h1
   simp only [xBt, xEM, xAd] at h1 ⊢
   exact ⟨c, h1, fun hc => Or.inr (Or.inr (Or.inr ⟨rfl, (h2 hc).2, (h2 hc).1⟩))⟩
 ·refine ⟨false, ?_, by simp⟩
  simp only [xAv hk]
  rfl
theorem stM {x : Tst} (h : xKu x) : 0 ≤ x.2.1 ∧ x.2.1 ≤ 1000000000 := by
 rcases h with ⟨_, h, _⟩ | ⟨_, h, _⟩ | ⟨_, h, _⟩ | ⟨_, h, _⟩ <;> omega
theorem stK {x : Tst} (h : xKu x) : 1 ≤ x.1 ∧ x.1 ≤ 4 := by
 rcases h with ⟨h, _⟩ | ⟨h, _⟩ | ⟨h, _⟩ | ⟨h, _⟩ <;> omega
theorem xAm {x : Tst} {m : Int} (h : 0 ≤ x.2.1 ∧ x.2.1 ≤ 1000000000) (hm : 0 ≤ m ∧ m ≤ 1000000000) : xAF F m x = some (gm m x) := by
 unfold xAF gm
 by_cases h1 : x.1 = 1
 ·rw [if_pos h1, h1, w64 _ (by omega)]
  rfl
 ·rw [if_neg h1, show (x.1 == 1) = false from beq_eq_false_iff_ne.2 h1]
  by_cases h2 : x.1 = 2
  ·rw [if_pos h2, h2, w64 (m + x.2.1) (by omega)]
   rfl
  ·rw [if_neg h2, show (x.1 == 2) = false from beq_eq_false_iff_ne.2 h2]
   rfl
theorem xN3 (l : List Tst) (hl : l.length ≤ 200) (hk : ∀ x ∈ l, 0 ≤ x.1 ∧ x.1 ≤ 255) : ∀ (j k i : Nat) (m : Int), i + j = l.length → j < k → 0 ≤ m ∧ m ≤ 1000000000 → ∃ v, xBf F ((l.length - 0) : Int) l k m (i : Int) = some v ∧ (∀ g, v = .inr g → run (l.drop i) m) ∧ (∀ p, v = .inl p → p.1 ≠ 0)
 | j, 0, _, _, _, h, _ => by omega
 | 0, k + 1, i, m, h, _, _ => by
  simp only [xBf]
  rw [xAv (show ¬ (i : Int) < (l.length - 0 : Int) by omega)]
  refine ⟨_, rfl, fun g _ => ?_, fun p hp => by cases hp⟩
  rw [List.drop_eq_nil_of_le (by omega)]
  exact trivial
 | j + 1, k + 1, i, m, h, hj, hm => by
  have hi : i < l.length := by omega
  simp only [xBf]
  rw [xAu (show (i : Int) < (l.length - 0 : Int) by omega), show inB (i : Int) (l.length - 0) = true from xCm hi, Int.toNat_natCast]
  rw [xCS hi zS]
  have hx : nth l zS i ∈ l := by
   rw [← xAG l _ i hi]; exact List.getElem_mem hi
  generalize nth l zS i = x at hx ⊢
  obtain ⟨c, h1, h2⟩ := xQg F x (hk x hx)
  rw [h1]
  cases c with
  | false => exact ⟨.inl (2, l), rfl, fun g hg => (by cases hg), fun p hp => (by cases hp; simp)⟩
  | true =>
   have hs := h2 rfl
   simp only [cond_true]
   rw [xAd]
   simp only [Bool.not_true, cond_false]
   rw [xAm F (stM hs) hm, xAd]
   by_cases h3 : gm m x < 0
   ·rw [xAu h3]
    exact ⟨.inl (31, l), rfl, fun g hg => (by cases hg), fun p hp => (by cases hp; simp)⟩
   ·rw [xAv h3]
    by_cases h4 : gm m x > 1000000000
    ·rw [xAu h4]
     exact ⟨.inl (8, l), rfl, fun g hg => (by cases hg), fun p hp => (by cases hp; simp)⟩
    ·rw [xAv h4]
     obtain ⟨v, e1, e2, e3⟩ := xN3 l hl hk j k (i + 1) (gm m x) (by omega) (by omega) (by omega)
     refine ⟨v, ?_, fun g hg => ⟨hs, by omega, by omega, e2 g hg⟩, e3⟩
     rw [w64 _ (by omega)]
     exact e1
theorem xTa (hF : 2000 < F) (m : Tfr) (l : List Tst) (hk : ∀ x ∈ l, 0 ≤ x.1 ∧ x.1 ≤ 255) : ∃ e, xCe F m l = some e ∧ (e = 0 → l.length ≤ 200 ∧ (0 ≤ m.1 ∧ m.1 ≤ 1000000000) ∧ okB m.2 1000000000000 ∧ run l m.1) := by
 unfold xCe
 rw [xLa, xAd]
 by_cases h0 : (0 ≤ m.1 ∧ m.1 ≤ 1000000000) ∧ okB m.2 1000000000000
 ·rw [xAu h0]
  by_cases h1 : l.length ≤ 200
  ·rw [xAv (show ¬ (l.length - 0 : Int) > 200 by omega)]
   obtain ⟨v, e1, e2, e3⟩ := xN3 F l h1 hk l.length F 0 m.1 (by omega) (by omega) h0.1
   simp only [Bool.not_true, cond_false]
   have e1' : xBf F ((l.length - 0) : Int) l F m.1 (0 : Int) = some v := e1
   rw [e1']
   cases v with
   | inl p => exact ⟨p.1, rfl, fun h => absurd h (e3 p rfl)⟩
   | inr g => exact ⟨0, rfl, fun _ => ⟨h1, h0.1, h0.2, e2 g rfl⟩⟩
  ·rw [xAu (show (l.length - 0 : Int) > 200 by omega)]
   exact ⟨5, rfl, fun h => absurd h (by decide)⟩
 ·rw [xAv h0]
  exact ⟨2, rfl, fun h => absurd h (by decide)⟩
end
/-! ## Shares -/
theorem fl_cast (u a b : Nat) : fl (u : Int) (a : Int) (b : Int) = ((u * a / b : Nat) : Int) := by
 unfold fl
 rw [← Int.natCast_mul, ← Int.natCast_ediv]
theorem cl_cast (u a b : Nat) (hb : 1 ≤ b) : cl (u : Int) (a : Int) (b : Int) = (((u * a + (b - 1)) / b : Nat) : Int) := by
 unfold cl
 rw [Int.natCast_ediv, Int.natCast_add, Int.natCast_mul, show (((b - 1 : Nat)) : Int) = (b : Int) - 1 by omega]
section
variable (F : Nat) (hF : 2000 < F) {u a b : Int} (hu : 0 ≤ u ∧ u ≤ 1000000000000000) (ha : 0 ≤ a ∧ a ≤ 1000000000000000) (hb : 1 ≤ b ∧ b ≤ 1000000000000000)
include hF hu ha hb
theorem mdI1 : ∃ z, xAL F u a b 1 = some (if fl u a b ≤ 1000000000000000 then (fl u a b, (z, 0)) else (0, (0, 10))) := by
 obtain ⟨u, rfl⟩ := Int.eq_ofNat_of_zero_le hu.1
 obtain ⟨a, rfl⟩ := Int.eq_ofNat_of_zero_le ha.1
 obtain ⟨b, rfl⟩ := Int.eq_ofNat_of_zero_le (show 0 ≤ b by omega)
 obtain ⟨z, h⟩ := md1 F hF u a b (by omega) (by omega) (by omega)
 refine ⟨z, ?_⟩
 rw [h, fl_cast]
 by_cases hq : u * a / b ≤ 1000000000000000
 ·rw [if_pos hq, if_pos (by omega)]
 ·rw [if_neg hq, if_neg (by omega)]
theorem mdI2 : ∃ z, xAL F u a b 2 = some (if cl u a b ≤ 1000000000000000 then (cl u a b, (z, 0)) else (0, (0, 10))) := by
 obtain ⟨u, rfl⟩ := Int.eq_ofNat_of_zero_le hu.1
 obtain ⟨a, rfl⟩ := Int.eq_ofNat_of_zero_le ha.1
 obtain ⟨b, rfl⟩ := Int.eq_ofNat_of_zero_le (show 0 ≤ b by omega)
 obtain ⟨z, h⟩ := md2 F hF u a b (by omega) (by omega) (by omega)
 refine ⟨z, ?_⟩
 rw [h, cl_cast _ _ _ (by omega)]
 by_cases hq : (u * a + (b - 1)) / b ≤ 1000000000000000
 ·rw [if_pos hq, if_pos (by omega)]
 ·rw [if_neg hq, if_neg (by omega)]
end
theorem cl2 {u a b : Int} (hb : 0 < b) (hu : 0 ≤ u) (h : a ≤ 2 * b) : cl u a b ≤ 2 * u := by
 have h1 := cl_a hb hu h
 have h2 : cl u (2 * b) b = 2 * u := by
  unfold cl
  rw [show u * (2 * b) + (b - 1) = (b - 1) + (2 * u) * b by rw [← Int.mul_assoc, Int.mul_comm u 2]; omega, Int.add_mul_ediv_right _ _ (by omega), Int.ediv_eq_zero_of_lt (by omega) (by omega)]; omega
 omega
theorem mi_eq (u n : Int) : (if u < n then u else n) = mi n u := by unfold mi; split <;> split <;> omega
/-- A share of a mass, for MulDiv: its bounds. -/
theorem sh_b {s k m : Int} (hs : 0 ≤ s ∧ s ≤ 20000) (hk : 0 ≤ k ∧ k ≤ m) (hm : 1 ≤ m ∧ m ≤ 1000000000) : (0 ≤ s * k ∧ s * k ≤ 20000000000000) ∧ s * k ≤ 2 * (10000 * m) := by
 have h1 : 0 ≤ s * k := mul_nn hs.1 hk.1
 have h2 : s * k ≤ 20000 * k := mul_lr hs.2 hk.1
 omega
section
variable (F : Nat) (hF : 2000 < F)
include hF
theorem part1 {s u k m : Int} (hs : 0 ≤ s ∧ s ≤ 20000) (hu : 0 ≤ u ∧ u ≤ 400000000000000) (hk : 0 ≤ k ∧ k ≤ m) (hm : 1 ≤ m ∧ m ≤ 1000000000) : xA6 F s u k m 1 = some (mi (fl u (s * k) (10000 * m)) u) := by
 obtain ⟨h1, h2⟩ := sh_b hs hk hm
 have h3 := cl2 (b := 10000 * m) (by omega) hu.1 h2
 have h4 := xQx (u := u) (a := s * k) (b := 10000 * m) (by omega)
 unfold xA6
 rw [w64 _ (by omega), w64 _ (by omega)]
 obtain ⟨z, h⟩ := mdI1 F hF (u := u) (a := s * k) (b := 10000 * m) (by omega) (by omega) (by omega)
 rw [h, if_pos (by omega), xAd, mi_eq]
theorem part2 {s u k m : Int} (hs : 0 ≤ s ∧ s ≤ 20000) (hu : 0 ≤ u ∧ u ≤ 400000000000000) (hk : 0 ≤ k ∧ k ≤ m) (hm : 1 ≤ m ∧ m ≤ 1000000000) : xA6 F s u k m 2 = some (mi (cl u (s * k) (10000 * m)) u) := by
 obtain ⟨h1, h2⟩ := sh_b hs hk hm
 have h3 := cl2 (b := 10000 * m) (by omega) hu.1 h2
 unfold xA6
 rw [w64 _ (by omega), w64 _ (by omega)]
 obtain ⟨z, h⟩ := mdI2 F hF (u := u) (a := s * k) (b := 10000 * m) (by omega) (by omega) (by omega)
 rw [h, if_pos (by omega), xAd, mi_eq]
end
section
variable (F : Nat)
noncomputable def chT (x : Tst) (q : Tr) (d mass : Int) : Option Tr := (ob (bif (x.1 == (1 : Int)) then (some ((d, mass, (x.2.1 == mass)), (x, q))) else (some ((d, mass, false), (x, q)))) (fun s1 => (bif s1.1.2.2 then (some (s1.1.1, s1.1.1)) else (bif (s1.2.1.1 == (1 : Int)) then (ob (xA6 F s1.2.2.1 s1.1.1 s1.2.1.2.1 s1.1.2.1 (1 : Int)) (fun r => (ob (xA6 F s1.2.2.2 s1.1.1 s1.2.1.2.1 s1.1.2.1 (2 : Int)) (fun r1 => (some (r, r1)))))) else (bif (s1.2.1.1 == (4 : Int)) then (ob (xA6 F s1.2.2.1 s1.1.1 (1 : Int) (1 : Int) (1 : Int)) (fun r2 => (ob (xA6 F s1.2.2.2 s1.1.1 (1 : Int) (1 : Int) (2 : Int)) (fun r3 => (some (r2, r3)))))) else (some (s1.2.2.1, s1.2.2.2)))))))
theorem xRi (hF : 2000 < F) {x : Tst} {r : Tr} {d m : Int} (h : stR x r) (hm : 0 ≤ gm m x) (hm2 : m ≤ 1000000000) (hd : 0 ≤ d ∧ d ≤ 400000000000000) : chT F x r d m = some (ch r x d m) := by
 obtain ⟨k, M, B⟩ := x
 rcases h with ⟨e, h1, h2, h3, h4⟩ | ⟨e, h1, h2, h3, h4⟩ | ⟨e, h1, h2, h3, h4⟩ | ⟨e, h1, h2, h3, h4⟩ <;> dsimp only at e h1 <;> subst e
 ·unfold ch
  rw [if_pos rfl]
  by_cases hx : M = m
  ·rw [if_pos hx]
   subst hx
   unfold chT
   show ob (some ((d, M, (M == M)), _)) _ = _
   rw [beq_self_eq_true]
   rfl
  ·rw [if_neg hx]
   have hb : M < m := by
    have hm' : 0 ≤ m - M := hm
    omega
   have e : (M == m) = false := beq_eq_false_iff_ne.2 hx
   unfold chT
   show ob (some ((d, m, (M == m)), _)) _ = _
   rw [e]
   show ob (xA6 F r.1 d M m 1) (fun q => ob (xA6 F r.2 d M m 2) (fun q1 => some (q, q1))) = _
   rw [part1 F hF (by omega) hd (by omega) (by omega), part2 F hF (by omega) hd (by omega) (by omega)]
 ·rfl
 ·rfl
 ·show ob (xA6 F r.1 d 1 1 1) (fun q => ob (xA6 F r.2 d 1 1 2) (fun q1 => some (q, q1))) = _
  rw [part1 F hF (by omega) hd (by omega) (by omega), part2 F hF (by omega) hd (by omega) (by omega), Int.mul_one r.1, Int.mul_one r.2]
  rfl
theorem xRl (hF : 2000 < F) {x : Tst} {d m : Int} (h : xKu x) (hm : 0 ≤ gm m x) (hm2 : m ≤ 1000000000) (hd : 0 ≤ d ∧ d ≤ 400000000000000) : xCv F x d m = some (ch (s0 x.2.2) x d m) := xRi F hF (xIo sp0 h) hm hm2 hd
theorem xRk (hF : 2000 < F) {x : Tst} {d m : Int} (h : xKu x) (hm : 0 ≤ gm m x) (hm2 : m ≤ 1000000000) (hd : 0 ≤ d ∧ d ≤ 400000000000000) : xCu F x d m = some (ch (s1 x.2.2) x d m) := xRi F hF (xIo sp1 h) hm hm2 hd
theorem xRj (hF : 2000 < F) {x : Tst} {d m : Int} (h : xKu x) (hm : 0 ≤ gm m x) (hm2 : m ≤ 1000000000) (hd : 0 ≤ d ∧ d ≤ 400000000000000) : xCt F x d m = some (ch (s2 x.2.2) x d m) := xRi F hF (xIo sp2 h) hm hm2 hd
theorem xDk {l : List Tst} {i : Nat} (hi : i < l.length) {a b : Int} {c : Tco} {x : Tst} (hx : nth l zS i = x) : xBI F (i : Int) a b c l = some (pn c x (a, b), c) := by
 unfold xBI pn pk
 rw [show inB (i : Int) (l.length - 0) = true from xCm hi, Int.toNat_natCast, hx]
 by_cases h1 : x.1 = 1
 ·rw [if_pos h1, h1]
  obtain ⟨c0, c1, c2⟩ := c
  cases c1 <;> rfl
 ·rw [if_neg h1, show (x.1 == 1) = false from beq_eq_false_iff_ne.2 h1]
  by_cases h4 : x.1 = 4
  ·rw [if_pos h4, h4]
   obtain ⟨c0, c1, c2⟩ := c
   cases c2 <;> rfl
  ·rw [if_neg h4, show (x.1 == 4) = false from beq_eq_false_iff_ne.2 h4]
   obtain ⟨c0, c1, c2⟩ := c
   cases c0 <;> rfl
end
end M3
end Go.Proofs.YtcbbhiobibhdnaaDoor


namespace Go.Proofs.YtcbbhiobibhdnaaDoor
namespace M3
open Go.RowKit U8
set_option maxRecDepth 100000
theorem xAl {α β : Type} {x : Option α} {y : α} {f : α → Option β} {z : Option β} (h : x = some y) (h2 : f y = z) : ob x f = z := by rw [h]; exact h2
theorem xGW {α : Type} (z : α) (n : Int) (cl : Nat) (x : α) : ∀ ts : List (Int × Nat × α), xAS z n (xFB n cl x ts) = x
 | [] => by simp [xFB, xAS]
 | e :: r => by
  unfold xFB
  by_cases h : n = e.1
  ·rw [show (n == e.1) = true from beq_iff_eq.2 h]
   simp [xAS]
  ·have h' : (n == e.1) = false := beq_eq_false_iff_ne.2 h
   rw [h']
   show xAS z n (e :: xFB n cl x r) = x
   unfold xAS
   rw [h']
   exact xGW z n cl x r
theorem xDo {α : Type} (z : α) {n w : Int} (hw : w ≠ n) (cl : Nat) (x : α) : ∀ ts : List (Int × Nat × α), xAS z w (xFB n cl x ts) = xAS z w ts
 | [] => by
  show (bif w == n then x else z) = z
  rw [show (w == n) = false from beq_eq_false_iff_ne.2 hw]
  rfl
 | e :: r => by
  unfold xFB
  by_cases h : n = e.1
  ·rw [show (n == e.1) = true from beq_iff_eq.2 h]
   have h2 : (w == n) = false := beq_eq_false_iff_ne.2 hw
   have h3 : (w == e.1) = false := beq_eq_false_iff_ne.2 (by rw [← h]; exact hw)
   show xAS z w ((n, e.2.1, x) :: r) = _
   unfold xAS
   rw [h2, h3]
   rfl
  ·have h' : (n == e.1) = false := beq_eq_false_iff_ne.2 h
   rw [h']
   show xAS z w (e :: xFB n cl x r) = xAS z w (e :: r)
   unfold xAS
   rw [xDo z hw cl x r]
abbrev zF : Tfr := TC.dflt (TC.pair (TC.int IntKind.i64) (TC.pair (TC.pair (TC.int IntKind.i64) (TC.int IntKind.i64)) (TC.pair (TC.pair (TC.int IntKind.i64) (TC.int IntKind.i64)) (TC.pair (TC.int IntKind.i64) (TC.int IntKind.i64)))))
def z3 : Tc3 := (0, (0, 0))
/-- Ranges that are filled in, one after another. -/
def xEh (f : Tfr → Tr → Tfr) : List Tfr → Nat → List Tr → List Tfr
 | s, _, [] => s
 | s, k, r :: rs => xEh f (s.set k (f (nth s zF k) r)) (k + 1) rs
def xNd (x : Tfr) (r : Tr) : Tfr := (x.1, (r, x.2.2))
def xOT (x : Tfr) (r : Tr) : Tfr := (x.1, (x.2.1, (r, x.2.2.2)))
def xRR (x : Tfr) (r : Tr) : Tfr := (x.1, (x.2.1, (x.2.2.1, r)))
theorem xGM (f : Tfr → Tr → Tfr) : ∀ (rs : List Tr) (s : List Tfr) (k : Nat), (xEh f s k rs).length = s.length
 | [], _, _ => rfl
 | r :: rs, s, k => by rw [xEh, xGM f rs, List.length_set]
def g0 (c : Tc3) : Int := c.1
def g1 (c : Tc3) : Int := c.2.1
def g2 (c : Tc3) : Int := c.2.2
theorem xSe {x : Tst} (h : xKu x) : x.1 = 1 ∨ x.1 = 2 ∨ x.1 = 3 ∨ x.1 = 4 := by have := stK h; omega
theorem bq {a b : Int} (h : a = b) : (a == b) = true := beq_iff_eq.2 h
theorem bn {a b : Int} (h : ¬ a = b) : (a == b) = false := beq_eq_false_iff_ne.2 h
theorem xKs {x : Tst} {d n : Int} (k : x.1 = 2 ∨ x.1 = 3) (h : 0 ≤ nx x d n ∧ nx x d n ≤ 1000000000000000) : IntKind.wrap IntKind.i64 (d + n) = nx x d n := by
 rw [nx_a k] at h ⊢
 exact w64 _ (by omega)
theorem xKr {x : Tst} {d n : Int} (k : x.1 = 1 ∨ x.1 = 4) (h : 0 ≤ nx x d n ∧ nx x d n ≤ 1000000000000000) : IntKind.wrap IntKind.i64 (d - n) = nx x d n := by
 rw [nx_l k] at h ⊢
 exact w64 _ (by omega)
theorem wI (i : Nat) {n : Nat} (h : i < n) (hn : n ≤ 200) : IntKind.wrap IntKind.i64 ((i : Int) + 1) = ((i + 1 : Nat) : Int) := w64 _ (by omega)
end M3
end Go.Proofs.YtcbbhiobibhdnaaDoor


namespace Go.Proofs.YtcbbhiobibhdnaaDoor
namespace M3
open Go.RowKit U8
set_option maxRecDepth 100000
set_option maxHeartbeats 4000000
section
variable (F : Nat) (hF : 2000 < F)
include hF
theorem xC1 (l : List Tst) (hl : l.length ≤ 200) (c : Tco) : ∀ (j k i : Nat) (d m so go dd e : Int) (a f : Int × (Int × (Int × (Int × (Int × (Int × Int)))))), i + j = l.length → j < k → run (l.drop i) m → 0 ≤ m ∧ m ≤ 1000000000 → 0 ≤ d → d + 1000000000000 * j ≤ 400000000000000 → ∃ t, xAE F k ((d, m, ((l.length - 0) : Int), (i : Int)), (l, a, so, go, dd, e, f, c)) = some t
 | j, 0, _, _, _, _, _, _, _, _, _, _, h, _, _, _, _ => by omega
 | 0, k + 1, i, d, m, so, go, dd, e, a, f, h, _, _, _, _, _ => by
  simp only [xAE]
  rw [xAv (show ¬ (i : Int) < (l.length - 0 : Int) by omega)]
  exact ⟨_, rfl⟩
 | j + 1, k + 1, i, d, m, so, go, dd, e, a, f, h, hj, hr, hm, hd, hD => by
  have hi : i < l.length := by omega
  have hx : nth l zS i = nth l zS i := rfl
  rw [xCS hi zS] at hr
  simp only [xAE]
  rw [xAu (show (i : Int) < (l.length - 0 : Int) by omega), show inB (i : Int) (l.length - 0) = true from xCm hi, Int.toNat_natCast]
  generalize hx : nth l zS i = x at hr ⊢
  obtain ⟨hs, hg0, hg1, hr'⟩ := hr
  simp only [cond_true]
  rw [xRl F hF hs hg0 hm.2 (by omega), xAd]
  have hq := xIv (xIo sp0 hs) hg0 hd
  generalize hr0 : ch (s0 x.2.2) x d m = r at hq ⊢
  have hn := xJL (xIo sp0 hs) hg0 hd (n := pn c x r) (by rw [hr0]; exact xJG c x hq.2.1)
  rw [show xBI F (i : Int) r.1 r.2 c l = some (pn c x r, c) from xDk F hi hx, xAd]
  have hw : 0 ≤ nx x d (pn c x r) ∧ nx x d (pn c x r) ≤ 1000000000000000 := ⟨hn.2.1, by omega⟩
  rcases xSe hs with k1 | k1 | k1 | k1
  ·have b1 : (x.1 == 1) = true := bq k1
   have b2 : (x.1 == 2) = false := bn (by omega)
   have b3 : (x.1 == 3) = false := bn (by omega)
   have b4 : (x.1 == 4) = false := bn (by omega)
   simp only [b1, b2, b3, b4, cond_true, cond_false]
   rw [xAm F (stM hs) hm, xAd, xKr (by omega) hw, wI i hi hl]
   exact xC1 l hl c j k (i + 1) _ _ _ _ _ _ _ _ (by omega) (by omega) hr' ⟨hg0, hg1⟩ hn.2.1 (by omega)
  ·have b1 : (x.1 == 1) = false := bn (by omega)
   have b2 : (x.1 == 2) = true := bq k1
   have b3 : (x.1 == 3) = false := bn (by omega)
   have b4 : (x.1 == 4) = false := bn (by omega)
   simp only [b1, b2, b3, b4, cond_true, cond_false]
   rw [xAm F (stM hs) hm, xAd, xKs (by omega) hw, wI i hi hl]
   exact xC1 l hl c j k (i + 1) _ _ _ _ _ _ _ _ (by omega) (by omega) hr' ⟨hg0, hg1⟩ hn.2.1 (by omega)
  ·have b1 : (x.1 == 1) = false := bn (by omega)
   have b2 : (x.1 == 2) = false := bn (by omega)
   have b3 : (x.1 == 3) = true := bq k1
   have b4 : (x.1 == 4) = false := bn (by omega)
   simp only [b1, b2, b3, b4, cond_true, cond_false]
   rw [xAm F (stM hs) hm, xAd, xKs (by omega) hw, wI i hi hl]
   exact xC1 l hl c j k (i + 1) _ _ _ _ _ _ _ _ (by omega) (by omega) hr' ⟨hg0, hg1⟩ hn.2.1 (by omega)
  ·have b1 : (x.1 == 1) = false := bn (by omega)
   have b2 : (x.1 == 2) = false := bn (by omega)
   have b3 : (x.1 == 3) = false := bn (by omega)
   have b4 : (x.1 == 4) = true := bq k1
   simp only [b1, b2, b3, b4, cond_true, cond_false]
   rw [xAm F (stM hs) hm, xAd, xKr (by omega) hw, wI i hi hl]
   exact xC1 l hl c j k (i + 1) _ _ _ _ _ _ _ _ (by omega) (by omega) hr' ⟨hg0, hg1⟩ hn.2.1 (by omega)
theorem tot0 (l : List Tst) (hl : l.length ≤ 200) (a : Tfr) (hm : 0 ≤ a.1 ∧ a.1 ≤ 1000000000) (ha : okR (s0 a.2) 1000000000000) (hr : run l a.1) (c : Tco) : ∃ t, xCN F a c l = some t := by
 obtain ⟨c0, c1⟩ := c
 obtain ⟨h1, h2, h3⟩ := ha
 unfold xCN
 cases c0
 ·obtain ⟨t, h⟩ := xC1 F hF l hl (false, c1) l.length F 0 (s0 a.2).1 a.1 0 0 (s0 a.2).1 (s0 a.2).1 (a.1, (a.2.1.1, (a.2.1.2, (a.2.2.1.1, (a.2.2.1.2, a.2.2.2))))) (a.1, (a.2.1.1, (a.2.1.2, (a.2.2.1.1, (a.2.2.1.2, a.2.2.2))))) (by omega) (by omega) hr hm h1 (by omega)
  exact ⟨_, xAl rfl (xAl h rfl)⟩
 ·obtain ⟨t, h⟩ := xC1 F hF l hl (true, c1) l.length F 0 (s0 a.2).2 a.1 0 0 (s0 a.2).2 (s0 a.2).2 (a.1, (a.2.1.1, (a.2.1.2, (a.2.2.1.1, (a.2.2.1.2, a.2.2.2))))) (a.1, (a.2.1.1, (a.2.1.2, (a.2.2.1.1, (a.2.2.1.2, a.2.2.2))))) (by omega) (by omega) hr hm (by omega) (by omega)
  exact ⟨_, xAl rfl (xAl h rfl)⟩
theorem fil0_a (l : List Tst) (hl : l.length ≤ 200) (c : Tco) (R : (Int × (Int × (Int × (Int × (Int × (Int × (Int × (Int × (Int × (Int × (Int × (Int × (Int × (Int × (Int × (Int × (Int × (Int × (Int × (Int × (Int × (Int × (Int × (Int × Int))))))))))))))))))))))))) (sls : List Tfr) (a f : Int × (Int × (Int × (Int × (Int × (Int × Int)))))) (e : Int) : ∀ (j k i : Nat) (d m : Int) (cl : Nat) (ts : List (Int × Nat × Tc3)), i + j = l.length → j < k → run (l.drop i) m → 0 ≤ m ∧ m ≤ 1000000000 → 0 ≤ d → d + 1000000000000 * j ≤ 400000000000000 → ∃ cl' ts', xA9 F k ((d, m, ((l.length - 0) : Int), (i : Int)), (l, R, sls, a, (cl, ts), e, f, c)) = some (l, R, sls, a, (cl', ts'), e, f, c) ∧ (∀ q, q < j → xAS (0, (0, 0)) ((i : Int) + (q : Int)) ts' = nth (tr s0 c (l.drop i) m d) z3 q) ∧ (∀ w : Int, w < i → xAS (0, (0, 0)) w ts' = xAS (0, (0, 0)) w ts)
 | j, 0, _, _, _, _, _, _, h, _, _, _, _ => by omega
 | 0, k + 1, i, d, m, cl, ts, h, _, _, _, _, _ => by
  simp only [xA9]
  rw [xAv (show ¬ (i : Int) < (l.length - 0 : Int) by omega)]
  exact ⟨_, _, rfl, fun q hq => absurd hq (by omega), fun _ _ => rfl⟩
 | j + 1, k + 1, i, d, m, cl, ts, h, hj, hr, hm, hd, hD => by
  have hi : i < l.length := by omega
  rw [xCS hi zS] at hr ⊢
  simp only [xA9]
  rw [xAu (show (i : Int) < (l.length - 0 : Int) by omega), show inB (i : Int) (l.length - 0) = true from xCm hi, Int.toNat_natCast]
  generalize hx : nth l zS i = x at hr ⊢
  obtain ⟨hs, hg0, hg1, hr'⟩ := hr
  simp only [cond_true]
  rw [xRl F hF hs hg0 hm.2 (by omega), xAd]
  have hq := xIv (xIo sp0 hs) hg0 hd
  rw [tr]
  generalize hr0 : ch (s0 x.2.2) x d m = r at hq ⊢
  have hn := xJL (xIo sp0 hs) hg0 hd (n := pn c x r) (by rw [hr0]; exact xJG c x hq.2.1)
  rw [show xBI F (i : Int) r.1 r.2 c l = some (pn c x r, c) from xDk F hi hx, xAd]
  have hw : 0 ≤ nx x d (pn c x r) ∧ nx x d (pn c x r) ≤ 1000000000000000 := ⟨hn.2.1, by omega⟩
  obtain ⟨cl', ts', e1, e2, e3⟩ := fil0_a l hl c R sls a f e j k (i + 1) (nx x d (pn c x r)) (gm m x) (xCI (i : Int) cl ts) (xFB (i : Int) cl (r.1, (r.2, nx x d (pn c x r))) ts) (by omega) (by omega) hr' ⟨hg0, hg1⟩ hn.2.1 (by omega)
  refine ⟨cl', ts', ?_, fun q hq' => ?_, fun w hw' => ?_⟩
  rotate_left
  ·cases q with
   | zero =>
    rw [show (i : Int) + ((0 : Nat) : Int) = (i : Int) by omega, e3 _ (by omega), xGW]
    rfl
   | succ q =>
    rw [show (i : Int) + ((q + 1 : Nat) : Int) = ((i + 1 : Nat) : Int) + (q : Int) by omega, e2 q (by omega)]
    rfl
  ·rw [e3 w (by omega), xDo _ (by omega)]
  rcases xSe hs with k1 | k1 | k1 | k1
  ·have b1 : (x.1 == 1) = true := bq k1
   have b2 : (x.1 == 2) = false := bn (by omega)
   have b3 : (x.1 == 3) = false := bn (by omega)
   have b4 : (x.1 == 4) = false := bn (by omega)
   simp only [b1, b2, b3, b4, cond_true, cond_false]
   rw [xAm F (stM hs) hm, xAd, xKr (by omega) hw, wI i hi hl]
   exact e1
  ·have b1 : (x.1 == 1) = false := bn (by omega)
   have b2 : (x.1 == 2) = true := bq k1
   have b3 : (x.1 == 3) = false := bn (by omega)
   have b4 : (x.1 == 4) = false := bn (by omega)
   simp only [b1, b2, b3, b4, cond_true, cond_false]
   rw [xAm F (stM hs) hm, xAd, xKs (by omega) hw, wI i hi hl]
   exact e1
  ·have b1 : (x.1 == 1) = false := bn (by omega)
   have b2 : (x.1 == 2) = false := bn (by omega)
   have b3 : (x.1 == 3) = true := bq k1
   have b4 : (x.1 == 4) = false := bn (by omega)
   simp only [b1, b2, b3, b4, cond_true, cond_false]
   rw [xAm F (stM hs) hm, xAd, xKs (by omega) hw, wI i hi hl]
   exact e1
  ·have b1 : (x.1 == 1) = false := bn (by omega)
   have b2 : (x.1 == 2) = false := bn (by omega)
   have b3 : (x.1 == 3) = false := bn (by omega)
   have b4 : (x.1 == 4) = true := bq k1
   simp only [b1, b2, b3, b4, cond_true, cond_false]
   rw [xAm F (stM hs) hm, xAd, xKr (by omega) hw, wI i hi hl]
   exact e1
theorem xLt (l : List Tst) (hl : l.length ≤ 200) (a f : Int × (Int × (Int × (Int × (Int × (Int × Int)))))) (e : Int) (cl : Nat) (ts : List (Int × Nat × Tc3)) : ∀ (j k i : Nat) (d dr m : Int) (R : (Int × (Int × (Int × (Int × (Int × (Int × (Int × (Int × (Int × (Int × (Int × (Int × (Int × (Int × (Int × (Int × (Int × (Int × (Int × (Int × (Int × (Int × (Int × (Int × Int))))))))))))))))))))))))) (sls : List Tfr) (kk : Nat), i + j = l.length → j < k → run (l.drop i) m → 0 ≤ m ∧ m ≤ 1000000000 → 0 ≤ d → d + 1000000000000 * j ≤ 400000000000000 → (∀ q, q < j → xAS (0, (0, 0)) ((i : Int) + (q : Int)) ts = nth (tr s0 xDJ (l.drop i) m dr) z3 q) → kk + (sl s0 (l.drop i) m d dr).length ≤ sls.length → sls.length ≤ 200 → ∃ R' kk', xAr F k ((d, m, ((l.length - 0) : Int), (i : Int)), (l, R, sls, a, (kk : Int), (cl, ts), e, f, xBX)) = some (l, R', xEh xNd sls kk (sl s0 (l.drop i) m d dr), a, kk', (cl, ts), e, f, xBX)
 | j, 0, _, _, _, _, _, _, _, h, _, _, _, _, _, _, _, _ => by omega
 | 0, k + 1, i, d, dr, m, R, sls, kk, h, _, _, _, _, _, _, _, _ => by
  simp only [xAr]
  rw [xAv (show ¬ (i : Int) < (l.length - 0 : Int) by omega), List.drop_eq_nil_of_le (by omega)]
  exact ⟨_, _, rfl⟩
 | j + 1, k + 1, i, d, dr, m, R, sls, kk, h, hj, hr, hm, hd, hD, ht, hk, hk2 => by
  have hi : i < l.length := by omega
  rw [xCS hi zS] at hr hk ht ⊢
  simp only [xAr]
  rw [xAu (show (i : Int) < (l.length - 0 : Int) by omega), show inB (i : Int) (l.length - 0) = true from xCm hi, Int.toNat_natCast]
  generalize hx : nth l zS i = x at hr hk ht ⊢
  obtain ⟨hs, hg0, hg1, hr'⟩ := hr
  simp only [cond_true]
  have ht0 : xAS (0, (0, 0)) (i : Int) ts = ((ch (s0 x.2.2) x dr m).1, ((ch (s0 x.2.2) x dr m).2, nx x dr (pn xDJ x (ch (s0 x.2.2) x dr m)))) := by
   have h0 := ht 0 (by omega)
   rw [show (i : Int) + ((0 : Nat) : Int) = (i : Int) by omega] at h0
   exact h0
  have ht' : ∀ q, q < j → xAS (0, (0, 0)) (((i + 1 : Nat) : Int) + (q : Int)) ts = nth (tr s0 xDJ (l.drop (i + 1)) (gm m x) (nx x dr (pn xDJ x (ch (s0 x.2.2) x dr m)))) z3 q := by
   intro q hq
   have h0 := ht (q + 1) (by omega)
   rw [show (i : Int) + ((q + 1 : Nat) : Int) = ((i + 1 : Nat) : Int) + (q : Int) by omega] at h0
   exact h0
  rw [ht0]
  rw [xRl F hF hs hg0 hm.2 (by omega), xAd]
  have hq := xIv (xIo sp0 hs) hg0 hd
  rw [sl] at hk ⊢
  generalize hr0 : ch (s0 x.2.2) x d m = r at hq hk ⊢
  generalize ch (s0 x.2.2) x dr m = rr at hk ht' ⊢
  have hn := xJL (xIo sp0 hs) hg0 hd (n := pn xBX x r) (by rw [hr0]; exact xJG xBX x hq.2.1)
  rw [show xBI F (i : Int) r.1 r.2 xBX l = some (pn xBX x r, xBX) from xDk F hi hx, xAd]
  have hw : 0 ≤ nx x d (pn xBX x r) ∧ nx x d (pn xBX x r) ≤ 1000000000000000 := ⟨hn.2.1, by omega⟩
  rcases xSe hs with k1 | k1 | k1 | k1
  ·have b1 : (x.1 == 1) = true := bq k1
   have b2 : (x.1 == 2) = false := bn (by omega)
   have b3 : (x.1 == 3) = false := bn (by omega)
   have b4 : (x.1 == 4) = false := bn (by omega)
   rw [if_pos k1, List.length_cons] at hk
   rw [if_pos k1]
   simp only [b1, b2, b3, b4, cond_true, cond_false]
   rw [xAm F (stM hs) hm, xAd, show inB (kk : Int) (sls.length - 0) = true from xCm (by omega), xKr (by omega) hw, wI i hi hl, w64 ((kk : Int) + 1) (by omega), Int.toNat_natCast]
   exact xLt l hl a f e cl ts j k (i + 1) _ _ _ _ (sls.set kk (xNd (nth sls zF kk) (r.1, rr.2))) (kk + 1) (by omega) (by omega) hr' ⟨hg0, hg1⟩ hn.2.1 (by omega) ht' (by rw [List.length_set]; omega) (by rw [List.length_set]; omega)
  ·have b1 : (x.1 == 1) = false := bn (by omega)
   have b2 : (x.1 == 2) = true := bq k1
   have b3 : (x.1 == 3) = false := bn (by omega)
   have b4 : (x.1 == 4) = false := bn (by omega)
   rw [if_neg (by omega)] at hk
   rw [if_neg (show ¬ x.1 = 1 by omega)]
   simp only [b1, b2, b3, b4, cond_true, cond_false]
   rw [xAm F (stM hs) hm, xAd, xKs (by omega) hw, wI i hi hl]
   exact xLt l hl a f e cl ts j k (i + 1) _ _ _ _ sls kk (by omega) (by omega) hr' ⟨hg0, hg1⟩ hn.2.1 (by omega) ht' hk hk2
  ·have b1 : (x.1 == 1) = false := bn (by omega)
   have b2 : (x.1 == 2) = false := bn (by omega)
   have b3 : (x.1 == 3) = true := bq k1
   have b4 : (x.1 == 4) = false := bn (by omega)
   rw [if_neg (by omega)] at hk
   rw [if_neg (show ¬ x.1 = 1 by omega)]
   simp only [b1, b2, b3, b4, cond_true, cond_false]
   rw [xAm F (stM hs) hm, xAd, xKs (by omega) hw, wI i hi hl]
   exact xLt l hl a f e cl ts j k (i + 1) _ _ _ _ sls kk (by omega) (by omega) hr' ⟨hg0, hg1⟩ hn.2.1 (by omega) ht' hk hk2
  ·have b1 : (x.1 == 1) = false := bn (by omega)
   have b2 : (x.1 == 2) = false := bn (by omega)
   have b3 : (x.1 == 3) = false := bn (by omega)
   have b4 : (x.1 == 4) = true := bq k1
   rw [if_neg (by omega)] at hk
   rw [if_neg (show ¬ x.1 = 1 by omega)]
   simp only [b1, b2, b3, b4, cond_true, cond_false]
   rw [xAm F (stM hs) hm, xAd, xKr (by omega) hw, wI i hi hl]
   exact xLt l hl a f e cl ts j k (i + 1) _ _ _ _ sls kk (by omega) (by omega) hr' ⟨hg0, hg1⟩ hn.2.1 (by omega) ht' hk hk2
/-- What fill makes of the slices. -/
theorem fil0 (l : List Tst) (hl : l.length ≤ 200) (a : Tfr) (hm : 0 ≤ a.1 ∧ a.1 ≤ 1000000000) (ha : okR (s0 a.2) 1000000000000) (hr : run l a.1) (R : Tfr × (Tb × (Tb × Tb))) (sls : List Tfr) (hk : (sl s0 l a.1 (s0 a.2).1 (s0 a.2).2).length ≤ sls.length) (hk2 : sls.length ≤ 200) : ∃ R', xHT F a l R sls = some (R', xEh xNd sls 0 (sl s0 l a.1 (s0 a.2).1 (s0 a.2).2)) := by
 obtain ⟨h1, h2, h3⟩ := id ha
 unfold xHT
 have h0 := fun R0 => fil0_a F hF l hl xDJ R0 sls (a.1, (a.2.1.1, (a.2.1.2, (a.2.2.1.1, (a.2.2.1.2, a.2.2.2))))) (a.1, (a.2.1.1, (a.2.1.2, (a.2.2.1.1, (a.2.2.1.2, a.2.2.2))))) (s0 a.2).2 l.length F 0 (s0 a.2).2 a.1 0 [] (by omega) (by omega) hr hm (by omega) (by omega)
 obtain ⟨cl, ts, e1, e2, _⟩ := h0 _
 obtain ⟨R1, kk, e3⟩ := xLt F hF l hl (a.1, (a.2.1.1, (a.2.1.2, (a.2.2.1.1, (a.2.2.1.2, a.2.2.2))))) (a.1, (a.2.1.1, (a.2.1.2, (a.2.2.1.1, (a.2.2.1.2, a.2.2.2))))) (s0 a.2).1 cl ts l.length F 0 (s0 a.2).1 (s0 a.2).2 a.1 _ sls 0 (by omega) (by omega) hr hm h1 (by omega) e2 (by rw [List.drop_zero]; omega) hk2
 obtain ⟨t1, e4⟩ := tot0 F hF l hl a hm ha hr (false, (false, true))
 obtain ⟨t2, e5⟩ := tot0 F hF l hl a hm ha hr (true, (true, false))
 obtain ⟨t3, e6⟩ := tot0 F hF l hl a hm ha hr (false, (true, false))
 obtain ⟨t4, e7⟩ := tot0 F hF l hl a hm ha hr (true, (false, true))
 exact ⟨_, xAl e1 (xAl e3 (xAl e4 (xAl e5 (xAl e6 (xAl e7 rfl)))))⟩
end
end M3
end Go.Proofs.YtcbbhiobibhdnaaDoor


namespace Go.Proofs.YtcbbhiobibhdnaaDoor
namespace M3
open Go.RowKit U8
set_option maxRecDepth 100000
set_option maxHeartbeats 4000000
section
variable (F : Nat) (hF : 2000 < F)
include hF
theorem xC0 (l : List Tst) (hl : l.length ≤ 200) (c : Tco) : ∀ (j k i : Nat) (d m so go dd e : Int) (a f : Int × (Int × (Int × (Int × (Int × (Int × Int)))))), i + j = l.length → j < k → run (l.drop i) m → 0 ≤ m ∧ m ≤ 1000000000 → 0 ≤ d → d + 1000000000000 * j ≤ 400000000000000 → ∃ t, xAD F k ((d, m, ((l.length - 0) : Int), (i : Int)), (l, a, so, go, dd, e, f, c)) = some t
 | j, 0, _, _, _, _, _, _, _, _, _, _, h, _, _, _, _ => by omega
 | 0, k + 1, i, d, m, so, go, dd, e, a, f, h, _, _, _, _, _ => by
  simp only [xAD]
  rw [xAv (show ¬ (i : Int) < (l.length - 0 : Int) by omega)]
  exact ⟨_, rfl⟩
 | j + 1, k + 1, i, d, m, so, go, dd, e, a, f, h, hj, hr, hm, hd, hD => by
  have hi : i < l.length := by omega
  have hx : nth l zS i = nth l zS i := rfl
  rw [xCS hi zS] at hr
  simp only [xAD]
  rw [xAu (show (i : Int) < (l.length - 0 : Int) by omega), show inB (i : Int) (l.length - 0) = true from xCm hi, Int.toNat_natCast]
  generalize hx : nth l zS i = x at hr ⊢
  obtain ⟨hs, hg0, hg1, hr'⟩ := hr
  simp only [cond_true]
  rw [xRk F hF hs hg0 hm.2 (by omega), xAd]
  have hq := xIv (xIo sp1 hs) hg0 hd
  generalize hr0 : ch (s1 x.2.2) x d m = r at hq ⊢
  have hn := xJL (xIo sp1 hs) hg0 hd (n := pn c x r) (by rw [hr0]; exact xJG c x hq.2.1)
  rw [show xBI F (i : Int) r.1 r.2 c l = some (pn c x r, c) from xDk F hi hx, xAd]
  have hw : 0 ≤ nx x d (pn c x r) ∧ nx x d (pn c x r) ≤ 1000000000000000 := ⟨hn.2.1, by omega⟩
  rcases xSe hs with k1 | k1 | k1 | k1
  ·have b1 : (x.1 == 1) = true := bq k1
   have b2 : (x.1 == 2) = false := bn (by omega)
   have b3 : (x.1 == 3) = false := bn (by omega)
   have b4 : (x.1 == 4) = false := bn (by omega)
   simp only [b1, b2, b3, b4, cond_true, cond_false]
   rw [xAm F (stM hs) hm, xAd, xKr (by omega) hw, wI i hi hl]
   exact xC0 l hl c j k (i + 1) _ _ _ _ _ _ _ _ (by omega) (by omega) hr' ⟨hg0, hg1⟩ hn.2.1 (by omega)
  ·have b1 : (x.1 == 1) = false := bn (by omega)
   have b2 : (x.1 == 2) = true := bq k1
   have b3 : (x.1 == 3) = false := bn (by omega)
   have b4 : (x.1 == 4) = false := bn (by omega)
   simp only [b1, b2, b3, b4, cond_true, cond_false]
   rw [xAm F (stM hs) hm, xAd, xKs (by omega) hw, wI i hi hl]
   exact xC0 l hl c j k (i + 1) _ _ _ _ _ _ _ _ (by omega) (by omega) hr' ⟨hg0, hg1⟩ hn.2.1 (by omega)
  ·have b1 : (x.1 == 1) = false := bn (by omega)
   have b2 : (x.1 == 2) = false := bn (by omega)
   have b3 : (x.1 == 3) = true := bq k1
   have b4 : (x.1 == 4) = false := bn (by omega)
   simp only [b1, b2, b3, b4, cond_true, cond_false]
   rw [xAm F (stM hs) hm, xAd, xKs (by omega) hw, wI i hi hl]
   exact xC0 l hl c j k (i + 1) _ _ _ _ _ _ _ _ (by omega) (by omega) hr' ⟨hg0, hg1⟩ hn.2.1 (by omega)
  ·have b1 : (x.1 == 1) = false := bn (by omega)
   have b2 : (x.1 == 2) = false := bn (by omega)
   have b3 : (x.1 == 3) = false := bn (by omega)
   have b4 : (x.1 == 4) = true := bq k1
   simp only [b1, b2, b3, b4, cond_true, cond_false]
   rw [xAm F (stM hs) hm, xAd, xKr (by omega) hw, wI i hi hl]
   exact xC0 l hl c j k (i + 1) _ _ _ _ _ _ _ _ (by omega) (by omega) hr' ⟨hg0, hg1⟩ hn.2.1 (by omega)
theorem tot1 (l : List Tst) (hl : l.length ≤ 200) (a : Tfr) (hm : 0 ≤ a.1 ∧ a.1 ≤ 1000000000) (ha : okR (s1 a.2) 1000000000000) (hr : run l a.1) (c : Tco) : ∃ t, xCM F a c l = some t := by
 obtain ⟨c0, c1⟩ := c
 obtain ⟨h1, h2, h3⟩ := ha
 unfold xCM
 cases c0
 ·obtain ⟨t, h⟩ := xC0 F hF l hl (false, c1) l.length F 0 (s1 a.2).1 a.1 0 0 (s1 a.2).1 (s1 a.2).1 (a.1, (a.2.1.1, (a.2.1.2, (a.2.2.1.1, (a.2.2.1.2, a.2.2.2))))) (a.1, (a.2.1.1, (a.2.1.2, (a.2.2.1.1, (a.2.2.1.2, a.2.2.2))))) (by omega) (by omega) hr hm h1 (by omega)
  exact ⟨_, xAl rfl (xAl h rfl)⟩
 ·obtain ⟨t, h⟩ := xC0 F hF l hl (true, c1) l.length F 0 (s1 a.2).2 a.1 0 0 (s1 a.2).2 (s1 a.2).2 (a.1, (a.2.1.1, (a.2.1.2, (a.2.2.1.1, (a.2.2.1.2, a.2.2.2))))) (a.1, (a.2.1.1, (a.2.1.2, (a.2.2.1.1, (a.2.2.1.2, a.2.2.2))))) (by omega) (by omega) hr hm (by omega) (by omega)
  exact ⟨_, xAl rfl (xAl h rfl)⟩
theorem fil1_a (l : List Tst) (hl : l.length ≤ 200) (c : Tco) (R : (Int × (Int × (Int × (Int × (Int × (Int × (Int × (Int × (Int × (Int × (Int × (Int × (Int × (Int × (Int × (Int × (Int × (Int × (Int × (Int × (Int × (Int × (Int × (Int × Int))))))))))))))))))))))))) (sls : List Tfr) (a f : Int × (Int × (Int × (Int × (Int × (Int × Int)))))) (e : Int) : ∀ (j k i : Nat) (d m : Int) (cl : Nat) (ts : List (Int × Nat × Tc3)), i + j = l.length → j < k → run (l.drop i) m → 0 ≤ m ∧ m ≤ 1000000000 → 0 ≤ d → d + 1000000000000 * j ≤ 400000000000000 → ∃ cl' ts', xA8 F k ((d, m, ((l.length - 0) : Int), (i : Int)), (l, R, sls, a, (cl, ts), e, f, c)) = some (l, R, sls, a, (cl', ts'), e, f, c) ∧ (∀ q, q < j → xAS (0, (0, 0)) ((i : Int) + (q : Int)) ts' = nth (tr s1 c (l.drop i) m d) z3 q) ∧ (∀ w : Int, w < i → xAS (0, (0, 0)) w ts' = xAS (0, (0, 0)) w ts)
 | j, 0, _, _, _, _, _, _, h, _, _, _, _ => by omega
 | 0, k + 1, i, d, m, cl, ts, h, _, _, _, _, _ => by
  simp only [xA8]
  rw [xAv (show ¬ (i : Int) < (l.length - 0 : Int) by omega)]
  exact ⟨_, _, rfl, fun q hq => absurd hq (by omega), fun _ _ => rfl⟩
 | j + 1, k + 1, i, d, m, cl, ts, h, hj, hr, hm, hd, hD => by
  have hi : i < l.length := by omega
  rw [xCS hi zS] at hr ⊢
  simp only [xA8]
  rw [xAu (show (i : Int) < (l.length - 0 : Int) by omega), show inB (i : Int) (l.length - 0) = true from xCm hi, Int.toNat_natCast]
  generalize hx : nth l zS i = x at hr ⊢
  obtain ⟨hs, hg0, hg1, hr'⟩ := hr
  simp only [cond_true]
  rw [xRk F hF hs hg0 hm.2 (by omega), xAd]
  have hq := xIv (xIo sp1 hs) hg0 hd
  rw [tr]
  generalize hr0 : ch (s1 x.2.2) x d m = r at hq ⊢
  have hn := xJL (xIo sp1 hs) hg0 hd (n := pn c x r) (by rw [hr0]; exact xJG c x hq.2.1)
  rw [show xBI F (i : Int) r.1 r.2 c l = some (pn c x r, c) from xDk F hi hx, xAd]
  have hw : 0 ≤ nx x d (pn c x r) ∧ nx x d (pn c x r) ≤ 1000000000000000 := ⟨hn.2.1, by omega⟩
  obtain ⟨cl', ts', e1, e2, e3⟩ := fil1_a l hl c R sls a f e j k (i + 1) (nx x d (pn c x r)) (gm m x) (xCI (i : Int) cl ts) (xFB (i : Int) cl (r.1, (r.2, nx x d (pn c x r))) ts) (by omega) (by omega) hr' ⟨hg0, hg1⟩ hn.2.1 (by omega)
  refine ⟨cl', ts', ?_, fun q hq' => ?_, fun w hw' => ?_⟩
  rotate_left
  ·cases q with
   | zero =>
    rw [show (i : Int) + ((0 : Nat) : Int) = (i : Int) by omega, e3 _ (by omega), xGW]
    rfl
   | succ q =>
    rw [show (i : Int) + ((q + 1 : Nat) : Int) = ((i + 1 : Nat) : Int) + (q : Int) by omega, e2 q (by omega)]
    rfl
  ·rw [e3 w (by omega), xDo _ (by omega)]
  rcases xSe hs with k1 | k1 | k1 | k1
  ·have b1 : (x.1 == 1) = true := bq k1
   have b2 : (x.1 == 2) = false := bn (by omega)
   have b3 : (x.1 == 3) = false := bn (by omega)
   have b4 : (x.1 == 4) = false := bn (by omega)
   simp only [b1, b2, b3, b4, cond_true, cond_false]
   rw [xAm F (stM hs) hm, xAd, xKr (by omega) hw, wI i hi hl]
   exact e1
  ·have b1 : (x.1 == 1) = false := bn (by omega)
   have b2 : (x.1 == 2) = true := bq k1
   have b3 : (x.1 == 3) = false := bn (by omega)
   have b4 : (x.1 == 4) = false := bn (by omega)
   simp only [b1, b2, b3, b4, cond_true, cond_false]
   rw [xAm F (stM hs) hm, xAd, xKs (by omega) hw, wI i hi hl]
   exact e1
  ·have b1 : (x.1 == 1) = false := bn (by omega)
   have b2 : (x.1 == 2) = false := bn (by omega)
   have b3 : (x.1 == 3) = true := bq k1
   have b4 : (x.1 == 4) = false := bn (by omega)
   simp only [b1, b2, b3, b4, cond_true, cond_false]
   rw [xAm F (stM hs) hm, xAd, xKs (by omega) hw, wI i hi hl]
   exact e1
  ·have b1 : (x.1 == 1) = false := bn (by omega)
   have b2 : (x.1 == 2) = false := bn (by omega)
   have b3 : (x.1 == 3) = false := bn (by omega)
   have b4 : (x.1 == 4) = true := bq k1
   simp only [b1, b2, b3, b4, cond_true, cond_false]
   rw [xAm F (stM hs) hm, xAd, xKr (by omega) hw, wI i hi hl]
   exact e1
theorem xLs (l : List Tst) (hl : l.length ≤ 200) (a f : Int × (Int × (Int × (Int × (Int × (Int × Int)))))) (e : Int) (cl : Nat) (ts : List (Int × Nat × Tc3)) : ∀ (j k i : Nat) (d dr m : Int) (R : (Int × (Int × (Int × (Int × (Int × (Int × (Int × (Int × (Int × (Int × (Int × (Int × (Int × (Int × (Int × (Int × (Int × (Int × (Int × (Int × (Int × (Int × (Int × (Int × Int))))))))))))))))))))))))) (sls : List Tfr) (kk : Nat), i + j = l.length → j < k → run (l.drop i) m → 0 ≤ m ∧ m ≤ 1000000000 → 0 ≤ d → d + 1000000000000 * j ≤ 400000000000000 → (∀ q, q < j → xAS (0, (0, 0)) ((i : Int) + (q : Int)) ts = nth (tr s1 xDJ (l.drop i) m dr) z3 q) → kk + (sl s1 (l.drop i) m d dr).length ≤ sls.length → sls.length ≤ 200 → ∃ R' kk', xAq F k ((d, m, ((l.length - 0) : Int), (i : Int)), (l, R, sls, a, (kk : Int), (cl, ts), e, f, xBX)) = some (l, R', xEh xOT sls kk (sl s1 (l.drop i) m d dr), a, kk', (cl, ts), e, f, xBX)
 | j, 0, _, _, _, _, _, _, _, h, _, _, _, _, _, _, _, _ => by omega
 | 0, k + 1, i, d, dr, m, R, sls, kk, h, _, _, _, _, _, _, _, _ => by
  simp only [xAq]
  rw [xAv (show ¬ (i : Int) < (l.length - 0 : Int) by omega), List.drop_eq_nil_of_le (by omega)]
  exact ⟨_, _, rfl⟩
 | j + 1, k + 1, i, d, dr, m, R, sls, kk, h, hj, hr, hm, hd, hD, ht, hk, hk2 => by
  have hi : i < l.length := by omega
  rw [xCS hi zS] at hr hk ht ⊢
  simp only [xAq]
  rw [xAu (show (i : Int) < (l.length - 0 : Int) by omega), show inB (i : Int) (l.length - 0) = true from xCm hi, Int.toNat_natCast]
  generalize hx : nth l zS i = x at hr hk ht ⊢
  obtain ⟨hs, hg0, hg1, hr'⟩ := hr
  simp only [cond_true]
  have ht0 : xAS (0, (0, 0)) (i : Int) ts = ((ch (s1 x.2.2) x dr m).1, ((ch (s1 x.2.2) x dr m).2, nx x dr (pn xDJ x (ch (s1 x.2.2) x dr m)))) := by
   have h0 := ht 0 (by omega)
   rw [show (i : Int) + ((0 : Nat) : Int) = (i : Int) by omega] at h0
   exact h0
  have ht' : ∀ q, q < j → xAS (0, (0, 0)) (((i + 1 : Nat) : Int) + (q : Int)) ts = nth (tr s1 xDJ (l.drop (i + 1)) (gm m x) (nx x dr (pn xDJ x (ch (s1 x.2.2) x dr m)))) z3 q := by
   intro q hq
   have h0 := ht (q + 1) (by omega)
   rw [show (i : Int) + ((q + 1 : Nat) : Int) = ((i + 1 : Nat) : Int) + (q : Int) by omega] at h0
   exact h0
  rw [ht0]
  rw [xRk F hF hs hg0 hm.2 (by omega), xAd]
  have hq := xIv (xIo sp1 hs) hg0 hd
  rw [sl] at hk ⊢
  generalize hr0 : ch (s1 x.2.2) x d m = r at hq hk ⊢
  generalize ch (s1 x.2.2) x dr m = rr at hk ht' ⊢
  have hn := xJL (xIo sp1 hs) hg0 hd (n := pn xBX x r) (by rw [hr0]; exact xJG xBX x hq.2.1)
  rw [show xBI F (i : Int) r.1 r.2 xBX l = some (pn xBX x r, xBX) from xDk F hi hx, xAd]
  have hw : 0 ≤ nx x d (pn xBX x r) ∧ nx x d (pn xBX x r) ≤ 1000000000000000 := ⟨hn.2.1, by omega⟩
  rcases xSe hs with k1 | k1 | k1 | k1
  ·have b1 : (x.1 == 1) = true := bq k1
   have b2 : (x.1 == 2) = false := bn (by omega)
   have b3 : (x.1 == 3) = false := bn (by omega)
   have b4 : (x.1 == 4) = false := bn (by omega)
   rw [if_pos k1, List.length_cons] at hk
   rw [if_pos k1]
   simp only [b1, b2, b3, b4, cond_true, cond_false]
   rw [xAm F (stM hs) hm, xAd, show inB (kk : Int) (sls.length - 0) = true from xCm (by omega), xKr (by omega) hw, wI i hi hl, w64 ((kk : Int) + 1) (by omega), Int.toNat_natCast]
   exact xLs l hl a f e cl ts j k (i + 1) _ _ _ _ (sls.set kk (xOT (nth sls zF kk) (r.1, rr.2))) (kk + 1) (by omega) (by omega) hr' ⟨hg0, hg1⟩ hn.2.1 (by omega) ht' (by rw [List.length_set]; omega) (by rw [List.length_set]; omega)
  ·have b1 : (x.1 == 1) = false := bn (by omega)
   have b2 : (x.1 == 2) = true := bq k1
   have b3 : (x.1 == 3) = false := bn (by omega)
   have b4 : (x.1 == 4) = false := bn (by omega)
   rw [if_neg (by omega)] at hk
   rw [if_neg (show ¬ x.1 = 1 by omega)]
   simp only [b1, b2, b3, b4, cond_true, cond_false]
   rw [xAm F (stM hs) hm, xAd, xKs (by omega) hw, wI i hi hl]
   exact xLs l hl a f e cl ts j k (i + 1) _ _ _ _ sls kk (by omega) (by omega) hr' ⟨hg0, hg1⟩ hn.2.1 (by omega) ht' hk hk2
  ·have b1 : (x.1 == 1) = false := bn (by omega)
   have b2 : (x.1 == 2) = false := bn (by omega)
   have b3 : (x.1 == 3) = true := bq k1
   have b4 : (x.1 == 4) = false := bn (by omega)
   rw [if_neg (by omega)] at hk
   rw [if_neg (show ¬ x.1 = 1 by omega)]
   simp only [b1, b2, b3, b4, cond_true, cond_false]
   rw [xAm F (stM hs) hm, xAd, xKs (by omega) hw, wI i hi hl]
   exact xLs l hl a f e cl ts j k (i + 1) _ _ _ _ sls kk (by omega) (by omega) hr' ⟨hg0, hg1⟩ hn.2.1 (by omega) ht' hk hk2
  ·have b1 : (x.1 == 1) = false := bn (by omega)
   have b2 : (x.1 == 2) = false := bn (by omega)
   have b3 : (x.1 == 3) = false := bn (by omega)
   have b4 : (x.1 == 4) = true := bq k1
   rw [if_neg (by omega)] at hk
   rw [if_neg (show ¬ x.1 = 1 by omega)]
   simp only [b1, b2, b3, b4, cond_true, cond_false]
   rw [xAm F (stM hs) hm, xAd, xKr (by omega) hw, wI i hi hl]
   exact xLs l hl a f e cl ts j k (i + 1) _ _ _ _ sls kk (by omega) (by omega) hr' ⟨hg0, hg1⟩ hn.2.1 (by omega) ht' hk hk2
/-- What fill makes of the slices. -/
theorem fil1 (l : List Tst) (hl : l.length ≤ 200) (a : Tfr) (hm : 0 ≤ a.1 ∧ a.1 ≤ 1000000000) (ha : okR (s1 a.2) 1000000000000) (hr : run l a.1) (R : Tfr × (Tb × (Tb × Tb))) (sls : List Tfr) (hk : (sl s1 l a.1 (s1 a.2).1 (s1 a.2).2).length ≤ sls.length) (hk2 : sls.length ≤ 200) : ∃ R', xHP F a l R sls = some (R', xEh xOT sls 0 (sl s1 l a.1 (s1 a.2).1 (s1 a.2).2)) := by
 obtain ⟨h1, h2, h3⟩ := id ha
 unfold xHP
 have h0 := fun R0 => fil1_a F hF l hl xDJ R0 sls (a.1, (a.2.1.1, (a.2.1.2, (a.2.2.1.1, (a.2.2.1.2, a.2.2.2))))) (a.1, (a.2.1.1, (a.2.1.2, (a.2.2.1.1, (a.2.2.1.2, a.2.2.2))))) (s1 a.2).2 l.length F 0 (s1 a.2).2 a.1 0 [] (by omega) (by omega) hr hm (by omega) (by omega)
 obtain ⟨cl, ts, e1, e2, _⟩ := h0 _
 obtain ⟨R1, kk, e3⟩ := xLs F hF l hl (a.1, (a.2.1.1, (a.2.1.2, (a.2.2.1.1, (a.2.2.1.2, a.2.2.2))))) (a.1, (a.2.1.1, (a.2.1.2, (a.2.2.1.1, (a.2.2.1.2, a.2.2.2))))) (s1 a.2).1 cl ts l.length F 0 (s1 a.2).1 (s1 a.2).2 a.1 _ sls 0 (by omega) (by omega) hr hm h1 (by omega) e2 (by rw [List.drop_zero]; omega) hk2
 obtain ⟨t1, e4⟩ := tot1 F hF l hl a hm ha hr (false, (false, true))
 obtain ⟨t2, e5⟩ := tot1 F hF l hl a hm ha hr (true, (true, false))
 obtain ⟨t3, e6⟩ := tot1 F hF l hl a hm ha hr (false, (true, false))
 obtain ⟨t4, e7⟩ := tot1 F hF l hl a hm ha hr (true, (false, true))
 exact ⟨_, xAl e1 (xAl e3 (xAl e4 (xAl e5 (xAl e6 (xAl e7 rfl)))))⟩
end
end M3
end Go.Proofs.YtcbbhiobibhdnaaDoor


namespace Go.Proofs.YtcbbhiobibhdnaaDoor
namespace M3
open Go.RowKit U8
set_option maxRecDepth 100000
set_option maxHeartbeats 4000000
section
variable (F : Nat) (hF : 2000 < F)
include hF
theorem xCZ (l : List Tst) (hl : l.length ≤ 200) (c : Tco) : ∀ (j k i : Nat) (d m so go dd e : Int) (a f : Int × (Int × (Int × (Int × (Int × (Int × Int)))))), i + j = l.length → j < k → run (l.drop i) m → 0 ≤ m ∧ m ≤ 1000000000 → 0 ≤ d → d + 1000000000000 * j ≤ 400000000000000 → ∃ t, xAC F k ((d, m, ((l.length - 0) : Int), (i : Int)), (l, a, so, go, dd, e, f, c)) = some t
 | j, 0, _, _, _, _, _, _, _, _, _, _, h, _, _, _, _ => by omega
 | 0, k + 1, i, d, m, so, go, dd, e, a, f, h, _, _, _, _, _ => by
  simp only [xAC]
  rw [xAv (show ¬ (i : Int) < (l.length - 0 : Int) by omega)]
  exact ⟨_, rfl⟩
 | j + 1, k + 1, i, d, m, so, go, dd, e, a, f, h, hj, hr, hm, hd, hD => by
  have hi : i < l.length := by omega
  have hx : nth l zS i = nth l zS i := rfl
  rw [xCS hi zS] at hr
  simp only [xAC]
  rw [xAu (show (i : Int) < (l.length - 0 : Int) by omega), show inB (i : Int) (l.length - 0) = true from xCm hi, Int.toNat_natCast]
  generalize hx : nth l zS i = x at hr ⊢
  obtain ⟨hs, hg0, hg1, hr'⟩ := hr
  simp only [cond_true]
  rw [xRj F hF hs hg0 hm.2 (by omega), xAd]
  have hq := xIv (xIo sp2 hs) hg0 hd
  generalize hr0 : ch (s2 x.2.2) x d m = r at hq ⊢
  have hn := xJL (xIo sp2 hs) hg0 hd (n := pn c x r) (by rw [hr0]; exact xJG c x hq.2.1)
  rw [show xBI F (i : Int) r.1 r.2 c l = some (pn c x r, c) from xDk F hi hx, xAd]
  have hw : 0 ≤ nx x d (pn c x r) ∧ nx x d (pn c x r) ≤ 1000000000000000 := ⟨hn.2.1, by omega⟩
  rcases xSe hs with k1 | k1 | k1 | k1
  ·have b1 : (x.1 == 1) = true := bq k1
   have b2 : (x.1 == 2) = false := bn (by omega)
   have b3 : (x.1 == 3) = false := bn (by omega)
   have b4 : (x.1 == 4) = false := bn (by omega)
   simp only [b1, b2, b3, b4, cond_true, cond_false]
   rw [xAm F (stM hs) hm, xAd, xKr (by omega) hw, wI i hi hl]
   exact xCZ l hl c j k (i + 1) _ _ _ _ _ _ _ _ (by omega) (by omega) hr' ⟨hg0, hg1⟩ hn.2.1 (by omega)
  ·have b1 : (x.1 == 1) = false := bn (by omega)
   have b2 : (x.1 == 2) = true := bq k1
   have b3 : (x.1 == 3) = false := bn (by omega)
   have b4 : (x.1 == 4) = false := bn (by omega)
   simp only [b1, b2, b3, b4, cond_true, cond_false]
   rw [xAm F (stM hs) hm, xAd, xKs (by omega) hw, wI i hi hl]
   exact xCZ l hl c j k (i + 1) _ _ _ _ _ _ _ _ (by omega) (by omega) hr' ⟨hg0, hg1⟩ hn.2.1 (by omega)
  ·have b1 : (x.1 == 1) = false := bn (by omega)
   have b2 : (x.1 == 2) = false := bn (by omega)
   have b3 : (x.1 == 3) = true := bq k1
   have b4 : (x.1 == 4) = false := bn (by omega)
   simp only [b1, b2, b3, b4, cond_true, cond_false]
   rw [xAm F (stM hs) hm, xAd, xKs (by omega) hw, wI i hi hl]
   exact xCZ l hl c j k (i + 1) _ _ _ _ _ _ _ _ (by omega) (by omega) hr' ⟨hg0, hg1⟩ hn.2.1 (by omega)
  ·have b1 : (x.1 == 1) = false := bn (by omega)
   have b2 : (x.1 == 2) = false := bn (by omega)
   have b3 : (x.1 == 3) = false := bn (by omega)
   have b4 : (x.1 == 4) = true := bq k1
   simp only [b1, b2, b3, b4, cond_true, cond_false]
   rw [xAm F (stM hs) hm, xAd, xKr (by omega) hw, wI i hi hl]
   exact xCZ l hl c j k (i + 1) _ _ _ _ _ _ _ _ (by omega) (by omega) hr' ⟨hg0, hg1⟩ hn.2.1 (by omega)
theorem tot2 (l : List Tst) (hl : l.length ≤ 200) (a : Tfr) (hm : 0 ≤ a.1 ∧ a.1 ≤ 1000000000) (ha : okR (s2 a.2) 1000000000000) (hr : run l a.1) (c : Tco) : ∃ t, xCL F a c l = some t := by
 obtain ⟨c0, c1⟩ := c
 obtain ⟨h1, h2, h3⟩ := ha
 unfold xCL
 cases c0
 ·obtain ⟨t, h⟩ := xCZ F hF l hl (false, c1) l.length F 0 (s2 a.2).1 a.1 0 0 (s2 a.2).1 (s2 a.2).1 (a.1, (a.2.1.1, (a.2.1.2, (a.2.2.1.1, (a.2.2.1.2, a.2.2.2))))) (a.1, (a.2.1.1, (a.2.1.2, (a.2.2.1.1, (a.2.2.1.2, a.2.2.2))))) (by omega) (by omega) hr hm h1 (by omega)
  exact ⟨_, xAl rfl (xAl h rfl)⟩
 ·obtain ⟨t, h⟩ := xCZ F hF l hl (true, c1) l.length F 0 (s2 a.2).2 a.1 0 0 (s2 a.2).2 (s2 a.2).2 (a.1, (a.2.1.1, (a.2.1.2, (a.2.2.1.1, (a.2.2.1.2, a.2.2.2))))) (a.1, (a.2.1.1, (a.2.1.2, (a.2.2.1.1, (a.2.2.1.2, a.2.2.2))))) (by omega) (by omega) hr hm (by omega) (by omega)
  exact ⟨_, xAl rfl (xAl h rfl)⟩
theorem fil2_a (l : List Tst) (hl : l.length ≤ 200) (c : Tco) (R : (Int × (Int × (Int × (Int × (Int × (Int × (Int × (Int × (Int × (Int × (Int × (Int × (Int × (Int × (Int × (Int × (Int × (Int × (Int × (Int × (Int × (Int × (Int × (Int × Int))))))))))))))))))))))))) (sls : List Tfr) (a f : Int × (Int × (Int × (Int × (Int × (Int × Int)))))) (e : Int) : ∀ (j k i : Nat) (d m : Int) (cl : Nat) (ts : List (Int × Nat × Tc3)), i + j = l.length → j < k → run (l.drop i) m → 0 ≤ m ∧ m ≤ 1000000000 → 0 ≤ d → d + 1000000000000 * j ≤ 400000000000000 → ∃ cl' ts', xA7 F k ((d, m, ((l.length - 0) : Int), (i : Int)), (l, R, sls, a, (cl, ts), e, f, c)) = some (l, R, sls, a, (cl', ts'), e, f, c) ∧ (∀ q, q < j → xAS (0, (0, 0)) ((i : Int) + (q : Int)) ts' = nth (tr s2 c (l.drop i) m d) z3 q) ∧ (∀ w : Int, w < i → xAS (0, (0, 0)) w ts' = xAS (0, (0, 0)) w ts)
 | j, 0, _, _, _, _, _, _, h, _, _, _, _ => by omega
 | 0, k + 1, i, d, m, cl, ts, h, _, _, _, _, _ => by
  simp only [xA7]
  rw [xAv (show ¬ (i : Int) < (l.length - 0 : Int) by omega)]
  exact ⟨_, _, rfl, fun q hq => absurd hq (by omega), fun _ _ => rfl⟩
 | j + 1, k + 1, i, d, m, cl, ts, h, hj, hr, hm, hd, hD => by
  have hi : i < l.length := by omega
  rw [xCS hi zS] at hr ⊢
  simp only [xA7]
  rw [xAu (show (i : Int) < (l.length - 0 : Int) by omega), show inB (i : Int) (l.length - 0) = true from xCm hi, Int.toNat_natCast]
  generalize hx : nth l zS i = x at hr ⊢
  obtain ⟨hs, hg0, hg1, hr'⟩ := hr
  simp only [cond_true]
  rw [xRj F hF hs hg0 hm.2 (by omega), xAd]
  have hq := xIv (xIo sp2 hs) hg0 hd
  rw [tr]
  generalize hr0 : ch (s2 x.2.2) x d m = r at hq ⊢
  have hn := xJL (xIo sp2 hs) hg0 hd (n := pn c x r) (by rw [hr0]; exact xJG c x hq.2.1)
  rw [show xBI F (i : Int) r.1 r.2 c l = some (pn c x r, c) from xDk F hi hx, xAd]
  have hw : 0 ≤ nx x d (pn c x r) ∧ nx x d (pn c x r) ≤ 1000000000000000 := ⟨hn.2.1, by omega⟩
  obtain ⟨cl', ts', e1, e2, e3⟩ := fil2_a l hl c R sls a f e j k (i + 1) (nx x d (pn c x r)) (gm m x) (xCI (i : Int) cl ts) (xFB (i : Int) cl (r.1, (r.2, nx x d (pn c x r))) ts) (by omega) (by omega) hr' ⟨hg0, hg1⟩ hn.2.1 (by omega)
  refine ⟨cl', ts', ?_, fun q hq' => ?_, fun w hw' => ?_⟩
  rotate_left
  ·cases q with
   | zero =>
    rw [show (i : Int) + ((0 : Nat) : Int) = (i : Int) by omega, e3 _ (by omega), xGW]
    rfl
   | succ q =>
    rw [show (i : Int) + ((q + 1 : Nat) : Int) = ((i + 1 : Nat) : Int) + (q : Int) by omega, e2 q (by omega)]
    rfl
  ·rw [e3 w (by omega), xDo _ (by omega)]
  rcases xSe hs with k1 | k1 | k1 | k1
  ·have b1 : (x.1 == 1) = true := bq k1
   have b2 : (x.1 == 2) = false := bn (by omega)
   have b3 : (x.1 == 3) = false := bn (by omega)
   have b4 : (x.1 == 4) = false := bn (by omega)
   simp only [b1, b2, b3, b4, cond_true, cond_false]
   rw [xAm F (stM hs) hm, xAd, xKr (by omega) hw, wI i hi hl]
   exact e1
  ·have b1 : (x.1 == 1) = false := bn (by omega)
   have b2 : (x.1 == 2) = true := bq k1
   have b3 : (x.1 == 3) = false := bn (by omega)
   have b4 : (x.1 == 4) = false := bn (by omega)
   simp only [b1, b2, b3, b4, cond_true, cond_false]
   rw [xAm F (stM hs) hm, xAd, xKs (by omega) hw, wI i hi hl]
   exact e1
  ·have b1 : (x.1 == 1) = false := bn (by omega)
   have b2 : (x.1 == 2) = false := bn (by omega)
   have b3 : (x.1 == 3) = true := bq k1
   have b4 : (x.1 == 4) = false := bn (by omega)
   simp only [b1, b2, b3, b4, cond_true, cond_false]
   rw [xAm F (stM hs) hm, xAd, xKs (by omega) hw, wI i hi hl]
   exact e1
  ·have b1 : (x.1 == 1) = false := bn (by omega)
   have b2 : (x.1 == 2) = false := bn (by omega)
   have b3 : (x.1 == 3) = false := bn (by omega)
   have b4 : (x.1 == 4) = true := bq k1
   simp only [b1, b2, b3, b4, cond_true, cond_false]
   rw [xAm F (stM hs) hm, xAd, xKr (by omega) hw, wI i hi hl]
   exact e1
theorem xLr (l : List Tst) (hl : l.length ≤ 200) (a f : Int × (Int × (Int × (Int × (Int × (Int × Int)))))) (e : Int) (cl : Nat) (ts : List (Int × Nat × Tc3)) : ∀ (j k i : Nat) (d dr m : Int) (R : (Int × (Int × (Int × (Int × (Int × (Int × (Int × (Int × (Int × (Int × (Int × (Int × (Int × (Int × (Int × (Int × (Int × (Int × (Int × (Int × (Int × (Int × (Int × (Int × Int))))))))))))))))))))))))) (sls : List Tfr) (kk : Nat), i + j = l.length → j < k → run (l.drop i) m → 0 ≤ m ∧ m ≤ 1000000000 → 0 ≤ d → d + 1000000000000 * j ≤ 400000000000000 → (∀ q, q < j → xAS (0, (0, 0)) ((i : Int) + (q : Int)) ts = nth (tr s2 xDJ (l.drop i) m dr) z3 q) → kk + (sl s2 (l.drop i) m d dr).length ≤ sls.length → sls.length ≤ 200 → ∃ R' kk', xAp F k ((d, m, ((l.length - 0) : Int), (i : Int)), (l, R, sls, a, (kk : Int), (cl, ts), e, f, xBX)) = some (l, R', xEh xRR sls kk (sl s2 (l.drop i) m d dr), a, kk', (cl, ts), e, f, xBX)
 | j, 0, _, _, _, _, _, _, _, h, _, _, _, _, _, _, _, _ => by omega
 | 0, k + 1, i, d, dr, m, R, sls, kk, h, _, _, _, _, _, _, _, _ => by
  simp only [xAp]
  rw [xAv (show ¬ (i : Int) < (l.length - 0 : Int) by omega), List.drop_eq_nil_of_le (by omega)]
  exact ⟨_, _, rfl⟩
 | j + 1, k + 1, i, d, dr, m, R, sls, kk, h, hj, hr, hm, hd, hD, ht, hk, hk2 => by
  have hi : i < l.length := by omega
  rw [xCS hi zS] at hr hk ht ⊢
  simp only [xAp]
  rw [xAu (show (i : Int) < (l.length - 0 : Int) by omega), show inB (i : Int) (l.length - 0) = true from xCm hi, Int.toNat_natCast]
  generalize hx : nth l zS i = x at hr hk ht ⊢
  obtain ⟨hs, hg0, hg1, hr'⟩ := hr
  simp only [cond_true]
  have ht0 : xAS (0, (0, 0)) (i : Int) ts = ((ch (s2 x.2.2) x dr m).1, ((ch (s2 x.2.2) x dr m).2, nx x dr (pn xDJ x (ch (s2 x.2.2) x dr m)))) := by
   have h0 := ht 0 (by omega)
   rw [show (i : Int) + ((0 : Nat) : Int) = (i : Int) by omega] at h0
   exact h0
  have ht' : ∀ q, q < j → xAS (0, (0, 0)) (((i + 1 : Nat) : Int) + (q : Int)) ts = nth (tr s2 xDJ (l.drop (i + 1)) (gm m x) (nx x dr (pn xDJ x (ch (s2 x.2.2) x dr m)))) z3 q := by
   intro q hq
   have h0 := ht (q + 1) (by omega)
   rw [show (i : Int) + ((q + 1 : Nat) : Int) = ((i + 1 : Nat) : Int) + (q : Int) by omega] at h0
   exact h0
  rw [ht0]
  rw [xRj F hF hs hg0 hm.2 (by omega), xAd]
  have hq := xIv (xIo sp2 hs) hg0 hd
  rw [sl] at hk ⊢
  generalize hr0 : ch (s2 x.2.2) x d m = r at hq hk ⊢
  generalize ch (s2 x.2.2) x dr m = rr at hk ht' ⊢
  have hn := xJL (xIo sp2 hs) hg0 hd (n := pn xBX x r) (by rw [hr0]; exact xJG xBX x hq.2.1)
  rw [show xBI F (i : Int) r.1 r.2 xBX l = some (pn xBX x r, xBX) from xDk F hi hx, xAd]
  have hw : 0 ≤ nx x d (pn xBX x r) ∧ nx x d (pn xBX x r) ≤ 1000000000000000 := ⟨hn.2.1, by omega⟩
  rcases xSe hs with k1 | k1 | k1 | k1
  ·have b1 : (x.1 == 1) = true := bq k1
   have b2 : (x.1 == 2) = false := bn (by omega)
   have b3 : (x.1 == 3) = false := bn (by omega)
   have b4 : (x.1 == 4) = false := bn (by omega)
   rw [if_pos k1, List.length_cons] at hk
   rw [if_pos k1]
   simp only [b1, b2, b3, b4, cond_true, cond_false]
   rw [xAm F (stM hs) hm, xAd, show inB (kk : Int) (sls.length - 0) = true from xCm (by omega), xKr (by omega) hw, wI i hi hl, w64 ((kk : Int) + 1) (by omega), Int.toNat_natCast]
   exact xLr l hl a f e cl ts j k (i + 1) _ _ _ _ (sls.set kk (xRR (nth sls zF kk) (r.1, rr.2))) (kk + 1) (by omega) (by omega) hr' ⟨hg0, hg1⟩ hn.2.1 (by omega) ht' (by rw [List.length_set]; omega) (by rw [List.length_set]; omega)
  ·have b1 : (x.1 == 1) = false := bn (by omega)
   have b2 : (x.1 == 2) = true := bq k1
   have b3 : (x.1 == 3) = false := bn (by omega)
   have b4 : (x.1 == 4) = false := bn (by omega)
   rw [if_neg (by omega)] at hk
   rw [if_neg (show ¬ x.1 = 1 by omega)]
   simp only [b1, b2, b3, b4, cond_true, cond_false]
   rw [xAm F (stM hs) hm, xAd, xKs (by omega) hw, wI i hi hl]
   exact xLr l hl a f e cl ts j k (i + 1) _ _ _ _ sls kk (by omega) (by omega) hr' ⟨hg0, hg1⟩ hn.2.1 (by omega) ht' hk hk2
  ·have b1 : (x.1 == 1) = false := bn (by omega)
   have b2 : (x.1 == 2) = false := bn (by omega)
   have b3 : (x.1 == 3) = true := bq k1
   have b4 : (x.1 == 4) = false := bn (by omega)
   rw [if_neg (by omega)] at hk
   rw [if_neg (show ¬ x.1 = 1 by omega)]
   simp only [b1, b2, b3, b4, cond_true, cond_false]
   rw [xAm F (stM hs) hm, xAd, xKs (by omega) hw, wI i hi hl]
   exact xLr l hl a f e cl ts j k (i + 1) _ _ _ _ sls kk (by omega) (by omega) hr' ⟨hg0, hg1⟩ hn.2.1 (by omega) ht' hk hk2
  ·have b1 : (x.1 == 1) = false := bn (by omega)
   have b2 : (x.1 == 2) = false := bn (by omega)
   have b3 : (x.1 == 3) = false := bn (by omega)
   have b4 : (x.1 == 4) = true := bq k1
   rw [if_neg (by omega)] at hk
   rw [if_neg (show ¬ x.1 = 1 by omega)]
   simp only [b1, b2, b3, b4, cond_true, cond_false]
   rw [xAm F (stM hs) hm, xAd, xKr (by omega) hw, wI i hi hl]
   exact xLr l hl a f e cl ts j k (i + 1) _ _ _ _ sls kk (by omega) (by omega) hr' ⟨hg0, hg1⟩ hn.2.1 (by omega) ht' hk hk2
/-- What fill makes of the slices. -/
theorem fil2 (l : List Tst) (hl : l.length ≤ 200) (a : Tfr) (hm : 0 ≤ a.1 ∧ a.1 ≤ 1000000000) (ha : okR (s2 a.2) 1000000000000) (hr : run l a.1) (R : Tfr × (Tb × (Tb × Tb))) (sls : List Tfr) (hk : (sl s2 l a.1 (s2 a.2).1 (s2 a.2).2).length ≤ sls.length) (hk2 : sls.length ≤ 200) : ∃ R', xHL F a l R sls = some (R', xEh xRR sls 0 (sl s2 l a.1 (s2 a.2).1 (s2 a.2).2)) := by
 obtain ⟨h1, h2, h3⟩ := id ha
 unfold xHL
 have h0 := fun R0 => fil2_a F hF l hl xDJ R0 sls (a.1, (a.2.1.1, (a.2.1.2, (a.2.2.1.1, (a.2.2.1.2, a.2.2.2))))) (a.1, (a.2.1.1, (a.2.1.2, (a.2.2.1.1, (a.2.2.1.2, a.2.2.2))))) (s2 a.2).2 l.length F 0 (s2 a.2).2 a.1 0 [] (by omega) (by omega) hr hm (by omega) (by omega)
 obtain ⟨cl, ts, e1, e2, _⟩ := h0 _
 obtain ⟨R1, kk, e3⟩ := xLr F hF l hl (a.1, (a.2.1.1, (a.2.1.2, (a.2.2.1.1, (a.2.2.1.2, a.2.2.2))))) (a.1, (a.2.1.1, (a.2.1.2, (a.2.2.1.1, (a.2.2.1.2, a.2.2.2))))) (s2 a.2).1 cl ts l.length F 0 (s2 a.2).1 (s2 a.2).2 a.1 _ sls 0 (by omega) (by omega) hr hm h1 (by omega) e2 (by rw [List.drop_zero]; omega) hk2
 obtain ⟨t1, e4⟩ := tot2 F hF l hl a hm ha hr (false, (false, true))
 obtain ⟨t2, e5⟩ := tot2 F hF l hl a hm ha hr (true, (true, false))
 obtain ⟨t3, e6⟩ := tot2 F hF l hl a hm ha hr (false, (true, false))
 obtain ⟨t4, e7⟩ := tot2 F hF l hl a hm ha hr (true, (false, true))
 exact ⟨_, xAl e1 (xAl e3 (xAl e4 (xAl e5 (xAl e6 (xAl e7 rfl)))))⟩
end
end M3
end Go.Proofs.YtcbbhiobibhdnaaDoor


namespace Go.Proofs.YtcbbhiobibhdnaaDoor
namespace M3
open Go.RowKit U8
set_option maxRecDepth 100000
set_option maxHeartbeats 4000000
section
variable (F : Nat)
theorem cmp_eq (p q : Nat) : xCj F (((p / 18446744073709551616 : Nat) : Int), ((p % 18446744073709551616 : Nat) : Int)) (((q / 18446744073709551616 : Nat) : Int), ((q % 18446744073709551616 : Nat) : Int)) = some (if q < p then 1 else if p = q then 0 else -1) := by
 have hp := Nat.div_add_mod p 18446744073709551616
 have hq := Nat.div_add_mod q 18446744073709551616
 have hp2 : p % 18446744073709551616 < 18446744073709551616 := Nat.mod_lt _ (by decide)
 have hq2 : q % 18446744073709551616 < 18446744073709551616 := Nat.mod_lt _ (by decide)
 generalize p / 18446744073709551616 = a at *
 generalize p % 18446744073709551616 = b at *
 generalize q / 18446744073709551616 = c at *
 generalize q % 18446744073709551616 = d at *
 unfold xCj
 dsimp only
 by_cases h1 : (a : Int) > (c : Int)
 ·rw [xAu h1, if_pos (by omega)]
  rfl
 ·rw [xAv h1]
  by_cases h2 : (a : Int) = (c : Int)
  ·rw [bq h2]
   by_cases h3 : (b : Int) > (d : Int)
   ·rw [xAu h3, if_pos (by omega)]
    rfl
   ·rw [xAv h3, if_neg (by omega)]
    by_cases h4 : (b : Int) = (d : Int)
    ·rw [if_pos (by omega)]
     show (bif (((a : Int) == (c : Int)) && ((b : Int) == (d : Int))) then _ else _) = _
     rw [bq h2, bq h4]
     rfl
    ·rw [if_neg (by omega)]
     show (bif (((a : Int) == (c : Int)) && ((b : Int) == (d : Int))) then _ else _) = _
     rw [bq h2, bn h4]
     rfl
  ·rw [bn h2, if_neg (by omega), if_neg (by omega)]
   show (bif (((a : Int) == (c : Int)) && ((b : Int) == (d : Int))) then _ else _) = _
   rw [bn h2]
   rfl
theorem xSq (c m k : Nat) (hc : c ≤ 1000000000000000) (hm : m ≤ 1000000000000000) (hk : k ≤ 1000000000000000) : xDR F c m k = some (decide (k * m < c * 1000000)) := by
 have e : xDR F c m k = ob (xCj F (mh (IntKind.wrap IntKind.u64 (c : Int)) (IntKind.wrap IntKind.u64 (1000000 : Int)), IntKind.wrap IntKind.u64 (IntKind.wrap IntKind.u64 (c : Int) * IntKind.wrap IntKind.u64 (1000000 : Int))) (mh (IntKind.wrap IntKind.u64 (k : Int)) (IntKind.wrap IntKind.u64 (m : Int)), IntKind.wrap IntKind.u64 (IntKind.wrap IntKind.u64 (k : Int) * IntKind.wrap IntKind.u64 (m : Int)))) (fun r => some (decide (r > 0))) := rfl
 rw [e, show (1000000 : Int) = ((1000000 : Nat) : Int) from rfl, xKx c (by omega), xKx 1000000 (by omega), xKx k (by omega), xKx m (by omega), xPP _ _ (by omega) (by omega), xPP _ _ (by omega) (by omega), xPO, xPO, cmp_eq, xAd]
 by_cases h : k * m < c * 1000000
 ·rw [if_pos h, xAu h]; rfl
 ·rw [if_neg h, xAv h]
  by_cases h2 : c * 1000000 = k * m
  ·rw [if_pos h2]; rfl
  ·rw [if_neg h2]; rfl
theorem xRF (c m k : Nat) (hc : c ≤ 1000000000000000) (hm : m ≤ 1000000000000000) (hk : k ≤ 1000000000000000) : xF4 F c m k = some (decide (c * 1000000 < k * m)) := by
 have e : xF4 F c m k = ob (xCj F (mh (IntKind.wrap IntKind.u64 (c : Int)) (IntKind.wrap IntKind.u64 (1000000 : Int)), IntKind.wrap IntKind.u64 (IntKind.wrap IntKind.u64 (c : Int) * IntKind.wrap IntKind.u64 (1000000 : Int))) (mh (IntKind.wrap IntKind.u64 (k : Int)) (IntKind.wrap IntKind.u64 (m : Int)), IntKind.wrap IntKind.u64 (IntKind.wrap IntKind.u64 (k : Int) * IntKind.wrap IntKind.u64 (m : Int)))) (fun r => some (decide (r < 0))) := rfl
 rw [e, show (1000000 : Int) = ((1000000 : Nat) : Int) from rfl, xKx c (by omega), xKx 1000000 (by omega), xKx k (by omega), xKx m (by omega), xPP _ _ (by omega) (by omega), xPP _ _ (by omega) (by omega), xPO, xPO, cmp_eq, xAd]
 by_cases h : k * m < c * 1000000
 ·rw [if_pos h, xAv (show ¬ c * 1000000 < k * m by omega)]; rfl
 ·rw [if_neg h]
  by_cases h2 : c * 1000000 = k * m
  ·rw [if_pos h2, xAv (show ¬ c * 1000000 < k * m by omega)]; rfl
  ·rw [if_neg h2, xAu (show c * 1000000 < k * m by omega)]; rfl
def nb (c : Int) : Prop := 0 ≤ c ∧ c ≤ 1000000000000000
theorem xPD {c m k : Int} (hc : nb c) (hm : nb m) (hk : nb k) : xDR F c m k = some (decide (k * m < c * 1000000)) := by
 obtain ⟨c, rfl⟩ := Int.eq_ofNat_of_zero_le hc.1
 obtain ⟨m, rfl⟩ := Int.eq_ofNat_of_zero_le hm.1
 obtain ⟨k, rfl⟩ := Int.eq_ofNat_of_zero_le hk.1
 unfold nb at hc hm hk
 rw [xSq F c m k (by omega) (by omega) (by omega)]
 refine congrArg some (decide_eq_decide.2 ?_)
 rw [← Int.natCast_mul]
 omega
theorem xTj {c m k : Int} (hc : nb c) (hm : nb m) (hk : nb k) : xF4 F c m k = some (decide (c * 1000000 < k * m)) := by
 obtain ⟨c, rfl⟩ := Int.eq_ofNat_of_zero_le hc.1
 obtain ⟨m, rfl⟩ := Int.eq_ofNat_of_zero_le hm.1
 obtain ⟨k, rfl⟩ := Int.eq_ofNat_of_zero_le hk.1
 unfold nb at hc hm hk
 rw [xRF F c m k (by omega) (by omega) (by omega)]
 refine congrArg some (decide_eq_decide.2 ?_)
 rw [← Int.natCast_mul]
 omega
theorem xD5 {c m : Int} {t : Tr} (hc : nb c) (hm : nb m) (h1 : nb t.1) (h2 : nb t.2) : xCW F c m t = some (decide (t.1 * m ≤ c * 1000000 ∧ c * 1000000 ≤ t.2 * m)) := by
 unfold xCW
 rw [xPD F hc hm h2, xAd]
 by_cases h : t.2 * m < c * 1000000
 ·rw [xAu h, xAv (show ¬ (t.1 * m ≤ c * 1000000 ∧ c * 1000000 ≤ t.2 * m) by omega)]
  rfl
 ·rw [xAv h, xTj F hc hm h1]
  show some (!decide (c * 1000000 < t.1 * m)) = _
  by_cases h3 : c * 1000000 < t.1 * m
  ·rw [xAu h3, xAv (show ¬ (t.1 * m ≤ c * 1000000 ∧ c * 1000000 ≤ t.2 * m) by omega)]
   rfl
  ·rw [xAv h3, xAu (show (t.1 * m ≤ c * 1000000 ∧ c * 1000000 ≤ t.2 * m) by omega)]
   rfl
/-- Rounded up, as a bound. -/
theorem cl_ge {u a b : Int} (hb : 0 < b) : u * a ≤ cl u a b * b := by
 have h1 := Int.emod_add_mul_ediv (u * a + (b - 1)) b
 have h2 := Int.emod_lt_of_pos (u * a + (b - 1)) hb
 unfold cl
 rw [Int.mul_comm ((u * a + (b - 1)) / b) b]
 omega
theorem xH7 {u a b t : Int} (hb : 0 < b) : cl u a b ≤ t ↔ u * a ≤ t * b := by
 unfold cl
 constructor
 ·intro h
  have h1 := cl_ge (u := u) (a := a) hb
  have h2 : cl u a b * b ≤ t * b := Int.mul_le_mul_of_nonneg_right h (by omega)
  omega
 ·intro h
  have h1 : (u * a + (b - 1)) / b ≤ (t * b + (b - 1)) / b := Int.ediv_le_ediv hb (by omega)
  rw [Int.add_comm (t * b), Int.add_mul_ediv_right _ _ (by omega), Int.ediv_eq_zero_of_lt (a := b - 1) (by omega) (by omega)] at h1
  omega
theorem xHw {u a b t : Int} (hb : 0 < b) : t ≤ fl u a b ↔ t * b ≤ u * a := by
 unfold fl
 exact Int.le_ediv_iff_mul_le hb
variable (hF : 2000 < F)
include hF
theorem xLT {c t : Tr} {m : Int} (hc : 0 ≤ c.1 ∧ c.1 ≤ c.2 ∧ c.2 ≤ 1000000000000000) (hm : 1 ≤ m ∧ m ≤ 1000000000) (ht : okR t 1000000000000) : ∃ b, xEs F c m t = some b ∧ (b = true → ∃ n, c.1 ≤ n ∧ n ≤ c.2 ∧ t.1 * m ≤ n * 1000000 ∧ n * 1000000 ≤ t.2 * m) := by
 obtain ⟨t1, t2, t3⟩ := ht
 unfold xEs
 obtain ⟨z, e⟩ := mdI2 F hF (u := t.1) (a := m) (b := 1000000) (by omega) (by omega) (by omega)
 have hg := cl_ge (u := t.1) (a := m) (b := 1000000) (by omega)
 have hp := pos (u := t.1) (a := m) (b := 1000000) (by omega) t1 (by omega)
 rw [e, xAd]
 by_cases hq : cl t.1 m 1000000 ≤ 1000000000000000
 ·rw [if_pos hq]
  generalize cl t.1 m 1000000 = q at hq hg hp
  show ∃ b, (bif (decide ((if c.1 > q then c.1 else q) ≤ c.2)) then _ else _) = some b ∧ _
  have hx : c.1 ≤ (if c.1 > q then c.1 else q) ∧ q ≤ (if c.1 > q then c.1 else q) := by split <;> omega
  dsimp only
  generalize (if c.1 > q then c.1 else q) = n at hx
  by_cases hn : n ≤ c.2
  ·rw [xAu hn]
   show ∃ b, ob (xDR F n m t.2) _ = some b ∧ _
   rw [xPD F ⟨by omega, by omega⟩ ⟨by omega, by omega⟩ ⟨by omega, by omega⟩, xAd]
   refine ⟨_, rfl, fun hb => ⟨n, hx.1, hn, by omega, ?_⟩⟩
   have hb' : ¬ t.2 * m < n * 1000000 := by
    intro h
    rw [xAu h] at hb
    cases hb
   omega
  ·rw [xAv hn]
   exact ⟨false, rfl, fun h => by cases h⟩
 ·rw [if_neg hq]
  exact ⟨false, rfl, fun h => by cases h⟩
end
end M3
end Go.Proofs.YtcbbhiobibhdnaaDoor
