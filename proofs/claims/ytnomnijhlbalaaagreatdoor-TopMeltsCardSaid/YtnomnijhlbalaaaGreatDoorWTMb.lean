/- A part of the proof of the theorem of the last file. No condition. By an AI agent. -/
import Derived.Test.YtnomnijhlbalaaaGreatDoorWV1
set_option maxRecDepth 100000
namespace Go.Proofs.YtnomnijhlbalaaaGreatDoor
namespace M3
open Go.RowKit U8
abbrev zS : Tst := TC.dflt (TC.pair (TC.int IntKind.u8) (TC.pair (TC.int jI) (TC.pair (TC.pair (TC.int jI) (TC.int jI)) (TC.pair (TC.pair (TC.int jI) (TC.int jI)) (TC.pair (TC.int jI) (TC.int jI))))))
instance okR_dec (r : Tr) (m : Int) : Decidable (okR r m) := by unfold okR; infer_instance
instance okB_dec (b : Tb) (m : Int) : Decidable (okB b m) := by unfold okB; infer_instance
theorem xCZ {α : Type} {l : List α} {i : Nat} (h : i < l.length) (d : α) : l.drop i = nth l d i :: l.drop (i + 1) := by
 rw [List.drop_eq_getElem_cons h, xND l d i h]
section
variable (F : Nat)
theorem xCy (n a b : Int) : xBC F n a b = some (decide (a <= n /\ n <= b)) := by
 unfold xBC;by_cases h : n >= a
 ·rw [xAQ h];exact congrArg some (decide_eq_decide.2 (by omega))
 ·rw [xAH h, xAH (show ¬ (a <= n /\ n <= b) by omega)];rfl
theorem xV8 (r : Tr) (m : Int) : xBz F r m = some (decide (okR r m)) := by
 unfold xBz okR;by_cases h : 0 <= r.1
 ·rw [xAQ h];by_cases h1 : r.1 <= r.2
  ·rw [xAQ h1];exact congrArg some (decide_eq_decide.2 (by omega))
  ·rw [xAH h1, xAH (show ¬ (0 <= r.1 /\ r.1 <= r.2 /\ r.2 <= m) by omega)];rfl
 ·rw [xAH h, xAH (show ¬ (0 <= r.1 /\ r.1 <= r.2 /\ r.2 <= m) by omega)];rfl
theorem xGO (b : Tb) (m : Int) : xB2 F b m = some (decide (okB b m)) := by
 unfold xB2;simp only [xV8, xAd];by_cases h0 : okR b.1 m <;> by_cases h1 : okR b.2.1 m <;> by_cases h2 : okR b.2.2 m <;> simp [h0, h1, h2, okB]
theorem xN6 (m : Tfr) : xF0 F m = some (decide ((0 <= m.1 /\ m.1 <= 1000000000) /\ okB m.2 1000000000000)) := by
 unfold xF0;rw [xCy, xGO];by_cases h0 : 0 <= m.1 /\ m.1 <= 1000000000 <;> by_cases h1 : okB m.2 1000000000000 <;> simp [h0, h1]
noncomputable def stepT (M : Int) (B : Tb) (y : Int) (q : Bool) : Option Bool := (bif (M == (0 : Int)) then (ob (xBC F M (1 : Int) (1000000000 : Int)) (fun r1 => (bif r1 then (ob (xB2 F B y) (fun r2 => (some r2))) else (bif (!q) then (ob (xB2 F B y) (fun r3 => (some r3))) else (some false))))) else (bif q then (ob (xBC F M (1 : Int) (1000000000 : Int)) (fun r4 => (bif r4 then (ob (xB2 F B y) (fun r5 => (some r5))) else (bif (!q) then (ob (xB2 F B y) (fun r6 => (some r6))) else (some false))))) else (some false)))
theorem xHR (M : Int) (B : Tb) (y : Int) (q : Bool) : ∃ c, stepT F M B y q = some c /\ (c = true -> okB B y /\ if q then 1 <= M /\ M <= 1000000000 else M = 0) := by
 unfold stepT;simp only [xCy, xGO, xAd];by_cases h0 : M = 0
 ·subst h0;cases q <;> refine ⟨_, rfl, ?_⟩ <;> simp
 ·have e : (M == 0) = false := beq_eq_false_iff_ne.2 h0;rw [e];cases q
  ·exact ⟨_, rfl, by simp⟩
  ·by_cases h1 : 1 <= M /\ M <= 1000000000
   ·rw [xAQ h1];exact ⟨_, rfl, by simp [h1]⟩
   ·rw [xAH h1];exact ⟨_, rfl, by simp⟩
theorem xV6 (x : Tst) (h : 0 <= x.1 /\ x.1 <= 255) : ∃ c, xFY F x = some c /\ (c = true -> xT1 x) := by
 obtain ⟨k, M, B⟩ := x;have e : jI.wrap k = k := w64 k (by dsimp only at h; omega);unfold xFY;simp only [e, xCy, xAd];by_cases hk : 1 <= k /\ k <= 4
 ·have hk' : k = 1 \/ k = 2 \/ k = 3 \/ k = 4 := by omega
  rcases hk' with rfl | rfl | rfl | rfl
  ·obtain ⟨c, h1, h2⟩ := xHR F M B 20000 true;unfold stepT at h1;simp only [xCy, xGO, xAd] at h1 ⊢;exact ⟨c, h1, fun hc => Or.inl ⟨rfl, (h2 hc).2, (h2 hc).1⟩⟩
  ·obtain ⟨c, h1, h2⟩ := xHR F M B 1000000000000 true;unfold stepT at h1;simp only [xCy, xGO, xAd] at h1 ⊢;exact ⟨c, h1, fun hc => Or.inr (Or.inl ⟨rfl, (h2 hc).2, (h2 hc).1⟩)⟩
  ·obtain ⟨c, h1, h2⟩ := xHR F M B 1000000000000 false;unfold stepT at h1;simp only [xCy, xGO, xAd] at h1 ⊢;exact ⟨c, h1, fun hc => Or.inr (Or.inr (Or.inl ⟨rfl, (h2 hc).2, (h2 hc).1⟩))⟩
  ·obtain ⟨c, h1, h2⟩ := xHR F M B 10000 false;unfold stepT at h1;simp only [xCy, xGO, xAd] at h1 ⊢;exact ⟨c, h1, fun hc => Or.inr (Or.inr (Or.inr ⟨rfl, (h2 hc).2, (h2 hc).1⟩))⟩
 ·refine ⟨false, ?_, by simp⟩;simp only [xAH hk];rfl
theorem stM {x : Tst} (h : xT1 x) : 0 <= x.2.1 /\ x.2.1 <= 1000000000 := by
 rcases h with ⟨_, h, _⟩ | ⟨_, h, _⟩ | ⟨_, h, _⟩ | ⟨_, h, _⟩ <;> omega
theorem stK {x : Tst} (h : xT1 x) : 1 <= x.1 /\ x.1 <= 4 := by
 rcases h with ⟨h, _⟩ | ⟨h, _⟩ | ⟨h, _⟩ | ⟨h, _⟩ <;> omega
theorem xAq {x : Tst} {m : Int} (h : 0 <= x.2.1 /\ x.2.1 <= 1000000000) (hm : 0 <= m /\ m <= 1000000000) : xAB F m x = some (gm m x) := by
 unfold xAB gm;by_cases h1 : x.1 = 1
 ·rw [if_pos h1, h1, w64 _ (by omega)];rfl
 ·rw [if_neg h1, show (x.1 == 1) = false from beq_eq_false_iff_ne.2 h1];by_cases h2 : x.1 = 2
  ·rw [if_pos h2, h2, w64 (m + x.2.1) (by omega)];rfl
  ·rw [if_neg h2, show (x.1 == 2) = false from beq_eq_false_iff_ne.2 h2];rfl
theorem xRZ (l : List Tst) (hl : l.length <= 200) (hk : ∀ x ∈ l, 0 <= x.1 /\ x.1 <= 255) : ∀ (j k i : Nat) (m : Int), i + j = l.length -> j < k -> 0 <= m /\ m <= 1000000000 -> ∃ v, xCe F ((l.length - 0) : Int) l k m (i : Int) = some v /\ (∀ g, v = .inr g -> run (l.drop i) m) /\ (∀ p, v = .inl p -> p.1 ≠ 0)
 | j, 0, _, _, _, h, _ => by omega
 | 0, k + 1, i, m, h, _, _ => by
  simp only [xCe];rw [xAH (show ¬ (i : Int) < (l.length - 0 : Int) by omega)];refine ⟨_, rfl, fun g _ => ?_, fun p hp => by cases hp⟩;rw [List.drop_eq_nil_of_le (by omega)];exact trivial
 | j + 1, k + 1, i, m, h, hj, hm => by
  have hi : i < l.length := by omega
  simp only [xCe];rw [xAQ (show (i : Int) < (l.length - 0 : Int) by omega), show inB (i : Int) (l.length - 0) = true from xDZ hi, Int.toNat_natCast];rw [xCZ hi zS];have hx : nth l zS i ∈ l := by
   rw [<- xND l _ i hi]; exact List.getElem_mem hi
  generalize nth l zS i = x at hx ⊢;obtain ⟨c, h1, h2⟩ := xV6 F x (hk x hx);rw [h1]
  cases c with
  | false => exact ⟨.inl (2, l), rfl, fun g hg => (by cases hg), fun p hp => (by cases hp; simp)⟩
  | true =>
   have hs := h2 rfl;simp only [cond_true];rw [xAd];simp only [Bool.not_true, cond_false];rw [xAq F (stM hs) hm, xAd];by_cases h3 : gm m x < 0
   ·rw [xAQ h3];exact ⟨.inl (31, l), rfl, fun g hg => (by cases hg), fun p hp => (by cases hp; simp)⟩
   ·rw [xAH h3];by_cases h4 : gm m x > 1000000000
    ·rw [xAQ h4];exact ⟨.inl (8, l), rfl, fun g hg => (by cases hg), fun p hp => (by cases hp; simp)⟩
    ·rw [xAH h4];obtain ⟨v, e1, e2, e3⟩ := xRZ l hl hk j k (i + 1) (gm m x) (by omega) (by omega) (by omega);refine ⟨v, ?_, fun g hg => ⟨hs, by omega, by omega, e2 g hg⟩, e3⟩;rw [w64 _ (by omega)];exact e1
theorem xVh (hF : 2000 < F) (m : Tfr) (l : List Tst) (hk : ∀ x ∈ l, 0 <= x.1 /\ x.1 <= 255) : ∃ e, xAJ F m l = some e /\ (e = 0 -> l.length <= 200 /\ (0 <= m.1 /\ m.1 <= 1000000000) /\ okB m.2 1000000000000 /\ run l m.1) := by
 unfold xAJ;rw [xN6, xAd];by_cases h0 : (0 <= m.1 /\ m.1 <= 1000000000) /\ okB m.2 1000000000000
 ·rw [xAQ h0];by_cases h1 : l.length <= 200
  ·rw [xAH (show ¬ (l.length - 0 : Int) > 200 by omega)];obtain ⟨v, e1, e2, e3⟩ := xRZ F l h1 hk l.length F 0 m.1 (by omega) (by omega) h0.1;simp only [Bool.not_true, cond_false];have e1' : xCe F ((l.length - 0) : Int) l F m.1 (0 : Int) = some v := e1;rw [e1']
   cases v with
   | inl p => exact ⟨p.1, rfl, fun h => absurd h (e3 p rfl)⟩
   | inr g => exact ⟨0, rfl, fun _ => ⟨h1, h0.1, h0.2, e2 g rfl⟩⟩
  ·rw [xAQ (show (l.length - 0 : Int) > 200 by omega)];exact ⟨5, rfl, fun h => absurd h (by decide)⟩
 ·rw [xAH h0];exact ⟨2, rfl, fun h => absurd h (by decide)⟩
end
theorem fl_cast (u a b : Nat) : fl (u : Int) (a : Int) (b : Int) = ((u * a / b : Nat) : Int) := by
 unfold fl;rw [<- Int.natCast_mul, <- Int.natCast_ediv]
theorem cl_cast (u a b : Nat) (hb : 1 <= b) : cl (u : Int) (a : Int) (b : Int) = (((u * a + (b - 1)) / b : Nat) : Int) := by
 unfold cl;rw [Int.natCast_ediv, Int.natCast_add, Int.natCast_mul, show (((b - 1 : Nat)) : Int) = (b : Int) - 1 by omega]
section
variable (F : Nat) (hF : 2000 < F) {u a b : Int} (hu : 0 <= u /\ u <= 1000000000000000) (ha : 0 <= a /\ a <= 1000000000000000) (hb : 1 <= b /\ b <= 1000000000000000)
include hF hu ha hb
theorem mdI1 : ∃ z, xCa F u a b 1 = some (if fl u a b <= 1000000000000000 then (fl u a b, (z, 0)) else (0, (0, 10))) := by
 obtain ⟨u, rfl⟩ := Int.eq_ofNat_of_zero_le hu.1;obtain ⟨a, rfl⟩ := Int.eq_ofNat_of_zero_le ha.1;obtain ⟨b, rfl⟩ := Int.eq_ofNat_of_zero_le (show 0 <= b by omega);obtain ⟨z, h⟩ := md1 F hF u a b (by omega) (by omega) (by omega);refine ⟨z, ?_⟩;rw [h, fl_cast];by_cases hq : u * a / b <= 1000000000000000
 ·rw [if_pos hq, if_pos (by omega)]
 ·rw [if_neg hq, if_neg (by omega)]
theorem mdI2 : ∃ z, xCa F u a b 2 = some (if cl u a b <= 1000000000000000 then (cl u a b, (z, 0)) else (0, (0, 10))) := by
 obtain ⟨u, rfl⟩ := Int.eq_ofNat_of_zero_le hu.1;obtain ⟨a, rfl⟩ := Int.eq_ofNat_of_zero_le ha.1;obtain ⟨b, rfl⟩ := Int.eq_ofNat_of_zero_le (show 0 <= b by omega);obtain ⟨z, h⟩ := md2 F hF u a b (by omega) (by omega) (by omega);refine ⟨z, ?_⟩;rw [h, cl_cast _ _ _ (by omega)];by_cases hq : (u * a + (b - 1)) / b <= 1000000000000000
 ·rw [if_pos hq, if_pos (by omega)]
 ·rw [if_neg hq, if_neg (by omega)]
end
theorem cl2 {u a b : Int} (hb : 0 < b) (hu : 0 <= u) (h : a <= 2 * b) : cl u a b <= 2 * u := by
 have h1 := cl_a hb hu h;have h2 : cl u (2 * b) b = 2 * u := by
  unfold cl;rw [show u * (2 * b) + (b - 1) = (b - 1) + (2 * u) * b by rw [<- Int.mul_assoc, Int.mul_comm u 2]; omega, Int.add_mul_ediv_right _ _ (by omega), Int.ediv_eq_zero_of_lt (by omega) (by omega)]; omega
 omega
theorem mi_eq (u n : Int) : (if u < n then u else n) = mi n u := by unfold mi; split <;> split <;> omega
theorem sh_b {s k m : Int} (hs : 0 <= s /\ s <= 20000) (hk : 0 <= k /\ k <= m) (hm : 1 <= m /\ m <= 1000000000) : (0 <= s * k /\ s * k <= 20000000000000) /\ s * k <= 2 * (10000 * m) := by
 have h1 : 0 <= s * k := xQV hs.1 hk.1;have h2 : s * k <= 20000 * k := mul_lr hs.2 hk.1;omega
section
variable (F : Nat) (hF : 2000 < F)
include hF
theorem part1 {s u k m : Int} (hs : 0 <= s /\ s <= 20000) (hu : 0 <= u /\ u <= 400000000000000) (hk : 0 <= k /\ k <= m) (hm : 1 <= m /\ m <= 1000000000) : xBc F s u k m 1 = some (mi (fl u (s * k) (10000 * m)) u) := by
 obtain ⟨h1, h2⟩ := sh_b hs hk hm;have h3 := cl2 (b := 10000 * m) (by omega) hu.1 h2;have h4 := fl_cl (u := u) (a := s * k) (b := 10000 * m) (by omega);unfold xBc;rw [w64 _ (by omega), w64 _ (by omega)];obtain ⟨z, h⟩ := mdI1 F hF (u := u) (a := s * k) (b := 10000 * m) (by omega) (by omega) (by omega);rw [h, if_pos (by omega), xAd, mi_eq]
theorem part2 {s u k m : Int} (hs : 0 <= s /\ s <= 20000) (hu : 0 <= u /\ u <= 400000000000000) (hk : 0 <= k /\ k <= m) (hm : 1 <= m /\ m <= 1000000000) : xBc F s u k m 2 = some (mi (cl u (s * k) (10000 * m)) u) := by
 obtain ⟨h1, h2⟩ := sh_b hs hk hm;have h3 := cl2 (b := 10000 * m) (by omega) hu.1 h2;unfold xBc;rw [w64 _ (by omega), w64 _ (by omega)];obtain ⟨z, h⟩ := mdI2 F hF (u := u) (a := s * k) (b := 10000 * m) (by omega) (by omega) (by omega);rw [h, if_pos (by omega), xAd, mi_eq]
end
section
variable (F : Nat)
noncomputable def chT (x : Tst) (q : Tr) (d mass : Int) : Option Tr := (ob (bif (x.1 == (1 : Int)) then (some ((d, mass, (x.2.1 == mass)), (x, q))) else (some ((d, mass, false), (x, q)))) (fun s1 => (bif s1.1.2.2 then (some (s1.1.1, s1.1.1)) else (bif (s1.2.1.1 == (1 : Int)) then (ob (xBc F s1.2.2.1 s1.1.1 s1.2.1.2.1 s1.1.2.1 (1 : Int)) (fun r => (ob (xBc F s1.2.2.2 s1.1.1 s1.2.1.2.1 s1.1.2.1 (2 : Int)) (fun r1 => (some (r, r1)))))) else (bif (s1.2.1.1 == (4 : Int)) then (ob (xBc F s1.2.2.1 s1.1.1 (1 : Int) (1 : Int) (1 : Int)) (fun r2 => (ob (xBc F s1.2.2.2 s1.1.1 (1 : Int) (1 : Int) (2 : Int)) (fun r3 => (some (r2, r3)))))) else (some (s1.2.2.1, s1.2.2.2)))))))
theorem xXp (hF : 2000 < F) {x : Tst} {r : Tr} {d m : Int} (h : stR x r) (hm : 0 <= gm m x) (hm2 : m <= 1000000000) (hd : 0 <= d /\ d <= 400000000000000) : chT F x r d m = some (ch r x d m) := by
 obtain ⟨k, M, B⟩ := x;rcases h with ⟨e, h1, h2, h3, h4⟩ | ⟨e, h1, h2, h3, h4⟩ | ⟨e, h1, h2, h3, h4⟩ | ⟨e, h1, h2, h3, h4⟩ <;> dsimp only at e h1 <;> subst e
 ·unfold ch;rw [if_pos rfl];by_cases hx : M = m
  ·rw [if_pos hx];subst hx;unfold chT;show ob (some ((d, M, (M == M)), _)) _ = _;rw [beq_self_eq_true];rfl
  ·rw [if_neg hx];have hb : M < m := by
    have hm' : 0 <= m - M := hm;omega
   have e : (M == m) = false := beq_eq_false_iff_ne.2 hx;unfold chT;show ob (some ((d, m, (M == m)), _)) _ = _;rw [e];show ob (xBc F r.1 d M m 1) (fun q => ob (xBc F r.2 d M m 2) (fun q1 => some (q, q1))) = _;rw [part1 F hF (by omega) hd (by omega) (by omega), part2 F hF (by omega) hd (by omega) (by omega)]
 ·rfl
 ·rfl
 ·show ob (xBc F r.1 d 1 1 1) (fun q => ob (xBc F r.2 d 1 1 2) (fun q1 => some (q, q1))) = _;rw [part1 F hF (by omega) hd (by omega) (by omega), part2 F hF (by omega) hd (by omega) (by omega), Int.mul_one r.1, Int.mul_one r.2];rfl
theorem xXs (hF : 2000 < F) {x : Tst} {d m : Int} (h : xT1 x) (hm : 0 <= gm m x) (hm2 : m <= 1000000000) (hd : 0 <= d /\ d <= 400000000000000) : xCw F x d m = some (ch (s0 x.2.2) x d m) := xXp F hF (xJ8 sp0 h) hm hm2 hd
theorem xXr (hF : 2000 < F) {x : Tst} {d m : Int} (h : xT1 x) (hm : 0 <= gm m x) (hm2 : m <= 1000000000) (hd : 0 <= d /\ d <= 400000000000000) : xCv F x d m = some (ch (s1 x.2.2) x d m) := xXp F hF (xJ8 sp1 h) hm hm2 hd
theorem xXq (hF : 2000 < F) {x : Tst} {d m : Int} (h : xT1 x) (hm : 0 <= gm m x) (hm2 : m <= 1000000000) (hd : 0 <= d /\ d <= 400000000000000) : xCu F x d m = some (ch (s2 x.2.2) x d m) := xXp F hF (xJ8 sp2 h) hm hm2 hd
theorem xDC {l : List Tst} {i : Nat} (hi : i < l.length) {a b : Int} {c : Tco} {x : Tst} (hx : nth l zS i = x) : xBA F (i : Int) a b c l = some (pn c x (a, b), c) := by
 unfold xBA pn pk;rw [show inB (i : Int) (l.length - 0) = true from xDZ hi, Int.toNat_natCast, hx];by_cases h1 : x.1 = 1
 ·rw [if_pos h1, h1];obtain ⟨c0, c1, c2⟩ := c;cases c1 <;> rfl
 ·rw [if_neg h1, show (x.1 == 1) = false from beq_eq_false_iff_ne.2 h1];by_cases h4 : x.1 = 4
  ·rw [if_pos h4, h4];obtain ⟨c0, c1, c2⟩ := c;cases c2 <;> rfl
  ·rw [if_neg h4, show (x.1 == 4) = false from beq_eq_false_iff_ne.2 h4];obtain ⟨c0, c1, c2⟩ := c;cases c0 <;> rfl
end
end M3
namespace M3
open Go.RowKit U8
theorem xAc {α β : Type} {x : Option α} {y : α} {f : α -> Option β} {z : Option β} (h : x = some y) (h2 : f y = z) : ob x f = z := by rw [h]; exact h2
theorem eqK (a b : Int) : KK.eqb (.i .i64) a b = (a == b) := rfl
theorem xMh {α : Type} (z : α) (n : Int) (x : α) (ts : List (Int × α)) : xAI (.i .i64) z n (xF2 (.i .i64) n x ts) = x := by
 unfold xF2
 cases hh : hasK (.i .i64) n ts with
 | true =>
  rw [cond_true]
  induction ts with
  | nil => cases hh
  | cons e r ih =>
   unfold hasK at hh;simp only [setK, List.map_cons, eqK] at hh ih ⊢
   cases he : (n == e.1) with
   | true => simp only [cond_true, xAI, eqK, he]
   | false =>
    rw [he] at hh;simp only [cond_false, xAI, eqK, he];exact ih hh
 | false =>
  rw [cond_false]
  induction ts with
  | nil =>
   show xAI (.i .i64) z n [(n, x)] = x;simp only [xAI, eqK, BEq.rfl, cond_true]
  | cons e r ih =>
   unfold hasK at hh;simp only [eqK] at hh
   cases he : (n == e.1) with
   | true => rw [he] at hh; cases hh
   | false =>
    rw [he] at hh;unfold addK
    cases hl : KK.ltb (.i .i64) n e.1 with
    | true => simp only [cond_true, xAI, eqK, BEq.rfl]
    | false =>
     simp only [cond_false, xAI, eqK, he];exact ih hh
theorem xFb {α : Type} (z : α) {n w : Int} (hw : w ≠ n) (x : α) (ts : List (Int × α)) : xAI (.i .i64) z w (xF2 (.i .i64) n x ts) = xAI (.i .i64) z w ts := by
 have hwn : (w == n) = false := beq_eq_false_iff_ne.2 hw;unfold xF2
 cases hasK (.i .i64) n ts with
 | true =>
  rw [cond_true]
  induction ts with
  | nil => rfl
  | cons e r ih =>
   simp only [setK, List.map_cons, eqK] at ih ⊢
   cases he : (n == e.1) with
   | true =>
    have h3 : (w == e.1) = false := beq_eq_false_iff_ne.2 (by rw [<- beq_iff_eq.1 he]; exact hw);simp only [cond_true, xAI, eqK, h3, cond_false];exact ih
   | false =>
    simp only [cond_false, xAI, eqK];rw [ih]
 | false =>
  rw [cond_false]
  induction ts with
  | nil => simp only [addK, xAI, eqK, hwn, cond_false]
  | cons e r ih =>
   unfold addK
   cases KK.ltb (.i .i64) n e.1 with
   | true => simp only [cond_true, xAI, eqK, hwn, cond_false]
   | false =>
    simp only [cond_false, xAI, eqK];rw [ih]
abbrev zF : Tfr := TC.dflt (TC.pair (TC.int jI) (TC.pair (TC.pair (TC.int jI) (TC.int jI)) (TC.pair (TC.pair (TC.int jI) (TC.int jI)) (TC.pair (TC.int jI) (TC.int jI)))))
def z3 : Tc3 := (0, (0, 0))
def xCQ (f : Tfr -> Tr -> Tfr) : List Tfr -> Nat -> List Tr -> List Tfr
 | s, _, [] => s
 | s, k, r :: rs => xCQ f (s.set k (f (nth s zF k) r)) (k + 1) rs
def xMC (x : Tfr) (r : Tr) : Tfr := (x.1, (r, x.2.2))
def xPi (x : Tfr) (r : Tr) : Tfr := (x.1, (x.2.1, (r, x.2.2.2)))
def xTk (x : Tfr) (r : Tr) : Tfr := (x.1, (x.2.1, (x.2.2.1, r)))
theorem xHX (f : Tfr -> Tr -> Tfr) : ∀ (rs : List Tr) (s : List Tfr) (k : Nat), (xCQ f s k rs).length = s.length
 | [], _, _ => rfl
 | r :: rs, s, k => by rw [xCQ, xHX f rs, List.length_set]
theorem xUY (s : List Tfr) {k i : Nat} (h : k ≠ i) (v : Tfr) : nth (s.set k v) zF i = nth s zF i := by
 unfold nth;simp only [List.getD_eq_getElem?_getD, List.getElem?_set_ne h]
theorem xUX (s : List Tfr) {k : Nat} (h : k < s.length) (v : Tfr) : nth (s.set k v) zF k = v := by
 unfold nth;simp only [List.getD_eq_getElem?_getD, List.getElem?_set_self h, Option.getD_some]
theorem xUB (f : Tfr -> Tr -> Tfr) : ∀ (rs : List Tr) (s : List Tfr) (k i : Nat), i < k -> nth (xCQ f s k rs) zF i = nth s zF i
 | [], _, _, _, _ => rfl
 | r :: rs, s, k, i, h => by
  rw [xCQ, xUB f rs _ _ i (by omega)];exact xUY s (by omega) _
theorem xHW (f : Tfr -> Tr -> Tfr) : ∀ (rs : List Tr) (s : List Tfr) (k i : Nat) (h : i < rs.length), k + rs.length <= s.length -> nth (xCQ f s k rs) zF (k + i) = f (nth s zF (k + i)) rs[i]
 | [], _, _, _, h, _ => absurd h (by simp)
 | r :: rs, s, k, 0, _, h => by
  rw [List.length_cons] at h;rw [xCQ, xUB f rs _ _ _ (by omega)];exact xUX s (by omega) _
 | r :: rs, s, k, i + 1, h1, h => by
  rw [List.length_cons] at h h1;have ih := xHW f rs (s.set k (f (nth s zF k) r)) (k + 1) i (by omega) (by rw [List.length_set]; omega);rw [xCQ, show k + (i + 1) = k + 1 + i by omega, ih];rw [xUY s (by omega)];rfl
def g0 (c : Tc3) : Int := c.1
def g1 (c : Tc3) : Int := c.2.1
def g2 (c : Tc3) : Int := c.2.2
theorem xYF {x : Tst} (h : xT1 x) : x.1 = 1 \/ x.1 = 2 \/ x.1 = 3 \/ x.1 = 4 := by have := stK h; omega
theorem bq {a b : Int} (h : a = b) : (a == b) = true := beq_iff_eq.2 h
theorem bn {a b : Int} (h : ¬ a = b) : (a == b) = false := beq_eq_false_iff_ne.2 h
theorem q1 {n : Int} (h : n = 1) : (n == 1) = true /\ (n == 2) = false /\ (n == 3) = false /\ (n == 4) = false := ⟨bq h, bn (by omega), bn (by omega), bn (by omega)⟩
theorem q2 {n : Int} (h : n = 2) : (n == 1) = false /\ (n == 2) = true /\ (n == 3) = false /\ (n == 4) = false := ⟨bn (by omega), bq h, bn (by omega), bn (by omega)⟩
theorem q3 {n : Int} (h : n = 3) : (n == 1) = false /\ (n == 2) = false /\ (n == 3) = true /\ (n == 4) = false := ⟨bn (by omega), bn (by omega), bq h, bn (by omega)⟩
theorem q4 {n : Int} (h : n = 4) : (n == 1) = false /\ (n == 2) = false /\ (n == 3) = false /\ (n == 4) = true := ⟨bn (by omega), bn (by omega), bn (by omega), bq h⟩
theorem xMB {x : Tst} {d n : Int} (k : x.1 = 2 \/ x.1 = 3) (h : 0 <= nx x d n /\ nx x d n <= 1000000000000000) : jI.wrap (d + n) = nx x d n := by
 rw [nx_a k] at h ⊢;exact w64 _ (by omega)
theorem xMA {x : Tst} {d n : Int} (k : x.1 = 1 \/ x.1 = 4) (h : 0 <= nx x d n /\ nx x d n <= 1000000000000000) : jI.wrap (d - n) = nx x d n := by
 rw [nx_l k] at h ⊢;exact w64 _ (by omega)
theorem wI (i : Nat) {n : Nat} (h : i < n) (hn : n <= 200) : jI.wrap ((i : Int) + 1) = ((i + 1 : Nat) : Int) := w64 _ (by omega)
end M3
section
open Go.RowKit Go.Proofs Go.Lib M3
theorem xAb {α : Type} {b : Bool} {x y z : α} (h : b = true) (k : x = z) : (bif b then x else y) = z := by rw [h]; exact k
theorem xAo {α : Type} {b : Bool} {x y z : α} (h : b = false) (k : y = z) : (bif b then x else y) = z := by rw [h]; exact k
def xTl (c m : Int) (b : Tb) : List (List UInt8) := [cLot, itoa c, itoa m, bdT b, itoa 0]
def NmB (b : Tb) : Prop := Nm b.1.1 /\ Nm b.1.2 /\ Nm b.2.1.1 /\ Nm b.2.1.2 /\ Nm b.2.2.1 /\ Nm b.2.2.2
theorem xA1 (n : Int) (h : Nm n) : (itoa n).length <= 17 := xH2 n (by unfold Nm at h; omega) (by unfold Nm at h; omega)
theorem lotW_ok (c m : Int) (b : Tb) (hc : Nm c) (hm : Nm m) (hb : NmB b) : Wds (xTl c m b) /\ (xAi 32 (xTl c m b)).length <= 200 := by
 have h1 := xA1 c hc;have h2 := xA1 m hm;have h3 := xA1 0 ⟨by decide, by decide⟩;have h4 := xGN b hb;have hl : (xAi 32 (xTl c m b)).length <= 200 := by
  simp [xAi, xTl, cLot]; omega
 refine ⟨⟨fun x hx => ?_, Nat.le_trans hl (by decide)⟩, hl⟩;simp only [xTl, List.mem_cons, List.not_mem_nil, or_false] at hx;rcases hx with rfl | rfl | rfl | rfl | rfl
 ·decide
 ·exact xB6 _ _ (by decide)
 ·exact xB6 _ _ (by decide)
 ·exact xR8 _ _ (by decide)
 ·exact xB6 _ _ (by decide)
theorem xSO (F : Nat) (c m : Int) (b : Tb) (hc : Nm c) (hm : Nm m) (hb : NmB b) (hl : xFa F (c, (m, (b, 0))) = some true) (h0 : c ≠ 0) : xDk F (bs (xAi 32 (xTl c m b))) (0, ((0, 0), ((0, 0), (0, 0)))) [] [] [] [] [] [] [] [] = some ((bs (itoa 1), 0), ((0, (0, (0, (0, (0, (0, 0)))))), ([(1, 1)], ([], ([], ([((c, (m, (b, 0))), 0)], ([], ([], ([], []))))))))) := by
 obtain ⟨hw, hlen⟩ := lotW_ok c m b hc hm hb;unfold xDk;rw [show decide (((bs (xAi 32 (xTl c m b))).size : Int) > 2000) = false from decide_eq_false (by rw [xAh]; omega), cond_false];unfold xTl at hw;rw [xTl, xSo F hw];have hrc : xD7 F (c, (m, (b, 0))) (0, ((0, 0), ((0, 0), (0, 0)))) [] [] [] = some ((1, 0), ((0, (0, (0, (0, (0, (0, 0)))))), ([(1, 1)], ([((c, (m, (b, 0))), 0)], [])))) := by
  unfold xD7;rw [hl, xAd, Bool.not_true, cond_false];show (bif (c == 0) then _ else _) = _;rw [bn h0, cond_false];rfl
 have hi : xA6 F 1 = some (bs (itoa 1)) := rfl;rw [xAd];refine xAc (xA4 F c hc.1 hc.2) ?_
 try simp only [Bool.not_true, Bool.not_false, cond_false, cond_true]
 refine xAc (xA4 F m hm.1 hm.2) ?_
 try simp only [Bool.not_true, Bool.not_false, cond_false, cond_true]
 refine xAc (xHS F b hb) ?_
 try simp only [Bool.not_true, Bool.not_false, cond_false, cond_true]
 refine xAo rfl ?_;refine xAb rfl ?_;refine xAc (xAM F b.1 hb.1 hb.2.1) ?_
 try simp only [Bool.not_true, Bool.not_false, cond_false, cond_true]
 refine xAb rfl ?_;refine xAc (xAM F b.2.1 hb.2.2.1 hb.2.2.2.1) ?_
 try simp only [Bool.not_true, Bool.not_false, cond_false, cond_true]
 refine xAb rfl ?_;refine xAc (xAM F b.2.2 hb.2.2.2.2.1 hb.2.2.2.2.2) ?_
 try simp only [Bool.not_true, Bool.not_false, cond_false, cond_true]
 refine xAc (xA4 F 0 (by decide) (by decide)) ?_
 try simp only [Bool.not_true, Bool.not_false, cond_false, cond_true]
 refine xAc (hrc) ?_
 try simp only [Bool.not_true, Bool.not_false, cond_false, cond_true]
 refine xAc (hi) ?_
 try simp only [Bool.not_true, Bool.not_false, cond_false, cond_true]
 rfl
end
section
open Go.RowKit Go.Proofs Go.Lib M3
def xZ9 (c : Int) : List (List UInt8) := [xFj, cK1, itoa 1 ++ [58] ++ itoa c]
theorem xXn (c : Int) (hc : Nm c) : Wds (xZ9 c) /\ (xAi 32 (xZ9 c)).length <= 200 := by
 have h1 := xA1 c hc;have h2 := xA1 1 ⟨by decide, by decide⟩;have hl : (xAi 32 (xZ9 c)).length <= 200 := by
  simp [xAi, xZ9, xFj, cK1]; omega
 refine ⟨⟨fun x hx => ?_, Nat.le_trans hl (by decide)⟩, hl⟩;simp only [xZ9, List.mem_cons, List.not_mem_nil, or_false] at hx;rcases hx with rfl | rfl | rfl
 ·decide
 ·decide
 ·intro hm;rcases List.mem_append.1 hm with hm | hm
  ·rcases List.mem_append.1 hm with hm | hm
   ·exact xB6 _ _ (by decide) hm
   ·revert hm; decide
  ·exact xB6 _ _ (by decide) hm
abbrev zX : (((Int × Int) × ((Int × Int) × ((Int × Int) × T_0))) × ByteArray) := ((((0 : Int), (0 : Int)), (((0 : Int), (0 : Int)), (((0 : Int), (0 : Int)), (((0 : Int), (0 : Int)), (((0 : Int), (0 : Int)), ((0 : Int), (0 : Int))))))), B_1)
abbrev zX2 : T_6 := (0, (0, (0, (0, (0, (0, (0, (0, (0, (0, (0, (0, ByteArray.mk (Array.mk [])))))))))))))
theorem xUJ (n : Nat) (c : Int) (hc : Nm c) (k : List ByteArray) : xFJ (n + 3) (bs (itoa 1 ++ [58] ++ itoa c)) zX [] [] [] [] k = some (true, (zX2, [(1, c)])) := by
 have h2 := xA1 1 ⟨by decide, by decide⟩;have h1 := xA1 c hc;have hs : xCi (n + 3) (bs (itoa 1 ++ [58] ++ itoa c)) (ByteArray.mk (Array.mk (44 :: []))) = some [bs (itoa 1 ++ [58] ++ itoa c)] := xM3 (n + 3) 44 [itoa 1 ++ [58] ++ itoa c] (by simp) (fun x hx => by
  simp only [List.mem_cons, List.not_mem_nil, or_false] at hx;subst hx;intro hm;rcases List.mem_append.1 hm with hm | hm
  ·rcases List.mem_append.1 hm with hm | hm
   ·exact xB6 _ _ (by decide) hm
   ·revert hm; decide
  ·exact xB6 _ _ (by decide) hm) (by simp [xAi]; omega)
 have hcut : xMr (n + 3) (bs (itoa 1 ++ [58] ++ itoa c)) (ByteArray.mk (Array.mk (58 :: []))) = some (bs (itoa 1), (bs (itoa c), true)) := by
  unfold xMr;rw [show decide ((bs (itoa 1 ++ [58] ++ itoa c)).size < 4294967281) = true from decide_eq_true (by rw [xAh]; simp; omega), cond_true];have : Lib.cut (bs (itoa 1 ++ [58] ++ itoa c)).data.toList ((ByteArray.mk (Array.mk (58 :: []))).data.toList) = (itoa 1, itoa c, true) := cut_at 58 [] (itoa 1) (itoa c) (xB6 _ 58 (by decide));rw [this]
 unfold xFJ;refine xAc (hs) ?_
 try simp only [Bool.not_true, Bool.not_false, cond_false, cond_true]
 have key : xCH (n + 3) (([bs (itoa 1 ++ [58] ++ itoa c)].length - 0 : Int)) zX2 [] [] [] k [bs (itoa 1 ++ [58] ++ itoa c)] (n + 3) 0 [] = some (.inr (zX2, ([], ([], ([], (k, [(1, c)])))))) := by
  rw [xCH];refine xAb rfl ?_;refine xAb rfl ?_;refine xAc (hcut) ?_
  try simp only [Bool.not_true, Bool.not_false, cond_false, cond_true]
  refine xAc (xA4 (n + 3) 1 (by decide) (by decide)) ?_
  try simp only [Bool.not_true, Bool.not_false, cond_false, cond_true]
  refine xAc (xA4 (n + 3) c hc.1 hc.2) ?_
  try simp only [Bool.not_true, Bool.not_false, cond_false, cond_true]
  refine xAb rfl ?_;rw [xCH];rfl
 refine xAc (key) ?_
 try simp only [Bool.not_true, Bool.not_false, cond_false, cond_true]
abbrev st0 : Int × T_0 := (0, ((0, 0), ((0, 0), (0, 0))))
def pr (x y : Int) : Int := jI.wrap (0 + jI.wrap (x * y))
def prB (c m : Int) (b : Tb) : Tfr := (pr c m, ((pr c b.1.1, pr c b.1.2), ((pr c b.2.1.1, pr c b.2.1.2), (pr c b.2.2.1, pr c b.2.2.2))))
theorem xY7 (n : Nat) (c m : Int) (b : Tb) (h1 : 1 <= c) : xIJ (n + 3) st0 [(1, 1)] [] [] zX [] [] [] [(1, c)] [bs cK1] [((c, (m, (b, 0))), 0)] [] [] [] [] = some ((prB c m b, 0), ((0, (0, (0, (0, (0, (0, 0)))))), ([(1, 1)], ([], ([], (zX2, ([], ([], ([], ([((c, (m, (b, 0))), 0)], ([], [(1, c)]))))))))))) := by
 unfold xIJ;have key : xDB (n + 3) (([(1, c)] : List (Int × Int)).length - 0 : Int) [] [] [] [] [] [(1, c)] [bs cK1] [] [] [] (n + 3) 0 (0, (0, (0, (0, (0, (0, 0)))))) [(1, 1)] zX2 [((c, (m, (b, 0))), 0)] [] [] st0 = some (.inr ((0, (0, (0, (0, (0, (0, 0)))))), ([(1, 1)], ([], ([], (zX2, ([], ([], ([], ([(1, c)], ([bs cK1], ([((c, (m, (b, 0))), 0)], ([], ([], ([], ([], ([(1, c)], prB c m b))))))))))))))))) := by
  rw [xDB];refine xAb rfl ?_;refine xAb rfl ?_;refine xAc (y := (((c, (m, (b, 0))), 0), ((0, (0, (0, (0, (0, (0, 0)))))), ([(1, 1)], ([((c, (m, (b, 0))), 0)], []))))) (by kernel_rfl) ?_;refine xAo rfl ?_;refine xAc (y := (zX2, [1])) (by kernel_rfl) ?_;refine xAb rfl ?_;refine xAc (y := false) (by kernel_rfl) ?_;refine xAo rfl ?_;refine xAo (decide_eq_false (show ¬ c < 1 by omega)) ?_;refine xAo (decide_eq_false (show ¬ c > c by omega)) ?_;refine xAb rfl ?_;rw [xDB];rfl
 refine xAc (key) ?_
 try simp only [Bool.not_true, Bool.not_false, cond_false, cond_true]
theorem obQ {α β : Type} {Q : Option β -> Prop} {x : Option α} {f : α -> Option β} {y : α} (h : x = some y) (k : Q (f y)) : Q (ob x f) := by rw [h]; exact k
theorem xDT {α : Type} {Q : α -> Prop} {b : Bool} {x y : α} (h : b = true) (k : Q x) : Q (bif b then x else y) := by rw [h]; exact k
theorem xCM {α : Type} {Q : α -> Prop} {b : Bool} {x y : α} (h : b = false) (k : Q y) : Q (bif b then x else y) := by rw [h]; exact k
def drQ (a1 : List (Option (List (Int × Bool)))) (o : Option (Int × (T_1 × (List (Int × Nat) × (List ((Int × (Int × (Tb × Int))) × Nat) × List (Option (List (Int × Bool)))))))) : Prop := ∃ q a, o = some (0, (q, ([(1, 1)], (a, a1))))
theorem xYO (n : Nat) (c m : Int) (b : Tb) (h1 : 1 <= c) (a1 : List (Option (List (Int × Bool)))) : drQ a1 (xIE (n + 3) st0 [(1, 1)] [(1, c)] [((c, (m, (b, 0))), 0)] a1) := by
 unfold xIE;have key : xDy (n + 3) (([(1, c)] : List (Int × Int)).length - 0 : Int) (0, (0, (0, (0, (0, (0, 0)))))) [(1, 1)] [(1, c)] [((c, (m, (b, 0))), 0)] a1 (n + 3) 0 [] = some (.inr ((0, (0, (0, (0, (0, (0, 0)))))), ([(1, 1)], ([(1, c)], ([((c, (m, (b, 0))), 0)], a1))))) := by
  rw [xDy];refine xAb rfl ?_;refine xAb rfl ?_;refine xAo rfl ?_;refine xAo rfl ?_;refine xAo (decide_eq_false (show ¬ c < 1 by omega)) ?_;refine xAb rfl ?_;refine xAb rfl ?_;refine xAb rfl ?_;refine xAb rfl ?_;refine xAo (decide_eq_false (show ¬ c > c by omega)) ?_;rw [xDy];rfl
 refine obQ (Q := drQ a1) key ?_;exact ⟨_, _, rfl⟩
abbrev Tq7 := Int × (Int × (Int × (Int × (Int × (Int × Int)))))
abbrev Tlo := List (Int × Nat)
abbrev Tnm := List (ByteArray × Nat)
abbrev Ta0 := List ((Int × (Int × (Tb × Int))) × Nat)
abbrev Ta1 := List (Option (List (Int × Bool)))
abbrev Tig := Tfr × (Nat × (Nat × (Int × (Nat × Bool))))
abbrev Ta3 := List (Option (List Tst))
abbrev Ta4 := List (Option (List (Bool × (Bool × Int))))
def drW (I : Tnm) (g : Tig) (o : Option (Tq7 × (Tlo × (Tnm × (Tnm × (List Tig × (Ta3 × (Ta4 × (Ta0 × Ta1))))))))) : Prop := ∃ q a0 a1, o = some (q, ([(1, 1)], (I, ([], ([g], ([], ([], (a0, a1))))))))
theorem xZ2 (n : Nat) (c m : Int) (b : Tb) (h1 : 1 <= c) (I : Tnm) (M : Tfr) : drW I (M, (0, (1, (0, (0, false))))) (xJS (n + 3) 1 st0 [(1, 1)] I [] [(1, c)] [((c, (m, (b, 0))), 0)] [some []] [(M, (0, (1, (0, (0, false)))))] [] []) := by
 unfold xJS;obtain ⟨q, a, h⟩ := xYO n c m b h1 [some []];refine obQ (Q := drW I _) h ?_;exact ⟨_, _, _, rfl⟩
theorem pr_eq {x y : Int} (h : -9000000000000000000 <= x * y /\ x * y <= 9000000000000000000) : pr x y = x * y := by
 unfold pr;rw [xCP (x * y) (by omega), Int.zero_add, xCP _ (by omega)]
theorem cfC_no (n : Nat) (x y z : Int × Int) (h1 : x.2 <= 1000000000000) (h2 : y.2 <= 1000000000000) (h3 : z.2 <= 1000000000000) : xXu (n + 5) (x :: (y :: (z :: []))) = some false := by
 have key : xFX (n + 5) (((x :: (y :: (z :: []))).length - 0 : Int)) (x :: (y :: (z :: []))) (n + 5) 0 = some (.inr (x :: (y :: (z :: [])))) := by
  rw [xFX];refine xAb rfl (xAb rfl (xAo (decide_eq_false (show ¬ x.2 > 1000000000000 by omega)) ?_));rw [show jI.wrap (0 + 1) = 1 from rfl, xFX];refine xAb rfl (xAb rfl (xAo (decide_eq_false (show ¬ y.2 > 1000000000000 by omega)) ?_));rw [show jI.wrap (1 + 1) = 2 from rfl, xFX];refine xAb rfl (xAb rfl (xAo (decide_eq_false (show ¬ z.2 > 1000000000000 by omega)) ?_));rw [show jI.wrap (2 + 1) = 3 from rfl, xFX];rfl
 unfold xXu xZG;rw [key];rfl
def chQ (T : ByteArray) (g : Tig) (o : Option ((ByteArray × Int) × (Tq7 × (Tlo × (Tnm × (Tnm × (Ta0 × (Ta1 × (List Tig × (Ta3 × Ta4)))))))))) : Prop := ∃ q a0 a1, o = some ((T, 0), (q, ([(1, 1)], ([(bs cK1, 1)], ([], (a0, (a1, ([g], ([], [])))))))))
theorem xL6 (n : Nat) (c m : Int) (b : Tb) (h1 : 1 <= c) (hc : Nm c) (hm : 0 <= pr c m /\ pr c m <= 1000000000) (hb : pr c b.1.2 <= 1000000000000 /\ pr c b.2.1.2 <= 1000000000000 /\ pr c b.2.2.2 <= 1000000000000) : chQ (bs (itoa (pr c m))) (prB c m b, (0, (1, (0, (0, false))))) (xBN (n + 5) (bs (xAi 32 (xZ9 c))) st0 [(1, 1)] [] [] [((c, (m, (b, 0))), 0)] [] [] [] []) := by
 obtain ⟨hw, hlen⟩ := xXn c hc;unfold xBN;refine xCM (Q := chQ _ _) (decide_eq_false (by rw [xAh]; omega)) ?_;refine obQ (Q := chQ _ _) (xHE (n + 5) hw) ?_;refine obQ (Q := chQ _ _) (xUJ (n + 2) c hc [bs cK1]) ?_;refine xCM (Q := chQ _ _) rfl ?_;have inner : ∀ (Y : Option ((ByteArray × Int) × (Tq7 × (Tlo × (Tnm × (Tnm × (Ta0 × (Ta1 × (List Tig × (Ta3 × Ta4)))))))))) (g), chQ (bs (itoa (pr c m))) (prB c m b, (0, (1, (0, (0, false))))) Y -> (∀ q a0 a1, chQ (bs (itoa (pr c m))) (prB c m b, (0, (1, (0, (0, false))))) (g ((bs (itoa (pr c m)), 0), (q, ([(1, 1)], ([(bs cK1, 1)], ([], (a0, (a1, ([(prB c m b, (0, (1, (0, (0, false)))))], ([], []))))))))))) -> chQ (bs (itoa (pr c m))) (prB c m b, (0, (1, (0, (0, false))))) (ob Y g) := fun Y g h k => by
  obtain ⟨q, a0, a1, h⟩ := h;rw [h];exact k q a0 a1
 refine inner _ _ ?_ (fun q a0 a1 => ⟨q, a0, a1, rfl⟩);refine xCM (Q := chQ _ _) rfl ?_;refine xCM (Q := chQ _ _) rfl ?_;refine obQ (Q := chQ _ _) (xY7 (n + 2) c m b h1) ?_;refine xCM (Q := chQ _ _) rfl ?_;refine xCM (Q := chQ _ _) (decide_eq_false (show ¬ pr c m > 1000000000 by omega)) ?_;refine obQ (Q := chQ _ _) (cfC_no n _ _ _ hb.1 hb.2.1 hb.2.2) ?_;refine xCM (Q := chQ _ _) rfl ?_;obtain ⟨q, a0, a1, hd⟩ := xZ2 (n + 2) c m b h1 [(bs cK1, 1)] (prB c m b);refine obQ (Q := chQ _ _) hd ?_;refine obQ (Q := chQ _ _) (y := bs (itoa (pr c m))) ?_ ⟨q, a0, a1, rfl⟩;show xA6 (n + 5) (pr c m) = _;unfold xA6;rw [show (decide (-9223372036854775808 <= pr c m) && decide (pr c m <= 9223372036854775807)) = true from by simp; omega, cond_true]
end
end Go.Proofs.YtnomnijhlbalaaaGreatDoor
