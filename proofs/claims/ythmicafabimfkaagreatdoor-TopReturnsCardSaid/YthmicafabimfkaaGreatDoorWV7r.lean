/- Plain laws: the checks of chapter 3, and what a step may choose. No condition. -/
import Derived.Test.YthmicafabimfkaaGreatDoorWXC8
import Derived.Test.YthmicafabimfkaaGreatDoorWU5
import Derived.Test.YthmicafabimfkaaGreatDoorWV1
import Derived.Test.YthmicafabimfkaaGreatDoorWXC10

namespace Go.Proofs.YthmicafabimfkaaGreatDoor
namespace M3
open Go.RowKit U8
set_option maxRecDepth 100000
abbrev zS : Tst := TC.dflt (TC.pair (TC.int IntKind.u8) (TC.pair (TC.int jI) (TC.pair (TC.pair (TC.int jI) (TC.int jI)) (TC.pair (TC.pair (TC.int jI) (TC.int jI)) (TC.pair (TC.int jI) (TC.int jI))))))
instance okR_dec (r : Tr) (m : Int) : Decidable (okR r m) := by unfold okR; infer_instance
instance okB_dec (b : Tb) (m : Int) : Decidable (okB b m) := by unfold okB; infer_instance
theorem xEM {α : Type} {l : List α} {i : Nat} (h : i < l.length) (d : α) : l.drop i = nth l d i :: l.drop (i + 1) := by
 rw [List.drop_eq_getElem_cons h, xJI l d i h]
section
variable (F : Nat)
theorem xLT (n a b : Int) : xCh F n a b = some (decide (a <= n /\ n <= b)) := by
 unfold xCh;by_cases h : n >= a
 ·rw [xAI h];exact congrArg some (decide_eq_decide.2 (by omega))
 ·rw [xAK h, xAK (show ¬ (a <= n /\ n <= b) by omega)];rfl
theorem isR_eq (r : Tr) (m : Int) : xB1 F r m = some (decide (okR r m)) := by
 unfold xB1 okR;by_cases h : 0 <= r.1
 ·rw [xAI h];by_cases h1 : r.1 <= r.2
  ·rw [xAI h1];exact congrArg some (decide_eq_decide.2 (by omega))
  ·rw [xAK h1, xAK (show ¬ (0 <= r.1 /\ r.1 <= r.2 /\ r.2 <= m) by omega)];rfl
 ·rw [xAK h, xAK (show ¬ (0 <= r.1 /\ r.1 <= r.2 /\ r.2 <= m) by omega)];rfl
theorem xUv (b : Tb) (m : Int) : xDy F b m = some (decide (okB b m)) := by
 unfold xDy;simp only [isR_eq, xAj];by_cases h0 : okR b.1 m <;> by_cases h1 : okR b.2.1 m <;> by_cases h2 : okR b.2.2 m <;> simp [h0, h1, h2, okB]
theorem xS4 (m : Tfr) : xFL F m = some (decide ((0 <= m.1 /\ m.1 <= 1000000000) /\ okB m.2 1000000000000)) := by
 unfold xFL;rw [xLT, xUv];by_cases h0 : 0 <= m.1 /\ m.1 <= 1000000000 <;> by_cases h1 : okB m.2 1000000000000 <;> simp [h0, h1]
theorem stM {x : Tst} (h : xUK x) : 0 <= x.2.1 /\ x.2.1 <= 1000000000 := by
 rcases h with ⟨_, h, _⟩ | ⟨_, h, _⟩ | ⟨_, h, _⟩ | ⟨_, h, _⟩ <;> omega
theorem stK {x : Tst} (h : xUK x) : 1 <= x.1 /\ x.1 <= 4 := by
 rcases h with ⟨h, _⟩ | ⟨h, _⟩ | ⟨h, _⟩ | ⟨h, _⟩ <;> omega
theorem xBU {x : Tst} {m : Int} (h : 0 <= x.2.1 /\ x.2.1 <= 1000000000) (hm : 0 <= m /\ m <= 1000000000) : xAB F m x = some (gm m x) := by
 unfold xAB gm;by_cases h1 : x.1 = 1
 ·rw [if_pos h1, h1, w64 _ (by omega)];rfl
 ·rw [if_neg h1, show (x.1 == 1) = false from beq_eq_false_iff_ne.2 h1];by_cases h2 : x.1 = 2
  ·rw [if_pos h2, h2, w64 (m + x.2.1) (by omega)];rfl
  ·rw [if_neg h2, show (x.1 == 2) = false from beq_eq_false_iff_ne.2 h2];rfl
end
/-! ## Shares -/
theorem fl_cast (u a b : Nat) : fl (u : Int) (a : Int) (b : Int) = ((u * a / b : Nat) : Int) := by
 unfold fl;rw [<- Int.natCast_mul, <- Int.natCast_ediv]
theorem cl_cast (u a b : Nat) (hb : 1 <= b) : cl (u : Int) (a : Int) (b : Int) = (((u * a + (b - 1)) / b : Nat) : Int) := by
 unfold cl;rw [Int.natCast_ediv, Int.natCast_add, Int.natCast_mul, show (((b - 1 : Nat)) : Int) = (b : Int) - 1 by omega]
section
variable (F : Nat) (hF : 2000 < F) {u a b : Int} (hu : 0 <= u /\ u <= 1000000000000000) (ha : 0 <= a /\ a <= 1000000000000000) (hb : 1 <= b /\ b <= 1000000000000000)
include hF hu ha hb
theorem mdI1 : ∃ z, xBF F u a b 1 = some (if fl u a b <= 1000000000000000 then (fl u a b, (z, 0)) else (0, (0, 10))) := by
 obtain ⟨u, rfl⟩ := Int.eq_ofNat_of_zero_le hu.1;obtain ⟨a, rfl⟩ := Int.eq_ofNat_of_zero_le ha.1;obtain ⟨b, rfl⟩ := Int.eq_ofNat_of_zero_le (show 0 <= b by omega);obtain ⟨z, h⟩ := md1 F hF u a b (by omega) (by omega) (by omega);refine ⟨z, ?_⟩;rw [h, fl_cast];by_cases hq : u * a / b <= 1000000000000000
 ·rw [if_pos hq, if_pos (by omega)]
 ·rw [if_neg hq, if_neg (by omega)]
theorem mdI2 : ∃ z, xBF F u a b 2 = some (if cl u a b <= 1000000000000000 then (cl u a b, (z, 0)) else (0, (0, 10))) := by
 obtain ⟨u, rfl⟩ := Int.eq_ofNat_of_zero_le hu.1;obtain ⟨a, rfl⟩ := Int.eq_ofNat_of_zero_le ha.1;obtain ⟨b, rfl⟩ := Int.eq_ofNat_of_zero_le (show 0 <= b by omega);obtain ⟨z, h⟩ := md2 F hF u a b (by omega) (by omega) (by omega);refine ⟨z, ?_⟩;rw [h, cl_cast _ _ _ (by omega)];by_cases hq : (u * a + (b - 1)) / b <= 1000000000000000
 ·rw [if_pos hq, if_pos (by omega)]
 ·rw [if_neg hq, if_neg (by omega)]
end
theorem cl2 {u a b : Int} (hb : 0 < b) (hu : 0 <= u) (h : a <= 2 * b) : cl u a b <= 2 * u := by
 have h1 := cl_a hb hu h;have h2 : cl u (2 * b) b = 2 * u := by
  unfold cl;rw [show u * (2 * b) + (b - 1) = (b - 1) + (2 * u) * b by rw [<- Int.mul_assoc, Int.mul_comm u 2]; omega, Int.add_mul_ediv_right _ _ (by omega), Int.ediv_eq_zero_of_lt (by omega) (by omega)]; omega
 omega
theorem mi_eq (u n : Int) : (if u < n then u else n) = mi n u := by unfold mi; split <;> split <;> omega
/-- A share of a mass, for MulDiv: its bounds. -/
theorem sh_b {s k m : Int} (hs : 0 <= s /\ s <= 20000) (hk : 0 <= k /\ k <= m) (hm : 1 <= m /\ m <= 1000000000) : (0 <= s * k /\ s * k <= 20000000000000) /\ s * k <= 2 * (10000 * m) := by
 have h1 : 0 <= s * k := mul_nn hs.1 hk.1;have h2 : s * k <= 20000 * k := mul_lr hs.2 hk.1;omega
section
variable (F : Nat) (hF : 2000 < F)
include hF
theorem part1 {s u k m : Int} (hs : 0 <= s /\ s <= 20000) (hu : 0 <= u /\ u <= 400000000000000) (hk : 0 <= k /\ k <= m) (hm : 1 <= m /\ m <= 1000000000) : xA4 F s u k m 1 = some (mi (fl u (s * k) (10000 * m)) u) := by
 obtain ⟨h1, h2⟩ := sh_b hs hk hm;have h3 := cl2 (b := 10000 * m) (by omega) hu.1 h2;have h4 := fl_cl (u := u) (a := s * k) (b := 10000 * m) (by omega);unfold xA4;rw [w64 _ (by omega), w64 _ (by omega)];obtain ⟨z, h⟩ := mdI1 F hF (u := u) (a := s * k) (b := 10000 * m) (by omega) (by omega) (by omega);rw [h, if_pos (by omega), xAj, mi_eq]
theorem part2 {s u k m : Int} (hs : 0 <= s /\ s <= 20000) (hu : 0 <= u /\ u <= 400000000000000) (hk : 0 <= k /\ k <= m) (hm : 1 <= m /\ m <= 1000000000) : xA4 F s u k m 2 = some (mi (cl u (s * k) (10000 * m)) u) := by
 obtain ⟨h1, h2⟩ := sh_b hs hk hm;have h3 := cl2 (b := 10000 * m) (by omega) hu.1 h2;unfold xA4;rw [w64 _ (by omega), w64 _ (by omega)];obtain ⟨z, h⟩ := mdI2 F hF (u := u) (a := s * k) (b := 10000 * m) (by omega) (by omega) (by omega);rw [h, if_pos (by omega), xAj, mi_eq]
end
section
variable (F : Nat)
noncomputable def chT (x : Tst) (q : Tr) (d mass : Int) : Option Tr := (ob (bif (x.1 == (1 : Int)) then (some ((d, mass, (x.2.1 == mass)), (x, q))) else (some ((d, mass, false), (x, q)))) (fun s1 => (bif s1.1.2.2 then (some (s1.1.1, s1.1.1)) else (bif (s1.2.1.1 == (1 : Int)) then (ob (xA4 F s1.2.2.1 s1.1.1 s1.2.1.2.1 s1.1.2.1 (1 : Int)) (fun r => (ob (xA4 F s1.2.2.2 s1.1.1 s1.2.1.2.1 s1.1.2.1 (2 : Int)) (fun r1 => (some (r, r1)))))) else (bif (s1.2.1.1 == (4 : Int)) then (ob (xA4 F s1.2.2.1 s1.1.1 (1 : Int) (1 : Int) (1 : Int)) (fun r2 => (ob (xA4 F s1.2.2.2 s1.1.1 (1 : Int) (1 : Int) (2 : Int)) (fun r3 => (some (r2, r3)))))) else (some (s1.2.2.1, s1.2.2.2)))))))
theorem xUc (hF : 2000 < F) {x : Tst} {r : Tr} {d m : Int} (h : stR x r) (hm : 0 <= gm m x) (hm2 : m <= 1000000000) (hd : 0 <= d /\ d <= 400000000000000) : chT F x r d m = some (ch r x d m) := by
 obtain ⟨k, M, B⟩ := x;rcases h with ⟨e, h1, h2, h3, h4⟩ | ⟨e, h1, h2, h3, h4⟩ | ⟨e, h1, h2, h3, h4⟩ | ⟨e, h1, h2, h3, h4⟩ <;> dsimp only at e h1 <;> subst e
 ·unfold ch;rw [if_pos rfl];by_cases hx : M = m
  ·rw [if_pos hx];subst hx;unfold chT;show ob (some ((d, M, (M == M)), _)) _ = _;rw [beq_self_eq_true];rfl
  ·rw [if_neg hx];have hb : M < m := by
    have hm' : 0 <= m - M := hm;omega
   have e : (M == m) = false := beq_eq_false_iff_ne.2 hx;unfold chT;show ob (some ((d, m, (M == m)), _)) _ = _;rw [e];show ob (xA4 F r.1 d M m 1) (fun q => ob (xA4 F r.2 d M m 2) (fun q1 => some (q, q1))) = _;rw [part1 F hF (by omega) hd (by omega) (by omega), part2 F hF (by omega) hd (by omega) (by omega)]
 ·rfl
 ·rfl
 ·show ob (xA4 F r.1 d 1 1 1) (fun q => ob (xA4 F r.2 d 1 1 2) (fun q1 => some (q, q1))) = _;rw [part1 F hF (by omega) hd (by omega) (by omega), part2 F hF (by omega) hd (by omega) (by omega), Int.mul_one r.1, Int.mul_one r.2];rfl
theorem xUf (hF : 2000 < F) {x : Tst} {d m : Int} (h : xUK x) (hm : 0 <= gm m x) (hm2 : m <= 1000000000) (hd : 0 <= d /\ d <= 400000000000000) : xCz F x d m = some (ch (s0 x.2.2) x d m) := xUc F hF (xJp sp0 h) hm hm2 hd
theorem xUe (hF : 2000 < F) {x : Tst} {d m : Int} (h : xUK x) (hm : 0 <= gm m x) (hm2 : m <= 1000000000) (hd : 0 <= d /\ d <= 400000000000000) : xCy F x d m = some (ch (s1 x.2.2) x d m) := xUc F hF (xJp sp1 h) hm hm2 hd
theorem xUd (hF : 2000 < F) {x : Tst} {d m : Int} (h : xUK x) (hm : 0 <= gm m x) (hm2 : m <= 1000000000) (hd : 0 <= d /\ d <= 400000000000000) : xCx F x d m = some (ch (s2 x.2.2) x d m) := xUc F hF (xJp sp2 h) hm hm2 hd
theorem xDw {l : List Tst} {i : Nat} (hi : i < l.length) {a b : Int} {c : Tco} {x : Tst} (hx : nth l zS i = x) : xBu F (i : Int) a b c l = some (pn c x (a, b), c) := by
 unfold xBu pn pk;rw [show inB (i : Int) (l.length - 0) = true from inB_t hi, Int.toNat_natCast, hx];by_cases h1 : x.1 = 1
 ·rw [if_pos h1, h1];obtain ⟨c0, c1, c2⟩ := c;cases c1 <;> rfl
 ·rw [if_neg h1, show (x.1 == 1) = false from beq_eq_false_iff_ne.2 h1];by_cases h4 : x.1 = 4
  ·rw [if_pos h4, h4];obtain ⟨c0, c1, c2⟩ := c;cases c2 <;> rfl
  ·rw [if_neg h4, show (x.1 == 4) = false from beq_eq_false_iff_ne.2 h4];obtain ⟨c0, c1, c2⟩ := c;cases c0 <;> rfl
end
end M3
end Go.Proofs.YthmicafabimfkaaGreatDoor


namespace Go.Proofs.YthmicafabimfkaaGreatDoor
namespace M3
open Go.RowKit U8
set_option maxRecDepth 100000
theorem xBN {α β : Type} {x : Option α} {y : α} {f : α -> Option β} {z : Option β} (h : x = some y) (h2 : f y = z) : ob x f = z := by rw [h]; exact h2
abbrev zF : Tfr := TC.dflt (TC.pair (TC.int jI) (TC.pair (TC.pair (TC.int jI) (TC.int jI)) (TC.pair (TC.pair (TC.int jI) (TC.int jI)) (TC.pair (TC.int jI) (TC.int jI)))))
def put0 (x : Tfr) (r : Tr) : Tfr := (x.1, (r, x.2.2))
def put1 (x : Tfr) (r : Tr) : Tfr := (x.1, (x.2.1, (r, x.2.2.2)))
def put2 (x : Tfr) (r : Tr) : Tfr := (x.1, (x.2.1, (x.2.2.1, r)))
theorem xFA {α : Type} {l : List α} {i : Nat} (h : i < l.length) (d : α) : nth l d i ∈ l := by
 rw [<- xJI l d i h]; exact List.getElem_mem h
theorem xNw (s : List Tfr) {k : Nat} (h : k < s.length) {y : Tfr} (e : y.1 = (nth s zF k).1) : (s.set k y).map Prod.fst = s.map Prod.fst := by
 rw [<- xJI s zF k h] at e;rw [List.map_set, e];refine List.ext_getElem (by simp) (fun i h1 h2 => ?_);rw [List.getElem_set];split
 ·rename_i q; subst q; simp
 ·rfl
theorem bq {a b : Int} (h : a = b) : (a == b) = true := beq_iff_eq.2 h
theorem bn {a b : Int} (h : ¬ a = b) : (a == b) = false := beq_eq_false_iff_ne.2 h
theorem xUU {x : Tst} {d n : Int} (k : x.1 = 1 \/ x.1 = 4) (h : 0 <= nx x d n /\ nx x d n <= 1000000000000000) : jI.wrap (d - n) = nx x d n := by
 rw [nx_l k] at h ⊢;exact w64 _ (by omega)
theorem wI (i : Nat) {n : Nat} (h : i < n) (hn : n <= 200) : jI.wrap ((i : Int) + 1) = ((i + 1 : Nat) : Int) := w64 _ (by omega)
end M3
end Go.Proofs.YthmicafabimfkaaGreatDoor


namespace Go.Proofs.YthmicafabimfkaaGreatDoor
namespace M3
open Go.RowKit U8
set_option maxRecDepth 100000
set_option maxHeartbeats 4000000
section
variable (F : Nat) (hF : 2000 < F)
include hF
theorem xHP (l : List Tst) (hl : l.length <= 200) (hone : ∀ x ∈ l, x.1 = 1) (c : Tco) : ∀ (j k i : Nat) (d m so go dd e : Int) (a f : Int × (Int × (Int × (Int × (Int × (Int × Int)))))), i + j = l.length -> j < k -> run (l.drop i) m -> 0 <= m /\ m <= 1000000000 -> 0 <= d -> d + 1000000000000 * j <= 400000000000000 -> ∃ t, xAA F k ((d, m, ((l.length - 0) : Int), (i : Int)), (l, a, so, go, dd, e, f, c)) = some t
 | j, 0, _, _, _, _, _, _, _, _, _, _, h, _, _, _, _ => by omega
 | 0, k + 1, i, d, m, so, go, dd, e, a, f, h, _, _, _, _, _ => by
  simp only [xAA];rw [xAK (show ¬ (i : Int) < (l.length - 0 : Int) by omega)];exact ⟨_, rfl⟩
 | j + 1, k + 1, i, d, m, so, go, dd, e, a, f, h, hj, hr, hm, hd, hD => by
  have hi : i < l.length := by omega
  have hx : nth l zS i = nth l zS i := rfl;rw [xEM hi zS] at hr;simp only [xAA];rw [xAI (show (i : Int) < (l.length - 0 : Int) by omega), show inB (i : Int) (l.length - 0) = true from inB_t hi, Int.toNat_natCast];generalize hx : nth l zS i = x at hr ⊢;obtain ⟨hs, hg0, hg1, hr'⟩ := hr;simp only [cond_true];rw [xUf F hF hs hg0 hm.2 (by omega), xAj];have hq := xJt (xJp sp0 hs) hg0 hd;generalize hr0 : ch (s0 x.2.2) x d m = r at hq ⊢;have hn := xKW (xJp sp0 hs) hg0 hd (n := pn c x r) (by rw [hr0]; exact xKN c x hq.2.1);rw [show xBu F (i : Int) r.1 r.2 c l = some (pn c x r, c) from xDw F hi hx, xAj];have hw : 0 <= nx x d (pn c x r) /\ nx x d (pn c x r) <= 1000000000000000 := ⟨hn.2.1, by omega⟩;have k1 : x.1 = 1 := hone x (by rw [<- hx]; exact xFA hi _);have b1 : (x.1 == 1) = true := bq k1;have b2 : (x.1 == 2) = false := bn (by omega);have b3 : (x.1 == 3) = false := bn (by omega);have b4 : (x.1 == 4) = false := bn (by omega);simp only [b1, b2, b3, b4, cond_true, cond_false];rw [xBU F (stM hs) hm, xAj, xUU (by omega) hw, wI i hi hl];exact xHP l hl hone c j k (i + 1) _ _ _ _ _ _ _ _ (by omega) (by omega) hr' ⟨hg0, hg1⟩ hn.2.1 (by omega)
theorem tot0 (l : List Tst) (hl : l.length <= 200) (hone : ∀ x ∈ l, x.1 = 1) (a : Tfr) (hm : 0 <= a.1 /\ a.1 <= 1000000000) (ha : okR (s0 a.2) 1000000000000) (hr : run l a.1) (c : Tco) : ∃ t, xCR F a c l = some t := by
 obtain ⟨c0, c1⟩ := c;obtain ⟨h1, h2, h3⟩ := ha;unfold xCR;cases c0
 ·obtain ⟨t, h⟩ := xHP F hF l hl hone (false, c1) l.length F 0 (s0 a.2).1 a.1 0 0 (s0 a.2).1 (s0 a.2).1 (a.1, (a.2.1.1, (a.2.1.2, (a.2.2.1.1, (a.2.2.1.2, a.2.2.2))))) (a.1, (a.2.1.1, (a.2.1.2, (a.2.2.1.1, (a.2.2.1.2, a.2.2.2))))) (by omega) (by omega) hr hm h1 (by omega);exact ⟨_, xBN rfl (xBN h rfl)⟩
 ·obtain ⟨t, h⟩ := xHP F hF l hl hone (true, c1) l.length F 0 (s0 a.2).2 a.1 0 0 (s0 a.2).2 (s0 a.2).2 (a.1, (a.2.1.1, (a.2.1.2, (a.2.2.1.1, (a.2.2.1.2, a.2.2.2))))) (a.1, (a.2.1.1, (a.2.1.2, (a.2.2.1.1, (a.2.2.1.2, a.2.2.2))))) (by omega) (by omega) hr hm (by omega) (by omega);exact ⟨_, xBN rfl (xBN h rfl)⟩
theorem fil0_a (l : List Tst) (hl : l.length <= 200) (hone : ∀ x ∈ l, x.1 = 1) (c : Tco) (R : (Int × (Int × (Int × (Int × (Int × (Int × (Int × (Int × (Int × (Int × (Int × (Int × (Int × (Int × (Int × (Int × (Int × (Int × (Int × (Int × (Int × (Int × (Int × (Int × Int))))))))))))))))))))))))) (sls : List Tfr) (a f : Int × (Int × (Int × (Int × (Int × (Int × Int)))))) (e : Int) : ∀ (j k i : Nat) (d m : Int) (ts : List (Int × Tc3)), i + j = l.length -> j < k -> run (l.drop i) m -> 0 <= m /\ m <= 1000000000 -> 0 <= d -> d + 1000000000000 * j <= 400000000000000 -> ∃ ts', xBb F k ((d, m, ((l.length - 0) : Int), (i : Int)), (l, R, sls, a, ts, e, f, c)) = some (l, R, sls, a, ts', e, f, c)
 | j, 0, _, _, _, _, _, h, _, _, _, _ => by omega
 | 0, k + 1, i, d, m, ts, h, _, _, _, _, _ => by
  simp only [xBb];rw [xAK (show ¬ (i : Int) < (l.length - 0 : Int) by omega)];exact ⟨_, rfl⟩
 | j + 1, k + 1, i, d, m, ts, h, hj, hr, hm, hd, hD => by
  have hi : i < l.length := by omega
  rw [xEM hi zS] at hr;simp only [xBb];rw [xAI (show (i : Int) < (l.length - 0 : Int) by omega), show inB (i : Int) (l.length - 0) = true from inB_t hi, Int.toNat_natCast];generalize hx : nth l zS i = x at hr ⊢;obtain ⟨hs, hg0, hg1, hr'⟩ := hr;simp only [cond_true];rw [xUf F hF hs hg0 hm.2 (by omega), xAj];have hq := xJt (xJp sp0 hs) hg0 hd;generalize hr0 : ch (s0 x.2.2) x d m = r at hq ⊢;have hn := xKW (xJp sp0 hs) hg0 hd (n := pn c x r) (by rw [hr0]; exact xKN c x hq.2.1);rw [show xBu F (i : Int) r.1 r.2 c l = some (pn c x r, c) from xDw F hi hx, xAj];have hw : 0 <= nx x d (pn c x r) /\ nx x d (pn c x r) <= 1000000000000000 := ⟨hn.2.1, by omega⟩;obtain ⟨ts', e1⟩ := fil0_a l hl hone c R sls a f e j k (i + 1) (nx x d (pn c x r)) (gm m x) (xEZ (.i .i64) (i : Int) (r.1, (r.2, nx x d (pn c x r))) ts) (by omega) (by omega) hr' ⟨hg0, hg1⟩ hn.2.1 (by omega);refine ⟨ts', ?_⟩;have k1 : x.1 = 1 := hone x (by rw [<- hx]; exact xFA hi _);have b1 : (x.1 == 1) = true := bq k1;have b2 : (x.1 == 2) = false := bn (by omega);have b3 : (x.1 == 3) = false := bn (by omega);have b4 : (x.1 == 4) = false := bn (by omega);simp only [b1, b2, b3, b4, cond_true, cond_false];rw [xBU F (stM hs) hm, xAj, xUU (by omega) hw, wI i hi hl];exact e1
theorem fil0_b (l : List Tst) (hl : l.length <= 200) (hone : ∀ x ∈ l, x.1 = 1) (a f : Int × (Int × (Int × (Int × (Int × (Int × Int)))))) (e : Int) (ts : List (Int × Tc3)) : ∀ (j k i : Nat) (d m : Int) (R : (Int × (Int × (Int × (Int × (Int × (Int × (Int × (Int × (Int × (Int × (Int × (Int × (Int × (Int × (Int × (Int × (Int × (Int × (Int × (Int × (Int × (Int × (Int × (Int × Int))))))))))))))))))))))))) (sls : List Tfr) (kk : Nat), i + j = l.length -> j < k -> run (l.drop i) m -> 0 <= m /\ m <= 1000000000 -> 0 <= d -> d + 1000000000000 * j <= 400000000000000 -> kk + j <= sls.length -> sls.length <= 200 -> ∃ R' kk' sls', xAr F k ((d, m, ((l.length - 0) : Int), (i : Int)), (l, R, sls, a, (kk : Int), ts, e, f, xBQ)) = some (l, R', sls', a, kk', ts, e, f, xBQ) /\ R'.1 = R.1 /\ sls'.map Prod.fst = sls.map Prod.fst
 | j, 0, _, _, _, _, _, _, h, _, _, _, _, _, _, _ => by omega
 | 0, k + 1, i, d, m, R, sls, kk, h, _, _, _, _, _, _, _ => by
  simp only [xAr];rw [xAK (show ¬ (i : Int) < (l.length - 0 : Int) by omega)];exact ⟨_, _, _, rfl, rfl, rfl⟩
 | j + 1, k + 1, i, d, m, R, sls, kk, h, hj, hr, hm, hd, hD, hk, hk2 => by
  have hi : i < l.length := by omega
  rw [xEM hi zS] at hr;simp only [xAr];rw [xAI (show (i : Int) < (l.length - 0 : Int) by omega), show inB (i : Int) (l.length - 0) = true from inB_t hi, Int.toNat_natCast];generalize hx : nth l zS i = x at hr ⊢;obtain ⟨hs, hg0, hg1, hr'⟩ := hr;simp only [cond_true];generalize xAx (.i .i64) (0, (0, 0)) (i : Int) ts = g;rw [xUf F hF hs hg0 hm.2 (by omega), xAj];have hq := xJt (xJp sp0 hs) hg0 hd;generalize hr0 : ch (s0 x.2.2) x d m = r at hq ⊢;have hn := xKW (xJp sp0 hs) hg0 hd (n := pn xBQ x r) (by rw [hr0]; exact xKN xBQ x hq.2.1);rw [show xBu F (i : Int) r.1 r.2 xBQ l = some (pn xBQ x r, xBQ) from xDw F hi hx, xAj];have hw : 0 <= nx x d (pn xBQ x r) /\ nx x d (pn xBQ x r) <= 1000000000000000 := ⟨hn.2.1, by omega⟩;have k1 : x.1 = 1 := hone x (by rw [<- hx]; exact xFA hi _);have b1 : (x.1 == 1) = true := bq k1;have b2 : (x.1 == 2) = false := bn (by omega);have b3 : (x.1 == 3) = false := bn (by omega);have b4 : (x.1 == 4) = false := bn (by omega);simp only [b1, b2, b3, b4, cond_true, cond_false];rw [xBU F (stM hs) hm, xAj, show inB (kk : Int) (sls.length - 0) = true from inB_t (by omega), xUU (by omega) hw, wI i hi hl, w64 ((kk : Int) + 1) (by omega), Int.toNat_natCast];rw [<- xNw sls (show kk < sls.length by omega) (y := put0 (nth sls zF kk) (r.1, g.2.1)) rfl];exact fil0_b l hl hone a f e ts j k (i + 1) _ _ _ (sls.set kk (put0 (nth sls zF kk) (r.1, g.2.1))) (kk + 1) (by omega) (by omega) hr' ⟨hg0, hg1⟩ hn.2.1 (by omega) (by rw [List.length_set]; omega) (by rw [List.length_set]; omega)
/-- What fill makes of the slices. -/
theorem fil0 (l : List Tst) (hl : l.length <= 200) (hone : ∀ x ∈ l, x.1 = 1) (a : Tfr) (hm : 0 <= a.1 /\ a.1 <= 1000000000) (ha : okR (s0 a.2) 1000000000000) (hr : run l a.1) (R : Tfr × (Tb × (Tb × Tb))) (sls : List Tfr) (hk : l.length <= sls.length) (hk2 : sls.length <= 200) : ∃ R' sls', xIS F a l R sls = some (R', sls') /\ R'.1 = R.1.1 /\ sls'.map Prod.fst = sls.map Prod.fst := by
 obtain ⟨h1, h2, h3⟩ := id ha;unfold xIS;have h0 := fun R0 => fil0_a F hF l hl hone xRX R0 sls (a.1, (a.2.1.1, (a.2.1.2, (a.2.2.1.1, (a.2.2.1.2, a.2.2.2))))) (a.1, (a.2.1.1, (a.2.1.2, (a.2.2.1.1, (a.2.2.1.2, a.2.2.2))))) (s0 a.2).2 l.length F 0 (s0 a.2).2 a.1 [] (by omega) (by omega) hr hm (by omega) (by omega);obtain ⟨ts, e1⟩ := h0 _;obtain ⟨R1, kk, sls1, e3, e8, e9⟩ := fil0_b F hF l hl hone (a.1, (a.2.1.1, (a.2.1.2, (a.2.2.1.1, (a.2.2.1.2, a.2.2.2))))) (a.1, (a.2.1.1, (a.2.1.2, (a.2.2.1.1, (a.2.2.1.2, a.2.2.2))))) (s0 a.2).1 ts l.length F 0 (s0 a.2).1 a.1 _ sls 0 (by omega) (by omega) hr hm h1 (by omega) (by omega) hk2;obtain ⟨t1, e4⟩ := tot0 F hF l hl hone a hm ha hr (false, (false, true));obtain ⟨t2, e5⟩ := tot0 F hF l hl hone a hm ha hr (true, (true, false));obtain ⟨t3, e6⟩ := tot0 F hF l hl hone a hm ha hr (false, (true, false));obtain ⟨t4, e7⟩ := tot0 F hF l hl hone a hm ha hr (true, (false, true));exact ⟨_, _, xBN e1 (xBN e3 (xBN e4 (xBN e5 (xBN e6 (xBN e7 rfl))))), e8, e9⟩
end
end M3
end Go.Proofs.YthmicafabimfkaaGreatDoor


namespace Go.Proofs.YthmicafabimfkaaGreatDoor
namespace M3
open Go.RowKit U8
set_option maxRecDepth 100000
set_option maxHeartbeats 4000000
section
variable (F : Nat) (hF : 2000 < F)
include hF
theorem xHO (l : List Tst) (hl : l.length <= 200) (hone : ∀ x ∈ l, x.1 = 1) (c : Tco) : ∀ (j k i : Nat) (d m so go dd e : Int) (a f : Int × (Int × (Int × (Int × (Int × (Int × Int)))))), i + j = l.length -> j < k -> run (l.drop i) m -> 0 <= m /\ m <= 1000000000 -> 0 <= d -> d + 1000000000000 * j <= 400000000000000 -> ∃ t, xAz F k ((d, m, ((l.length - 0) : Int), (i : Int)), (l, a, so, go, dd, e, f, c)) = some t
 | j, 0, _, _, _, _, _, _, _, _, _, _, h, _, _, _, _ => by omega
 | 0, k + 1, i, d, m, so, go, dd, e, a, f, h, _, _, _, _, _ => by
  simp only [xAz];rw [xAK (show ¬ (i : Int) < (l.length - 0 : Int) by omega)];exact ⟨_, rfl⟩
 | j + 1, k + 1, i, d, m, so, go, dd, e, a, f, h, hj, hr, hm, hd, hD => by
  have hi : i < l.length := by omega
  have hx : nth l zS i = nth l zS i := rfl;rw [xEM hi zS] at hr;simp only [xAz];rw [xAI (show (i : Int) < (l.length - 0 : Int) by omega), show inB (i : Int) (l.length - 0) = true from inB_t hi, Int.toNat_natCast];generalize hx : nth l zS i = x at hr ⊢;obtain ⟨hs, hg0, hg1, hr'⟩ := hr;simp only [cond_true];rw [xUe F hF hs hg0 hm.2 (by omega), xAj];have hq := xJt (xJp sp1 hs) hg0 hd;generalize hr0 : ch (s1 x.2.2) x d m = r at hq ⊢;have hn := xKW (xJp sp1 hs) hg0 hd (n := pn c x r) (by rw [hr0]; exact xKN c x hq.2.1);rw [show xBu F (i : Int) r.1 r.2 c l = some (pn c x r, c) from xDw F hi hx, xAj];have hw : 0 <= nx x d (pn c x r) /\ nx x d (pn c x r) <= 1000000000000000 := ⟨hn.2.1, by omega⟩;have k1 : x.1 = 1 := hone x (by rw [<- hx]; exact xFA hi _);have b1 : (x.1 == 1) = true := bq k1;have b2 : (x.1 == 2) = false := bn (by omega);have b3 : (x.1 == 3) = false := bn (by omega);have b4 : (x.1 == 4) = false := bn (by omega);simp only [b1, b2, b3, b4, cond_true, cond_false];rw [xBU F (stM hs) hm, xAj, xUU (by omega) hw, wI i hi hl];exact xHO l hl hone c j k (i + 1) _ _ _ _ _ _ _ _ (by omega) (by omega) hr' ⟨hg0, hg1⟩ hn.2.1 (by omega)
theorem tot1 (l : List Tst) (hl : l.length <= 200) (hone : ∀ x ∈ l, x.1 = 1) (a : Tfr) (hm : 0 <= a.1 /\ a.1 <= 1000000000) (ha : okR (s1 a.2) 1000000000000) (hr : run l a.1) (c : Tco) : ∃ t, xCQ F a c l = some t := by
 obtain ⟨c0, c1⟩ := c;obtain ⟨h1, h2, h3⟩ := ha;unfold xCQ;cases c0
 ·obtain ⟨t, h⟩ := xHO F hF l hl hone (false, c1) l.length F 0 (s1 a.2).1 a.1 0 0 (s1 a.2).1 (s1 a.2).1 (a.1, (a.2.1.1, (a.2.1.2, (a.2.2.1.1, (a.2.2.1.2, a.2.2.2))))) (a.1, (a.2.1.1, (a.2.1.2, (a.2.2.1.1, (a.2.2.1.2, a.2.2.2))))) (by omega) (by omega) hr hm h1 (by omega);exact ⟨_, xBN rfl (xBN h rfl)⟩
 ·obtain ⟨t, h⟩ := xHO F hF l hl hone (true, c1) l.length F 0 (s1 a.2).2 a.1 0 0 (s1 a.2).2 (s1 a.2).2 (a.1, (a.2.1.1, (a.2.1.2, (a.2.2.1.1, (a.2.2.1.2, a.2.2.2))))) (a.1, (a.2.1.1, (a.2.1.2, (a.2.2.1.1, (a.2.2.1.2, a.2.2.2))))) (by omega) (by omega) hr hm (by omega) (by omega);exact ⟨_, xBN rfl (xBN h rfl)⟩
theorem fil1_a (l : List Tst) (hl : l.length <= 200) (hone : ∀ x ∈ l, x.1 = 1) (c : Tco) (R : (Int × (Int × (Int × (Int × (Int × (Int × (Int × (Int × (Int × (Int × (Int × (Int × (Int × (Int × (Int × (Int × (Int × (Int × (Int × (Int × (Int × (Int × (Int × (Int × Int))))))))))))))))))))))))) (sls : List Tfr) (a f : Int × (Int × (Int × (Int × (Int × (Int × Int)))))) (e : Int) : ∀ (j k i : Nat) (d m : Int) (ts : List (Int × Tc3)), i + j = l.length -> j < k -> run (l.drop i) m -> 0 <= m /\ m <= 1000000000 -> 0 <= d -> d + 1000000000000 * j <= 400000000000000 -> ∃ ts', xBa F k ((d, m, ((l.length - 0) : Int), (i : Int)), (l, R, sls, a, ts, e, f, c)) = some (l, R, sls, a, ts', e, f, c)
 | j, 0, _, _, _, _, _, h, _, _, _, _ => by omega
 | 0, k + 1, i, d, m, ts, h, _, _, _, _, _ => by
  simp only [xBa];rw [xAK (show ¬ (i : Int) < (l.length - 0 : Int) by omega)];exact ⟨_, rfl⟩
 | j + 1, k + 1, i, d, m, ts, h, hj, hr, hm, hd, hD => by
  have hi : i < l.length := by omega
  rw [xEM hi zS] at hr;simp only [xBa];rw [xAI (show (i : Int) < (l.length - 0 : Int) by omega), show inB (i : Int) (l.length - 0) = true from inB_t hi, Int.toNat_natCast];generalize hx : nth l zS i = x at hr ⊢;obtain ⟨hs, hg0, hg1, hr'⟩ := hr;simp only [cond_true];rw [xUe F hF hs hg0 hm.2 (by omega), xAj];have hq := xJt (xJp sp1 hs) hg0 hd;generalize hr0 : ch (s1 x.2.2) x d m = r at hq ⊢;have hn := xKW (xJp sp1 hs) hg0 hd (n := pn c x r) (by rw [hr0]; exact xKN c x hq.2.1);rw [show xBu F (i : Int) r.1 r.2 c l = some (pn c x r, c) from xDw F hi hx, xAj];have hw : 0 <= nx x d (pn c x r) /\ nx x d (pn c x r) <= 1000000000000000 := ⟨hn.2.1, by omega⟩;obtain ⟨ts', e1⟩ := fil1_a l hl hone c R sls a f e j k (i + 1) (nx x d (pn c x r)) (gm m x) (xEZ (.i .i64) (i : Int) (r.1, (r.2, nx x d (pn c x r))) ts) (by omega) (by omega) hr' ⟨hg0, hg1⟩ hn.2.1 (by omega);refine ⟨ts', ?_⟩;have k1 : x.1 = 1 := hone x (by rw [<- hx]; exact xFA hi _);have b1 : (x.1 == 1) = true := bq k1;have b2 : (x.1 == 2) = false := bn (by omega);have b3 : (x.1 == 3) = false := bn (by omega);have b4 : (x.1 == 4) = false := bn (by omega);simp only [b1, b2, b3, b4, cond_true, cond_false];rw [xBU F (stM hs) hm, xAj, xUU (by omega) hw, wI i hi hl];exact e1
theorem fil1_b (l : List Tst) (hl : l.length <= 200) (hone : ∀ x ∈ l, x.1 = 1) (a f : Int × (Int × (Int × (Int × (Int × (Int × Int)))))) (e : Int) (ts : List (Int × Tc3)) : ∀ (j k i : Nat) (d m : Int) (R : (Int × (Int × (Int × (Int × (Int × (Int × (Int × (Int × (Int × (Int × (Int × (Int × (Int × (Int × (Int × (Int × (Int × (Int × (Int × (Int × (Int × (Int × (Int × (Int × Int))))))))))))))))))))))))) (sls : List Tfr) (kk : Nat), i + j = l.length -> j < k -> run (l.drop i) m -> 0 <= m /\ m <= 1000000000 -> 0 <= d -> d + 1000000000000 * j <= 400000000000000 -> kk + j <= sls.length -> sls.length <= 200 -> ∃ R' kk' sls', xAq F k ((d, m, ((l.length - 0) : Int), (i : Int)), (l, R, sls, a, (kk : Int), ts, e, f, xBQ)) = some (l, R', sls', a, kk', ts, e, f, xBQ) /\ R'.1 = R.1 /\ sls'.map Prod.fst = sls.map Prod.fst
 | j, 0, _, _, _, _, _, _, h, _, _, _, _, _, _, _ => by omega
 | 0, k + 1, i, d, m, R, sls, kk, h, _, _, _, _, _, _, _ => by
  simp only [xAq];rw [xAK (show ¬ (i : Int) < (l.length - 0 : Int) by omega)];exact ⟨_, _, _, rfl, rfl, rfl⟩
 | j + 1, k + 1, i, d, m, R, sls, kk, h, hj, hr, hm, hd, hD, hk, hk2 => by
  have hi : i < l.length := by omega
  rw [xEM hi zS] at hr;simp only [xAq];rw [xAI (show (i : Int) < (l.length - 0 : Int) by omega), show inB (i : Int) (l.length - 0) = true from inB_t hi, Int.toNat_natCast];generalize hx : nth l zS i = x at hr ⊢;obtain ⟨hs, hg0, hg1, hr'⟩ := hr;simp only [cond_true];generalize xAx (.i .i64) (0, (0, 0)) (i : Int) ts = g;rw [xUe F hF hs hg0 hm.2 (by omega), xAj];have hq := xJt (xJp sp1 hs) hg0 hd;generalize hr0 : ch (s1 x.2.2) x d m = r at hq ⊢;have hn := xKW (xJp sp1 hs) hg0 hd (n := pn xBQ x r) (by rw [hr0]; exact xKN xBQ x hq.2.1);rw [show xBu F (i : Int) r.1 r.2 xBQ l = some (pn xBQ x r, xBQ) from xDw F hi hx, xAj];have hw : 0 <= nx x d (pn xBQ x r) /\ nx x d (pn xBQ x r) <= 1000000000000000 := ⟨hn.2.1, by omega⟩;have k1 : x.1 = 1 := hone x (by rw [<- hx]; exact xFA hi _);have b1 : (x.1 == 1) = true := bq k1;have b2 : (x.1 == 2) = false := bn (by omega);have b3 : (x.1 == 3) = false := bn (by omega);have b4 : (x.1 == 4) = false := bn (by omega);simp only [b1, b2, b3, b4, cond_true, cond_false];rw [xBU F (stM hs) hm, xAj, show inB (kk : Int) (sls.length - 0) = true from inB_t (by omega), xUU (by omega) hw, wI i hi hl, w64 ((kk : Int) + 1) (by omega), Int.toNat_natCast];rw [<- xNw sls (show kk < sls.length by omega) (y := put1 (nth sls zF kk) (r.1, g.2.1)) rfl];exact fil1_b l hl hone a f e ts j k (i + 1) _ _ _ (sls.set kk (put1 (nth sls zF kk) (r.1, g.2.1))) (kk + 1) (by omega) (by omega) hr' ⟨hg0, hg1⟩ hn.2.1 (by omega) (by rw [List.length_set]; omega) (by rw [List.length_set]; omega)
/-- What fill makes of the slices. -/
theorem fil1 (l : List Tst) (hl : l.length <= 200) (hone : ∀ x ∈ l, x.1 = 1) (a : Tfr) (hm : 0 <= a.1 /\ a.1 <= 1000000000) (ha : okR (s1 a.2) 1000000000000) (hr : run l a.1) (R : Tfr × (Tb × (Tb × Tb))) (sls : List Tfr) (hk : l.length <= sls.length) (hk2 : sls.length <= 200) : ∃ R' sls', xIO F a l R sls = some (R', sls') /\ R'.1 = R.1.1 /\ sls'.map Prod.fst = sls.map Prod.fst := by
 obtain ⟨h1, h2, h3⟩ := id ha;unfold xIO;have h0 := fun R0 => fil1_a F hF l hl hone xRX R0 sls (a.1, (a.2.1.1, (a.2.1.2, (a.2.2.1.1, (a.2.2.1.2, a.2.2.2))))) (a.1, (a.2.1.1, (a.2.1.2, (a.2.2.1.1, (a.2.2.1.2, a.2.2.2))))) (s1 a.2).2 l.length F 0 (s1 a.2).2 a.1 [] (by omega) (by omega) hr hm (by omega) (by omega);obtain ⟨ts, e1⟩ := h0 _;obtain ⟨R1, kk, sls1, e3, e8, e9⟩ := fil1_b F hF l hl hone (a.1, (a.2.1.1, (a.2.1.2, (a.2.2.1.1, (a.2.2.1.2, a.2.2.2))))) (a.1, (a.2.1.1, (a.2.1.2, (a.2.2.1.1, (a.2.2.1.2, a.2.2.2))))) (s1 a.2).1 ts l.length F 0 (s1 a.2).1 a.1 _ sls 0 (by omega) (by omega) hr hm h1 (by omega) (by omega) hk2;obtain ⟨t1, e4⟩ := tot1 F hF l hl hone a hm ha hr (false, (false, true));obtain ⟨t2, e5⟩ := tot1 F hF l hl hone a hm ha hr (true, (true, false));obtain ⟨t3, e6⟩ := tot1 F hF l hl hone a hm ha hr (false, (true, false));obtain ⟨t4, e7⟩ := tot1 F hF l hl hone a hm ha hr (true, (false, true));exact ⟨_, _, xBN e1 (xBN e3 (xBN e4 (xBN e5 (xBN e6 (xBN e7 rfl))))), e8, e9⟩
end
end M3
end Go.Proofs.YthmicafabimfkaaGreatDoor


namespace Go.Proofs.YthmicafabimfkaaGreatDoor
namespace M3
open Go.RowKit U8
set_option maxRecDepth 100000
set_option maxHeartbeats 4000000
section
variable (F : Nat) (hF : 2000 < F)
include hF
theorem xHN (l : List Tst) (hl : l.length <= 200) (hone : ∀ x ∈ l, x.1 = 1) (c : Tco) : ∀ (j k i : Nat) (d m so go dd e : Int) (a f : Int × (Int × (Int × (Int × (Int × (Int × Int)))))), i + j = l.length -> j < k -> run (l.drop i) m -> 0 <= m /\ m <= 1000000000 -> 0 <= d -> d + 1000000000000 * j <= 400000000000000 -> ∃ t, xAy F k ((d, m, ((l.length - 0) : Int), (i : Int)), (l, a, so, go, dd, e, f, c)) = some t
 | j, 0, _, _, _, _, _, _, _, _, _, _, h, _, _, _, _ => by omega
 | 0, k + 1, i, d, m, so, go, dd, e, a, f, h, _, _, _, _, _ => by
  simp only [xAy];rw [xAK (show ¬ (i : Int) < (l.length - 0 : Int) by omega)];exact ⟨_, rfl⟩
 | j + 1, k + 1, i, d, m, so, go, dd, e, a, f, h, hj, hr, hm, hd, hD => by
  have hi : i < l.length := by omega
  have hx : nth l zS i = nth l zS i := rfl;rw [xEM hi zS] at hr;simp only [xAy];rw [xAI (show (i : Int) < (l.length - 0 : Int) by omega), show inB (i : Int) (l.length - 0) = true from inB_t hi, Int.toNat_natCast];generalize hx : nth l zS i = x at hr ⊢;obtain ⟨hs, hg0, hg1, hr'⟩ := hr;simp only [cond_true];rw [xUd F hF hs hg0 hm.2 (by omega), xAj];have hq := xJt (xJp sp2 hs) hg0 hd;generalize hr0 : ch (s2 x.2.2) x d m = r at hq ⊢;have hn := xKW (xJp sp2 hs) hg0 hd (n := pn c x r) (by rw [hr0]; exact xKN c x hq.2.1);rw [show xBu F (i : Int) r.1 r.2 c l = some (pn c x r, c) from xDw F hi hx, xAj];have hw : 0 <= nx x d (pn c x r) /\ nx x d (pn c x r) <= 1000000000000000 := ⟨hn.2.1, by omega⟩;have k1 : x.1 = 1 := hone x (by rw [<- hx]; exact xFA hi _);have b1 : (x.1 == 1) = true := bq k1;have b2 : (x.1 == 2) = false := bn (by omega);have b3 : (x.1 == 3) = false := bn (by omega);have b4 : (x.1 == 4) = false := bn (by omega);simp only [b1, b2, b3, b4, cond_true, cond_false];rw [xBU F (stM hs) hm, xAj, xUU (by omega) hw, wI i hi hl];exact xHN l hl hone c j k (i + 1) _ _ _ _ _ _ _ _ (by omega) (by omega) hr' ⟨hg0, hg1⟩ hn.2.1 (by omega)
theorem tot2 (l : List Tst) (hl : l.length <= 200) (hone : ∀ x ∈ l, x.1 = 1) (a : Tfr) (hm : 0 <= a.1 /\ a.1 <= 1000000000) (ha : okR (s2 a.2) 1000000000000) (hr : run l a.1) (c : Tco) : ∃ t, xCP F a c l = some t := by
 obtain ⟨c0, c1⟩ := c;obtain ⟨h1, h2, h3⟩ := ha;unfold xCP;cases c0
 ·obtain ⟨t, h⟩ := xHN F hF l hl hone (false, c1) l.length F 0 (s2 a.2).1 a.1 0 0 (s2 a.2).1 (s2 a.2).1 (a.1, (a.2.1.1, (a.2.1.2, (a.2.2.1.1, (a.2.2.1.2, a.2.2.2))))) (a.1, (a.2.1.1, (a.2.1.2, (a.2.2.1.1, (a.2.2.1.2, a.2.2.2))))) (by omega) (by omega) hr hm h1 (by omega);exact ⟨_, xBN rfl (xBN h rfl)⟩
 ·obtain ⟨t, h⟩ := xHN F hF l hl hone (true, c1) l.length F 0 (s2 a.2).2 a.1 0 0 (s2 a.2).2 (s2 a.2).2 (a.1, (a.2.1.1, (a.2.1.2, (a.2.2.1.1, (a.2.2.1.2, a.2.2.2))))) (a.1, (a.2.1.1, (a.2.1.2, (a.2.2.1.1, (a.2.2.1.2, a.2.2.2))))) (by omega) (by omega) hr hm (by omega) (by omega);exact ⟨_, xBN rfl (xBN h rfl)⟩
theorem fil2_a (l : List Tst) (hl : l.length <= 200) (hone : ∀ x ∈ l, x.1 = 1) (c : Tco) (R : (Int × (Int × (Int × (Int × (Int × (Int × (Int × (Int × (Int × (Int × (Int × (Int × (Int × (Int × (Int × (Int × (Int × (Int × (Int × (Int × (Int × (Int × (Int × (Int × Int))))))))))))))))))))))))) (sls : List Tfr) (a f : Int × (Int × (Int × (Int × (Int × (Int × Int)))))) (e : Int) : ∀ (j k i : Nat) (d m : Int) (ts : List (Int × Tc3)), i + j = l.length -> j < k -> run (l.drop i) m -> 0 <= m /\ m <= 1000000000 -> 0 <= d -> d + 1000000000000 * j <= 400000000000000 -> ∃ ts', xA9 F k ((d, m, ((l.length - 0) : Int), (i : Int)), (l, R, sls, a, ts, e, f, c)) = some (l, R, sls, a, ts', e, f, c)
 | j, 0, _, _, _, _, _, h, _, _, _, _ => by omega
 | 0, k + 1, i, d, m, ts, h, _, _, _, _, _ => by
  simp only [xA9];rw [xAK (show ¬ (i : Int) < (l.length - 0 : Int) by omega)];exact ⟨_, rfl⟩
 | j + 1, k + 1, i, d, m, ts, h, hj, hr, hm, hd, hD => by
  have hi : i < l.length := by omega
  rw [xEM hi zS] at hr;simp only [xA9];rw [xAI (show (i : Int) < (l.length - 0 : Int) by omega), show inB (i : Int) (l.length - 0) = true from inB_t hi, Int.toNat_natCast];generalize hx : nth l zS i = x at hr ⊢;obtain ⟨hs, hg0, hg1, hr'⟩ := hr;simp only [cond_true];rw [xUd F hF hs hg0 hm.2 (by omega), xAj];have hq := xJt (xJp sp2 hs) hg0 hd;generalize hr0 : ch (s2 x.2.2) x d m = r at hq ⊢;have hn := xKW (xJp sp2 hs) hg0 hd (n := pn c x r) (by rw [hr0]; exact xKN c x hq.2.1);rw [show xBu F (i : Int) r.1 r.2 c l = some (pn c x r, c) from xDw F hi hx, xAj];have hw : 0 <= nx x d (pn c x r) /\ nx x d (pn c x r) <= 1000000000000000 := ⟨hn.2.1, by omega⟩;obtain ⟨ts', e1⟩ := fil2_a l hl hone c R sls a f e j k (i + 1) (nx x d (pn c x r)) (gm m x) (xEZ (.i .i64) (i : Int) (r.1, (r.2, nx x d (pn c x r))) ts) (by omega) (by omega) hr' ⟨hg0, hg1⟩ hn.2.1 (by omega);refine ⟨ts', ?_⟩;have k1 : x.1 = 1 := hone x (by rw [<- hx]; exact xFA hi _);have b1 : (x.1 == 1) = true := bq k1;have b2 : (x.1 == 2) = false := bn (by omega);have b3 : (x.1 == 3) = false := bn (by omega);have b4 : (x.1 == 4) = false := bn (by omega);simp only [b1, b2, b3, b4, cond_true, cond_false];rw [xBU F (stM hs) hm, xAj, xUU (by omega) hw, wI i hi hl];exact e1
theorem fil2_b (l : List Tst) (hl : l.length <= 200) (hone : ∀ x ∈ l, x.1 = 1) (a f : Int × (Int × (Int × (Int × (Int × (Int × Int)))))) (e : Int) (ts : List (Int × Tc3)) : ∀ (j k i : Nat) (d m : Int) (R : (Int × (Int × (Int × (Int × (Int × (Int × (Int × (Int × (Int × (Int × (Int × (Int × (Int × (Int × (Int × (Int × (Int × (Int × (Int × (Int × (Int × (Int × (Int × (Int × Int))))))))))))))))))))))))) (sls : List Tfr) (kk : Nat), i + j = l.length -> j < k -> run (l.drop i) m -> 0 <= m /\ m <= 1000000000 -> 0 <= d -> d + 1000000000000 * j <= 400000000000000 -> kk + j <= sls.length -> sls.length <= 200 -> ∃ R' kk' sls', xAp F k ((d, m, ((l.length - 0) : Int), (i : Int)), (l, R, sls, a, (kk : Int), ts, e, f, xBQ)) = some (l, R', sls', a, kk', ts, e, f, xBQ) /\ R'.1 = R.1 /\ sls'.map Prod.fst = sls.map Prod.fst
 | j, 0, _, _, _, _, _, _, h, _, _, _, _, _, _, _ => by omega
 | 0, k + 1, i, d, m, R, sls, kk, h, _, _, _, _, _, _, _ => by
  simp only [xAp];rw [xAK (show ¬ (i : Int) < (l.length - 0 : Int) by omega)];exact ⟨_, _, _, rfl, rfl, rfl⟩
 | j + 1, k + 1, i, d, m, R, sls, kk, h, hj, hr, hm, hd, hD, hk, hk2 => by
  have hi : i < l.length := by omega
  rw [xEM hi zS] at hr;simp only [xAp];rw [xAI (show (i : Int) < (l.length - 0 : Int) by omega), show inB (i : Int) (l.length - 0) = true from inB_t hi, Int.toNat_natCast];generalize hx : nth l zS i = x at hr ⊢;obtain ⟨hs, hg0, hg1, hr'⟩ := hr;simp only [cond_true];generalize xAx (.i .i64) (0, (0, 0)) (i : Int) ts = g;rw [xUd F hF hs hg0 hm.2 (by omega), xAj];have hq := xJt (xJp sp2 hs) hg0 hd;generalize hr0 : ch (s2 x.2.2) x d m = r at hq ⊢;have hn := xKW (xJp sp2 hs) hg0 hd (n := pn xBQ x r) (by rw [hr0]; exact xKN xBQ x hq.2.1);rw [show xBu F (i : Int) r.1 r.2 xBQ l = some (pn xBQ x r, xBQ) from xDw F hi hx, xAj];have hw : 0 <= nx x d (pn xBQ x r) /\ nx x d (pn xBQ x r) <= 1000000000000000 := ⟨hn.2.1, by omega⟩;have k1 : x.1 = 1 := hone x (by rw [<- hx]; exact xFA hi _);have b1 : (x.1 == 1) = true := bq k1;have b2 : (x.1 == 2) = false := bn (by omega);have b3 : (x.1 == 3) = false := bn (by omega);have b4 : (x.1 == 4) = false := bn (by omega);simp only [b1, b2, b3, b4, cond_true, cond_false];rw [xBU F (stM hs) hm, xAj, show inB (kk : Int) (sls.length - 0) = true from inB_t (by omega), xUU (by omega) hw, wI i hi hl, w64 ((kk : Int) + 1) (by omega), Int.toNat_natCast];rw [<- xNw sls (show kk < sls.length by omega) (y := put2 (nth sls zF kk) (r.1, g.2.1)) rfl];exact fil2_b l hl hone a f e ts j k (i + 1) _ _ _ (sls.set kk (put2 (nth sls zF kk) (r.1, g.2.1))) (kk + 1) (by omega) (by omega) hr' ⟨hg0, hg1⟩ hn.2.1 (by omega) (by rw [List.length_set]; omega) (by rw [List.length_set]; omega)
/-- What fill makes of the slices. -/
theorem fil2 (l : List Tst) (hl : l.length <= 200) (hone : ∀ x ∈ l, x.1 = 1) (a : Tfr) (hm : 0 <= a.1 /\ a.1 <= 1000000000) (ha : okR (s2 a.2) 1000000000000) (hr : run l a.1) (R : Tfr × (Tb × (Tb × Tb))) (sls : List Tfr) (hk : l.length <= sls.length) (hk2 : sls.length <= 200) : ∃ R' sls', xIK F a l R sls = some (R', sls') /\ R'.1 = R.1.1 /\ sls'.map Prod.fst = sls.map Prod.fst := by
 obtain ⟨h1, h2, h3⟩ := id ha;unfold xIK;have h0 := fun R0 => fil2_a F hF l hl hone xRX R0 sls (a.1, (a.2.1.1, (a.2.1.2, (a.2.2.1.1, (a.2.2.1.2, a.2.2.2))))) (a.1, (a.2.1.1, (a.2.1.2, (a.2.2.1.1, (a.2.2.1.2, a.2.2.2))))) (s2 a.2).2 l.length F 0 (s2 a.2).2 a.1 [] (by omega) (by omega) hr hm (by omega) (by omega);obtain ⟨ts, e1⟩ := h0 _;obtain ⟨R1, kk, sls1, e3, e8, e9⟩ := fil2_b F hF l hl hone (a.1, (a.2.1.1, (a.2.1.2, (a.2.2.1.1, (a.2.2.1.2, a.2.2.2))))) (a.1, (a.2.1.1, (a.2.1.2, (a.2.2.1.1, (a.2.2.1.2, a.2.2.2))))) (s2 a.2).1 ts l.length F 0 (s2 a.2).1 a.1 _ sls 0 (by omega) (by omega) hr hm h1 (by omega) (by omega) hk2;obtain ⟨t1, e4⟩ := tot2 F hF l hl hone a hm ha hr (false, (false, true));obtain ⟨t2, e5⟩ := tot2 F hF l hl hone a hm ha hr (true, (true, false));obtain ⟨t3, e6⟩ := tot2 F hF l hl hone a hm ha hr (false, (true, false));obtain ⟨t4, e7⟩ := tot2 F hF l hl hone a hm ha hr (true, (false, true));exact ⟨_, _, xBN e1 (xBN e3 (xBN e4 (xBN e5 (xBN e6 (xBN e7 rfl))))), e8, e9⟩
end
end M3
end Go.Proofs.YthmicafabimfkaaGreatDoor


namespace Go.Proofs.YthmicafabimfkaaGreatDoor
namespace M3
open Go.RowKit U8
set_option maxRecDepth 100000
set_option maxHeartbeats 4000000
abbrev RT := Int × (Int × (Int × (Int × (Int × (Int × (Int × (Int × (Int × (Int × (Int × (Int × (Int × (Int × (Int × (Int × (Int × (Int × (Int × (Int × (Int × (Int × (Int × (Int × Int)))))))))))))))))))))))
def zB : Tb := ((0, 0), ((0, 0), (0, 0)))
/-- The slices before their contents are filled in. -/
def fr0 : List Tst -> List Tfr
 | [] => []
 | x :: l => if x.1 = 1 then (x.2.1, zB) :: fr0 l else fr0 l
theorem xTm : ∀ l : List Tst, (∀ x ∈ l, x.1 = 1) -> (fr0 l).length = l.length
 | [], _ => rfl
 | x :: l, h => by rw [fr0, if_pos (h x (List.mem_cons_self ..)), List.length_cons, List.length_cons, xTm l (fun y hy => h y (List.mem_cons_of_mem _ hy))]
theorem ob_exq {α β : Type} {x : Option α} {f : α -> Option β} {Q : Option β -> Prop} {y : α} (h : x = some y) (h2 : Q (f y)) : Q (ob x f) := by rw [h]; exact h2
theorem xSs {α β γ : Type} {x : Option (α × γ)} {f : α × γ -> Option β} {Q : Option β -> Prop} {P : α -> γ -> Prop} (h : ∃ n s, x = some (n, s) /\ P n s) (h2 : ∀ n s, P n s -> Q (f (n, s))) : Q (ob x f) := by
 obtain ⟨n, s, h4, h5⟩ := h;rw [h4];exact h2 n s h5
section
variable (F : Nat)
theorem preL (l : List Tst) (hl : l.length <= 200) (m1 : Tfr) : ∀ (j k i : Nat) (r : Int × (Int × (Int × (Int × (Int × (Int × Int)))))) (acc : List Tfr), i + j = l.length -> j < k -> run (l.drop i) r.1 -> 0 <= r.1 /\ r.1 <= 1000000000 -> acc.length <= i -> ∃ r', xBj F ((l.length - 0) : Int) l m1 k (i : Int) r acc = some (l, (m1, ((r', r.2), acc ++ fr0 (l.drop i)))) /\ r' = (l.drop i).foldl gm r.1
 | j, 0, _, _, _, _, h, _, _, _ => by omega
 | 0, k + 1, i, r, acc, h, _, _, _, _ => by
  simp only [xBj];rw [xAK (show ¬ (i : Int) < (l.length - 0 : Int) by omega), List.drop_eq_nil_of_le (show l.length <= i by omega), fr0, List.append_nil];exact ⟨_, rfl, rfl⟩
 | j + 1, k + 1, i, r, acc, h, hj, hr, hm, ha => by
  have hi : i < l.length := by omega
  rw [xEM hi zS] at hr ⊢;simp only [xBj];rw [xAI (show (i : Int) < (l.length - 0 : Int) by omega), show inB (i : Int) (l.length - 0) = true from inB_t hi, Int.toNat_natCast, wI i hi hl];generalize nth l zS i = x at hr ⊢;obtain ⟨hs, hg0, hg1, hr'⟩ := hr;have hlen : ∀ c : Tfr, (bif false then (xA5 (acc.length - 0) (c :: []).length) else (xAN (acc.length - 0) (c :: []).length)) = true := by
   intro c;show xAN _ _ = true;unfold xAN;rw [xAI (by simp only [List.length_cons, List.length_nil]; omega)]
  rw [hlen, xBU F (stM hs) hm, xAj, xAj, fr0];by_cases k1 : x.1 = 1
  ·rw [if_pos k1, bq k1];obtain ⟨r', e, e'⟩ := preL l hl m1 j k (i + 1) (gm r.1 x, r.2) (acc ++ ((x.2.1, zB) :: [])) (by omega) (by omega) hr' ⟨hg0, hg1⟩ (by simp only [List.length_append, List.length_cons, List.length_nil]; omega);rw [List.append_assoc] at e;exact ⟨r', e, e'⟩
  ·rw [if_neg k1, bn k1];exact preL l hl m1 j k (i + 1) (gm r.1 x, r.2) acc (by omega) (by omega) hr' ⟨hg0, hg1⟩ (by omega)
variable (hF : 2000 < F)
include hF
/-- Predict: the masses. -/
theorem xGd (m : Tfr) (l : List Tst) (hone : ∀ x ∈ l, x.1 = 1) (hc : xEt F m l = some 0) (hl : l.length <= 200) (hm : 0 <= m.1 /\ m.1 <= 1000000000) (hB : okB m.2 1000000000000) (hr : run l m.1) : ∃ (R : RT) (sls : List Tfr), xCH F m l = some ((R, 0), sls) /\ R.1 = l.foldl gm m.1 /\ sls.map Prod.fst = (fr0 l).map Prod.fst := by
 obtain ⟨r', e0, er⟩ := preL F l hl m l.length F 0 (m.1, (m.2.1.1, (m.2.1.2, (m.2.2.1.1, (m.2.2.1.2, m.2.2.2))))) [] (by omega) (by omega) hr hm (Nat.le_refl _);have n0 := xTm l hone;have ml : ∀ a b : List Tfr, a.map Prod.fst = b.map Prod.fst -> a.length = b.length := fun a b h => by
  have := congrArg List.length h;simpa using this
 unfold xCH;refine ob_exq (Q := fun o => ∃ (R : RT) (sls : List Tfr), o = some ((R, 0), sls) /\ R.1 = l.foldl gm m.1 /\ sls.map Prod.fst = (fr0 l).map Prod.fst) hc ?_;rw [show ((0 : Int) != 0) = false from rfl, cond_false];refine ob_exq (Q := fun o => ∃ (R : RT) (sls : List Tfr), o = some ((R, 0), sls) /\ R.1 = l.foldl gm m.1 /\ sls.map Prod.fst = (fr0 l).map Prod.fst) e0 ?_;refine xSs (Q := fun o => ∃ (R : RT) (sls : List Tfr), o = some ((R, 0), sls) /\ R.1 = l.foldl gm m.1 /\ sls.map Prod.fst = (fr0 l).map Prod.fst) (fil0 F hF l hl hone m hm hB.1 hr _ (fr0 l) (by omega) (by omega)) (fun R0 t0 ⟨g0, u0⟩ => ?_);refine xSs (Q := fun o => ∃ (R : RT) (sls : List Tfr), o = some ((R, 0), sls) /\ R.1 = l.foldl gm m.1 /\ sls.map Prod.fst = (fr0 l).map Prod.fst) (fil1 F hF l hl hone m hm hB.2.1 hr _ t0 (by have := ml _ _ u0; omega) (by have := ml _ _ u0; omega)) (fun R1 t1 ⟨g1, u1⟩ => ?_);refine xSs (Q := fun o => ∃ (R : RT) (sls : List Tfr), o = some ((R, 0), sls) /\ R.1 = l.foldl gm m.1 /\ sls.map Prod.fst = (fr0 l).map Prod.fst) (fil2 F hF l hl hone m hm hB.2.2 hr _ t1 (by have := ml _ _ u0; have := ml _ _ u1; omega) (by have := ml _ _ u0; have := ml _ _ u1; omega)) (fun R2 t2 ⟨g2, u2⟩ => ?_);exact ⟨_, _, rfl, g2.trans (g1.trans (g0.trans er)), u2.trans (u1.trans u0)⟩
/-- One piece is drawn: the melt is less by its mass. -/
theorem predict_one (dr so : Int) (h1 : 1 <= so) (h2 : so <= dr) (h3 : dr <= 1000000000) : ∃ (R : RT) (x : Tfr), xCH F (dr, zB) ((1, (so, zB)) :: []) = some ((R, 0), x :: []) /\ R.1 = dr - so /\ x.1 = so := by
 have hs : xUK (1, (so, zB)) := Or.inl ⟨rfl, ⟨h1, by show so <= _; omega⟩, by show okB zB 20000; decide⟩;have hg : gm dr (1, (so, zB)) = dr - so := by
  unfold gm;rw [if_pos rfl]
 have hr : run ((1, (so, zB)) :: []) dr := ⟨hs, by rw [hg]; omega, by rw [hg]; omega, trivial⟩;have hc : xEt F (dr, zB) ((1, (so, zB)) :: []) = some 0 := by
  obtain ⟨n, rfl⟩ : ∃ n, F = n + 2 := ⟨F - 2, by omega⟩;have e1 : xEv (n + 2) (1, (so, zB)) = some true := by
   unfold xEv;simp only [xLT, xUv, xAj];rw [xAI (show (1 : Int) <= so /\ so <= 1000000000 by omega), show (so == 0) = false from beq_eq_false_iff_ne.2 (by omega)];simp only [show jI.wrap 1 = 1 from rfl];decide
  unfold xEt;rw [xS4, xAj, xAI (show (0 <= dr /\ dr <= 1000000000) /\ okB zB 1000000000000 from ⟨⟨by omega, by omega⟩, by decide⟩)];have e2 : xAB (n + 2) dr (1, (so, zB)) = some (dr - so) := by rw [xBU (n + 2) (by show 0 <= so /\ so <= _; omega) ⟨by omega, by omega⟩, hg]
  have e5 : ∃ g : List Tst, xBS (n + 2) ((((1, (so, zB)) :: [] : List Tst).length - 0) : Int) ((1, (so, zB)) :: []) (n + 2) dr 0 = some (Sum.inr g : (Int × List Tst) ⊕ List Tst) := by
   rw [xBS];show ∃ g : List Tst, ob (xEv (n + 2) (1, (so, zB))) _ = some (Sum.inr g : (Int × List Tst) ⊕ List Tst);rw [e1, xAj];simp only [Bool.not_true, cond_false];rw [show nth ((1, (so, zB)) :: []) zS (Int.toNat 0) = (1, (so, zB)) from rfl, e2, xAj];rw [xAK (show ¬ dr - so < 0 by omega), xAK (show ¬ dr - so > 1000000000 by omega)];exact ⟨_, rfl⟩
  obtain ⟨g, e5⟩ := e5;show ob (xBS (n + 2) ((((1, (so, zB)) :: [] : List Tst).length - 0) : Int) ((1, (so, zB)) :: []) (n + 2) dr 0) _ = _;rw [e5]
 obtain ⟨R, sls, e1, e2, e3⟩ := xGd F hF (dr, zB) ((1, (so, zB)) :: []) (fun x hx => by rw [List.mem_singleton.1 hx]) hc (by simp) ⟨by show 0 <= dr; omega, h3⟩ (by show okB zB 1000000000000; decide) hr
 cases sls with
 | nil => cases e3
 | cons x t => cases t with
  | nil => exact ⟨R, x, e1, by rw [e2]; exact hg, (List.cons.inj e3).1⟩
  | cons y t => cases e3
end
end M3
end Go.Proofs.YthmicafabimfkaaGreatDoor
