/- A part of the proof of the theorem of the last file. No condition. By an AI agent. -/
import Derived.Test.YtnomnijhlbalaaaGreatDoorWU4
set_option maxRecDepth 100000
namespace Go.Proofs.YtnomnijhlbalaaaGreatDoor
namespace U8
open Go.RowKit
def mh (a b : Int) : Int := (jU.wrap ((jU.wrap ((jU.wrap ((Int.fdiv a (4294967296 : Int)) * (Int.fdiv b (4294967296 : Int)))) + (Int.fdiv (jU.wrap ((jU.wrap ((Int.fdiv a (4294967296 : Int)) * (jU.wrap ((BitVec.toNat ((BitVec.ofInt 64 b) &&& (BitVec.ofInt 64 (4294967295 : Int)))) : Int)))) + (Int.fdiv (jU.wrap ((jU.wrap ((BitVec.toNat ((BitVec.ofInt 64 a) &&& (BitVec.ofInt 64 (4294967295 : Int)))) : Int)) * (jU.wrap ((BitVec.toNat ((BitVec.ofInt 64 b) &&& (BitVec.ofInt 64 (4294967295 : Int)))) : Int)))) (4294967296 : Int)))) (4294967296 : Int)))) + (Int.fdiv (jU.wrap ((jU.wrap ((BitVec.toNat ((BitVec.ofInt 64 (jU.wrap ((jU.wrap ((Int.fdiv a (4294967296 : Int)) * (jU.wrap ((BitVec.toNat ((BitVec.ofInt 64 b) &&& (BitVec.ofInt 64 (4294967295 : Int)))) : Int)))) + (Int.fdiv (jU.wrap ((jU.wrap ((BitVec.toNat ((BitVec.ofInt 64 a) &&& (BitVec.ofInt 64 (4294967295 : Int)))) : Int)) * (jU.wrap ((BitVec.toNat ((BitVec.ofInt 64 b) &&& (BitVec.ofInt 64 (4294967295 : Int)))) : Int)))) (4294967296 : Int))))) &&& (BitVec.ofInt 64 (4294967295 : Int)))) : Int)) + (jU.wrap ((jU.wrap ((BitVec.toNat ((BitVec.ofInt 64 a) &&& (BitVec.ofInt 64 (4294967295 : Int)))) : Int)) * (Int.fdiv b (4294967296 : Int)))))) (4294967296 : Int))))
theorem xVa (x y : Nat) (hx : x < 18446744073709551616) (hy : y < 18446744073709551616) : mh x y = ((x * y / 18446744073709551616 : Nat) : Int) := by
 obtain ⟨bd, bt, bw, hhi⟩ := Lib.mul64_hi x y hx hy;have ba := Lib.half_mul_le (a := x / 4294967296) (b := y / 4294967296) (by omega) (by omega);have bb := Lib.half_mul_le (a := x / 4294967296) (b := y % 4294967296) (by omega) (by omega);have bc := Lib.half_mul_le (a := x % 4294967296) (b := y / 4294967296) (by omega) (by omega);have ba' : x / 4294967296 * (y / 4294967296) < 18446744073709551616 := by omega
 have bb' : x / 4294967296 * (y % 4294967296) < 18446744073709551616 := by omega
 have bc' : x % 4294967296 * (y / 4294967296) < 18446744073709551616 := by omega
 have bh1 : x / 4294967296 * (y / 4294967296) + (x / 4294967296 * (y % 4294967296) + x % 4294967296 * (y % 4294967296) / 4294967296) / 4294967296 < 18446744073709551616 := by omega
 have bh : x / 4294967296 * (y / 4294967296) + (x / 4294967296 * (y % 4294967296) + x % 4294967296 * (y % 4294967296) / 4294967296) / 4294967296 + ((x / 4294967296 * (y % 4294967296) + x % 4294967296 * (y % 4294967296) / 4294967296) % 4294967296 + x % 4294967296 * (y / 4294967296)) / 4294967296 < 18446744073709551616 := by omega
 unfold mh;simp only [mkN x hx, mkN y hy, fdN, Mul64.mulN, Mul64.addN, Mul64.wrapN _ bd, Mul64.wrapN _ bb', Mul64.wrapN _ bt, mkN _ bt, Mul64.wrapN _ bc', Mul64.wrapN _ bw, Mul64.wrapN _ ba', Mul64.wrapN _ bh1, Mul64.wrapN _ bh];rw [hhi]
theorem xU9 (x y : Nat) : jU.wrap ((x : Int) * (y : Int)) = ((x * y % 18446744073709551616 : Nat) : Int) := by rw [Mul64.mulN, Mul64.wrapM]
theorem prod_eq (F : Nat) (x y : Nat) (hx : x <= 9223372036854775807) (hy : y <= 9223372036854775807) : xKB F x y = some (((x * y / 18446744073709551616 : Nat) : Int), (((x * y % 18446744073709551616 : Nat) : Int), false)) := by
 unfold xKB;rw [xAH (show ¬ (x : Int) < 0 by omega)];change ob (bif decide ((y : Int) < 0) then _ else _) _ = _;rw [xAH (show ¬ (y : Int) < 0 by omega)];change some (mh (jU.wrap (x : Int)) (jU.wrap (y : Int)), (jU.wrap (jU.wrap (x : Int) * jU.wrap (y : Int)), false)) = _;rw [xMK x (by omega), xMK y (by omega), xVa x y (by omega) (by omega), xU9]
theorem w64N (a : Nat) (h : a <= 9223372036854775807) : jI.wrap (a : Int) = (a : Int) := w64 _ (by omega)
theorem xWZ (F : Nat) (hF : 4 <= F) (N c : Nat) (hc : 1 <= c /\ c <= 1000000000000000) (hhi : N / 18446744073709551616 < c) : xFh F ((N / 18446744073709551616 : Nat) : Int) ((N % 18446744073709551616 : Nat) : Int) (c : Int) = some (((N / c : Nat) : Int), ((N % c : Nat) : Int)) := by
 have hN := Nat.div_add_mod N 18446744073709551616;have hm : N % 18446744073709551616 < 18446744073709551616 := Nat.mod_lt _ (by decide);by_cases h0 : N / 18446744073709551616 = 0
 ·have hlo : N % 18446744073709551616 = N := by omega
  have hq := Nat.div_le_self N c;rw [h0, hlo, xOA];rw [show ((c : Int) == 0) = false from beq_eq_false_iff_ne.2 (by omega), xAH (show ¬ (c : Int) <= ((0 : Nat) : Int) by omega)];show some (jU.wrap (Int.tdiv (N : Int) (c : Int)), Int.tmod (N : Int) (c : Int)) = _;rw [show Int.tdiv (N : Int) (c : Int) = ((N / c : Nat) : Int) from rfl, show Int.tmod (N : Int) (c : Int) = ((N % c : Nat) : Int) from rfl, Mul64.wrapN _ (by omega)]
 ·rw [xWY F hF _ _ c (by omega) hhi (by omega) hm, Nat.mul_comm (N / 18446744073709551616), hN]
theorem xZc (F : Nat) (hF : 4 <= F) (N c : Nat) (hc : 1 <= c /\ c <= 1000000000000000) : xKH F (((N / 18446744073709551616 : Nat) : Int), (((N % 18446744073709551616 : Nat) : Int), false)) c = if N / c <= 1000000000000000 then some (((N / c : Nat) : Int), (((N % c : Nat) : Int), true)) else some (0, (0, false)) := by
 have h1 : N % c < c := Nat.mod_lt _ (by omega);have hN := Nat.div_add_mod N 18446744073709551616;have e1 : jU.wrap (c : Int) = (c : Int) := Mul64.wrapN c (by omega);unfold xKH;show (bif decide (((N / 18446744073709551616 : Nat) : Int) >= jU.wrap (c : Int)) then _ else ob (xFh F ((N / 18446744073709551616 : Nat) : Int) ((N % 18446744073709551616 : Nat) : Int) (jU.wrap (c : Int))) _) = _;rw [e1];by_cases hhi : N / 18446744073709551616 < c
 ·rw [xWZ F hF N c hc hhi, xAH (show ¬ ((N / 18446744073709551616 : Nat) : Int) >= (c : Int) by omega)];show (bif decide (((N / c : Nat) : Int) > 1000000000000000) then _ else ob (some ((c : Int), (jI.wrap ((N / c : Nat) : Int), jI.wrap ((N % c : Nat) : Int)))) _) = _;by_cases hq : N / c <= 1000000000000000
  ·rw [if_pos hq, xAH (show ¬ ((N / c : Nat) : Int) > 1000000000000000 by omega), w64N (N / c) (by omega), w64N (N % c) (by omega)];show (bif decide (((N % c : Nat) : Int) < 0) then _ else _) = _;rw [xAH (show ¬ ((N % c : Nat) : Int) < 0 by omega)];rfl
  ·rw [if_neg hq, xAQ (show ((N / c : Nat) : Int) > 1000000000000000 by omega)];rfl
 ·have hq : ¬ N / c <= 1000000000000000 := by
   intro hq;have e := Nat.div_add_mod N c;have e2 : c * (N / c) <= c * 1000000000000000 := Nat.mul_le_mul_left c hq;have h5 : c * 18446744073709551616 <= N / 18446744073709551616 * 18446744073709551616 := Nat.mul_le_mul_right _ (by omega);generalize c * (N / c) = t at *;omega
  rw [if_neg hq, xAQ (show ((N / 18446744073709551616 : Nat) : Int) >= (c : Int) by omega)];rfl
theorem xRh (F : Nat) (l : List Int) (hq : l.length <= 5000) (h : ∀ i : Nat, i < l.length -> -1000000000000000 <= nth l (0 : Int) i /\ nth l (0 : Int) i <= 1000000000000000) : ∀ (j k i : Nat), i + j = l.length -> j < k ->
  xCL F ((l.length - 0 : Nat) : Int) l k i = some (.inr l)
 | j, 0, i, _, hk => by omega
 | 0, k + 1, i, hi, _ => by
  show (bif decide ((i : Int) < ((l.length - 0 : Nat) : Int)) then _ else _) = _;rw [xAH (by omega)]; rfl
 | j + 1, k + 1, i, hi, hk => by
  have e1 : jI.wrap ((i : Int) + 1) = ((i + 1 : Nat) : Int) := by rw [w64 _ (by omega)]; omega
  have h1 := h i (by omega);show (bif decide ((i : Int) < ((l.length - 0 : Nat) : Int)) then (bif inB (i : Int) (l.length - 0) then (bif decide (nth l (0 : Int) i < -1000000000000000) then _ else (bif decide (nth l (0 : Int) i > 1000000000000000) then _ else xCL F ((l.length - 0 : Nat) : Int) l k (jI.wrap ((i : Int) + 1)))) else none) else _) = _;rw [e1, xAQ (by omega), xDZ (show i < l.length - 0 by omega), xAH (by omega), xAH (by omega)];exact xRh F l hq h j k (i + 1) (by omega) (by omega)
theorem isN_eq (F : Nat) (hF : 2000 < F) (l : List Int) (hq : l.length <= 1000) (h : ∀ i : Nat, i < l.length -> -1000000000000000 <= nth l (0 : Int) i /\ nth l (0 : Int) i <= 1000000000000000) : xDY F l = some true := by
 unfold xDY xJT xF4;change ob (ob (ob (xCL F ((l.length - 0 : Nat) : Int) l F ((0 : Nat) : Int)) _) _) _ = _;rw [xRh F l (by omega) h l.length F 0 (by omega) (by omega)];rfl
theorem isN_two (F : Nat) (hF : 2000 < F) (a b : Int) (ha : -1000000000000000 <= a /\ a <= 1000000000000000) (hb : -1000000000000000 <= b /\ b <= 1000000000000000) : xDY F (a :: (b :: [])) = some true :=
 isN_eq F hF _ (by simp) fun i hi => match i, hi with
  | 0, _ => ha
  | 1, _ => hb
theorem xMa (F : Nat) (hF : 2000 < F) (a : Int) (ha : -1000000000000000 <= a /\ a <= 1000000000000000) : xDY F (a :: []) = some true :=
 isN_eq F hF _ (by simp) fun i hi => match i, hi with
  | 0, _ => ha
theorem isN_big (F : Nat) (hF : 2000 < F) (a : Int) (ha : 1000000000000000 < a) : xDY F (a :: []) = some false := by
 obtain ⟨G, rfl⟩ : ∃ G, F = G + 1 := ⟨F - 1, by omega⟩;unfold xDY xJT xF4;change ob (ob (ob (bif decide (a < -1000000000000000) then _ else (bif decide (a > 1000000000000000) then _ else _)) _) _) _ = _;rw [xAH (show ¬ a < -1000000000000000 by omega), xAQ (show a > 1000000000000000 by omega)];rfl
noncomputable def mdT (how : Int) (r2 : Int × (Int × Bool)) (c : Int) (F : Nat) : Option (Int × (Int × Int)) := (ob (ob (bif r2.2.2 then (bif (decide (r2.2.1 > (0 : Int))) then (bif (how == (2 : Int)) then (some (c, r2.1, r2.2.1, r2.2.2, true)) else (bif (how == (3 : Int)) then (bif (decide (r2.2.1 > (jI.wrap (c - r2.2.1)))) then (some (c, r2.1, r2.2.1, r2.2.2, true)) else (bif (r2.2.1 == (jI.wrap (c - r2.2.1))) then (some (c, r2.1, r2.2.1, r2.2.2, ((jI.wrap ((BitVec.toNat ((BitVec.ofInt 64 r2.1) &&& (BitVec.ofInt 64 (1 : Int)))) : Int)) == (1 : Int)))) else (some (c, r2.1, r2.2.1, r2.2.2, false)))) else (some (c, r2.1, r2.2.1, r2.2.2, false)))) else (some (c, r2.1, r2.2.1, r2.2.2, false))) else (some (c, r2.1, r2.2.1, r2.2.2, false))) (fun s3 => (bif s3.2.2.2.2 then (some ((jI.wrap (s3.2.1 + (1 : Int))), (jI.wrap (s3.2.2.1 - s3.1)), s3.2.2.2.1)) else (some (s3.2.1, s3.2.2.1, s3.2.2.2.1))))) (fun s4 => (bif (!s4.2.2) then (some ((0 : Int), (0 : Int), (10 : Int))) else (ob (xDY F (s4.1 :: [])) (fun r3 => (bif (!r3) then (some ((0 : Int), (0 : Int), (10 : Int))) else (some (s4.1, s4.2.1, (0 : Int)))))))))
theorem cl_div (c N : Nat) (hc : 1 <= c) : (N + (c - 1)) / c = N / c + if 0 < N % c then 1 else 0 := by
 have h1 := Nat.div_add_mod N c;have h2 := Nat.mod_lt N (show 0 < c by omega);by_cases h0 : 0 < N % c
 ·rw [if_pos h0];have e : N + (c - 1) = (N % c - 1) + c * (N / c + 1) := by rw [Nat.mul_add]; omega
  rw [e, Nat.add_mul_div_left _ _ (by omega), Nat.div_eq_of_lt (by omega)]; omega
 ·rw [if_neg h0];have e : N + (c - 1) = (c - 1) + c * (N / c) := by omega
  rw [e, Nat.add_mul_div_left _ _ (by omega), Nat.div_eq_of_lt (by omega)]; omega
section
variable (F : Nat) (hF : 2000 < F) (a b c : Nat) (ha : a <= 1000000000000000) (hb : b <= 1000000000000000) (hc : 1 <= c /\ c <= 1000000000000000)
include hF ha hb hc
theorem md_pre (how : Int) (hh : how = 1 \/ how = 2 \/ how = 3) : xCa F a b c how = mdT how (if a * b / c <= 1000000000000000 then (((a * b / c : Nat) : Int), (((a * b % c : Nat) : Int), true)) else (0, (0, false))) c F := by
 have h0 : xCa F a b c how = (ob (bif (decide (how < (1 : Int))) then (some ((a : Int), (b : Int), (c : Int), how, true)) else (some ((a : Int), (b : Int), (c : Int), how, (decide (how > (3 : Int)))))) (fun s1 => (bif s1.2.2.2.2 then (some ((0 : Int), (0 : Int), (2 : Int))) else (ob (ob (xDY F (s1.1 :: (s1.2.1 :: []))) (fun r => (bif (!r) then (some (s1.1, s1.2.1, s1.2.2.1, s1.2.2.2.1, true)) else (bif (decide (s1.2.2.1 < (1 : Int))) then (some (s1.1, s1.2.1, s1.2.2.1, s1.2.2.2.1, true)) else (some (s1.1, s1.2.1, s1.2.2.1, s1.2.2.2.1, (decide (s1.2.2.1 > (1000000000000000 : Int))))))))) (fun s2 => (bif s2.2.2.2.2 then (some ((0 : Int), (0 : Int), (3 : Int))) else (ob (xKB F s2.1 s2.2.1) (fun r1 => (ob (xKH F r1 s2.2.2.1) (fun r2 => mdT s2.2.2.2.1 r2 s2.2.2.1 F)))))))))) := rfl;rw [h0, xAH (show ¬ how < 1 by omega), xAH (show ¬ how > 3 by omega)];change ob (ob (xDY F ((a : Int) :: ((b : Int) :: []))) _) _ = _;rw [isN_two F hF _ _ (by omega) (by omega)];change ob (bif (decide ((c : Int) < (1 : Int))) then _ else (some ((a : Int), (b : Int), (c : Int), how, (decide ((c : Int) > (1000000000000000 : Int)))))) _ = _;rw [xAH (show ¬ (c : Int) < 1 by omega), xAH (show ¬ (c : Int) > 1000000000000000 by omega)];have hob : ∀ {α β : Type} (x : α) (f : α -> Option β), ob (some x) f = f x := fun _ _ => rfl;simp only [cond_false, hob];rw [prod_eq F a b (by omega) (by omega)];dsimp only;rw [xZc F (by omega) (a * b) c hc];split <;> rfl
theorem md1 : ∃ z, xCa F a b c 1 = some (if a * b / c <= 1000000000000000 then (((a * b / c : Nat) : Int), (z, 0)) else (0, (0, 10))) := by
 rw [md_pre F hF a b c ha hb hc 1 (by omega)];by_cases hq : a * b / c <= 1000000000000000
 ·simp only [if_pos hq];generalize a * b / c = q at *;generalize a * b % c = r at *;refine ⟨(r : Int), ?_⟩;by_cases h0 : (r : Int) > 0
  ·change ob (ob (bif (decide ((r : Int) > (0 : Int))) then _ else _) _) _ = _;rw [xAQ h0];change ob (xDY F ((q : Int) :: [])) _ = _;rw [xMa F hF _ (by omega)];rfl
  ·change ob (ob (bif (decide ((r : Int) > (0 : Int))) then _ else _) _) _ = _;rw [xAH h0];change ob (xDY F ((q : Int) :: [])) _ = _;rw [xMa F hF _ (by omega)];rfl
 ·simp only [if_neg hq];exact ⟨0, rfl⟩
theorem md2 : ∃ z, xCa F a b c 2 = some (if (a * b + (c - 1)) / c <= 1000000000000000 then ((((a * b + (c - 1)) / c : Nat) : Int), (z, 0)) else (0, (0, 10))) := by
 rw [md_pre F hF a b c ha hb hc 2 (by omega), cl_div c (a * b) hc.1];by_cases hq : a * b / c <= 1000000000000000
 ·simp only [if_pos hq];generalize a * b / c = q at *;generalize a * b % c = r at *;by_cases h0 : 0 < r
  ·simp only [if_pos h0];by_cases hq2 : q + 1 <= 1000000000000000
   ·simp only [if_pos hq2];refine ⟨jI.wrap ((r : Int) - (c : Int)), ?_⟩;change ob (ob (bif (decide ((r : Int) > (0 : Int))) then _ else _) _) _ = _;rw [xAQ (show (r : Int) > 0 by omega)];change ob (xDY F ((jI.wrap ((q : Int) + 1)) :: [])) _ = _;rw [show jI.wrap ((q : Int) + 1) = ((q + 1 : Nat) : Int) by rw [w64 _ (by omega)]; omega, xMa F hF _ (by omega)];rfl
   ·simp only [if_neg hq2];refine ⟨0, ?_⟩;change ob (ob (bif (decide ((r : Int) > (0 : Int))) then _ else _) _) _ = _;rw [xAQ (show (r : Int) > 0 by omega)];change ob (xDY F ((jI.wrap ((q : Int) + 1)) :: [])) _ = _;rw [show jI.wrap ((q : Int) + 1) = ((q + 1 : Nat) : Int) by rw [w64 _ (by omega)]; omega, isN_big F hF _ (by omega)];rfl
  ·simp only [if_neg h0, Nat.add_zero, if_pos hq];refine ⟨(r : Int), ?_⟩;change ob (ob (bif (decide ((r : Int) > (0 : Int))) then _ else _) _) _ = _;rw [xAH (show ¬ (r : Int) > 0 by omega)];change ob (xDY F ((q : Int) :: [])) _ = _;rw [xMa F hF _ (by omega)];rfl
 ·have hq3 : ¬ a * b / c + (if 0 < a * b % c then 1 else 0) <= 1000000000000000 := by omega
  simp only [if_neg hq, if_neg hq3];exact ⟨0, rfl⟩
end
end U8
namespace M3
def fl (u a b : Int) : Int := u * a / b
def cl (u a b : Int) : Int := (u * a + (b - 1)) / b
def mi (x u : Int) : Int := if x < u then x else u
section
variable {u v a a' b : Int}
theorem xIT (hu : 0 <= u) (h : a <= a') : u * a <= u * a' := Int.mul_le_mul_of_nonneg_left h hu
theorem fl_le (hb : 0 < b) (hu : 0 <= u) (h : a <= b) : fl u a b <= u := by
 have h1 : u * a <= u * b := xIT hu h;have h2 : u * a / b <= u * b / b := Int.ediv_le_ediv hb h1;rwa [Int.mul_ediv_cancel _ (by omega)] at h2
theorem fl_ge (hb : 0 < b) (hu : 0 <= u) (h : b <= a) : u <= fl u a b := by
 have h1 : u * b <= u * a := xIT hu h;have h2 : u * b / b <= u * a / b := Int.ediv_le_ediv hb h1;rwa [Int.mul_ediv_cancel _ (by omega)] at h2
theorem cl_le (hb : 0 < b) (hu : 0 <= u) (h : a <= b) : cl u a b <= u := by
 have h1 : u * a <= u * b := xIT hu h;have h2 : (u * a + (b - 1)) / b <= (u * b + (b - 1)) / b := Int.ediv_le_ediv hb (by omega);have h3 : (u * b + (b - 1)) / b = u := by
  rw [Int.add_comm, Int.add_mul_ediv_right _ _ (by omega), Int.ediv_eq_zero_of_lt (by omega) (by omega)]; omega
 unfold cl; omega
theorem fl_cl (hb : 0 < b) : fl u a b <= cl u a b := Int.ediv_le_ediv hb (by omega)
theorem cl_a (hb : 0 < b) (hu : 0 <= u) (h : a <= a') : cl u a b <= cl u a' b := Int.ediv_le_ediv hb (by have := xIT hu h; omega)
theorem fl_u (hb : 0 < b) (ha : 0 <= a) (h : u <= v) : fl u a b <= fl v a b := Int.ediv_le_ediv hb (Int.mul_le_mul_of_nonneg_right h ha)
theorem cl_u (hb : 0 < b) (ha : 0 <= a) (h : u <= v) : cl u a b <= cl v a b := Int.ediv_le_ediv hb (by have := Int.mul_le_mul_of_nonneg_right h ha; omega)
theorem lip0 (c : Int) (hb : 0 < b) (h : u <= v) (hab : a <= b) : (v * a + c) / b <= (u * a + c) / b + (v - u) := by
 have h1 : (v - u) * a <= (v - u) * b := xIT (by omega) hab;have h2 : v * a = u * a + (v - u) * a := by rw [Int.sub_mul]; omega
 have h3 : (v * a + c) / b <= (u * a + c + (v - u) * b) / b := Int.ediv_le_ediv hb (by omega);rwa [Int.add_mul_ediv_right _ _ (by omega)] at h3
theorem fl_lip (hb : 0 < b) (h : u <= v) (hab : a <= b) : fl v a b <= fl u a b + (v - u) := by
 have := lip0 0 hb h hab;rwa [Int.add_zero, Int.add_zero] at this
theorem cl_lip (hb : 0 < b) (h : u <= v) (hab : a <= b) : cl v a b <= cl u a b + (v - u) := lip0 (b - 1) hb h hab
theorem pD_u (hb : 0 < b) (ha : 0 <= a) (h : u <= v) : mi (fl u a b) u <= mi (fl v a b) v := by
 have := fl_u hb ha h;unfold mi; split <;> split <;> omega
theorem pU_u (hb : 0 < b) (ha : 0 <= a) (h : u <= v) : mi (cl u a b) u <= mi (cl v a b) v := by
 have := cl_u hb ha h;unfold mi; split <;> split <;> omega
theorem xUN (hb : 0 < b) (hu : 0 <= u) (h : u <= v) : u - mi (fl u a b) u <= v - mi (fl v a b) v := by
 by_cases hab : a <= b
 ·have := fl_lip hb h hab;have := fl_le hb hu hab;have := fl_le hb (show 0 <= v by omega) hab;unfold mi; split <;> split <;> omega
 ·have := fl_ge hb hu (show b <= a by omega);unfold mi; split <;> split <;> omega
theorem xUM (hb : 0 < b) (hu : 0 <= u) (h : u <= v) : u - mi (cl u a b) u <= v - mi (cl v a b) v := by
 by_cases hab : a <= b
 ·have := cl_lip hb h hab;have := cl_le hb hu hab;have := cl_le hb (show 0 <= v by omega) hab;unfold mi; split <;> split <;> omega
 ·have h1 := fl_ge hb hu (show b <= a by omega);have h2 := fl_cl (u := u) (a := a) hb;unfold mi; split <;> split <;> omega
theorem pos (hb : 0 < b) (hu : 0 <= u) (ha : 0 <= a) : 0 <= fl u a b /\ 0 <= cl u a b := by
 have h0 := Int.mul_nonneg hu ha;exact ⟨Int.ediv_nonneg h0 (by omega), Int.ediv_nonneg (by omega) (by omega)⟩
end
end M3
namespace M3
abbrev Tr := Int × Int
abbrev Tb := Tr × (Tr × Tr)
abbrev Tst := Int × (Int × Tb)
abbrev Tfr := Int × Tb
abbrev Tc3 := Int × (Int × Int)
def okR (r : Tr) (most : Int) : Prop := 0 <= r.1 /\ r.1 <= r.2 /\ r.2 <= most
def okB (b : Tb) (most : Int) : Prop := okR b.1 most /\ okR b.2.1 most /\ okR b.2.2 most
def xT1 (x : Tst) : Prop := (x.1 = 1 /\ (1 <= x.2.1 /\ x.2.1 <= 1000000000) /\ okB x.2.2 20000) \/ (x.1 = 2 /\ (1 <= x.2.1 /\ x.2.1 <= 1000000000) /\ okB x.2.2 1000000000000) \/ (x.1 = 3 /\ x.2.1 = 0 /\ okB x.2.2 1000000000000) \/ (x.1 = 4 /\ x.2.1 = 0 /\ okB x.2.2 10000)
def gm (m : Int) (x : Tst) : Int := if x.1 = 1 then m - x.2.1 else if x.1 = 2 then m + x.2.1 else m
def run : List Tst -> Int -> Prop
 | [], _ => True
 | x :: l, m => xT1 x /\ 0 <= gm m x /\ gm m x <= 1000000000 /\ run l (gm m x)
def Sp (b : Tb -> Tr) : Prop := ∀ y most, okB y most -> okR (b y) most
def s0 (y : Tb) : Tr := y.1
def s1 (y : Tb) : Tr := y.2.1
def s2 (y : Tb) : Tr := y.2.2
theorem sp0 : Sp s0 := fun _ _ h => h.1
theorem sp1 : Sp s1 := fun _ _ h => h.2.1
theorem sp2 : Sp s2 := fun _ _ h => h.2.2
def stR (x : Tst) (r : Tr) : Prop := (x.1 = 1 /\ (1 <= x.2.1 /\ x.2.1 <= 1000000000) /\ okR r 20000) \/ (x.1 = 2 /\ (1 <= x.2.1 /\ x.2.1 <= 1000000000) /\ okR r 1000000000000) \/ (x.1 = 3 /\ x.2.1 = 0 /\ okR r 1000000000000) \/ (x.1 = 4 /\ x.2.1 = 0 /\ okR r 10000)
theorem xJ8 {b : Tb -> Tr} (hb : Sp b) {x : Tst} (h : xT1 x) : stR x (b x.2.2) := by
 rcases h with ⟨e, h1, h2⟩ | ⟨e, h1, h2⟩ | ⟨e, h1, h2⟩ | ⟨e, h1, h2⟩
 ·exact Or.inl ⟨e, h1, hb _ _ h2⟩
 ·exact Or.inr (Or.inl ⟨e, h1, hb _ _ h2⟩)
 ·exact Or.inr (Or.inr (Or.inl ⟨e, h1, hb _ _ h2⟩))
 ·exact Or.inr (Or.inr (Or.inr ⟨e, h1, hb _ _ h2⟩))
def ch (r : Tr) (x : Tst) (d m : Int) : Tr :=
 if x.1 = 1 then if x.2.1 = m then (d, d) else (mi (fl d (r.1 * x.2.1) (10000 * m)) d, mi (cl d (r.2 * x.2.1) (10000 * m)) d)
 else if x.1 = 4 then (mi (fl d r.1 10000) d, mi (cl d r.2 10000) d) else r
def nx (x : Tst) (d n : Int) : Int := if x.1 = 2 then d + n else if x.1 = 3 then d + n else d - n
def inR (n : Int) (r : Tr) : Prop := r.1 <= n /\ n <= r.2
theorem mi_le (x u : Int) : mi x u <= u := by unfold mi; split <;> omega
theorem mi_nn {x u : Int} (h : 0 <= x) (h' : 0 <= u) : 0 <= mi x u := by unfold mi; split <;> omega
theorem mi_mono {x y : Int} (u : Int) (h : x <= y) : mi x u <= mi y u := by unfold mi; split <;> split <;> omega
theorem xWu {u a a' b : Int} (hb : 0 < b) (hu : 0 <= u) (h : a <= a') : mi (fl u a b) u <= mi (cl u a' b) u := mi_mono u (Int.le_trans (fl_cl hb) (cl_a hb hu h))
section
variable {x : Tst} {r : Tr} {d e m n : Int}
theorem frz (h : 1 <= x.2.1) (e1 : x.1 = 1) (hm : 0 <= gm m x) (hne : ¬ x.2.1 = m) : 0 < 10000 * m := by
 rw [gm, if_pos e1] at hm; omega
theorem xQV {a b : Int} (ha : 0 <= a) (hb : 0 <= b) : 0 <= a * b := Int.mul_nonneg ha hb
theorem mul_lr {a a' b : Int} (h : a <= a') (hb : 0 <= b) : a * b <= a' * b := Int.mul_le_mul_of_nonneg_right h hb
theorem xFi (h : stR x r) (hm : 0 <= gm m x) (hd : 0 <= d) : 0 <= (ch r x d m).1 /\ (ch r x d m).1 <= (ch r x d m).2 /\ (((x.1 = 2 \/ x.1 = 3) /\ (ch r x d m).2 <= 1000000000000) \/ ((x.1 = 1 \/ x.1 = 4) /\ (ch r x d m).2 <= d)) := by
 rcases h with ⟨e, h1, h2, h3, h4⟩ | ⟨e, h1, h2, h3, h4⟩ | ⟨e, h1, h2, h3, h4⟩ | ⟨e, h1, h2, h3, h4⟩
 ·unfold ch;rw [if_pos e];by_cases hx : x.2.1 = m
  ·rw [if_pos hx];exact ⟨hd, Int.le_refl _, Or.inr ⟨Or.inl e, Int.le_refl _⟩⟩
  ·rw [if_neg hx];have hb := frz h1.1 e hm hx;exact ⟨mi_nn (pos hb hd (xQV h2 (by omega))).1 hd, xWu hb hd (mul_lr h3 (by omega)), Or.inr ⟨Or.inl e, mi_le _ _⟩⟩
 ·unfold ch;rw [if_neg (by omega), if_neg (by omega)];exact ⟨h2, h3, Or.inl ⟨Or.inl e, h4⟩⟩
 ·unfold ch;rw [if_neg (by omega), if_neg (by omega)];exact ⟨h2, h3, Or.inl ⟨Or.inr e, h4⟩⟩
 ·unfold ch;rw [if_neg (by omega), if_pos e];exact ⟨mi_nn (pos (by omega) hd h2).1 hd, xWu (by omega) hd h3, Or.inr ⟨Or.inr e, mi_le _ _⟩⟩
theorem xIS (h : stR x r) (hm : 0 <= gm m x) (hd : 0 <= d) (hn : inR n (ch r x d m)) : 0 <= n /\ 0 <= nx x d n /\ nx x d n <= d + 1000000000000 := by
 have h1 := xFi h hm hd;unfold inR at hn;unfold nx;refine ⟨by omega, ?_⟩;rcases h1.2.2 with ⟨h2, h3⟩ | ⟨h2, h3⟩
 ·rcases h2 with e | e
  ·rw [if_pos e]; omega
  ·rw [if_neg (by omega), if_pos e]; omega
 ·rw [if_neg (by omega), if_neg (by omega)];omega
theorem xPX (h : stR x r) (hm : 0 <= gm m x) (hd : 0 <= d) (hde : d <= e) : (ch r x d m).1 <= (ch r x e m).1 /\ (ch r x d m).2 <= (ch r x e m).2 := by
 rcases h with ⟨k, h1, h2, h3, h4⟩ | ⟨k, h1, h2, h3, h4⟩ | ⟨k, h1, h2, h3, h4⟩ | ⟨k, h1, h2, h3, h4⟩
 ·unfold ch;rw [if_pos k, if_pos k];by_cases hx : x.2.1 = m
  ·rw [if_pos hx, if_pos hx];exact ⟨hde, hde⟩
  ·rw [if_neg hx, if_neg hx];have hb := frz h1.1 k hm hx;exact ⟨pD_u hb (xQV h2 (by omega)) hde, pU_u hb (xQV (by omega) (by omega)) hde⟩
 ·unfold ch;rw [if_neg (by omega), if_neg (by omega), if_neg (by omega), if_neg (by omega)];exact ⟨Int.le_refl _, Int.le_refl _⟩
 ·unfold ch;rw [if_neg (by omega), if_neg (by omega), if_neg (by omega), if_neg (by omega)];exact ⟨Int.le_refl _, Int.le_refl _⟩
 ·unfold ch;rw [if_neg (by omega), if_pos k, if_neg (by omega), if_pos k];exact ⟨pD_u (by omega) h2 hde, pU_u (by omega) (by omega) hde⟩
theorem xNT (h : stR x r) (hm : 0 <= gm m x) (k : x.1 = 1 \/ x.1 = 4) (hd : 0 <= d) (hde : d <= e) : d - (ch r x d m).2 <= e - (ch r x e m).2 /\ d - (ch r x d m).1 <= e - (ch r x e m).1 := by
 rcases h with ⟨k, h1, h2, h3, h4⟩ | ⟨k, h1, h2, h3, h4⟩ | ⟨k, h1, h2, h3, h4⟩ | ⟨k, h1, h2, h3, h4⟩
 ·unfold ch;rw [if_pos k, if_pos k];by_cases hx : x.2.1 = m
  ·rw [if_pos hx, if_pos hx];constructor <;> dsimp only <;> omega
  ·rw [if_neg hx, if_neg hx];have hb := frz h1.1 k hm hx;exact ⟨xUM hb hd hde, xUN hb hd hde⟩
 ·omega
 ·omega
 ·unfold ch;rw [if_neg (by omega), if_pos k, if_neg (by omega), if_pos k];exact ⟨xUM (by omega) hd hde, xUN (by omega) hd hde⟩
end
abbrev Tco := Bool × (Bool × Bool)
def pk (c : Tco) (x : Tst) : Bool := if x.1 = 1 then c.2.1 else if x.1 = 4 then c.2.2 else c.1
def pn (c : Tco) (x : Tst) (r : Tr) : Int := if pk c x then r.2 else r.1
def xBr : Tco := (false, (true, true))
def xCn : Tco := (true, (false, false))
theorem xHH (c : Tco) (x : Tst) {r : Tr} (h : r.1 <= r.2) : inR (pn c x r) r := by
 unfold inR pn; split <;> omega
theorem xUE {x : Tst} {r r' : Tr} (h : stR x r') : (x.1 = 1 \/ x.1 = 4) /\ pn xBr x r = r.2 /\ pn xCn x r = r.1 \/ (x.1 = 2 \/ x.1 = 3) /\ pn xBr x r = r.1 /\ pn xCn x r = r.2 := by
 unfold pn pk xBr xCn;rcases h with ⟨k, _⟩ | ⟨k, _⟩ | ⟨k, _⟩ | ⟨k, _⟩ <;> simp [k]
theorem nx_a {x : Tst} {d n : Int} (k : x.1 = 2 \/ x.1 = 3) : nx x d n = d + n := by
 unfold nx; rcases k with k | k <;> simp [k]
theorem nx_l {x : Tst} {d n : Int} (k : x.1 = 1 \/ x.1 = 4) : nx x d n = d - n := by
 unfold nx; rcases k with k | k <;> simp [k]
theorem xSF {x : Tst} {r : Tr} {dp d dr m n : Int} (h : stR x r) (hm : 0 <= gm m x) (hd : 0 <= dp) (h1 : dp <= d) (h2 : d <= dr) (hn : inR n (ch r x d m)) : nx x dp (pn xBr x (ch r x dp m)) <= nx x d n /\ nx x d n <= nx x dr (pn xCn x (ch r x dr m)) := by
 unfold inR at hn;rcases xUE (r := ch r x dp m) h with ⟨k, e1, _⟩ | ⟨k, e1, _⟩ <;> rcases xUE (r := ch r x dr m) h with ⟨k', _, e2⟩ | ⟨k', _, e2⟩ <;> rw [e1, e2]
 ·rw [nx_l k, nx_l k, nx_l k];have a1 := xNT (r := r) h hm k hd h1;have a2 := xNT (r := r) h hm k (Int.le_trans hd h1) h2;omega
 ·omega
 ·omega
 ·rw [nx_a k, nx_a k, nx_a k];have a1 := xPX (r := r) h hm hd h1;have a2 := xPX (r := r) h hm (Int.le_trans hd h1) h2;omega
def tr (b : Tb -> Tr) (c : Tco) : List Tst -> Int -> Int -> List Tc3
 | [], _, _ => []
 | x :: l, m, d => ((ch (b x.2.2) x d m).1, ((ch (b x.2.2) x d m).2, nx x d (pn c x (ch (b x.2.2) x d m)))) :: tr b c l (gm m x) (nx x d (pn c x (ch (b x.2.2) x d m)))
def sl (b : Tb -> Tr) : List Tst -> Int -> Int -> Int -> List Tr
 | [], _, _, _ => []
 | x :: l, m, dp, dr => if x.1 = 1 then ((ch (b x.2.2) x dp m).1, (ch (b x.2.2) x dr m).2) :: sl b l (gm m x) (nx x dp (pn xBr x (ch (b x.2.2) x dp m))) (nx x dr (pn xCn x (ch (b x.2.2) x dr m)))
  else sl b l (gm m x) (nx x dp (pn xBr x (ch (b x.2.2) x dp m))) (nx x dr (pn xCn x (ch (b x.2.2) x dr m)))
inductive F2 {α β : Type} (R : α -> β -> Prop) : List α -> List β -> Prop
 | nil : F2 R [] []
 | cons {a b as1 bs} : R a b -> F2 R as1 bs -> F2 R (a :: as1) (b :: bs)
theorem F2.len {α β : Type} {R : α -> β -> Prop} {l : List α} {l' : List β} (h : F2 R l l') : l.length = l'.length := by
 induction h with
 | nil => rfl
 | cons _ _ ih => rw [List.length_cons, List.length_cons, ih]
theorem F2.get {α β : Type} {R : α -> β -> Prop} {l : List α} {l' : List β} (h : F2 R l l') : ∀ (i : Nat) (h1 : i < l.length) (h2 : i < l'.length), R l[i] l'[i] := by
 induction h with
 | nil => intro i h1; exact absurd h1 (by simp)
 | cons h0 _ ih =>
  intro i h1 h2
  cases i with
  | zero => exact h0
  | succ i => exact ih i (by simpa using h1) (by simpa using h2)
theorem xYL {b : Tb -> Tr} (hb : Sp b) : ∀ (l : List Tst) (m dp dr : Int), run l m -> 0 <= dp -> dp <= dr -> ∀ r, r ∈ sl b l m dp dr -> 0 <= r.1 /\ r.1 <= r.2 /\ r.2 <= dr + 1000000000000 * l.length
 | [], _, _, _, _, _, _ => by intro r h; cases h
 | x :: l, m, dp, dr, hr, h0, h1 => by
  obtain ⟨hs, hm, _, hr'⟩ := hr;have hR := xJ8 hb hs;have hp := xIS hR hm h0 (xHH xBr x (xFi hR hm h0).2.1);have h0' : 0 <= dr := Int.le_trans h0 h1;have hq := xIS hR hm h0' (xHH xCn x (xFi hR hm h0').2.1);have hx := xSF hR hm h0 h1 (Int.le_refl _) (xHH xCn x (xFi hR hm h0').2.1);have ih := xYL hb l _ _ _ hr' hp.2.1 hx.1;have ih' : ∀ r, r ∈ sl b l (gm m x) (nx x dp (pn xBr x (ch (b x.2.2) x dp m))) (nx x dr (pn xCn x (ch (b x.2.2) x dr m))) -> 0 <= r.1 /\ r.1 <= r.2 /\ r.2 <= dr + 1000000000000 * (x :: l).length := by
   intro r hr;have := ih r hr;rw [List.length_cons];omega
  rw [sl];by_cases k : x.1 = 1
  ·rw [if_pos k];intro r hr;rcases List.mem_cons.1 hr with e | e
   ·have a0 := xFi hR hm h0;have a1 := xPX hR hm h0 h1;have a2 := xFi hR hm h0';rw [e, List.length_cons];refine ⟨a0.1, ?_, ?_⟩ <;> dsimp only <;> omega
   ·exact ih' r e
  ·rw [if_neg k];exact ih'
end M3
end Go.Proofs.YtnomnijhlbalaaaGreatDoor
