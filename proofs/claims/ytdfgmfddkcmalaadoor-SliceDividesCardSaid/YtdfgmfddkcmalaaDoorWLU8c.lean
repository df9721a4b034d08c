/- Plain laws of the products of 64 bits. No condition. -/
import Derived.Test.YtdfgmfddkcmalaaDoorWLR8c
import Derived.Test.YtdfgmfddkcmalaaDoorWX8d
import Derived.Shelf.Bits.Mul64
import Derived.Test.YtdfgmfddkcmalaaDoorWLF8d

namespace Go.Proofs.YtdfgmfddkcmalaaDoor
open Go.RowKit
set_option maxRecDepth 100000
theorem fdN (a : Nat) : Int.fdiv (a : Int) 4294967296 = ((a / 4294967296 : Nat) : Int) := by
  rw [Int.fdiv_eq_ediv_of_nonneg _ (by decide)]
  exact Mul64.divN a
theorem mkN (a : Nat) (h : a < 18446744073709551616) : IntKind.wrap IntKind.u64 ((BitVec.toNat ((BitVec.ofInt 64 (a : Int)) &&& (BitVec.ofInt 64 (4294967295 : Int))) : Nat) : Int) = ((a % 4294967296 : Nat) : Int) := Mul64.maskN a h
theorem mul64_eq (F : Nat) (x y : Nat) (hx : x < 18446744073709551616) (hy : y < 18446744073709551616) : mul64_S F x y = some (((x * y / 18446744073709551616 : Nat) : Int), ((x * y % 18446744073709551616 : Nat) : Int)) := by
  obtain ⟨bd, bt, bw, hhi⟩ := Lib.mul64_hi x y hx hy
  have ba := Lib.half_mul_le (a := x / 4294967296) (b := y / 4294967296) (by omega) (by omega)
  have bb := Lib.half_mul_le (a := x / 4294967296) (b := y % 4294967296) (by omega) (by omega)
  have bc := Lib.half_mul_le (a := x % 4294967296) (b := y / 4294967296) (by omega) (by omega)
  have ba' : x / 4294967296 * (y / 4294967296) < 18446744073709551616 := by omega
  have bb' : x / 4294967296 * (y % 4294967296) < 18446744073709551616 := by omega
  have bc' : x % 4294967296 * (y / 4294967296) < 18446744073709551616 := by omega
  have bh1 : x / 4294967296 * (y / 4294967296) + (x / 4294967296 * (y % 4294967296) + x % 4294967296 * (y % 4294967296) / 4294967296) / 4294967296 < 18446744073709551616 := by omega
  have bh : x / 4294967296 * (y / 4294967296) + (x / 4294967296 * (y % 4294967296) + x % 4294967296 * (y % 4294967296) / 4294967296) / 4294967296 + ((x / 4294967296 * (y % 4294967296) + x % 4294967296 * (y % 4294967296) / 4294967296) % 4294967296 + x % 4294967296 * (y / 4294967296)) / 4294967296 < 18446744073709551616 := by omega
  unfold mul64_S
  simp only [mkN x hx, mkN y hy, fdN, Mul64.mulN, Mul64.addN, Mul64.wrapN _ bd, Mul64.wrapN _ bb', Mul64.wrapN _ bt, mkN _ bt, Mul64.wrapN _ bc', Mul64.wrapN _ bw, Mul64.wrapN _ ba', Mul64.wrapN _ bh1, Mul64.wrapN _ bh, Mul64.wrapM (x * y)]
  rw [hhi]
theorem magn_eq (F : Nat) (x : Nat) (hx : x ≤ 9223372036854775807) : magn_S F x = some ((x : Int), false) := by
  unfold magn_S
  rw [show decide ((x : Int) < 0) = false from decide_eq_false (by omega), Mul64.wrapN x (by omega)]
  rfl
theorem prod_eq (F : Nat) (x y : Nat) (hx : x ≤ 9223372036854775807) (hy : y ≤ 9223372036854775807) : prod_S F x y = some (((x * y / 18446744073709551616 : Nat) : Int), (((x * y % 18446744073709551616 : Nat) : Int), false)) := by
  unfold prod_S
  rw [magn_eq F x hx, magn_eq F y hy]
  change ob (mul64h_S F x y) _ = _
  unfold mul64h_S
  rw [hold_eq, mul64_eq F x y (by omega) (by omega)]
  rfl
theorem w64N (a : Nat) (h : a ≤ 9223372036854775807) : IntKind.i64.wrap (a : Int) = (a : Int) := w64 _ (by omega)
/-- Division, where the upper half is nothing. -/
theorem over_low (F : Nat) (p c : Nat) (hc : 1 ≤ c ∧ c ≤ 1000000000000000) (hp : p ≤ 9223372036854775807) (hq : p / c ≤ 1000000000000000) : over_S F (0, ((p : Int), false)) c = some (((p / c : Nat) : Int), (((p % c : Nat) : Int), true)) := by
  have h1 : p % c < c := Nat.mod_lt _ (by omega)
  have e1 : IntKind.wrap IntKind.u64 (c : Int) = (c : Int) := Mul64.wrapN c (by omega)
  unfold over_S
  show (bif decide ((0 : Int) ≥ IntKind.wrap IntKind.u64 (c : Int)) then _ else ob (div64_S F 0 (p : Int) (IntKind.wrap IntKind.u64 (c : Int))) _) = _
  have e2 : div64_S F 0 (p : Int) (c : Int) = some (((p / c : Nat) : Int), ((p % c : Nat) : Int)) := by
    unfold div64_S
    rw [show ((c : Int) == 0) = false from beq_eq_false_iff_ne.2 (by omega), show decide ((c : Int) ≤ 0) = false from decide_eq_false (by omega)]
    show some (IntKind.wrap IntKind.u64 (Int.tdiv (p : Int) (c : Int)), Int.tmod (p : Int) (c : Int)) = _
    rw [show Int.tdiv (p : Int) (c : Int) = ((p / c : Nat) : Int) from rfl, show Int.tmod (p : Int) (c : Int) = ((p % c : Nat) : Int) from rfl, Mul64.wrapN _ (by omega)]
  rw [e1, e2, show decide ((0 : Int) ≥ (c : Int)) = false from decide_eq_false (by omega)]
  show (bif decide (((p / c : Nat) : Int) > 1000000000000000) then _ else ob (some ((c : Int), (IntKind.wrap IntKind.i64 ((p / c : Nat) : Int), IntKind.wrap IntKind.i64 ((p % c : Nat) : Int)))) _) = _
  rw [show decide (((p / c : Nat) : Int) > 1000000000000000) = false from decide_eq_false (by omega), w64N (p / c) (by omega), w64N (p % c) (by omega)]
  show (bif decide (((p % c : Nat) : Int) < 0) then _ else _) = _
  rw [show decide (((p % c : Nat) : Int) < 0) = false from decide_eq_false (by omega)]
  rfl
end Go.Proofs.YtdfgmfddkcmalaaDoor


namespace Go.Proofs.YtdfgmfddkcmalaaDoor
open Go.RowKit
set_option maxRecDepth 100000
def tabL : ByteArray := (ByteArray.mk (Array.mk (List.append (List.append (0 :: (1 :: (2 :: (2 :: (3 :: (3 :: (3 :: (3 :: (4 :: (4 :: (4 :: (4 :: (4 :: (4 :: (4 :: (4 :: (5 :: (5 :: (5 :: (5 :: (5 :: (5 :: (5 :: (5 :: (5 :: (5 :: (5 :: (5 :: (5 :: (5 :: (5 :: (5 :: (6 :: (6 :: (6 :: (6 :: (6 :: (6 :: (6 :: (6 :: (6 :: (6 :: (6 :: (6 :: (6 :: (6 :: (6 :: (6 :: (6 :: (6 :: (6 :: (6 :: (6 :: (6 :: (6 :: (6 :: (6 :: (6 :: (6 :: (6 :: (6 :: (6 :: (6 :: (6 :: [])))))))))))))))))))))))))))))))))))))))))))))))))))))))))))))))) (7 :: (7 :: (7 :: (7 :: (7 :: (7 :: (7 :: (7 :: (7 :: (7 :: (7 :: (7 :: (7 :: (7 :: (7 :: (7 :: (7 :: (7 :: (7 :: (7 :: (7 :: (7 :: (7 :: (7 :: (7 :: (7 :: (7 :: (7 :: (7 :: (7 :: (7 :: (7 :: (7 :: (7 :: (7 :: (7 :: (7 :: (7 :: (7 :: (7 :: (7 :: (7 :: (7 :: (7 :: (7 :: (7 :: (7 :: (7 :: (7 :: (7 :: (7 :: (7 :: (7 :: (7 :: (7 :: (7 :: (7 :: (7 :: (7 :: (7 :: (7 :: (7 :: (7 :: (7 :: []))))))))))))))))))))))))))))))))))))))))))))))))))))))))))))))))) (List.append (8 :: (8 :: (8 :: (8 :: (8 :: (8 :: (8 :: (8 :: (8 :: (8 :: (8 :: (8 :: (8 :: (8 :: (8 :: (8 :: (8 :: (8 :: (8 :: (8 :: (8 :: (8 :: (8 :: (8 :: (8 :: (8 :: (8 :: (8 :: (8 :: (8 :: (8 :: (8 :: (8 :: (8 :: (8 :: (8 :: (8 :: (8 :: (8 :: (8 :: (8 :: (8 :: (8 :: (8 :: (8 :: (8 :: (8 :: (8 :: (8 :: (8 :: (8 :: (8 :: (8 :: (8 :: (8 :: (8 :: (8 :: (8 :: (8 :: (8 :: (8 :: (8 :: (8 :: (8 :: [])))))))))))))))))))))))))))))))))))))))))))))))))))))))))))))))) (8 :: (8 :: (8 :: (8 :: (8 :: (8 :: (8 :: (8 :: (8 :: (8 :: (8 :: (8 :: (8 :: (8 :: (8 :: (8 :: (8 :: (8 :: (8 :: (8 :: (8 :: (8 :: (8 :: (8 :: (8 :: (8 :: (8 :: (8 :: (8 :: (8 :: (8 :: (8 :: (8 :: (8 :: (8 :: (8 :: (8 :: (8 :: (8 :: (8 :: (8 :: (8 :: (8 :: (8 :: (8 :: (8 :: (8 :: (8 :: (8 :: (8 :: (8 :: (8 :: (8 :: (8 :: (8 :: (8 :: (8 :: (8 :: (8 :: (8 :: (8 :: (8 :: (8 :: (8 :: []))))))))))))))))))))))))))))))))))))))))))))))))))))))))))))))))))))
theorem len64_def (F : Nat) (x : Int) : len64_S F x = (ob (bif (decide (x ≥ (4294967296 : Int))) then (some ((Int.fdiv x (4294967296 : Int)), (32 : Int))) else (some (x, (0 : Int)))) (fun s1 => (ob (bif (decide (s1.1 ≥ (65536 : Int))) then (some ((Int.fdiv s1.1 (65536 : Int)), (IntKind.wrap IntKind.i64 (s1.2 + (16 : Int))))) else (some (s1.1, s1.2))) (fun s2 => (bif (decide (s2.1 ≥ (256 : Int))) then (bif (inB (IntKind.wrap IntKind.u8 (Int.fdiv s2.1 (256 : Int))) 256) then (some (IntKind.wrap IntKind.i64 ((IntKind.wrap IntKind.i64 (s2.2 + (8 : Int))) + (IntKind.wrap IntKind.i64 (bAt tabL (IntKind.wrap IntKind.u8 (Int.fdiv s2.1 (256 : Int))).toNat))))) else none) else (bif (inB (IntKind.wrap IntKind.u8 s2.1) 256) then (some (IntKind.wrap IntKind.i64 (s2.2 + (IntKind.wrap IntKind.i64 (bAt tabL (IntKind.wrap IntKind.u8 s2.1).toNat))))) else none)))))) := rfl
def tL (i : Nat) : Nat := (bAt tabL i).toNat
theorem tL_all : (List.range 256).all (fun i => decide (bAt tabL i = ((tL i : Nat) : Int)) && decide (i < 2 ^ tL i) && decide (tL i ≤ 8) && decide (i = 0 ∨ 1 ≤ tL i)) = true := by kernel_rfl
theorem tL_ok (i : Nat) (h : i < 256) : bAt tabL i = ((tL i : Nat) : Int) ∧ i < 2 ^ tL i ∧ tL i ≤ 8 ∧ (i = 0 ∨ 1 ≤ tL i) := by
  have h1 := List.all_eq_true.1 tL_all i (List.mem_range.2 h)
  simp only [Bool.and_eq_true, decide_eq_true_eq] at h1
  exact ⟨h1.1.1.1, h1.1.1.2, h1.1.2, h1.2⟩
theorem fdC (a : Nat) (c : Nat) (hc : 0 < c) : Int.fdiv (a : Int) (c : Int) = ((a / c : Nat) : Int) := by
  rw [Int.fdiv_eq_ediv_of_nonneg _ (by omega)]
  exact (Int.natCast_ediv a c).symm
theorem w8N (a : Nat) (h : a < 256) : IntKind.wrap IntKind.u8 (a : Int) = (a : Int) := by rw [IntKind.wrap_u8]; omega
theorem inB8 (a : Nat) (h : a < 256) : inB (a : Int) 256 = true := inB_t h
/-- The length of a number of 32 bits. -/
theorem len64_small (F : Nat) (y : Nat) (h0 : 1 ≤ y) (h : y < 4294967296) : ∃ L : Nat, len64_S F y = some (L : Int) ∧ 1 ≤ L ∧ L ≤ 32 ∧ y < 2 ^ L := by
  have step : ∀ (z c : Nat), z < 65536 → 1 ≤ z → c ≤ 16 → ∃ M : Nat, M ≤ 16 ∧ 1 ≤ M ∧ z < 2 ^ M ∧
      (bif (decide ((z : Int) ≥ (256 : Int))) then (bif (inB (IntKind.wrap IntKind.u8 (Int.fdiv (z : Int) (256 : Int))) 256) then (some (IntKind.wrap IntKind.i64 ((IntKind.wrap IntKind.i64 ((c : Int) + (8 : Int))) + (IntKind.wrap IntKind.i64 (bAt tabL (IntKind.wrap IntKind.u8 (Int.fdiv (z : Int) (256 : Int))).toNat))))) else none) else (bif (inB (IntKind.wrap IntKind.u8 (z : Int)) 256) then (some (IntKind.wrap IntKind.i64 ((c : Int) + (IntKind.wrap IntKind.i64 (bAt tabL (IntKind.wrap IntKind.u8 (z : Int)).toNat))))) else none)) = some ((c + M : Nat) : Int) := by
    intro z c hz h1 hc
    by_cases h8 : 256 ≤ z
    · obtain ⟨t1, t2, t3, t4⟩ := tL_ok (z / 256) (by omega)
      refine ⟨8 + tL (z / 256), by omega, by omega, ?_, ?_⟩
      · rw [Nat.pow_add]
        generalize 2 ^ tL (z / 256) = q at t2
        omega
      · rw [dec_t (show (z : Int) ≥ 256 by omega), show Int.fdiv (z : Int) (256 : Int) = ((z / 256 : Nat) : Int) from fdC z 256 (by decide), w8N _ (by omega), inB8 _ (by omega), Int.toNat_natCast, t1]
        simp only [cond_true]
        rw [w64 (tL (z / 256) : Int) (by omega), w64 ((c : Int) + 8) (by omega), w64 _ (by omega)]
        congr 1
        omega
    · obtain ⟨t1, t2, t3, t4⟩ := tL_ok z (by omega)
      refine ⟨tL z, by omega, by omega, t2, ?_⟩
      rw [dec_f (show ¬ (z : Int) ≥ 256 by omega), w8N _ (by omega), inB8 _ (by omega), Int.toNat_natCast, t1]
      simp only [cond_true, cond_false]
      rw [w64 (tL z : Int) (by omega), w64 _ (by omega)]
      congr 1
  rw [len64_def, dec_f (show ¬ (y : Int) ≥ 4294967296 by omega)]
  by_cases h6 : 65536 ≤ y
  · obtain ⟨M, m1, m2, m3, m4⟩ := step (y / 65536) 16 (by omega) (by omega) (by omega)
    refine ⟨16 + M, ?_, by omega, by omega, ?_⟩
    · rw [← m4]
      show ob (bif decide ((y : Int) ≥ 65536) then (some ((Int.fdiv (y : Int) (65536 : Int)), (IntKind.wrap IntKind.i64 ((0 : Int) + (16 : Int))))) else _) _ = _
      rw [dec_t (show (y : Int) ≥ 65536 by omega), show Int.fdiv (y : Int) (65536 : Int) = ((y / 65536 : Nat) : Int) from fdC y 65536 (by decide)]
      rfl
    · rw [Nat.pow_add]
      generalize 2 ^ M = q at m3
      omega
  · obtain ⟨M, m1, m2, m3, m4⟩ := step y 0 (by omega) (by omega) (by omega)
    refine ⟨M, ?_, by omega, by omega, m3⟩
    rw [Nat.zero_add] at m4
    rw [← m4]
    show ob (bif decide ((y : Int) ≥ 65536) then _ else some ((y : Int), (0 : Int))) _ = _
    rw [dec_f (show ¬ (y : Int) ≥ 65536 by omega)]
    rfl
theorem u64N (a : Nat) (h : a < 18446744073709551616) : IntKind.wrap IntKind.u64 (a : Int) = (a : Int) := Mul64.wrapN a h
theorem u64Z (z : Int) : IntKind.wrap IntKind.u64 z = z % 18446744073709551616 := IntKind.wrap_u64 z
theorem dv0 (F k : Nat) (Y s Z un32 un1 un0 q1 rhat : Int) (hq : q1 < 4294967296) : div64_L0 F (k + 1) Y s Z 0 un32 un1 un0 q1 rhat = some (Y, s, Z, 0, un32, un1, un0, q1) := by
  show ob (bif decide (q1 ≥ 4294967296) then _ else (bif decide (IntKind.wrap IntKind.u64 (q1 * 0) > IntKind.wrap IntKind.u64 (IntKind.wrap IntKind.u64 (4294967296 * rhat) + un1)) then _ else _)) _ = _
  rw [dec_f (by omega), Int.mul_zero, dec_f (by rw [u64Z, u64Z]; omega)]
  rfl
theorem dv1 (F k : Nat) (Y s Z un0 q1 rhat un21 q0 : Int) (hq : q0 < 4294967296) : div64_L1 F (k + 1) Y s Z 0 un0 q1 rhat un21 q0 = some (Y, s, un0, q1, un21, q0) := by
  show ob (bif decide (q0 ≥ 4294967296) then _ else (bif decide (IntKind.wrap IntKind.u64 (q0 * 0) > IntKind.wrap IntKind.u64 (IntKind.wrap IntKind.u64 (4294967296 * rhat) + un0)) then _ else _)) _ = _
  rw [dec_f (by omega), Int.mul_zero, dec_f (by rw [u64Z, u64Z]; omega)]
  rfl
theorem orN (a b k : Nat) (ha : a * 2 ^ k < 18446744073709551616) (hb : b < 2 ^ k) (hb' : b < 18446744073709551616) :
    IntKind.wrap IntKind.u64 (((BitVec.toNat ((BitVec.ofInt 64 ((a * 2 ^ k : Nat) : Int)) ||| (BitVec.ofInt 64 (b : Int)))) : Nat) : Int) = ((a * 2 ^ k + b : Nat) : Int) := by
  have e : (BitVec.toNat ((BitVec.ofInt 64 ((a * 2 ^ k : Nat) : Int)) ||| (BitVec.ofInt 64 (b : Int)))) = a * 2 ^ k + b := by
    rw [BitVec.toNat_or, BitVec.toNat_ofInt, BitVec.toNat_ofInt]
    rw [show (((a * 2 ^ k : Nat) : Int) % ((2 ^ 64 : Nat) : Int)).toNat = a * 2 ^ k by omega, show ((b : Int) % ((2 ^ 64 : Nat) : Int)).toNat = b by omega]
    rw [← Nat.shiftLeft_eq, Nat.shiftLeft_add_eq_or_of_lt hb]
  rw [e]
  have : a * 2 ^ k + b < 18446744073709551616 := by
    rw [← e]
    exact BitVec.isLt _
  exact u64N _ this
/-- The arithmetic of the division. -/
theorem div_core {N y Q Z u1 v q1 q0 u21 : Nat} (hZ : Z = y * Q) (hQ : 0 < Q) (hy : 0 < y) (hN : N * Q = u1 * 4294967296 + v) (h1 : q1 = u1 / Z) (h2 : u21 = u1 % Z * 4294967296 + v) (h3 : q0 = u21 / Z) :
    q1 * 4294967296 + q0 = N / y ∧ u21 % Z / Q = N % y := by
  have hZ0 : 0 < Z := by rw [hZ]; exact Nat.mul_pos hy hQ
  have e1 := Nat.div_add_mod u1 Z
  have e2 := Nat.div_add_mod u21 Z
  rw [← h1] at e1
  rw [← h3] at e2
  have e3 : N * Q = (q1 * 4294967296 + q0) * Z + u21 % Z := by
    rw [hN, Nat.add_mul]
    have : q1 * 4294967296 * Z = Z * q1 * 4294967296 := by rw [Nat.mul_comm Z q1, Nat.mul_right_comm]
    rw [this, Nat.mul_comm q0 Z]
    omega
  have e4 : N * Q = Q * ((q1 * 4294967296 + q0) * y) + u21 % Z := by
    rw [e3, hZ, ← Nat.mul_assoc, Nat.mul_comm Q]
  have hlt : u21 % Z < Z := Nat.mod_lt _ hZ0
  have e5 : Q * (u21 % Z / Q) = u21 % Z := by
    have d1 : Q ∣ u21 % Z := by
      have : Q ∣ Q * ((q1 * 4294967296 + q0) * y) + u21 % Z := by rw [← e4]; exact Nat.dvd_mul_left Q N
      exact (Nat.dvd_add_right (Nat.dvd_mul_right Q _)).1 this
    exact Nat.mul_div_cancel' d1
  have hr : u21 % Z / Q < y := by
    apply Nat.lt_of_mul_lt_mul_left (a := Q)
    rw [e5, Nat.mul_comm Q y, ← hZ]
    exact hlt
  have e6 : N = y * (q1 * 4294967296 + q0) + u21 % Z / Q := by
    apply Nat.eq_of_mul_eq_mul_left hQ
    rw [Nat.mul_add, e5, Nat.mul_comm Q N, e4, Nat.mul_comm y]
  constructor
  · rw [e6, Nat.mul_add_div hy, Nat.div_eq_of_lt hr, Nat.add_zero]
  · rw [e6, Nat.mul_add_mod, Nat.mod_eq_of_lt hr]
end Go.Proofs.YtdfgmfddkcmalaaDoor


namespace Go.Proofs.YtdfgmfddkcmalaaDoor
open Go.RowKit
set_option maxRecDepth 100000
noncomputable def dvC (F : Nat) (Y s Z yn u v1 v0 : Int) : Option (Int × Int) := (bif (!(Z == (0 : Int))) then (ob (div64_L0 F F Y s Z yn u v1 v0 (IntKind.wrap IntKind.u64 (Int.tdiv u Z)) (IntKind.wrap IntKind.u64 (u - (IntKind.wrap IntKind.u64 ((IntKind.wrap IntKind.u64 (Int.tdiv u Z)) * Z))))) (fun s4 => (bif (!(s4.2.2.1 == (0 : Int))) then (ob (div64_L1 F F s4.1 s4.2.1 s4.2.2.1 s4.2.2.2.1 s4.2.2.2.2.2.2.1 s4.2.2.2.2.2.2.2 (IntKind.wrap IntKind.u64 ((IntKind.wrap IntKind.u64 ((IntKind.wrap IntKind.u64 ((IntKind.wrap IntKind.u64 (s4.2.2.2.2.1 * (4294967296 : Int))) + s4.2.2.2.2.2.1)) - (IntKind.wrap IntKind.u64 (s4.2.2.2.2.2.2.2 * s4.1)))) - (IntKind.wrap IntKind.u64 ((IntKind.wrap IntKind.u64 (Int.tdiv (IntKind.wrap IntKind.u64 ((IntKind.wrap IntKind.u64 ((IntKind.wrap IntKind.u64 (s4.2.2.2.2.1 * (4294967296 : Int))) + s4.2.2.2.2.2.1)) - (IntKind.wrap IntKind.u64 (s4.2.2.2.2.2.2.2 * s4.1)))) s4.2.2.1)) * s4.2.2.1)))) (IntKind.wrap IntKind.u64 ((IntKind.wrap IntKind.u64 ((IntKind.wrap IntKind.u64 (s4.2.2.2.2.1 * (4294967296 : Int))) + s4.2.2.2.2.2.1)) - (IntKind.wrap IntKind.u64 (s4.2.2.2.2.2.2.2 * s4.1)))) (IntKind.wrap IntKind.u64 (Int.tdiv (IntKind.wrap IntKind.u64 ((IntKind.wrap IntKind.u64 ((IntKind.wrap IntKind.u64 (s4.2.2.2.2.1 * (4294967296 : Int))) + s4.2.2.2.2.2.1)) - (IntKind.wrap IntKind.u64 (s4.2.2.2.2.2.2.2 * s4.1)))) s4.2.2.1))) (fun s8 => (bif (decide ((0 : Int) ≤ s8.2.1)) then (some ((IntKind.wrap IntKind.u64 ((IntKind.wrap IntKind.u64 (s8.2.2.2.1 * (4294967296 : Int))) + s8.2.2.2.2.2)), (Int.fdiv (IntKind.wrap IntKind.u64 ((IntKind.wrap IntKind.u64 ((IntKind.wrap IntKind.u64 (s8.2.2.2.2.1 * (4294967296 : Int))) + s8.2.2.1)) - (IntKind.wrap IntKind.u64 (s8.2.2.2.2.2 * s8.1)))) ((2 : Int) ^ (Min.min s8.2.1.toNat 64))))) else none))) else none))) else none)
noncomputable def dvR (F : Nat) (hi lo y r : Int) : Option (Int × Int) := (bif (decide ((0 : Int) ≤ (IntKind.wrap IntKind.u64 r))) then (bif (decide ((0 : Int) ≤ (IntKind.wrap IntKind.u64 r))) then (bif (decide ((0 : Int) ≤ (IntKind.wrap IntKind.u64 ((64 : Int) - (IntKind.wrap IntKind.u64 r))))) then (bif (decide ((0 : Int) ≤ (IntKind.wrap IntKind.u64 r))) then (dvC F (IntKind.wrap IntKind.u64 (y * ((2 : Int) ^ (Min.min (IntKind.wrap IntKind.u64 r).toNat 64)))) (IntKind.wrap IntKind.u64 r) (Int.fdiv (IntKind.wrap IntKind.u64 (y * ((2 : Int) ^ (Min.min (IntKind.wrap IntKind.u64 r).toNat 64)))) (4294967296 : Int)) (IntKind.wrap IntKind.u64 ((BitVec.toNat ((BitVec.ofInt 64 (IntKind.wrap IntKind.u64 (y * ((2 : Int) ^ (Min.min (IntKind.wrap IntKind.u64 r).toNat 64))))) &&& (BitVec.ofInt 64 (4294967295 : Int)))) : Int)) (IntKind.wrap IntKind.u64 (((BitVec.toNat ((BitVec.ofInt 64 (IntKind.wrap IntKind.u64 (hi * ((2 : Int) ^ (Min.min (IntKind.wrap IntKind.u64 r).toNat 64))))) ||| (BitVec.ofInt 64 (Int.fdiv lo ((2 : Int) ^ (Min.min (IntKind.wrap IntKind.u64 ((64 : Int) - (IntKind.wrap IntKind.u64 r))).toNat 64)))))) : Nat) : Int)) (Int.fdiv (IntKind.wrap IntKind.u64 (lo * ((2 : Int) ^ (Min.min (IntKind.wrap IntKind.u64 r).toNat 64)))) (4294967296 : Int)) (IntKind.wrap IntKind.u64 ((BitVec.toNat ((BitVec.ofInt 64 (IntKind.wrap IntKind.u64 (lo * ((2 : Int) ^ (Min.min (IntKind.wrap IntKind.u64 r).toNat 64))))) &&& (BitVec.ofInt 64 (4294967295 : Int)))) : Int))) else none) else none) else none) else none)
theorem div64_def (F : Nat) (hi lo y : Int) : div64_S F hi lo y = (bif (y == (0 : Int)) then none else (bif (decide (y ≤ hi)) then none else (bif (hi == (0 : Int)) then (bif (!(y == (0 : Int))) then (bif (!(y == (0 : Int))) then (some ((IntKind.wrap IntKind.u64 (Int.tdiv lo y)), (Int.tmod lo y))) else none) else none) else (ob (lz64_S F y) (fun r => dvR F hi lo y r))))) := rfl
theorem subW {A u C D : Nat} (h : A + u = C + D) (hD : D < 18446744073709551616) : IntKind.wrap IntKind.u64 ((IntKind.wrap IntKind.u64 ((IntKind.wrap IntKind.u64 (A : Int)) + (u : Int))) - (IntKind.wrap IntKind.u64 (C : Int))) = (D : Int) := by
  rw [u64Z, u64Z, u64Z, u64Z]
  omega
theorem mulC (a : Nat) : (a : Int) * (4294967296 : Int) = ((a * 4294967296 : Nat) : Int) := (Int.natCast_mul a 4294967296).symm
theorem dvC_eq' (F : Nat) {Y Z s u v q1 r1 u21 q0 r0 : Nat} (hZ : 0 < Z) (hY : Y = Z * 4294967296) (hYl : Y < 18446744073709551616) (e1 : Z * q1 + r1 = u) (l1 : r1 < Z) (e2 : u21 = r1 * 4294967296 + v) (hv : v < 4294967296) (e3 : Z * q0 + r0 = u21) (l0 : r0 < Z) (d1 : u / Z = q1) (d0 : u21 / Z = q0) (hq1 : q1 < 4294967296) (hq0 : q0 < 4294967296) :
    dvC (F + 1) (Y : Int) (s : Int) (Z : Int) 0 (u : Int) (v : Int) 0 = some (((q1 * 4294967296 + q0 : Nat) : Int), Int.fdiv ((r0 * 4294967296 : Nat) : Int) ((2 : Int) ^ (Min.min ((s : Int).toNat) 64))) := by
  have f1 : q1 * Y = Z * q1 * 4294967296 := by rw [hY, ← Nat.mul_assoc, Nat.mul_comm q1]
  have f0 : q0 * Y = Z * q0 * 4294967296 := by rw [hY, ← Nat.mul_assoc, Nat.mul_comm q0]
  have t1 : IntKind.wrap IntKind.u64 (Int.tdiv (u : Int) (Z : Int)) = (q1 : Int) := by
    rw [show Int.tdiv (u : Int) (Z : Int) = ((u / Z : Nat) : Int) from rfl, d1]
    exact u64N q1 (by omega)
  have t0 : IntKind.wrap IntKind.u64 (Int.tdiv (u21 : Int) (Z : Int)) = (q0 : Int) := by
    rw [show Int.tdiv (u21 : Int) (Z : Int) = ((u21 / Z : Nat) : Int) from rfl, d0]
    exact u64N q0 (by omega)
  have g1 : IntKind.wrap IntKind.u64 ((IntKind.wrap IntKind.u64 ((IntKind.wrap IntKind.u64 ((u : Int) * (4294967296 : Int))) + (v : Int))) - (IntKind.wrap IntKind.u64 ((q1 : Int) * (Y : Int)))) = (u21 : Int) := by
    rw [mulC, Mul64.mulN]
    refine subW ?_ (by omega)
    rw [f1]
    generalize Z * q1 = t at *
    omega
  have g0 : IntKind.wrap IntKind.u64 ((IntKind.wrap IntKind.u64 ((IntKind.wrap IntKind.u64 ((u21 : Int) * (4294967296 : Int))) + (0 : Int))) - (IntKind.wrap IntKind.u64 ((q0 : Int) * (Y : Int)))) = ((r0 * 4294967296 : Nat) : Int) := by
    rw [mulC, Mul64.mulN]
    refine subW (u := 0) ?_ (by omega)
    rw [f0]
    generalize Z * q0 = t at *
    omega
  have hz : ((Z : Int) == 0) = false := beq_eq_false_iff_ne.2 (by omega)
  unfold dvC
  rw [hz, t1]
  change ob (div64_L0 (F + 1) (F + 1) (Y : Int) (s : Int) (Z : Int) 0 (u : Int) (v : Int) 0 (q1 : Int) _) _ = _
  rw [dv0 _ _ _ _ _ _ _ _ _ _ (by omega)]
  change (bif (!((Z : Int) == 0)) then ob (div64_L1 (F + 1) (F + 1) (Y : Int) (s : Int) (Z : Int) 0 0 (q1 : Int) _
    (IntKind.wrap IntKind.u64 ((IntKind.wrap IntKind.u64 ((IntKind.wrap IntKind.u64 ((u : Int) * (4294967296 : Int))) + (v : Int))) - (IntKind.wrap IntKind.u64 ((q1 : Int) * (Y : Int)))))
    (IntKind.wrap IntKind.u64 (Int.tdiv (IntKind.wrap IntKind.u64 ((IntKind.wrap IntKind.u64 ((IntKind.wrap IntKind.u64 ((u : Int) * (4294967296 : Int))) + (v : Int))) - (IntKind.wrap IntKind.u64 ((q1 : Int) * (Y : Int))))) (Z : Int)))) _ else none) = _
  rw [hz, g1, t0]
  change ob (div64_L1 (F + 1) (F + 1) (Y : Int) (s : Int) (Z : Int) 0 0 (q1 : Int) _ (u21 : Int) (q0 : Int)) _ = _
  rw [dv1 _ _ _ _ _ _ _ _ _ _ (by omega)]
  change (bif decide ((0 : Int) ≤ (s : Int)) then some (IntKind.wrap IntKind.u64 (IntKind.wrap IntKind.u64 ((q1 : Int) * 4294967296) + (q0 : Int)), Int.fdiv (IntKind.wrap IntKind.u64 ((IntKind.wrap IntKind.u64 ((IntKind.wrap IntKind.u64 ((u21 : Int) * (4294967296 : Int))) + (0 : Int))) - (IntKind.wrap IntKind.u64 ((q0 : Int) * (Y : Int))))) ((2 : Int) ^ (Min.min ((s : Int).toNat) 64))) else none) = _
  rw [g0, dec_t (by omega), mulC, u64N (q1 * 4294967296) (by omega), Mul64.addN, u64N (q1 * 4294967296 + q0) (by omega)]
  rfl
theorem dvC_eq (F : Nat) (hF : 0 < F) {N y P Q s u v : Nat} (hP : P = 4294967296 * Q) (hs : P = 2 ^ s) (hs6 : s ≤ 64) (hQ : 0 < Q) (hy : 0 < y) (hY : y * P < 18446744073709551616) (hN : N * Q = u * 4294967296 + v) (hu : u < y * P) (hv : v < 4294967296) :
    dvC F ((y * P : Nat) : Int) (s : Int) ((y * Q : Nat) : Int) 0 (u : Int) (v : Int) 0 = some (((N / y : Nat) : Int), ((N % y : Nat) : Int)) := by
  obtain ⟨F, rfl⟩ : ∃ k, F = k + 1 := ⟨F - 1, by omega⟩
  have hZ0 : 0 < y * Q := Nat.mul_pos hy hQ
  have hYZ : y * P = y * Q * 4294967296 := by rw [hP, Nat.mul_comm 4294967296 Q, Nat.mul_assoc]
  obtain ⟨c1, c2⟩ := div_core (Z := y * Q) (u1 := u) (v := v) rfl hQ hy hN rfl rfl rfl
  have m1 : u % (y * Q) < y * Q := Nat.mod_lt _ hZ0
  have m2 : (u % (y * Q) * 4294967296 + v) % (y * Q) < y * Q := Nat.mod_lt _ hZ0
  have q1 : u / (y * Q) < 4294967296 := (Nat.div_lt_iff_lt_mul hZ0).2 (by rw [Nat.mul_comm, ← hYZ]; exact hu)
  have q0 : (u % (y * Q) * 4294967296 + v) / (y * Q) < 4294967296 := (Nat.div_lt_iff_lt_mul hZ0).2 (by
    rw [Nat.mul_comm 4294967296]
    generalize u % (y * Q) = r at *
    generalize y * Q = z at *
    omega)
  rw [dvC_eq' F hZ0 hYZ hY (Nat.div_add_mod u (y * Q)) m1 rfl hv (Nat.div_add_mod (u % (y * Q) * 4294967296 + v) (y * Q)) m2 rfl rfl q1 q0, c1, ← c2]
  rw [Int.toNat_natCast, Nat.min_eq_left hs6, show (2 : Int) ^ s = ((P : Nat) : Int) by rw [hs]; exact (Int.natCast_pow 2 s).symm, fdC _ _ (by rw [hP]; exact Nat.mul_pos (by decide) hQ), hP]
  rw [Nat.mul_comm 4294967296 Q, Nat.mul_div_mul_right _ _ (by decide)]
theorem div64_small (F : Nat) (hF : 0 < F) (hi lo y : Nat) (h1 : 1 ≤ hi) (h2 : hi < y) (h3 : y < 4294967296) (h4 : lo < 18446744073709551616) :
    div64_S F hi lo y = some ((((hi * 18446744073709551616 + lo) / y : Nat) : Int), (((hi * 18446744073709551616 + lo) % y : Nat) : Int)) := by
  obtain ⟨L, l1, l2, l3, l4⟩ := len64_small F y (by omega) h3
  obtain ⟨Q, hQ⟩ : ∃ Q, Q = 2 ^ (32 - L) := ⟨_, rfl⟩
  obtain ⟨B, hB⟩ : ∃ B, B = 2 ^ L := ⟨_, rfl⟩
  have hQ0 : 0 < Q := by rw [hQ]; exact Nat.two_pow_pos _
  have hB0 : 0 < B := by rw [hB]; exact Nat.two_pow_pos _
  have hQB : Q * B = 4294967296 := by rw [hQ, hB, ← Nat.pow_add, show 32 - L + L = 32 by omega]
  have hP : 2 ^ (64 - L) = 4294967296 * Q := by rw [show 64 - L = 32 + (32 - L) by omega, Nat.pow_add, ← hQ]
  obtain ⟨P, hPd⟩ : ∃ P, P = 2 ^ (64 - L) := ⟨_, rfl⟩
  rw [← hPd] at hP
  rw [← hB] at l4
  have hPB : P * B = 18446744073709551616 := by rw [hP, Nat.mul_assoc, hQB]
  have hyP : y * P < 18446744073709551616 := by
    rw [← hPB, Nat.mul_comm P B]
    exact Nat.mul_lt_mul_of_pos_right l4 (by omega)
  have hhP : hi * P < 18446744073709551616 := Nat.lt_of_le_of_lt (Nat.mul_le_mul_right P (by omega : hi ≤ y)) hyP
  have hlB : lo / B < P := (Nat.div_lt_iff_lt_mul hB0).2 (by omega)
  have hlo := Nat.div_add_mod lo B
  have hmB : lo % B < B := Nat.mod_lt _ hB0
  have hlP : lo * P % 18446744073709551616 = lo % B * Q * 4294967296 := by
    have e : lo * P = lo % B * Q * 4294967296 + 18446744073709551616 * (lo / B) := by
      have a1 : lo * P = (B * (lo / B) + lo % B) * P := by rw [hlo]
      rw [a1, Nat.add_mul, Nat.mul_assoc (lo % B), Nat.mul_comm Q, ← hP, Nat.mul_right_comm B, Nat.mul_comm B P, hPB]
      omega
    have b1 : lo % B * Q * 4294967296 < 18446744073709551616 := by
      have : lo % B * Q < 4294967296 := by
        rw [← hQB, Nat.mul_comm Q B]
        exact Nat.mul_lt_mul_of_pos_right hmB hQ0
      omega
    omega
  have hv : lo % B * Q < 4294967296 := by
    rw [← hQB, Nat.mul_comm Q B]
    exact Nat.mul_lt_mul_of_pos_right hmB hQ0
  have hv6 : lo % B * Q * 4294967296 < 18446744073709551616 := Nat.lt_of_lt_of_eq (Nat.mul_lt_mul_of_pos_right hv (by decide)) (by decide)
  have hN : (hi * 18446744073709551616 + lo) * Q = (hi * P + lo / B) * 4294967296 + lo % B * Q := by
    have a1 : lo * Q = (B * (lo / B) + lo % B) * Q := by rw [hlo]
    have a2 : hi * P = hi * 4294967296 * Q := by rw [hP, Nat.mul_assoc]
    have a3 : B * (lo / B) * Q = 4294967296 * (lo / B) := by rw [Nat.mul_right_comm, Nat.mul_comm B Q, hQB]
    rw [Nat.add_mul, a1, Nat.add_mul (B * (lo / B)), a3, a2]
    have a4 : hi * 18446744073709551616 * Q = hi * 4294967296 * Q * 4294967296 := by rw [Nat.mul_right_comm _ Q, Nat.mul_assoc hi 4294967296 4294967296]
    rw [a4]
    generalize hi * 4294967296 * Q = t
    generalize lo / B = t2
    generalize lo % B * Q = t3
    omega
  have hu : hi * P + lo / B < y * P := by
    have : (hi + 1) * P ≤ y * P := Nat.mul_le_mul_right P (by omega)
    rw [Nat.add_mul] at this
    omega
  have key := dvC_eq F hF (N := hi * 18446744073709551616 + lo) (y := y) (P := P) (Q := Q) (s := 64 - L) (u := hi * P + lo / B) (v := lo % B * Q) hP hPd (by omega) hQ0 (by omega) hyP hN hu hv
  have ey : IntKind.wrap IntKind.u64 ((y : Int) * (P : Int)) = ((y * P : Nat) : Int) := by rw [Mul64.mulN]; exact u64N _ hyP
  have eh : IntKind.wrap IntKind.u64 ((hi : Int) * (P : Int)) = ((hi * P : Nat) : Int) := by rw [Mul64.mulN]; exact u64N _ hhP
  have el : IntKind.wrap IntKind.u64 ((lo : Int) * (P : Int)) = ((lo % B * Q * 4294967296 : Nat) : Int) := by rw [Mul64.mulN, Mul64.wrapM, hlP]
  have ez : Int.fdiv ((y * P : Nat) : Int) 4294967296 = ((y * Q : Nat) : Int) := by
    rw [fdN, hP, Nat.mul_comm 4294967296 Q, ← Nat.mul_assoc, Nat.mul_div_cancel _ (by decide)]
  have en : IntKind.wrap IntKind.u64 ((BitVec.toNat ((BitVec.ofInt 64 ((y * P : Nat) : Int)) &&& (BitVec.ofInt 64 (4294967295 : Int))) : Nat) : Int) = 0 := by
    rw [mkN _ hyP, hP, Nat.mul_comm 4294967296 Q, ← Nat.mul_assoc, Nat.mul_mod_left]; rfl
  have ev1 : Int.fdiv ((lo % B * Q * 4294967296 : Nat) : Int) 4294967296 = ((lo % B * Q : Nat) : Int) := by
    rw [fdN, Nat.mul_div_cancel _ (by decide)]
  have ev0 : IntKind.wrap IntKind.u64 ((BitVec.toNat ((BitVec.ofInt 64 ((lo % B * Q * 4294967296 : Nat) : Int)) &&& (BitVec.ofInt 64 (4294967295 : Int))) : Nat) : Int) = 0 := by
    rw [mkN (lo % B * Q * 4294967296) hv6, Nat.mul_mod_left]; rfl
  have elb : Int.fdiv (lo : Int) (B : Int) = ((lo / B : Nat) : Int) := fdC lo B hB0
  have eu : IntKind.wrap IntKind.u64 (((BitVec.toNat ((BitVec.ofInt 64 ((hi * P : Nat) : Int)) ||| (BitVec.ofInt 64 ((lo / B : Nat) : Int)))) : Nat) : Int) = ((hi * P + lo / B : Nat) : Int) := by
    rw [hPd]
    exact orN hi (lo / B) (64 - L) (by rw [← hPd]; exact hhP) (by rw [← hPd]; exact hlB) (Nat.lt_of_le_of_lt (Nat.div_le_self lo B) h4)
  rw [div64_def, show ((y : Int) == 0) = false from beq_eq_false_iff_ne.2 (by omega), dec_f (show ¬ (y : Int) ≤ (hi : Int) by omega), show ((hi : Int) == 0) = false from beq_eq_false_iff_ne.2 (by omega)]
  have elz : lz64_S F (y : Int) = some ((64 - L : Nat) : Int) := by
    unfold lz64_S
    rw [l1]
    show some (IntKind.wrap IntKind.i64 (64 - (L : Int))) = _
    rw [w64 _ (by omega)]
    congr 1
    omega
  rw [elz]
  change dvR F (hi : Int) (lo : Int) (y : Int) ((64 - L : Nat) : Int) = _
  have es : IntKind.wrap IntKind.u64 ((64 - L : Nat) : Int) = ((64 - L : Nat) : Int) := u64N _ (by omega)
  have es2 : IntKind.wrap IntKind.u64 ((64 : Int) - ((64 - L : Nat) : Int)) = ((L : Nat) : Int) := by rw [u64Z]; omega
  unfold dvR
  rw [es, es2, dec_t (by omega), dec_t (show (0 : Int) ≤ ((L : Nat) : Int) by omega)]
  simp only [cond_true, Int.toNat_natCast, Nat.min_eq_left (show 64 - L ≤ 64 by omega), Nat.min_eq_left (show L ≤ 64 by omega)]
  rw [show (2 : Int) ^ (64 - L) = ((P : Nat) : Int) by rw [hPd]; exact (Int.natCast_pow 2 (64 - L)).symm, show (2 : Int) ^ L = ((B : Nat) : Int) by rw [hB]; exact (Int.natCast_pow 2 L).symm]
  rw [ey, eh, el, ez, en, ev1, ev0, elb, eu]
  exact key
end Go.Proofs.YtdfgmfddkcmalaaDoor
