/- A part of the proof of the theorem of the last file. No condition. By an AI agent. -/
import Derived.Test.YtnomnijhlbalaaaGreatDoorWST2
import Derived.Shelf.Bits.Mul64
set_option maxRecDepth 100000
namespace Go.Proofs.YtnomnijhlbalaaaGreatDoor
section
open Go.RowKit Go.Proofs Go.Lib
def cLot : List UInt8 := [108, 111, 116]
def xFj : List UInt8 := [99, 104, 97, 114, 103, 101]
def xJV : List UInt8 := [102, 114, 101, 101, 122, 101]
def xGL : List UInt8 := [97, 98, 115, 111, 114, 98]
def xEj : List UInt8 := [118, 97, 112, 111, 117, 114]
def xHs : List UInt8 := [115, 108, 105, 99, 101]
def xEV : List UInt8 := [106, 117, 100, 103, 101]
def xXA : List UInt8 := [101, 110, 100]
def cK1 : List UInt8 := [75, 49]
theorem spw (l : List (List UInt8)) (hl : l ≠ []) (hn : ∀ x ∈ l, (32 : UInt8) ∉ x) : splitB ⟨#[32]⟩ 0 (countB (bs (xAi 32 l)) ⟨#[32]⟩) (bs (xAi 32 l)) = l.map bs := xGk 32 l hl hn
theorem szw (l : List (List UInt8)) (hs : (xAi 32 l).length <= 1000000) : decide ((bs (xAi 32 l)).size <= 1000000) = true := decide_eq_true (by rw [xAh]; exact hs)
def Wds (l : List (List UInt8)) : Prop := (∀ x ∈ l, (32 : UInt8) ∉ x) /\ (xAi 32 l).length <= 3000
theorem xSo (F : Nat) {a : List UInt8} {b : List UInt8} {c : List UInt8} {d : List UInt8} (h : Wds [cLot, a, b, c, d]) : xBd F (bs (xAi 32 [cLot, a, b, c, d])) = some (bs a, (bs b, (bs c, (bs d)))) := by
 unfold xBd;rw [szw _ (Nat.le_trans h.2 (by decide)), cond_true, spw _ (by simp) h.1];rfl
theorem xLK (F : Nat) {a : List UInt8} (h : Wds [xFj, cK1, a]) : xBd F (bs (xAi 32 [xFj, cK1, a])) = none := by
 unfold xBd;rw [szw _ (Nat.le_trans h.2 (by decide)), cond_true, spw _ (by simp) h.1];rfl
theorem xHE (F : Nat) {a : List UInt8} (h : Wds [xFj, cK1, a]) : xAO F (bs (xAi 32 [xFj, cK1, a])) = some (bs a) := by
 unfold xAO;rw [szw _ (Nat.le_trans h.2 (by decide)), cond_true, spw _ (by simp) h.1];rfl
theorem xM6 (F : Nat) {a : List UInt8} (h : Wds [xHs, cK1, a]) : xBd F (bs (xAi 32 [xHs, cK1, a])) = none := by
 unfold xBd;rw [szw _ (Nat.le_trans h.2 (by decide)), cond_true, spw _ (by simp) h.1];rfl
theorem xIt (F : Nat) {a : List UInt8} (h : Wds [xHs, cK1, a]) : xAO F (bs (xAi 32 [xHs, cK1, a])) = none := by
 unfold xAO;rw [szw _ (Nat.le_trans h.2 (by decide)), cond_true, spw _ (by simp) h.1];rfl
theorem xKe (F : Nat) {a : List UInt8} (h : Wds [xHs, cK1, a]) : xBb F (bs (xAi 32 [xHs, cK1, a])) = some (bs a) := by
 unfold xBb;rw [szw _ (Nat.le_trans h.2 (by decide)), cond_true, spw _ (by simp) h.1];rfl
theorem xM7 (F : Nat) {a : List UInt8} (h : Wds [xEV, cK1, [48], a]) : xBd F (bs (xAi 32 [xEV, cK1, [48], a])) = none := by
 unfold xBd;rw [szw _ (Nat.le_trans h.2 (by decide)), cond_true, spw _ (by simp) h.1];rfl
theorem xIv (F : Nat) {a : List UInt8} (h : Wds [xEV, cK1, [48], a]) : xAO F (bs (xAi 32 [xEV, cK1, [48], a])) = none := by
 unfold xAO;rw [szw _ (Nat.le_trans h.2 (by decide)), cond_true, spw _ (by simp) h.1];rfl
theorem xKf (F : Nat) {a : List UInt8} (h : Wds [xEV, cK1, [48], a]) : xBb F (bs (xAi 32 [xEV, cK1, [48], a])) = none := by
 unfold xBb;rw [szw _ (Nat.le_trans h.2 (by decide)), cond_true, spw _ (by simp) h.1];rfl
theorem xKg (F : Nat) {a : List UInt8} (h : Wds [xEV, cK1, [48], a]) : xBw F (bs (xAi 32 [xEV, cK1, [48], a])) = some (bs a) := by
 unfold xBw;rw [szw _ (Nat.le_trans h.2 (by decide)), cond_true, spw _ (by simp) h.1];rfl
theorem xSp (F : Nat) (h : Wds [xXA, cK1]) : xBd F (bs (xAi 32 [xXA, cK1])) = none := by
 unfold xBd;rw [szw _ (Nat.le_trans h.2 (by decide)), cond_true, spw _ (by simp) h.1];rfl
theorem xLL (F : Nat) (h : Wds [xXA, cK1]) : xAO F (bs (xAi 32 [xXA, cK1])) = none := by
 unfold xAO;rw [szw _ (Nat.le_trans h.2 (by decide)), cond_true, spw _ (by simp) h.1];rfl
theorem xM5 (F : Nat) (h : Wds [xXA, cK1]) : xBb F (bs (xAi 32 [xXA, cK1])) = none := by
 unfold xBb;rw [szw _ (Nat.le_trans h.2 (by decide)), cond_true, spw _ (by simp) h.1];rfl
theorem xM8 (F : Nat) (h : Wds [xXA, cK1]) : xBw F (bs (xAi 32 [xXA, cK1])) = none := by
 unfold xBw;rw [szw _ (Nat.le_trans h.2 (by decide)), cond_true, spw _ (by simp) h.1];rfl
theorem xSr (F : Nat) (h : Wds [xXA, cK1]) : xEn F (bs (xAi 32 [xXA, cK1])) = some () := by
 unfold xEn;rw [szw _ (Nat.le_trans h.2 (by decide)), cond_true, spw _ (by simp) h.1];rfl
theorem xHC (F : Nat) {a : List UInt8} {b : List UInt8} (h : Wds [xJV, cK1, a, b]) : xA0 F (bs (xAi 32 [xJV, cK1, a, b])) = some (bs a, (bs b)) := by
 unfold xA0;rw [szw _ (Nat.le_trans h.2 (by decide)), cond_true, spw _ (by simp) h.1];rfl
theorem xHD (F : Nat) {a : List UInt8} (h : Wds [xGL, cK1, a]) : xA0 F (bs (xAi 32 [xGL, cK1, a])) = none := by
 unfold xA0;rw [szw _ (Nat.le_trans h.2 (by decide)), cond_true, spw _ (by simp) h.1];rfl
theorem xHG (F : Nat) {a : List UInt8} (h : Wds [xGL, cK1, a]) : xBe F (bs (xAi 32 [xGL, cK1, a])) = some (bs a) := by
 unfold xBe;rw [szw _ (Nat.le_trans h.2 (by decide)), cond_true, spw _ (by simp) h.1];rfl
theorem xHB (F : Nat) {a : List UInt8} (h : Wds [xEj, cK1, a]) : xA0 F (bs (xAi 32 [xEj, cK1, a])) = none := by
 unfold xA0;rw [szw _ (Nat.le_trans h.2 (by decide)), cond_true, spw _ (by simp) h.1];rfl
theorem xHF (F : Nat) {a : List UInt8} (h : Wds [xEj, cK1, a]) : xBe F (bs (xAi 32 [xEj, cK1, a])) = none := by
 unfold xBe;rw [szw _ (Nat.le_trans h.2 (by decide)), cond_true, spw _ (by simp) h.1];rfl
theorem xHA (F : Nat) {a : List UInt8} (h : Wds [xEj, cK1, a]) : xB0 F (bs (xAi 32 [xEj, cK1, a])) = some (bs a) := by
 unfold xB0;rw [szw _ (Nat.le_trans h.2 (by decide)), cond_true, spw _ (by simp) h.1];rfl
end
namespace U8
open Go.RowKit
theorem w64 (n : Int) (h : -9223372036854775808 <= n /\ n <= 9223372036854775807) : jI.wrap n = n := by rw [IntKind.wrap_i64]; omega
theorem xAQ {p : Prop} [Decidable p] (h : p) : decide p = true := decide_eq_true h
theorem xAH {p : Prop} [Decidable p] (h : ¬ p) : decide p = false := decide_eq_false h
theorem xDZ {k n : Nat} (h : k < n) : inB (k : Int) n = true := by
 unfold inB;rw [xAQ (by omega), xAQ (by omega)]; rfl
theorem mkN (a : Nat) (h : a < 18446744073709551616) : jU.wrap ((BitVec.toNat ((BitVec.ofInt 64 (a : Int)) &&& (BitVec.ofInt 64 (4294967295 : Int))) : Nat) : Int) = ((a % 4294967296 : Nat) : Int) := Mul64.maskN a h
theorem fdN (a : Nat) : Int.fdiv (a : Int) 4294967296 = ((a / 4294967296 : Nat) : Int) := by
 rw [Int.fdiv_eq_ediv_of_nonneg _ (by decide)];exact Mul64.divN a
def xYz : ByteArray := (ByteArray.mk (Array.mk (List.append (List.append (0 :: (1 :: (2 :: (2 :: (3 :: (3 :: (3 :: (3 :: (4 :: (4 :: (4 :: (4 :: (4 :: (4 :: (4 :: (4 :: (5 :: (5 :: (5 :: (5 :: (5 :: (5 :: (5 :: (5 :: (5 :: (5 :: (5 :: (5 :: (5 :: (5 :: (5 :: (5 :: (6 :: (6 :: (6 :: (6 :: (6 :: (6 :: (6 :: (6 :: (6 :: (6 :: (6 :: (6 :: (6 :: (6 :: (6 :: (6 :: (6 :: (6 :: (6 :: (6 :: (6 :: (6 :: (6 :: (6 :: (6 :: (6 :: (6 :: (6 :: (6 :: (6 :: (6 :: (6 :: [])))))))))))))))))))))))))))))))))))))))))))))))))))))))))))))))) (7 :: (7 :: (7 :: (7 :: (7 :: (7 :: (7 :: (7 :: (7 :: (7 :: (7 :: (7 :: (7 :: (7 :: (7 :: (7 :: (7 :: (7 :: (7 :: (7 :: (7 :: (7 :: (7 :: (7 :: (7 :: (7 :: (7 :: (7 :: (7 :: (7 :: (7 :: (7 :: (7 :: (7 :: (7 :: (7 :: (7 :: (7 :: (7 :: (7 :: (7 :: (7 :: (7 :: (7 :: (7 :: (7 :: (7 :: (7 :: (7 :: (7 :: (7 :: (7 :: (7 :: (7 :: (7 :: (7 :: (7 :: (7 :: (7 :: (7 :: (7 :: (7 :: (7 :: (7 :: []))))))))))))))))))))))))))))))))))))))))))))))))))))))))))))))))) (List.append (8 :: (8 :: (8 :: (8 :: (8 :: (8 :: (8 :: (8 :: (8 :: (8 :: (8 :: (8 :: (8 :: (8 :: (8 :: (8 :: (8 :: (8 :: (8 :: (8 :: (8 :: (8 :: (8 :: (8 :: (8 :: (8 :: (8 :: (8 :: (8 :: (8 :: (8 :: (8 :: (8 :: (8 :: (8 :: (8 :: (8 :: (8 :: (8 :: (8 :: (8 :: (8 :: (8 :: (8 :: (8 :: (8 :: (8 :: (8 :: (8 :: (8 :: (8 :: (8 :: (8 :: (8 :: (8 :: (8 :: (8 :: (8 :: (8 :: (8 :: (8 :: (8 :: (8 :: (8 :: [])))))))))))))))))))))))))))))))))))))))))))))))))))))))))))))))) (8 :: (8 :: (8 :: (8 :: (8 :: (8 :: (8 :: (8 :: (8 :: (8 :: (8 :: (8 :: (8 :: (8 :: (8 :: (8 :: (8 :: (8 :: (8 :: (8 :: (8 :: (8 :: (8 :: (8 :: (8 :: (8 :: (8 :: (8 :: (8 :: (8 :: (8 :: (8 :: (8 :: (8 :: (8 :: (8 :: (8 :: (8 :: (8 :: (8 :: (8 :: (8 :: (8 :: (8 :: (8 :: (8 :: (8 :: (8 :: (8 :: (8 :: (8 :: (8 :: (8 :: (8 :: (8 :: (8 :: (8 :: (8 :: (8 :: (8 :: (8 :: (8 :: (8 :: (8 :: []))))))))))))))))))))))))))))))))))))))))))))))))))))))))))))))))))))
theorem xVN (F : Nat) (x : Int) : xJa F x = (ob (bif (decide (x >= (4294967296 : Int))) then (some ((Int.fdiv x (4294967296 : Int)), (32 : Int))) else (some (x, (0 : Int)))) (fun s1 => (ob (bif (decide (s1.1 >= (65536 : Int))) then (some ((Int.fdiv s1.1 (65536 : Int)), (jI.wrap (s1.2 + (16 : Int))))) else (some (s1.1, s1.2))) (fun s2 => (bif (decide (s2.1 >= (256 : Int))) then (bif (inB (IntKind.u8.wrap (Int.fdiv s2.1 (256 : Int))) 256) then (some (jI.wrap ((jI.wrap (s2.2 + (8 : Int))) + (jI.wrap (bAt xYz (IntKind.u8.wrap (Int.fdiv s2.1 (256 : Int))).toNat))))) else none) else (bif (inB (IntKind.u8.wrap s2.1) 256) then (some (jI.wrap (s2.2 + (jI.wrap (bAt xYz (IntKind.u8.wrap s2.1).toNat))))) else none)))))) := rfl
def tL (i : Nat) : Nat := (bAt xYz i).toNat
theorem tL_all : (List.range 256).all (fun i => decide (bAt xYz i = ((tL i : Nat) : Int)) && decide (i < 2 ^ tL i) && decide (tL i <= 8) && decide (i = 0 \/ 1 <= tL i) && decide (i = 0 \/ 2 ^ (tL i - 1) <= i)) = true := by kernel_rfl
theorem tL_ok (i : Nat) (h : i < 256) : bAt xYz i = ((tL i : Nat) : Int) /\ i < 2 ^ tL i /\ tL i <= 8 /\ (i = 0 \/ 1 <= tL i) /\ (i = 0 \/ 2 ^ (tL i - 1) <= i) := by
 have h1 := List.all_eq_true.1 tL_all i (List.mem_range.2 h);simp only [Bool.and_eq_true, decide_eq_true_eq] at h1;exact ⟨h1.1.1.1.1, h1.1.1.1.2, h1.1.1.2, h1.1.2, h1.2⟩
theorem fdC (a : Nat) (c : Nat) (hc : 0 < c) : Int.fdiv (a : Int) (c : Int) = ((a / c : Nat) : Int) := by
 rw [Int.fdiv_eq_ediv_of_nonneg _ (by omega)];exact (Int.natCast_ediv a c).symm
theorem w8N (a : Nat) (h : a < 256) : IntKind.u8.wrap (a : Int) = (a : Int) := by rw [IntKind.wrap_u8]; omega
theorem inB8 (a : Nat) (h : a < 256) : inB (a : Int) 256 = true := xDZ h
theorem xQ7 (z c : Nat) (hz : z < 65536) (h1 : 1 <= z) (hc : c <= 48) : ∃ M : Nat, M <= 16 /\ 1 <= M /\ z < 2 ^ M /\ 2 ^ (M - 1) <= z /\ (bif (decide ((z : Int) >= (256 : Int))) then (bif (inB (IntKind.u8.wrap (Int.fdiv (z : Int) (256 : Int))) 256) then (some (jI.wrap ((jI.wrap ((c : Int) + (8 : Int))) + (jI.wrap (bAt xYz (IntKind.u8.wrap (Int.fdiv (z : Int) (256 : Int))).toNat))))) else none) else (bif (inB (IntKind.u8.wrap (z : Int)) 256) then (some (jI.wrap ((c : Int) + (jI.wrap (bAt xYz (IntKind.u8.wrap (z : Int)).toNat))))) else none)) = some ((c + M : Nat) : Int) := by
 by_cases h8 : 256 <= z
 ·obtain ⟨t1, t2, t3, t4, t5⟩ := tL_ok (z / 256) (by omega);have t5 : 2 ^ (tL (z / 256) - 1) <= z / 256 := by omega
  refine ⟨8 + tL (z / 256), by omega, by omega, ?_, ?_, ?_⟩
  ·rw [Nat.pow_add];generalize 2 ^ tL (z / 256) = q at t2;omega
  ·rw [show 8 + tL (z / 256) - 1 = 8 + (tL (z / 256) - 1) by omega, Nat.pow_add];generalize 2 ^ (tL (z / 256) - 1) = q at t5;omega
  ·rw [xAQ (show (z : Int) >= 256 by omega), show Int.fdiv (z : Int) (256 : Int) = ((z / 256 : Nat) : Int) from fdC z 256 (by decide), w8N _ (by omega), inB8 _ (by omega), Int.toNat_natCast, t1];simp only [cond_true];rw [w64 (tL (z / 256) : Int) (by omega), w64 ((c : Int) + 8) (by omega), w64 _ (by omega)];congr 1;omega
 ·obtain ⟨t1, t2, t3, t4, t5⟩ := tL_ok z (by omega);refine ⟨tL z, by omega, by omega, t2, by omega, ?_⟩;rw [xAH (show ¬ (z : Int) >= 256 by omega), w8N _ (by omega), inB8 _ (by omega), Int.toNat_natCast, t1];simp only [cond_true, cond_false];rw [w64 (tL z : Int) (by omega), w64 _ (by omega)];congr 1
theorem xVL (z c : Nat) (hz : z < 4294967296) (h1 : 1 <= z) (hc : c <= 32) : ∃ M : Nat, M <= 32 /\ 1 <= M /\ z < 2 ^ M /\ 2 ^ (M - 1) <= z /\ (ob (bif (decide ((z : Int) >= (65536 : Int))) then (some ((Int.fdiv (z : Int) (65536 : Int)), (jI.wrap ((c : Int) + (16 : Int))))) else (some ((z : Int), (c : Int)))) (fun s2 => (bif (decide (s2.1 >= (256 : Int))) then (bif (inB (IntKind.u8.wrap (Int.fdiv s2.1 (256 : Int))) 256) then (some (jI.wrap ((jI.wrap (s2.2 + (8 : Int))) + (jI.wrap (bAt xYz (IntKind.u8.wrap (Int.fdiv s2.1 (256 : Int))).toNat))))) else none) else (bif (inB (IntKind.u8.wrap s2.1) 256) then (some (jI.wrap (s2.2 + (jI.wrap (bAt xYz (IntKind.u8.wrap s2.1).toNat))))) else none)))) = some ((c + M : Nat) : Int) := by
 by_cases h6 : 65536 <= z
 ·obtain ⟨M, m1, m2, m3, m4, m5⟩ := xQ7 (z / 65536) (c + 16) (by omega) (by omega) (by omega);refine ⟨16 + M, by omega, by omega, ?_, ?_, ?_⟩
  ·rw [Nat.pow_add];generalize 2 ^ M = q at m3;omega
  ·rw [show 16 + M - 1 = 16 + (M - 1) by omega, Nat.pow_add];generalize 2 ^ (M - 1) = q at m4;omega
  ·rw [xAQ (show (z : Int) >= 65536 by omega), show Int.fdiv (z : Int) (65536 : Int) = ((z / 65536 : Nat) : Int) from fdC z 65536 (by decide), w64 ((c : Int) + 16) (by omega), show ((c : Int) + 16) = ((c + 16 : Nat) : Int) by omega];rw [show c + (16 + M) = c + 16 + M by omega, <- m5];rfl
 ·obtain ⟨M, m1, m2, m3, m4, m5⟩ := xQ7 z c (by omega) h1 (by omega);refine ⟨M, by omega, m2, m3, m4, ?_⟩;rw [xAH (show ¬ (z : Int) >= 65536 by omega), <- m5];rfl
theorem xVO (F : Nat) (y : Nat) (h0 : 1 <= y) (h : y < 18446744073709551616) : ∃ L : Nat, xJa F y = some (L : Int) /\ 1 <= L /\ L <= 64 /\ y < 2 ^ L /\ 2 ^ (L - 1) <= y := by
 rw [xVN];by_cases h2 : 4294967296 <= y
 ·obtain ⟨M, m1, m2, m3, m4, m5⟩ := xVL (y / 4294967296) 32 (by omega) (by omega) (by omega);refine ⟨32 + M, ?_, by omega, by omega, ?_, ?_⟩
  ·rw [xAQ (show (y : Int) >= 4294967296 by omega), show Int.fdiv (y : Int) (4294967296 : Int) = ((y / 4294967296 : Nat) : Int) from fdC y 4294967296 (by decide), <- m5];rfl
  ·rw [Nat.pow_add];generalize 2 ^ M = q at m3;omega
  ·rw [show 32 + M - 1 = 32 + (M - 1) by omega, Nat.pow_add];generalize 2 ^ (M - 1) = q at m4;omega
 ·obtain ⟨M, m1, m2, m3, m4, m5⟩ := xVL y 0 (by omega) h0 (by omega);refine ⟨M, ?_, m2, by omega, m3, m4⟩;rw [Nat.zero_add] at m5;rw [xAH (show ¬ (y : Int) >= 4294967296 by omega), <- m5];rfl
theorem xMK (a : Nat) (h : a < 18446744073709551616) : jU.wrap (a : Int) = (a : Int) := Mul64.wrapN a h
theorem u64Z (z : Int) : jU.wrap z = z % 18446744073709551616 := IntKind.wrap_u64 z
theorem orN (a b k : Nat) (ha : a * 2 ^ k < 18446744073709551616) (hb : b < 2 ^ k) (hb' : b < 18446744073709551616) :
  jU.wrap (((BitVec.toNat ((BitVec.ofInt 64 ((a * 2 ^ k : Nat) : Int)) ||| (BitVec.ofInt 64 (b : Int)))) : Nat) : Int) = ((a * 2 ^ k + b : Nat) : Int) := by
 have e : (BitVec.toNat ((BitVec.ofInt 64 ((a * 2 ^ k : Nat) : Int)) ||| (BitVec.ofInt 64 (b : Int)))) = a * 2 ^ k + b := by
  rw [BitVec.toNat_or, BitVec.toNat_ofInt, BitVec.toNat_ofInt];rw [show (((a * 2 ^ k : Nat) : Int) % ((2 ^ 64 : Nat) : Int)).toNat = a * 2 ^ k by omega, show ((b : Int) % ((2 ^ 64 : Nat) : Int)).toNat = b by omega];rw [<- Nat.shiftLeft_eq, Nat.shiftLeft_add_eq_or_of_lt hb]
 rw [e];have : a * 2 ^ k + b < 18446744073709551616 := by
  rw [<- e];exact BitVec.isLt _
 exact xMK _ this
end U8
namespace U8
open Go.RowKit
section
variable {Z yn u v Y q r : Nat}
theorem dig_eq (hY : Y = Z * 4294967296 + yn) (h1 : q * Z + r = u) : q * Y <= u * 4294967296 + v ↔ q * yn <= r * 4294967296 + v := by
 have e : q * Y = q * Z * 4294967296 + q * yn := by rw [hY, Nat.mul_add, Nat.mul_assoc]
 rw [e, <- h1];generalize q * Z = t;generalize q * yn = s;omega
theorem xW4 (hu : u < Y) (hv : v < 4294967296) : (u * 4294967296 + v) / Y < 4294967296 :=
 (Nat.div_lt_iff_lt_mul (by omega)).2 (by omega)
theorem xMq (hY : Y = Z * 4294967296 + yn) (hy0 : 0 < Y) (hu : u < Y) (hv : v < 4294967296) (h1 : q * Z + r = u) (h3 : (u * 4294967296 + v) / Y <= q) (hc : q < 4294967296 /\ q * yn <= r * 4294967296 + v) : (u * 4294967296 + v) / Y = q :=
 Nat.le_antisymm h3 ((Nat.le_div_iff_mul_le hy0).2 ((dig_eq hY h1).2 hc.2))
theorem xRW (hY : Y = Z * 4294967296 + yn) (hy0 : 0 < Y) (hu : u < Y) (hv : v < 4294967296) (h1 : q * Z + r = u) (h3 : (u * 4294967296 + v) / Y <= q) (hc : ¬ (q < 4294967296 /\ q * yn <= r * 4294967296 + v)) : (u * 4294967296 + v) / Y < q := by
 rcases Nat.lt_or_ge ((u * 4294967296 + v) / Y) q with h | h
 ·exact h
 ·exfalso;have e : (u * 4294967296 + v) / Y = q := Nat.le_antisymm h3 h;have h5 := xW4 hu hv;exact hc ⟨by omega, (dig_eq hY h1).1 ((Nat.le_div_iff_mul_le hy0).1 h)⟩
theorem xW5 (hY : Y = Z * 4294967296 + yn) (hy0 : 0 < Y) (hyn : yn < 4294967296) (hu : u < Y) (h1 : q * Z + r = u) (hr : 4294967296 <= r) : q < 4294967296 /\ q * yn <= r * 4294967296 + v := by
 have hq : q < 4294967296 := by
  rcases Nat.lt_or_ge q 4294967296 with h | h
  ·exact h
  ·exfalso;have : 4294967296 * Z <= q * Z := Nat.mul_le_mul_right Z h;omega
 refine ⟨hq, ?_⟩;have : q * yn <= 4294967296 * yn := Nat.mul_le_mul_right yn (by omega);omega
end
theorem wuN {a : Nat} {x : Int} (e : x = (a : Int)) (h : a < 18446744073709551616) : jU.wrap x = (a : Int) := by rw [e]; exact xMK a h
theorem tst {α : Type} {q r v yn : Nat} (hr : r < 4294967296) (hv : v < 4294967296) (hyn : yn < 4294967296) (x y : α) :
  (bif decide ((q : Int) >= 4294967296) then x else (bif decide (jU.wrap ((q : Int) * (yn : Int)) > jU.wrap (jU.wrap ((4294967296 : Int) * (r : Int)) + (v : Int))) then x else y)) = (if q < 4294967296 /\ q * yn <= r * 4294967296 + v then y else x) := by
 by_cases hq : q < 4294967296
 ·have hm : q * yn < 18446744073709551616 := Nat.lt_of_lt_of_eq (Nat.mul_lt_mul'' hq hyn) (by decide);have e1 : jU.wrap ((q : Int) * (yn : Int)) = ((q * yn : Nat) : Int) := wuN (Int.natCast_mul q yn).symm hm;have e2 : jU.wrap ((4294967296 : Int) * (r : Int)) = ((4294967296 * r : Nat) : Int) := wuN (by omega) (by omega);have e3 : jU.wrap (((4294967296 * r : Nat) : Int) + (v : Int)) = ((4294967296 * r + v : Nat) : Int) := wuN (by omega) (by omega);rw [xAH (show ¬ (q : Int) >= 4294967296 by omega), e1, e2, e3];generalize q * yn = t;by_cases hc : t <= r * 4294967296 + v
  ·rw [xAH (show ¬ ((t : Nat) : Int) > ((4294967296 * r + v : Nat) : Int) by omega), if_pos ⟨hq, hc⟩]; rfl
  ·rw [xAQ (show ((t : Nat) : Int) > ((4294967296 * r + v : Nat) : Int) by omega), if_neg (fun h => hc h.2)]; rfl
 ·rw [xAQ (show (q : Int) >= 4294967296 by omega), if_neg (fun h => hq h.1)]; rfl
theorem dl0 (F : Nat) {Z yn u v Y : Nat} (hY : Y = Z * 4294967296 + yn) (hZ : 2147483648 <= Z) (hZ2 : Z < 4294967296) (hyn : yn < 4294967296) (hv : v < 4294967296) (hu : u < Y) (y1 s1 un0 : Int) : ∀ (k q r : Nat), q * Z + r = u -> r < 4294967296 -> (u * 4294967296 + v) / Y <= q -> q <= 17179869184 -> 4294967296 <= r + k * 2147483648 ->
  xC1 F (k + 1) y1 s1 (Z : Int) (yn : Int) (u : Int) (v : Int) un0 (q : Int) (r : Int) = some (y1, s1, (Z : Int), (yn : Int), (u : Int), (v : Int), un0, (((u * 4294967296 + v) / Y : Nat) : Int))
 | 0, q, r, _, hr, _, _, hk => by omega
 | k + 1, q, r, h1, hr, h3, h4, hk => by
  have hy0 : 0 < Y := by omega
  rw [xC1, tst hr hv hyn];by_cases hc : q < 4294967296 /\ q * yn <= r * 4294967296 + v
  ·rw [if_pos hc, xMq hY hy0 hu hv h1 h3 hc]
  ·rw [if_neg hc];have hl := xRW hY hy0 hu hv h1 h3 hc;have hq1 : 1 <= q := Nat.lt_of_le_of_lt (Nat.zero_le _) hl;have hl2 : (u * 4294967296 + v) / Y <= q - 1 := Nat.le_sub_one_of_lt hl;have e4 : jU.wrap ((r : Int) + (Z : Int)) = ((r + Z : Nat) : Int) := wuN (by omega) (by omega);have e5 : jU.wrap ((q : Int) - 1) = ((q - 1 : Nat) : Int) := wuN (by omega) (by omega);have h1' : (q - 1) * Z + (r + Z) = u := by
    rw [<- h1, Nat.sub_mul, Nat.one_mul];have : Z <= q * Z := Nat.le_mul_of_pos_left Z (by omega);omega
   show (bif decide (jU.wrap ((r : Int) + (Z : Int)) >= 4294967296) then some (y1, s1, (Z : Int), (yn : Int), (u : Int), (v : Int), un0, jU.wrap ((q : Int) - 1)) else xC1 F (k + 1) y1 s1 (Z : Int) (yn : Int) (u : Int) (v : Int) un0 (jU.wrap ((q : Int) - 1)) (jU.wrap ((r : Int) + (Z : Int)))) = _;rw [e4, e5];by_cases hr2 : 4294967296 <= r + Z
   ·rw [xAQ (show ((r + Z : Nat) : Int) >= 4294967296 by omega), xMq hY hy0 hu hv h1' hl2 (xW5 hY hy0 hyn hu h1' hr2)]; rfl
   ·rw [xAH (show ¬ ((r + Z : Nat) : Int) >= 4294967296 by omega)];exact dl0 F hY hZ hZ2 hyn hv hu y1 s1 un0 k (q - 1) (r + Z) h1' (by omega) hl2 (by omega) (by omega)
theorem dl1 (F : Nat) {Z yn u v Y : Nat} (hY : Y = Z * 4294967296 + yn) (hZ : 2147483648 <= Z) (hZ2 : Z < 4294967296) (hyn : yn < 4294967296) (hv : v < 4294967296) (hu : u < Y) (y1 s1 q1 : Int) : ∀ (k q r : Nat), q * Z + r = u -> r < 4294967296 -> (u * 4294967296 + v) / Y <= q -> q <= 17179869184 -> 4294967296 <= r + k * 2147483648 ->
  xC0 F (k + 1) y1 s1 (Z : Int) (yn : Int) (v : Int) q1 (r : Int) (u : Int) (q : Int) = some (y1, s1, (v : Int), q1, (u : Int), (((u * 4294967296 + v) / Y : Nat) : Int))
 | 0, q, r, _, hr, _, _, hk => by omega
 | k + 1, q, r, h1, hr, h3, h4, hk => by
  have hy0 : 0 < Y := by omega
  rw [xC0, tst hr hv hyn];by_cases hc : q < 4294967296 /\ q * yn <= r * 4294967296 + v
  ·rw [if_pos hc, xMq hY hy0 hu hv h1 h3 hc]
  ·rw [if_neg hc];have hl := xRW hY hy0 hu hv h1 h3 hc;have hq1 : 1 <= q := Nat.lt_of_le_of_lt (Nat.zero_le _) hl;have hl2 : (u * 4294967296 + v) / Y <= q - 1 := Nat.le_sub_one_of_lt hl;have e4 : jU.wrap ((r : Int) + (Z : Int)) = ((r + Z : Nat) : Int) := wuN (by omega) (by omega);have e5 : jU.wrap ((q : Int) - 1) = ((q - 1 : Nat) : Int) := wuN (by omega) (by omega);have h1' : (q - 1) * Z + (r + Z) = u := by
    rw [<- h1, Nat.sub_mul, Nat.one_mul];have : Z <= q * Z := Nat.le_mul_of_pos_left Z (by omega);omega
   show (bif decide (jU.wrap ((r : Int) + (Z : Int)) >= 4294967296) then some (y1, s1, (v : Int), q1, (u : Int), jU.wrap ((q : Int) - 1)) else xC0 F (k + 1) y1 s1 (Z : Int) (yn : Int) (v : Int) q1 (jU.wrap ((r : Int) + (Z : Int))) (u : Int) (jU.wrap ((q : Int) - 1))) = _;rw [e4, e5];by_cases hr2 : 4294967296 <= r + Z
   ·rw [xAQ (show ((r + Z : Nat) : Int) >= 4294967296 by omega), xMq hY hy0 hu hv h1' hl2 (xW5 hY hy0 hyn hu h1' hr2)]; rfl
   ·rw [xAH (show ¬ ((r + Z : Nat) : Int) >= 4294967296 by omega)];exact dl1 F hY hZ hZ2 hyn hv hu y1 s1 q1 k (q - 1) (r + Z) h1' (by omega) hl2 (by omega) (by omega)
end U8
namespace U8
open Go.RowKit
noncomputable def dvC (F : Nat) (Y s Z yn u v1 v0 : Int) : Option (Int × Int) := (bif (!(Z == (0 : Int))) then (ob (xC1 F F Y s Z yn u v1 v0 (jU.wrap (Int.tdiv u Z)) (jU.wrap (u - (jU.wrap ((jU.wrap (Int.tdiv u Z)) * Z))))) (fun s4 => (bif (!(s4.2.2.1 == (0 : Int))) then (ob (xC0 F F s4.1 s4.2.1 s4.2.2.1 s4.2.2.2.1 s4.2.2.2.2.2.2.1 s4.2.2.2.2.2.2.2 (jU.wrap ((jU.wrap ((jU.wrap ((jU.wrap (s4.2.2.2.2.1 * (4294967296 : Int))) + s4.2.2.2.2.2.1)) - (jU.wrap (s4.2.2.2.2.2.2.2 * s4.1)))) - (jU.wrap ((jU.wrap (Int.tdiv (jU.wrap ((jU.wrap ((jU.wrap (s4.2.2.2.2.1 * (4294967296 : Int))) + s4.2.2.2.2.2.1)) - (jU.wrap (s4.2.2.2.2.2.2.2 * s4.1)))) s4.2.2.1)) * s4.2.2.1)))) (jU.wrap ((jU.wrap ((jU.wrap (s4.2.2.2.2.1 * (4294967296 : Int))) + s4.2.2.2.2.2.1)) - (jU.wrap (s4.2.2.2.2.2.2.2 * s4.1)))) (jU.wrap (Int.tdiv (jU.wrap ((jU.wrap ((jU.wrap (s4.2.2.2.2.1 * (4294967296 : Int))) + s4.2.2.2.2.2.1)) - (jU.wrap (s4.2.2.2.2.2.2.2 * s4.1)))) s4.2.2.1))) (fun s8 => (bif (decide ((0 : Int) <= s8.2.1)) then (some ((jU.wrap ((jU.wrap (s8.2.2.2.1 * (4294967296 : Int))) + s8.2.2.2.2.2)), (Int.fdiv (jU.wrap ((jU.wrap ((jU.wrap (s8.2.2.2.2.1 * (4294967296 : Int))) + s8.2.2.1)) - (jU.wrap (s8.2.2.2.2.2 * s8.1)))) ((2 : Int) ^ (Min.min s8.2.1.toNat 64))))) else none))) else none))) else none)
noncomputable def dvR (F : Nat) (hi lo y r : Int) : Option (Int × Int) := (bif (decide ((0 : Int) <= (jU.wrap r))) then (bif (decide ((0 : Int) <= (jU.wrap r))) then (bif (decide ((0 : Int) <= (jU.wrap ((64 : Int) - (jU.wrap r))))) then (bif (decide ((0 : Int) <= (jU.wrap r))) then (dvC F (jU.wrap (y * ((2 : Int) ^ (Min.min (jU.wrap r).toNat 64)))) (jU.wrap r) (Int.fdiv (jU.wrap (y * ((2 : Int) ^ (Min.min (jU.wrap r).toNat 64)))) (4294967296 : Int)) (jU.wrap ((BitVec.toNat ((BitVec.ofInt 64 (jU.wrap (y * ((2 : Int) ^ (Min.min (jU.wrap r).toNat 64))))) &&& (BitVec.ofInt 64 (4294967295 : Int)))) : Int)) (jU.wrap (((BitVec.toNat ((BitVec.ofInt 64 (jU.wrap (hi * ((2 : Int) ^ (Min.min (jU.wrap r).toNat 64))))) ||| (BitVec.ofInt 64 (Int.fdiv lo ((2 : Int) ^ (Min.min (jU.wrap ((64 : Int) - (jU.wrap r))).toNat 64)))))) : Nat) : Int)) (Int.fdiv (jU.wrap (lo * ((2 : Int) ^ (Min.min (jU.wrap r).toNat 64)))) (4294967296 : Int)) (jU.wrap ((BitVec.toNat ((BitVec.ofInt 64 (jU.wrap (lo * ((2 : Int) ^ (Min.min (jU.wrap r).toNat 64))))) &&& (BitVec.ofInt 64 (4294967295 : Int)))) : Int))) else none) else none) else none) else none)
theorem xOA (F : Nat) (hi lo y : Int) : xFh F hi lo y = (bif (y == (0 : Int)) then none else (bif (decide (y <= hi)) then none else (bif (hi == (0 : Int)) then (bif (!(y == (0 : Int))) then (bif (!(y == (0 : Int))) then (some ((jU.wrap (Int.tdiv lo y)), (Int.tmod lo y))) else none) else none) else (ob (xKU F y) (fun r => dvR F hi lo y r))))) := rfl
theorem subW {A u C D : Nat} (h : A + u = C + D) (hD : D < 18446744073709551616) : jU.wrap ((jU.wrap ((jU.wrap (A : Int)) + (u : Int))) - (jU.wrap (C : Int))) = (D : Int) := by
 rw [u64Z, u64Z, u64Z, u64Z];omega
theorem mulC (a : Nat) : (a : Int) * (4294967296 : Int) = ((a * 4294967296 : Nat) : Int) := (Int.natCast_mul a 4294967296).symm
section
variable {Z yn u v Y : Nat}
theorem est_le (hY : Y = Z * 4294967296 + yn) (hZ0 : 0 < Z) (hv : v < 4294967296) : (u * 4294967296 + v) / Y <= u / Z := by
 have hy0 : 0 < Y := by omega
 rw [Nat.le_div_iff_mul_le hZ0];have h1 : (u * 4294967296 + v) / Y * Y <= u * 4294967296 + v := Nat.div_mul_le_self _ _;have h2 : (u * 4294967296 + v) / Y * Y = (u * 4294967296 + v) / Y * Z * 4294967296 + (u * 4294967296 + v) / Y * yn := by
  generalize (u * 4294967296 + v) / Y = q;rw [hY, Nat.mul_add, Nat.mul_assoc]
 rw [h2] at h1;generalize (u * 4294967296 + v) / Y * Z = t at h1 ⊢;omega
theorem est_sm (hZ : 2147483648 <= Z) (hu : u < 18446744073709551616) : u / Z <= 17179869184 := by
 rcases Nat.lt_or_ge 17179869184 (u / Z) with h | h
 ·exfalso;have h1 : u / Z * Z <= u := Nat.div_mul_le_self _ _;have h2 : 17179869184 * 2147483648 <= u / Z * Z := Nat.mul_le_mul (by omega) hZ;omega
 ·exact h
theorem rem_wu (hZ0 : 0 < Z) (hu : u < 18446744073709551616) : jU.wrap (Int.tdiv (u : Int) (Z : Int)) = ((u / Z : Nat) : Int) /\ jU.wrap ((u : Int) - (jU.wrap (((u / Z : Nat) : Int) * (Z : Int)))) = ((u % Z : Nat) : Int) := by
 have h1 : u / Z * Z <= u := Nat.div_mul_le_self _ _;have h2 : u / Z <= u := Nat.div_le_self _ _;have h3 := Nat.div_add_mod u Z;rw [Nat.mul_comm] at h3;have h4 : u % Z <= u := Nat.mod_le _ _;refine ⟨?_, ?_⟩
 ·rw [show Int.tdiv (u : Int) (Z : Int) = ((u / Z : Nat) : Int) from rfl];exact xMK _ (by omega)
 ·rw [wuN (Int.natCast_mul (u / Z) Z).symm (by omega)];refine wuN ?_ (by omega);generalize u / Z * Z = t at *;omega
end
theorem dvG (F : Nat) (hF : 4 <= F) {Z yn u v1 v0 Y s : Nat} (hY : Y = Z * 4294967296 + yn) (hZ : 2147483648 <= Z) (hZ2 : Z < 4294967296) (hyn : yn < 4294967296) (hv1 : v1 < 4294967296) (hv0 : v0 < 4294967296) (hu : u < Y) :
  dvC F (Y : Int) (s : Int) (Z : Int) (yn : Int) (u : Int) (v1 : Int) (v0 : Int) = some (((((u * 4294967296 + v1) / Y * 4294967296 + ((u * 4294967296 + v1) % Y * 4294967296 + v0) / Y : Nat)) : Int), Int.fdiv ((((u * 4294967296 + v1) % Y * 4294967296 + v0) % Y : Nat) : Int) ((2 : Int) ^ (Min.min ((s : Int).toNat) 64))) := by
 obtain ⟨k, rfl⟩ : ∃ k, F = k + 1 := ⟨F - 1, by omega⟩;have hY6 : Y < 18446744073709551616 := by omega
 have hy0 : 0 < Y := by omega
 have hZ0 : 0 < Z := by omega
 have hz : ((Z : Int) == 0) = false := beq_eq_false_iff_ne.2 (by omega);obtain ⟨a1, a2⟩ := rem_wu (u := u) hZ0 (by omega);have m1 := Nat.mod_lt u hZ0;have d1 := Nat.div_add_mod u Z;rw [Nat.mul_comm] at d1;have L0 := dl0 (k + 1) hY hZ hZ2 hyn hv1 hu (Y : Int) (s : Int) (v0 : Int) k (u / Z) (u % Z) d1 (by omega) (est_le hY hZ0 hv1) (est_sm hZ (by omega)) (by omega);have q1l := xW4 hu hv1;have e1 := Nat.div_add_mod (u * 4294967296 + v1) Y;rw [Nat.mul_comm] at e1;have u2l := Nat.mod_lt (u * 4294967296 + v1) hy0;obtain ⟨q1, hq1⟩ : ∃ q, q = (u * 4294967296 + v1) / Y := ⟨_, rfl⟩;obtain ⟨u2, hu2⟩ : ∃ q, q = (u * 4294967296 + v1) % Y := ⟨_, rfl⟩;rw [<- hq1] at L0 q1l e1 ⊢;rw [<- hu2] at e1 u2l ⊢;have W : jU.wrap ((jU.wrap ((jU.wrap ((u : Int) * (4294967296 : Int))) + (v1 : Int))) - (jU.wrap ((q1 : Int) * (Y : Int)))) = (u2 : Int) := by
  rw [mulC, Mul64.mulN];exact subW (by omega) (by omega)
 obtain ⟨b1, b2⟩ := rem_wu (u := u2) hZ0 (by omega);have m2 := Nat.mod_lt u2 hZ0;have d2 := Nat.div_add_mod u2 Z;rw [Nat.mul_comm] at d2;have L1 := dl1 (k + 1) hY hZ hZ2 hyn hv0 u2l (Y : Int) (s : Int) (q1 : Int) k (u2 / Z) (u2 % Z) d2 (by omega) (est_le hY hZ0 hv0) (est_sm hZ (by omega)) (by omega);have q0l := xW4 u2l hv0;have e0 := Nat.div_add_mod (u2 * 4294967296 + v0) Y;rw [Nat.mul_comm] at e0;have r0l := Nat.mod_lt (u2 * 4294967296 + v0) hy0;obtain ⟨q0, hq0⟩ : ∃ q, q = (u2 * 4294967296 + v0) / Y := ⟨_, rfl⟩;obtain ⟨r0, hr0⟩ : ∃ q, q = (u2 * 4294967296 + v0) % Y := ⟨_, rfl⟩;rw [<- hq0] at L1 q0l e0 ⊢;rw [<- hr0] at e0 r0l ⊢;have W2 : jU.wrap ((jU.wrap ((jU.wrap ((u2 : Int) * (4294967296 : Int))) + (v0 : Int))) - (jU.wrap ((q0 : Int) * (Y : Int)))) = (r0 : Int) := by
  rw [mulC, Mul64.mulN];exact subW (by omega) (by omega)
 unfold dvC;rw [hz, a1];rw [a2, L0];simp only [ob, Bool.not_false, cond_true, hz];rw [W, b1];rw [b2, L1];simp only [ob];rw [W2, xAQ (show (0 : Int) <= (s : Int) by omega), cond_true, mulC, xMK (q1 * 4294967296) (by omega), wuN (show ((q1 * 4294967296 : Nat) : Int) + (q0 : Int) = ((q1 * 4294967296 + q0 : Nat) : Int) by omega) (by omega)]
end U8
namespace U8
open Go.RowKit
theorem school {A v Y : Nat} (hY : 0 < Y) : A / Y * 4294967296 + (A % Y * 4294967296 + v) / Y = (A * 4294967296 + v) / Y /\ (A % Y * 4294967296 + v) % Y = (A * 4294967296 + v) % Y := by
 have h := Nat.div_add_mod A Y;have e : A * 4294967296 + v = Y * (A / Y * 4294967296) + (A % Y * 4294967296 + v) := by
  rw [<- Nat.mul_assoc];obtain ⟨t, ht⟩ : ∃ t, t = Y * (A / Y) := ⟨_, rfl⟩;rw [<- ht] at h ⊢;omega
 rw [e, Nat.mul_add_div hY, Nat.mul_add_mod];exact ⟨rfl, rfl⟩
theorem xWY (F : Nat) (hF : 4 <= F) (hi lo y : Nat) (h1 : 1 <= hi) (h2 : hi < y) (h3 : y < 18446744073709551616) (h4 : lo < 18446744073709551616) :
  xFh F hi lo y = some ((((hi * 18446744073709551616 + lo) / y : Nat) : Int), (((hi * 18446744073709551616 + lo) % y : Nat) : Int)) := by
 obtain ⟨L, l1, l2, l3, l4, l5⟩ := xVO F y (by omega) h3;obtain ⟨B, hB⟩ : ∃ B, B = 2 ^ L := ⟨_, rfl⟩;obtain ⟨C, hC⟩ : ∃ C, C = 2 ^ (L - 1) := ⟨_, rfl⟩;obtain ⟨P, hPd⟩ : ∃ P, P = 2 ^ (64 - L) := ⟨_, rfl⟩;have hB0 : 0 < B := by rw [hB]; exact Nat.two_pow_pos _
 have hP0 : 0 < P := by rw [hPd]; exact Nat.two_pow_pos _
 have hPB : P * B = 18446744073709551616 := by rw [hPd, hB, <- Nat.pow_add, show 64 - L + L = 64 by omega]
 have hPC : C * P = 9223372036854775808 := by rw [hPd, hC, <- Nat.pow_add, show L - 1 + (64 - L) = 63 by omega]
 rw [<- hB] at l4;rw [<- hC] at l5;have hyP : y * P < 18446744073709551616 := by
  rw [<- hPB, Nat.mul_comm P B];exact Nat.mul_lt_mul_of_pos_right l4 hP0
 have hyP2 : 9223372036854775808 <= y * P := by rw [<- hPC]; exact Nat.mul_le_mul_right P l5
 have hhP : hi * P < 18446744073709551616 := Nat.lt_of_le_of_lt (Nat.mul_le_mul_right P (by omega : hi <= y)) hyP;have hlB : lo / B < P := (Nat.div_lt_iff_lt_mul hB0).2 (by omega);have hlo := Nat.div_add_mod lo B;have hmB : lo % B < B := Nat.mod_lt _ hB0;have hX : lo % B * P < 18446744073709551616 := by
  rw [<- hPB, Nat.mul_comm P B];exact Nat.mul_lt_mul_of_pos_right hmB hP0
 have hloP : lo * P = 18446744073709551616 * (lo / B) + lo % B * P := by
  have a1 : lo * P = (B * (lo / B) + lo % B) * P := by rw [hlo]
  rw [a1, Nat.add_mul, Nat.mul_right_comm B, Nat.mul_comm B P, hPB]
 have hlP : lo * P % 18446744073709551616 = lo % B * P := by rw [hloP]; omega
 obtain ⟨X, hXd⟩ : ∃ X, X = lo % B * P := ⟨_, rfl⟩;rw [<- hXd] at hX hloP hlP;have hu : hi * P + lo / B < y * P := by
  have : (hi + 1) * P <= y * P := Nat.mul_le_mul_right P (by omega);rw [Nat.add_mul] at this;omega
 have hN : (hi * 18446744073709551616 + lo) * P = ((hi * P + lo / B) * 4294967296 + X / 4294967296) * 4294967296 + X % 4294967296 := by
  rw [Nat.add_mul, hloP, Nat.mul_right_comm];generalize hi * P = t;generalize lo / B = t2;omega
 obtain ⟨Y, hYd⟩ : ∃ Y, Y = y * P := ⟨_, rfl⟩;rw [<- hYd] at hyP hyP2 hu;obtain ⟨U, hUd⟩ : ∃ U, U = hi * P + lo / B := ⟨_, rfl⟩;rw [<- hUd] at hu hN;have key := dvG F hF (Z := Y / 4294967296) (yn := Y % 4294967296) (u := U) (v1 := X / 4294967296) (v0 := X % 4294967296) (Y := Y) (s := 64 - L) (by omega) (by omega) (by omega) (by omega) (by omega) (by omega) hu;obtain ⟨s1, s2⟩ := school (A := U * 4294967296 + X / 4294967296) (v := X % 4294967296) (Y := Y) (by omega);rw [s1, s2, <- hN] at key;have q1 : (hi * 18446744073709551616 + lo) * P / Y = (hi * 18446744073709551616 + lo) / y := by rw [hYd]; exact Nat.mul_div_mul_right _ _ hP0
 have q2 : (hi * 18446744073709551616 + lo) * P % Y = (hi * 18446744073709551616 + lo) % y * P := by rw [hYd]; exact Nat.mul_mod_mul_right _ _ _
 rw [q1, q2, Int.toNat_natCast, Nat.min_eq_left (by omega), show (2 : Int) ^ (64 - L) = ((P : Nat) : Int) by rw [hPd]; exact (Int.natCast_pow 2 _).symm, fdC _ _ hP0, Nat.mul_div_cancel _ hP0] at key;have ey : jU.wrap ((y : Int) * (P : Int)) = (Y : Int) := by rw [Mul64.mulN, <- hYd]; exact xMK _ hyP
 have eh : jU.wrap ((hi : Int) * (P : Int)) = ((hi * P : Nat) : Int) := by rw [Mul64.mulN]; exact xMK _ hhP
 have el : jU.wrap ((lo : Int) * (P : Int)) = (X : Int) := by rw [Mul64.mulN, Mul64.wrapM, hlP]
 have ez : Int.fdiv (Y : Int) 4294967296 = ((Y / 4294967296 : Nat) : Int) := fdN Y;have en : jU.wrap ((BitVec.toNat ((BitVec.ofInt 64 (Y : Int)) &&& (BitVec.ofInt 64 (4294967295 : Int))) : Nat) : Int) = ((Y % 4294967296 : Nat) : Int) := mkN _ hyP;have ev1 : Int.fdiv (X : Int) 4294967296 = ((X / 4294967296 : Nat) : Int) := fdN X;have ev0 : jU.wrap ((BitVec.toNat ((BitVec.ofInt 64 (X : Int)) &&& (BitVec.ofInt 64 (4294967295 : Int))) : Nat) : Int) = ((X % 4294967296 : Nat) : Int) := mkN _ hX;have elb : Int.fdiv (lo : Int) (B : Int) = ((lo / B : Nat) : Int) := fdC lo B hB0;have eu : jU.wrap (((BitVec.toNat ((BitVec.ofInt 64 ((hi * P : Nat) : Int)) ||| (BitVec.ofInt 64 ((lo / B : Nat) : Int)))) : Nat) : Int) = (U : Int) := by
  rw [hUd, hPd];exact orN hi (lo / B) (64 - L) (by rw [<- hPd]; exact hhP) (by rw [<- hPd]; exact hlB) (Nat.lt_of_le_of_lt (Nat.div_le_self lo B) h4)
 rw [xOA, show ((y : Int) == 0) = false from beq_eq_false_iff_ne.2 (by omega), xAH (show ¬ (y : Int) <= (hi : Int) by omega), show ((hi : Int) == 0) = false from beq_eq_false_iff_ne.2 (by omega)];have elz : xKU F (y : Int) = some ((64 - L : Nat) : Int) := by
  unfold xKU;rw [l1];show some (jI.wrap (64 - (L : Int))) = _;rw [w64 _ (by omega)];congr 1;omega
 rw [elz];change dvR F (hi : Int) (lo : Int) (y : Int) ((64 - L : Nat) : Int) = _;have es : jU.wrap ((64 - L : Nat) : Int) = ((64 - L : Nat) : Int) := xMK _ (by omega);have es2 : jU.wrap ((64 : Int) - ((64 - L : Nat) : Int)) = ((L : Nat) : Int) := by rw [u64Z]; omega
 unfold dvR;rw [es, es2, xAQ (by omega), xAQ (show (0 : Int) <= ((L : Nat) : Int) by omega)];simp only [cond_true, Int.toNat_natCast, Nat.min_eq_left (show 64 - L <= 64 by omega), Nat.min_eq_left (show L <= 64 by omega)];rw [show (2 : Int) ^ (64 - L) = ((P : Nat) : Int) by rw [hPd]; exact (Int.natCast_pow 2 (64 - L)).symm, show (2 : Int) ^ L = ((B : Nat) : Int) by rw [hB]; exact (Int.natCast_pow 2 L).symm];rw [ey, eh, el, ez, en, ev1, ev0, elb, eu];exact key
end U8
end Go.Proofs.YtnomnijhlbalaaaGreatDoor
