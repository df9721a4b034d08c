/- Plain laws of chapter 10, on: at which limit a wafer fails, its grade. No condition. -/
import Derived.Test.YtbnapejkjaddoaaDoorWLP10c
namespace Go.Proofs.YtbnapejkjaddoaaDoor
open Go.RowKit
set_option maxRecDepth 100000
def bit1 (a : Int) (k : Nat) : Bool := (IntKind.wrap IntKind.u8 ((BitVec.toNat ((BitVec.ofInt 8 (Int.fdiv a ((2 : Int) ^ (Min.min k 8)))) &&& (BitVec.ofInt 8 (1 : Int)))) : Int)) == (1 : Int)
def bit0 (a : Int) (k : Nat) : Bool := (IntKind.wrap IntKind.u8 ((BitVec.toNat ((BitVec.ofInt 8 (Int.fdiv a ((2 : Int) ^ (Min.min k 8)))) &&& (BitVec.ofInt 8 (1 : Int)))) : Int)) == (0 : Int)
def fltB (s w : Int) : Bool := (IntKind.wrap IntKind.u8 ((BitVec.toNat ((BitVec.ofInt 8 w) &&& (Complement.complement (BitVec.ofInt 8 s)))) : Int)) != (0 : Int)
def nevB (s w : Int) : Bool := (IntKind.wrap IntKind.u8 ((BitVec.toNat ((BitVec.ofInt 8 w) &&& (BitVec.ofInt 8 s))) : Int)) == (0 : Int)
def atB (s w : Int) : Bool := (bit1 w 0 && bit0 s 0) || ((bit1 w 1 && bit0 s 1) || ((bit1 w 2 && bit0 s 2) || ((bit1 w 3 && bit0 s 3) || (bit1 w 4 && bit0 s 4))))
def grB (s w : Int) : Bool := (bit1 w 0 && bit1 s 0) || ((bit1 w 1 && bit1 s 1) || ((bit1 w 2 && bit1 s 2) || ((bit1 w 3 && bit1 s 3) || (bit1 w 4 && bit1 s 4))))
theorem bits_all : ∀ a < 32, ∀ b < 32, (fltB ((a : Nat) : Int) ((b : Nat) : Int) = atB ((a : Nat) : Int) ((b : Nat) : Int)) ∧ (nevB ((a : Nat) : Int) ((b : Nat) : Int) = !grB ((a : Nat) : Int) ((b : Nat) : Int)) := by decide +kernel
theorem bits {s w : Int} (hs : 0 ≤ s ∧ s ≤ 31) (hw : 0 ≤ w ∧ w ≤ 31) : fltB s w = atB s w ∧ nevB s w = !grB s w := by
  have := bits_all s.toNat (by omega) w.toNat (by omega)
  rwa [Int.toNat_of_nonneg hs.1, Int.toNat_of_nonneg hw.1] at this
theorem u64k (k : Nat) (h : k < 10) : IntKind.wrap IntKind.u64 (k : Int) = (k : Int) := by rw [IntKind.wrap_u64]; omega
theorem i64k (k : Nat) (h : k < 10) : IntKind.wrap IntKind.i64 ((k : Int) + (1 : Int)) = ((k + 1 : Nat) : Int) := by rw [w64 _ (by omega)]; omega
theorem at_step (F n k : Nat) (s : SpT) (w : WfT) (hk : k < 5) : rAt_L0 F s w (n + 1) (k : Int) = bif bit1 w.2.1 k && bit0 s.2 k then some (.inl 6) else rAt_L0 F s w n ((k + 1 : Nat) : Int) := by
  show (bif decide ((k : Int) < 5) then (bif (decide ((0 : Int) ≤ (IntKind.wrap IntKind.u64 (k : Int)))) then (bif bit1 w.2.1 (IntKind.wrap IntKind.u64 (k : Int)).toNat then (bif (decide ((0 : Int) ≤ (IntKind.wrap IntKind.u64 (k : Int)))) then (bif bit0 s.2 (IntKind.wrap IntKind.u64 (k : Int)).toNat then (some (.inl (6 : Int))) else (rAt_L0 F s w n (IntKind.wrap IntKind.i64 (k + (1 : Int))))) else none) else (rAt_L0 F s w n (IntKind.wrap IntKind.i64 (k + (1 : Int))))) else none) else (some (.inr ()))) = _
  rw [u64k k (by omega), i64k k (by omega), Int.toNat_natCast, show decide ((k : Int) < 5) = true from decide_eq_true (by omega), show decide ((0 : Int) ≤ (k : Int)) = true from decide_eq_true (by omega)]
  cases bit1 w.2.1 k <;> cases bit0 s.2 k <;> rfl
theorem gr_step (F n k : Nat) (s : SpT) (w : WfT) (hk : k < 5) : rGrade_L0 F s w (n + 1) (k : Int) = bif bit1 w.2.1 k && bit1 s.2 k then some (.inl 2) else rGrade_L0 F s w n ((k + 1 : Nat) : Int) := by
  show (bif decide ((k : Int) < 5) then (bif (decide ((0 : Int) ≤ (IntKind.wrap IntKind.u64 (k : Int)))) then (bif bit1 w.2.1 (IntKind.wrap IntKind.u64 (k : Int)).toNat then (bif (decide ((0 : Int) ≤ (IntKind.wrap IntKind.u64 (k : Int)))) then (bif bit1 s.2 (IntKind.wrap IntKind.u64 (k : Int)).toNat then (some (.inl (2 : Int))) else (rGrade_L0 F s w n (IntKind.wrap IntKind.i64 (k + (1 : Int))))) else none) else (rGrade_L0 F s w n (IntKind.wrap IntKind.i64 (k + (1 : Int))))) else none) else (some (.inr ()))) = _
  rw [u64k k (by omega), i64k k (by omega), Int.toNat_natCast, show decide ((k : Int) < 5) = true from decide_eq_true (by omega), show decide ((0 : Int) ≤ (k : Int)) = true from decide_eq_true (by omega)]
  cases bit1 w.2.1 k <;> cases bit1 s.2 k <;> rfl
theorem at_end (F n : Nat) (s : SpT) (w : WfT) : rAt_L0 F s w (n + 1) ((5 : Nat) : Int) = some (.inr ()) := rfl
theorem gr_end (F n : Nat) (s : SpT) (w : WfT) : rGrade_L0 F s w (n + 1) ((5 : Nat) : Int) = some (.inr ()) := rfl
theorem at_all (F n : Nat) (s : SpT) (w : WfT) : rAt_L0 F s w (n + 6) 0 = bif atB s.2 w.2.1 then some (.inl 6) else some (.inr ()) := by
  have e : ∀ m, rAt_L0 F s w m 0 = rAt_L0 F s w m ((0 : Nat) : Int) := fun _ => rfl
  rw [e, at_step F (n + 5) 0 s w (by omega), at_step F (n + 4) 1 s w (by omega), at_step F (n + 3) 2 s w (by omega), at_step F (n + 2) 3 s w (by omega), at_step F (n + 1) 4 s w (by omega), at_end]
  unfold atB
  generalize (bit1 w.2.1 0 && bit0 s.2 0) = a; generalize (bit1 w.2.1 1 && bit0 s.2 1) = b; generalize (bit1 w.2.1 2 && bit0 s.2 2) = c; generalize (bit1 w.2.1 3 && bit0 s.2 3) = d; generalize (bit1 w.2.1 4 && bit0 s.2 4) = e
  cases a <;> cases b <;> cases c <;> cases d <;> cases e <;> rfl
theorem gr_all (F n : Nat) (s : SpT) (w : WfT) : rGrade_L0 F s w (n + 6) 0 = bif grB s.2 w.2.1 then some (.inl 2) else some (.inr ()) := by
  have e : ∀ m, rGrade_L0 F s w m 0 = rGrade_L0 F s w m ((0 : Nat) : Int) := fun _ => rfl
  rw [e, gr_step F (n + 5) 0 s w (by omega), gr_step F (n + 4) 1 s w (by omega), gr_step F (n + 3) 2 s w (by omega), gr_step F (n + 2) 3 s w (by omega), gr_step F (n + 1) 4 s w (by omega), gr_end]
  unfold grB
  generalize (bit1 w.2.1 0 && bit1 s.2 0) = a; generalize (bit1 w.2.1 1 && bit1 s.2 1) = b; generalize (bit1 w.2.1 2 && bit1 s.2 2) = c; generalize (bit1 w.2.1 3 && bit1 s.2 3) = d; generalize (bit1 w.2.1 4 && bit1 s.2 4) = e
  cases a <;> cases b <;> cases c <;> cases d <;> cases e <;> rfl
/-- The first property of which some value lies outside. -/
def outB (s w : RgT) : Bool := decide (w.1 < s.1) || decide (w.2 > s.2)
def fltI (s : SpT) (w : WfT) : Int :=
  bif outB s.1.1 w.1.1 then 0 else bif outB s.1.2.1 w.1.2.1 then 1 else bif outB s.1.2.2.1 w.1.2.2.1 then 2 else bif outB s.1.2.2.2.1 w.1.2.2.2.1 then 3 else bif outB s.1.2.2.2.2.1 w.1.2.2.2.2.1 then 4 else bif outB s.1.2.2.2.2.2 w.1.2.2.2.2.2 then 5 else bif fltB s.2 w.2.1 then 6 else (-1 : Int)
theorem b2 {α : Type} (a b : Bool) (x y : α) : (bif a then x else bif b then x else y) = bif (a || b) then x else y := by cases a <;> cases b <;> rfl
theorem bs {α : Type} (a : Bool) (x y : α) : (bif a then some x else some y) = some (bif a then x else y) := by cases a <;> rfl
theorem fault_eq (F : Nat) (s : SpT) (w : WfT) : fault_S F s w = some (fltI s w) := by
  unfold fault_S fltI
  simp only [b2, bs]
  rfl
theorem rAt_eq (F n : Nat) (hn : F = n + 6) (s : SpT) (w : WfT) (hs : 0 ≤ s.2 ∧ s.2 ≤ 31) (hw : 0 ≤ w.2.1 ∧ w.2.1 ≤ 31) : rAt_S F s w = some (fltI s w) := by
  unfold rAt_S fltI
  rw [(bits hs hw).1]
  have : rAt_L0 F s w F 0 = bif atB s.2 w.2.1 then some (.inl 6) else some (.inr ()) := by
    conv => lhs; arg 4; rw [hn]
    exact at_all F n s w
  rw [this]
  cases atB s.2 w.2.1 <;> (simp only [b2, cond_true, cond_false, ob, su, bs]; rfl)
/-- Whether some range has no value within the limits. -/
def apB (s w : RgT) : Bool := decide (w.2 < s.1) || decide (w.1 > s.2)
def nevL (s w : LmT) : Bool := apB s.1 w.1 || (apB s.2.1 w.2.1 || (apB s.2.2.1 w.2.2.1 || (apB s.2.2.2.1 w.2.2.2.1 || (apB s.2.2.2.2.1 w.2.2.2.2.1 || apB s.2.2.2.2.2 w.2.2.2.2.2))))
theorem ct (x y : Bool) : (bif x then true else y) = (x || y) := by cases x <;> rfl
theorem never_eq (F : Nat) (s : SpT) (w : WfT) : never_S F s w = some (nevL s.1 w.1 || nevB s.2 w.2.1) := by
  unfold never_S nevL apB
  simp only [b2, bs, ct, Bool.or_assoc]
  rfl
theorem ap_max {s w : RgT} (hs : okR s = true) (hw : okR w = true) : decide ((if s.1 > w.1 then s.1 else w.1) > (if s.2 < w.2 then s.2 else w.2)) = apB s w := by
  unfold okR at hs hw
  unfold apB
  simp only [Bool.and_eq_true, Bool.not_eq_true', decide_eq_false_iff_not] at hs hw
  rw [Bool.eq_iff_iff]
  simp only [Bool.or_eq_true, decide_eq_true_eq]
  split <;> split <;> omega
def grI (s : SpT) (w : WfT) : Int := bif fltI s w == (-1 : Int) then 1 else bif nevL s.1 w.1 || nevB s.2 w.2.1 then 3 else 2
theorem rGrade_eq (F n : Nat) (hn : F = n + 6) (s : SpT) (w : WfT) (hs : 0 ≤ s.2 ∧ s.2 ≤ 31) (hw : 0 ≤ w.2.1 ∧ w.2.1 ≤ 31) (hS : rgB s.1 = true) (hW : rgB w.1 = true) : rGrade_S F s w = some (grI s w) := by
  unfold rGrade_S grI nevL
  rw [rAt_eq F n hn s w hs hw, (bits hs hw).2]
  have : rGrade_L0 F s w F 0 = bif grB s.2 w.2.1 then some (.inl 2) else some (.inr ()) := by
    conv => lhs; arg 4; rw [hn]
    exact gr_all F n s w
  rw [this]
  unfold rgB at hS hW
  simp only [Bool.and_eq_true] at hS hW
  obtain ⟨s1, s2, s3, s4, s5, s6⟩ := hS
  obtain ⟨w1, w2, w3, w4, w5, w6⟩ := hW
  simp only [ob]
  rw [ap_max s1 w1, ap_max s2 w2, ap_max s3 w3, ap_max s4 w4, ap_max s5 w5, ap_max s6 w6]
  generalize apB s.1.1 w.1.1 = a; generalize apB s.1.2.1 w.1.2.1 = b; generalize apB s.1.2.2.1 w.1.2.2.1 = c; generalize apB s.1.2.2.2.1 w.1.2.2.2.1 = d; generalize apB s.1.2.2.2.2.1 w.1.2.2.2.2.1 = e; generalize apB s.1.2.2.2.2.2 w.1.2.2.2.2.2 = f
  generalize (fltI s w == (-1 : Int)) = g
  generalize grB s.2 w.2.1 = q
  cases g <;> cases a <;> cases b <;> cases c <;> cases d <;> cases e <;> cases f <;> cases q <;> rfl
end Go.Proofs.YtbnapejkjaddoaaDoor
