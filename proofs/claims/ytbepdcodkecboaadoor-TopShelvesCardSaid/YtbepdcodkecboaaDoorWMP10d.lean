/- Plain laws of chapter 10: the code's answers on one wafer and one specification are the document's. No condition. -/
import Derived.Test.YtbepdcodkecboaaDoorWXB9
import Derived.Test.YtbepdcodkecboaaDoorWYF
import Derived.Laws.Strings
import Derived.Lib.SlTrimSet

namespace Go.Proofs.YtbepdcodkecboaaDoor
open Go.RowKit
set_option maxRecDepth 100000
abbrev RgT := Int × Int
abbrev LmT := RgT × (RgT × (RgT × (RgT × (RgT × RgT))))
abbrev GgT := ByteArray × (ByteArray × (ByteArray × (ByteArray × (ByteArray × ByteArray))))
abbrev SpT := LmT × Int
abbrev WfT := LmT × (Int × GgT)
theorem b3 (a b c : Bool) (x : Option Bool) : (bif a then some false else bif b then some false else bif c then some false else x) = bif (!a && (!b && !c)) then x else some false := by cases a <;> cases b <;> cases c <;> rfl
def okR (r : RgT) : Bool := !(decide (r.1 < (-1000000000000000 : Int))) && (!(decide (r.1 > r.2)) && !(decide (r.2 > (1000000000000000 : Int))))
def rgB (l : LmT) : Bool := okR l.1 && (okR l.2.1 && (okR l.2.2.1 && (okR l.2.2.2.1 && (okR l.2.2.2.2.1 && okR l.2.2.2.2.2))))
theorem areR1 (F : Nat) (r : RgT) : areRanges1_S F r = some (!okR r) := by
  unfold areRanges1_S okR
  generalize decide (r.1 < (-1000000000000000 : Int)) = a
  generalize decide (r.1 > r.2) = b
  generalize decide (r.2 > (1000000000000000 : Int)) = c
  cases a <;> cases b <;> cases c <;> rfl
theorem areR (F : Nat) (l : LmT) : areRanges_S F l = some (rgB l) := by
  unfold areRanges_S rgB
  simp only [areR1, ob_some]
  generalize okR l.1 = a; generalize okR l.2.1 = b; generalize okR l.2.2.1 = c; generalize okR l.2.2.2.1 = d; generalize okR l.2.2.2.2.1 = e; generalize okR l.2.2.2.2.2 = f
  cases a <;> cases b <;> cases c <;> cases d <;> cases e <;> cases f <;> rfl
def spB (s : SpT) : Bool := rgB s.1 && decide (s.2 ≤ (31 : Int))
theorem isSp (F : Nat) (s : SpT) : isSpec_S F s = some (spB s) := by
  unfold isSpec_S spB; rw [areR]; cases rgB s.1 <;> rfl
theorem with_S (F : Nat) (n a b : Int) : within_S F n a b = some (decide (n ≥ a) && decide (n ≤ b)) := by
  unfold within_S; cases decide (n ≥ a) <;> rfl
/-! Names of gauges -/
def ltr (n : Int) : Bool := decide (n ≥ (97 : Int)) && decide (n ≤ (122 : Int))
def okC (n : Int) : Bool := ltr n || (!(n != (95 : Int)) || (!(decide (n < (48 : Int))) && !(decide (n > (57 : Int)))))
def gB (s : ByteArray) : Bool := (decide ((s.size : Int) ≥ 1) && decide ((s.size : Int) ≤ 20)) && (ltr (bAt s 0) && s.data.toList.all (fun b => okC (b.toNat : Int)))
abbrev csG : ByteArray := ByteArray.mk (Array.mk (97 :: (98 :: (99 :: (100 :: (101 :: (102 :: (103 :: (104 :: (105 :: (106 :: (107 :: (108 :: (109 :: (110 :: (111 :: (112 :: (113 :: (114 :: (115 :: (116 :: (117 :: (118 :: (119 :: (120 :: (121 :: (122 :: (48 :: (49 :: (50 :: (51 :: (52 :: (53 :: (54 :: (55 :: (56 :: (57 :: (95 :: []))))))))))))))))))))))))))))))))))))))
theorem cs_ok (b : UInt8) : csG.data.toList.contains b = okC (b.toNat : Int) := by
  have h : ∀ n : _root_.Fin 256, csG.data.toList.contains (UInt8.ofNat n.val) = okC (n.val : Int) := by decide +kernel
  have := h ⟨b.toNat, UInt8.toNat_lt b⟩
  simpa using this
theorem dw_nil {p : UInt8 → Bool} : ∀ (m : List UInt8), (∀ x ∈ m, p x = true) → m.dropWhile p = []
  | [], _ => rfl
  | x :: m, h => by
    rw [List.dropWhile_cons, if_pos (h x (by simp))]
    exact dw_nil m (fun y hy => h y (by simp [hy]))
theorem dw_mem {p : UInt8 → Bool} {x : UInt8} (hc : p x = false) : ∀ (m : List UInt8), x ∈ m → x ∈ m.dropWhile p
  | y :: m, h => by
    rw [List.dropWhile_cons]
    split
    · rename_i hy
      rcases List.mem_cons.1 h with rfl | h'
      · rw [hc] at hy; cases hy
      · exact dw_mem hc m h'
    · exact h
theorem trim_nil (l cs : List UInt8) : (Lib.trimS l cs == []) = l.all (cs.contains ·) := by
  unfold Lib.trimS Lib.trimLeftS Lib.trimRightS
  cases h : l.all (cs.contains ·) with
  | true =>
    have h0 : l.reverse.dropWhile (cs.contains ·) = [] := dw_nil _ (fun x hx => List.all_eq_true.1 h x (List.mem_reverse.1 hx))
    rw [h0]; rfl
  | false =>
    have h1 : ∃ x ∈ l, cs.contains x = false := by
      have := List.all_eq_false.1 h
      obtain ⟨x, hx, hc⟩ := this
      exact ⟨x, hx, by simpa using hc⟩
    obtain ⟨x, hx, hc⟩ := h1
    have h2 : ∀ (m : List UInt8), x ∈ m → x ∈ m.dropWhile (cs.contains ·) := dw_mem hc
    have h3 : x ∈ (l.reverse.dropWhile (cs.contains ·)).reverse.dropWhile (cs.contains ·) := h2 _ (List.mem_reverse.2 (h2 _ (List.mem_reverse.2 hx)))
    generalize (l.reverse.dropWhile (cs.contains ·)).reverse.dropWhile (cs.contains ·) = r at h3 ⊢
    cases r with
    | nil => cases h3
    | cons y r => rfl
theorem trimE (F : Nat) (s : ByteArray) (hs : s.size ≤ 1000000) : trim_S F s csG = some ⟨(Lib.trimS s.data.toList csG.data.toList).toArray⟩ := by
  unfold trim_S
  rw [show asciiB csG = true by decide +kernel, show decide (s.size ≤ 1000000) = true by simpa using hs, show decide (csG.size ≤ 1000000) = true by decide +kernel]
  rfl
theorem isGa (F : Nat) (s : ByteArray) (hs : s.size ≤ 1000000) : isGauge_S F s = some (gB s) := by
  unfold isGauge_S gB
  rw [with_S]
  change (bif decide ((s.size : Int) ≥ 1) && decide ((s.size : Int) ≤ 20) then _ else some false) = _
  cases h : (decide ((s.size : Int) ≥ 1) && decide ((s.size : Int) ≤ 20)) with
  | false => rfl
  | true =>
    simp only [Bool.and_eq_true, decide_eq_true_eq] at h
    have h0 : inB (0 : Int) s.size = true := by
      unfold inB
      simp only [Bool.and_eq_true, decide_eq_true_eq]
      omega
    rw [h0]
    change (bif decide (bAt s 0 ≥ 97) then (bif decide (bAt s 0 ≤ 122) then ob (trim_S F s csG) (fun r1 => some (ByteArray.toList r1 == ByteArray.toList ⟨#[]⟩)) else some false) else some false) = _
    rw [trimE F s hs]
    change (bif decide (bAt s 0 ≥ 97) then (bif decide (bAt s 0 ≤ 122) then (some (ByteArray.toList ⟨(Lib.trimS s.data.toList csG.data.toList).toArray⟩ == ByteArray.toList ⟨([] : List UInt8).toArray⟩)) else some false) else some false) = _
    rw [ByteArray.toList_mk, ByteArray.toList_mk, trim_nil]
    rw [show s.data.toList.all (csG.data.toList.contains ·) = s.data.toList.all (fun b => okC (b.toNat : Int)) from by congr 1; funext b; exact cs_ok b]
    unfold ltr
    cases decide (bAt s 0 ≥ 97) <;> cases decide (bAt s 0 ≤ 122) <;> rfl
end Go.Proofs.YtbepdcodkecboaaDoor


namespace Go.Proofs.YtbepdcodkecboaaDoor
open Go.RowKit
set_option maxRecDepth 100000
theorem w64 (n : Int) (h : -9223372036854775808 ≤ n ∧ n ≤ 9223372036854775807) : IntKind.i64.wrap n = n := by rw [IntKind.wrap_i64]; omega
end Go.Proofs.YtbepdcodkecboaaDoor


namespace Go.Proofs.YtbepdcodkecboaaDoor
open Go.RowKit
set_option maxRecDepth 100000
def wfB (w : WfT) : Bool := rgB w.1 && ((decide (w.2.1 ≥ (1 : Int)) && decide (w.2.1 ≤ (31 : Int))) && (gB w.2.2.1 && (gB w.2.2.2.1 && (gB w.2.2.2.2.1 && (gB w.2.2.2.2.2.1 && (gB w.2.2.2.2.2.2.1 && gB w.2.2.2.2.2.2.2))))))
theorem isWf1 (F : Nat) (s : ByteArray) (hs : s.size ≤ 1000000) : isWafer1_S F s = some (!gB s) := by
  unfold isWafer1_S; rw [isGa F s hs]
/-- No text is long. -/
def shortW (w : WfT) : Prop := w.2.2.1.size ≤ 40 ∧ w.2.2.2.1.size ≤ 40 ∧ w.2.2.2.2.1.size ≤ 40 ∧ w.2.2.2.2.2.1.size ≤ 40 ∧ w.2.2.2.2.2.2.1.size ≤ 40 ∧ w.2.2.2.2.2.2.2.size ≤ 40
theorem isWf (F : Nat) (w : WfT) (hu : 0 ≤ w.2.1 ∧ w.2.1 ≤ 255) (hs : shortW w) : isWafer_S F w = some (wfB w) := by
  unfold isWafer_S wfB
  obtain ⟨h1, h2, h3, h4, h5, h6⟩ := hs
  rw [areR, with_S, w64 w.2.1 (by omega)]
  rw [isWf1 F _ (by omega), isWf1 F _ (by omega), isWf1 F _ (by omega), isWf1 F _ (by omega), isWf1 F _ (by omega), isWf1 F _ (by omega)]
  generalize (decide (w.2.1 ≥ (1 : Int)) && decide (w.2.1 ≤ (31 : Int))) = x
  generalize gB w.2.2.1 = a; generalize gB w.2.2.2.1 = b; generalize gB w.2.2.2.2.1 = c; generalize gB w.2.2.2.2.2.1 = d; generalize gB w.2.2.2.2.2.2.1 = e; generalize gB w.2.2.2.2.2.2.2 = f
  cases rgB w.1 <;> cases x <;> cases a <;> cases b <;> cases c <;> cases d <;> cases e <;> cases f <;> rfl
end Go.Proofs.YtbepdcodkecboaaDoor


namespace Go.Proofs.YtbepdcodkecboaaDoor
open Go.RowKit
set_option maxRecDepth 100000
def bit1 (a : Int) (k : Nat) : Bool := (IntKind.wrap IntKind.u8 ((BitVec.toNat ((BitVec.ofInt 8 (Int.fdiv a ((2 : Int) ^ (Min.min k 8)))) &&& (BitVec.ofInt 8 (1 : Int)))) : Int)) == (1 : Int)
def bit0 (a : Int) (k : Nat) : Bool := (IntKind.wrap IntKind.u8 ((BitVec.toNat ((BitVec.ofInt 8 (Int.fdiv a ((2 : Int) ^ (Min.min k 8)))) &&& (BitVec.ofInt 8 (1 : Int)))) : Int)) == (0 : Int)
def fltB (s w : Int) : Bool := (IntKind.wrap IntKind.u8 ((BitVec.toNat ((BitVec.ofInt 8 w) &&& (Complement.complement (BitVec.ofInt 8 s)))) : Int)) != (0 : Int)
def nevB (s w : Int) : Bool := (IntKind.wrap IntKind.u8 ((BitVec.toNat ((BitVec.ofInt 8 w) &&& (BitVec.ofInt 8 s))) : Int)) == (0 : Int)
def atB (s w : Int) : Bool := (bit1 w 0 && bit0 s 0) || ((bit1 w 1 && bit0 s 1) || ((bit1 w 2 && bit0 s 2) || ((bit1 w 3 && bit0 s 3) || (bit1 w 4 && bit0 s 4))))
def grB (s w : Int) : Bool := (bit1 w 0 && bit1 s 0) || ((bit1 w 1 && bit1 s 1) || ((bit1 w 2 && bit1 s 2) || ((bit1 w 3 && bit1 s 3) || (bit1 w 4 && bit1 s 4))))
theorem bits_all : ∀ a < 32, ∀ b < 32, (fltB ((a : Nat) : Int) ((b : Nat) : Int) = atB ((a : Nat) : Int) ((b : Nat) : Int)) ∧ (nevB ((a : Nat) : Int) ((b : Nat) : Int) = !grB ((a : Nat) : Int) ((b : Nat) : Int)) := by decide +kernel
theorem bits {s w : Int} (hs : 0 ≤ s ∧ s ≤ 31) (hw : 0 ≤ w ∧ w ≤ 31) : fltB s w = atB s w ∧ nevB s w = !grB s w := by
  have := bits_all s.toNat (by omega) w.toNat (by omega)
  rwa [Int.toNat_of_nonneg hs.1, Int.toNat_of_nonneg hw.1] at this
def outB (s w : RgT) : Bool := decide (w.1 < s.1) || decide (w.2 > s.2)
def fltI (s : SpT) (w : WfT) : Int :=
  bif outB s.1.1 w.1.1 then 0 else bif outB s.1.2.1 w.1.2.1 then 1 else bif outB s.1.2.2.1 w.1.2.2.1 then 2 else bif outB s.1.2.2.2.1 w.1.2.2.2.1 then 3 else bif outB s.1.2.2.2.2.1 w.1.2.2.2.2.1 then 4 else bif outB s.1.2.2.2.2.2 w.1.2.2.2.2.2 then 5 else bif fltB s.2 w.2.1 then 6 else (-1 : Int)
theorem b2 {α : Type} (a b : Bool) (x y : α) : (bif a then x else bif b then x else y) = bif (a || b) then x else y := by cases a <;> cases b <;> rfl
theorem bs {α : Type} (a : Bool) (x y : α) : (bif a then some x else some y) = some (bif a then x else y) := by cases a <;> rfl
theorem fault_eq (F : Nat) (s : SpT) (w : WfT) : fault_S F s w = some (fltI s w) := by
  unfold fault_S fltI
  simp only [b2, bs]
  rfl
end Go.Proofs.YtbepdcodkecboaaDoor
