/- Plain laws of chapter 10: the code's answers on one wafer and one specification are the document's. No condition. -/
import Derived.Test.YtbnapejkjaddoaaDoorWX10p
import Derived.Test.YtbnapejkjaddoaaDoorWYF
import Derived.Laws.Strings
import Derived.Lib.SlTrimSet
namespace Go.Proofs.YtbnapejkjaddoaaDoor
open Go.RowKit
set_option maxRecDepth 100000
abbrev RgT := Int × Int
abbrev LmT := RgT × (RgT × (RgT × (RgT × (RgT × RgT))))
abbrev GgT := ByteArray × (ByteArray × (ByteArray × (ByteArray × (ByteArray × ByteArray))))
abbrev SpT := LmT × Int
abbrev WfT := LmT × (Int × GgT)
theorem b3 (a b c : Bool) (x : Option Bool) : (bif a then some false else bif b then some false else bif c then some false else x) = bif (!a && (!b && !c)) then x else some false := by cases a <;> cases b <;> cases c <;> rfl
def okR (r : RgT) : Bool := !(decide (r.1 < (-1000000000000000 : Int))) && (!(decide (r.1 > r.2)) && !(decide (r.2 > (1000000000000000 : Int))))
def rgB (l : LmT) : Bool := okR l.1 && (okR l.2.1 && (okR l.2.2.1 && (okR l.2.2.2.1 && (okR l.2.2.2.2.1 && okR l.2.2.2.2.2))))
theorem areR1 (F : Nat) (r : RgT) : areRanges1_S F r = some (!okR r) := by
  unfold areRanges1_S okR
  generalize decide (r.1 < (-1000000000000000 : Int)) = a
  generalize decide (r.1 > r.2) = b
  generalize decide (r.2 > (1000000000000000 : Int)) = c
  cases a <;> cases b <;> cases c <;> rfl
theorem areR (F : Nat) (l : LmT) : areRanges_S F l = some (rgB l) := by
  unfold areRanges_S rgB
  simp only [areR1, ob_some]
  generalize okR l.1 = a; generalize okR l.2.1 = b; generalize okR l.2.2.1 = c; generalize okR l.2.2.2.1 = d; generalize okR l.2.2.2.2.1 = e; generalize okR l.2.2.2.2.2 = f
  cases a <;> cases b <;> cases c <;> cases d <;> cases e <;> cases f <;> rfl
theorem rrR (F : Nat) (l : LmT) : rranges_S F l = some (rgB l) := by
  unfold rranges_S rgB
  simp only [b3]
  change (bif okR l.1 then (bif okR l.2.1 then (bif okR l.2.2.1 then (bif okR l.2.2.2.1 then (bif okR l.2.2.2.2.1 then (bif okR l.2.2.2.2.2 then some true else some false) else some false) else some false) else some false) else some false) else some false) = _
  generalize okR l.1 = a; generalize okR l.2.1 = b; generalize okR l.2.2.1 = c; generalize okR l.2.2.2.1 = d; generalize okR l.2.2.2.2.1 = e; generalize okR l.2.2.2.2.2 = f
  cases a <;> cases b <;> cases c <;> cases d <;> cases e <;> cases f <;> rfl
def spB (s : SpT) : Bool := rgB s.1 && decide (s.2 ≤ (31 : Int))
theorem isSp (F : Nat) (s : SpT) : isSpec_S F s = some (spB s) := by
  unfold isSpec_S spB; rw [areR]; cases rgB s.1 <;> rfl
theorem rSp (F : Nat) (s : SpT) : rSpec_S F s = some (spB s) := by
  unfold rSpec_S spB; rw [rrR]; cases rgB s.1 <;> rfl
theorem with_S (F : Nat) (n a b : Int) : within_S F n a b = some (decide (n ≥ a) && decide (n ≤ b)) := by
  unfold within_S; cases decide (n ≥ a) <;> rfl
/-! Names of gauges -/
def ltr (n : Int) : Bool := decide (n ≥ (97 : Int)) && decide (n ≤ (122 : Int))
def okC (n : Int) : Bool := ltr n || (!(n != (95 : Int)) || (!(decide (n < (48 : Int))) && !(decide (n > (57 : Int)))))
def gB (s : ByteArray) : Bool := (decide ((s.size : Int) ≥ 1) && decide ((s.size : Int) ≤ 20)) && (ltr (bAt s 0) && s.data.toList.all (fun b => okC (b.toNat : Int)))
abbrev csG : ByteArray := ByteArray.mk (Array.mk (97 :: (98 :: (99 :: (100 :: (101 :: (102 :: (103 :: (104 :: (105 :: (106 :: (107 :: (108 :: (109 :: (110 :: (111 :: (112 :: (113 :: (114 :: (115 :: (116 :: (117 :: (118 :: (119 :: (120 :: (121 :: (122 :: (48 :: (49 :: (50 :: (51 :: (52 :: (53 :: (54 :: (55 :: (56 :: (57 :: (95 :: []))))))))))))))))))))))))))))))))))))))
theorem cs_ok (b : UInt8) : csG.data.toList.contains b = okC (b.toNat : Int) := by
  have h : ∀ n : _root_.Fin 256, csG.data.toList.contains (UInt8.ofNat n.val) = okC (n.val : Int) := by decide +kernel
  have := h ⟨b.toNat, UInt8.toNat_lt b⟩
  simpa using this
theorem dw_nil {p : UInt8 → Bool} : ∀ (m : List UInt8), (∀ x ∈ m, p x = true) → m.dropWhile p = []
  | [], _ => rfl
  | x :: m, h => by
    rw [List.dropWhile_cons, if_pos (h x (by simp))]
    exact dw_nil m (fun y hy => h y (by simp [hy]))
theorem dw_mem {p : UInt8 → Bool} {x : UInt8} (hc : p x = false) : ∀ (m : List UInt8), x ∈ m → x ∈ m.dropWhile p
  | y :: m, h => by
    rw [List.dropWhile_cons]
    split
    · rename_i hy
      rcases List.mem_cons.1 h with rfl | h'
      · rw [hc] at hy; cases hy
      · exact dw_mem hc m h'
    · exact h
theorem trim_nil (l cs : List UInt8) : (Lib.trimS l cs == []) = l.all (cs.contains ·) := by
  unfold Lib.trimS Lib.trimLeftS Lib.trimRightS
  cases h : l.all (cs.contains ·) with
  | true =>
    have h0 : l.reverse.dropWhile (cs.contains ·) = [] := dw_nil _ (fun x hx => List.all_eq_true.1 h x (List.mem_reverse.1 hx))
    rw [h0]; rfl
  | false =>
    have h1 : ∃ x ∈ l, cs.contains x = false := by
      have := List.all_eq_false.1 h
      obtain ⟨x, hx, hc⟩ := this
      exact ⟨x, hx, by simpa using hc⟩
    obtain ⟨x, hx, hc⟩ := h1
    have h2 : ∀ (m : List UInt8), x ∈ m → x ∈ m.dropWhile (cs.contains ·) := dw_mem hc
    have h3 : x ∈ (l.reverse.dropWhile (cs.contains ·)).reverse.dropWhile (cs.contains ·) := h2 _ (List.mem_reverse.2 (h2 _ (List.mem_reverse.2 hx)))
    generalize (l.reverse.dropWhile (cs.contains ·)).reverse.dropWhile (cs.contains ·) = r at h3 ⊢
    cases r with
    | nil => cases h3
    | cons y r => rfl
theorem trimE (F : Nat) (s : ByteArray) (hs : s.size ≤ 1000000) : trim_S F s csG = some ⟨(Lib.trimS s.data.toList csG.data.toList).toArray⟩ := by
  unfold trim_S
  rw [show asciiB csG = true by decide +kernel, show decide (s.size ≤ 1000000) = true by simpa using hs, show decide (csG.size ≤ 1000000) = true by decide +kernel]
  rfl
theorem isGa (F : Nat) (s : ByteArray) (hs : s.size ≤ 1000000) : isGauge_S F s = some (gB s) := by
  unfold isGauge_S gB
  rw [with_S]
  change (bif decide ((s.size : Int) ≥ 1) && decide ((s.size : Int) ≤ 20) then _ else some false) = _
  cases h : (decide ((s.size : Int) ≥ 1) && decide ((s.size : Int) ≤ 20)) with
  | false => rfl
  | true =>
    simp only [Bool.and_eq_true, decide_eq_true_eq] at h
    have h0 : inB (0 : Int) s.size = true := by
      unfold inB
      simp only [Bool.and_eq_true, decide_eq_true_eq]
      omega
    rw [h0]
    change (bif decide (bAt s 0 ≥ 97) then (bif decide (bAt s 0 ≤ 122) then ob (trim_S F s csG) (fun r1 => some (ByteArray.toList r1 == ByteArray.toList ⟨#[]⟩)) else some false) else some false) = _
    rw [trimE F s hs]
    change (bif decide (bAt s 0 ≥ 97) then (bif decide (bAt s 0 ≤ 122) then (some (ByteArray.toList ⟨(Lib.trimS s.data.toList csG.data.toList).toArray⟩ == ByteArray.toList ⟨([] : List UInt8).toArray⟩)) else some false) else some false) = _
    rw [ByteArray.toList_mk, ByteArray.toList_mk, trim_nil]
    rw [show s.data.toList.all (csG.data.toList.contains ·) = s.data.toList.all (fun b => okC (b.toNat : Int)) from by congr 1; funext b; exact cs_ok b]
    unfold ltr
    cases decide (bAt s 0 ≥ 97) <;> cases decide (bAt s 0 ≤ 122) <;> rfl
end Go.Proofs.YtbnapejkjaddoaaDoor
