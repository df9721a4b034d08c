/- What the functions compute, read off the code and checked. No condition. -/
import Derived.Test.YtbnapejkjaddoaaDoorWCL10

namespace Go.Proofs.YtbnapejkjaddoaaDoor
open Go.RowKit Go.Proofs
set_option maxRecDepth 100000
set_option maxHeartbeats 4000000
noncomputable section
def tab0 (F : Nat) : List Ent := [clone_E F, trim_E F]
theorem tab0_ok (F : Nat) : EntsOk Tryd.prog (tab0 F) := clone_T_ok F
abbrev within_n : Nat := 3
def within_S (F : Nat) (n : Int) (least : Int) (most : Int) : Option (Bool) := (bif (decide (n ≥ least)) then (some (decide (n ≤ most))) else (some false))
abbrev within_I : Sch := ⟨[(0, .c (.t (.int .i64))), (1, .c (.t (.int .i64))), (2, .c (.t (.int .i64)))], []⟩
abbrev within_O : FSch := ⟨.one (.c (.t .bool)), []⟩
def within_E (F : Nat) : Ent := ⟨63, 3, within_I, within_O, fun s => within_S F s.1 s.2.1 s.2.2, []⟩
theorem within_ok (F : Nat) : FnSem Tryd.prog 63 3 within_I within_O (fun s => within_S F s.1 s.2.1 s.2.2) :=
  fn_ok (call := callD Tryd.prog 70 plans (tab0 F) 20) (Fu := 70) (pl := plOf plans 63) (d := 1000) (an := .no) (callD_ok progMixed 70 plansOk (tab0_ok F) 20) progMixed (by kernel_rfl) (anP_ok (c := bodyOf Tryd.prog 63) (p := []) (trivial)) (fun s => by kernel_rfl)
def within_T (F : Nat) : List Ent := within_E F :: tab0 F
theorem within_T_ok (F : Nat) : EntsOk Tryd.prog (within_T F) := ⟨⟨by kernel_rfl, within_ok F⟩, tab0_ok F⟩
abbrev areRanges1_n : Nat := 1
def areRanges1_S (F : Nat) (r : (Int × Int)) : Option (Bool) := (bif (decide (r.1 < (-1000000000000000 : Int))) then (some true) else (bif (decide (r.1 > r.2)) then (some true) else (some (decide (r.2 > (1000000000000000 : Int))))))
abbrev areRanges1_I : Sch := ⟨[(0, .ag [.t (.pair (.int .i64) (.int .i64))])], []⟩
abbrev areRanges1_O : FSch := ⟨.one (.c (.t .bool)), []⟩
def areRanges1_E (F : Nat) : Ent := ⟨98, 1, areRanges1_I, areRanges1_O, fun s => areRanges1_S F s, []⟩
theorem areRanges1_ok (F : Nat) : FnSem Tryd.prog 98 1 areRanges1_I areRanges1_O (fun s => areRanges1_S F s) :=
  fn_ok (call := callD Tryd.prog 70 plans (within_T F) 20) (Fu := 70) (pl := plOf plans 98) (d := 1000) (an := .no) (callD_ok progMixed 70 plansOk (within_T_ok F) 20) progMixed (by kernel_rfl) (anP_ok (c := bodyOf Tryd.prog 98) (p := []) (trivial)) (fun s => by kernel_rfl)
def areRanges1_T (F : Nat) : List Ent := areRanges1_E F :: within_T F
theorem areRanges1_T_ok (F : Nat) : EntsOk Tryd.prog (areRanges1_T F) := ⟨⟨by kernel_rfl, areRanges1_ok F⟩, within_T_ok F⟩
abbrev areRanges_n : Nat := 1
def areRanges_S (F : Nat) (l : ((Int × Int) × ((Int × Int) × ((Int × Int) × ((Int × Int) × ((Int × Int) × (Int × Int))))))) : Option (Bool) := (ob (areRanges1_S F l.1) (fun r => (bif r then (some false) else (ob (areRanges1_S F l.2.1) (fun r1 => (bif r1 then (some false) else (ob (areRanges1_S F l.2.2.1) (fun r2 => (bif r2 then (some false) else (ob (areRanges1_S F l.2.2.2.1) (fun r3 => (bif r3 then (some false) else (ob (areRanges1_S F l.2.2.2.2.1) (fun r4 => (bif r4 then (some false) else (ob (areRanges1_S F l.2.2.2.2.2) (fun r5 => (bif r5 then (some false) else (some true)))))))))))))))))))
abbrev areRanges_I : Sch := ⟨[(0, .ag [.t (.pair (.pair (.int .i64) (.int .i64)) (.pair (.pair (.int .i64) (.int .i64)) (.pair (.pair (.int .i64) (.int .i64)) (.pair (.pair (.int .i64) (.int .i64)) (.pair (.pair (.int .i64) (.int .i64)) (.pair (.int .i64) (.int .i64)))))))])], []⟩
abbrev areRanges_O : FSch := ⟨.one (.c (.t .bool)), []⟩
def areRanges_E (F : Nat) : Ent := ⟨84, 1, areRanges_I, areRanges_O, fun s => areRanges_S F s, []⟩
theorem areRanges_ok (F : Nat) : FnSem Tryd.prog 84 1 areRanges_I areRanges_O (fun s => areRanges_S F s) :=
  fn_ok (call := callD Tryd.prog 70 plans (areRanges1_T F) 20) (Fu := 70) (pl := plOf plans 84) (d := 1000) (an := .no) (callD_ok progMixed 70 plansOk (areRanges1_T_ok F) 20) progMixed (by kernel_rfl) (anP_ok (c := bodyOf Tryd.prog 84) (p := []) (trivial)) (fun s => by kernel_rfl)
def areRanges_T (F : Nat) : List Ent := areRanges_E F :: areRanges1_T F
theorem areRanges_T_ok (F : Nat) : EntsOk Tryd.prog (areRanges_T F) := ⟨⟨by kernel_rfl, areRanges_ok F⟩, areRanges1_T_ok F⟩
abbrev isSpec_n : Nat := 1
def isSpec_S (F : Nat) (s1 : Tsp) : Option (Bool) := (ob (areRanges_S F s1.1) (fun r => (bif r then (some (decide (s1.2 ≤ (31 : Int)))) else (some false))))
abbrev isSpec_I : Sch := ⟨[(0, .ag [.t Csp])], []⟩
abbrev isSpec_O : FSch := ⟨.one (.c (.t .bool)), []⟩
def isSpec_E (F : Nat) : Ent := ⟨57, 1, isSpec_I, isSpec_O, fun s => isSpec_S F s, []⟩
theorem isSpec_ok (F : Nat) : FnSem Tryd.prog 57 1 isSpec_I isSpec_O (fun s => isSpec_S F s) :=
  fn_ok (call := callD Tryd.prog 70 plans (areRanges_T F) 20) (Fu := 70) (pl := plOf plans 57) (d := 1000) (an := .no) (callD_ok progMixed 70 plansOk (areRanges_T_ok F) 20) progMixed (by kernel_rfl) (anP_ok (c := bodyOf Tryd.prog 57) (p := []) (trivial)) (fun s => by kernel_rfl)
def isSpec_T (F : Nat) : List Ent := isSpec_E F :: areRanges_T F
theorem isSpec_T_ok (F : Nat) : EntsOk Tryd.prog (isSpec_T F) := ⟨⟨by kernel_rfl, isSpec_ok F⟩, areRanges_T_ok F⟩
abbrev isGauge_n : Nat := 1
def isGauge_S (F : Nat) (s1 : ByteArray) : Option (Bool) := (ob (within_S F (s1.size : Int) (1 : Int) (20 : Int)) (fun r => (bif r then (bif (inB (0 : Int) s1.size) then (bif (decide ((bAt s1 0) ≥ (97 : Int))) then (bif (inB (0 : Int) s1.size) then (bif (decide ((bAt s1 0) ≤ (122 : Int))) then (ob (trim_S F s1 (ByteArray.mk (Array.mk (97 :: (98 :: (99 :: (100 :: (101 :: (102 :: (103 :: (104 :: (105 :: (106 :: (107 :: (108 :: (109 :: (110 :: (111 :: (112 :: (113 :: (114 :: (115 :: (116 :: (117 :: (118 :: (119 :: (120 :: (121 :: (122 :: (48 :: (49 :: (50 :: (51 :: (52 :: (53 :: (54 :: (55 :: (56 :: (57 :: (95 :: [])))))))))))))))))))))))))))))))))))))))) (fun r1 => (some ((ByteArray.toList.loop (FSch.a (Ent.Out (trim_E F)) r1) 0 []) == (ByteArray.toList.loop (ByteArray.mk (List.toArray [])) 0 []))))) else (some false)) else none) else (some false)) else none) else (some false))))
abbrev isGauge_I : Sch := ⟨[(0, .c (.t .str))], []⟩
abbrev isGauge_O : FSch := ⟨.one (.c (.t .bool)), []⟩
def isGauge_E (F : Nat) : Ent := ⟨87, 1, isGauge_I, isGauge_O, fun s => isGauge_S F s, []⟩
theorem isGauge_ok (F : Nat) : FnSem Tryd.prog 87 1 isGauge_I isGauge_O (fun s => isGauge_S F s) :=
  fn_ok (call := callD Tryd.prog 70 plans (isSpec_T F) 20) (Fu := 70) (pl := plOf plans 87) (d := 1000) (an := .no) (callD_ok progMixed 70 plansOk (isSpec_T_ok F) 20) progMixed (by kernel_rfl) (anP_ok (c := bodyOf Tryd.prog 87) (p := []) (trivial)) (fun s => by kernel_rfl)
def isGauge_T (F : Nat) : List Ent := isGauge_E F :: isSpec_T F
theorem isGauge_T_ok (F : Nat) : EntsOk Tryd.prog (isGauge_T F) := ⟨⟨by kernel_rfl, isGauge_ok F⟩, isSpec_T_ok F⟩
abbrev isWafer1_n : Nat := 1
def isWafer1_S (F : Nat) (s1 : ByteArray) : Option (Bool) := (ob (isGauge_S F s1) (fun r => (some (!r))))
abbrev isWafer1_I : Sch := ⟨[(0, .c (.t .str))], []⟩
abbrev isWafer1_O : FSch := ⟨.one (.c (.t .bool)), []⟩
def isWafer1_E (F : Nat) : Ent := ⟨86, 1, isWafer1_I, isWafer1_O, fun s => isWafer1_S F s, []⟩
theorem isWafer1_ok (F : Nat) : FnSem Tryd.prog 86 1 isWafer1_I isWafer1_O (fun s => isWafer1_S F s) :=
  fn_ok (call := callD Tryd.prog 70 plans (isGauge_T F) 20) (Fu := 70) (pl := plOf plans 86) (d := 1000) (an := .no) (callD_ok progMixed 70 plansOk (isGauge_T_ok F) 20) progMixed (by kernel_rfl) (anP_ok (c := bodyOf Tryd.prog 86) (p := []) (trivial)) (fun s => by kernel_rfl)
def isWafer1_T (F : Nat) : List Ent := isWafer1_E F :: isGauge_T F
theorem isWafer1_T_ok (F : Nat) : EntsOk Tryd.prog (isWafer1_T F) := ⟨⟨by kernel_rfl, isWafer1_ok F⟩, isGauge_T_ok F⟩
abbrev isWafer_n : Nat := 1
def isWafer_S (F : Nat) (w : Twf) : Option (Bool) := (ob (areRanges_S F w.1) (fun r => (bif r then (ob (within_S F (IntKind.wrap IntKind.i64 w.2.1) (1 : Int) (31 : Int)) (fun r1 => (bif r1 then (ob (isWafer1_S F w.2.2.1) (fun r2 => (bif r2 then (some false) else (ob (isWafer1_S F w.2.2.2.1) (fun r3 => (bif r3 then (some false) else (ob (isWafer1_S F w.2.2.2.2.1) (fun r4 => (bif r4 then (some false) else (ob (isWafer1_S F w.2.2.2.2.2.1) (fun r5 => (bif r5 then (some false) else (ob (isWafer1_S F w.2.2.2.2.2.2.1) (fun r6 => (bif r6 then (some false) else (ob (isWafer1_S F w.2.2.2.2.2.2.2) (fun r7 => (bif r7 then (some false) else (some true))))))))))))))))))) else (some false)))) else (some false))))
abbrev isWafer_I : Sch := ⟨[(0, .ag [.t Cwf])], []⟩
abbrev isWafer_O : FSch := ⟨.one (.c (.t .bool)), []⟩
def isWafer_E (F : Nat) : Ent := ⟨58, 1, isWafer_I, isWafer_O, fun s => isWafer_S F s, []⟩
theorem isWafer_ok (F : Nat) : FnSem Tryd.prog 58 1 isWafer_I isWafer_O (fun s => isWafer_S F s) :=
  fn_ok (call := callD Tryd.prog 70 plans (isWafer1_T F) 20) (Fu := 70) (pl := plOf plans 58) (d := 1000) (an := .no) (callD_ok progMixed 70 plansOk (isWafer1_T_ok F) 20) progMixed (by kernel_rfl) (anP_ok (c := bodyOf Tryd.prog 58) (p := []) (trivial)) (fun s => by kernel_rfl)
def isWafer_T (F : Nat) : List Ent := isWafer_E F :: isWafer1_T F
theorem isWafer_T_ok (F : Nat) : EntsOk Tryd.prog (isWafer_T F) := ⟨⟨by kernel_rfl, isWafer_ok F⟩, isWafer1_T_ok F⟩
abbrev fault_n : Nat := 2
def fault_S (F : Nat) (s1 : Tsp) (w : Twf) : Option (Int) := (bif (decide (w.1.1.1 < s1.1.1.1)) then (some (0 : Int)) else (bif (decide (w.1.1.2 > s1.1.1.2)) then (some (0 : Int)) else (bif (decide (w.1.2.1.1 < s1.1.2.1.1)) then (some (1 : Int)) else (bif (decide (w.1.2.1.2 > s1.1.2.1.2)) then (some (1 : Int)) else (bif (decide (w.1.2.2.1.1 < s1.1.2.2.1.1)) then (some (2 : Int)) else (bif (decide (w.1.2.2.1.2 > s1.1.2.2.1.2)) then (some (2 : Int)) else (bif (decide (w.1.2.2.2.1.1 < s1.1.2.2.2.1.1)) then (some (3 : Int)) else (bif (decide (w.1.2.2.2.1.2 > s1.1.2.2.2.1.2)) then (some (3 : Int)) else (bif (decide (w.1.2.2.2.2.1.1 < s1.1.2.2.2.2.1.1)) then (some (4 : Int)) else (bif (decide (w.1.2.2.2.2.1.2 > s1.1.2.2.2.2.1.2)) then (some (4 : Int)) else (bif (decide (w.1.2.2.2.2.2.1 < s1.1.2.2.2.2.2.1)) then (some (5 : Int)) else (bif (decide (w.1.2.2.2.2.2.2 > s1.1.2.2.2.2.2.2)) then (some (5 : Int)) else (bif ((IntKind.wrap IntKind.u8 ((BitVec.toNat ((BitVec.ofInt 8 w.2.1) &&& (Complement.complement (BitVec.ofInt 8 s1.2)))) : Int)) != (0 : Int)) then (some (6 : Int)) else (some (-1 : Int)))))))))))))))
abbrev fault_I : Sch := ⟨[(0, .ag [.t Csp]), (1, .ag [.t Cwf])], []⟩
abbrev fault_O : FSch := ⟨.one (.c (.t (.int .i64))), []⟩
def fault_E (F : Nat) : Ent := ⟨59, 2, fault_I, fault_O, fun s => fault_S F s.1 s.2, []⟩
theorem fault_ok (F : Nat) : FnSem Tryd.prog 59 2 fault_I fault_O (fun s => fault_S F s.1 s.2) :=
  fn_ok (call := callD Tryd.prog 70 plans (isWafer_T F) 20) (Fu := 70) (pl := plOf plans 59) (d := 1000) (an := .no) (callD_ok progMixed 70 plansOk (isWafer_T_ok F) 20) progMixed (by kernel_rfl) (anP_ok (c := bodyOf Tryd.prog 59) (p := []) (trivial)) (fun s => by kernel_rfl)
def fault_T (F : Nat) : List Ent := fault_E F :: isWafer_T F
theorem fault_T_ok (F : Nat) : EntsOk Tryd.prog (fault_T F) := ⟨⟨by kernel_rfl, fault_ok F⟩, isWafer_T_ok F⟩
abbrev isOrder_n : Nat := 2
def isOrder_S (F : Nat) (o : Tod) (specs : Int) : Option (Bool) := (ob (within_S F o.1 (0 : Int) (IntKind.wrap IntKind.i64 (specs - (1 : Int)))) (fun r => (bif r then (ob (within_S F o.2.1 (0 : Int) (60 : Int)) (fun r1 => (bif r1 then (ob (within_S F o.2.2.1 (0 : Int) (1000000 : Int)) (fun r2 => (bif r2 then (ob (within_S F o.2.2.2 (0 : Int) (100000 : Int)) (fun r3 => (some r3))) else (some false)))) else (some false)))) else (some false))))
abbrev isOrder_I : Sch := ⟨[(0, .ag [.t Cod]), (1, .c (.t (.int .i64)))], []⟩
abbrev isOrder_O : FSch := ⟨.one (.c (.t .bool)), []⟩
def isOrder_E (F : Nat) : Ent := ⟨71, 2, isOrder_I, isOrder_O, fun s => isOrder_S F s.1 s.2, []⟩
theorem isOrder_ok (F : Nat) : FnSem Tryd.prog 71 2 isOrder_I isOrder_O (fun s => isOrder_S F s.1 s.2) :=
  fn_ok (call := callD Tryd.prog 70 plans (fault_T F) 20) (Fu := 70) (pl := plOf plans 71) (d := 1000) (an := .no) (callD_ok progMixed 70 plansOk (fault_T_ok F) 20) progMixed (by kernel_rfl) (anP_ok (c := bodyOf Tryd.prog 71) (p := []) (trivial)) (fun s => by kernel_rfl)
def isOrder_T (F : Nat) : List Ent := isOrder_E F :: fault_T F
theorem isOrder_T_ok (F : Nat) : EntsOk Tryd.prog (isOrder_T F) := ⟨⟨by kernel_rfl, isOrder_ok F⟩, fault_T_ok F⟩
abbrev check1_n : Nat := 1
def check1_S (F : Nat) (s1 : Tsp) : Option (Bool) := (ob (isSpec_S F s1) (fun r => (some (!r))))
abbrev check1_I : Sch := ⟨[(0, .ag [.t Csp])], []⟩
abbrev check1_O : FSch := ⟨.one (.c (.t .bool)), []⟩
def check1_E (F : Nat) : Ent := ⟨66, 1, check1_I, check1_O, fun s => check1_S F s, []⟩
theorem check1_ok (F : Nat) : FnSem Tryd.prog 66 1 check1_I check1_O (fun s => check1_S F s) :=
  fn_ok (call := callD Tryd.prog 70 plans (isOrder_T F) 20) (Fu := 70) (pl := plOf plans 66) (d := 1000) (an := .no) (callD_ok progMixed 70 plansOk (isOrder_T_ok F) 20) progMixed (by kernel_rfl) (anP_ok (c := bodyOf Tryd.prog 66) (p := []) (trivial)) (fun s => by kernel_rfl)
def check1_T (F : Nat) : List Ent := check1_E F :: isOrder_T F
theorem check1_T_ok (F : Nat) : EntsOk Tryd.prog (check1_T F) := ⟨⟨by kernel_rfl, check1_ok F⟩, isOrder_T_ok F⟩
abbrev check2_n : Nat := 1
def check2_S (F : Nat) (w : Twf) : Option (Bool) := (ob (isWafer_S F w) (fun r => (some (!r))))
abbrev check2_I : Sch := ⟨[(0, .ag [.t Cwf])], []⟩
abbrev check2_O : FSch := ⟨.one (.c (.t .bool)), []⟩
def check2_E (F : Nat) : Ent := ⟨68, 1, check2_I, check2_O, fun s => check2_S F s, []⟩
theorem check2_ok (F : Nat) : FnSem Tryd.prog 68 1 check2_I check2_O (fun s => check2_S F s) :=
  fn_ok (call := callD Tryd.prog 70 plans (check1_T F) 20) (Fu := 70) (pl := plOf plans 68) (d := 1000) (an := .no) (callD_ok progMixed 70 plansOk (check1_T_ok F) 20) progMixed (by kernel_rfl) (anP_ok (c := bodyOf Tryd.prog 68) (p := []) (trivial)) (fun s => by kernel_rfl)
def check2_T (F : Nat) : List Ent := check2_E F :: check1_T F
theorem check2_T_ok (F : Nat) : EntsOk Tryd.prog (check2_T F) := ⟨⟨by kernel_rfl, check2_ok F⟩, check1_T_ok F⟩
abbrev ixSpec_n : Nat := 2
def ixSpec_L0 (F : Nat) (t7 : Int) (g0 : (List Tsp)) : Nat → Int → Option ((Int × (List Tsp)) ⊕ (List Tsp))
  | 0, _ => none
  | n_ + 1, t8 => (bif (decide (t8 < t7)) then (bif (inB t8 (g0.length - 0)) then (ob (check1_S F (nth g0 (TC.dflt Csp) t8.toNat)) (fun r => (bif r then (some (.inl (t8, g0))) else (ixSpec_L0 F t7 g0 n_ (IntKind.wrap IntKind.i64 (t8 + (1 : Int))))))) else none) else (some (.inr g0)))
abbrev ixSpec_L0_s : Sch := ⟨[(0, .c (.k (.sl 0 13))), (1, .c (.k (.lit (.func (.func 66) ⟨[]⟩ ⟨[]⟩)))), (7, .c (.t (.int .i64))), (8, .c (.t (.int .i64)))], [.ro Csp]⟩
abbrev ixSpec_L0_o : Outs := [(.ret, ⟨[(4, .c (.t (.int .i64)))], [.ro Csp]⟩), ((.exit 0), ⟨[], [.ro Csp]⟩)]
theorem ixSpec_L0_ok (F : Nat) : ∀ n, LoopSem Tryd.prog 1 (tmpsOf Tryd.prog 89 ixSpec_n) (subAt (bodyOf Tryd.prog 89) [1, 0, 1, 0, 0]) ixSpec_L0_s ixSpec_L0_o (fun s => (ixSpec_L0 F s.1.1 s.2 n s.1.2)) :=
  loop_ok (m := 1) (N := tmpsOf Tryd.prog 89 ixSpec_n) (S := ixSpec_L0_s) (o := ixSpec_L0_o) (call := callD Tryd.prog 70 plans (check2_T F) 20) (Fu := 70) (pl := (plOf plans 89)) (d := 1000) (an := .no) (M := fun n (s : ixSpec_L0_s.ty) => (ixSpec_L0 F s.1.1 s.2 n s.1.2)) (callD_ok progMixed 70 plansOk (check2_T_ok F) 20) progMixed (anP_ok (c := bodyOf Tryd.prog 89) (p := [1, 0, 1, 0, 0]) (trivial)) (by kernel_rfl) (fun _ => rfl) (fun n s => by
    show (ixSpec_L0 F s.1.1 s.2 (n + 1) s.1.2) = _
    kernel_rfl)
def ixSpec_S (F : Nat) (s1 : (List Tsp)) : Option (Int) := (ob (ixSpec_L0 F ((s1.length - 0) : Int) s1 F (0 : Int)) (fun o_ => su o_ (fun s2 => (some s2.1)) (fun s3 => (some (-1 : Int)))))
abbrev ixSpec_I : Sch := ⟨[(0, .c (.k (.sl 0 13))), (1, .c (.k (.lit (.func (.func 66) ⟨[]⟩ ⟨[]⟩))))], [.ro Csp]⟩
abbrev ixSpec_O : FSch := ⟨.one (.c (.t (.int .i64))), [.dead]⟩
def ixSpec_E (F : Nat) : Ent := ⟨89, 2, ixSpec_I, ixSpec_O, fun s => ixSpec_S F s, []⟩
theorem ixSpec_ok (F : Nat) : FnSem Tryd.prog 89 2 ixSpec_I ixSpec_O (fun s => ixSpec_S F s) :=
  fn_ok (call := callD Tryd.prog 70 plans (check2_T F) 20) (Fu := 70) (pl := plOf plans 89) (d := 1000) (an := (.two .no (.two (.two .no (.one (.loop ixSpec_L0_s ixSpec_L0_o (fun s => (ixSpec_L0 F s.1.1 s.2 F s.1.2))))) .no))) (callD_ok progMixed 70 plansOk (check2_T_ok F) 20) progMixed (by kernel_rfl) (anP_ok (c := bodyOf Tryd.prog 89) (p := []) (⟨trivial, ⟨⟨trivial, (ixSpec_L0_ok F F)⟩, trivial⟩⟩)) (fun s => by kernel_rfl)
def ixSpec_T (F : Nat) : List Ent := ixSpec_E F :: check2_T F
theorem ixSpec_T_ok (F : Nat) : EntsOk Tryd.prog (ixSpec_T F) := ⟨⟨by kernel_rfl, ixSpec_ok F⟩, check2_T_ok F⟩
abbrev cfSpec_n : Nat := 2
def cfSpec_S (F : Nat) (s1 : (List Tsp)) : Option (Bool) := (ob (ixSpec_S F s1) (fun r => (some (decide (r ≥ (0 : Int))))))
abbrev cfSpec_I : Sch := ⟨[(0, .c (.k (.sl 0 13))), (1, .c (.k (.lit (.func (.func 66) ⟨[]⟩ ⟨[]⟩))))], [.ro Csp]⟩
abbrev cfSpec_O : FSch := ⟨.one (.c (.t .bool)), [.dead]⟩
def cfSpec_E (F : Nat) : Ent := ⟨65, 2, cfSpec_I, cfSpec_O, fun s => cfSpec_S F s, []⟩
theorem cfSpec_ok (F : Nat) : FnSem Tryd.prog 65 2 cfSpec_I cfSpec_O (fun s => cfSpec_S F s) :=
  fn_ok (call := callD Tryd.prog 70 plans (ixSpec_T F) 20) (Fu := 70) (pl := plOf plans 65) (d := 1000) (an := .no) (callD_ok progMixed 70 plansOk (ixSpec_T_ok F) 20) progMixed (by kernel_rfl) (anP_ok (c := bodyOf Tryd.prog 65) (p := []) (trivial)) (fun s => by kernel_rfl)
def cfSpec_T (F : Nat) : List Ent := cfSpec_E F :: ixSpec_T F
theorem cfSpec_T_ok (F : Nat) : EntsOk Tryd.prog (cfSpec_T F) := ⟨⟨by kernel_rfl, cfSpec_ok F⟩, ixSpec_T_ok F⟩
abbrev ixWafer_n : Nat := 2
def ixWafer_L0 (F : Nat) (t7 : Int) (g0 : (List Twf)) : Nat → Int → Option ((Int × (List Twf)) ⊕ (List Twf))
  | 0, _ => none
  | n_ + 1, t8 => (bif (decide (t8 < t7)) then (bif (inB t8 (g0.length - 0)) then (ob (check2_S F (nth g0 (TC.dflt Cwf) t8.toNat)) (fun r => (bif r then (some (.inl (t8, g0))) else (ixWafer_L0 F t7 g0 n_ (IntKind.wrap IntKind.i64 (t8 + (1 : Int))))))) else none) else (some (.inr g0)))
abbrev ixWafer_L0_s : Sch := ⟨[(0, .c (.k (.sl 0 19))), (1, .c (.k (.lit (.func (.func 68) ⟨[]⟩ ⟨[]⟩)))), (7, .c (.t (.int .i64))), (8, .c (.t (.int .i64)))], [.ro Cwf]⟩
abbrev ixWafer_L0_o : Outs := [(.ret, ⟨[(4, .c (.t (.int .i64)))], [.ro Cwf]⟩), ((.exit 0), ⟨[], [.ro Cwf]⟩)]
theorem ixWafer_L0_ok (F : Nat) : ∀ n, LoopSem Tryd.prog 1 (tmpsOf Tryd.prog 90 ixWafer_n) (subAt (bodyOf Tryd.prog 90) [1, 0, 1, 0, 0]) ixWafer_L0_s ixWafer_L0_o (fun s => (ixWafer_L0 F s.1.1 s.2 n s.1.2)) :=
  loop_ok (m := 1) (N := tmpsOf Tryd.prog 90 ixWafer_n) (S := ixWafer_L0_s) (o := ixWafer_L0_o) (call := callD Tryd.prog 70 plans (cfSpec_T F) 20) (Fu := 70) (pl := (plOf plans 90)) (d := 1000) (an := .no) (M := fun n (s : ixWafer_L0_s.ty) => (ixWafer_L0 F s.1.1 s.2 n s.1.2)) (callD_ok progMixed 70 plansOk (cfSpec_T_ok F) 20) progMixed (anP_ok (c := bodyOf Tryd.prog 90) (p := [1, 0, 1, 0, 0]) (trivial)) (by kernel_rfl) (fun _ => rfl) (fun n s => by
    show (ixWafer_L0 F s.1.1 s.2 (n + 1) s.1.2) = _
    kernel_rfl)
def ixWafer_S (F : Nat) (s1 : (List Twf)) : Option (Int) := (ob (ixWafer_L0 F ((s1.length - 0) : Int) s1 F (0 : Int)) (fun o_ => su o_ (fun s2 => (some s2.1)) (fun s3 => (some (-1 : Int)))))
abbrev ixWafer_I : Sch := ⟨[(0, .c (.k (.sl 0 19))), (1, .c (.k (.lit (.func (.func 68) ⟨[]⟩ ⟨[]⟩))))], [.ro Cwf]⟩
abbrev ixWafer_O : FSch := ⟨.one (.c (.t (.int .i64))), [.dead]⟩
def ixWafer_E (F : Nat) : Ent := ⟨90, 2, ixWafer_I, ixWafer_O, fun s => ixWafer_S F s, []⟩
theorem ixWafer_ok (F : Nat) : FnSem Tryd.prog 90 2 ixWafer_I ixWafer_O (fun s => ixWafer_S F s) :=
  fn_ok (call := callD Tryd.prog 70 plans (cfSpec_T F) 20) (Fu := 70) (pl := plOf plans 90) (d := 1000) (an := (.two .no (.two (.two .no (.one (.loop ixWafer_L0_s ixWafer_L0_o (fun s => (ixWafer_L0 F s.1.1 s.2 F s.1.2))))) .no))) (callD_ok progMixed 70 plansOk (cfSpec_T_ok F) 20) progMixed (by kernel_rfl) (anP_ok (c := bodyOf Tryd.prog 90) (p := []) (⟨trivial, ⟨⟨trivial, (ixWafer_L0_ok F F)⟩, trivial⟩⟩)) (fun s => by kernel_rfl)
def ixWafer_T (F : Nat) : List Ent := ixWafer_E F :: cfSpec_T F
theorem ixWafer_T_ok (F : Nat) : EntsOk Tryd.prog (ixWafer_T F) := ⟨⟨by kernel_rfl, ixWafer_ok F⟩, cfSpec_T_ok F⟩
abbrev cfWafer_n : Nat := 2
def cfWafer_S (F : Nat) (s1 : (List Twf)) : Option (Bool) := (ob (ixWafer_S F s1) (fun r => (some (decide (r ≥ (0 : Int))))))
abbrev cfWafer_I : Sch := ⟨[(0, .c (.k (.sl 0 19))), (1, .c (.k (.lit (.func (.func 68) ⟨[]⟩ ⟨[]⟩))))], [.ro Cwf]⟩
abbrev cfWafer_O : FSch := ⟨.one (.c (.t .bool)), [.dead]⟩
def cfWafer_E (F : Nat) : Ent := ⟨67, 2, cfWafer_I, cfWafer_O, fun s => cfWafer_S F s, []⟩
theorem cfWafer_ok (F : Nat) : FnSem Tryd.prog 67 2 cfWafer_I cfWafer_O (fun s => cfWafer_S F s) :=
  fn_ok (call := callD Tryd.prog 70 plans (ixWafer_T F) 20) (Fu := 70) (pl := plOf plans 67) (d := 1000) (an := .no) (callD_ok progMixed 70 plansOk (ixWafer_T_ok F) 20) progMixed (by kernel_rfl) (anP_ok (c := bodyOf Tryd.prog 67) (p := []) (trivial)) (fun s => by kernel_rfl)
def cfWafer_T (F : Nat) : List Ent := cfWafer_E F :: ixWafer_T F
theorem cfWafer_T_ok (F : Nat) : EntsOk Tryd.prog (cfWafer_T F) := ⟨⟨by kernel_rfl, cfWafer_ok F⟩, ixWafer_T_ok F⟩
end
end Go.Proofs.YtbnapejkjaddoaaDoor


namespace Go.Proofs.YtbnapejkjaddoaaDoor
open Go.RowKit Go.Proofs
set_option maxRecDepth 100000
set_option maxHeartbeats 4000000
noncomputable section
abbrev ixOrder_n : Nat := 2
def ixOrder_L0 (F : Nat) (t7 : Int) (g0 : (List Tod)) (g3 : (List Tsp)) (g4 : (List Twf)) : Nat → Int → Option ((Int × ((List Tod) × ((List Tsp) × (List Twf)))) ⊕ ((List Tod) × ((List Tsp) × (List Twf))))
  | 0, _ => none
  | n_ + 1, t8 => (bif (decide (t8 < t7)) then (bif (inB t8 (g0.length - 0)) then (ob (isOrder_S F (nth g0 (TC.dflt Cod) t8.toNat) ((g3.length - 0) : Int)) (fun r => (bif (!r) then (some (.inl (t8, (g0, g3, g4)))) else (ixOrder_L0 F t7 g0 g3 g4 n_ (IntKind.wrap IntKind.i64 (t8 + (1 : Int))))))) else none) else (some (.inr (g0, g3, g4))))
abbrev ixOrder_L0_s : Sch := ⟨[(0, .c (.k (.sl 0 4))), (1, .c (.k (.hv 1))), (7, .c (.t (.int .i64))), (8, .c (.t (.int .i64)))], [.ro Cod, .clo 70 [] [.k (.pt 2 0 0 0)], .blk 26 [.k (.sl 3 13), .k (.sl 4 19), .k (.sl 0 4)], .ro Csp, .ro Cwf]⟩
abbrev ixOrder_L0_o : Outs := [(.ret, ⟨[(4, .c (.t (.int .i64)))], [.ro Cod, .clo 70 [] [.k (.pt 2 0 0 0)], .blk 26 [.k (.sl 3 13), .k (.sl 4 19), .k (.sl 0 4)], .ro Csp, .ro Cwf]⟩), ((.exit 0), ⟨[], [.ro Cod, .clo 70 [] [.k (.pt 2 0 0 0)], .blk 26 [.k (.sl 3 13), .k (.sl 4 19), .k (.sl 0 4)], .ro Csp, .ro Cwf]⟩)]
theorem ixOrder_L0_ok (F : Nat) : ∀ n, LoopSem Tryd.prog 5 (tmpsOf Tryd.prog 91 ixOrder_n) (subAt (bodyOf Tryd.prog 91) [1, 0, 1, 0, 0]) ixOrder_L0_s ixOrder_L0_o (fun s => (ixOrder_L0 F s.1.1 s.2.1 s.2.2.1 s.2.2.2 n s.1.2)) :=
  loop_ok (m := 5) (N := tmpsOf Tryd.prog 91 ixOrder_n) (S := ixOrder_L0_s) (o := ixOrder_L0_o) (call := callD Tryd.prog 70 plans (cfWafer_T F) 20) (Fu := 70) (pl := (plOf plans 91)) (d := 1000) (an := .no) (M := fun n (s : ixOrder_L0_s.ty) => (ixOrder_L0 F s.1.1 s.2.1 s.2.2.1 s.2.2.2 n s.1.2)) (callD_ok progMixed 70 plansOk (cfWafer_T_ok F) 20) progMixed (anP_ok (c := bodyOf Tryd.prog 91) (p := [1, 0, 1, 0, 0]) (trivial)) (by kernel_rfl) (fun _ => rfl) (fun n s => by
    show (ixOrder_L0 F s.1.1 s.2.1 s.2.2.1 s.2.2.2 (n + 1) s.1.2) = _
    kernel_rfl)
def ixOrder_S (F : Nat) (s1 : (List Tod)) (f0_Specs : (List Tsp)) (f0_Wafers : (List Twf)) : Option (Int) := (ob (ixOrder_L0 F ((s1.length - 0) : Int) s1 f0_Specs f0_Wafers F (0 : Int)) (fun o_ => su o_ (fun s2 => (some s2.1)) (fun s3 => (some (-1 : Int)))))
abbrev ixOrder_I : Sch := ⟨[(0, .c (.k (.sl 0 4))), (1, .c (.k (.hv 1)))], [.ro Cod, .clo 70 [] [.k (.pt 2 0 0 0)], .blk 26 [.k (.sl 3 13), .k (.sl 4 19), .k (.sl 0 4)], .ro Csp, .ro Cwf]⟩
abbrev ixOrder_O : FSch := ⟨.one (.c (.t (.int .i64))), [.dead, .dead, .blk 26 [.k (.sl 3 13), .k (.sl 4 19), .k (.sl 0 4)], .dead, .dead]⟩
def ixOrder_E (F : Nat) : Ent := ⟨91, 2, ixOrder_I, ixOrder_O, fun s => ixOrder_S F s.1 s.2.1 s.2.2, []⟩
theorem ixOrder_ok (F : Nat) : FnSem Tryd.prog 91 2 ixOrder_I ixOrder_O (fun s => ixOrder_S F s.1 s.2.1 s.2.2) :=
  fn_ok (call := callD Tryd.prog 70 plans (cfWafer_T F) 20) (Fu := 70) (pl := plOf plans 91) (d := 1000) (an := (.two .no (.two (.two .no (.one (.loop ixOrder_L0_s ixOrder_L0_o (fun s => (ixOrder_L0 F s.1.1 s.2.1 s.2.2.1 s.2.2.2 F s.1.2))))) .no))) (callD_ok progMixed 70 plansOk (cfWafer_T_ok F) 20) progMixed (by kernel_rfl) (anP_ok (c := bodyOf Tryd.prog 91) (p := []) (⟨trivial, ⟨⟨trivial, (ixOrder_L0_ok F F)⟩, trivial⟩⟩)) (fun s => by kernel_rfl)
def ixOrder_T (F : Nat) : List Ent := ixOrder_E F :: cfWafer_T F
theorem ixOrder_T_ok (F : Nat) : EntsOk Tryd.prog (ixOrder_T F) := ⟨⟨by kernel_rfl, ixOrder_ok F⟩, cfWafer_T_ok F⟩
abbrev cfOrder_n : Nat := 2
def cfOrder_S (F : Nat) (s1 : (List Tod)) (f0_Specs : (List Tsp)) (f0_Wafers : (List Twf)) : Option (Bool) := (ob (ixOrder_S F s1 f0_Specs f0_Wafers) (fun r => (some (decide (r ≥ (0 : Int))))))
abbrev cfOrder_I : Sch := ⟨[(0, .c (.k (.sl 0 4))), (1, .c (.k (.hv 1)))], [.ro Cod, .clo 70 [] [.k (.pt 2 0 0 0)], .blk 26 [.k (.sl 3 13), .k (.sl 4 19), .k (.sl 0 4)], .ro Csp, .ro Cwf]⟩
abbrev cfOrder_O : FSch := ⟨.one (.c (.t .bool)), [.dead, .dead, .blk 26 [.k (.sl 3 13), .k (.sl 4 19), .k (.sl 0 4)], .dead, .dead]⟩
def cfOrder_E (F : Nat) : Ent := ⟨69, 2, cfOrder_I, cfOrder_O, fun s => cfOrder_S F s.1 s.2.1 s.2.2, []⟩
theorem cfOrder_ok (F : Nat) : FnSem Tryd.prog 69 2 cfOrder_I cfOrder_O (fun s => cfOrder_S F s.1 s.2.1 s.2.2) :=
  fn_ok (call := callD Tryd.prog 70 plans (ixOrder_T F) 20) (Fu := 70) (pl := plOf plans 69) (d := 1000) (an := .no) (callD_ok progMixed 70 plansOk (ixOrder_T_ok F) 20) progMixed (by kernel_rfl) (anP_ok (c := bodyOf Tryd.prog 69) (p := []) (trivial)) (fun s => by kernel_rfl)
def cfOrder_T (F : Nat) : List Ent := cfOrder_E F :: ixOrder_T F
theorem cfOrder_T_ok (F : Nat) : EntsOk Tryd.prog (cfOrder_T F) := ⟨⟨by kernel_rfl, cfOrder_ok F⟩, ixOrder_T_ok F⟩
abbrev check_n : Nat := 1
def check_S (F : Nat) (m_Specs : (List Tsp)) (m_Wafers : (List Twf)) (m_Orders : (List Tod)) : Option (Int) := (ob (bif (decide (((m_Specs.length - 0) : Int) > (20 : Int))) then (some (true, (m_Specs, m_Wafers, m_Orders))) else (bif (decide (((m_Wafers.length - 0) : Int) > (60 : Int))) then (some (true, (m_Specs, m_Wafers, m_Orders))) else (some ((decide (((m_Orders.length - 0) : Int) > (12 : Int))), (m_Specs, m_Wafers, m_Orders))))) (fun s1 => (bif s1.1 then (some (5 : Int)) else (ob (ob (cfSpec_S F s1.2.1) (fun r => (bif r then (some (r, (s1.2.1, s1.2.2.1, s1.2.2.2))) else (ob (cfWafer_S F s1.2.2.1) (fun r1 => (bif r1 then (some (r1, (s1.2.1, s1.2.2.1, s1.2.2.2))) else (ob (cfOrder_S F s1.2.2.2 s1.2.1 s1.2.2.1) (fun r2 => (some (r2, (s1.2.1, s1.2.2.1, s1.2.2.2))))))))))) (fun s2 => (bif s2.1 then (some (2 : Int)) else (some (0 : Int))))))))
abbrev check_I : Sch := ⟨[(0, .ag [.k (.sl 0 13), .k (.sl 1 19), .k (.sl 2 4)])], [.ro Csp, .ro Cwf, .ro Cod]⟩
abbrev check_O : FSch := ⟨.one (.c (.t (.int .i64))), [.dead, .dead, .dead]⟩
def check_E (F : Nat) : Ent := ⟨34, 1, check_I, check_O, fun s => check_S F s.1 s.2.1 s.2.2, []⟩
theorem check_ok (F : Nat) : FnSem Tryd.prog 34 1 check_I check_O (fun s => check_S F s.1 s.2.1 s.2.2) :=
  fn_ok (call := callD Tryd.prog 70 plans (cfOrder_T F) 20) (Fu := 70) (pl := plOf plans 34) (d := 1000) (an := (.two .no (.two (.one (.two (.join [(.normal, ⟨[(1, .c (.k (.pt 3 0 0 0))), (3, .c (.t .bool))], [.ro Csp, .ro Cwf, .ro Cod, .blk 26 [.k (.sl 0 13), .k (.sl 1 19), .k (.sl 2 4)]]⟩)] .no) (.two .no (.two (.join [(.normal, ⟨[(20, .c (.t .bool))], [.ro Csp, .ro Cwf, .ro Cod]⟩)] .no) .no)))) .no))) (callD_ok progMixed 70 plansOk (cfOrder_T_ok F) 20) progMixed (by kernel_rfl) (anP_ok (c := bodyOf Tryd.prog 34) (p := []) (⟨trivial, ⟨⟨trivial, ⟨trivial, ⟨trivial, trivial⟩⟩⟩, trivial⟩⟩)) (fun s => by kernel_rfl)
def check_T (F : Nat) : List Ent := check_E F :: cfOrder_T F
theorem check_T_ok (F : Nat) : EntsOk Tryd.prog (check_T F) := ⟨⟨by kernel_rfl, check_ok F⟩, cfOrder_T_ok F⟩
end
end Go.Proofs.YtbnapejkjaddoaaDoor


namespace Go.Proofs.YtbnapejkjaddoaaDoor
open Go.RowKit Go.Proofs
set_option maxRecDepth 100000
set_option maxHeartbeats 4000000
noncomputable section
abbrev worth_n : Nat := 2
def worth_S (F : Nat) (order : Int) (f_Market_Specs : (List Tsp)) (f_Market_Wafers : (List Twf)) (f_Market_Orders : (List Tod)) (f_passes : (List Nat)) (ar0 : Ta0) (ar1 : Ta1) : Option ((Int × (Ta0 × Ta1))) := (bif (inB order (f_Market_Orders.length - 0)) then (some ((IntKind.wrap IntKind.i64 ((1000000000 : Int) + (nth f_Market_Orders (TC.dflt Cod) order.toNat).2.2.1)), (ar0, ar1))) else none)
abbrev worth_I : Sch := ⟨[(0, .ag [.k (.sl 0 13), .k (.sl 1 19), .k (.sl 2 4), .k (.sl 3 1)]), (1, .c (.t (.int .i64)))], [.ro Csp, .ro Cwf, .ro Cod, .ro (.rf 1 0), .ars 0 4 .bool, .ars 1 3 (.int .i64)]⟩
abbrev worth_O : FSch := ⟨.one (.c (.t (.int .i64))), [.dead, .dead, .dead, .dead, .dead, .dead, .ars 0 4 .bool, .ars 1 3 (.int .i64)]⟩
def worth_E (F : Nat) : Ent := ⟨54, 2, worth_I, worth_O, fun s => worth_S F s.1 s.2.1 s.2.2.1 s.2.2.2.1 s.2.2.2.2.1 s.2.2.2.2.2.1 s.2.2.2.2.2.2, []⟩
theorem worth_ok (F : Nat) : FnSem Tryd.prog 54 2 worth_I worth_O (fun s => worth_S F s.1 s.2.1 s.2.2.1 s.2.2.2.1 s.2.2.2.2.1 s.2.2.2.2.2.1 s.2.2.2.2.2.2) :=
  fn_ok (call := callD Tryd.prog 70 plans (check_T F) 20) (Fu := 70) (pl := plOf plans 54) (d := 1000) (an := .no) (callD_ok progMixed 70 plansOk (check_T_ok F) 20) progMixed (by kernel_rfl) (anP_ok (c := bodyOf Tryd.prog 54) (p := []) (trivial)) (fun s => by kernel_rfl)
def worth_T (F : Nat) : List Ent := worth_E F :: check_T F
theorem worth_T_ok (F : Nat) : EntsOk Tryd.prog (worth_T F) := ⟨⟨by kernel_rfl, worth_ok F⟩, check_T_ok F⟩
abbrev counts_n : Nat := 1
def counts_L0 (F : Nat) (t8 : Int) (g0 : (List Tsp)) (g1 : (List Twf)) (g2 : (List Tod)) (g3 : (List Nat)) (ar01 : Ta0) (ar11 : Ta1) : Nat → Int → (List Int) → Option (((List Tsp) × ((List Twf) × ((List Tod) × ((List Nat) × (Ta0 × (Ta1 × (List Int))))))))
  | 0, _, _ => none
  | n_ + 1, t9, l => (bif (decide (t9 < t8)) then (bif (inB t9 (g2.length - 0)) then (bif (lenOk (l.length - 0) ((nth g2 (TC.dflt Cod) t9.toNat).2.1 :: []).length) then (counts_L0 F t8 g0 g1 g2 g3 ar01 ar11 n_ (IntKind.wrap IntKind.i64 (t9 + (1 : Int))) (l ++ ((nth g2 (TC.dflt Cod) t9.toNat).2.1 :: []))) else none) else none) else (some (g0, g1, g2, g3, ar01, ar11, l)))
abbrev counts_L0_s : Sch := ⟨[(2, .c (.k (.sl 8 1))), (7, .c (.k (.sl 2 4))), (8, .c (.t (.int .i64))), (9, .c (.t (.int .i64)))], [.ro Csp, .ro Cwf, .ro Cod, .ro (.rf 1 0), .dead, .dead, .ars 0 4 .bool, .ars 1 3 (.int .i64), .rows 3 (.int .i64)]⟩
abbrev counts_L0_o : Outs := [((.exit 0), ⟨[(2, .c (.k (.sl 8 1)))], [.ro Csp, .ro Cwf, .ro Cod, .ro (.rf 1 0), .dead, .dead, .ars 0 4 .bool, .ars 1 3 (.int .i64), .rows 3 (.int .i64)]⟩)]
theorem counts_L0_ok (F : Nat) : ∀ n, LoopSem Tryd.prog 6 (tmpsOf Tryd.prog 52 counts_n) (subAt (bodyOf Tryd.prog 52) [1, 0, 1, 0, 0]) counts_L0_s counts_L0_o (fun s => (counts_L0 F s.1.1 s.2.1 s.2.2.1 s.2.2.2.1 s.2.2.2.2.1 s.2.2.2.2.2.1 s.2.2.2.2.2.2.1 n s.1.2 s.2.2.2.2.2.2.2)) :=
  loop_ok (m := 6) (N := tmpsOf Tryd.prog 52 counts_n) (S := counts_L0_s) (o := counts_L0_o) (call := callD Tryd.prog 70 plans (worth_T F) 20) (Fu := 70) (pl := (plOf plans 52)) (d := 1000) (an := .no) (M := fun n (s : counts_L0_s.ty) => (counts_L0 F s.1.1 s.2.1 s.2.2.1 s.2.2.2.1 s.2.2.2.2.1 s.2.2.2.2.2.1 s.2.2.2.2.2.2.1 n s.1.2 s.2.2.2.2.2.2.2)) (callD_ok progMixed 70 plansOk (worth_T_ok F) 20) progMixed (anP_ok (c := bodyOf Tryd.prog 52) (p := [1, 0, 1, 0, 0]) (trivial)) (by kernel_rfl) (fun _ => rfl) (fun n s => by
    show (counts_L0 F s.1.1 s.2.1 s.2.2.1 s.2.2.2.1 s.2.2.2.2.1 s.2.2.2.2.2.1 s.2.2.2.2.2.2.1 (n + 1) s.1.2 s.2.2.2.2.2.2.2) = _
    kernel_rfl)
def counts_S (F : Nat) (f_Market_Specs : (List Tsp)) (f_Market_Wafers : (List Twf)) (f_Market_Orders : (List Tod)) (f_passes : (List Nat)) (ar0 : Ta0) (ar1 : Ta1) : Option ((Ta0 × (Ta1 × (List Int)))) := (ob (counts_L0 F ((f_Market_Orders.length - 0) : Int) f_Market_Specs f_Market_Wafers f_Market_Orders f_passes ar0 ar1 F (0 : Int) []) (fun s1 => (some (s1.2.2.2.2.1, s1.2.2.2.2.2.1, s1.2.2.2.2.2.2))))
abbrev counts_I : Sch := ⟨[(0, .ag [.k (.sl 0 13), .k (.sl 1 19), .k (.sl 2 4), .k (.sl 3 1)])], [.ro Csp, .ro Cwf, .ro Cod, .ro (.rf 1 0), .ars 0 4 .bool, .ars 1 3 (.int .i64)]⟩
abbrev counts_O : FSch := ⟨.one (.c (.k (.sl 8 1))), [.dead, .dead, .dead, .dead, .dead, .dead, .ars 0 4 .bool, .ars 1 3 (.int .i64), .rows 3 (.int .i64)]⟩
def counts_E (F : Nat) : Ent := ⟨52, 1, counts_I, counts_O, fun s => counts_S F s.1 s.2.1 s.2.2.1 s.2.2.2.1 s.2.2.2.2.1 s.2.2.2.2.2, []⟩
theorem counts_ok (F : Nat) : FnSem Tryd.prog 52 1 counts_I counts_O (fun s => counts_S F s.1 s.2.1 s.2.2.1 s.2.2.2.1 s.2.2.2.2.1 s.2.2.2.2.2) :=
  fn_ok (call := callD Tryd.prog 70 plans (worth_T F) 20) (Fu := 70) (pl := plOf plans 52) (d := 1000) (an := (.two .no (.two (.two .no (.one (.loop counts_L0_s counts_L0_o (fun s => (counts_L0 F s.1.1 s.2.1 s.2.2.1 s.2.2.2.1 s.2.2.2.2.1 s.2.2.2.2.2.1 s.2.2.2.2.2.2.1 F s.1.2 s.2.2.2.2.2.2.2))))) .no))) (callD_ok progMixed 70 plansOk (worth_T_ok F) 20) progMixed (by kernel_rfl) (anP_ok (c := bodyOf Tryd.prog 52) (p := []) (⟨trivial, ⟨⟨trivial, (counts_L0_ok F F)⟩, trivial⟩⟩)) (fun s => by kernel_rfl)
def counts_T (F : Nat) : List Ent := counts_E F :: worth_T F
theorem counts_T_ok (F : Nat) : EntsOk Tryd.prog (counts_T F) := ⟨⟨by kernel_rfl, counts_ok F⟩, worth_T_ok F⟩
abbrev newFloor_n : Nat := 1
def newFloor_L1 (F : Nat) (t131 : Int) (t141 : Int) (t20 : Int) (g01 : (List Tsp)) (g11 : (List Twf)) (g21 : (List Tod)) (ar02 : Ta0) (ar12 : Ta1) (w : Twf) (g101 : (List Nat)) : Nat → Int → (List Bool) → Option (((Int × Int) × ((List Tsp) × ((List Twf) × ((List Tod) × (Ta0 × (Ta1 × ((List Bool) × (List Nat)))))))))
  | 0, _, _ => none
  | n_ + 1, t21, row => (bif (decide (t21 < t20)) then (bif (inB t21 (g21.length - 0)) then (bif (inB (nth g21 (TC.dflt Cod) t21.toNat).1 (g01.length - 0)) then (ob (fault_S F (nth g01 (TC.dflt Csp) (nth g21 (TC.dflt Cod) t21.toNat).1.toNat) w) (fun r => (bif (lenOk (row.length - 0) ((decide (r < (0 : Int))) :: []).length) then (newFloor_L1 F t131 t141 t20 g01 g11 g21 ar02 ar12 w g101 n_ (IntKind.wrap IntKind.i64 (t21 + (1 : Int))) (row ++ ((decide (r < (0 : Int))) :: []))) else none))) else none) else none) else (some ((t131, t141), (g01, g11, g21, ar02, ar12, row, g101))))
abbrev newFloor_L1_s : Sch := ⟨[(1, .c (.k (.pt 7 0 0 0))), (2, .c (.k (.pt 8 0 0 0))), (3, .c (.k (.pt 9 0 0 0))), (5, .c (.k (.pt 10 0 0 0))), (6, .c (.k (.sl 11 1))), (12, .c (.k (.sl 1 19))), (13, .c (.t (.int .i64))), (14, .c (.t (.int .i64))), (19, .c (.k (.sl 2 4))), (20, .c (.t (.int .i64))), (21, .c (.t (.int .i64)))], [.ro Csp, .ro Cwf, .ro Cod, .dead, .dead, .ars 0 4 .bool, .ars 1 3 (.int .i64), .blk 26 [.k (.sl 0 13), .k (.sl 1 19), .k (.sl 2 4)], .blk 114 [.k (.lit (.slice none 0 0)), .k (.lit (.slice none 0 0)), .k (.lit (.slice none 0 0)), .k (.lit (.slice none 0 0))], .blk 114 [.k (.sl 0 13), .k (.sl 1 19), .k (.sl 2 4), .k (.sl 12 1)], .blk 46 [.t Cwf], .rows 4 .bool, .rows 101 (.rf 1 0)]⟩
abbrev newFloor_L1_o : Outs := [((.exit 2), ⟨[(1, .c (.k (.pt 7 0 0 0))), (2, .c (.k (.pt 8 0 0 0))), (3, .c (.k (.pt 9 0 0 0))), (6, .c (.k (.sl 10 1))), (12, .c (.k (.sl 1 19))), (13, .c (.t (.int .i64))), (14, .c (.t (.int .i64)))], [.ro Csp, .ro Cwf, .ro Cod, .dead, .dead, .ars 0 4 .bool, .ars 1 3 (.int .i64), .blk 26 [.k (.sl 0 13), .k (.sl 1 19), .k (.sl 2 4)], .blk 114 [.k (.lit (.slice none 0 0)), .k (.lit (.slice none 0 0)), .k (.lit (.slice none 0 0)), .k (.lit (.slice none 0 0))], .blk 114 [.k (.sl 0 13), .k (.sl 1 19), .k (.sl 2 4), .k (.sl 11 1)], .rows 4 .bool, .rows 101 (.rf 1 0)]⟩)]
theorem newFloor_L1_ok (F : Nat) : ∀ n, LoopSem Tryd.prog 5 (tmpsOf Tryd.prog 51 newFloor_n) (subAt (bodyOf Tryd.prog 51) [1, 1, 0, 1, 0, 0, 1, 1, 0, 0, 1, 1, 0, 1, 0, 0]) newFloor_L1_s newFloor_L1_o (fun s => (newFloor_L1 F s.1.1 s.1.2.1 s.1.2.2.1 s.2.1 s.2.2.1 s.2.2.2.1 s.2.2.2.2.1 s.2.2.2.2.2.1 s.2.2.2.2.2.2.1 s.2.2.2.2.2.2.2.2 n s.1.2.2.2 s.2.2.2.2.2.2.2.1)) :=
  loop_ok (m := 5) (N := tmpsOf Tryd.prog 51 newFloor_n) (S := newFloor_L1_s) (o := newFloor_L1_o) (call := callD Tryd.prog 70 plans (counts_T F) 20) (Fu := 70) (pl := (plOf plans 51)) (d := 1000) (an := .no) (M := fun n (s : newFloor_L1_s.ty) => (newFloor_L1 F s.1.1 s.1.2.1 s.1.2.2.1 s.2.1 s.2.2.1 s.2.2.2.1 s.2.2.2.2.1 s.2.2.2.2.2.1 s.2.2.2.2.2.2.1 s.2.2.2.2.2.2.2.2 n s.1.2.2.2 s.2.2.2.2.2.2.2.1)) (callD_ok progMixed 70 plansOk (counts_T_ok F) 20) progMixed (anP_ok (c := bodyOf Tryd.prog 51) (p := [1, 1, 0, 1, 0, 0, 1, 1, 0, 0, 1, 1, 0, 1, 0, 0]) (trivial)) (by kernel_rfl) (fun _ => rfl) (fun n s => by
    show (newFloor_L1 F s.1.1 s.1.2.1 s.1.2.2.1 s.2.1 s.2.2.1 s.2.2.2.1 s.2.2.2.2.1 s.2.2.2.2.2.1 s.2.2.2.2.2.2.1 s.2.2.2.2.2.2.2.2 (n + 1) s.1.2.2.2 s.2.2.2.2.2.2.2.1) = _
    kernel_rfl)
def newFloor_L0 (F : Nat) : Nat → Int → Int → (List Tsp) → (List Twf) → (List Tod) → Ta0 → Ta1 → (List Nat) → Option (((List Tsp) × ((List Twf) × ((List Tod) × (Ta0 × (Ta1 × (List Nat)))))))
  | 0, _, _, _, _, _, _, _, _ => none
  | n_ + 1, t13, t14, g0, g1, g2, ar01, ar11, g10 => (bif (decide (t14 < t13)) then (bif (inB t14 (g1.length - 0)) then (ob (newFloor_L1 F t13 t14 ((g2.length - 0) : Int) g0 g1 g2 ar01 ar11 (nth g1 (TC.dflt Cwf) t14.toNat) g10 F (0 : Int) []) (fun s1 => (bif (lenOk (s1.2.2.2.2.2.2.2.length - 0) ((s1.2.2.2.2.1.length + 1) :: []).length) then (newFloor_L0 F n_ s1.1.1 (IntKind.wrap IntKind.i64 (s1.1.2 + (1 : Int))) s1.2.1 s1.2.2.1 s1.2.2.2.1 (s1.2.2.2.2.1 ++ ((Option.some s1.2.2.2.2.2.2.1) :: [])) s1.2.2.2.2.2.1 (s1.2.2.2.2.2.2.2 ++ ((s1.2.2.2.2.1.length + 1) :: []))) else none))) else none) else (some (g0, g1, g2, ar01, ar11, g10)))
abbrev newFloor_L0_s : Sch := ⟨[(1, .c (.k (.pt 7 0 0 0))), (2, .c (.k (.pt 8 0 0 0))), (3, .c (.k (.pt 9 0 0 0))), (12, .c (.k (.sl 1 19))), (13, .c (.t (.int .i64))), (14, .c (.t (.int .i64)))], [.ro Csp, .ro Cwf, .ro Cod, .dead, .dead, .ars 0 4 .bool, .ars 1 3 (.int .i64), .blk 26 [.k (.sl 0 13), .k (.sl 1 19), .k (.sl 2 4)], .blk 114 [.k (.lit (.slice none 0 0)), .k (.lit (.slice none 0 0)), .k (.lit (.slice none 0 0)), .k (.lit (.slice none 0 0))], .blk 114 [.k (.sl 0 13), .k (.sl 1 19), .k (.sl 2 4), .k (.sl 10 1)], .rows 101 (.rf 1 0)]⟩
abbrev newFloor_L0_o : Outs := [((.exit 0), ⟨[(2, .c (.k (.pt 7 0 0 0))), (3, .c (.k (.pt 8 0 0 0)))], [.ro Csp, .ro Cwf, .ro Cod, .dead, .dead, .ars 0 4 .bool, .ars 1 3 (.int .i64), .blk 114 [.k (.lit (.slice none 0 0)), .k (.lit (.slice none 0 0)), .k (.lit (.slice none 0 0)), .k (.lit (.slice none 0 0))], .blk 114 [.k (.sl 0 13), .k (.sl 1 19), .k (.sl 2 4), .k (.sl 9 1)], .rows 101 (.rf 1 0)]⟩)]
theorem newFloor_L0_ok (F : Nat) : ∀ n, LoopSem Tryd.prog 5 (tmpsOf Tryd.prog 51 newFloor_n) (subAt (bodyOf Tryd.prog 51) [1, 1, 0, 1, 0, 0]) newFloor_L0_s newFloor_L0_o (fun s => (newFloor_L0 F n s.1.1 s.1.2 s.2.1 s.2.2.1 s.2.2.2.1 s.2.2.2.2.1 s.2.2.2.2.2.1 s.2.2.2.2.2.2)) :=
  loop_ok (m := 5) (N := tmpsOf Tryd.prog 51 newFloor_n) (S := newFloor_L0_s) (o := newFloor_L0_o) (call := callD Tryd.prog 70 plans (counts_T F) 20) (Fu := 70) (pl := (plOf plans 51)) (d := 1000) (an := (.two .no (.two .no (.two (.one (.two .no (.two .no (.two (.two .no (.one (.loop newFloor_L1_s newFloor_L1_o (fun s => (newFloor_L1 F s.1.1 s.1.2.1 s.1.2.2.1 s.2.1 s.2.2.1 s.2.2.2.1 s.2.2.2.2.1 s.2.2.2.2.2.1 s.2.2.2.2.2.2.1 s.2.2.2.2.2.2.2.2 F s.1.2.2.2 s.2.2.2.2.2.2.2.1))))) .no)))) .no)))) (M := fun n (s : newFloor_L0_s.ty) => (newFloor_L0 F n s.1.1 s.1.2 s.2.1 s.2.2.1 s.2.2.2.1 s.2.2.2.2.1 s.2.2.2.2.2.1 s.2.2.2.2.2.2)) (callD_ok progMixed 70 plansOk (counts_T_ok F) 20) progMixed (anP_ok (c := bodyOf Tryd.prog 51) (p := [1, 1, 0, 1, 0, 0]) (⟨trivial, ⟨trivial, ⟨⟨trivial, ⟨trivial, ⟨⟨trivial, (newFloor_L1_ok F F)⟩, trivial⟩⟩⟩, trivial⟩⟩⟩)) (by kernel_rfl) (fun _ => rfl) (fun n s => by
    show (newFloor_L0 F (n + 1) s.1.1 s.1.2 s.2.1 s.2.2.1 s.2.2.2.1 s.2.2.2.2.1 s.2.2.2.2.2.1 s.2.2.2.2.2.2) = _
    kernel_rfl)
def newFloor_S (F : Nat) (m_Specs : (List Tsp)) (m_Wafers : (List Twf)) (m_Orders : (List Tod)) (ar0 : Ta0) (ar1 : Ta1) : Option ((Ta0 × (Ta1 × (List Nat)))) := (ob (newFloor_L0 F F ((m_Wafers.length - 0) : Int) (0 : Int) m_Specs m_Wafers m_Orders ar0 ar1 []) (fun s2 => (some (s2.2.2.2.1, s2.2.2.2.2.1, s2.2.2.2.2.2))))
abbrev newFloor_I : Sch := ⟨[(0, .ag [.k (.sl 0 13), .k (.sl 1 19), .k (.sl 2 4)])], [.ro Csp, .ro Cwf, .ro Cod, .ars 0 4 .bool, .ars 1 3 (.int .i64)]⟩
abbrev newFloor_O : FSch := ⟨.one (.ag [.k (.sl 0 13), .k (.sl 1 19), .k (.sl 2 4), .k (.sl 7 1)]), [.dead, .dead, .dead, .dead, .dead, .ars 0 4 .bool, .ars 1 3 (.int .i64), .rows 101 (.rf 1 0)]⟩
def newFloor_E (F : Nat) : Ent := ⟨51, 1, newFloor_I, newFloor_O, fun s => newFloor_S F s.1 s.2.1 s.2.2.1 s.2.2.2.1 s.2.2.2.2, []⟩
theorem newFloor_ok (F : Nat) : FnSem Tryd.prog 51 1 newFloor_I newFloor_O (fun s => newFloor_S F s.1 s.2.1 s.2.2.1 s.2.2.2.1 s.2.2.2.2) :=
  fn_ok (call := callD Tryd.prog 70 plans (counts_T F) 20) (Fu := 70) (pl := plOf plans 51) (d := 1000) (an := (.two .no (.two .no (.two (.two .no (.one (.loop newFloor_L0_s newFloor_L0_o (fun s => (newFloor_L0 F F s.1.1 s.1.2 s.2.1 s.2.2.1 s.2.2.2.1 s.2.2.2.2.1 s.2.2.2.2.2.1 s.2.2.2.2.2.2))))) .no)))) (callD_ok progMixed 70 plansOk (counts_T_ok F) 20) progMixed (by kernel_rfl) (anP_ok (c := bodyOf Tryd.prog 51) (p := []) (⟨trivial, ⟨trivial, ⟨⟨trivial, (newFloor_L0_ok F F)⟩, trivial⟩⟩⟩)) (fun s => by kernel_rfl)
def newFloor_T (F : Nat) : List Ent := newFloor_E F :: counts_T F
theorem newFloor_T_ok (F : Nat) : EntsOk Tryd.prog (newFloor_T F) := ⟨⟨by kernel_rfl, newFloor_ok F⟩, counts_T_ok F⟩
abbrev index_n : Nat := 2
def index_L0 (F : Nat) (s2 : Nat) (v1 : Int) (t7 : Int) (ar01 : Ta0) (ar11 : Ta1) : Nat → Int → Option ((Int × (Ta0 × Ta1)) ⊕ (Ta0 × Ta1))
  | 0, _ => none
  | n_ + 1, t8 => (bif (decide (t8 < t7)) then (bif (inB t8 (rowAt ar11 s2).length) then (bif (decide (t8.toNat < (rowAt ar11 s2).length)) then (bif (v1 == (nth (rowAt ar11 s2) (0 : Int) t8.toNat)) then (some (.inl (t8, (ar01, ar11)))) else (index_L0 F s2 v1 t7 ar01 ar11 n_ (IntKind.wrap IntKind.i64 (t8 + (1 : Int))))) else none) else none) else (some (.inr (ar01, ar11))))
abbrev index_L0_s : Sch := ⟨[(0, .c (.t (.rf 1 1))), (1, .c (.t (.int .i64))), (7, .c (.t (.int .i64))), (8, .c (.t (.int .i64)))], [.dead, .dead, .ars 0 4 .bool, .ars 1 3 (.int .i64)]⟩
abbrev index_L0_o : Outs := [(.ret, ⟨[(4, .c (.t (.int .i64)))], [.dead, .dead, .ars 0 4 .bool, .ars 1 3 (.int .i64)]⟩), ((.exit 0), ⟨[], [.dead, .dead, .ars 0 4 .bool, .ars 1 3 (.int .i64)]⟩)]
theorem index_L0_ok (F : Nat) : ∀ n, LoopSem Tryd.prog 2 (tmpsOf Tryd.prog 95 index_n) (subAt (bodyOf Tryd.prog 95) [1, 0, 1, 0, 0]) index_L0_s index_L0_o (fun s => (index_L0 F s.1.1 s.1.2.1 s.1.2.2.1 s.2.1 s.2.2 n s.1.2.2.2)) :=
  loop_ok (m := 2) (N := tmpsOf Tryd.prog 95 index_n) (S := index_L0_s) (o := index_L0_o) (call := callD Tryd.prog 70 plans (newFloor_T F) 20) (Fu := 70) (pl := (plOf plans 95)) (d := 1000) (an := .no) (M := fun n (s : index_L0_s.ty) => (index_L0 F s.1.1 s.1.2.1 s.1.2.2.1 s.2.1 s.2.2 n s.1.2.2.2)) (callD_ok progMixed 70 plansOk (newFloor_T_ok F) 20) progMixed (anP_ok (c := bodyOf Tryd.prog 95) (p := [1, 0, 1, 0, 0]) (trivial)) (by kernel_rfl) (fun _ => rfl) (fun n s => by
    show (index_L0 F s.1.1 s.1.2.1 s.1.2.2.1 s.2.1 s.2.2 (n + 1) s.1.2.2.2) = _
    kernel_rfl)
def index_S (F : Nat) (s1 : Nat) (v : Int) (ar0 : Ta0) (ar1 : Ta1) : Option ((Int × (Ta0 × Ta1))) := (bif (liveA ar1 s1) then (ob (index_L0 F s1 v ((rowAt ar1 s1).length : Int) ar0 ar1 F (0 : Int)) (fun o_ => su o_ (fun s3 => (some (s3.1, (s3.2.1, s3.2.2)))) (fun s4 => (some ((-1 : Int), (s4.1, s4.2)))))) else none)
abbrev index_I : Sch := ⟨[(0, .c (.t (.rf 1 1))), (1, .c (.t (.int .i64)))], [.ars 0 4 .bool, .ars 1 3 (.int .i64)]⟩
abbrev index_O : FSch := ⟨.one (.c (.t (.int .i64))), [.dead, .dead, .ars 0 4 .bool, .ars 1 3 (.int .i64)]⟩
def index_E (F : Nat) : Ent := ⟨95, 2, index_I, index_O, fun s => index_S F s.1.1 s.1.2 s.2.1 s.2.2, []⟩
theorem index_ok (F : Nat) : FnSem Tryd.prog 95 2 index_I index_O (fun s => index_S F s.1.1 s.1.2 s.2.1 s.2.2) :=
  fn_ok (call := callD Tryd.prog 70 plans (newFloor_T F) 20) (Fu := 70) (pl := plOf plans 95) (d := 1000) (an := (.two .no (.two (.two .no (.one (.loop index_L0_s index_L0_o (fun s => (index_L0 F s.1.1 s.1.2.1 s.1.2.2.1 s.2.1 s.2.2 F s.1.2.2.2))))) .no))) (callD_ok progMixed 70 plansOk (newFloor_T_ok F) 20) progMixed (by kernel_rfl) (anP_ok (c := bodyOf Tryd.prog 95) (p := []) (⟨trivial, ⟨⟨trivial, (index_L0_ok F F)⟩, trivial⟩⟩)) (fun s => by kernel_rfl)
def index_T (F : Nat) : List Ent := index_E F :: newFloor_T F
theorem index_T_ok (F : Nat) : EntsOk Tryd.prog (index_T F) := ⟨⟨by kernel_rfl, index_ok F⟩, newFloor_T_ok F⟩
abbrev delete_n : Nat := 3
def delete_S (F : Nat) (s1 : Nat) (i : Int) (j : Int) (ar0 : Ta0) (ar1 : Ta1) : Option (((Nat × Nat) × (Ta0 × (Ta1 × (List Int))))) := (bif (liveA ar1 s1) then (bif (inC (((rowAt ar1 s1).length - 0) : Int) ((rowAt ar1 s1).length - 0)) then (bif (inC j (((rowAt ar1 s1).length - 0) : Int).toNat) then (bif (inC i j.toNat) then (bif (i == j) then none else (bif (inC i ((rowAt ar1 s1).length - 0)) then (bif (inC j ((rowAt ar1 s1).length - 0)) then (bif (Nat.ble ((0 + (i.toNat - 0)) + (List.drop j.toNat (rowAt ar1 s1)).length) (rowAt ar1 s1).length) then (bif (inC (((rowAt ar1 s1).length - 0) : Int) ((((List.take (0 + (i.toNat - 0)) (rowAt ar1 s1)) ++ (List.drop j.toNat (rowAt ar1 s1))) ++ (List.drop ((0 + (i.toNat - 0)) + (List.drop j.toNat (rowAt ar1 s1)).length) (rowAt ar1 s1))).length - 0)) then (bif (inC ((((i.toNat - 0) + (List.drop j.toNat (rowAt ar1 s1)).length) : Nat) : Int) (((rowAt ar1 s1).length - 0) : Int).toNat) then (bif (Nat.ble (((((i.toNat - 0) + (List.drop j.toNat (rowAt ar1 s1)).length) : Nat) : Int).toNat + ((((rowAt ar1 s1).length - 0) : Int).toNat - ((((i.toNat - 0) + (List.drop j.toNat (rowAt ar1 s1)).length) : Nat) : Int).toNat)) (((List.take (0 + (i.toNat - 0)) (rowAt ar1 s1)) ++ (List.drop j.toNat (rowAt ar1 s1))) ++ (List.drop ((0 + (i.toNat - 0)) + (List.drop j.toNat (rowAt ar1 s1)).length) (rowAt ar1 s1))).length) then (some ((0, ((i.toNat - 0) + (List.drop j.toNat (rowAt ar1 s1)).length)), (ar0, (killAt ar1 s1), (((List.take ((((i.toNat - 0) + (List.drop j.toNat (rowAt ar1 s1)).length) : Nat) : Int).toNat (((List.take (0 + (i.toNat - 0)) (rowAt ar1 s1)) ++ (List.drop j.toNat (rowAt ar1 s1))) ++ (List.drop ((0 + (i.toNat - 0)) + (List.drop j.toNat (rowAt ar1 s1)).length) (rowAt ar1 s1)))) ++ (List.replicate ((((rowAt ar1 s1).length - 0) : Int).toNat - ((((i.toNat - 0) + (List.drop j.toNat (rowAt ar1 s1)).length) : Nat) : Int).toNat) (0 : Int))) ++ (List.drop (((((i.toNat - 0) + (List.drop j.toNat (rowAt ar1 s1)).length) : Nat) : Int).toNat + ((((rowAt ar1 s1).length - 0) : Int).toNat - ((((i.toNat - 0) + (List.drop j.toNat (rowAt ar1 s1)).length) : Nat) : Int).toNat)) (((List.take (0 + (i.toNat - 0)) (rowAt ar1 s1)) ++ (List.drop j.toNat (rowAt ar1 s1))) ++ (List.drop ((0 + (i.toNat - 0)) + (List.drop j.toNat (rowAt ar1 s1)).length) (rowAt ar1 s1)))))))) else none) else none) else none) else none) else none) else none)) else none) else none) else none) else none)
abbrev delete_I : Sch := ⟨[(0, .c (.t (.rf 1 1))), (1, .c (.t (.int .i64))), (2, .c (.t (.int .i64)))], [.ars 0 4 .bool, .ars 1 3 (.int .i64)]⟩
abbrev delete_O : FSch := ⟨.one (.c (.k (.sp 4 1))), [.dead, .dead, .ars 0 4 .bool, .ars 1 3 (.int .i64), .rows 3 (.int .i64)]⟩
def delete_E (F : Nat) : Ent := ⟨96, 3, delete_I, delete_O, fun s => delete_S F s.1.1 s.1.2.1 s.1.2.2 s.2.1 s.2.2, []⟩
theorem delete_ok (F : Nat) : FnSem Tryd.prog 96 3 delete_I delete_O (fun s => delete_S F s.1.1 s.1.2.1 s.1.2.2 s.2.1 s.2.2) :=
  fn_ok (call := callD Tryd.prog 70 plans (index_T F) 20) (Fu := 70) (pl := plOf plans 96) (d := 1000) (an := .no) (callD_ok progMixed 70 plansOk (index_T_ok F) 20) progMixed (by kernel_rfl) (anP_ok (c := bodyOf Tryd.prog 96) (p := []) (trivial)) (fun s => by kernel_rfl)
def delete_T (F : Nat) : List Ent := delete_E F :: index_T F
theorem delete_T_ok (F : Nat) : EntsOk Tryd.prog (delete_T F) := ⟨⟨by kernel_rfl, delete_ok F⟩, index_T_ok F⟩
abbrev ixIns_n : Nat := 2
def ixIns_L0 (F : Nat) (s2 : Nat) (t7 : Int) (g3 : (List Tsp)) (g4 : (List Twf)) (g5 : (List Tod)) (g6 : (List Nat)) (g7 : (List Nat)) (g8 : (List Int)) (g9 : Int) (ar01 : Ta0) (ar11 : Ta1) : Nat → Int → Option ((Int × ((List Tsp) × ((List Twf) × ((List Tod) × ((List Nat) × ((List Nat) × ((List Int) × (Int × (Ta0 × Ta1))))))))) ⊕ ((List Tsp) × ((List Twf) × ((List Tod) × ((List Nat) × ((List Nat) × ((List Int) × (Int × (Ta0 × Ta1)))))))))
  | 0, _ => none
  | n_ + 1, t8 => (bif (decide (t8 < t7)) then (bif (inB t8 (rowAt ar11 s2).length) then (bif (decide (t8.toNat < (rowAt ar11 s2).length)) then (bif (inB (nth (rowAt ar11 s2) (0 : Int) t8.toNat) (g6.length - 0)) then (bif (inB g9 (rowAt ar01 (nth g6 0 (nth (rowAt ar11 s2) (0 : Int) t8.toNat).toNat)).length) then (bif (decide (g9.toNat < (rowAt ar01 (nth g6 0 (nth (rowAt ar11 s2) (0 : Int) t8.toNat).toNat)).length)) then (bif (nth (rowAt ar01 (nth g6 0 (nth (rowAt ar11 s2) (0 : Int) t8.toNat).toNat)) false g9.toNat) then (some (.inl (t8, (g3, g4, g5, g6, g7, g8, g9, ar01, ar11)))) else (ixIns_L0 F s2 t7 g3 g4 g5 g6 g7 g8 g9 ar01 ar11 n_ (IntKind.wrap IntKind.i64 (t8 + (1 : Int))))) else none) else none) else none) else none) else none) else (some (.inr (g3, g4, g5, g6, g7, g8, g9, ar01, ar11))))
abbrev ixIns_L0_s : Sch := ⟨[(0, .c (.t (.rf 1 1))), (1, .c (.k (.hv 0))), (7, .c (.t (.int .i64))), (8, .c (.t (.int .i64)))], [.clo 94 [] [.k (.pt 1 0 0 0), .k (.pt 9 0 0 0)], .blk 154 [.k (.pt 2 0 0 0)], .blk 144 [.k (.sl 3 13), .k (.sl 4 19), .k (.sl 5 4), .k (.sl 6 1), .k (.sl 7 1), .k (.sl 8 1)], .ro Csp, .ro Cwf, .ro Cod, .ro (.rf 1 0), .ro (.rf 1 1), .ro (.int .i64), .blk 3 [.t (.int .i64)], .dead, .dead, .ars 0 4 .bool, .ars 1 3 (.int .i64)]⟩
abbrev ixIns_L0_o : Outs := [(.ret, ⟨[(4, .c (.t (.int .i64)))], [.clo 94 [] [.k (.pt 1 0 0 0), .k (.pt 9 0 0 0)], .blk 154 [.k (.pt 2 0 0 0)], .blk 144 [.k (.sl 3 13), .k (.sl 4 19), .k (.sl 5 4), .k (.sl 6 1), .k (.sl 7 1), .k (.sl 8 1)], .ro Csp, .ro Cwf, .ro Cod, .ro (.rf 1 0), .ro (.rf 1 1), .ro (.int .i64), .blk 3 [.t (.int .i64)], .dead, .dead, .ars 0 4 .bool, .ars 1 3 (.int .i64)]⟩), ((.exit 0), ⟨[], [.clo 94 [] [.k (.pt 1 0 0 0), .k (.pt 9 0 0 0)], .blk 154 [.k (.pt 2 0 0 0)], .blk 144 [.k (.sl 3 13), .k (.sl 4 19), .k (.sl 5 4), .k (.sl 6 1), .k (.sl 7 1), .k (.sl 8 1)], .ro Csp, .ro Cwf, .ro Cod, .ro (.rf 1 0), .ro (.rf 1 1), .ro (.int .i64), .blk 3 [.t (.int .i64)], .dead, .dead, .ars 0 4 .bool, .ars 1 3 (.int .i64)]⟩)]
theorem ixIns_L0_ok (F : Nat) : ∀ n, LoopSem Tryd.prog 12 (tmpsOf Tryd.prog 88 ixIns_n) (subAt (bodyOf Tryd.prog 88) [1, 0, 1, 0, 0]) ixIns_L0_s ixIns_L0_o (fun s => (ixIns_L0 F s.1.1 s.1.2.1 s.2.1 s.2.2.1 s.2.2.2.1 s.2.2.2.2.1 s.2.2.2.2.2.1 s.2.2.2.2.2.2.1 s.2.2.2.2.2.2.2.1 s.2.2.2.2.2.2.2.2.1 s.2.2.2.2.2.2.2.2.2 n s.1.2.2)) :=
  loop_ok (m := 12) (N := tmpsOf Tryd.prog 88 ixIns_n) (S := ixIns_L0_s) (o := ixIns_L0_o) (call := callD Tryd.prog 70 plans (delete_T F) 20) (Fu := 70) (pl := (plOf plans 88)) (d := 1000) (an := .no) (M := fun n (s : ixIns_L0_s.ty) => (ixIns_L0 F s.1.1 s.1.2.1 s.2.1 s.2.2.1 s.2.2.2.1 s.2.2.2.2.1 s.2.2.2.2.2.1 s.2.2.2.2.2.2.1 s.2.2.2.2.2.2.2.1 s.2.2.2.2.2.2.2.2.1 s.2.2.2.2.2.2.2.2.2 n s.1.2.2)) (callD_ok progMixed 70 plansOk (delete_T_ok F) 20) progMixed (anP_ok (c := bodyOf Tryd.prog 88) (p := [1, 0, 1, 0, 0]) (trivial)) (by kernel_rfl) (fun _ => rfl) (fun n s => by
    show (ixIns_L0 F s.1.1 s.1.2.1 s.2.1 s.2.2.1 s.2.2.2.1 s.2.2.2.2.1 s.2.2.2.2.2.1 s.2.2.2.2.2.2.1 s.2.2.2.2.2.2.2.1 s.2.2.2.2.2.2.2.2.1 s.2.2.2.2.2.2.2.2.2 (n + 1) s.1.2.2) = _
    kernel_rfl)
def ixIns_S (F : Nat) (s1 : Nat) (f0_floor_Market_Specs : (List Tsp)) (f0_floor_Market_Wafers : (List Twf)) (f0_floor_Market_Orders : (List Tod)) (f0_floor_passes : (List Nat)) (f0_at : (List Nat)) (f0_left : (List Int)) (f1 : Int) (ar0 : Ta0) (ar1 : Ta1) : Option ((Int × (Int × (Ta0 × Ta1)))) := (bif (liveA ar1 s1) then (ob (ixIns_L0 F s1 ((rowAt ar1 s1).length : Int) f0_floor_Market_Specs f0_floor_Market_Wafers f0_floor_Market_Orders f0_floor_passes f0_at f0_left f1 ar0 ar1 F (0 : Int)) (fun o_ => su o_ (fun s3 => (some (s3.1, (s3.2.2.2.2.2.2.2.1, s3.2.2.2.2.2.2.2.2.1, s3.2.2.2.2.2.2.2.2.2)))) (fun s4 => (some ((-1 : Int), (s4.2.2.2.2.2.2.1, s4.2.2.2.2.2.2.2.1, s4.2.2.2.2.2.2.2.2)))))) else none)
abbrev ixIns_I : Sch := ⟨[(0, .c (.t (.rf 1 1))), (1, .c (.k (.hv 0)))], [.clo 94 [] [.k (.pt 1 0 0 0), .k (.pt 9 0 0 0)], .blk 154 [.k (.pt 2 0 0 0)], .blk 144 [.k (.sl 3 13), .k (.sl 4 19), .k (.sl 5 4), .k (.sl 6 1), .k (.sl 7 1), .k (.sl 8 1)], .ro Csp, .ro Cwf, .ro Cod, .ro (.rf 1 0), .ro (.rf 1 1), .ro (.int .i64), .blk 3 [.t (.int .i64)], .ars 0 4 .bool, .ars 1 3 (.int .i64)]⟩
abbrev ixIns_O : FSch := ⟨.one (.c (.t (.int .i64))), [.dead, .blk 154 [.k (.pt 2 0 0 0)], .blk 144 [.k (.sl 3 13), .k (.sl 4 19), .k (.sl 5 4), .k (.sl 6 1), .k (.sl 7 1), .k (.sl 8 1)], .dead, .dead, .dead, .dead, .dead, .dead, .blk 3 [.t (.int .i64)], .dead, .dead, .ars 0 4 .bool, .ars 1 3 (.int .i64)]⟩
def ixIns_E (F : Nat) : Ent := ⟨88, 2, ixIns_I, ixIns_O, fun s => ixIns_S F s.1 s.2.1 s.2.2.1 s.2.2.2.1 s.2.2.2.2.1 s.2.2.2.2.2.1 s.2.2.2.2.2.2.1 s.2.2.2.2.2.2.2.1 s.2.2.2.2.2.2.2.2.1 s.2.2.2.2.2.2.2.2.2, []⟩
theorem ixIns_ok (F : Nat) : FnSem Tryd.prog 88 2 ixIns_I ixIns_O (fun s => ixIns_S F s.1 s.2.1 s.2.2.1 s.2.2.2.1 s.2.2.2.2.1 s.2.2.2.2.2.1 s.2.2.2.2.2.2.1 s.2.2.2.2.2.2.2.1 s.2.2.2.2.2.2.2.2.1 s.2.2.2.2.2.2.2.2.2) :=
  fn_ok (call := callD Tryd.prog 70 plans (delete_T F) 20) (Fu := 70) (pl := plOf plans 88) (d := 1000) (an := (.two .no (.two (.two .no (.one (.loop ixIns_L0_s ixIns_L0_o (fun s => (ixIns_L0 F s.1.1 s.1.2.1 s.2.1 s.2.2.1 s.2.2.2.1 s.2.2.2.2.1 s.2.2.2.2.2.1 s.2.2.2.2.2.2.1 s.2.2.2.2.2.2.2.1 s.2.2.2.2.2.2.2.2.1 s.2.2.2.2.2.2.2.2.2 F s.1.2.2))))) .no))) (callD_ok progMixed 70 plansOk (delete_T_ok F) 20) progMixed (by kernel_rfl) (anP_ok (c := bodyOf Tryd.prog 88) (p := []) (⟨trivial, ⟨⟨trivial, (ixIns_L0_ok F F)⟩, trivial⟩⟩)) (fun s => by kernel_rfl)
def ixIns_T (F : Nat) : List Ent := ixIns_E F :: delete_T F
theorem ixIns_T_ok (F : Nat) : EntsOk Tryd.prog (ixIns_T F) := ⟨⟨by kernel_rfl, ixIns_ok F⟩, delete_T_ok F⟩
end
end Go.Proofs.YtbnapejkjaddoaaDoor
