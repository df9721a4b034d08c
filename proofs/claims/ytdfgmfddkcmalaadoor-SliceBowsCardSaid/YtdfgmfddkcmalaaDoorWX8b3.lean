/- By an AI agent. -/
import Derived.Test.YtdfgmfddkcmalaaDoorWKN8
namespace Go.Proofs.YtdfgmfddkcmalaaDoor
open Go.RowKit
set_option maxRecDepth 100000
set_option maxHeartbeats 4000000
noncomputable section
abbrev isForce_n : Nat := 2
def isForce_S (F : Nat) (n : Int) (least : Int) : Option (Bool) := (ob (within_S F n least (1000000 : Int)) (fun r => (some r)))
abbrev isForce_I : Sch := ⟨[(0, .c (.t (.int .i64))), (1, .c (.t (.int .i64)))], []⟩
abbrev isForce_O : FSch := ⟨.one (.c (.t .bool)), []⟩
def isForce_E (F : Nat) : Ent := ⟨72, 2, isForce_I, isForce_O, fun s => isForce_S F s.1 s.2, []⟩
theorem isForce_ok (F : Nat) : FnSem Tryd.prog 72 2 isForce_I isForce_O (fun s => isForce_S F s.1 s.2) :=
  fn_ok (call := callD Tryd.prog 70 plans (known_T F) 20) (Fu := 70) (pl := plOf plans 72) (d := 1000) (an := .no) (callD_ok progMixed 70 plansOk (known_T_ok F) 20) progMixed (by kernel_rfl) (anP_ok (c := bodyOf Tryd.prog 72) (p := []) (trivial)) (fun s => by kernel_rfl)
def isForce_T (F : Nat) : List Ent := isForce_E F :: known_T F
theorem isForce_T_ok (F : Nat) : EntsOk Tryd.prog (isForce_T F) := ⟨⟨by kernel_rfl, isForce_ok F⟩, known_T_ok F⟩
abbrev magn_n : Nat := 1
def magn_S (F : Nat) (n : Int) : Option ((Int × Bool)) := (bif (decide (n < (0 : Int))) then (some ((IntKind.wrap IntKind.u64 (IntKind.wrap IntKind.i64 ((0 : Int) - n))), true)) else (some ((IntKind.wrap IntKind.u64 n), false)))
abbrev magn_I : Sch := ⟨[(0, .c (.t (.int .i64)))], []⟩
abbrev magn_O : FSch := ⟨.tu [(false, [.t (.int .u64)]), (false, [.t .bool])], []⟩
def magn_E (F : Nat) : Ent := ⟨99, 1, magn_I, magn_O, fun s => magn_S F s, []⟩
theorem magn_ok (F : Nat) : FnSem Tryd.prog 99 1 magn_I magn_O (fun s => magn_S F s) :=
  fn_ok (call := callD Tryd.prog 70 plans (isForce_T F) 20) (Fu := 70) (pl := plOf plans 99) (d := 1000) (an := .no) (callD_ok progMixed 70 plansOk (isForce_T_ok F) 20) progMixed (by kernel_rfl) (anP_ok (c := bodyOf Tryd.prog 99) (p := []) (trivial)) (fun s => by kernel_rfl)
def magn_T (F : Nat) : List Ent := magn_E F :: isForce_T F
theorem magn_T_ok (F : Nat) : EntsOk Tryd.prog (magn_T F) := ⟨⟨by kernel_rfl, magn_ok F⟩, isForce_T_ok F⟩
abbrev mul64_n : Nat := 2
def mul64_S (F : Nat) (x : Int) (y : Int) : Option ((Int × Int)) := (some ((IntKind.wrap IntKind.u64 ((IntKind.wrap IntKind.u64 ((IntKind.wrap IntKind.u64 ((Int.fdiv x (4294967296 : Int)) * (Int.fdiv y (4294967296 : Int)))) + (Int.fdiv (IntKind.wrap IntKind.u64 ((IntKind.wrap IntKind.u64 ((Int.fdiv x (4294967296 : Int)) * (IntKind.wrap IntKind.u64 ((BitVec.toNat ((BitVec.ofInt 64 y) &&& (BitVec.ofInt 64 (4294967295 : Int)))) : Int)))) + (Int.fdiv (IntKind.wrap IntKind.u64 ((IntKind.wrap IntKind.u64 ((BitVec.toNat ((BitVec.ofInt 64 x) &&& (BitVec.ofInt 64 (4294967295 : Int)))) : Int)) * (IntKind.wrap IntKind.u64 ((BitVec.toNat ((BitVec.ofInt 64 y) &&& (BitVec.ofInt 64 (4294967295 : Int)))) : Int)))) (4294967296 : Int)))) (4294967296 : Int)))) + (Int.fdiv (IntKind.wrap IntKind.u64 ((IntKind.wrap IntKind.u64 ((BitVec.toNat ((BitVec.ofInt 64 (IntKind.wrap IntKind.u64 ((IntKind.wrap IntKind.u64 ((Int.fdiv x (4294967296 : Int)) * (IntKind.wrap IntKind.u64 ((BitVec.toNat ((BitVec.ofInt 64 y) &&& (BitVec.ofInt 64 (4294967295 : Int)))) : Int)))) + (Int.fdiv (IntKind.wrap IntKind.u64 ((IntKind.wrap IntKind.u64 ((BitVec.toNat ((BitVec.ofInt 64 x) &&& (BitVec.ofInt 64 (4294967295 : Int)))) : Int)) * (IntKind.wrap IntKind.u64 ((BitVec.toNat ((BitVec.ofInt 64 y) &&& (BitVec.ofInt 64 (4294967295 : Int)))) : Int)))) (4294967296 : Int))))) &&& (BitVec.ofInt 64 (4294967295 : Int)))) : Int)) + (IntKind.wrap IntKind.u64 ((IntKind.wrap IntKind.u64 ((BitVec.toNat ((BitVec.ofInt 64 x) &&& (BitVec.ofInt 64 (4294967295 : Int)))) : Int)) * (Int.fdiv y (4294967296 : Int)))))) (4294967296 : Int)))), (IntKind.wrap IntKind.u64 (x * y))))
abbrev mul64_I : Sch := ⟨[(0, .c (.t (.int .u64))), (1, .c (.t (.int .u64)))], []⟩
abbrev mul64_O : FSch := ⟨.tu [(false, [.t (.int .u64)]), (false, [.t (.int .u64)])], []⟩
def mul64_E (F : Nat) : Ent := ⟨100, 2, mul64_I, mul64_O, fun s => mul64_S F s.1 s.2, []⟩
theorem mul64_ok (F : Nat) : FnSem Tryd.prog 100 2 mul64_I mul64_O (fun s => mul64_S F s.1 s.2) :=
  fn_ok (call := callD Tryd.prog 70 plans (magn_T F) 20) (Fu := 70) (pl := plOf plans 100) (d := 1000) (an := .no) (callD_ok progMixed 70 plansOk (magn_T_ok F) 20) progMixed (by kernel_rfl) (anP_ok (c := bodyOf Tryd.prog 100) (p := []) (trivial)) (fun s => by kernel_rfl)
def mul64_T (F : Nat) : List Ent := mul64_E F :: magn_T F
theorem mul64_T_ok (F : Nat) : EntsOk Tryd.prog (mul64_T F) := ⟨⟨by kernel_rfl, mul64_ok F⟩, magn_T_ok F⟩
def hold {α : Type} (F : Nat) (x : Option α) : Option α := Nat.casesOn F x (fun _ => x)
theorem hold_eq {α : Type} (F : Nat) (x : Option α) : hold F x = x := by cases F <;> rfl
def mul64h_S (F : Nat) (x y : Int) : Option (Int × Int) := hold F (mul64_S F x y)
def mul64h_E (F : Nat) : Ent := ⟨100, 2, mul64_I, mul64_O, fun s => mul64h_S F s.1 s.2, []⟩
theorem mul64h_ok (F : Nat) : FnSem Tryd.prog 100 2 mul64_I mul64_O (fun s => mul64h_S F s.1 s.2) :=
  fun s t hs => mul64_ok F s t ((hold_eq F _).symm.trans hs)
def mul64h_T (F : Nat) : List Ent := mul64h_E F :: magn_T F
theorem mul64h_T_ok (F : Nat) : EntsOk Tryd.prog (mul64h_T F) := ⟨⟨by kernel_rfl, mul64h_ok F⟩, magn_T_ok F⟩
end
end Go.Proofs.YtdfgmfddkcmalaaDoor

namespace Go.Proofs.YtdfgmfddkcmalaaDoor
open Go.RowKit
set_option maxRecDepth 100000
set_option maxHeartbeats 4000000
noncomputable section
abbrev len64_n : Nat := 1
def len64_S (F : Nat) (x : Int) : Option (Int) := (ob (bif (decide (x ≥ (4294967296 : Int))) then (some ((Int.fdiv x (4294967296 : Int)), (32 : Int))) else (some (x, (0 : Int)))) (fun s1 => (ob (bif (decide (s1.1 ≥ (65536 : Int))) then (some ((Int.fdiv s1.1 (65536 : Int)), (IntKind.wrap IntKind.i64 (s1.2 + (16 : Int))))) else (some (s1.1, s1.2))) (fun s2 => (bif (decide (s2.1 ≥ (256 : Int))) then (bif (inB (IntKind.wrap IntKind.u8 (Int.fdiv s2.1 (256 : Int))) 256) then (some (IntKind.wrap IntKind.i64 ((IntKind.wrap IntKind.i64 (s2.2 + (8 : Int))) + (IntKind.wrap IntKind.i64 (bAt (ByteArray.mk (Array.mk (List.append (List.append (0 :: (1 :: (2 :: (2 :: (3 :: (3 :: (3 :: (3 :: (4 :: (4 :: (4 :: (4 :: (4 :: (4 :: (4 :: (4 :: (5 :: (5 :: (5 :: (5 :: (5 :: (5 :: (5 :: (5 :: (5 :: (5 :: (5 :: (5 :: (5 :: (5 :: (5 :: (5 :: (6 :: (6 :: (6 :: (6 :: (6 :: (6 :: (6 :: (6 :: (6 :: (6 :: (6 :: (6 :: (6 :: (6 :: (6 :: (6 :: (6 :: (6 :: (6 :: (6 :: (6 :: (6 :: (6 :: (6 :: (6 :: (6 :: (6 :: (6 :: (6 :: (6 :: (6 :: (6 :: [])))))))))))))))))))))))))))))))))))))))))))))))))))))))))))))))) (7 :: (7 :: (7 :: (7 :: (7 :: (7 :: (7 :: (7 :: (7 :: (7 :: (7 :: (7 :: (7 :: (7 :: (7 :: (7 :: (7 :: (7 :: (7 :: (7 :: (7 :: (7 :: (7 :: (7 :: (7 :: (7 :: (7 :: (7 :: (7 :: (7 :: (7 :: (7 :: (7 :: (7 :: (7 :: (7 :: (7 :: (7 :: (7 :: (7 :: (7 :: (7 :: (7 :: (7 :: (7 :: (7 :: (7 :: (7 :: (7 :: (7 :: (7 :: (7 :: (7 :: (7 :: (7 :: (7 :: (7 :: (7 :: (7 :: (7 :: (7 :: (7 :: (7 :: (7 :: []))))))))))))))))))))))))))))))))))))))))))))))))))))))))))))))))) (List.append (8 :: (8 :: (8 :: (8 :: (8 :: (8 :: (8 :: (8 :: (8 :: (8 :: (8 :: (8 :: (8 :: (8 :: (8 :: (8 :: (8 :: (8 :: (8 :: (8 :: (8 :: (8 :: (8 :: (8 :: (8 :: (8 :: (8 :: (8 :: (8 :: (8 :: (8 :: (8 :: (8 :: (8 :: (8 :: (8 :: (8 :: (8 :: (8 :: (8 :: (8 :: (8 :: (8 :: (8 :: (8 :: (8 :: (8 :: (8 :: (8 :: (8 :: (8 :: (8 :: (8 :: (8 :: (8 :: (8 :: (8 :: (8 :: (8 :: (8 :: (8 :: (8 :: (8 :: (8 :: [])))))))))))))))))))))))))))))))))))))))))))))))))))))))))))))))) (8 :: (8 :: (8 :: (8 :: (8 :: (8 :: (8 :: (8 :: (8 :: (8 :: (8 :: (8 :: (8 :: (8 :: (8 :: (8 :: (8 :: (8 :: (8 :: (8 :: (8 :: (8 :: (8 :: (8 :: (8 :: (8 :: (8 :: (8 :: (8 :: (8 :: (8 :: (8 :: (8 :: (8 :: (8 :: (8 :: (8 :: (8 :: (8 :: (8 :: (8 :: (8 :: (8 :: (8 :: (8 :: (8 :: (8 :: (8 :: (8 :: (8 :: (8 :: (8 :: (8 :: (8 :: (8 :: (8 :: (8 :: (8 :: (8 :: (8 :: (8 :: (8 :: (8 :: (8 :: [])))))))))))))))))))))))))))))))))))))))))))))))))))))))))))))))))))) (IntKind.wrap IntKind.u8 (Int.fdiv s2.1 (256 : Int))).toNat))))) else none) else (bif (inB (IntKind.wrap IntKind.u8 s2.1) 256) then (some (IntKind.wrap IntKind.i64 (s2.2 + (IntKind.wrap IntKind.i64 (bAt (ByteArray.mk (Array.mk (List.append (List.append (0 :: (1 :: (2 :: (2 :: (3 :: (3 :: (3 :: (3 :: (4 :: (4 :: (4 :: (4 :: (4 :: (4 :: (4 :: (4 :: (5 :: (5 :: (5 :: (5 :: (5 :: (5 :: (5 :: (5 :: (5 :: (5 :: (5 :: (5 :: (5 :: (5 :: (5 :: (5 :: (6 :: (6 :: (6 :: (6 :: (6 :: (6 :: (6 :: (6 :: (6 :: (6 :: (6 :: (6 :: (6 :: (6 :: (6 :: (6 :: (6 :: (6 :: (6 :: (6 :: (6 :: (6 :: (6 :: (6 :: (6 :: (6 :: (6 :: (6 :: (6 :: (6 :: (6 :: (6 :: [])))))))))))))))))))))))))))))))))))))))))))))))))))))))))))))))) (7 :: (7 :: (7 :: (7 :: (7 :: (7 :: (7 :: (7 :: (7 :: (7 :: (7 :: (7 :: (7 :: (7 :: (7 :: (7 :: (7 :: (7 :: (7 :: (7 :: (7 :: (7 :: (7 :: (7 :: (7 :: (7 :: (7 :: (7 :: (7 :: (7 :: (7 :: (7 :: (7 :: (7 :: (7 :: (7 :: (7 :: (7 :: (7 :: (7 :: (7 :: (7 :: (7 :: (7 :: (7 :: (7 :: (7 :: (7 :: (7 :: (7 :: (7 :: (7 :: (7 :: (7 :: (7 :: (7 :: (7 :: (7 :: (7 :: (7 :: (7 :: (7 :: (7 :: (7 :: []))))))))))))))))))))))))))))))))))))))))))))))))))))))))))))))))) (List.append (8 :: (8 :: (8 :: (8 :: (8 :: (8 :: (8 :: (8 :: (8 :: (8 :: (8 :: (8 :: (8 :: (8 :: (8 :: (8 :: (8 :: (8 :: (8 :: (8 :: (8 :: (8 :: (8 :: (8 :: (8 :: (8 :: (8 :: (8 :: (8 :: (8 :: (8 :: (8 :: (8 :: (8 :: (8 :: (8 :: (8 :: (8 :: (8 :: (8 :: (8 :: (8 :: (8 :: (8 :: (8 :: (8 :: (8 :: (8 :: (8 :: (8 :: (8 :: (8 :: (8 :: (8 :: (8 :: (8 :: (8 :: (8 :: (8 :: (8 :: (8 :: (8 :: (8 :: (8 :: [])))))))))))))))))))))))))))))))))))))))))))))))))))))))))))))))) (8 :: (8 :: (8 :: (8 :: (8 :: (8 :: (8 :: (8 :: (8 :: (8 :: (8 :: (8 :: (8 :: (8 :: (8 :: (8 :: (8 :: (8 :: (8 :: (8 :: (8 :: (8 :: (8 :: (8 :: (8 :: (8 :: (8 :: (8 :: (8 :: (8 :: (8 :: (8 :: (8 :: (8 :: (8 :: (8 :: (8 :: (8 :: (8 :: (8 :: (8 :: (8 :: (8 :: (8 :: (8 :: (8 :: (8 :: (8 :: (8 :: (8 :: (8 :: (8 :: (8 :: (8 :: (8 :: (8 :: (8 :: (8 :: (8 :: (8 :: (8 :: (8 :: (8 :: (8 :: [])))))))))))))))))))))))))))))))))))))))))))))))))))))))))))))))))))) (IntKind.wrap IntKind.u8 s2.1).toNat))))) else none))))))
abbrev len64_I : Sch := ⟨[(0, .c (.t (.int .u64)))], []⟩
abbrev len64_O : FSch := ⟨.one (.c (.t (.int .i64))), []⟩
def len64_E (F : Nat) : Ent := ⟨126, 1, len64_I, len64_O, fun s => len64_S F s, []⟩
theorem len64_ok (F : Nat) : FnSem Tryd.prog 126 1 len64_I len64_O (fun s => len64_S F s) :=
  fn_ok (call := callD Tryd.prog 70 plans (mul64h_T F) 20) (Fu := 70) (pl := plOf plans 126) (d := 1000) (an := (.two .no (.two (.join [(.normal, ⟨[(0, .c (.t (.int .u64))), (2, .c (.t (.int .i64)))], []⟩)] .no) (.two (.join [(.normal, ⟨[(0, .c (.t (.int .u64))), (2, .c (.t (.int .i64)))], []⟩)] .no) .no)))) (callD_ok progMixed 70 plansOk (mul64h_T_ok F) 20) progMixed (by kernel_rfl) (anP_ok (c := bodyOf Tryd.prog 126) (p := []) (⟨trivial, ⟨trivial, ⟨trivial, trivial⟩⟩⟩)) (fun s => by kernel_rfl)
def len64_T (F : Nat) : List Ent := len64_E F :: mul64h_T F
theorem len64_T_ok (F : Nat) : EntsOk Tryd.prog (len64_T F) := ⟨⟨by kernel_rfl, len64_ok F⟩, mul64h_T_ok F⟩
abbrev lz64_n : Nat := 1
def lz64_S (F : Nat) (x : Int) : Option (Int) := (ob (len64_S F x) (fun r => (some (IntKind.wrap IntKind.i64 ((64 : Int) - r)))))
abbrev lz64_I : Sch := ⟨[(0, .c (.t (.int .u64)))], []⟩
abbrev lz64_O : FSch := ⟨.one (.c (.t (.int .i64))), []⟩
def lz64_E (F : Nat) : Ent := ⟨111, 1, lz64_I, lz64_O, fun s => lz64_S F s, []⟩
theorem lz64_ok (F : Nat) : FnSem Tryd.prog 111 1 lz64_I lz64_O (fun s => lz64_S F s) :=
  fn_ok (call := callD Tryd.prog 70 plans (len64_T F) 20) (Fu := 70) (pl := plOf plans 111) (d := 1000) (an := .no) (callD_ok progMixed 70 plansOk (len64_T_ok F) 20) progMixed (by kernel_rfl) (anP_ok (c := bodyOf Tryd.prog 111) (p := []) (trivial)) (fun s => by kernel_rfl)
def lz64_T (F : Nat) : List Ent := lz64_E F :: len64_T F
theorem lz64_T_ok (F : Nat) : EntsOk Tryd.prog (lz64_T F) := ⟨⟨by kernel_rfl, lz64_ok F⟩, len64_T_ok F⟩
abbrev div64_n : Nat := 3
def div64_L0 (F : Nat) : Nat → Int → Int → Int → Int → Int → Int → Int → Int → Int → Option ((Int × (Int × (Int × (Int × (Int × (Int × (Int × Int))))))))
  | 0, _, _, _, _, _, _, _, _, _ => none
  | n_ + 1, y1, s1, yn1, yn0, un32, un1, un0, q1, rhat => (ob (bif (decide (q1 ≥ (4294967296 : Int))) then (some (.inl (y1, s1, yn1, yn0, un32, un1, un0, q1, rhat))) else (bif (decide ((IntKind.wrap IntKind.u64 (q1 * yn0)) > (IntKind.wrap IntKind.u64 ((IntKind.wrap IntKind.u64 ((4294967296 : Int) * rhat)) + un1)))) then (some (.inl (y1, s1, yn1, yn0, un32, un1, un0, q1, rhat))) else (some (.inr (y1, s1, yn1, yn0, un32, un1, un0, q1))))) (fun o_ => su o_ (fun s2 => (bif (decide ((IntKind.wrap IntKind.u64 (s2.2.2.2.2.2.2.2.2 + s2.2.2.1)) ≥ (4294967296 : Int))) then (some (s2.1, s2.2.1, s2.2.2.1, s2.2.2.2.1, s2.2.2.2.2.1, s2.2.2.2.2.2.1, s2.2.2.2.2.2.2.1, (IntKind.wrap IntKind.u64 (s2.2.2.2.2.2.2.2.1 - (1 : Int))))) else (div64_L0 F n_ s2.1 s2.2.1 s2.2.2.1 s2.2.2.2.1 s2.2.2.2.2.1 s2.2.2.2.2.2.1 s2.2.2.2.2.2.2.1 (IntKind.wrap IntKind.u64 (s2.2.2.2.2.2.2.2.1 - (1 : Int))) (IntKind.wrap IntKind.u64 (s2.2.2.2.2.2.2.2.2 + s2.2.2.1))))) (fun s3 => (some (s3.1, s3.2.1, s3.2.2.1, s3.2.2.2.1, s3.2.2.2.2.1, s3.2.2.2.2.2.1, s3.2.2.2.2.2.2.1, s3.2.2.2.2.2.2.2)))))
abbrev div64_L0_s : Sch := ⟨[(2, .c (.t (.int .u64))), (8, .c (.t (.int .u64))), (9, .c (.t (.int .u64))), (10, .c (.t (.int .u64))), (11, .c (.t (.int .u64))), (13, .c (.t (.int .u64))), (14, .c (.t (.int .u64))), (15, .c (.t (.int .u64))), (16, .c (.t (.int .u64)))], []⟩
abbrev div64_L0_o : Outs := [((.exit 0), ⟨[(2, .c (.t (.int .u64))), (8, .c (.t (.int .u64))), (9, .c (.t (.int .u64))), (10, .c (.t (.int .u64))), (11, .c (.t (.int .u64))), (13, .c (.t (.int .u64))), (14, .c (.t (.int .u64))), (15, .c (.t (.int .u64)))], []⟩)]
theorem div64_L0_ok (F : Nat) : ∀ n, LoopSem Tryd.prog 0 (tmpsOf Tryd.prog 101 div64_n) (subAt (bodyOf Tryd.prog 101) [1, 1, 1, 1, 1, 1, 1, 1, 1, 1, 1, 1, 1, 1, 0, 0, 0]) div64_L0_s div64_L0_o (fun s => (div64_L0 F n s.1 s.2.1 s.2.2.1 s.2.2.2.1 s.2.2.2.2.1 s.2.2.2.2.2.1 s.2.2.2.2.2.2.1 s.2.2.2.2.2.2.2.1 s.2.2.2.2.2.2.2.2)) :=
  loop_ok (m := 0) (N := tmpsOf Tryd.prog 101 div64_n) (S := div64_L0_s) (o := div64_L0_o) (call := callD Tryd.prog 70 plans (lz64_T F) 20) (Fu := 70) (pl := (plOf plans 101)) (d := 1000) (an := (.two (.join [(.normal, ⟨[(2, .c (.t (.int .u64))), (8, .c (.t (.int .u64))), (9, .c (.t (.int .u64))), (10, .c (.t (.int .u64))), (11, .c (.t (.int .u64))), (13, .c (.t (.int .u64))), (14, .c (.t (.int .u64))), (15, .c (.t (.int .u64))), (16, .c (.t (.int .u64)))], []⟩), ((.exit 0), ⟨[(2, .c (.t (.int .u64))), (8, .c (.t (.int .u64))), (9, .c (.t (.int .u64))), (10, .c (.t (.int .u64))), (11, .c (.t (.int .u64))), (13, .c (.t (.int .u64))), (14, .c (.t (.int .u64))), (15, .c (.t (.int .u64)))], []⟩)] .no) .no)) (M := fun n (s : div64_L0_s.ty) => (div64_L0 F n s.1 s.2.1 s.2.2.1 s.2.2.2.1 s.2.2.2.2.1 s.2.2.2.2.2.1 s.2.2.2.2.2.2.1 s.2.2.2.2.2.2.2.1 s.2.2.2.2.2.2.2.2)) (callD_ok progMixed 70 plansOk (lz64_T_ok F) 20) progMixed (anP_ok (c := bodyOf Tryd.prog 101) (p := [1, 1, 1, 1, 1, 1, 1, 1, 1, 1, 1, 1, 1, 1, 0, 0, 0]) (⟨trivial, trivial⟩)) (by kernel_rfl) (fun _ => rfl) (fun n s => by
    show (div64_L0 F (n + 1) s.1 s.2.1 s.2.2.1 s.2.2.2.1 s.2.2.2.2.1 s.2.2.2.2.2.1 s.2.2.2.2.2.2.1 s.2.2.2.2.2.2.2.1 s.2.2.2.2.2.2.2.2) = _
    kernel_rfl)
def div64_L1 (F : Nat) : Nat → Int → Int → Int → Int → Int → Int → Int → Int → Int → Option ((Int × (Int × (Int × (Int × (Int × Int))))))
  | 0, _, _, _, _, _, _, _, _, _ => none
  | n_ + 1, y2, s5, yn11, yn01, un01, q11, rhat1, un21, q0 => (ob (bif (decide (q0 ≥ (4294967296 : Int))) then (some (.inl (y2, s5, yn11, yn01, un01, q11, rhat1, un21, q0))) else (bif (decide ((IntKind.wrap IntKind.u64 (q0 * yn01)) > (IntKind.wrap IntKind.u64 ((IntKind.wrap IntKind.u64 ((4294967296 : Int) * rhat1)) + un01)))) then (some (.inl (y2, s5, yn11, yn01, un01, q11, rhat1, un21, q0))) else (some (.inr (y2, s5, un01, q11, un21, q0))))) (fun o_ => su o_ (fun s6 => (bif (decide ((IntKind.wrap IntKind.u64 (s6.2.2.2.2.2.2.1 + s6.2.2.1)) ≥ (4294967296 : Int))) then (some (s6.1, s6.2.1, s6.2.2.2.2.1, s6.2.2.2.2.2.1, s6.2.2.2.2.2.2.2.1, (IntKind.wrap IntKind.u64 (s6.2.2.2.2.2.2.2.2 - (1 : Int))))) else (div64_L1 F n_ s6.1 s6.2.1 s6.2.2.1 s6.2.2.2.1 s6.2.2.2.2.1 s6.2.2.2.2.2.1 (IntKind.wrap IntKind.u64 (s6.2.2.2.2.2.2.1 + s6.2.2.1)) s6.2.2.2.2.2.2.2.1 (IntKind.wrap IntKind.u64 (s6.2.2.2.2.2.2.2.2 - (1 : Int)))))) (fun s7 => (some (s7.1, s7.2.1, s7.2.2.1, s7.2.2.2.1, s7.2.2.2.2.1, s7.2.2.2.2.2)))))
abbrev div64_L1_s : Sch := ⟨[(2, .c (.t (.int .u64))), (8, .c (.t (.int .u64))), (9, .c (.t (.int .u64))), (10, .c (.t (.int .u64))), (14, .c (.t (.int .u64))), (15, .c (.t (.int .u64))), (16, .c (.t (.int .u64))), (17, .c (.t (.int .u64))), (18, .c (.t (.int .u64)))], []⟩
abbrev div64_L1_o : Outs := [((.exit 2), ⟨[(2, .c (.t (.int .u64))), (8, .c (.t (.int .u64))), (14, .c (.t (.int .u64))), (15, .c (.t (.int .u64))), (17, .c (.t (.int .u64))), (18, .c (.t (.int .u64)))], []⟩)]
theorem div64_L1_ok (F : Nat) : ∀ n, LoopSem Tryd.prog 0 (tmpsOf Tryd.prog 101 div64_n) (subAt (bodyOf Tryd.prog 101) [1, 1, 1, 1, 1, 1, 1, 1, 1, 1, 1, 1, 1, 1, 1, 1, 1, 1, 0, 0, 0]) div64_L1_s div64_L1_o (fun s => (div64_L1 F n s.1 s.2.1 s.2.2.1 s.2.2.2.1 s.2.2.2.2.1 s.2.2.2.2.2.1 s.2.2.2.2.2.2.1 s.2.2.2.2.2.2.2.1 s.2.2.2.2.2.2.2.2)) :=
  loop_ok (m := 0) (N := tmpsOf Tryd.prog 101 div64_n) (S := div64_L1_s) (o := div64_L1_o) (call := callD Tryd.prog 70 plans (lz64_T F) 20) (Fu := 70) (pl := (plOf plans 101)) (d := 1000) (an := (.two (.join [(.normal, ⟨[(2, .c (.t (.int .u64))), (8, .c (.t (.int .u64))), (9, .c (.t (.int .u64))), (10, .c (.t (.int .u64))), (14, .c (.t (.int .u64))), (15, .c (.t (.int .u64))), (16, .c (.t (.int .u64))), (17, .c (.t (.int .u64))), (18, .c (.t (.int .u64)))], []⟩), ((.exit 2), ⟨[(2, .c (.t (.int .u64))), (8, .c (.t (.int .u64))), (14, .c (.t (.int .u64))), (15, .c (.t (.int .u64))), (17, .c (.t (.int .u64))), (18, .c (.t (.int .u64)))], []⟩)] .no) .no)) (M := fun n (s : div64_L1_s.ty) => (div64_L1 F n s.1 s.2.1 s.2.2.1 s.2.2.2.1 s.2.2.2.2.1 s.2.2.2.2.2.1 s.2.2.2.2.2.2.1 s.2.2.2.2.2.2.2.1 s.2.2.2.2.2.2.2.2)) (callD_ok progMixed 70 plansOk (lz64_T_ok F) 20) progMixed (anP_ok (c := bodyOf Tryd.prog 101) (p := [1, 1, 1, 1, 1, 1, 1, 1, 1, 1, 1, 1, 1, 1, 1, 1, 1, 1, 0, 0, 0]) (⟨trivial, trivial⟩)) (by kernel_rfl) (fun _ => rfl) (fun n s => by
    show (div64_L1 F (n + 1) s.1 s.2.1 s.2.2.1 s.2.2.2.1 s.2.2.2.2.1 s.2.2.2.2.2.1 s.2.2.2.2.2.2.1 s.2.2.2.2.2.2.2.1 s.2.2.2.2.2.2.2.2) = _
    kernel_rfl)
def div64_S (F : Nat) (hi : Int) (lo : Int) (y : Int) : Option ((Int × Int)) := (bif (y == (0 : Int)) then none else (bif (decide (y ≤ hi)) then none else (bif (hi == (0 : Int)) then (bif (!(y == (0 : Int))) then (bif (!(y == (0 : Int))) then (some ((IntKind.wrap IntKind.u64 (Int.tdiv lo y)), (Int.tmod lo y))) else none) else none) else (ob (lz64_S F y) (fun r => (bif (decide ((0 : Int) ≤ (IntKind.wrap IntKind.u64 r))) then (bif (decide ((0 : Int) ≤ (IntKind.wrap IntKind.u64 r))) then (bif (decide ((0 : Int) ≤ (IntKind.wrap IntKind.u64 ((64 : Int) - (IntKind.wrap IntKind.u64 r))))) then (bif (decide ((0 : Int) ≤ (IntKind.wrap IntKind.u64 r))) then (bif (!((Int.fdiv (IntKind.wrap IntKind.u64 (y * ((2 : Int) ^ (Min.min (IntKind.wrap IntKind.u64 r).toNat 64)))) (4294967296 : Int)) == (0 : Int))) then (ob (div64_L0 F F (IntKind.wrap IntKind.u64 (y * ((2 : Int) ^ (Min.min (IntKind.wrap IntKind.u64 r).toNat 64)))) (IntKind.wrap IntKind.u64 r) (Int.fdiv (IntKind.wrap IntKind.u64 (y * ((2 : Int) ^ (Min.min (IntKind.wrap IntKind.u64 r).toNat 64)))) (4294967296 : Int)) (IntKind.wrap IntKind.u64 ((BitVec.toNat ((BitVec.ofInt 64 (IntKind.wrap IntKind.u64 (y * ((2 : Int) ^ (Min.min (IntKind.wrap IntKind.u64 r).toNat 64))))) &&& (BitVec.ofInt 64 (4294967295 : Int)))) : Int)) (IntKind.wrap IntKind.u64 ((BitVec.toNat ((BitVec.ofInt 64 (IntKind.wrap IntKind.u64 (hi * ((2 : Int) ^ (Min.min (IntKind.wrap IntKind.u64 r).toNat 64))))) ||| (BitVec.ofInt 64 (Int.fdiv lo ((2 : Int) ^ (Min.min (IntKind.wrap IntKind.u64 ((64 : Int) - (IntKind.wrap IntKind.u64 r))).toNat 64)))))) : Int)) (Int.fdiv (IntKind.wrap IntKind.u64 (lo * ((2 : Int) ^ (Min.min (IntKind.wrap IntKind.u64 r).toNat 64)))) (4294967296 : Int)) (IntKind.wrap IntKind.u64 ((BitVec.toNat ((BitVec.ofInt 64 (IntKind.wrap IntKind.u64 (lo * ((2 : Int) ^ (Min.min (IntKind.wrap IntKind.u64 r).toNat 64))))) &&& (BitVec.ofInt 64 (4294967295 : Int)))) : Int)) (IntKind.wrap IntKind.u64 (Int.tdiv (IntKind.wrap IntKind.u64 ((BitVec.toNat ((BitVec.ofInt 64 (IntKind.wrap IntKind.u64 (hi * ((2 : Int) ^ (Min.min (IntKind.wrap IntKind.u64 r).toNat 64))))) ||| (BitVec.ofInt 64 (Int.fdiv lo ((2 : Int) ^ (Min.min (IntKind.wrap IntKind.u64 ((64 : Int) - (IntKind.wrap IntKind.u64 r))).toNat 64)))))) : Int)) (Int.fdiv (IntKind.wrap IntKind.u64 (y * ((2 : Int) ^ (Min.min (IntKind.wrap IntKind.u64 r).toNat 64)))) (4294967296 : Int)))) (IntKind.wrap IntKind.u64 ((IntKind.wrap IntKind.u64 ((BitVec.toNat ((BitVec.ofInt 64 (IntKind.wrap IntKind.u64 (hi * ((2 : Int) ^ (Min.min (IntKind.wrap IntKind.u64 r).toNat 64))))) ||| (BitVec.ofInt 64 (Int.fdiv lo ((2 : Int) ^ (Min.min (IntKind.wrap IntKind.u64 ((64 : Int) - (IntKind.wrap IntKind.u64 r))).toNat 64)))))) : Int)) - (IntKind.wrap IntKind.u64 ((IntKind.wrap IntKind.u64 (Int.tdiv (IntKind.wrap IntKind.u64 ((BitVec.toNat ((BitVec.ofInt 64 (IntKind.wrap IntKind.u64 (hi * ((2 : Int) ^ (Min.min (IntKind.wrap IntKind.u64 r).toNat 64))))) ||| (BitVec.ofInt 64 (Int.fdiv lo ((2 : Int) ^ (Min.min (IntKind.wrap IntKind.u64 ((64 : Int) - (IntKind.wrap IntKind.u64 r))).toNat 64)))))) : Int)) (Int.fdiv (IntKind.wrap IntKind.u64 (y * ((2 : Int) ^ (Min.min (IntKind.wrap IntKind.u64 r).toNat 64)))) (4294967296 : Int)))) * (Int.fdiv (IntKind.wrap IntKind.u64 (y * ((2 : Int) ^ (Min.min (IntKind.wrap IntKind.u64 r).toNat 64)))) (4294967296 : Int))))))) (fun s4 => (bif (!(s4.2.2.1 == (0 : Int))) then (ob (div64_L1 F F s4.1 s4.2.1 s4.2.2.1 s4.2.2.2.1 s4.2.2.2.2.2.2.1 s4.2.2.2.2.2.2.2 (IntKind.wrap IntKind.u64 ((IntKind.wrap IntKind.u64 ((IntKind.wrap IntKind.u64 ((IntKind.wrap IntKind.u64 (s4.2.2.2.2.1 * (4294967296 : Int))) + s4.2.2.2.2.2.1)) - (IntKind.wrap IntKind.u64 (s4.2.2.2.2.2.2.2 * s4.1)))) - (IntKind.wrap IntKind.u64 ((IntKind.wrap IntKind.u64 (Int.tdiv (IntKind.wrap IntKind.u64 ((IntKind.wrap IntKind.u64 ((IntKind.wrap IntKind.u64 (s4.2.2.2.2.1 * (4294967296 : Int))) + s4.2.2.2.2.2.1)) - (IntKind.wrap IntKind.u64 (s4.2.2.2.2.2.2.2 * s4.1)))) s4.2.2.1)) * s4.2.2.1)))) (IntKind.wrap IntKind.u64 ((IntKind.wrap IntKind.u64 ((IntKind.wrap IntKind.u64 (s4.2.2.2.2.1 * (4294967296 : Int))) + s4.2.2.2.2.2.1)) - (IntKind.wrap IntKind.u64 (s4.2.2.2.2.2.2.2 * s4.1)))) (IntKind.wrap IntKind.u64 (Int.tdiv (IntKind.wrap IntKind.u64 ((IntKind.wrap IntKind.u64 ((IntKind.wrap IntKind.u64 (s4.2.2.2.2.1 * (4294967296 : Int))) + s4.2.2.2.2.2.1)) - (IntKind.wrap IntKind.u64 (s4.2.2.2.2.2.2.2 * s4.1)))) s4.2.2.1))) (fun s8 => (bif (decide ((0 : Int) ≤ s8.2.1)) then (some ((IntKind.wrap IntKind.u64 ((IntKind.wrap IntKind.u64 (s8.2.2.2.1 * (4294967296 : Int))) + s8.2.2.2.2.2)), (Int.fdiv (IntKind.wrap IntKind.u64 ((IntKind.wrap IntKind.u64 ((IntKind.wrap IntKind.u64 (s8.2.2.2.2.1 * (4294967296 : Int))) + s8.2.2.1)) - (IntKind.wrap IntKind.u64 (s8.2.2.2.2.2 * s8.1)))) ((2 : Int) ^ (Min.min s8.2.1.toNat 64))))) else none))) else none))) else none) else none) else none) else none) else none))))))
abbrev div64_I : Sch := ⟨[(0, .c (.t (.int .u64))), (1, .c (.t (.int .u64))), (2, .c (.t (.int .u64)))], []⟩
abbrev div64_O : FSch := ⟨.tu [(false, [.t (.int .u64)]), (false, [.t (.int .u64)])], []⟩
def div64_E (F : Nat) : Ent := ⟨101, 3, div64_I, div64_O, fun s => div64_S F s.1 s.2.1 s.2.2, []⟩
theorem div64_ok (F : Nat) : FnSem Tryd.prog 101 3 div64_I div64_O (fun s => div64_S F s.1 s.2.1 s.2.2) :=
  fn_ok (call := callD Tryd.prog 70 plans (lz64_T F) 20) (Fu := 70) (pl := plOf plans 101) (d := 1000) (an := (.two .no (.two .no (.two .no (.two .no (.two .no (.two .no (.two .no (.two .no (.two .no (.two .no (.two .no (.two .no (.two .no (.two .no (.two (.one (.loop div64_L0_s div64_L0_o (fun s => (div64_L0 F F s.1 s.2.1 s.2.2.1 s.2.2.2.1 s.2.2.2.2.1 s.2.2.2.2.2.1 s.2.2.2.2.2.2.1 s.2.2.2.2.2.2.2.1 s.2.2.2.2.2.2.2.2)))) (.two .no (.two .no (.two .no (.two (.one (.loop div64_L1_s div64_L1_o (fun s => (div64_L1 F F s.1 s.2.1 s.2.2.1 s.2.2.2.1 s.2.2.2.2.1 s.2.2.2.2.2.1 s.2.2.2.2.2.2.1 s.2.2.2.2.2.2.2.1 s.2.2.2.2.2.2.2.2)))) .no)))))))))))))))))))) (callD_ok progMixed 70 plansOk (lz64_T_ok F) 20) progMixed (by kernel_rfl) (anP_ok (c := bodyOf Tryd.prog 101) (p := []) (⟨trivial, ⟨trivial, ⟨trivial, ⟨trivial, ⟨trivial, ⟨trivial, ⟨trivial, ⟨trivial, ⟨trivial, ⟨trivial, ⟨trivial, ⟨trivial, ⟨trivial, ⟨trivial, ⟨(div64_L0_ok F F), ⟨trivial, ⟨trivial, ⟨trivial, ⟨(div64_L1_ok F F), trivial⟩⟩⟩⟩⟩⟩⟩⟩⟩⟩⟩⟩⟩⟩⟩⟩⟩⟩⟩)) (fun s => by kernel_rfl)
def div64_T (F : Nat) : List Ent := div64_E F :: lz64_T F
theorem div64_T_ok (F : Nat) : EntsOk Tryd.prog (div64_T F) := ⟨⟨by kernel_rfl, div64_ok F⟩, lz64_T_ok F⟩
abbrev prod_n : Nat := 2
def prod_S (F : Nat) (a : Int) (b : Int) : Option ((Int × (Int × Bool))) := (ob (magn_S F a) (fun r => (ob (magn_S F b) (fun r1 => (ob (mul64h_S F r.1 r1.1) (fun r2 => (bif (!(r.2 == r1.2)) then (some (r2.1, (r2.2, ((IntKind.wrap IntKind.u64 ((BitVec.toNat ((BitVec.ofInt 64 r2.1) ||| (BitVec.ofInt 64 r2.2))) : Int)) != (0 : Int))))) else (some (r2.1, (r2.2, false))))))))))
abbrev prod_I : Sch := ⟨[(0, .c (.t (.int .i64))), (1, .c (.t (.int .i64)))], []⟩
abbrev prod_O : FSch := ⟨.one (.ag [.t (.pair (.int .u64) (.pair (.int .u64) .bool))]), []⟩
def prod_E (F : Nat) : Ent := ⟨82, 2, prod_I, prod_O, fun s => prod_S F s.1 s.2, []⟩
theorem prod_ok (F : Nat) : FnSem Tryd.prog 82 2 prod_I prod_O (fun s => prod_S F s.1 s.2) :=
  fn_ok (call := callD Tryd.prog 70 plans (div64_T F) 20) (Fu := 70) (pl := plOf plans 82) (d := 1000) (an := .no) (callD_ok progMixed 70 plansOk (div64_T_ok F) 20) progMixed (by kernel_rfl) (anP_ok (c := bodyOf Tryd.prog 82) (p := []) (trivial)) (fun s => by kernel_rfl)
def prod_T (F : Nat) : List Ent := prod_E F :: div64_T F
theorem prod_T_ok (F : Nat) : EntsOk Tryd.prog (prod_T F) := ⟨⟨by kernel_rfl, prod_ok F⟩, div64_T_ok F⟩
abbrev over_n : Nat := 2
def over_S (F : Nat) (w : (Int × (Int × Bool))) (c : Int) : Option ((Int × (Int × Bool))) := (bif (decide (w.1 ≥ (IntKind.wrap IntKind.u64 c))) then (some ((0 : Int), (0 : Int), false)) else (ob (div64_S F w.1 w.2.1 (IntKind.wrap IntKind.u64 c)) (fun r => (bif (decide (r.1 > (1000000000000000 : Int))) then (some ((0 : Int), (0 : Int), false)) else (ob (bif w.2.2 then (some (c, (IntKind.wrap IntKind.i64 ((0 : Int) - (IntKind.wrap IntKind.i64 r.1))), (IntKind.wrap IntKind.i64 ((0 : Int) - (IntKind.wrap IntKind.i64 r.2))))) else (some (c, (IntKind.wrap IntKind.i64 r.1), (IntKind.wrap IntKind.i64 r.2)))) (fun s1 => (bif (decide (s1.2.2 < (0 : Int))) then (some ((IntKind.wrap IntKind.i64 (s1.2.1 - (1 : Int))), (IntKind.wrap IntKind.i64 (s1.2.2 + s1.1)), true)) else (some (s1.2.1, s1.2.2, true)))))))))
abbrev over_I : Sch := ⟨[(0, .ag [.t (.pair (.int .u64) (.pair (.int .u64) .bool))]), (1, .c (.t (.int .i64)))], []⟩
abbrev over_O : FSch := ⟨.tu [(false, [.t (.int .i64)]), (false, [.t (.int .i64)]), (false, [.t .bool])], []⟩
def over_E (F : Nat) : Ent := ⟨83, 2, over_I, over_O, fun s => over_S F s.1 s.2, []⟩
theorem over_ok (F : Nat) : FnSem Tryd.prog 83 2 over_I over_O (fun s => over_S F s.1 s.2) :=
  fn_ok (call := callD Tryd.prog 70 plans (prod_T F) 20) (Fu := 70) (pl := plOf plans 83) (d := 1000) (an := (.two .no (.two .no (.two .no (.two .no (.two .no (.two (.join [(.normal, ⟨[(1, .c (.t (.int .i64))), (4, .c (.t (.int .i64))), (5, .c (.t (.int .i64)))], []⟩)] .no) .no))))))) (callD_ok progMixed 70 plansOk (prod_T_ok F) 20) progMixed (by kernel_rfl) (anP_ok (c := bodyOf Tryd.prog 83) (p := []) (⟨trivial, ⟨trivial, ⟨trivial, ⟨trivial, ⟨trivial, ⟨trivial, trivial⟩⟩⟩⟩⟩⟩)) (fun s => by kernel_rfl)
def over_T (F : Nat) : List Ent := over_E F :: prod_T F
theorem over_T_ok (F : Nat) : EntsOk Tryd.prog (over_T F) := ⟨⟨by kernel_rfl, over_ok F⟩, prod_T_ok F⟩
end
end Go.Proofs.YtdfgmfddkcmalaaDoor

namespace Go.Proofs.YtdfgmfddkcmalaaDoor
open Go.RowKit
set_option maxRecDepth 100000
set_option maxHeartbeats 4000000
noncomputable section
abbrev indexI_n : Nat := 2
def indexI_L0 (F : Nat) (t7 : Int) (g0 : (List Int)) : Nat → Int → Option ((Int × (List Int)) ⊕ (List Int))
  | 0, _ => none
  | n_ + 1, t8 => (bif (decide (t8 < t7)) then (bif (inB t8 (g0.length - 0)) then (bif (decide ((nth g0 (0 : Int) t8.toNat) < (-1000000000000000 : Int))) then (some (.inl (t8, g0))) else (bif (decide ((nth g0 (0 : Int) t8.toNat) > (1000000000000000 : Int))) then (some (.inl (t8, g0))) else (indexI_L0 F t7 g0 n_ (IntKind.wrap IntKind.i64 (t8 + (1 : Int)))))) else none) else (some (.inr g0)))
abbrev indexI_L0_s : Sch := ⟨[(0, .c (.k (.sl 0 1))), (1, .c (.k (.lit (.func (.func 98) ⟨[]⟩ ⟨[]⟩)))), (7, .c (.t (.int .i64))), (8, .c (.t (.int .i64)))], [.ro (.int .i64)]⟩
abbrev indexI_L0_o : Outs := [(.ret, ⟨[(4, .c (.t (.int .i64)))], [.ro (.int .i64)]⟩), ((.exit 0), ⟨[], [.ro (.int .i64)]⟩)]
theorem indexI_L0_ok (F : Nat) : ∀ n, LoopSem Tryd.prog 1 (tmpsOf Tryd.prog 78 indexI_n) (subAt (bodyOf Tryd.prog 78) [1, 0, 1, 0, 0]) indexI_L0_s indexI_L0_o (fun s => (indexI_L0 F s.1.1 s.2 n s.1.2)) :=
  loop_ok (m := 1) (N := tmpsOf Tryd.prog 78 indexI_n) (S := indexI_L0_s) (o := indexI_L0_o) (call := callD Tryd.prog 70 plans (over_T F) 20) (Fu := 70) (pl := (plOf plans 78)) (d := 1000) (an := .no) (M := fun n (s : indexI_L0_s.ty) => (indexI_L0 F s.1.1 s.2 n s.1.2)) (callD_ok progMixed 70 plansOk (over_T_ok F) 20) progMixed (anP_ok (c := bodyOf Tryd.prog 78) (p := [1, 0, 1, 0, 0]) (trivial)) (by kernel_rfl) (fun _ => rfl) (fun n s => by
    show (indexI_L0 F s.1.1 s.2 (n + 1) s.1.2) = _
    kernel_rfl)
def indexI_S (F : Nat) (s1 : (List Int)) : Option (Int) := (ob (indexI_L0 F ((s1.length - 0) : Int) s1 F (0 : Int)) (fun o_ => su o_ (fun s2 => (some s2.1)) (fun s3 => (some (-1 : Int)))))
abbrev indexI_I : Sch := ⟨[(0, .c (.k (.sl 0 1))), (1, .c (.k (.lit (.func (.func 98) ⟨[]⟩ ⟨[]⟩))))], [.ro (.int .i64)]⟩
abbrev indexI_O : FSch := ⟨.one (.c (.t (.int .i64))), [.dead]⟩
def indexI_E (F : Nat) : Ent := ⟨78, 2, indexI_I, indexI_O, fun s => indexI_S F s, []⟩
theorem indexI_ok (F : Nat) : FnSem Tryd.prog 78 2 indexI_I indexI_O (fun s => indexI_S F s) :=
  fn_ok (call := callD Tryd.prog 70 plans (over_T F) 20) (Fu := 70) (pl := plOf plans 78) (d := 1000) (an := (.two .no (.two (.two .no (.one (.loop indexI_L0_s indexI_L0_o (fun s => (indexI_L0 F s.1.1 s.2 F s.1.2))))) .no))) (callD_ok progMixed 70 plansOk (over_T_ok F) 20) progMixed (by kernel_rfl) (anP_ok (c := bodyOf Tryd.prog 78) (p := []) (⟨trivial, ⟨⟨trivial, (indexI_L0_ok F F)⟩, trivial⟩⟩)) (fun s => by kernel_rfl)
def indexI_T (F : Nat) : List Ent := indexI_E F :: over_T F
theorem indexI_T_ok (F : Nat) : EntsOk Tryd.prog (indexI_T F) := ⟨⟨by kernel_rfl, indexI_ok F⟩, over_T_ok F⟩
abbrev contI_n : Nat := 2
def contI_S (F : Nat) (s1 : (List Int)) : Option (Bool) := (ob (indexI_S F s1) (fun r => (some (decide (r ≥ (0 : Int))))))
abbrev contI_I : Sch := ⟨[(0, .c (.k (.sl 0 1))), (1, .c (.k (.lit (.func (.func 98) ⟨[]⟩ ⟨[]⟩))))], [.ro (.int .i64)]⟩
abbrev contI_O : FSch := ⟨.one (.c (.t .bool)), [.dead]⟩
def contI_E (F : Nat) : Ent := ⟨64, 2, contI_I, contI_O, fun s => contI_S F s, []⟩
theorem contI_ok (F : Nat) : FnSem Tryd.prog 64 2 contI_I contI_O (fun s => contI_S F s) :=
  fn_ok (call := callD Tryd.prog 70 plans (indexI_T F) 20) (Fu := 70) (pl := plOf plans 64) (d := 1000) (an := .no) (callD_ok progMixed 70 plansOk (indexI_T_ok F) 20) progMixed (by kernel_rfl) (anP_ok (c := bodyOf Tryd.prog 64) (p := []) (trivial)) (fun s => by kernel_rfl)
def contI_T (F : Nat) : List Ent := contI_E F :: indexI_T F
theorem contI_T_ok (F : Nat) : EntsOk Tryd.prog (contI_T F) := ⟨⟨by kernel_rfl, contI_ok F⟩, indexI_T_ok F⟩
abbrev isN_n : Nat := 1
def isN_S (F : Nat) (l : (List Int)) : Option (Bool) := (ob (contI_S F l) (fun r => (some (!r))))
abbrev isN_I : Sch := ⟨[(0, .c (.k (.sl 0 1)))], [.ro (.int .i64)]⟩
abbrev isN_O : FSch := ⟨.one (.c (.t .bool)), [.dead]⟩
def isN_E (F : Nat) : Ent := ⟨81, 1, isN_I, isN_O, fun s => isN_S F s, []⟩
theorem isN_ok (F : Nat) : FnSem Tryd.prog 81 1 isN_I isN_O (fun s => isN_S F s) :=
  fn_ok (call := callD Tryd.prog 70 plans (contI_T F) 20) (Fu := 70) (pl := plOf plans 81) (d := 1000) (an := .no) (callD_ok progMixed 70 plansOk (contI_T_ok F) 20) progMixed (by kernel_rfl) (anP_ok (c := bodyOf Tryd.prog 81) (p := []) (trivial)) (fun s => by kernel_rfl)
def isN_T (F : Nat) : List Ent := isN_E F :: contI_T F
theorem isN_T_ok (F : Nat) : EntsOk Tryd.prog (isN_T F) := ⟨⟨by kernel_rfl, isN_ok F⟩, contI_T_ok F⟩
abbrev indexV_n : Nat := 2
def indexV_L0 (F : Nat) (t7 : Int) (g0 : (List (Int × Int))) : Nat → Int → Option ((Int × (List (Int × Int))) ⊕ (List (Int × Int)))
  | 0, _ => none
  | n_ + 1, t8 => (bif (decide (t8 < t7)) then (bif (inB t8 (g0.length - 0)) then (ob (isN_S F ((nth g0 (TC.dflt (TC.pair (TC.int IntKind.i64) (TC.int IntKind.i64))) t8.toNat).1 :: ((nth g0 (TC.dflt (TC.pair (TC.int IntKind.i64) (TC.int IntKind.i64))) t8.toNat).2 :: []))) (fun r => (bif (!r) then (some (.inl (t8, g0))) else (bif (decide ((nth g0 (TC.dflt (TC.pair (TC.int IntKind.i64) (TC.int IntKind.i64))) t8.toNat).1 > (nth g0 (TC.dflt (TC.pair (TC.int IntKind.i64) (TC.int IntKind.i64))) t8.toNat).2)) then (some (.inl (t8, g0))) else (indexV_L0 F t7 g0 n_ (IntKind.wrap IntKind.i64 (t8 + (1 : Int)))))))) else none) else (some (.inr g0)))
abbrev indexV_L0_s : Sch := ⟨[(0, .c (.k (.sl 0 2))), (1, .c (.k (.lit (.func (.func 103) ⟨[]⟩ ⟨[]⟩)))), (7, .c (.t (.int .i64))), (8, .c (.t (.int .i64)))], [.ro (.pair (.int .i64) (.int .i64))]⟩
abbrev indexV_L0_o : Outs := [(.ret, ⟨[(4, .c (.t (.int .i64)))], [.ro (.pair (.int .i64) (.int .i64))]⟩), ((.exit 0), ⟨[], [.ro (.pair (.int .i64) (.int .i64))]⟩)]
theorem indexV_L0_ok (F : Nat) : ∀ n, LoopSem Tryd.prog 1 (tmpsOf Tryd.prog 112 indexV_n) (subAt (bodyOf Tryd.prog 112) [1, 0, 1, 0, 0]) indexV_L0_s indexV_L0_o (fun s => (indexV_L0 F s.1.1 s.2 n s.1.2)) :=
  loop_ok (m := 1) (N := tmpsOf Tryd.prog 112 indexV_n) (S := indexV_L0_s) (o := indexV_L0_o) (call := callD Tryd.prog 70 plans (isN_T F) 20) (Fu := 70) (pl := (plOf plans 112)) (d := 1000) (an := .no) (M := fun n (s : indexV_L0_s.ty) => (indexV_L0 F s.1.1 s.2 n s.1.2)) (callD_ok progMixed 70 plansOk (isN_T_ok F) 20) progMixed (anP_ok (c := bodyOf Tryd.prog 112) (p := [1, 0, 1, 0, 0]) (trivial)) (by kernel_rfl) (fun _ => rfl) (fun n s => by
    show (indexV_L0 F s.1.1 s.2 (n + 1) s.1.2) = _
    kernel_rfl)
def indexV_S (F : Nat) (s1 : (List (Int × Int))) : Option (Int) := (ob (indexV_L0 F ((s1.length - 0) : Int) s1 F (0 : Int)) (fun o_ => su o_ (fun s2 => (some s2.1)) (fun s3 => (some (-1 : Int)))))
abbrev indexV_I : Sch := ⟨[(0, .c (.k (.sl 0 2))), (1, .c (.k (.lit (.func (.func 103) ⟨[]⟩ ⟨[]⟩))))], [.ro (.pair (.int .i64) (.int .i64))]⟩
abbrev indexV_O : FSch := ⟨.one (.c (.t (.int .i64))), [.dead]⟩
def indexV_E (F : Nat) : Ent := ⟨112, 2, indexV_I, indexV_O, fun s => indexV_S F s, []⟩
theorem indexV_ok (F : Nat) : FnSem Tryd.prog 112 2 indexV_I indexV_O (fun s => indexV_S F s) :=
  fn_ok (call := callD Tryd.prog 70 plans (isN_T F) 20) (Fu := 70) (pl := plOf plans 112) (d := 1000) (an := (.two .no (.two (.two .no (.one (.loop indexV_L0_s indexV_L0_o (fun s => (indexV_L0 F s.1.1 s.2 F s.1.2))))) .no))) (callD_ok progMixed 70 plansOk (isN_T_ok F) 20) progMixed (by kernel_rfl) (anP_ok (c := bodyOf Tryd.prog 112) (p := []) (⟨trivial, ⟨⟨trivial, (indexV_L0_ok F F)⟩, trivial⟩⟩)) (fun s => by kernel_rfl)
def indexV_T (F : Nat) : List Ent := indexV_E F :: isN_T F
theorem indexV_T_ok (F : Nat) : EntsOk Tryd.prog (indexV_T F) := ⟨⟨by kernel_rfl, indexV_ok F⟩, isN_T_ok F⟩
abbrev contV_n : Nat := 2
def contV_S (F : Nat) (s1 : (List (Int × Int))) : Option (Bool) := (ob (indexV_S F s1) (fun r => (some (decide (r ≥ (0 : Int))))))
abbrev contV_I : Sch := ⟨[(0, .c (.k (.sl 0 2))), (1, .c (.k (.lit (.func (.func 103) ⟨[]⟩ ⟨[]⟩))))], [.ro (.pair (.int .i64) (.int .i64))]⟩
abbrev contV_O : FSch := ⟨.one (.c (.t .bool)), [.dead]⟩
def contV_E (F : Nat) : Ent := ⟨102, 2, contV_I, contV_O, fun s => contV_S F s, []⟩
theorem contV_ok (F : Nat) : FnSem Tryd.prog 102 2 contV_I contV_O (fun s => contV_S F s) :=
  fn_ok (call := callD Tryd.prog 70 plans (indexV_T F) 20) (Fu := 70) (pl := plOf plans 102) (d := 1000) (an := .no) (callD_ok progMixed 70 plansOk (indexV_T_ok F) 20) progMixed (by kernel_rfl) (anP_ok (c := bodyOf Tryd.prog 102) (p := []) (trivial)) (fun s => by kernel_rfl)
def contV_T (F : Nat) : List Ent := contV_E F :: indexV_T F
theorem contV_T_ok (F : Nat) : EntsOk Tryd.prog (contV_T F) := ⟨⟨by kernel_rfl, contV_ok F⟩, indexV_T_ok F⟩
abbrev validR_n : Nat := 1
def validR_S (F : Nat) (l : (List (Int × Int))) : Option (Bool) := (ob (contV_S F l) (fun r => (some (!r))))
abbrev validR_I : Sch := ⟨[(0, .c (.k (.sl 0 2)))], [.ro (.pair (.int .i64) (.int .i64))]⟩
abbrev validR_O : FSch := ⟨.one (.c (.t .bool)), [.dead]⟩
def validR_E (F : Nat) : Ent := ⟨84, 1, validR_I, validR_O, fun s => validR_S F s, []⟩
theorem validR_ok (F : Nat) : FnSem Tryd.prog 84 1 validR_I validR_O (fun s => validR_S F s) :=
  fn_ok (call := callD Tryd.prog 70 plans (contV_T F) 20) (Fu := 70) (pl := plOf plans 84) (d := 1000) (an := .no) (callD_ok progMixed 70 plansOk (contV_T_ok F) 20) progMixed (by kernel_rfl) (anP_ok (c := bodyOf Tryd.prog 84) (p := []) (trivial)) (fun s => by kernel_rfl)
def validR_T (F : Nat) : List Ent := validR_E F :: contV_T F
theorem validR_T_ok (F : Nat) : EntsOk Tryd.prog (validR_T F) := ⟨⟨by kernel_rfl, validR_ok F⟩, contV_T_ok F⟩
abbrev fits_n : Nat := 2
def fits_S (F : Nat) (low : Int) (high : Int) : Option (((Int × Int) × Int)) := (ob (isN_S F (low :: (high :: []))) (fun r => (bif (!r) then (some (((0 : Int), (0 : Int)), (10 : Int))) else (some ((low, high), (0 : Int))))))
abbrev fits_I : Sch := ⟨[(0, .c (.t (.int .i64))), (1, .c (.t (.int .i64)))], []⟩
abbrev fits_O : FSch := ⟨.tu [(true, [.t (.pair (.int .i64) (.int .i64))]), (false, [.t (.int .i64)])], []⟩
def fits_E (F : Nat) : Ent := ⟨104, 2, fits_I, fits_O, fun s => fits_S F s.1 s.2, []⟩
theorem fits_ok (F : Nat) : FnSem Tryd.prog 104 2 fits_I fits_O (fun s => fits_S F s.1 s.2) :=
  fn_ok (call := callD Tryd.prog 70 plans (validR_T F) 20) (Fu := 70) (pl := plOf plans 104) (d := 1000) (an := .no) (callD_ok progMixed 70 plansOk (validR_T_ok F) 20) progMixed (by kernel_rfl) (anP_ok (c := bodyOf Tryd.prog 104) (p := []) (trivial)) (fun s => by kernel_rfl)
def fits_T (F : Nat) : List Ent := fits_E F :: validR_T F
theorem fits_T_ok (F : Nat) : EntsOk Tryd.prog (fits_T F) := ⟨⟨by kernel_rfl, fits_ok F⟩, validR_T_ok F⟩
abbrev fracOk_n : Nat := 1
def fracOk_S (F : Nat) (f : (Int × Int)) : Option (Bool) := (ob (isN_S F (f.1 :: [])) (fun r => (bif r then (bif (decide (f.2 ≥ (1 : Int))) then (some (decide (f.2 ≤ (1000000000000000 : Int)))) else (some false)) else (some false))))
abbrev fracOk_I : Sch := ⟨[(0, .ag [.t (.pair (.int .i64) (.int .i64))])], []⟩
abbrev fracOk_O : FSch := ⟨.one (.c (.t .bool)), []⟩
def fracOk_E (F : Nat) : Ent := ⟨85, 1, fracOk_I, fracOk_O, fun s => fracOk_S F s, []⟩
theorem fracOk_ok (F : Nat) : FnSem Tryd.prog 85 1 fracOk_I fracOk_O (fun s => fracOk_S F s) :=
  fn_ok (call := callD Tryd.prog 70 plans (fits_T F) 20) (Fu := 70) (pl := plOf plans 85) (d := 1000) (an := .no) (callD_ok progMixed 70 plansOk (fits_T_ok F) 20) progMixed (by kernel_rfl) (anP_ok (c := bodyOf Tryd.prog 85) (p := []) (trivial)) (fun s => by kernel_rfl)
def fracOk_T (F : Nat) : List Ent := fracOk_E F :: fits_T F
theorem fracOk_T_ok (F : Nat) : EntsOk Tryd.prog (fracOk_T F) := ⟨⟨by kernel_rfl, fracOk_ok F⟩, fits_T_ok F⟩
abbrev hadd_n : Nat := 4
def hadd_S (F : Nat) (a : Int) (b : Int) (c : Int) (h : ((Int × Int) × (Bool × Bool))) : Option (((Int × Int) × (Bool × Bool))) := (ob (prod_S F a b) (fun r => (ob (over_S F r c) (fun r1 => (bif (!r1.2.2) then (some (h.1, (h.2.1, true))) else (ob (bif (decide (r1.2.1 > (0 : Int))) then (some ((r1.1, (IntKind.wrap IntKind.i64 (r1.1 + (1 : Int)))), h)) else (some ((r1.1, r1.1), h))) (fun s1 => (bif (!s1.2.2.1) then (some (((if s1.1.1 < s1.1.1 then s1.1.1 else s1.1.1), (if s1.1.2 > s1.1.2 then s1.1.2 else s1.1.2)), (true, s1.2.2.2))) else (some (((if s1.1.1 < s1.2.1.1 then s1.1.1 else s1.2.1.1), (if s1.1.2 > s1.2.1.2 then s1.1.2 else s1.2.1.2)), s1.2.2))))))))))
abbrev hadd_I : Sch := ⟨[(0, .c (.k (.pt 0 0 0 0))), (1, .c (.t (.int .i64))), (2, .c (.t (.int .i64))), (3, .c (.t (.int .i64)))], [.blk 140 [.t (.pair (.pair (.int .i64) (.int .i64)) (.pair .bool .bool))]]⟩
abbrev hadd_O : FSch := ⟨.tu [], [.blk 140 [.t (.pair (.pair (.int .i64) (.int .i64)) (.pair .bool .bool))]]⟩
def hadd_E (F : Nat) : Ent := ⟨86, 4, hadd_I, hadd_O, fun s => hadd_S F s.1.1 s.1.2.1 s.1.2.2 s.2, []⟩
theorem hadd_ok (F : Nat) : FnSem Tryd.prog 86 4 hadd_I hadd_O (fun s => hadd_S F s.1.1 s.1.2.1 s.1.2.2 s.2) :=
  fn_ok (call := callD Tryd.prog 70 plans (fracOk_T F) 20) (Fu := 70) (pl := plOf plans 86) (d := 1000) (an := (.two .no (.two .no (.two .no (.two (.join [(.normal, ⟨[(0, .c (.k (.pt 0 0 0 0))), (8, .c (.t (.int .i64))), (11, .c (.t (.int .i64)))], [.blk 140 [.t (.pair (.pair (.int .i64) (.int .i64)) (.pair .bool .bool))]]⟩)] .no) .no))))) (callD_ok progMixed 70 plansOk (fracOk_T_ok F) 20) progMixed (by kernel_rfl) (anP_ok (c := bodyOf Tryd.prog 86) (p := []) (⟨trivial, ⟨trivial, ⟨trivial, ⟨trivial, trivial⟩⟩⟩⟩)) (fun s => by kernel_rfl)
def hadd_T (F : Nat) : List Ent := hadd_E F :: fracOk_T F
theorem hadd_T_ok (F : Nat) : EntsOk Tryd.prog (hadd_T F) := ⟨⟨by kernel_rfl, hadd_ok F⟩, fracOk_T_ok F⟩
abbrev hres_n : Nat := 1
def hres_S (F : Nat) (h : ((Int × Int) × (Bool × Bool))) : Option ((((Int × Int) × Int) × ((Int × Int) × (Bool × Bool)))) := (bif h.2.2 then (some ((((0 : Int), (0 : Int)), (10 : Int)), h)) else (ob (fits_S F h.1.1 h.1.2) (fun r => (some ((r.1, r.2), h)))))
abbrev hres_I : Sch := ⟨[(0, .c (.k (.pt 0 0 0 0)))], [.blk 140 [.t (.pair (.pair (.int .i64) (.int .i64)) (.pair .bool .bool))]]⟩
abbrev hres_O : FSch := ⟨.tu [(true, [.t (.pair (.int .i64) (.int .i64))]), (false, [.t (.int .i64)])], [.blk 140 [.t (.pair (.pair (.int .i64) (.int .i64)) (.pair .bool .bool))]]⟩
def hres_E (F : Nat) : Ent := ⟨87, 1, hres_I, hres_O, fun s => hres_S F s, []⟩
theorem hres_ok (F : Nat) : FnSem Tryd.prog 87 1 hres_I hres_O (fun s => hres_S F s) :=
  fn_ok (call := callD Tryd.prog 70 plans (hadd_T F) 20) (Fu := 70) (pl := plOf plans 87) (d := 1000) (an := .no) (callD_ok progMixed 70 plansOk (hadd_T_ok F) 20) progMixed (by kernel_rfl) (anP_ok (c := bodyOf Tryd.prog 87) (p := []) (trivial)) (fun s => by kernel_rfl)
def hres_T (F : Nat) : List Ent := hres_E F :: hadd_T F
theorem hres_T_ok (F : Nat) : EntsOk Tryd.prog (hres_T F) := ⟨⟨by kernel_rfl, hres_ok F⟩, hadd_T_ok F⟩
abbrev scale_n : Nat := 2
def scale_S (F : Nat) (r : (Int × Int)) (f : (Int × Int)) : Option (((Int × Int) × Int)) := (ob (validR_S F (r :: [])) (fun r1 => (bif (!r1) then (some (((0 : Int), (0 : Int)), (2 : Int))) else (ob (fracOk_S F f) (fun r2 => (bif (!r2) then (some (((0 : Int), (0 : Int)), (2 : Int))) else (ob (hadd_S F r.1 f.1 f.2 (((0 : Int), (0 : Int)), (false, false))) (fun r3 => (ob (hadd_S F r.2 f.1 f.2 r3) (fun r4 => (ob (hres_S F r4) (fun r5 => (some (r5.1.1, r5.1.2))))))))))))))
abbrev scale_I : Sch := ⟨[(0, .ag [.t (.pair (.int .i64) (.int .i64))]), (1, .ag [.t (.pair (.int .i64) (.int .i64))])], []⟩
abbrev scale_O : FSch := ⟨.tu [(true, [.t (.pair (.int .i64) (.int .i64))]), (false, [.t (.int .i64)])], []⟩
def scale_E (F : Nat) : Ent := ⟨73, 2, scale_I, scale_O, fun s => scale_S F s.1 s.2, []⟩
theorem scale_ok (F : Nat) : FnSem Tryd.prog 73 2 scale_I scale_O (fun s => scale_S F s.1 s.2) :=
  fn_ok (call := callD Tryd.prog 70 plans (hres_T F) 20) (Fu := 70) (pl := plOf plans 73) (d := 1000) (an := .no) (callD_ok progMixed 70 plansOk (hres_T_ok F) 20) progMixed (by kernel_rfl) (anP_ok (c := bodyOf Tryd.prog 73) (p := []) (trivial)) (fun s => by kernel_rfl)
def scale_T (F : Nat) : List Ent := scale_E F :: hres_T F
theorem scale_T_ok (F : Nat) : EntsOk Tryd.prog (scale_T F) := ⟨⟨by kernel_rfl, scale_ok F⟩, hres_T_ok F⟩
abbrev bow_n : Nat := 3
def bow_S (F : Nat) (stiffness : (Int × Int)) (feed : Int) (tension : Int) : Option (((Int × Int) × Int)) := (ob (isRange_S F stiffness (0 : Int) (1000000 : Int)) (fun r => (bif (!r) then (some (((0 : Int), (0 : Int)), (2 : Int))) else (ob (isForce_S F feed (0 : Int)) (fun r1 => (bif (!r1) then (some (((0 : Int), (0 : Int)), (3 : Int))) else (ob (isForce_S F tension (1 : Int)) (fun r2 => (bif (!r2) then (some (((0 : Int), (0 : Int)), (3 : Int))) else (ob (scale_S F stiffness (feed, tension)) (fun r3 => (some (r3.1, r3.2)))))))))))))
abbrev bow_I : Sch := ⟨[(0, .ag [.t (.pair (.int .i64) (.int .i64))]), (1, .c (.t (.int .i64))), (2, .c (.t (.int .i64)))], []⟩
abbrev bow_O : FSch := ⟨.tu [(true, [.t (.pair (.int .i64) (.int .i64))]), (false, [.t (.int .i64)])], []⟩
def bow_E (F : Nat) : Ent := ⟨43, 3, bow_I, bow_O, fun s => bow_S F s.1 s.2.1 s.2.2, []⟩
theorem bow_ok (F : Nat) : FnSem Tryd.prog 43 3 bow_I bow_O (fun s => bow_S F s.1 s.2.1 s.2.2) :=
  fn_ok (call := callD Tryd.prog 70 plans (scale_T F) 20) (Fu := 70) (pl := plOf plans 43) (d := 1000) (an := .no) (callD_ok progMixed 70 plansOk (scale_T_ok F) 20) progMixed (by kernel_rfl) (anP_ok (c := bodyOf Tryd.prog 43) (p := []) (trivial)) (fun s => by kernel_rfl)
def bow_T (F : Nat) : List Ent := bow_E F :: scale_T F
theorem bow_T_ok (F : Nat) : EntsOk Tryd.prog (bow_T F) := ⟨⟨by kernel_rfl, bow_ok F⟩, scale_T_ok F⟩
abbrev feed_n : Nat := 3
def feed_S (F : Nat) (stiffness : (Int × Int)) (tension : Int) (most : Int) : Option ((Int × Int)) := (ob (isRange_S F stiffness (0 : Int) (1000000 : Int)) (fun r => (bif (!r) then (some ((0 : Int), (2 : Int))) else (ob (ob (isForce_S F tension (1 : Int)) (fun r1 => (bif (!r1) then (some ((tension, most, true), stiffness)) else (ob (within_S F most (0 : Int) (1000000000000 : Int)) (fun r2 => (some ((tension, most, (!r2)), stiffness))))))) (fun s1 => (bif s1.1.2.2 then (some ((0 : Int), (3 : Int))) else (bif (s1.2.2 == (0 : Int)) then (some ((1000000 : Int), (0 : Int))) else (bif (!(s1.2.2 == (0 : Int))) then (some ((if (1000000 : Int) < (IntKind.wrap IntKind.i64 (Int.tdiv (IntKind.wrap IntKind.i64 (s1.1.2.1 * s1.1.1)) s1.2.2)) then (1000000 : Int) else (IntKind.wrap IntKind.i64 (Int.tdiv (IntKind.wrap IntKind.i64 (s1.1.2.1 * s1.1.1)) s1.2.2))), (0 : Int))) else none))))))))
abbrev feed_I : Sch := ⟨[(0, .ag [.t (.pair (.int .i64) (.int .i64))]), (1, .c (.t (.int .i64))), (2, .c (.t (.int .i64)))], []⟩
abbrev feed_O : FSch := ⟨.tu [(false, [.t (.int .i64)]), (false, [.t (.int .i64)])], []⟩
def feed_E (F : Nat) : Ent := ⟨44, 3, feed_I, feed_O, fun s => feed_S F s.1 s.2.1 s.2.2, []⟩
theorem feed_ok (F : Nat) : FnSem Tryd.prog 44 3 feed_I feed_O (fun s => feed_S F s.1 s.2.1 s.2.2) :=
  fn_ok (call := callD Tryd.prog 70 plans (bow_T F) 20) (Fu := 70) (pl := plOf plans 44) (d := 1000) (an := (.two .no (.two (.one (.two .no (.two .no (.two (.join [(.normal, ⟨[(1, .c (.t (.int .i64))), (2, .c (.t (.int .i64))), (3, .c (.k (.pt 0 0 0 0))), (12, .c (.t .bool))], [.blk 23 [.t (.pair (.int .i64) (.int .i64))]]⟩)] .no) .no)))) .no))) (callD_ok progMixed 70 plansOk (bow_T_ok F) 20) progMixed (by kernel_rfl) (anP_ok (c := bodyOf Tryd.prog 44) (p := []) (⟨trivial, ⟨⟨trivial, ⟨trivial, ⟨trivial, trivial⟩⟩⟩, trivial⟩⟩)) (fun s => by kernel_rfl)
def feed_T (F : Nat) : List Ent := feed_E F :: bow_T F
theorem feed_T_ok (F : Nat) : EntsOk Tryd.prog (feed_T F) := ⟨⟨by kernel_rfl, feed_ok F⟩, bow_T_ok F⟩
abbrev brin_n : Nat := 3
def brin_S (F : Nat) (n : Int) (least : Int) (most : Int) : Option (Bool) := (bif (decide (n ≥ least)) then (some (decide (n ≤ most))) else (some false))
abbrev brin_I : Sch := ⟨[(0, .c (.t (.int .i64))), (1, .c (.t (.int .i64))), (2, .c (.t (.int .i64)))], []⟩
abbrev brin_O : FSch := ⟨.one (.c (.t .bool)), []⟩
def brin_E (F : Nat) : Ent := ⟨47, 3, brin_I, brin_O, fun s => brin_S F s.1 s.2.1 s.2.2, []⟩
theorem brin_ok (F : Nat) : FnSem Tryd.prog 47 3 brin_I brin_O (fun s => brin_S F s.1 s.2.1 s.2.2) :=
  fn_ok (call := callD Tryd.prog 70 plans (feed_T F) 20) (Fu := 70) (pl := plOf plans 47) (d := 1000) (an := .no) (callD_ok progMixed 70 plansOk (feed_T_ok F) 20) progMixed (by kernel_rfl) (anP_ok (c := bodyOf Tryd.prog 47) (p := []) (trivial)) (fun s => by kernel_rfl)
def brin_T (F : Nat) : List Ent := brin_E F :: feed_T F
theorem brin_T_ok (F : Nat) : EntsOk Tryd.prog (brin_T F) := ⟨⟨by kernel_rfl, brin_ok F⟩, feed_T_ok F⟩
abbrev brRange_n : Nat := 3
def brRange_S (F : Nat) (r : (Int × Int)) (least : Int) (most : Int) : Option (Bool) := (bif (decide (r.1 ≥ least)) then (bif (decide (r.1 ≤ r.2)) then (some (decide (r.2 ≤ most))) else (some false)) else (some false))
abbrev brRange_I : Sch := ⟨[(0, .ag [.t (.pair (.int .i64) (.int .i64))]), (1, .c (.t (.int .i64))), (2, .c (.t (.int .i64)))], []⟩
abbrev brRange_O : FSch := ⟨.one (.c (.t .bool)), []⟩
def brRange_E (F : Nat) : Ent := ⟨45, 3, brRange_I, brRange_O, fun s => brRange_S F s.1 s.2.1 s.2.2, []⟩
theorem brRange_ok (F : Nat) : FnSem Tryd.prog 45 3 brRange_I brRange_O (fun s => brRange_S F s.1 s.2.1 s.2.2) :=
  fn_ok (call := callD Tryd.prog 70 plans (brin_T F) 20) (Fu := 70) (pl := plOf plans 45) (d := 1000) (an := .no) (callD_ok progMixed 70 plansOk (brin_T_ok F) 20) progMixed (by kernel_rfl) (anP_ok (c := bodyOf Tryd.prog 45) (p := []) (trivial)) (fun s => by kernel_rfl)
def brRange_T (F : Nat) : List Ent := brRange_E F :: brin_T F
theorem brRange_T_ok (F : Nat) : EntsOk Tryd.prog (brRange_T F) := ⟨⟨by kernel_rfl, brRange_ok F⟩, brin_T_ok F⟩
abbrev sBows_n : Nat := 1
def sBows_S (F : Nat) (x : ((Int × Int) × (Int × (Int × Int)))) : Option (Bool) := (ob (bow_S F x.1 x.2.1 x.2.2.1) (fun r => (ob (feed_S F x.1 x.2.2.1 x.2.2.2) (fun r1 => (ob (brRange_S F x.1 (0 : Int) (1000000 : Int)) (fun r2 => (bif (!r2) then (bif (r.2 == (2 : Int)) then (bif (r1.2 == (2 : Int)) then (bif (bif false then (!((r.1.1 == (0 : Int)) && (r.1.2 == (0 : Int)))) else ((r.1.1 == (0 : Int)) && (r.1.2 == (0 : Int)))) then (bif (r1.1 == (0 : Int)) then (some true) else (some false)) else (some false)) else (some false)) else (some false)) else (ob (bif (decide (x.2.2.1 ≥ (1 : Int))) then (some ((r.2, r1.1, r1.2, (decide (x.2.2.1 ≤ (1000000 : Int)))), (x, r.1))) else (some ((r.2, r1.1, r1.2, false), (x, r.1)))) (fun s1 => (ob (ob (bif (!s1.1.2.2.2) then (some ((s1.1.1, s1.1.2.1, s1.1.2.2.1, s1.1.2.2.2, true), (s1.2.1, s1.2.2))) else (bif (decide (s1.2.1.2.1 < (0 : Int))) then (some ((s1.1.1, s1.1.2.1, s1.1.2.2.1, s1.1.2.2.2, true), (s1.2.1, s1.2.2))) else (some ((s1.1.1, s1.1.2.1, s1.1.2.2.1, s1.1.2.2.2, (decide (s1.2.1.2.1 > (1000000 : Int)))), (s1.2.1, s1.2.2))))) (fun s2 => (bif s2.1.2.2.2.2 then (bif (s2.1.1 != (3 : Int)) then (some (.inl false)) else (bif (bif true then (!((s2.2.2.1 == (0 : Int)) && (s2.2.2.2 == (0 : Int)))) else ((s2.2.2.1 == (0 : Int)) && (s2.2.2.2 == (0 : Int)))) then (some (.inl false)) else (some (.inr ((s2.1.2.1, s2.1.2.2.1, s2.1.2.2.2.1), s2.2.1))))) else (ob (bif (s2.1.1 != (0 : Int)) then (some ((s2.1.2.1, s2.1.2.2.1, s2.1.2.2.2.1, true), s2.2.1)) else (bif (!(s2.2.1.2.2.1 == (0 : Int))) then (bif (s2.2.2.1 != (IntKind.wrap IntKind.i64 (Int.tdiv (IntKind.wrap IntKind.i64 (s2.2.1.1.1 * s2.2.1.2.1)) s2.2.1.2.2.1))) then (some ((s2.1.2.1, s2.1.2.2.1, s2.1.2.2.2.1, true), s2.2.1)) else (bif (!(s2.2.1.2.2.1 == (0 : Int))) then (some ((s2.1.2.1, s2.1.2.2.1, s2.1.2.2.2.1, (s2.2.2.2 != (IntKind.wrap IntKind.i64 (Int.tdiv (IntKind.wrap IntKind.i64 ((IntKind.wrap IntKind.i64 ((IntKind.wrap IntKind.i64 (s2.2.1.1.2 * s2.2.1.2.1)) + s2.2.1.2.2.1)) - (1 : Int))) s2.2.1.2.2.1)))), s2.2.1)) else none)) else none)) (fun s3 => (bif s3.1.2.2.2 then (some (.inl false)) else (some (.inr ((s3.1.1, s3.1.2.1, s3.1.2.2.1), s3.2))))))))) (fun o_ => su o_ (fun s4 => (some s4)) (fun s5 => (ob (bif (!s5.1.2.2) then (some ((s5.1.1, s5.1.2.1, true), s5.2)) else (bif (decide (s5.2.2.2.2 < (0 : Int))) then (some ((s5.1.1, s5.1.2.1, true), s5.2)) else (some ((s5.1.1, s5.1.2.1, (decide (s5.2.2.2.2 > (1000000000000 : Int)))), s5.2)))) (fun s6 => (bif s6.1.2.2 then (bif (s6.1.2.1 == (3 : Int)) then (bif (s6.1.1 == (0 : Int)) then (some true) else (some false)) else (some false)) else (ob (bif (s6.1.2.1 != (0 : Int)) then (some ((s6.1.1, true), s6.2)) else (bif (decide (s6.1.1 < (0 : Int))) then (some ((s6.1.1, true), s6.2)) else (bif (decide (s6.1.1 > (1000000 : Int))) then (some ((s6.1.1, true), s6.2)) else (some ((s6.1.1, (decide ((IntKind.wrap IntKind.i64 (s6.2.1.2 * s6.1.1)) > (IntKind.wrap IntKind.i64 (s6.2.2.2.2 * s6.2.2.2.1))))), s6.2))))) (fun s7 => (bif s7.1.2 then (some false) else (bif (s7.1.1 == (1000000 : Int)) then (some true) else (bif (decide ((IntKind.wrap IntKind.i64 (s7.2.1.2 * (IntKind.wrap IntKind.i64 (s7.1.1 + (1 : Int))))) > (IntKind.wrap IntKind.i64 (s7.2.2.2.2 * s7.2.2.2.1)))) then (some true) else (some false)))))))))))))))))))))
abbrev sBows_I : Sch := ⟨[(0, .ag [.t (.pair (.pair (.int .i64) (.int .i64)) (.pair (.int .i64) (.pair (.int .i64) (.int .i64))))])], []⟩
abbrev sBows_O : FSch := ⟨.one (.c (.t .bool)), []⟩
def sBows_E (F : Nat) : Ent := ⟨10, 1, sBows_I, sBows_O, fun s => sBows_S F s, []⟩
theorem sBows_ok (F : Nat) : FnSem Tryd.prog 10 1 sBows_I sBows_O (fun s => sBows_S F s) :=
  fn_ok (call := callD Tryd.prog 70 plans (brRange_T F) 20) (Fu := 70) (pl := plOf plans 10) (d := 1000) (an := (.two .no (.two .no (.two .no (.two .no (.two (.join [(.normal, ⟨[(1, .c (.k (.pt 0 0 0 0))), (3, .c (.k (.pt 1 0 0 0))), (4, .c (.t (.int .i64))), (5, .c (.t (.int .i64))), (6, .c (.t (.int .i64))), (7, .c (.t .bool))], [.blk 84 [.t (.pair (.pair (.int .i64) (.int .i64)) (.pair (.int .i64) (.pair (.int .i64) (.int .i64))))], .blk 23 [.t (.pair (.int .i64) (.int .i64))]]⟩)] .no) (.two (.join [(.ret, ⟨[(2, .c (.t .bool))], []⟩), (.normal, ⟨[(1, .c (.k (.pt 0 0 0 0))), (5, .c (.t (.int .i64))), (6, .c (.t (.int .i64))), (7, .c (.t .bool))], [.blk 84 [.t (.pair (.pair (.int .i64) (.int .i64)) (.pair (.int .i64) (.pair (.int .i64) (.int .i64))))]]⟩)] (.two (.join [(.normal, ⟨[(1, .c (.k (.pt 0 0 0 0))), (3, .c (.k (.pt 1 0 0 0))), (4, .c (.t (.int .i64))), (5, .c (.t (.int .i64))), (6, .c (.t (.int .i64))), (7, .c (.t .bool)), (69, .c (.t .bool))], [.blk 84 [.t (.pair (.pair (.int .i64) (.int .i64)) (.pair (.int .i64) (.pair (.int .i64) (.int .i64))))], .blk 23 [.t (.pair (.int .i64) (.int .i64))]]⟩)] .no) (.two .no (.two (.join [(.normal, ⟨[(1, .c (.k (.pt 0 0 0 0))), (5, .c (.t (.int .i64))), (6, .c (.t (.int .i64))), (7, .c (.t .bool)), (110, .c (.t .bool))], [.blk 84 [.t (.pair (.pair (.int .i64) (.int .i64)) (.pair (.int .i64) (.pair (.int .i64) (.int .i64))))]]⟩)] .no) .no)))) (.two (.two (.join [(.normal, ⟨[(1, .c (.k (.pt 0 0 0 0))), (5, .c (.t (.int .i64))), (6, .c (.t (.int .i64))), (122, .c (.t .bool))], [.blk 84 [.t (.pair (.pair (.int .i64) (.int .i64)) (.pair (.int .i64) (.pair (.int .i64) (.int .i64))))]]⟩)] .no) .no) (.two (.two (.join [(.normal, ⟨[(1, .c (.k (.pt 0 0 0 0))), (5, .c (.t (.int .i64))), (154, .c (.t .bool))], [.blk 84 [.t (.pair (.pair (.int .i64) (.int .i64)) (.pair (.int .i64) (.pair (.int .i64) (.int .i64))))]]⟩)] .no) .no) .no))))))))) (callD_ok progMixed 70 plansOk (brRange_T_ok F) 20) progMixed (by kernel_rfl) (anP_ok (c := bodyOf Tryd.prog 10) (p := []) (⟨trivial, ⟨trivial, ⟨trivial, ⟨trivial, ⟨trivial, ⟨⟨trivial, ⟨trivial, ⟨trivial, trivial⟩⟩⟩, ⟨⟨trivial, trivial⟩, ⟨⟨trivial, trivial⟩, trivial⟩⟩⟩⟩⟩⟩⟩⟩)) (fun s => by kernel_rfl)
def sBows_T (F : Nat) : List Ent := sBows_E F :: brRange_T F
theorem sBows_T_ok (F : Nat) : EntsOk Tryd.prog (sBows_T F) := ⟨⟨by kernel_rfl, sBows_ok F⟩, brRange_T_ok F⟩
end
end Go.Proofs.YtdfgmfddkcmalaaDoor
