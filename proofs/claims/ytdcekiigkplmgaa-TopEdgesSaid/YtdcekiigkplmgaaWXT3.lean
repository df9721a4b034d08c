/- By an AI agent. No person has read it. -/
import Derived.Test.YtdcekiigkplmgaaWXT2
namespace Go.Proofs.Ytdcekiigkplmgaa
open Go.RowKit
set_option maxRecDepth 100000
set_option maxHeartbeats 4000000
noncomputable section
abbrev magn_n : Nat := 1
def magn_S (F : Nat) (n : Int) : Option ((Int × Bool)) := (bif (decide (n < (0 : Int))) then (some ((IntKind.wrap IntKind.u64 (IntKind.wrap IntKind.i64 ((0 : Int) - n))), true)) else (some ((IntKind.wrap IntKind.u64 n), false)))
abbrev magn_I : Sch := ⟨[(0, .c (.t (.int .i64)))], []⟩
abbrev magn_O : FSch := ⟨.tu [(false, [.t (.int .u64)]), (false, [.t .bool])], []⟩
def magn_E (F : Nat) : Ent := ⟨94, 1, magn_I, magn_O, fun s => magn_S F s, []⟩
theorem magn_ok (F : Nat) : FnSem Try.prog 94 1 magn_I magn_O (fun s => magn_S F s) :=
  fn_ok (call := callD Try.prog 70 plans (flat_T F) 20) (Fu := 70) (pl := plOf plans 94) (d := 1000) (an := .no) (callD_ok progMixed 70 plansOk (flat_T_ok F) 20) progMixed (by kernel_rfl) (anP_ok (c := bodyOf Try.prog 94) (p := []) (trivial)) (fun s => by kernel_rfl)
def magn_T (F : Nat) : List Ent := magn_E F :: flat_T F
theorem magn_T_ok (F : Nat) : EntsOk Try.prog (magn_T F) := ⟨⟨by kernel_rfl, magn_ok F⟩, flat_T_ok F⟩
abbrev mul64_n : Nat := 2
def mul64_S (F : Nat) (x : Int) (y : Int) : Option ((Int × Int)) := (some ((IntKind.wrap IntKind.u64 ((IntKind.wrap IntKind.u64 ((IntKind.wrap IntKind.u64 ((Int.fdiv x (4294967296 : Int)) * (Int.fdiv y (4294967296 : Int)))) + (Int.fdiv (IntKind.wrap IntKind.u64 ((IntKind.wrap IntKind.u64 ((Int.fdiv x (4294967296 : Int)) * (IntKind.wrap IntKind.u64 ((BitVec.toNat ((BitVec.ofInt 64 y) &&& (BitVec.ofInt 64 (4294967295 : Int)))) : Int)))) + (Int.fdiv (IntKind.wrap IntKind.u64 ((IntKind.wrap IntKind.u64 ((BitVec.toNat ((BitVec.ofInt 64 x) &&& (BitVec.ofInt 64 (4294967295 : Int)))) : Int)) * (IntKind.wrap IntKind.u64 ((BitVec.toNat ((BitVec.ofInt 64 y) &&& (BitVec.ofInt 64 (4294967295 : Int)))) : Int)))) (4294967296 : Int)))) (4294967296 : Int)))) + (Int.fdiv (IntKind.wrap IntKind.u64 ((IntKind.wrap IntKind.u64 ((BitVec.toNat ((BitVec.ofInt 64 (IntKind.wrap IntKind.u64 ((IntKind.wrap IntKind.u64 ((Int.fdiv x (4294967296 : Int)) * (IntKind.wrap IntKind.u64 ((BitVec.toNat ((BitVec.ofInt 64 y) &&& (BitVec.ofInt 64 (4294967295 : Int)))) : Int)))) + (Int.fdiv (IntKind.wrap IntKind.u64 ((IntKind.wrap IntKind.u64 ((BitVec.toNat ((BitVec.ofInt 64 x) &&& (BitVec.ofInt 64 (4294967295 : Int)))) : Int)) * (IntKind.wrap IntKind.u64 ((BitVec.toNat ((BitVec.ofInt 64 y) &&& (BitVec.ofInt 64 (4294967295 : Int)))) : Int)))) (4294967296 : Int))))) &&& (BitVec.ofInt 64 (4294967295 : Int)))) : Int)) + (IntKind.wrap IntKind.u64 ((IntKind.wrap IntKind.u64 ((BitVec.toNat ((BitVec.ofInt 64 x) &&& (BitVec.ofInt 64 (4294967295 : Int)))) : Int)) * (Int.fdiv y (4294967296 : Int)))))) (4294967296 : Int)))), (IntKind.wrap IntKind.u64 (x * y))))
abbrev mul64_I : Sch := ⟨[(0, .c (.t (.int .u64))), (1, .c (.t (.int .u64)))], []⟩
abbrev mul64_O : FSch := ⟨.tu [(false, [.t (.int .u64)]), (false, [.t (.int .u64)])], []⟩
def mul64_E (F : Nat) : Ent := ⟨95, 2, mul64_I, mul64_O, fun s => mul64_S F s.1 s.2, []⟩
theorem mul64_ok (F : Nat) : FnSem Try.prog 95 2 mul64_I mul64_O (fun s => mul64_S F s.1 s.2) :=
  fn_ok (call := callD Try.prog 70 plans (magn_T F) 20) (Fu := 70) (pl := plOf plans 95) (d := 1000) (an := .no) (callD_ok progMixed 70 plansOk (magn_T_ok F) 20) progMixed (by kernel_rfl) (anP_ok (c := bodyOf Try.prog 95) (p := []) (trivial)) (fun s => by kernel_rfl)
def mul64_T (F : Nat) : List Ent := mul64_E F :: magn_T F
theorem mul64_T_ok (F : Nat) : EntsOk Try.prog (mul64_T F) := ⟨⟨by kernel_rfl, mul64_ok F⟩, magn_T_ok F⟩
def hold {α : Type} (F : Nat) (x : Option α) : Option α := Nat.casesOn F x (fun _ => x)
theorem hold_eq {α : Type} (F : Nat) (x : Option α) : hold F x = x := by cases F <;> rfl
def mul64h_S (F : Nat) (x y : Int) : Option (Int × Int) := hold F (mul64_S F x y)
def mul64h_E (F : Nat) : Ent := ⟨95, 2, mul64_I, mul64_O, fun s => mul64h_S F s.1 s.2, []⟩
theorem mul64h_ok (F : Nat) : FnSem Try.prog 95 2 mul64_I mul64_O (fun s => mul64h_S F s.1 s.2) :=
  fun s t hs => mul64_ok F s t ((hold_eq F _).symm.trans hs)
def mul64h_T (F : Nat) : List Ent := mul64h_E F :: magn_T F
theorem mul64h_T_ok (F : Nat) : EntsOk Try.prog (mul64h_T F) := ⟨⟨by kernel_rfl, mul64h_ok F⟩, magn_T_ok F⟩

end
end Go.Proofs.Ytdcekiigkplmgaa
