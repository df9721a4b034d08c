/- By an AI agent. No person has read it. -/
import Derived.Test.YtdcekiigkplmgaaWXS1
namespace Go.Proofs.Ytdcekiigkplmgaa
open Go.RowKit
set_option maxRecDepth 100000
set_option maxHeartbeats 4000000
noncomputable section
abbrev mul64_n : Nat := 2
def mul64_S (F : Nat) (x : Int) (y : Int) : Option ((Int × Int)) := (some ((IntKind.wrap IntKind.u64 ((IntKind.wrap IntKind.u64 ((IntKind.wrap IntKind.u64 ((Int.fdiv x (4294967296 : Int)) * (Int.fdiv y (4294967296 : Int)))) + (Int.fdiv (IntKind.wrap IntKind.u64 ((IntKind.wrap IntKind.u64 ((Int.fdiv x (4294967296 : Int)) * (IntKind.wrap IntKind.u64 ((BitVec.toNat ((BitVec.ofInt 64 y) &&& (BitVec.ofInt 64 (4294967295 : Int)))) : Int)))) + (Int.fdiv (IntKind.wrap IntKind.u64 ((IntKind.wrap IntKind.u64 ((BitVec.toNat ((BitVec.ofInt 64 x) &&& (BitVec.ofInt 64 (4294967295 : Int)))) : Int)) * (IntKind.wrap IntKind.u64 ((BitVec.toNat ((BitVec.ofInt 64 y) &&& (BitVec.ofInt 64 (4294967295 : Int)))) : Int)))) (4294967296 : Int)))) (4294967296 : Int)))) + (Int.fdiv (IntKind.wrap IntKind.u64 ((IntKind.wrap IntKind.u64 ((BitVec.toNat ((BitVec.ofInt 64 (IntKind.wrap IntKind.u64 ((IntKind.wrap IntKind.u64 ((Int.fdiv x (4294967296 : Int)) * (IntKind.wrap IntKind.u64 ((BitVec.toNat ((BitVec.ofInt 64 y) &&& (BitVec.ofInt 64 (4294967295 : Int)))) : Int)))) + (Int.fdiv (IntKind.wrap IntKind.u64 ((IntKind.wrap IntKind.u64 ((BitVec.toNat ((BitVec.ofInt 64 x) &&& (BitVec.ofInt 64 (4294967295 : Int)))) : Int)) * (IntKind.wrap IntKind.u64 ((BitVec.toNat ((BitVec.ofInt 64 y) &&& (BitVec.ofInt 64 (4294967295 : Int)))) : Int)))) (4294967296 : Int))))) &&& (BitVec.ofInt 64 (4294967295 : Int)))) : Int)) + (IntKind.wrap IntKind.u64 ((IntKind.wrap IntKind.u64 ((BitVec.toNat ((BitVec.ofInt 64 x) &&& (BitVec.ofInt 64 (4294967295 : Int)))) : Int)) * (Int.fdiv y (4294967296 : Int)))))) (4294967296 : Int)))), (IntKind.wrap IntKind.u64 (x * y))))
abbrev mul64_I : Sch := ⟨[(0, .c (.t (.int .u64))), (1, .c (.t (.int .u64)))], []⟩
abbrev mul64_O : FSch := ⟨.tu [(false, [.t (.int .u64)]), (false, [.t (.int .u64)])], []⟩
def mul64_E (F : Nat) : Ent := ⟨95, 2, mul64_I, mul64_O, fun s => mul64_S F s.1 s.2, []⟩
theorem mul64_ok (F : Nat) : FnSem Try.prog 95 2 mul64_I mul64_O (fun s => mul64_S F s.1 s.2) :=
  fn_ok (call := callD Try.prog 70 plans (total_T F) 20) (Fu := 70) (pl := plOf plans 95) (d := 1000) (an := .no) (callD_ok progMixed 70 plansOk (total_T_ok F) 20) progMixed (by kernel_rfl) (anP_ok (c := bodyOf Try.prog 95) (p := []) (trivial)) (fun s => by kernel_rfl)
def mul64_T (F : Nat) : List Ent := mul64_E F :: total_T F
theorem mul64_T_ok (F : Nat) : EntsOk Try.prog (mul64_T F) := ⟨⟨by kernel_rfl, mul64_ok F⟩, total_T_ok F⟩
def hold {α : Type} (F : Nat) (x : Option α) : Option α := Nat.casesOn F x (fun _ => x)
theorem hold_eq {α : Type} (F : Nat) (x : Option α) : hold F x = x := by cases F <;> rfl
def mul64h_S (F : Nat) (x y : Int) : Option (Int × Int) := hold F (mul64_S F x y)
def mul64h_E (F : Nat) : Ent := ⟨95, 2, mul64_I, mul64_O, fun s => mul64h_S F s.1 s.2, []⟩
theorem mul64h_ok (F : Nat) : FnSem Try.prog 95 2 mul64_I mul64_O (fun s => mul64h_S F s.1 s.2) :=
  fun s t hs => mul64_ok F s t ((hold_eq F _).symm.trans hs)
def mul64h_T (F : Nat) : List Ent := mul64h_E F :: total_T F
theorem mul64h_T_ok (F : Nat) : EntsOk Try.prog (mul64h_T F) := ⟨⟨by kernel_rfl, mul64h_ok F⟩, total_T_ok F⟩
def atRh_S (F : Nat) (r : Int × Int) (p : Int) : Option (Int) := hold F (atR_S F r p)
def atRh_E (F : Nat) : Ent := ⟨37, 2, atR_I, atR_O, fun s => atRh_S F s.1 s.2, []⟩
theorem atRh_ok (F : Nat) : FnSem Try.prog 37 2 atR_I atR_O (fun s => atRh_S F s.1 s.2) :=
  fun s t hs => atR_ok F s t ((hold_eq F _).symm.trans hs)
def atRh_T (F : Nat) : List Ent := atRh_E F :: mul64h_T F
theorem atRh_T_ok (F : Nat) : EntsOk Try.prog (atRh_T F) := ⟨⟨by kernel_rfl, atRh_ok F⟩, mul64h_T_ok F⟩
def placeh_S (F : Nat) (i : Int) (l : List Int) : Option (Int) := hold F (place_S F i l)
def placeh_E (F : Nat) : Ent := ⟨38, 2, place_I, place_O, fun s => placeh_S F s.1 s.2, []⟩
theorem placeh_ok (F : Nat) : FnSem Try.prog 38 2 place_I place_O (fun s => placeh_S F s.1 s.2) :=
  fun s t hs => place_ok F s t ((hold_eq F _).symm.trans hs)
def placeh_T (F : Nat) : List Ent := placeh_E F :: atRh_T F
theorem placeh_T_ok (F : Nat) : EntsOk Try.prog (placeh_T F) := ⟨⟨by kernel_rfl, placeh_ok F⟩, atRh_T_ok F⟩
def behindh_S (F : Nat) (b : Int × Int × Int) (x : Int × Int) (l : List Int) : Option (Int) := hold F (behind_S F b x l)
def behindh_E (F : Nat) : Ent := ⟨35, 2, behind_I, behind_O, fun s => behindh_S F s.1.1 s.1.2 s.2, []⟩
theorem behindh_ok (F : Nat) : FnSem Try.prog 35 2 behind_I behind_O (fun s => behindh_S F s.1.1 s.1.2 s.2) :=
  fun s t hs => behind_ok F s t ((hold_eq F _).symm.trans hs)
def behindh_T (F : Nat) : List Ent := behindh_E F :: placeh_T F
theorem behindh_T_ok (F : Nat) : EntsOk Try.prog (behindh_T F) := ⟨⟨by kernel_rfl, behindh_ok F⟩, placeh_T_ok F⟩
def restCmph_S (F : Nat) (x y : Int × Int × Int × Int) : Option (Int) := hold F (restCmp_S F x y)
def restCmph_E (F : Nat) : Ent := ⟨76, 2, restCmp_I, restCmp_O, fun s => restCmph_S F s.1 s.2, []⟩
theorem restCmph_ok (F : Nat) : FnSem Try.prog 76 2 restCmp_I restCmp_O (fun s => restCmph_S F s.1 s.2) :=
  fun s t hs => restCmp_ok F s t ((hold_eq F _).symm.trans hs)
def restCmph_T (F : Nat) : List Ent := restCmph_E F :: behindh_T F
theorem restCmph_T_ok (F : Nat) : EntsOk Try.prog (restCmph_T F) := ⟨⟨by kernel_rfl, restCmph_ok F⟩, behindh_T_ok F⟩
def ysp101 : Nat → Option Nat := fun n => bif Nat.beq n 7 then some 13 else none
def ysp116 : Nat → Option Nat := fun n => bif Nat.beq n 7 then some 8 else (bif Nat.beq n 10 then some 2 else none)
def ysp98 : Nat → Option Nat := fun n => bif Nat.beq n 3 then some 6 else none
end
end Go.Proofs.Ytdcekiigkplmgaa
