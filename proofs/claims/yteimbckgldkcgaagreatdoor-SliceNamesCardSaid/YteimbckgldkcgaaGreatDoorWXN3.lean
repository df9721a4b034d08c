/- By an AI agent. No person has read it. -/
import Derived.Test.YteimbckgldkcgaaGreatDoorWXN2b
namespace Go.Proofs.YteimbckgldkcgaaGreatDoor
open Go.RowKit
set_option maxRecDepth 100000
set_option maxHeartbeats 4000000
noncomputable section
abbrev known_I : Sch := ⟨[], []⟩
abbrev known_O : FSch := ⟨.one (.c (.t .bool)), []⟩
theorem known_ok : FnSem Tryz.prog 4 0 known_I known_O (fun _ => some true) :=
  fn_ok (call := callD Tryz.prog 70 plans (runs_T 1000) 20) (Fu := 70) (pl := plOf plans 4) (d := 1000) (an := .no) (callD_ok progMixed 70 plansOk (runs_T_ok 1000) 20) progMixed (by kernel_rfl) (anP_ok (c := bodyOf Tryz.prog 4) (p := []) (trivial)) (fun _ => by kernel_rfl)
def known_E : Ent := ⟨4, 0, known_I, known_O, fun _ => some true, []⟩
def known_T (F : Nat) : List Ent := known_E :: runs_T F
theorem known_T_ok (F : Nat) : EntsOk Tryz.prog (known_T F) := ⟨⟨by kernel_rfl, known_ok⟩, runs_T_ok F⟩
end
end Go.Proofs.YteimbckgldkcgaaGreatDoor
