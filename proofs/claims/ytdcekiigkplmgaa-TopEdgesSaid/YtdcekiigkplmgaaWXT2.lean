/- By an AI agent. No person has read it. -/
import Derived.Test.YtdcekiigkplmgaaWXT1
namespace Go.Proofs.Ytdcekiigkplmgaa
open Go.RowKit
set_option maxRecDepth 100000
set_option maxHeartbeats 4000000
noncomputable section
abbrev flat_I : Sch := ⟨[], []⟩
abbrev flat_O : FSch := ⟨.one (.c (.t .bool)), []⟩
theorem flat_ok : FnSem Try.prog 7 0 flat_I flat_O (fun _ => some true) :=
  fn_ok (call := callD Try.prog 70 plans (fl_T 1000) 20) (Fu := 70) (pl := plOf plans 7) (d := 1000) (an := .no) (callD_ok progMixed 70 plansOk (fl_T_ok 1000) 20) progMixed (by kernel_rfl) (anP_ok (c := bodyOf Try.prog 7) (p := []) (trivial)) (fun s => by kernel_rfl)
def flat_E : Ent := ⟨7, 0, flat_I, flat_O, fun _ => some true, []⟩
def flat_T (F : Nat) : List Ent := flat_E :: fl_T F
theorem flat_T_ok (F : Nat) : EntsOk Try.prog (flat_T F) := ⟨⟨by kernel_rfl, flat_ok⟩, fl_T_ok F⟩
end
end Go.Proofs.Ytdcekiigkplmgaa
