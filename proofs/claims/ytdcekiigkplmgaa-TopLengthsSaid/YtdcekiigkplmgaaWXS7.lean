/- By an AI agent. No person has read it. -/
import Derived.Test.YtdcekiigkplmgaaWXS6
namespace Go.Proofs.Ytdcekiigkplmgaa
open Go.RowKit
set_option maxRecDepth 100000
set_option maxHeartbeats 4000000
noncomputable section
abbrev sliced_I : Sch := ⟨[], []⟩
abbrev sliced_O : FSch := ⟨.one (.c (.t .bool)), []⟩
theorem sliced_ok : FnSem Try.prog 11 0 sliced_I sliced_O (fun _ => some true) :=
  fn_ok (call := callD Try.prog 70 plans (portions_T 1000) 20) (Fu := 70) (pl := plOf plans 11) (d := 1000) (an := .no) (callD_ok progMixed 70 plansOk (portions_T_ok 1000) 20) progMixed (by kernel_rfl) (anP_ok (c := bodyOf Try.prog 11) (p := []) (trivial)) (fun s => by kernel_rfl)
def sliced_E : Ent := ⟨11, 0, sliced_I, sliced_O, fun _ => some true, []⟩
def sliced_T (F : Nat) : List Ent := sliced_E :: portions_T F
theorem sliced_T_ok (F : Nat) : EntsOk Try.prog (sliced_T F) := ⟨⟨by kernel_rfl, sliced_ok⟩, portions_T_ok F⟩
end
end Go.Proofs.Ytdcekiigkplmgaa
