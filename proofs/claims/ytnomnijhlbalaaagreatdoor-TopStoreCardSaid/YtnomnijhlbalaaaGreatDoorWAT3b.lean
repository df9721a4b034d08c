/- A part of the proof of the theorem of the last file. No condition. By an AI agent. -/
import Derived.Test.YtnomnijhlbalaaaGreatDoorWAT3a
set_option maxRecDepth 100000
namespace Go.Proofs.YtnomnijhlbalaaaGreatDoor
section
open Go.RowKit Go.Proofs Go.Proofs.YtnomnijhlbalaaaGreatDoor Go.ChangeShapes Go.WideShapes Go.ChangeAt Go.WideMaps Go.WideElems Go.Deep
theorem sc1 : Rows.topStoreRow.wfByText (OpenSpec.ofChange Rows.topStoreSpec) = true := by kernel_rfl
theorem sc2 : Tryz.pinned.checked.prog.mainIs = some (true, "371f034fdc29a5d40bdf42ad8ecd2e197e8946506dbeed1556088dd5c17a05e1".toList) := by kernel_rfl
theorem sc3 : true = Tryz.pinned.checked.prog.looks [] := by kernel_rfl
theorem sc4 : Tryz.prog.funcNamed "boule/bouletop.TopStore" = some 3 := by kernel_rfl
theorem sc5 : ([26, 32].all fun u => !Tryz.prog.wantsStandIn u) = true := by kernel_rfl
theorem sc6 : false = Rows.topStoreRow.goesBy Tryz.pinned.checked.prog := by kernel_rfl
end
end Go.Proofs.YtnomnijhlbalaaaGreatDoor
