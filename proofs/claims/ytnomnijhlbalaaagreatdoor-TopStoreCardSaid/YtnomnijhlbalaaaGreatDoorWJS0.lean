/- A part of the proof of the theorem of the last file. No condition. By an AI agent. -/
import Derived.Test.YtnomnijhlbalaaaGreatDoorWGDs
import Derived.Test.YtnomnijhlbalaaaGreatDoorTie
import Derived.Test.YtnomnijhlbalaaaGreatDoorCards
import Derived.LaidHandle
import Derived.Lay
import Derived.Stop.Joined
set_option maxRecDepth 100000
namespace Go.Proofs.YtnomnijhlbalaaaGreatDoor
section
open Go.RowKit Go.Proofs Go.Proofs.YtnomnijhlbalaaaGreatDoor Go.ChangeShapes Go.WideShapes Go.ChangeAt Go.WideMaps Go.WideElems Go.Deep
noncomputable abbrev jP : Program := Tryz.pinned.checked.prog
noncomputable abbrev jc : OpenClaim := Rows.topStoreRow
noncomputable abbrev js : ChangeSpec := Rows.topStoreSpec
theorem jf0 : (jc.wf (OpenSpec.ofChange js)) = true := by kernel_rfl
theorem jf1 : (laidOutB jP) = true := by kernel_rfl
theorem jf2 : (mapsRowed jP) = true := by kernel_rfl
theorem jf3 : (Tryz.f3.params.all (jP.readableRec ·)) = true := by kernel_rfl
theorem jf4 : (namedTie jP jc.named js.vars) = true := by kernel_rfl
theorem jf5 : ((jc.stops == [])) = true := by kernel_rfl
theorem jf6 : ((jP.stops == [])) = true := by kernel_rfl
theorem jf7 : ((jc.knobs == [])) = true := by kernel_rfl
theorem jf8 : ((jP.stopKnobs == [])) = true := by kernel_rfl
end
end Go.Proofs.YtnomnijhlbalaaaGreatDoor
