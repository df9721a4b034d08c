/- A part of the proof of the theorem of the last file. No condition. By an AI agent. -/
import Derived.Test.YtnomnijhlbalaaaGreatDoorWJS0
set_option maxRecDepth 100000
namespace Go.Proofs.YtnomnijhlbalaaaGreatDoor
section
open Go.RowKit Go.Proofs Go.Proofs.YtnomnijhlbalaaaGreatDoor Go.ChangeShapes Go.WideShapes Go.ChangeAt Go.WideMaps Go.WideElems Go.Deep
theorem jf9 : ((jc.inPlace == jP.inPlace 3)) = true := by kernel_rfl
theorem jf10 : ((jc.unfollowed == jP.unfollowed 3)) = true := by kernel_rfl
theorem jf11 : ((jc.recurses == jP.recurses 3)) = true := by kernel_rfl
theorem jf12 : ((jc.named == jP.varsNamed 3)) = true := by kernel_rfl
end
end Go.Proofs.YtnomnijhlbalaaaGreatDoor
