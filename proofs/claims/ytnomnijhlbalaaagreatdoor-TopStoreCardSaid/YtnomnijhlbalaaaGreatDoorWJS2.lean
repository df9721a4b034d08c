/- A part of the proof of the theorem of the last file. No condition. By an AI agent. -/
import Derived.Test.YtnomnijhlbalaaaGreatDoorWJS1
set_option maxRecDepth 100000
namespace Go.Proofs.YtnomnijhlbalaaaGreatDoor
section
open Go.RowKit Go.Proofs Go.Proofs.YtnomnijhlbalaaaGreatDoor Go.ChangeShapes Go.WideShapes Go.ChangeAt Go.WideMaps Go.WideElems Go.Deep
theorem jf13 : ((jc.maps == (Tryz.f3.params.toList ++ js.plain.varTypes jP).any (jP.mapsRec ·))) = true := by kernel_rfl
theorem jf14 : ((jc.ifaces == (Tryz.f3.params.toList ++ js.plain.varTypes jP).any (jP.ifacesRec ·))) = true := by kernel_rfl
theorem jf15 : ((jc.mapsOut == jP.mapsAmong Tryz.f3.resultTypes.toList)) = true := by kernel_rfl
theorem jf16 : ((jc.loops == (Tryz.f3.params.toList ++ js.plain.varTypes jP).any (jP.loopsFrom ·))) = true := by kernel_rfl
theorem jf17 : ((jc.wideKeys == (Tryz.f3.params.toList ++ js.plain.varTypes jP ++ Tryz.f3.resultTypes.toList).any (jP.wideKeysFrom ·))) = true := by kernel_rfl
theorem jf18 : (js.vars.all (jP.varReadable ·)) = true := by kernel_rfl
theorem jf19 : (Tryz.f3.resultTypes.all (fun t => jP.readableRec t && decide (t < jP.types.size))) = true := by kernel_rfl
theorem jf20 : ((jc.ifacesOut == Tryz.f3.resultTypes.toList.any (jP.ifacesRec ·))) = true := by kernel_rfl
theorem jf21 : ((jc.loopsOut == Tryz.f3.resultTypes.toList.any (jP.loopsFrom ·))) = true := by kernel_rfl
end
end Go.Proofs.YtnomnijhlbalaaaGreatDoor
