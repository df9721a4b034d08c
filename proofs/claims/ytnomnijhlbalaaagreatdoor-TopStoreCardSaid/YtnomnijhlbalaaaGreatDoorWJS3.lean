/- A part of the proof of the theorem of the last file. No condition. By an AI agent. -/
import Derived.Test.YtnomnijhlbalaaaGreatDoorWJS2
set_option maxRecDepth 100000
namespace Go.Proofs.YtnomnijhlbalaaaGreatDoor
section
open Go.RowKit Go.Proofs Go.Proofs.YtnomnijhlbalaaaGreatDoor Go.ChangeShapes Go.WideShapes Go.ChangeAt Go.WideMaps Go.WideElems Go.Deep
theorem jf22 : ((jc.plainKeys == jP.plainKeys)) = true := by kernel_rfl
theorem jf23 : (jc.shortTexts.isNone) = true := by kernel_rfl
theorem jf24 : (jP.stopsHeard) = true := by kernel_rfl
theorem jf25 : (jP.mayEnter) = true := by kernel_rfl
theorem jf26 : ((jc.lifted == jP.liftsFinal)) = true := by kernel_rfl
theorem jf27 : ((jP.make == some jc.make)) = true := by kernel_rfl
theorem jf28 : ((jc.kinds == (if jc.domain.isEmpty then [] else Tryz.f3.params.toList.map fun t => match jP.underlying t with | some (.int k) => some k | _ => none))) = true := by kernel_rfl
theorem jf29 : ((jc.pinned == jc.pinnedBy)) = true := by kernel_rfl
theorem jf30 : ((jc.veiled == (Tryz.f3.params.toList ++ js.plain.varTypes jP ++ Tryz.f3.resultTypes.toList).any (jP.veiledRec ·))) = true := by kernel_rfl
theorem jf31 : (jc.veiledFits jP Tryz.f3.params.toList (Tryz.f3.params.toList ++ js.plain.varTypes jP ++ Tryz.f3.resultTypes.toList)) = true := by kernel_rfl
end
end Go.Proofs.YtnomnijhlbalaaaGreatDoor
