/- A part of the proof of the theorem of the last file. No condition. By an AI agent. -/
import Derived.Test.YtnomnijhlbalaaaGreatDoorWJF3
set_option maxRecDepth 100000
namespace Go.Proofs.YtnomnijhlbalaaaGreatDoor
section
open Go.RowKit Go.Proofs Go.Proofs.YtnomnijhlbalaaaGreatDoor Go.ChangeShapes Go.WideShapes Go.ChangeAt Go.WideMaps Go.WideElems Go.Deep
theorem xE9 {a b : Bool} (h : a = true) (k : b = true) : (a && b) = true := by rw [h, k]; rfl
theorem jclosed : joinedFacts Tryz.pinned.checked.prog 4 Tryz.f4 Rows.topMeltsSpec Rows.topMeltsRow = true := (xE9 (xE9 (xE9 (xE9 (xE9 (xE9 (xE9 (xE9 (xE9 (xE9 (xE9 (xE9 (xE9 (xE9 (xE9 (xE9 (xE9 (xE9 (xE9 (xE9 (xE9 (xE9 (xE9 (xE9 (xE9 (xE9 (xE9 (xE9 (xE9 (xE9 (xE9 jf0 jf1) jf2) jf3) jf4) jf5) jf6) jf7) jf8) jf9) jf10) jf11) jf12) jf13) jf14) jf15) jf16) jf17) jf18) jf19) jf20) jf21) jf22) jf23) jf24) jf25) jf26) jf27) jf28) jf29) jf30) jf31)
end
end Go.Proofs.YtnomnijhlbalaaaGreatDoor
