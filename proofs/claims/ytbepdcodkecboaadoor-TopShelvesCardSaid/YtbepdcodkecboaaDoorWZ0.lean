/- The package's variables that this seat's code reads: none. No condition. -/
import Derived.Test.YtbepdcodkecboaaDoorWQB4
namespace Go.Proofs.YtbepdcodkecboaaDoor
open Go.RowKit
/-- Blocks of package variables that are never changed. -/
def gBlk : List Nat := []
/-- What they hold. -/
def gOk (_ : World) : Prop := True
theorem gOk_mono {w w' : World} (_ : ∀ b ∈ gBlk, w'.heap[b]? = w.heap[b]?) (h : gOk w) : gOk w' := h
theorem gOk_cells {w : World} (_ : gOk w) {b : Nat} (hb : b ∈ gBlk) : ∃ c T f, w.heap[b]? = some (.cells c T f) := absurd hb (by simp [gBlk])
/-- Types of cells that lead to an object of an arena: 0 pointers, 1 slices, 2 maps; the arena's number. -/
def refOf (T : Nat) : Option (Nat × Nat) :=
  bif Nat.beq T 112 then some (1, 0) else bif Nat.beq T 65 then some (1, 1) else bif Nat.beq T 98 then some (0, 2) else bif Nat.beq T 99 then some (2, 3) else none
/-- Parameters of functions that come in as references and are taken out of their arena at once. -/
def unpFn (f : Nat) : List Nat := bif Nat.beq f 74 then [0] else []
end Go.Proofs.YtbepdcodkecboaaDoor
