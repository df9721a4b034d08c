/- The package's variables that this seat's code reads: none. Entries of a store, sets of numbers and lists lie in arenas. No condition. -/
import Derived.Test.YthmicafabimfkaaWQB4
namespace Go.Proofs.Ythmicafabimfkaa
open Go.RowKit
/-- Blocks of package variables that are never changed. -/
def gBlk : List Nat := []
/-- What they hold. -/
def gOk (_ : World) : Prop := True
theorem gOk_mono {w w' : World} (_ : ∀ b ∈ gBlk, w'.heap[b]? = w.heap[b]?) (h : gOk w) : gOk w' := h
theorem gOk_cells {w : World} (_ : gOk w) {b : Nat} (hb : b ∈ gBlk) : ∃ c T f, w.heap[b]? = some (.cells c T f) := absurd hb (by simp [gBlk])
/-- Types of cells that lead to an object of an arena: 0 pointers, 1 slices, 2 maps; the arena's number. -/
def refOf (t : Nat) : Option (Nat × Nat) :=
  bif Nat.beq t 78 then some (0, 0) else bif Nat.beq t 81 then some (2, 1) else bif Nat.beq t 34 then some (1, 2) else none
/-- Parameters of functions that come in as references and are taken out of their arena at once. -/
def unpFn (_ : Nat) : List Nat := []
end Go.Proofs.Ythmicafabimfkaa
