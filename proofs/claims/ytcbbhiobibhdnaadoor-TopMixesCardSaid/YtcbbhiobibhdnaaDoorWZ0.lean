/- The package's variables that this seat's code reads: what melts may have, and two ways to choose. No condition. -/
import Derived.Test.YtcbbhiobibhdnaaDoorWQB4
namespace Go.Proofs.YtcbbhiobibhdnaaDoor
open Go.RowKit
/-- Blocks of package variables that are never changed. -/
def xJ9 : List Nat := [0, 1, 2]
/-- What they hold. -/
def xDT : Nat → List Value
 | 0 => [.bool true, .bool false, .bool false]
 | 1 => [.bool false, .bool true, .bool true]
 | 2 => [.int .i64 0, .bool false, .int .i64 20000, .bool true, .int .i64 1000000000000, .bool true, .int .i64 1000000000000, .bool false, .int .i64 10000, .bool false]
 | _ => []
def gOk (w : World) : Prop := ∀ b ∈ xJ9, ∃ T f, w.heap[b]? = some (.cells (xDT b).toArray T f)
theorem xNT {w w' : World} (h : ∀ b ∈ xJ9, w'.heap[b]? = w.heap[b]?) (hg : gOk w) : gOk w' := fun b hb => by
 obtain ⟨T, f, h1⟩ := hg b hb
 exact ⟨T, f, by rw [h b hb]; exact h1⟩
theorem xLh {w : World} (hg : gOk w) {b : Nat} (hb : b ∈ xJ9) : ∃ c T f, w.heap[b]? = some (.cells c T f) := by
 obtain ⟨T, f, h1⟩ := hg b hb
 exact ⟨_, T, f, h1⟩
/-- Types of cells that lead to an object of an arena: none. -/
def refOf (_ : Nat) : Option (Nat × Nat) := none
/-- Parameters of functions that come in as references and are taken out of their arena at once. -/
def unpFn (_ : Nat) : List Nat := []
end Go.Proofs.YtcbbhiobibhdnaaDoor
