/-
  No cell of these rows narrows 'for every input' (looked for: loops, veiled, ifaces, maps, wideKeys, modest, calm, conditions, laid).
  DERIVED. THE GIVEN ROWS OF THIS SEAT. 3 by the template 'for every input the law returns true; each argument reads behind the call as it read before'; 0 by the template 'total and deterministic' (their statements: YtdcekiigkplmgaaTotals.lean).
  GIVEN WITH THE SEED: the statements are not yours to turn. If you find one false, say at which input.
  Laid BY PROGRAM, IN A SANDBOX (cutbox-rows.mjs): the forced cells as the released guide's own fill.sh prints them over the translation 8a6a969d57e2dcce… (all of the seat's roots in one cut). By AI agents, Wed Nov 11 2026. No macro, syntax, notation, axiom, sorry.
-/
import Derived.Test.YtdcekiigkplmgaaChecked
import GoSem.Claim
import GoSem.ClaimJoined
import GoSem.ClaimMapViews
import Derived.JoinedTies
import Derived.KernelRfl
namespace Go.Proofs.Ytdcekiigkplmgaa
/- THE CELL 'sum', in the pinned program and in every row, IS THE sha256 OF THE DUMP (.gsa) THAT YtdcekiigkplmgaaProg.lean LOADS. Nothing in Lean hashes anything: it is a label: what it is worth is what the hold of that sum in a sandbox is worth. -/
noncomputable def Try.pinned : Pinned := { name := "ytdcekiigkplmgaa", sum := "8a6a969d57e2dcce0860665905c9d26b37da9d0f5cc369479bd00d8381447cd9", checked := Try.checked }
namespace Rows
def none {H : Type} : Left H := { results := [], args := [] }

/-- 'bouletop.TopLinks': WHATEVER THE INPUT: true; the input reads as it did. -/
def topLinksSpec : ChangeSpec := { name := "topLinks", fn := fun _ => fun
  | [d1, d2, d3] => { results := [.lit (.bool true)], args := [d1, d2, d3] }
  | _ => none }
def topLinksRow : OpenClaim := { program := "ytdcekiigkplmgaa", sum := "8a6a969d57e2dcce0860665905c9d26b37da9d0f5cc369479bd00d8381447cd9", func := "boule/bouletop.TopLinks", spec := "topLinks", inPlace := ["math/bits.Sub64"], unfollowed := true, recurses := true, named := ["math/bits.divideError", "math/bits.overflowError"], apart := false }
def TopLinksSaid : Prop := topLinksRow.holds Try.pinned (OpenSpec.ofChange topLinksSpec)

/-- ITS FALSE NEIGHBOUR: 'it returns false'. Refute it at one input. -/
def topLinksWrong : ChangeSpec := { name := "topLinks", fn := fun _ => fun
  | [d1, d2, d3] => { results := [.lit (.bool false)], args := [d1, d2, d3] }
  | _ => none }
def TopLinksWrongFalsely : Prop := topLinksRow.holds Try.pinned (OpenSpec.ofChange topLinksWrong)

/-- 'bouletop.TopLengths': WHATEVER THE INPUT: true; the input reads as it did. -/
def topLengthsSpec : ChangeSpec := { name := "topLengths", fn := fun _ => fun
  | [d1, d2, d3] => { results := [.lit (.bool true)], args := [d1, d2, d3] }
  | _ => none }
def topLengthsRow : OpenClaim := { program := "ytdcekiigkplmgaa", sum := "8a6a969d57e2dcce0860665905c9d26b37da9d0f5cc369479bd00d8381447cd9", func := "boule/bouletop.TopLengths", spec := "topLengths", unfollowed := true, recurses := true, named := ["math/bits.divideError", "math/bits.overflowError"], apart := false }
def TopLengthsSaid : Prop := topLengthsRow.holds Try.pinned (OpenSpec.ofChange topLengthsSpec)

/-- ITS FALSE NEIGHBOUR: 'it returns false'. Refute it at one input. -/
def topLengthsWrong : ChangeSpec := { name := "topLengths", fn := fun _ => fun
  | [d1, d2, d3] => { results := [.lit (.bool false)], args := [d1, d2, d3] }
  | _ => none }
def TopLengthsWrongFalsely : Prop := topLengthsRow.holds Try.pinned (OpenSpec.ofChange topLengthsWrong)

/-- 'bouletop.TopEdges': WHATEVER THE INPUT: true; the input reads as it did. -/
def topEdgesSpec : ChangeSpec := { name := "topEdges", fn := fun _ => fun
  | [d1, d2] => { results := [.lit (.bool true)], args := [d1, d2] }
  | _ => none }
def topEdgesRow : OpenClaim := { program := "ytdcekiigkplmgaa", sum := "8a6a969d57e2dcce0860665905c9d26b37da9d0f5cc369479bd00d8381447cd9", func := "boule/bouletop.TopEdges", spec := "topEdges", inPlace := ["math/bits.Sub64"], unfollowed := true, recurses := true, named := ["math/bits.divideError", "math/bits.overflowError"], apart := false }
def TopEdgesSaid : Prop := topEdgesRow.holds Try.pinned (OpenSpec.ofChange topEdgesSpec)

/-- ITS FALSE NEIGHBOUR: 'it returns false'. Refute it at one input. -/
def topEdgesWrong : ChangeSpec := { name := "topEdges", fn := fun _ => fun
  | [d1, d2] => { results := [.lit (.bool false)], args := [d1, d2] }
  | _ => none }
def TopEdgesWrongFalsely : Prop := topEdgesRow.holds Try.pinned (OpenSpec.ofChange topEdgesWrong)

/- THE SECOND FORM. 'bulk': how many values and letters a reading holds, each counted each time it is reached (what is shared counts as often as it is met; a slice's spare places count too). A statement '..UptoSaid' is the law's where the arguments, and the package variables that the reading takes, are together of bulk at most 1048576: NARROWER than '..Said'. Prove '..Said' where nothing that the law and all that it calls make is longer than what came in: it says more and counts as full. Else prove '..UptoSaid'. A law counts once. -/
mutual
def uptoBulk {H : Type} : DataW H → Nat
  | .lit (.string bytes) => bytes.length + 1
  | .lit _ => 1
  | .nil => 1
  | .ptr d => uptoBulk d + 1
  | .slice elems spare => uptoBulkAll elems + uptoBulkAll spare + 1
  | .agg parts => uptoBulkAll parts + 1
  | .iface _ d => uptoBulk d + 1
  | .map entries => uptoBulkEntries entries + 1
  | .held _ => 1
def uptoBulkAll {H : Type} : List (DataW H) → Nat
  | [] => 0
  | d :: r => uptoBulk d + uptoBulkAll r
def uptoBulkEntries {H : Type} : List (Lit × DataW H) → Nat
  | [] => 0
  | x :: r => uptoBulkEntry x + uptoBulkEntries r
def uptoBulkEntry {H : Type} : Lit × DataW H → Nat
  | (.string bytes, d) => bytes.length + uptoBulk d + 1
  | (_, d) => uptoBulk d + 1
 end
def uptoSmall : (H : Type) → List (DataW H) → Bool := fun _ ds => decide (uptoBulkAll ds ≤ 1048576)
def OpenSpec.upto (s : _root_.Go.ChangeSpec) : _root_.Go.OpenSpec := { _root_.Go.OpenSpec.ofChange s with cond := some uptoSmall }

/-- 'bouletop.TopLinks', WHERE WHAT IT READS IS OF BULK AT MOST 1048576: true; the input reads as it did. -/
def topLinksUptoRow : OpenClaim := { program := "ytdcekiigkplmgaa", sum := "8a6a969d57e2dcce0860665905c9d26b37da9d0f5cc369479bd00d8381447cd9", func := "boule/bouletop.TopLinks", spec := "topLinks", inPlace := ["math/bits.Sub64"], unfollowed := true, recurses := true, named := ["math/bits.divideError", "math/bits.overflowError"], apart := false, narrowed := true }
def TopLinksUptoSaid : Prop := topLinksUptoRow.holds Try.pinned (OpenSpec.upto topLinksSpec)

/-- 'bouletop.TopLengths', WHERE WHAT IT READS IS OF BULK AT MOST 1048576: true; the input reads as it did. -/
def topLengthsUptoRow : OpenClaim := { program := "ytdcekiigkplmgaa", sum := "8a6a969d57e2dcce0860665905c9d26b37da9d0f5cc369479bd00d8381447cd9", func := "boule/bouletop.TopLengths", spec := "topLengths", unfollowed := true, recurses := true, named := ["math/bits.divideError", "math/bits.overflowError"], apart := false, narrowed := true }
def TopLengthsUptoSaid : Prop := topLengthsUptoRow.holds Try.pinned (OpenSpec.upto topLengthsSpec)

/-- 'bouletop.TopEdges', WHERE WHAT IT READS IS OF BULK AT MOST 1048576: true; the input reads as it did. -/
def topEdgesUptoRow : OpenClaim := { program := "ytdcekiigkplmgaa", sum := "8a6a969d57e2dcce0860665905c9d26b37da9d0f5cc369479bd00d8381447cd9", func := "boule/bouletop.TopEdges", spec := "topEdges", inPlace := ["math/bits.Sub64"], unfollowed := true, recurses := true, named := ["math/bits.divideError", "math/bits.overflowError"], apart := false, narrowed := true }
def TopEdgesUptoSaid : Prop := topEdgesUptoRow.holds Try.pinned (OpenSpec.upto topEdgesSpec)

end Rows
end Go.Proofs.Ytdcekiigkplmgaa
