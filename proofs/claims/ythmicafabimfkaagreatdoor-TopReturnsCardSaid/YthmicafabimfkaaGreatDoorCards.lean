/-
  DERIVED. GIVEN WITH THE SEED: THE CARDS: each row of YthmicafabimfkaaGreatDoorRows.lean that lists a variable, with what it lists TIED to the program's text (the seventh form; the later family's looks); each row that meets fmt, with fmt's text TOLD by the authors' own Lean function (tested against real Go, not proved from fmt's source: count such statements apart). THE CARD IS WHAT COUNTS. Prove the row's statement (the work); the ties are given (YthmicafabimfkaaGreatDoorTie.lean); close each card by the builder's one call (the guide's Derived/Test/ToyasCard.lean, 'card_holds'). Laid BY PROGRAM, IN A SANDBOX (cutbox-door.mjs). By AI agents, Wed Nov 11 2026. No macro, syntax, notation, axiom, sorry.
-/
import Derived.Test.YthmicafabimfkaaGreatDoorRows
import GoSem.ClaimSeven
namespace Go.Proofs.YthmicafabimfkaaGreatDoor
namespace Rows

/-- THE TIED CARD OF 'bouletop.TopReturns'. -/
def topReturnsCard : Claim7 := { stood := { row := topReturnsRow, standIns := [], harness := (true, "d412a91ec9edf6cd4934b201df9d3af24664bc808aa58db64d0ed8cb55554e26"), looks := false }, kinds := [], alts := [], laidByText := true, laidKinds := [.data, .wider, .wider], laidTests := true, laidLooks := .later }
def TopReturnsCardSaid : Prop := Claim7.holds Tryz.pinned (.plain (OpenSpec.ofChange topReturnsSpec)) topReturnsCard

/-- THE SECOND FORM's CARD OF 'bouletop.TopReturns'. -/
def topReturnsUptoCard : Claim7 := { stood := { row := topReturnsUptoRow, standIns := [], harness := (true, "d412a91ec9edf6cd4934b201df9d3af24664bc808aa58db64d0ed8cb55554e26"), looks := false }, kinds := [], alts := [], laidByText := true, laidKinds := [.data, .wider, .wider], laidTests := true, laidLooks := .later }
def TopReturnsUptoCardSaid : Prop := Claim7.holds Tryz.pinned (.plain (OpenSpec.upto topReturnsSpec)) topReturnsUptoCard
end Rows
end Go.Proofs.YthmicafabimfkaaGreatDoor
