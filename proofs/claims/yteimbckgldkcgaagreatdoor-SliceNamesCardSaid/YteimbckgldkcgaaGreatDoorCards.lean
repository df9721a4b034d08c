/-
  DERIVED. GIVEN WITH THE SEED: THE CARDS: each row of YteimbckgldkcgaaGreatDoorRows.lean that lists a variable, with what it lists TIED to the program's text (the seventh form; the later family's looks); each row that meets fmt, with fmt's text TOLD by the authors' own Lean function (tested against real Go, not proved from fmt's source: count such statements apart). THE CARD IS WHAT COUNTS. Prove the row's statement (the work); the ties are given (YteimbckgldkcgaaGreatDoorTie.lean); close each card by the builder's one call (the guide's Derived/Test/ToyasCard.lean, 'card_holds'). Laid BY PROGRAM, IN A SANDBOX (cutbox-door.mjs). By AI agents, Wed Nov 11 2026. No macro, syntax, notation, axiom, sorry.
-/
import Derived.Test.YteimbckgldkcgaaGreatDoorRows
import GoSem.ClaimSeven
namespace Go.Proofs.YteimbckgldkcgaaGreatDoor
namespace Rows

/-- THE TIED CARD OF 'boulelaw08.SliceNames'. -/
def sliceNamesCard : Claim7 := { stood := { row := sliceNamesRow, standIns := [], harness := (true, "ea316ed14f288c1cfafd0b379e77b540e9c69b51adb3dc4eb8b876bbec27d85f"), looks := true }, kinds := [], alts := [], laidByText := true, laidKinds := [.data, .data, .data, .data, .sentinel, .sentinel, .pinned], laidTests := true, laidLooks := .later }
def SliceNamesCardSaid : Prop := Claim7.holds Tryz.pinned (.plain (OpenSpec.ofChange sliceNamesSpec)) sliceNamesCard

/-- THE SECOND FORM's CARD OF 'boulelaw08.SliceNames'. -/
def sliceNamesUptoCard : Claim7 := { stood := { row := sliceNamesUptoRow, standIns := [], harness := (true, "ea316ed14f288c1cfafd0b379e77b540e9c69b51adb3dc4eb8b876bbec27d85f"), looks := true }, kinds := [], alts := [], laidByText := true, laidKinds := [.data, .data, .data, .data, .sentinel, .sentinel, .pinned], laidTests := true, laidLooks := .later }
def SliceNamesUptoCardSaid : Prop := Claim7.holds Tryz.pinned (.plain (OpenSpec.upto sliceNamesSpec)) sliceNamesUptoCard
end Rows
end Go.Proofs.YteimbckgldkcgaaGreatDoor
