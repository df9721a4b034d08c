/-
  DERIVED. GIVEN WITH THE SEED: THE CARDS: each row of YtbepdcodkecboaaDoorRows.lean that lists a variable, with what it lists TIED to the program's text (the seventh form; the later family's looks); each row that meets fmt, with fmt's text TOLD by the authors' own Lean function (tested against real Go, not proved from fmt's source: count such statements apart). THE CARD IS WHAT COUNTS. Prove the row's statement (the work); the ties are given (YtbepdcodkecboaaDoorTie.lean); close each card by the builder's one call (the guide's Derived/Test/ToyasCard.lean, 'card_holds'). Laid BY PROGRAM, IN A SANDBOX (cutbox-door.mjs). By AI agents, Wed Nov 11 2026. No macro, syntax, notation, axiom, sorry.
-/
import Derived.Test.YtbepdcodkecboaaDoorRows
import GoSem.ClaimSeven
namespace Go.Proofs.YtbepdcodkecboaaDoor
namespace Rows

/-- THE TIED CARD OF 'bouletop.TopShelves'. -/
def topShelvesCard : Claim7 := { stood := { row := topShelvesRow, standIns := [], harness := (true, "98b673cd53f1f2f8a82c18039b5755af27f68d456d023f8707b4541c94ff1fe1"), looks := false }, kinds := [], alts := [], laidByText := true, laidKinds := [.data, .pinned], laidTests := true, laidLooks := .later }
def TopShelvesCardSaid : Prop := Claim7.holds Tryd.pinned (.plain (OpenSpec.ofChange topShelvesSpec)) topShelvesCard

/-- THE SECOND FORM's CARD OF 'bouletop.TopShelves'. -/
def topShelvesUptoCard : Claim7 := { stood := { row := topShelvesUptoRow, standIns := [], harness := (true, "98b673cd53f1f2f8a82c18039b5755af27f68d456d023f8707b4541c94ff1fe1"), looks := false }, kinds := [], alts := [], laidByText := true, laidKinds := [.data, .pinned], laidTests := true, laidLooks := .later }
def TopShelvesUptoCardSaid : Prop := Claim7.holds Tryd.pinned (.plain (OpenSpec.upto topShelvesSpec)) topShelvesUptoCard
end Rows
end Go.Proofs.YtbepdcodkecboaaDoor
