/-
  DERIVED. GIVEN WITH THE SEED: THE CARDS: each row of YtnomnijhlbalaaaGreatDoorRows.lean that lists a variable, with what it lists TIED to the program's text (the seventh form; the later family's looks); each row that meets fmt, with fmt's text TOLD by the authors' own Lean function (tested against real Go, not proved from fmt's source: count such statements apart). THE CARD IS WHAT COUNTS. Prove the row's statement (the work); the ties are given (YtnomnijhlbalaaaGreatDoorTie.lean); close each card by the builder's one call (the guide's Derived/Test/ToyasCard.lean, 'card_holds'). Laid BY PROGRAM, IN A SANDBOX (cutbox-door.mjs). By AI agents, Wed Nov 11 2026. No macro, syntax, notation, axiom, sorry.
-/
import Derived.Test.YtnomnijhlbalaaaGreatDoorRows
import GoSem.ClaimSeven
namespace Go.Proofs.YtnomnijhlbalaaaGreatDoor
namespace Rows

/-- THE TIED CARD OF 'bouletop.TopStore'. -/
def topStoreCard : Claim7 := { stood := { row := topStoreRow, standIns := [], harness := (true, "371f034fdc29a5d40bdf42ad8ecd2e197e8946506dbeed1556088dd5c17a05e1"), looks := true }, kinds := [], alts := [], laidByText := true, laidKinds := [.data, .data, .data, .data, .data, .wider, .wider, .sentinel, .sentinel, .pinned], laidTests := true, laidLooks := .later }
def TopStoreCardSaid : Prop := Claim7.holds Tryz.pinned (.plain (OpenSpec.ofChange topStoreSpec)) topStoreCard

/-- THE TIED CARD OF 'bouletop.TopMelts'. -/
def topMeltsCard : Claim7 := { stood := { row := topMeltsRow, standIns := [], harness := (true, "371f034fdc29a5d40bdf42ad8ecd2e197e8946506dbeed1556088dd5c17a05e1"), looks := true }, kinds := [], alts := [], laidByText := true, laidKinds := [.data, .data, .data, .data, .data, .wider, .wider, .sentinel, .sentinel, .pinned], laidTests := true, laidLooks := .later }
def TopMeltsCardSaid : Prop := Claim7.holds Tryz.pinned (.plain (OpenSpec.ofChange topMeltsSpec)) topMeltsCard

/-- THE TIED CARD OF 'bouletop.TopMade'. -/
def topMadeCard : Claim7 := { stood := { row := topMadeRow, standIns := [], harness := (true, "371f034fdc29a5d40bdf42ad8ecd2e197e8946506dbeed1556088dd5c17a05e1"), looks := true }, kinds := [], alts := [], laidByText := true, laidKinds := [.data, .data, .data, .data, .data, .wider, .wider, .sentinel, .sentinel, .pinned], laidTests := true, laidLooks := .later }
def TopMadeCardSaid : Prop := Claim7.holds Tryz.pinned (.plain (OpenSpec.ofChange topMadeSpec)) topMadeCard

/-- THE SECOND FORM's CARD OF 'bouletop.TopStore'. -/
def topStoreUptoCard : Claim7 := { stood := { row := topStoreUptoRow, standIns := [], harness := (true, "371f034fdc29a5d40bdf42ad8ecd2e197e8946506dbeed1556088dd5c17a05e1"), looks := true }, kinds := [], alts := [], laidByText := true, laidKinds := [.data, .data, .data, .data, .data, .wider, .wider, .sentinel, .sentinel, .pinned], laidTests := true, laidLooks := .later }
def TopStoreUptoCardSaid : Prop := Claim7.holds Tryz.pinned (.plain (OpenSpec.upto topStoreSpec)) topStoreUptoCard

/-- THE SECOND FORM's CARD OF 'bouletop.TopMelts'. -/
def topMeltsUptoCard : Claim7 := { stood := { row := topMeltsUptoRow, standIns := [], harness := (true, "371f034fdc29a5d40bdf42ad8ecd2e197e8946506dbeed1556088dd5c17a05e1"), looks := true }, kinds := [], alts := [], laidByText := true, laidKinds := [.data, .data, .data, .data, .data, .wider, .wider, .sentinel, .sentinel, .pinned], laidTests := true, laidLooks := .later }
def TopMeltsUptoCardSaid : Prop := Claim7.holds Tryz.pinned (.plain (OpenSpec.upto topMeltsSpec)) topMeltsUptoCard

/-- THE SECOND FORM's CARD OF 'bouletop.TopMade'. -/
def topMadeUptoCard : Claim7 := { stood := { row := topMadeUptoRow, standIns := [], harness := (true, "371f034fdc29a5d40bdf42ad8ecd2e197e8946506dbeed1556088dd5c17a05e1"), looks := true }, kinds := [], alts := [], laidByText := true, laidKinds := [.data, .data, .data, .data, .data, .wider, .wider, .sentinel, .sentinel, .pinned], laidTests := true, laidLooks := .later }
def TopMadeUptoCardSaid : Prop := Claim7.holds Tryz.pinned (.plain (OpenSpec.upto topMadeSpec)) topMadeUptoCard
end Rows
end Go.Proofs.YtnomnijhlbalaaaGreatDoor
