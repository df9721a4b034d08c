/-
  DERIVED. GIVEN WITH THE SEED: THE CARDS: each row of YtcbbhiobibhdnaaDoorRows.lean that lists a variable, with what it lists TIED to the program's text (the seventh form; the later family's looks); each row that meets fmt, with fmt's text TOLD by the authors' own Lean function (tested against real Go, not proved from fmt's source: count such statements apart). THE CARD IS WHAT COUNTS. Prove the row's statement (the work); the ties are given (YtcbbhiobibhdnaaDoorTie.lean); close each card by the builder's one call (the guide's Derived/Test/ToyasCard.lean, 'card_holds'). Laid BY PROGRAM, IN A SANDBOX (cutbox-door.mjs). By AI agents, Wed Nov 11 2026. No macro, syntax, notation, axiom, sorry.
-/
import Derived.Test.YtcbbhiobibhdnaaDoorRows
import GoSem.ClaimSeven
namespace Go.Proofs.YtcbbhiobibhdnaaDoor
namespace Rows

/-- THE TIED CARD OF 'bouletop.TopResists'. -/
def topResistsCard : Claim7 := { stood := { row := topResistsRow, standIns := [], harness := (true, "2907253d00751d44b79c85d920e9336a55d4918efd28408b566d14b06bd966f7"), looks := false }, kinds := [], alts := [], laidByText := true, laidKinds := [.data, .wider, .wider], laidTests := true, laidLooks := .later }
def TopResistsCardSaid : Prop := Claim7.holds Tryd.pinned (.plain (OpenSpec.ofChange topResistsSpec)) topResistsCard

/-- THE TIED CARD OF 'bouletop.TopMixes'. -/
def topMixesCard : Claim7 := { stood := { row := topMixesRow, standIns := [], harness := (true, "2907253d00751d44b79c85d920e9336a55d4918efd28408b566d14b06bd966f7"), looks := false }, kinds := [], alts := [], laidByText := true, laidKinds := [.data, .wider, .wider], laidTests := true, laidLooks := .later }
def TopMixesCardSaid : Prop := Claim7.holds Tryd.pinned (.plain (OpenSpec.ofChange topMixesSpec)) topMixesCard

/-- THE TIED CARD OF 'bouletop.TopDoped'. -/
def topDopedCard : Claim7 := { stood := { row := topDopedRow, standIns := [], harness := (true, "2907253d00751d44b79c85d920e9336a55d4918efd28408b566d14b06bd966f7"), looks := false }, kinds := [], alts := [], laidByText := true, laidKinds := [.data, .data, .wider, .wider, .pinned], laidTests := true, laidLooks := .later }
def TopDopedCardSaid : Prop := Claim7.holds Tryd.pinned (.plain (OpenSpec.ofChange topDopedSpec)) topDopedCard

/-- THE SECOND FORM's CARD OF 'bouletop.TopResists'. -/
def topResistsUptoCard : Claim7 := { stood := { row := topResistsUptoRow, standIns := [], harness := (true, "2907253d00751d44b79c85d920e9336a55d4918efd28408b566d14b06bd966f7"), looks := false }, kinds := [], alts := [], laidByText := true, laidKinds := [.data, .wider, .wider], laidTests := true, laidLooks := .later }
def TopResistsUptoCardSaid : Prop := Claim7.holds Tryd.pinned (.plain (OpenSpec.upto topResistsSpec)) topResistsUptoCard

/-- THE SECOND FORM's CARD OF 'bouletop.TopMixes'. -/
def topMixesUptoCard : Claim7 := { stood := { row := topMixesUptoRow, standIns := [], harness := (true, "2907253d00751d44b79c85d920e9336a55d4918efd28408b566d14b06bd966f7"), looks := false }, kinds := [], alts := [], laidByText := true, laidKinds := [.data, .wider, .wider], laidTests := true, laidLooks := .later }
def TopMixesUptoCardSaid : Prop := Claim7.holds Tryd.pinned (.plain (OpenSpec.upto topMixesSpec)) topMixesUptoCard

/-- THE SECOND FORM's CARD OF 'bouletop.TopDoped'. -/
def topDopedUptoCard : Claim7 := { stood := { row := topDopedUptoRow, standIns := [], harness := (true, "2907253d00751d44b79c85d920e9336a55d4918efd28408b566d14b06bd966f7"), looks := false }, kinds := [], alts := [], laidByText := true, laidKinds := [.data, .data, .wider, .wider, .pinned], laidTests := true, laidLooks := .later }
def TopDopedUptoCardSaid : Prop := Claim7.holds Tryd.pinned (.plain (OpenSpec.upto topDopedSpec)) topDopedUptoCard
end Rows
end Go.Proofs.YtcbbhiobibhdnaaDoor
