/-
  DERIVED. GIVEN WITH THE SEED: THE CARDS: each row of YtdfgmfddkcmalaaDoorRows.lean that lists a variable, with what it lists TIED to the program's text (the seventh form; the later family's looks); each row that meets fmt, with fmt's text TOLD by the authors' own Lean function (tested against real Go, not proved from fmt's source: count such statements apart). THE CARD IS WHAT COUNTS. Prove the row's statement (the work); the ties are given (YtdfgmfddkcmalaaDoorTie.lean); close each card by the builder's one call (the guide's Derived/Test/ToyasCard.lean, 'card_holds'). Laid BY PROGRAM, IN A SANDBOX (cutbox-door.mjs). By AI agents, Wed Nov 11 2026. No macro, syntax, notation, axiom, sorry.
-/
import Derived.Test.YtdfgmfddkcmalaaDoorRows
import GoSem.ClaimSeven
namespace Go.Proofs.YtdfgmfddkcmalaaDoor
namespace Rows

/-- THE TIED CARD OF 'boulelaw08.SliceRuns'. -/
def sliceRunsCard : Claim7 := { stood := { row := sliceRunsRow, standIns := [], harness := (true, "949445da207ca9c69b0b73318c5d49bb8c837739b16b25a8508fc074439eeb8d"), looks := false }, kinds := [], alts := [], laidByText := true, laidKinds := [.data, .data, .data, .data, .pinned], laidTests := true, laidLooks := .later }
def SliceRunsCardSaid : Prop := Claim7.holds Tryd.pinned (.plain (OpenSpec.ofChange sliceRunsSpec)) sliceRunsCard

/-- THE TIED CARD OF 'boulelaw08.SlicePredicts'. -/
def slicePredictsCard : Claim7 := { stood := { row := slicePredictsRow, standIns := [], harness := (true, "949445da207ca9c69b0b73318c5d49bb8c837739b16b25a8508fc074439eeb8d"), looks := false }, kinds := [], alts := [], laidByText := true, laidKinds := [.data, .data, .data, .data, .pinned], laidTests := true, laidLooks := .later }
def SlicePredictsCardSaid : Prop := Claim7.holds Tryd.pinned (.plain (OpenSpec.ofChange slicePredictsSpec)) slicePredictsCard

/-- THE TIED CARD OF 'boulelaw08.SliceNarrows'. -/
def sliceNarrowsCard : Claim7 := { stood := { row := sliceNarrowsRow, standIns := [], harness := (true, "949445da207ca9c69b0b73318c5d49bb8c837739b16b25a8508fc074439eeb8d"), looks := false }, kinds := [], alts := [], laidByText := true, laidKinds := [.data, .data, .data, .data, .pinned], laidTests := true, laidLooks := .later }
def SliceNarrowsCardSaid : Prop := Claim7.holds Tryd.pinned (.plain (OpenSpec.ofChange sliceNarrowsSpec)) sliceNarrowsCard

/-- THE TIED CARD OF 'boulelaw08.SlicePitches'. -/
def slicePitchesCard : Claim7 := { stood := { row := slicePitchesRow, standIns := [], harness := (true, "949445da207ca9c69b0b73318c5d49bb8c837739b16b25a8508fc074439eeb8d"), looks := false }, kinds := [], alts := [], laidByText := true, laidKinds := [.data, .data, .data, .data, .pinned], laidTests := true, laidLooks := .later }
def SlicePitchesCardSaid : Prop := Claim7.holds Tryd.pinned (.plain (OpenSpec.ofChange slicePitchesSpec)) slicePitchesCard

/-- THE TIED CARD OF 'boulelaw08.SliceFollows'. -/
def sliceFollowsCard : Claim7 := { stood := { row := sliceFollowsRow, standIns := [], harness := (true, "949445da207ca9c69b0b73318c5d49bb8c837739b16b25a8508fc074439eeb8d"), looks := false }, kinds := [], alts := [], laidByText := true, laidKinds := [.data, .data, .data, .data, .pinned], laidTests := true, laidLooks := .later }
def SliceFollowsCardSaid : Prop := Claim7.holds Tryd.pinned (.plain (OpenSpec.ofChange sliceFollowsSpec)) sliceFollowsCard

/-- THE TIED CARD OF 'boulelaw08.SliceAll'. -/
def sliceAllCard : Claim7 := { stood := { row := sliceAllRow, standIns := [], harness := (true, "949445da207ca9c69b0b73318c5d49bb8c837739b16b25a8508fc074439eeb8d"), looks := false }, kinds := [], alts := [], laidByText := true, laidKinds := [.data, .data, .data, .data, .pinned], laidTests := true, laidLooks := .later }
def SliceAllCardSaid : Prop := Claim7.holds Tryd.pinned (.plain (OpenSpec.ofChange sliceAllSpec)) sliceAllCard

/-- THE TIED CARD OF 'boulelaw08.SliceDivides'. -/
def sliceDividesCard : Claim7 := { stood := { row := sliceDividesRow, standIns := [], harness := (true, "949445da207ca9c69b0b73318c5d49bb8c837739b16b25a8508fc074439eeb8d"), looks := false }, kinds := [], alts := [], laidByText := true, laidKinds := [.data, .data, .data, .data, .pinned], laidTests := true, laidLooks := .later }
def SliceDividesCardSaid : Prop := Claim7.holds Tryd.pinned (.plain (OpenSpec.ofChange sliceDividesSpec)) sliceDividesCard

/-- THE TIED CARD OF 'boulelaw08.SliceBows'. -/
def sliceBowsCard : Claim7 := { stood := { row := sliceBowsRow, standIns := [], harness := (true, "949445da207ca9c69b0b73318c5d49bb8c837739b16b25a8508fc074439eeb8d"), looks := false }, kinds := [], alts := [], laidByText := true, laidKinds := [.data, .data, .data, .data, .pinned], laidTests := true, laidLooks := .later }
def SliceBowsCardSaid : Prop := Claim7.holds Tryd.pinned (.plain (OpenSpec.ofChange sliceBowsSpec)) sliceBowsCard

/-- THE TIED CARD OF 'boulelaw08.SliceConserves'. -/
def sliceConservesCard : Claim7 := { stood := { row := sliceConservesRow, standIns := [], harness := (true, "949445da207ca9c69b0b73318c5d49bb8c837739b16b25a8508fc074439eeb8d"), looks := false }, kinds := [], alts := [], laidByText := true, laidKinds := [.data, .data, .data, .data, .pinned], laidTests := true, laidLooks := .later }
def SliceConservesCardSaid : Prop := Claim7.holds Tryd.pinned (.plain (OpenSpec.ofChange sliceConservesSpec)) sliceConservesCard

/-- THE SECOND FORM's CARD OF 'boulelaw08.SliceRuns'. -/
def sliceRunsUptoCard : Claim7 := { stood := { row := sliceRunsUptoRow, standIns := [], harness := (true, "949445da207ca9c69b0b73318c5d49bb8c837739b16b25a8508fc074439eeb8d"), looks := false }, kinds := [], alts := [], laidByText := true, laidKinds := [.data, .data, .data, .data, .pinned], laidTests := true, laidLooks := .later }
def SliceRunsUptoCardSaid : Prop := Claim7.holds Tryd.pinned (.plain (OpenSpec.upto sliceRunsSpec)) sliceRunsUptoCard

/-- THE SECOND FORM's CARD OF 'boulelaw08.SlicePredicts'. -/
def slicePredictsUptoCard : Claim7 := { stood := { row := slicePredictsUptoRow, standIns := [], harness := (true, "949445da207ca9c69b0b73318c5d49bb8c837739b16b25a8508fc074439eeb8d"), looks := false }, kinds := [], alts := [], laidByText := true, laidKinds := [.data, .data, .data, .data, .pinned], laidTests := true, laidLooks := .later }
def SlicePredictsUptoCardSaid : Prop := Claim7.holds Tryd.pinned (.plain (OpenSpec.upto slicePredictsSpec)) slicePredictsUptoCard

/-- THE SECOND FORM's CARD OF 'boulelaw08.SliceNarrows'. -/
def sliceNarrowsUptoCard : Claim7 := { stood := { row := sliceNarrowsUptoRow, standIns := [], harness := (true, "949445da207ca9c69b0b73318c5d49bb8c837739b16b25a8508fc074439eeb8d"), looks := false }, kinds := [], alts := [], laidByText := true, laidKinds := [.data, .data, .data, .data, .pinned], laidTests := true, laidLooks := .later }
def SliceNarrowsUptoCardSaid : Prop := Claim7.holds Tryd.pinned (.plain (OpenSpec.upto sliceNarrowsSpec)) sliceNarrowsUptoCard

/-- THE SECOND FORM's CARD OF 'boulelaw08.SlicePitches'. -/
def slicePitchesUptoCard : Claim7 := { stood := { row := slicePitchesUptoRow, standIns := [], harness := (true, "949445da207ca9c69b0b73318c5d49bb8c837739b16b25a8508fc074439eeb8d"), looks := false }, kinds := [], alts := [], laidByText := true, laidKinds := [.data, .data, .data, .data, .pinned], laidTests := true, laidLooks := .later }
def SlicePitchesUptoCardSaid : Prop := Claim7.holds Tryd.pinned (.plain (OpenSpec.upto slicePitchesSpec)) slicePitchesUptoCard

/-- THE SECOND FORM's CARD OF 'boulelaw08.SliceFollows'. -/
def sliceFollowsUptoCard : Claim7 := { stood := { row := sliceFollowsUptoRow, standIns := [], harness := (true, "949445da207ca9c69b0b73318c5d49bb8c837739b16b25a8508fc074439eeb8d"), looks := false }, kinds := [], alts := [], laidByText := true, laidKinds := [.data, .data, .data, .data, .pinned], laidTests := true, laidLooks := .later }
def SliceFollowsUptoCardSaid : Prop := Claim7.holds Tryd.pinned (.plain (OpenSpec.upto sliceFollowsSpec)) sliceFollowsUptoCard

/-- THE SECOND FORM's CARD OF 'boulelaw08.SliceAll'. -/
def sliceAllUptoCard : Claim7 := { stood := { row := sliceAllUptoRow, standIns := [], harness := (true, "949445da207ca9c69b0b73318c5d49bb8c837739b16b25a8508fc074439eeb8d"), looks := false }, kinds := [], alts := [], laidByText := true, laidKinds := [.data, .data, .data, .data, .pinned], laidTests := true, laidLooks := .later }
def SliceAllUptoCardSaid : Prop := Claim7.holds Tryd.pinned (.plain (OpenSpec.upto sliceAllSpec)) sliceAllUptoCard

/-- THE SECOND FORM's CARD OF 'boulelaw08.SliceDivides'. -/
def sliceDividesUptoCard : Claim7 := { stood := { row := sliceDividesUptoRow, standIns := [], harness := (true, "949445da207ca9c69b0b73318c5d49bb8c837739b16b25a8508fc074439eeb8d"), looks := false }, kinds := [], alts := [], laidByText := true, laidKinds := [.data, .data, .data, .data, .pinned], laidTests := true, laidLooks := .later }
def SliceDividesUptoCardSaid : Prop := Claim7.holds Tryd.pinned (.plain (OpenSpec.upto sliceDividesSpec)) sliceDividesUptoCard

/-- THE SECOND FORM's CARD OF 'boulelaw08.SliceBows'. -/
def sliceBowsUptoCard : Claim7 := { stood := { row := sliceBowsUptoRow, standIns := [], harness := (true, "949445da207ca9c69b0b73318c5d49bb8c837739b16b25a8508fc074439eeb8d"), looks := false }, kinds := [], alts := [], laidByText := true, laidKinds := [.data, .data, .data, .data, .pinned], laidTests := true, laidLooks := .later }
def SliceBowsUptoCardSaid : Prop := Claim7.holds Tryd.pinned (.plain (OpenSpec.upto sliceBowsSpec)) sliceBowsUptoCard

/-- THE SECOND FORM's CARD OF 'boulelaw08.SliceConserves'. -/
def sliceConservesUptoCard : Claim7 := { stood := { row := sliceConservesUptoRow, standIns := [], harness := (true, "949445da207ca9c69b0b73318c5d49bb8c837739b16b25a8508fc074439eeb8d"), looks := false }, kinds := [], alts := [], laidByText := true, laidKinds := [.data, .data, .data, .data, .pinned], laidTests := true, laidLooks := .later }
def SliceConservesUptoCardSaid : Prop := Claim7.holds Tryd.pinned (.plain (OpenSpec.upto sliceConservesSpec)) sliceConservesUptoCard
end Rows
end Go.Proofs.YtdfgmfddkcmalaaDoor
