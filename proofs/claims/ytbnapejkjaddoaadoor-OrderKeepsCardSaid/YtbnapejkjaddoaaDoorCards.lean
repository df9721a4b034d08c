/-
  DERIVED. GIVEN WITH THE SEED: THE CARDS: each row of YtbnapejkjaddoaaDoorRows.lean that lists a variable, with what it lists TIED to the program's text (the seventh form; the later family's looks); each row that meets fmt, with fmt's text TOLD by the authors' own Lean function (tested against real Go, not proved from fmt's source: count such statements apart). THE CARD IS WHAT COUNTS. Prove the row's statement (the work); the ties are given (YtbnapejkjaddoaaDoorTie.lean); close each card by the builder's one call (the guide's Derived/Test/ToyasCard.lean, 'card_holds'). Laid BY PROGRAM, IN A SANDBOX (cutbox-door.mjs). By AI agents, Wed Nov 11 2026. No macro, syntax, notation, axiom, sorry.
-/
import Derived.Test.YtbnapejkjaddoaaDoorRows
import GoSem.ClaimSeven
namespace Go.Proofs.YtbnapejkjaddoaaDoor
namespace Rows

/-- THE TIED CARD OF 'boulelaw10.OrderAssigns'. -/
def orderAssignsCard : Claim7 := { stood := { row := orderAssignsRow, standIns := [], harness := (true, "f8ef24b362c8d09f225da00826547b8f132183328fc7b5640d8093846d71b29e"), looks := false }, kinds := [], alts := [], laidByText := true, laidKinds := [.data, .pinned], laidTests := true, laidLooks := .later }
def OrderAssignsCardSaid : Prop := Claim7.holds Tryd.pinned (.plain (OpenSpec.ofChange orderAssignsSpec)) orderAssignsCard

/-- THE TIED CARD OF 'boulelaw10.OrderMore'. -/
def orderMoreCard : Claim7 := { stood := { row := orderMoreRow, standIns := [], harness := (true, "f8ef24b362c8d09f225da00826547b8f132183328fc7b5640d8093846d71b29e"), looks := false }, kinds := [], alts := [], laidByText := true, laidKinds := [.data, .pinned], laidTests := true, laidLooks := .later }
def OrderMoreCardSaid : Prop := Claim7.holds Tryd.pinned (.plain (OpenSpec.ofChange orderMoreSpec)) orderMoreCard

/-- THE TIED CARD OF 'boulelaw10.OrderPasses'. -/
def orderPassesCard : Claim7 := { stood := { row := orderPassesRow, standIns := [], harness := (true, "f8ef24b362c8d09f225da00826547b8f132183328fc7b5640d8093846d71b29e"), looks := false }, kinds := [], alts := [], laidByText := true, laidKinds := [.data, .pinned], laidTests := true, laidLooks := .later }
def OrderPassesCardSaid : Prop := Claim7.holds Tryd.pinned (.plain (OpenSpec.ofChange orderPassesSpec)) orderPassesCard

/-- THE TIED CARD OF 'boulelaw10.OrderSure'. -/
def orderSureCard : Claim7 := { stood := { row := orderSureRow, standIns := [], harness := (true, "f8ef24b362c8d09f225da00826547b8f132183328fc7b5640d8093846d71b29e"), looks := false }, kinds := [], alts := [], laidByText := true, laidKinds := [.data, .pinned], laidTests := true, laidLooks := .later }
def OrderSureCardSaid : Prop := Claim7.holds Tryd.pinned (.plain (OpenSpec.ofChange orderSureSpec)) orderSureCard

/-- THE TIED CARD OF 'boulelaw10.OrderBounds'. -/
def orderBoundsCard : Claim7 := { stood := { row := orderBoundsRow, standIns := [], harness := (true, "f8ef24b362c8d09f225da00826547b8f132183328fc7b5640d8093846d71b29e"), looks := false }, kinds := [], alts := [], laidByText := true, laidKinds := [.data, .pinned], laidTests := true, laidLooks := .later }
def OrderBoundsCardSaid : Prop := Claim7.holds Tryd.pinned (.plain (OpenSpec.ofChange orderBoundsSpec)) orderBoundsCard

/-- THE TIED CARD OF 'boulelaw10.OrderTotals'. -/
def orderTotalsCard : Claim7 := { stood := { row := orderTotalsRow, standIns := [], harness := (true, "f8ef24b362c8d09f225da00826547b8f132183328fc7b5640d8093846d71b29e"), looks := false }, kinds := [], alts := [], laidByText := true, laidKinds := [.data, .pinned], laidTests := true, laidLooks := .later }
def OrderTotalsCardSaid : Prop := Claim7.holds Tryd.pinned (.plain (OpenSpec.ofChange orderTotalsSpec)) orderTotalsCard

/-- THE TIED CARD OF 'boulelaw10.OrderUpper'. -/
def orderUpperCard : Claim7 := { stood := { row := orderUpperRow, standIns := [], harness := (true, "f8ef24b362c8d09f225da00826547b8f132183328fc7b5640d8093846d71b29e"), looks := false }, kinds := [], alts := [], laidByText := true, laidKinds := [.data, .pinned], laidTests := true, laidLooks := .later }
def OrderUpperCardSaid : Prop := Claim7.holds Tryd.pinned (.plain (OpenSpec.ofChange orderUpperSpec)) orderUpperCard

/-- THE TIED CARD OF 'boulelaw10.OrderNothing'. -/
def orderNothingCard : Claim7 := { stood := { row := orderNothingRow, standIns := [], harness := (true, "f8ef24b362c8d09f225da00826547b8f132183328fc7b5640d8093846d71b29e"), looks := false }, kinds := [], alts := [], laidByText := true, laidKinds := [.data, .pinned], laidTests := true, laidLooks := .later }
def OrderNothingCardSaid : Prop := Claim7.holds Tryd.pinned (.plain (OpenSpec.ofChange orderNothingSpec)) orderNothingCard

/-- THE TIED CARD OF 'boulelaw10.OrderBooks'. -/
def orderBooksCard : Claim7 := { stood := { row := orderBooksRow, standIns := [], harness := (true, "f8ef24b362c8d09f225da00826547b8f132183328fc7b5640d8093846d71b29e"), looks := false }, kinds := [], alts := [], laidByText := true, laidKinds := [.data, .pinned], laidTests := true, laidLooks := .later }
def OrderBooksCardSaid : Prop := Claim7.holds Tryd.pinned (.plain (OpenSpec.ofChange orderBooksSpec)) orderBooksCard

/-- THE TIED CARD OF 'boulelaw10.OrderKeeps'. -/
def orderKeepsCard : Claim7 := { stood := { row := orderKeepsRow, standIns := [], harness := (true, "f8ef24b362c8d09f225da00826547b8f132183328fc7b5640d8093846d71b29e"), looks := false }, kinds := [], alts := [], laidByText := true, laidKinds := [.data, .pinned], laidTests := true, laidLooks := .later }
def OrderKeepsCardSaid : Prop := Claim7.holds Tryd.pinned (.plain (OpenSpec.ofChange orderKeepsSpec)) orderKeepsCard

/-- THE SECOND FORM's CARD OF 'boulelaw10.OrderAssigns'. -/
def orderAssignsUptoCard : Claim7 := { stood := { row := orderAssignsUptoRow, standIns := [], harness := (true, "f8ef24b362c8d09f225da00826547b8f132183328fc7b5640d8093846d71b29e"), looks := false }, kinds := [], alts := [], laidByText := true, laidKinds := [.data, .pinned], laidTests := true, laidLooks := .later }
def OrderAssignsUptoCardSaid : Prop := Claim7.holds Tryd.pinned (.plain (OpenSpec.upto orderAssignsSpec)) orderAssignsUptoCard

/-- THE SECOND FORM's CARD OF 'boulelaw10.OrderMore'. -/
def orderMoreUptoCard : Claim7 := { stood := { row := orderMoreUptoRow, standIns := [], harness := (true, "f8ef24b362c8d09f225da00826547b8f132183328fc7b5640d8093846d71b29e"), looks := false }, kinds := [], alts := [], laidByText := true, laidKinds := [.data, .pinned], laidTests := true, laidLooks := .later }
def OrderMoreUptoCardSaid : Prop := Claim7.holds Tryd.pinned (.plain (OpenSpec.upto orderMoreSpec)) orderMoreUptoCard

/-- THE SECOND FORM's CARD OF 'boulelaw10.OrderPasses'. -/
def orderPassesUptoCard : Claim7 := { stood := { row := orderPassesUptoRow, standIns := [], harness := (true, "f8ef24b362c8d09f225da00826547b8f132183328fc7b5640d8093846d71b29e"), looks := false }, kinds := [], alts := [], laidByText := true, laidKinds := [.data, .pinned], laidTests := true, laidLooks := .later }
def OrderPassesUptoCardSaid : Prop := Claim7.holds Tryd.pinned (.plain (OpenSpec.upto orderPassesSpec)) orderPassesUptoCard

/-- THE SECOND FORM's CARD OF 'boulelaw10.OrderSure'. -/
def orderSureUptoCard : Claim7 := { stood := { row := orderSureUptoRow, standIns := [], harness := (true, "f8ef24b362c8d09f225da00826547b8f132183328fc7b5640d8093846d71b29e"), looks := false }, kinds := [], alts := [], laidByText := true, laidKinds := [.data, .pinned], laidTests := true, laidLooks := .later }
def OrderSureUptoCardSaid : Prop := Claim7.holds Tryd.pinned (.plain (OpenSpec.upto orderSureSpec)) orderSureUptoCard

/-- THE SECOND FORM's CARD OF 'boulelaw10.OrderBounds'. -/
def orderBoundsUptoCard : Claim7 := { stood := { row := orderBoundsUptoRow, standIns := [], harness := (true, "f8ef24b362c8d09f225da00826547b8f132183328fc7b5640d8093846d71b29e"), looks := false }, kinds := [], alts := [], laidByText := true, laidKinds := [.data, .pinned], laidTests := true, laidLooks := .later }
def OrderBoundsUptoCardSaid : Prop := Claim7.holds Tryd.pinned (.plain (OpenSpec.upto orderBoundsSpec)) orderBoundsUptoCard

/-- THE SECOND FORM's CARD OF 'boulelaw10.OrderTotals'. -/
def orderTotalsUptoCard : Claim7 := { stood := { row := orderTotalsUptoRow, standIns := [], harness := (true, "f8ef24b362c8d09f225da00826547b8f132183328fc7b5640d8093846d71b29e"), looks := false }, kinds := [], alts := [], laidByText := true, laidKinds := [.data, .pinned], laidTests := true, laidLooks := .later }
def OrderTotalsUptoCardSaid : Prop := Claim7.holds Tryd.pinned (.plain (OpenSpec.upto orderTotalsSpec)) orderTotalsUptoCard

/-- THE SECOND FORM's CARD OF 'boulelaw10.OrderUpper'. -/
def orderUpperUptoCard : Claim7 := { stood := { row := orderUpperUptoRow, standIns := [], harness := (true, "f8ef24b362c8d09f225da00826547b8f132183328fc7b5640d8093846d71b29e"), looks := false }, kinds := [], alts := [], laidByText := true, laidKinds := [.data, .pinned], laidTests := true, laidLooks := .later }
def OrderUpperUptoCardSaid : Prop := Claim7.holds Tryd.pinned (.plain (OpenSpec.upto orderUpperSpec)) orderUpperUptoCard

/-- THE SECOND FORM's CARD OF 'boulelaw10.OrderNothing'. -/
def orderNothingUptoCard : Claim7 := { stood := { row := orderNothingUptoRow, standIns := [], harness := (true, "f8ef24b362c8d09f225da00826547b8f132183328fc7b5640d8093846d71b29e"), looks := false }, kinds := [], alts := [], laidByText := true, laidKinds := [.data, .pinned], laidTests := true, laidLooks := .later }
def OrderNothingUptoCardSaid : Prop := Claim7.holds Tryd.pinned (.plain (OpenSpec.upto orderNothingSpec)) orderNothingUptoCard

/-- THE SECOND FORM's CARD OF 'boulelaw10.OrderBooks'. -/
def orderBooksUptoCard : Claim7 := { stood := { row := orderBooksUptoRow, standIns := [], harness := (true, "f8ef24b362c8d09f225da00826547b8f132183328fc7b5640d8093846d71b29e"), looks := false }, kinds := [], alts := [], laidByText := true, laidKinds := [.data, .pinned], laidTests := true, laidLooks := .later }
def OrderBooksUptoCardSaid : Prop := Claim7.holds Tryd.pinned (.plain (OpenSpec.upto orderBooksSpec)) orderBooksUptoCard

/-- THE SECOND FORM's CARD OF 'boulelaw10.OrderKeeps'. -/
def orderKeepsUptoCard : Claim7 := { stood := { row := orderKeepsUptoRow, standIns := [], harness := (true, "f8ef24b362c8d09f225da00826547b8f132183328fc7b5640d8093846d71b29e"), looks := false }, kinds := [], alts := [], laidByText := true, laidKinds := [.data, .pinned], laidTests := true, laidLooks := .later }
def OrderKeepsUptoCardSaid : Prop := Claim7.holds Tryd.pinned (.plain (OpenSpec.upto orderKeepsSpec)) orderKeepsUptoCard
end Rows
end Go.Proofs.YtbnapejkjaddoaaDoor
