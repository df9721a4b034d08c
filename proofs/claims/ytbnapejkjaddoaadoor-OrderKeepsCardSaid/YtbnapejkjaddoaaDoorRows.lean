/-
  NARROWER THAN 'FOR EVERY INPUT', by the rows' own cells (each row's printed sentence says how): OrderAssigns: laid · OrderMore: laid · OrderPasses: laid · OrderSure: laid · OrderBounds: laid · OrderTotals: laid · OrderUpper: laid · OrderNothing: laid · OrderBooks: laid · OrderKeeps: laid.
  DERIVED. THE GIVEN ROWS OF THIS SEAT. 10 by the template 'for every input the law returns true; each argument reads behind the call as it read before'; 0 by the template 'total and deterministic' (their statements: YtbnapejkjaddoaaDoorTotals.lean).
  GIVEN WITH THE SEED: the statements are not yours to turn. If you find one false, say at which input.
  Laid BY PROGRAM, IN A SANDBOX (cutbox-rows.mjs): the forced cells as the released guide's own fill.sh prints them over the translation c207fece5e4c2ddf… (all of the seat's roots in one cut). By AI agents, Wed Nov 11 2026. No macro, syntax, notation, axiom, sorry.
-/
import Derived.Test.YtbnapejkjaddoaaDoorChecked
import GoSem.PinnedTables
import GoSem.Claim
import GoSem.ClaimJoined
import GoSem.ClaimMapViews
import Derived.JoinedTies
import Derived.KernelRfl
namespace Go.Proofs.YtbnapejkjaddoaaDoor
/- THE CELL 'sum', in the pinned program and in every row, IS THE sha256 OF THE DUMP (.gsa) THAT YtbnapejkjaddoaaDoorProg.lean LOADS. Nothing in Lean hashes anything: it is a label: what it is worth is what the hold of that sum in a sandbox is worth. -/
noncomputable def Tryd.pinned : Pinned := { name := "ytbnapejkjaddoaadoor", sum := "c207fece5e4c2ddf1af84ac629b1908be13e055d9c64436b1aa6422f71b6c023", checked := Tryd.checked }
namespace Rows
def none {H : Type} : Left H := { results := [], args := [] }

/- WHAT THE LISTED PACKAGE-LEVEL VARIABLES READ AS WHEN THE CALL BEGINS. Each datum BY PROGRAM (the guide's laid-datum.mjs) off the statement by which the dump's own 'gosem.cut.vars' lays the variable. In a bare row this is a premise. The card (YtbnapejkjaddoaaDoorCards.lean) ties it to the program's text. -/
def laid_unicode_utf8_acceptRanges {H : Type} : DataW H := .agg [.agg [.lit (.int .u8 128), .lit (.int .u8 191)], .agg [.lit (.int .u8 160), .lit (.int .u8 191)], .agg [.lit (.int .u8 128), .lit (.int .u8 159)], .agg [.lit (.int .u8 144), .lit (.int .u8 191)], .agg [.lit (.int .u8 128), .lit (.int .u8 143)], .agg [.lit (.int .u8 0), .lit (.int .u8 0)], .agg [.lit (.int .u8 0), .lit (.int .u8 0)], .agg [.lit (.int .u8 0), .lit (.int .u8 0)], .agg [.lit (.int .u8 0), .lit (.int .u8 0)], .agg [.lit (.int .u8 0), .lit (.int .u8 0)], .agg [.lit (.int .u8 0), .lit (.int .u8 0)], .agg [.lit (.int .u8 0), .lit (.int .u8 0)], .agg [.lit (.int .u8 0), .lit (.int .u8 0)], .agg [.lit (.int .u8 0), .lit (.int .u8 0)], .agg [.lit (.int .u8 0), .lit (.int .u8 0)], .agg [.lit (.int .u8 0), .lit (.int .u8 0)]]
/-- One of Go's own tables, pinned by name: the form's constant. -/
def laid_unicode_utf8_first : DataW Unit := Go.Pinned.utf8First

/-- 'boulelaw10.OrderAssigns': WHATEVER THE INPUT: true; the input reads as it did. -/
def orderAssignsSpec : ChangeSpec := { name := "orderAssigns", fn := fun _ => fun
  | [d] => { results := [.lit (.bool true)], args := [d] }
  | _ => none }
def orderAssignsRow : OpenClaim := { program := "ytbnapejkjaddoaadoor", sum := "c207fece5e4c2ddf1af84ac629b1908be13e055d9c64436b1aa6422f71b6c023", func := "boule/boulelaw10.OrderAssigns", spec := "orderAssigns", inPlace := ["internal/bytealg.IndexByteString", "internal/bytealg.IndexString"], unfollowed := true, recurses := true, named := ["unicode/utf8.first", "unicode/utf8.acceptRanges", "internal/bytealg.MaxLen"], apart := false, laid := [("unicode/utf8.acceptRanges", laid_unicode_utf8_acceptRanges), ("unicode/utf8.first", laid_unicode_utf8_first)] }
def OrderAssignsSaid : Prop := orderAssignsRow.holds Tryd.pinned (OpenSpec.ofChange orderAssignsSpec)

/-- ITS FALSE NEIGHBOUR: 'it returns false'. Refute it at one input. -/
def orderAssignsWrong : ChangeSpec := { name := "orderAssigns", fn := fun _ => fun
  | [d] => { results := [.lit (.bool false)], args := [d] }
  | _ => none }
def OrderAssignsWrongFalsely : Prop := orderAssignsRow.holds Tryd.pinned (OpenSpec.ofChange orderAssignsWrong)

/-- 'boulelaw10.OrderMore': WHATEVER THE INPUT: true; the input reads as it did. -/
def orderMoreSpec : ChangeSpec := { name := "orderMore", fn := fun _ => fun
  | [d1, d2, d3] => { results := [.lit (.bool true)], args := [d1, d2, d3] }
  | _ => none }
def orderMoreRow : OpenClaim := { program := "ytbnapejkjaddoaadoor", sum := "c207fece5e4c2ddf1af84ac629b1908be13e055d9c64436b1aa6422f71b6c023", func := "boule/boulelaw10.OrderMore", spec := "orderMore", inPlace := ["internal/bytealg.IndexByteString", "internal/bytealg.IndexString"], unfollowed := true, recurses := true, named := ["unicode/utf8.first", "unicode/utf8.acceptRanges", "internal/bytealg.MaxLen"], apart := false, laid := [("unicode/utf8.acceptRanges", laid_unicode_utf8_acceptRanges), ("unicode/utf8.first", laid_unicode_utf8_first)] }
def OrderMoreSaid : Prop := orderMoreRow.holds Tryd.pinned (OpenSpec.ofChange orderMoreSpec)

/-- ITS FALSE NEIGHBOUR: 'it returns false'. Refute it at one input. -/
def orderMoreWrong : ChangeSpec := { name := "orderMore", fn := fun _ => fun
  | [d1, d2, d3] => { results := [.lit (.bool false)], args := [d1, d2, d3] }
  | _ => none }
def OrderMoreWrongFalsely : Prop := orderMoreRow.holds Tryd.pinned (OpenSpec.ofChange orderMoreWrong)

/-- 'boulelaw10.OrderPasses': WHATEVER THE INPUT: true; the input reads as it did. -/
def orderPassesSpec : ChangeSpec := { name := "orderPasses", fn := fun _ => fun
  | [d1, d2] => { results := [.lit (.bool true)], args := [d1, d2] }
  | _ => none }
def orderPassesRow : OpenClaim := { program := "ytbnapejkjaddoaadoor", sum := "c207fece5e4c2ddf1af84ac629b1908be13e055d9c64436b1aa6422f71b6c023", func := "boule/boulelaw10.OrderPasses", spec := "orderPasses", inPlace := ["internal/bytealg.IndexByteString", "internal/bytealg.IndexString"], unfollowed := true, recurses := true, named := ["unicode/utf8.first", "unicode/utf8.acceptRanges", "internal/bytealg.MaxLen"], apart := false, laid := [("unicode/utf8.acceptRanges", laid_unicode_utf8_acceptRanges), ("unicode/utf8.first", laid_unicode_utf8_first)] }
def OrderPassesSaid : Prop := orderPassesRow.holds Tryd.pinned (OpenSpec.ofChange orderPassesSpec)

/-- ITS FALSE NEIGHBOUR: 'it returns false'. Refute it at one input. -/
def orderPassesWrong : ChangeSpec := { name := "orderPasses", fn := fun _ => fun
  | [d1, d2] => { results := [.lit (.bool false)], args := [d1, d2] }
  | _ => none }
def OrderPassesWrongFalsely : Prop := orderPassesRow.holds Tryd.pinned (OpenSpec.ofChange orderPassesWrong)

/-- 'boulelaw10.OrderSure': WHATEVER THE INPUT: true; the input reads as it did. -/
def orderSureSpec : ChangeSpec := { name := "orderSure", fn := fun _ => fun
  | [d1, d2, d3] => { results := [.lit (.bool true)], args := [d1, d2, d3] }
  | _ => none }
def orderSureRow : OpenClaim := { program := "ytbnapejkjaddoaadoor", sum := "c207fece5e4c2ddf1af84ac629b1908be13e055d9c64436b1aa6422f71b6c023", func := "boule/boulelaw10.OrderSure", spec := "orderSure", inPlace := ["internal/bytealg.IndexByteString", "internal/bytealg.IndexString"], unfollowed := true, recurses := true, named := ["unicode/utf8.first", "unicode/utf8.acceptRanges", "internal/bytealg.MaxLen"], apart := false, laid := [("unicode/utf8.acceptRanges", laid_unicode_utf8_acceptRanges), ("unicode/utf8.first", laid_unicode_utf8_first)] }
def OrderSureSaid : Prop := orderSureRow.holds Tryd.pinned (OpenSpec.ofChange orderSureSpec)

/-- ITS FALSE NEIGHBOUR: 'it returns false'. Refute it at one input. -/
def orderSureWrong : ChangeSpec := { name := "orderSure", fn := fun _ => fun
  | [d1, d2, d3] => { results := [.lit (.bool false)], args := [d1, d2, d3] }
  | _ => none }
def OrderSureWrongFalsely : Prop := orderSureRow.holds Tryd.pinned (OpenSpec.ofChange orderSureWrong)

/-- 'boulelaw10.OrderBounds': WHATEVER THE INPUT: true; the input reads as it did. -/
def orderBoundsSpec : ChangeSpec := { name := "orderBounds", fn := fun _ => fun
  | [d1, d2] => { results := [.lit (.bool true)], args := [d1, d2] }
  | _ => none }
def orderBoundsRow : OpenClaim := { program := "ytbnapejkjaddoaadoor", sum := "c207fece5e4c2ddf1af84ac629b1908be13e055d9c64436b1aa6422f71b6c023", func := "boule/boulelaw10.OrderBounds", spec := "orderBounds", inPlace := ["internal/bytealg.IndexByteString", "internal/bytealg.IndexString"], unfollowed := true, recurses := true, named := ["unicode/utf8.first", "unicode/utf8.acceptRanges", "internal/bytealg.MaxLen"], apart := false, laid := [("unicode/utf8.acceptRanges", laid_unicode_utf8_acceptRanges), ("unicode/utf8.first", laid_unicode_utf8_first)] }
def OrderBoundsSaid : Prop := orderBoundsRow.holds Tryd.pinned (OpenSpec.ofChange orderBoundsSpec)

/-- ITS FALSE NEIGHBOUR: 'it returns false'. Refute it at one input. -/
def orderBoundsWrong : ChangeSpec := { name := "orderBounds", fn := fun _ => fun
  | [d1, d2] => { results := [.lit (.bool false)], args := [d1, d2] }
  | _ => none }
def OrderBoundsWrongFalsely : Prop := orderBoundsRow.holds Tryd.pinned (OpenSpec.ofChange orderBoundsWrong)

/-- 'boulelaw10.OrderTotals': WHATEVER THE INPUT: true; the input reads as it did. -/
def orderTotalsSpec : ChangeSpec := { name := "orderTotals", fn := fun _ => fun
  | [d1, d2] => { results := [.lit (.bool true)], args := [d1, d2] }
  | _ => none }
def orderTotalsRow : OpenClaim := { program := "ytbnapejkjaddoaadoor", sum := "c207fece5e4c2ddf1af84ac629b1908be13e055d9c64436b1aa6422f71b6c023", func := "boule/boulelaw10.OrderTotals", spec := "orderTotals", inPlace := ["internal/bytealg.IndexByteString", "internal/bytealg.IndexString"], unfollowed := true, recurses := true, named := ["unicode/utf8.first", "unicode/utf8.acceptRanges", "internal/bytealg.MaxLen"], apart := false, laid := [("unicode/utf8.acceptRanges", laid_unicode_utf8_acceptRanges), ("unicode/utf8.first", laid_unicode_utf8_first)] }
def OrderTotalsSaid : Prop := orderTotalsRow.holds Tryd.pinned (OpenSpec.ofChange orderTotalsSpec)

/-- ITS FALSE NEIGHBOUR: 'it returns false'. Refute it at one input. -/
def orderTotalsWrong : ChangeSpec := { name := "orderTotals", fn := fun _ => fun
  | [d1, d2] => { results := [.lit (.bool false)], args := [d1, d2] }
  | _ => none }
def OrderTotalsWrongFalsely : Prop := orderTotalsRow.holds Tryd.pinned (OpenSpec.ofChange orderTotalsWrong)

/-- 'boulelaw10.OrderUpper': WHATEVER THE INPUT: true; the input reads as it did. -/
def orderUpperSpec : ChangeSpec := { name := "orderUpper", fn := fun _ => fun
  | [d1, d2, d3] => { results := [.lit (.bool true)], args := [d1, d2, d3] }
  | _ => none }
def orderUpperRow : OpenClaim := { program := "ytbnapejkjaddoaadoor", sum := "c207fece5e4c2ddf1af84ac629b1908be13e055d9c64436b1aa6422f71b6c023", func := "boule/boulelaw10.OrderUpper", spec := "orderUpper", inPlace := ["internal/bytealg.IndexByteString", "internal/bytealg.IndexString"], unfollowed := true, recurses := true, named := ["unicode/utf8.first", "unicode/utf8.acceptRanges", "internal/bytealg.MaxLen"], apart := false, laid := [("unicode/utf8.acceptRanges", laid_unicode_utf8_acceptRanges), ("unicode/utf8.first", laid_unicode_utf8_first)] }
def OrderUpperSaid : Prop := orderUpperRow.holds Tryd.pinned (OpenSpec.ofChange orderUpperSpec)

/-- ITS FALSE NEIGHBOUR: 'it returns false'. Refute it at one input. -/
def orderUpperWrong : ChangeSpec := { name := "orderUpper", fn := fun _ => fun
  | [d1, d2, d3] => { results := [.lit (.bool false)], args := [d1, d2, d3] }
  | _ => none }
def OrderUpperWrongFalsely : Prop := orderUpperRow.holds Tryd.pinned (OpenSpec.ofChange orderUpperWrong)

/-- 'boulelaw10.OrderNothing': WHATEVER THE INPUT: true; the input reads as it did. -/
def orderNothingSpec : ChangeSpec := { name := "orderNothing", fn := fun _ => fun
  | [d] => { results := [.lit (.bool true)], args := [d] }
  | _ => none }
def orderNothingRow : OpenClaim := { program := "ytbnapejkjaddoaadoor", sum := "c207fece5e4c2ddf1af84ac629b1908be13e055d9c64436b1aa6422f71b6c023", func := "boule/boulelaw10.OrderNothing", spec := "orderNothing", inPlace := ["internal/bytealg.IndexByteString", "internal/bytealg.IndexString"], unfollowed := true, recurses := true, named := ["unicode/utf8.first", "unicode/utf8.acceptRanges", "internal/bytealg.MaxLen"], apart := false, laid := [("unicode/utf8.acceptRanges", laid_unicode_utf8_acceptRanges), ("unicode/utf8.first", laid_unicode_utf8_first)] }
def OrderNothingSaid : Prop := orderNothingRow.holds Tryd.pinned (OpenSpec.ofChange orderNothingSpec)

/-- ITS FALSE NEIGHBOUR: 'it returns false'. Refute it at one input. -/
def orderNothingWrong : ChangeSpec := { name := "orderNothing", fn := fun _ => fun
  | [d] => { results := [.lit (.bool false)], args := [d] }
  | _ => none }
def OrderNothingWrongFalsely : Prop := orderNothingRow.holds Tryd.pinned (OpenSpec.ofChange orderNothingWrong)

/-- 'boulelaw10.OrderBooks': WHATEVER THE INPUT: true; the input reads as it did. -/
def orderBooksSpec : ChangeSpec := { name := "orderBooks", fn := fun _ => fun
  | [d1, d2] => { results := [.lit (.bool true)], args := [d1, d2] }
  | _ => none }
def orderBooksRow : OpenClaim := { program := "ytbnapejkjaddoaadoor", sum := "c207fece5e4c2ddf1af84ac629b1908be13e055d9c64436b1aa6422f71b6c023", func := "boule/boulelaw10.OrderBooks", spec := "orderBooks", inPlace := ["internal/bytealg.IndexByteString", "internal/bytealg.IndexString"], unfollowed := true, recurses := true, named := ["unicode/utf8.first", "unicode/utf8.acceptRanges", "internal/bytealg.MaxLen"], apart := false, laid := [("unicode/utf8.acceptRanges", laid_unicode_utf8_acceptRanges), ("unicode/utf8.first", laid_unicode_utf8_first)] }
def OrderBooksSaid : Prop := orderBooksRow.holds Tryd.pinned (OpenSpec.ofChange orderBooksSpec)

/-- ITS FALSE NEIGHBOUR: 'it returns false'. Refute it at one input. -/
def orderBooksWrong : ChangeSpec := { name := "orderBooks", fn := fun _ => fun
  | [d1, d2] => { results := [.lit (.bool false)], args := [d1, d2] }
  | _ => none }
def OrderBooksWrongFalsely : Prop := orderBooksRow.holds Tryd.pinned (OpenSpec.ofChange orderBooksWrong)

/-- 'boulelaw10.OrderKeeps': WHATEVER THE INPUT: true; the input reads as it did. -/
def orderKeepsSpec : ChangeSpec := { name := "orderKeeps", fn := fun _ => fun
  | [d1, d2, d3] => { results := [.lit (.bool true)], args := [d1, d2, d3] }
  | _ => none }
def orderKeepsRow : OpenClaim := { program := "ytbnapejkjaddoaadoor", sum := "c207fece5e4c2ddf1af84ac629b1908be13e055d9c64436b1aa6422f71b6c023", func := "boule/boulelaw10.OrderKeeps", spec := "orderKeeps", inPlace := ["internal/bytealg.IndexByteString", "internal/bytealg.IndexString"], unfollowed := true, recurses := true, named := ["unicode/utf8.first", "unicode/utf8.acceptRanges", "internal/bytealg.MaxLen"], apart := false, laid := [("unicode/utf8.acceptRanges", laid_unicode_utf8_acceptRanges), ("unicode/utf8.first", laid_unicode_utf8_first)] }
def OrderKeepsSaid : Prop := orderKeepsRow.holds Tryd.pinned (OpenSpec.ofChange orderKeepsSpec)

/-- ITS FALSE NEIGHBOUR: 'it returns false'. Refute it at one input. -/
def orderKeepsWrong : ChangeSpec := { name := "orderKeeps", fn := fun _ => fun
  | [d1, d2, d3] => { results := [.lit (.bool false)], args := [d1, d2, d3] }
  | _ => none }
def OrderKeepsWrongFalsely : Prop := orderKeepsRow.holds Tryd.pinned (OpenSpec.ofChange orderKeepsWrong)

/- THE SECOND FORM. 'bulk': how many values and letters a reading holds, each counted each time it is reached (what is shared counts as often as it is met; a slice's spare places count too). A statement '..UptoSaid' is the law's where the arguments, and the package variables that the reading takes, are together of bulk at most 1048576: NARROWER than '..Said'. Prove '..Said' where nothing that the law and all that it calls make is longer than what came in: it says more and counts as full. Else prove '..UptoSaid'. A law counts once. -/
mutual
def uptoBulk {H : Type} : DataW H → Nat
  | .lit (.string bytes) => bytes.length + 1
  | .lit _ => 1
  | .nil => 1
  | .ptr d => uptoBulk d + 1
  | .slice elems spare => uptoBulkAll elems + uptoBulkAll spare + 1
  | .agg parts => uptoBulkAll parts + 1
  | .iface _ d => uptoBulk d + 1
  | .map entries => uptoBulkEntries entries + 1
  | .held _ => 1
def uptoBulkAll {H : Type} : List (DataW H) → Nat
  | [] => 0
  | d :: r => uptoBulk d + uptoBulkAll r
def uptoBulkEntries {H : Type} : List (Lit × DataW H) → Nat
  | [] => 0
  | x :: r => uptoBulkEntry x + uptoBulkEntries r
def uptoBulkEntry {H : Type} : Lit × DataW H → Nat
  | (.string bytes, d) => bytes.length + uptoBulk d + 1
  | (_, d) => uptoBulk d + 1
 end
def uptoSmall : (H : Type) → List (DataW H) → Bool := fun _ ds => decide (uptoBulkAll ds ≤ 1048576)
def OpenSpec.upto (s : _root_.Go.ChangeSpec) : _root_.Go.OpenSpec := { _root_.Go.OpenSpec.ofChange s with cond := some uptoSmall }

/-- 'boulelaw10.OrderAssigns', WHERE WHAT IT READS IS OF BULK AT MOST 1048576: true; the input reads as it did. -/
def orderAssignsUptoRow : OpenClaim := { program := "ytbnapejkjaddoaadoor", sum := "c207fece5e4c2ddf1af84ac629b1908be13e055d9c64436b1aa6422f71b6c023", func := "boule/boulelaw10.OrderAssigns", spec := "orderAssigns", inPlace := ["internal/bytealg.IndexByteString", "internal/bytealg.IndexString"], unfollowed := true, recurses := true, named := ["unicode/utf8.first", "unicode/utf8.acceptRanges", "internal/bytealg.MaxLen"], apart := false, laid := [("unicode/utf8.acceptRanges", laid_unicode_utf8_acceptRanges), ("unicode/utf8.first", laid_unicode_utf8_first)], narrowed := true }
def OrderAssignsUptoSaid : Prop := orderAssignsUptoRow.holds Tryd.pinned (OpenSpec.upto orderAssignsSpec)

/-- 'boulelaw10.OrderMore', WHERE WHAT IT READS IS OF BULK AT MOST 1048576: true; the input reads as it did. -/
def orderMoreUptoRow : OpenClaim := { program := "ytbnapejkjaddoaadoor", sum := "c207fece5e4c2ddf1af84ac629b1908be13e055d9c64436b1aa6422f71b6c023", func := "boule/boulelaw10.OrderMore", spec := "orderMore", inPlace := ["internal/bytealg.IndexByteString", "internal/bytealg.IndexString"], unfollowed := true, recurses := true, named := ["unicode/utf8.first", "unicode/utf8.acceptRanges", "internal/bytealg.MaxLen"], apart := false, laid := [("unicode/utf8.acceptRanges", laid_unicode_utf8_acceptRanges), ("unicode/utf8.first", laid_unicode_utf8_first)], narrowed := true }
def OrderMoreUptoSaid : Prop := orderMoreUptoRow.holds Tryd.pinned (OpenSpec.upto orderMoreSpec)

/-- 'boulelaw10.OrderPasses', WHERE WHAT IT READS IS OF BULK AT MOST 1048576: true; the input reads as it did. -/
def orderPassesUptoRow : OpenClaim := { program := "ytbnapejkjaddoaadoor", sum := "c207fece5e4c2ddf1af84ac629b1908be13e055d9c64436b1aa6422f71b6c023", func := "boule/boulelaw10.OrderPasses", spec := "orderPasses", inPlace := ["internal/bytealg.IndexByteString", "internal/bytealg.IndexString"], unfollowed := true, recurses := true, named := ["unicode/utf8.first", "unicode/utf8.acceptRanges", "internal/bytealg.MaxLen"], apart := false, laid := [("unicode/utf8.acceptRanges", laid_unicode_utf8_acceptRanges), ("unicode/utf8.first", laid_unicode_utf8_first)], narrowed := true }
def OrderPassesUptoSaid : Prop := orderPassesUptoRow.holds Tryd.pinned (OpenSpec.upto orderPassesSpec)

/-- 'boulelaw10.OrderSure', WHERE WHAT IT READS IS OF BULK AT MOST 1048576: true; the input reads as it did. -/
def orderSureUptoRow : OpenClaim := { program := "ytbnapejkjaddoaadoor", sum := "c207fece5e4c2ddf1af84ac629b1908be13e055d9c64436b1aa6422f71b6c023", func := "boule/boulelaw10.OrderSure", spec := "orderSure", inPlace := ["internal/bytealg.IndexByteString", "internal/bytealg.IndexString"], unfollowed := true, recurses := true, named := ["unicode/utf8.first", "unicode/utf8.acceptRanges", "internal/bytealg.MaxLen"], apart := false, laid := [("unicode/utf8.acceptRanges", laid_unicode_utf8_acceptRanges), ("unicode/utf8.first", laid_unicode_utf8_first)], narrowed := true }
def OrderSureUptoSaid : Prop := orderSureUptoRow.holds Tryd.pinned (OpenSpec.upto orderSureSpec)

/-- 'boulelaw10.OrderBounds', WHERE WHAT IT READS IS OF BULK AT MOST 1048576: true; the input reads as it did. -/
def orderBoundsUptoRow : OpenClaim := { program := "ytbnapejkjaddoaadoor", sum := "c207fece5e4c2ddf1af84ac629b1908be13e055d9c64436b1aa6422f71b6c023", func := "boule/boulelaw10.OrderBounds", spec := "orderBounds", inPlace := ["internal/bytealg.IndexByteString", "internal/bytealg.IndexString"], unfollowed := true, recurses := true, named := ["unicode/utf8.first", "unicode/utf8.acceptRanges", "internal/bytealg.MaxLen"], apart := false, laid := [("unicode/utf8.acceptRanges", laid_unicode_utf8_acceptRanges), ("unicode/utf8.first", laid_unicode_utf8_first)], narrowed := true }
def OrderBoundsUptoSaid : Prop := orderBoundsUptoRow.holds Tryd.pinned (OpenSpec.upto orderBoundsSpec)

/-- 'boulelaw10.OrderTotals', WHERE WHAT IT READS IS OF BULK AT MOST 1048576: true; the input reads as it did. -/
def orderTotalsUptoRow : OpenClaim := { program := "ytbnapejkjaddoaadoor", sum := "c207fece5e4c2ddf1af84ac629b1908be13e055d9c64436b1aa6422f71b6c023", func := "boule/boulelaw10.OrderTotals", spec := "orderTotals", inPlace := ["internal/bytealg.IndexByteString", "internal/bytealg.IndexString"], unfollowed := true, recurses := true, named := ["unicode/utf8.first", "unicode/utf8.acceptRanges", "internal/bytealg.MaxLen"], apart := false, laid := [("unicode/utf8.acceptRanges", laid_unicode_utf8_acceptRanges), ("unicode/utf8.first", laid_unicode_utf8_first)], narrowed := true }
def OrderTotalsUptoSaid : Prop := orderTotalsUptoRow.holds Tryd.pinned (OpenSpec.upto orderTotalsSpec)

/-- 'boulelaw10.OrderUpper', WHERE WHAT IT READS IS OF BULK AT MOST 1048576: true; the input reads as it did. -/
def orderUpperUptoRow : OpenClaim := { program := "ytbnapejkjaddoaadoor", sum := "c207fece5e4c2ddf1af84ac629b1908be13e055d9c64436b1aa6422f71b6c023", func := "boule/boulelaw10.OrderUpper", spec := "orderUpper", inPlace := ["internal/bytealg.IndexByteString", "internal/bytealg.IndexString"], unfollowed := true, recurses := true, named := ["unicode/utf8.first", "unicode/utf8.acceptRanges", "internal/bytealg.MaxLen"], apart := false, laid := [("unicode/utf8.acceptRanges", laid_unicode_utf8_acceptRanges), ("unicode/utf8.first", laid_unicode_utf8_first)], narrowed := true }
def OrderUpperUptoSaid : Prop := orderUpperUptoRow.holds Tryd.pinned (OpenSpec.upto orderUpperSpec)

/-- 'boulelaw10.OrderNothing', WHERE WHAT IT READS IS OF BULK AT MOST 1048576: true; the input reads as it did. -/
def orderNothingUptoRow : OpenClaim := { program := "ytbnapejkjaddoaadoor", sum := "c207fece5e4c2ddf1af84ac629b1908be13e055d9c64436b1aa6422f71b6c023", func := "boule/boulelaw10.OrderNothing", spec := "orderNothing", inPlace := ["internal/bytealg.IndexByteString", "internal/bytealg.IndexString"], unfollowed := true, recurses := true, named := ["unicode/utf8.first", "unicode/utf8.acceptRanges", "internal/bytealg.MaxLen"], apart := false, laid := [("unicode/utf8.acceptRanges", laid_unicode_utf8_acceptRanges), ("unicode/utf8.first", laid_unicode_utf8_first)], narrowed := true }
def OrderNothingUptoSaid : Prop := orderNothingUptoRow.holds Tryd.pinned (OpenSpec.upto orderNothingSpec)

/-- 'boulelaw10.OrderBooks', WHERE WHAT IT READS IS OF BULK AT MOST 1048576: true; the input reads as it did. -/
def orderBooksUptoRow : OpenClaim := { program := "ytbnapejkjaddoaadoor", sum := "c207fece5e4c2ddf1af84ac629b1908be13e055d9c64436b1aa6422f71b6c023", func := "boule/boulelaw10.OrderBooks", spec := "orderBooks", inPlace := ["internal/bytealg.IndexByteString", "internal/bytealg.IndexString"], unfollowed := true, recurses := true, named := ["unicode/utf8.first", "unicode/utf8.acceptRanges", "internal/bytealg.MaxLen"], apart := false, laid := [("unicode/utf8.acceptRanges", laid_unicode_utf8_acceptRanges), ("unicode/utf8.first", laid_unicode_utf8_first)], narrowed := true }
def OrderBooksUptoSaid : Prop := orderBooksUptoRow.holds Tryd.pinned (OpenSpec.upto orderBooksSpec)

/-- 'boulelaw10.OrderKeeps', WHERE WHAT IT READS IS OF BULK AT MOST 1048576: true; the input reads as it did. -/
def orderKeepsUptoRow : OpenClaim := { program := "ytbnapejkjaddoaadoor", sum := "c207fece5e4c2ddf1af84ac629b1908be13e055d9c64436b1aa6422f71b6c023", func := "boule/boulelaw10.OrderKeeps", spec := "orderKeeps", inPlace := ["internal/bytealg.IndexByteString", "internal/bytealg.IndexString"], unfollowed := true, recurses := true, named := ["unicode/utf8.first", "unicode/utf8.acceptRanges", "internal/bytealg.MaxLen"], apart := false, laid := [("unicode/utf8.acceptRanges", laid_unicode_utf8_acceptRanges), ("unicode/utf8.first", laid_unicode_utf8_first)], narrowed := true }
def OrderKeepsUptoSaid : Prop := orderKeepsUptoRow.holds Tryd.pinned (OpenSpec.upto orderKeepsSpec)

end Rows
end Go.Proofs.YtbnapejkjaddoaaDoor
