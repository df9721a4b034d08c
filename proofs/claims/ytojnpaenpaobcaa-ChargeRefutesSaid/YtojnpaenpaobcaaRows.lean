/-
  No cell of these rows narrows 'for every input' (looked for: loops, veiled, ifaces, maps, wideKeys, modest, calm, conditions, laid).
  DERIVED. THE GIVEN ROWS OF THIS SEAT. 9 by the template 'for every input the law returns true; each argument reads behind the call as it read before'; 0 by the template 'total and deterministic' (their statements: YtojnpaenpaobcaaTotals.lean).
  GIVEN WITH THE SEED: the statements are not yours to turn. If you find one false, say at which input.
  Laid BY PROGRAM, IN A SANDBOX (cutbox-rows.mjs): the forced cells as the released guide's own fill.sh prints them over the translation 372216c322eb5a30… (all of the seat's roots in one cut). By AI agents, Wed Nov 11 2026. No macro, syntax, notation, axiom, sorry.
-/
import Derived.Test.YtojnpaenpaobcaaChecked
import GoSem.Claim
import GoSem.ClaimJoined
import GoSem.ClaimMapViews
import Derived.JoinedTies
import Derived.KernelRfl
namespace Go.Proofs.Ytojnpaenpaobcaa
/- THE CELL 'sum', in the pinned program and in every row, IS THE sha256 OF THE DUMP (.gsa) THAT YtojnpaenpaobcaaProg.lean LOADS. Nothing in Lean hashes anything: it is a label: what it is worth is what the hold of that sum in a sandbox is worth. -/
noncomputable def Try.pinned : Pinned := { name := "ytojnpaenpaobcaa", sum := "372216c322eb5a30255e1dbe2a9101b891fa26189575285572acf0afc93aee71", checked := Try.checked }
namespace Rows
def none {H : Type} : Left H := { results := [], args := [] }

/-- 'boulelaw02.ChargeWeighs': WHATEVER THE INPUT: true; the input reads as it did. -/
def chargeWeighsSpec : ChangeSpec := { name := "chargeWeighs", fn := fun _ => fun
  | [d1, d2] => { results := [.lit (.bool true)], args := [d1, d2] }
  | _ => none }
def chargeWeighsRow : OpenClaim := { program := "ytojnpaenpaobcaa", sum := "372216c322eb5a30255e1dbe2a9101b891fa26189575285572acf0afc93aee71", func := "boule/boulelaw02.ChargeWeighs", spec := "chargeWeighs", unfollowed := true, recurses := true, apart := false }
def ChargeWeighsSaid : Prop := chargeWeighsRow.holds Try.pinned (OpenSpec.ofChange chargeWeighsSpec)

/-- ITS FALSE NEIGHBOUR: 'it returns false'. Refute it at one input. -/
def chargeWeighsWrong : ChangeSpec := { name := "chargeWeighs", fn := fun _ => fun
  | [d1, d2] => { results := [.lit (.bool false)], args := [d1, d2] }
  | _ => none }
def ChargeWeighsWrongFalsely : Prop := chargeWeighsRow.holds Try.pinned (OpenSpec.ofChange chargeWeighsWrong)

/-- 'boulelaw02.ChargeBest': WHATEVER THE INPUT: true; the input reads as it did. -/
def chargeBestSpec : ChangeSpec := { name := "chargeBest", fn := fun _ => fun
  | [d] => { results := [.lit (.bool true)], args := [d] }
  | _ => none }
def chargeBestRow : OpenClaim := { program := "ytojnpaenpaobcaa", sum := "372216c322eb5a30255e1dbe2a9101b891fa26189575285572acf0afc93aee71", func := "boule/boulelaw02.ChargeBest", spec := "chargeBest", unfollowed := true, recurses := true, apart := false }
def ChargeBestSaid : Prop := chargeBestRow.holds Try.pinned (OpenSpec.ofChange chargeBestSpec)

/-- ITS FALSE NEIGHBOUR: 'it returns false'. Refute it at one input. -/
def chargeBestWrong : ChangeSpec := { name := "chargeBest", fn := fun _ => fun
  | [d] => { results := [.lit (.bool false)], args := [d] }
  | _ => none }
def ChargeBestWrongFalsely : Prop := chargeBestRow.holds Try.pinned (OpenSpec.ofChange chargeBestWrong)

/-- 'boulelaw02.ChargeRefutes': WHATEVER THE INPUT: true; the input reads as it did. -/
def chargeRefutesSpec : ChangeSpec := { name := "chargeRefutes", fn := fun _ => fun
  | [d1, d2] => { results := [.lit (.bool true)], args := [d1, d2] }
  | _ => none }
def chargeRefutesRow : OpenClaim := { program := "ytojnpaenpaobcaa", sum := "372216c322eb5a30255e1dbe2a9101b891fa26189575285572acf0afc93aee71", func := "boule/boulelaw02.ChargeRefutes", spec := "chargeRefutes", unfollowed := true, recurses := true, apart := false }
def ChargeRefutesSaid : Prop := chargeRefutesRow.holds Try.pinned (OpenSpec.ofChange chargeRefutesSpec)

/-- ITS FALSE NEIGHBOUR: 'it returns false'. Refute it at one input. -/
def chargeRefutesWrong : ChangeSpec := { name := "chargeRefutes", fn := fun _ => fun
  | [d1, d2] => { results := [.lit (.bool false)], args := [d1, d2] }
  | _ => none }
def ChargeRefutesWrongFalsely : Prop := chargeRefutesRow.holds Try.pinned (OpenSpec.ofChange chargeRefutesWrong)

/-- 'boulelaw02.ChargeSure': WHATEVER THE INPUT: true; the input reads as it did. -/
def chargeSureSpec : ChangeSpec := { name := "chargeSure", fn := fun _ => fun
  | [d1, d2] => { results := [.lit (.bool true)], args := [d1, d2] }
  | _ => none }
def chargeSureRow : OpenClaim := { program := "ytojnpaenpaobcaa", sum := "372216c322eb5a30255e1dbe2a9101b891fa26189575285572acf0afc93aee71", func := "boule/boulelaw02.ChargeSure", spec := "chargeSure", unfollowed := true, recurses := true, apart := false }
def ChargeSureSaid : Prop := chargeSureRow.holds Try.pinned (OpenSpec.ofChange chargeSureSpec)

/-- ITS FALSE NEIGHBOUR: 'it returns false'. Refute it at one input. -/
def chargeSureWrong : ChangeSpec := { name := "chargeSure", fn := fun _ => fun
  | [d1, d2] => { results := [.lit (.bool false)], args := [d1, d2] }
  | _ => none }
def ChargeSureWrongFalsely : Prop := chargeSureRow.holds Try.pinned (OpenSpec.ofChange chargeSureWrong)

/-- 'boulelaw02.ChargeEither': WHATEVER THE INPUT: true; the input reads as it did. -/
def chargeEitherSpec : ChangeSpec := { name := "chargeEither", fn := fun _ => fun
  | [d1, d2] => { results := [.lit (.bool true)], args := [d1, d2] }
  | _ => none }
def chargeEitherRow : OpenClaim := { program := "ytojnpaenpaobcaa", sum := "372216c322eb5a30255e1dbe2a9101b891fa26189575285572acf0afc93aee71", func := "boule/boulelaw02.ChargeEither", spec := "chargeEither", unfollowed := true, recurses := true, apart := false }
def ChargeEitherSaid : Prop := chargeEitherRow.holds Try.pinned (OpenSpec.ofChange chargeEitherSpec)

/-- ITS FALSE NEIGHBOUR: 'it returns false'. Refute it at one input. -/
def chargeEitherWrong : ChangeSpec := { name := "chargeEither", fn := fun _ => fun
  | [d1, d2] => { results := [.lit (.bool false)], args := [d1, d2] }
  | _ => none }
def ChargeEitherWrongFalsely : Prop := chargeEitherRow.holds Try.pinned (OpenSpec.ofChange chargeEitherWrong)

/-- 'boulelaw02.ChargeEasier': WHATEVER THE INPUT: true; the input reads as it did. -/
def chargeEasierSpec : ChangeSpec := { name := "chargeEasier", fn := fun _ => fun
  | [d1, d2, d3] => { results := [.lit (.bool true)], args := [d1, d2, d3] }
  | _ => none }
def chargeEasierRow : OpenClaim := { program := "ytojnpaenpaobcaa", sum := "372216c322eb5a30255e1dbe2a9101b891fa26189575285572acf0afc93aee71", func := "boule/boulelaw02.ChargeEasier", spec := "chargeEasier", unfollowed := true, recurses := true, apart := false }
def ChargeEasierSaid : Prop := chargeEasierRow.holds Try.pinned (OpenSpec.ofChange chargeEasierSpec)

/-- ITS FALSE NEIGHBOUR: 'it returns false'. Refute it at one input. -/
def chargeEasierWrong : ChangeSpec := { name := "chargeEasier", fn := fun _ => fun
  | [d1, d2, d3] => { results := [.lit (.bool false)], args := [d1, d2, d3] }
  | _ => none }
def ChargeEasierWrongFalsely : Prop := chargeEasierRow.holds Try.pinned (OpenSpec.ofChange chargeEasierWrong)

/-- 'boulelaw02.ChargeKeeps': WHATEVER THE INPUT: true; the input reads as it did. -/
def chargeKeepsSpec : ChangeSpec := { name := "chargeKeeps", fn := fun _ => fun
  | [d] => { results := [.lit (.bool true)], args := [d] }
  | _ => none }
def chargeKeepsRow : OpenClaim := { program := "ytojnpaenpaobcaa", sum := "372216c322eb5a30255e1dbe2a9101b891fa26189575285572acf0afc93aee71", func := "boule/boulelaw02.ChargeKeeps", spec := "chargeKeeps", unfollowed := true, recurses := true, apart := false }
def ChargeKeepsSaid : Prop := chargeKeepsRow.holds Try.pinned (OpenSpec.ofChange chargeKeepsSpec)

/-- ITS FALSE NEIGHBOUR: 'it returns false'. Refute it at one input. -/
def chargeKeepsWrong : ChangeSpec := { name := "chargeKeeps", fn := fun _ => fun
  | [d] => { results := [.lit (.bool false)], args := [d] }
  | _ => none }
def ChargeKeepsWrongFalsely : Prop := chargeKeepsRow.holds Try.pinned (OpenSpec.ofChange chargeKeepsWrong)

/-- 'boulelaw02.ChargeNothing': WHATEVER THE INPUT: true; the input reads as it did. -/
def chargeNothingSpec : ChangeSpec := { name := "chargeNothing", fn := fun _ => fun
  | [d] => { results := [.lit (.bool true)], args := [d] }
  | _ => none }
def chargeNothingRow : OpenClaim := { program := "ytojnpaenpaobcaa", sum := "372216c322eb5a30255e1dbe2a9101b891fa26189575285572acf0afc93aee71", func := "boule/boulelaw02.ChargeNothing", spec := "chargeNothing", unfollowed := true, recurses := true, apart := false }
def ChargeNothingSaid : Prop := chargeNothingRow.holds Try.pinned (OpenSpec.ofChange chargeNothingSpec)

/-- ITS FALSE NEIGHBOUR: 'it returns false'. Refute it at one input. -/
def chargeNothingWrong : ChangeSpec := { name := "chargeNothing", fn := fun _ => fun
  | [d] => { results := [.lit (.bool false)], args := [d] }
  | _ => none }
def ChargeNothingWrongFalsely : Prop := chargeNothingRow.holds Try.pinned (OpenSpec.ofChange chargeNothingWrong)

/-- 'boulelaw02.ChargeStores': WHATEVER THE INPUT: true; the input reads as it did. -/
def chargeStoresSpec : ChangeSpec := { name := "chargeStores", fn := fun _ => fun
  | [d] => { results := [.lit (.bool true)], args := [d] }
  | _ => none }
def chargeStoresRow : OpenClaim := { program := "ytojnpaenpaobcaa", sum := "372216c322eb5a30255e1dbe2a9101b891fa26189575285572acf0afc93aee71", func := "boule/boulelaw02.ChargeStores", spec := "chargeStores", unfollowed := true, recurses := true, apart := false }
def ChargeStoresSaid : Prop := chargeStoresRow.holds Try.pinned (OpenSpec.ofChange chargeStoresSpec)

/-- ITS FALSE NEIGHBOUR: 'it returns false'. Refute it at one input. -/
def chargeStoresWrong : ChangeSpec := { name := "chargeStores", fn := fun _ => fun
  | [d] => { results := [.lit (.bool false)], args := [d] }
  | _ => none }
def ChargeStoresWrongFalsely : Prop := chargeStoresRow.holds Try.pinned (OpenSpec.ofChange chargeStoresWrong)

/- THE SECOND FORM. 'bulk': how many values and letters a reading holds, each counted each time it is reached (what is shared counts as often as it is met; a slice's spare places count too). A statement '..UptoSaid' is the law's where the arguments, and the package variables that the reading takes, are together of bulk at most 1048576: NARROWER than '..Said'. Prove '..Said' where nothing that the law and all that it calls make is longer than what came in: it says more and counts as full. Else prove '..UptoSaid'. A law counts once. -/
mutual
def uptoBulk {H : Type} : DataW H → Nat
  | .lit (.string bytes) => bytes.length + 1
  | .lit _ => 1
  | .nil => 1
  | .ptr d => uptoBulk d + 1
  | .slice elems spare => uptoBulkAll elems + uptoBulkAll spare + 1
  | .agg parts => uptoBulkAll parts + 1
  | .iface _ d => uptoBulk d + 1
  | .map entries => uptoBulkEntries entries + 1
  | .held _ => 1
def uptoBulkAll {H : Type} : List (DataW H) → Nat
  | [] => 0
  | d :: r => uptoBulk d + uptoBulkAll r
def uptoBulkEntries {H : Type} : List (Lit × DataW H) → Nat
  | [] => 0
  | x :: r => uptoBulkEntry x + uptoBulkEntries r
def uptoBulkEntry {H : Type} : Lit × DataW H → Nat
  | (.string bytes, d) => bytes.length + uptoBulk d + 1
  | (_, d) => uptoBulk d + 1
 end
def uptoSmall : (H : Type) → List (DataW H) → Bool := fun _ ds => decide (uptoBulkAll ds ≤ 1048576)
def OpenSpec.upto (s : _root_.Go.ChangeSpec) : _root_.Go.OpenSpec := { _root_.Go.OpenSpec.ofChange s with cond := some uptoSmall }

/-- 'boulelaw02.ChargeWeighs', WHERE WHAT IT READS IS OF BULK AT MOST 1048576: true; the input reads as it did. -/
def chargeWeighsUptoRow : OpenClaim := { program := "ytojnpaenpaobcaa", sum := "372216c322eb5a30255e1dbe2a9101b891fa26189575285572acf0afc93aee71", func := "boule/boulelaw02.ChargeWeighs", spec := "chargeWeighs", unfollowed := true, recurses := true, apart := false, narrowed := true }
def ChargeWeighsUptoSaid : Prop := chargeWeighsUptoRow.holds Try.pinned (OpenSpec.upto chargeWeighsSpec)

/-- 'boulelaw02.ChargeBest', WHERE WHAT IT READS IS OF BULK AT MOST 1048576: true; the input reads as it did. -/
def chargeBestUptoRow : OpenClaim := { program := "ytojnpaenpaobcaa", sum := "372216c322eb5a30255e1dbe2a9101b891fa26189575285572acf0afc93aee71", func := "boule/boulelaw02.ChargeBest", spec := "chargeBest", unfollowed := true, recurses := true, apart := false, narrowed := true }
def ChargeBestUptoSaid : Prop := chargeBestUptoRow.holds Try.pinned (OpenSpec.upto chargeBestSpec)

/-- 'boulelaw02.ChargeRefutes', WHERE WHAT IT READS IS OF BULK AT MOST 1048576: true; the input reads as it did. -/
def chargeRefutesUptoRow : OpenClaim := { program := "ytojnpaenpaobcaa", sum := "372216c322eb5a30255e1dbe2a9101b891fa26189575285572acf0afc93aee71", func := "boule/boulelaw02.ChargeRefutes", spec := "chargeRefutes", unfollowed := true, recurses := true, apart := false, narrowed := true }
def ChargeRefutesUptoSaid : Prop := chargeRefutesUptoRow.holds Try.pinned (OpenSpec.upto chargeRefutesSpec)

/-- 'boulelaw02.ChargeSure', WHERE WHAT IT READS IS OF BULK AT MOST 1048576: true; the input reads as it did. -/
def chargeSureUptoRow : OpenClaim := { program := "ytojnpaenpaobcaa", sum := "372216c322eb5a30255e1dbe2a9101b891fa26189575285572acf0afc93aee71", func := "boule/boulelaw02.ChargeSure", spec := "chargeSure", unfollowed := true, recurses := true, apart := false, narrowed := true }
def ChargeSureUptoSaid : Prop := chargeSureUptoRow.holds Try.pinned (OpenSpec.upto chargeSureSpec)

/-- 'boulelaw02.ChargeEither', WHERE WHAT IT READS IS OF BULK AT MOST 1048576: true; the input reads as it did. -/
def chargeEitherUptoRow : OpenClaim := { program := "ytojnpaenpaobcaa", sum := "372216c322eb5a30255e1dbe2a9101b891fa26189575285572acf0afc93aee71", func := "boule/boulelaw02.ChargeEither", spec := "chargeEither", unfollowed := true, recurses := true, apart := false, narrowed := true }
def ChargeEitherUptoSaid : Prop := chargeEitherUptoRow.holds Try.pinned (OpenSpec.upto chargeEitherSpec)

/-- 'boulelaw02.ChargeEasier', WHERE WHAT IT READS IS OF BULK AT MOST 1048576: true; the input reads as it did. -/
def chargeEasierUptoRow : OpenClaim := { program := "ytojnpaenpaobcaa", sum := "372216c322eb5a30255e1dbe2a9101b891fa26189575285572acf0afc93aee71", func := "boule/boulelaw02.ChargeEasier", spec := "chargeEasier", unfollowed := true, recurses := true, apart := false, narrowed := true }
def ChargeEasierUptoSaid : Prop := chargeEasierUptoRow.holds Try.pinned (OpenSpec.upto chargeEasierSpec)

/-- 'boulelaw02.ChargeKeeps', WHERE WHAT IT READS IS OF BULK AT MOST 1048576: true; the input reads as it did. -/
def chargeKeepsUptoRow : OpenClaim := { program := "ytojnpaenpaobcaa", sum := "372216c322eb5a30255e1dbe2a9101b891fa26189575285572acf0afc93aee71", func := "boule/boulelaw02.ChargeKeeps", spec := "chargeKeeps", unfollowed := true, recurses := true, apart := false, narrowed := true }
def ChargeKeepsUptoSaid : Prop := chargeKeepsUptoRow.holds Try.pinned (OpenSpec.upto chargeKeepsSpec)

/-- 'boulelaw02.ChargeNothing', WHERE WHAT IT READS IS OF BULK AT MOST 1048576: true; the input reads as it did. -/
def chargeNothingUptoRow : OpenClaim := { program := "ytojnpaenpaobcaa", sum := "372216c322eb5a30255e1dbe2a9101b891fa26189575285572acf0afc93aee71", func := "boule/boulelaw02.ChargeNothing", spec := "chargeNothing", unfollowed := true, recurses := true, apart := false, narrowed := true }
def ChargeNothingUptoSaid : Prop := chargeNothingUptoRow.holds Try.pinned (OpenSpec.upto chargeNothingSpec)

/-- 'boulelaw02.ChargeStores', WHERE WHAT IT READS IS OF BULK AT MOST 1048576: true; the input reads as it did. -/
def chargeStoresUptoRow : OpenClaim := { program := "ytojnpaenpaobcaa", sum := "372216c322eb5a30255e1dbe2a9101b891fa26189575285572acf0afc93aee71", func := "boule/boulelaw02.ChargeStores", spec := "chargeStores", unfollowed := true, recurses := true, apart := false, narrowed := true }
def ChargeStoresUptoSaid : Prop := chargeStoresUptoRow.holds Try.pinned (OpenSpec.upto chargeStoresSpec)

end Rows
end Go.Proofs.Ytojnpaenpaobcaa
