/- A store that is typed in answers as the store of chapter 2 does (the statement of TopStore). No condition. -/
import Derived.Test.YtnomnijhlbalaaaGreatDoorWAT3b
set_option maxRecDepth 100000
namespace Go.Proofs.YtnomnijhlbalaaaGreatDoor
section
open Go.RowKit Go.Proofs Go.Proofs.YtnomnijhlbalaaaGreatDoor Go.ChangeShapes Go.WideShapes Go.ChangeAt Go.WideMaps Go.WideElems Go.Deep
theorem tStore_proved : Rows.TopStoreCardSaid :=
 Claim7.holds_tied_plain_at .later [] [.data, .data, .data, .data, .data, .wider, .wider, .sentinel, .sentinel, .pinned] true (true, "371f034fdc29a5d40bdf42ad8ecd2e197e8946506dbeed1556088dd5c17a05e1") true
  xNQ (fun _ h => by cases h) sc1 (fun _ h => by cases h) topStore_row_tie rfl ⟨rfl, rfl⟩ sc2 rfl
  (fun f fn hf hfn => by
   obtain rfl : f = 3 := Option.some.inj (sc4.symm.trans hf) |>.symm;obtain rfl : fn = Tryz.f3 := (Option.some.inj (Tryz.func3.symm.trans hfn)).symm;exact ⟨sc3, fun j t ht => by
    rw [Tryz.params3] at ht;have hm : t ∈ [26, 32] := by simpa using Array.mem_of_getElem? ht
    exact (show Tryz.prog.wantsStandIn t = false by simpa using List.all_eq_true.1 sc5 t hm)⟩)
  sc6
end
end Go.Proofs.YtnomnijhlbalaaaGreatDoor
