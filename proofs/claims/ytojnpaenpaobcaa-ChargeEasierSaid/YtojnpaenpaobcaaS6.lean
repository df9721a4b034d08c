/- Copies that the laws make: their meaning, and that they compute it. No condition. -/
import Derived.Test.YtojnpaenpaobcaaV
import Derived.Test.YtojnpaenpaobcaaProg
import Derived.Test.YtojnpaenpaobcaaK4
import Derived.Test.YtojnpaenpaobcaaS1
namespace Go.Proofs.Ytojnpaenpaobcaa
open Go.RowKit
theorem xei3 : EI Try.prog 29 3 1 8 := EI.mk' (z := .int .i64 0) Try.underlying29 (by kernel_rfl) rfl (by decide)
theorem xlen3 (x : Int) : (intCells x).length = 1 := rfl
theorem xone3 : ∀ (x : Int), ∀ u ∈ intCells x, u.oneCell' = true := all_one (fun _ => rfl)
theorem xei43 : EI Try.prog 22 43 9 72 := EI.mk' (z := .agg #[.int .i64 0, .int .i64 0, .int .i64 0, .int .i64 0, .int .i64 0, .int .i64 0, .int .i64 0, .int .i64 0, .int .i64 0]) Try.underlying22 (by kernel_rfl) rfl (by decide)
theorem xlen43 (x : Lot) : (Lot.cells x).length = 9 := rfl
theorem xone43 : ∀ (x : Lot), ∀ u ∈ Lot.cells x, u.oneCell' = true := all_one (fun _ => rfl)
def lints_S (F : Nat) (l : List Int) : Option ((List Int)) := bif lenOk (([] : List Int).length) l.length then (some (([] : List Int) ++ l)) else none
set_option maxRecDepth 100000 in
set_option maxHeartbeats 4000000 in
theorem lints_w (F : Nat) (l : List Int) (a1 : Option Addr) (c1 : Nat) (w : World) (hs1 : Sl 1 intCells w a1 c1 l) (v : (List Int)) (h : lints_S F l = some v) :
    Calls Try.prog 14 #[.slice a1 l.length c1] w (fun e w' => ∃ xa0 xc0, e = .returned (.slice xa0 v.length xc0) ∧ Rep [] w [owE intCells 0 xa0 xc0 3 1 v] w') := by
  rw [lints_S] at h
  refine At.enter Try.func14 rfl 6 [(0, .slice a1 l.length c1)] ([.sl a1 1 l.length (fun i_ => intCells (nth l 0 i_))]) [] (by kernel_rfl) ⟨rfl, trivial⟩ (Rep.sub (Rep.sl (Rep.start w) 0 hs1 (by simp [Ent.mut])) (by simp)) ?_
  refine At.seq ?_
  refine At.runR [] [0] [true] (.normal) ([(0, .slice a1 l.length c1)]) [] [] (fun _ => by as_aux_lemma => kernel_rfl) trivial ?_
  refine Ends.seq ?_
  refine At.seq ?_
  refine At.region ?_
  refine AtL.run 2 [] [3, 4] [true, true] (fun B7 => [(3, .slice (some ⟨B7, 0, none⟩) 0 0), (4, .slice a1 l.length c1)]) (fun B7 => [.sl a1 1 l.length (fun i_ => intCells (nth l 0 i_)), .blk B7 [] 3]) (fun B7 => []) (fun B7 => []) (fun B7 => by as_aux_lemma => kernel_rfl) (fun B7 => trivial) (fun B7 => ?_)
  refine AtL.addRow 1 B7 3 [] (by kernel_rfl) intCells 0 1 ([] : List Int) xlen3 (by kernel_rfl) (by decide) (by simp) ?_
  obtain ⟨g1, h⟩ := gd h
  refine AtL.append 0 xei3 xlen3 xone3 (by decide) (some 5) 1 (some ⟨B7, 0, none⟩) (([] : List Int).length) ([] : List Int) (by kernel_rfl) a1 l.length c1 l (by kernel_rfl) (by kernel_rfl) ((Adds.sl_ (i := 0) (d := 0) (by kernel_rfl) hs1.le hs1.big)) (lenOk_le g1) (fun a_ c_ K9 hK9 => ?_)
  obtain rfl := Option.some.inj hK9
  refine AtL.fit [4, 5] ([(4, .slice a1 l.length c1), (5, .slice a_ ((([] : List Int) ++ l).length) c_)]) ([.sl a1 1 l.length (fun i_ => intCells (nth l 0 i_)), owE intCells 0 a_ c_ 3 1 (([] : List Int) ++ l)]) (by kernel_rfl) (by kernel_rfl) ?_
  refine AtL.runR 1 [] [2] [true, true] ([(2, .slice a_ ((([] : List Int) ++ l).length) c_)]) [] [] (fun _ => by as_aux_lemma => kernel_rfl) trivial ?_
  refine AtL.nil (by kernel_rfl) ?_
  refine Ends.seq ?_
  refine At.runR [] [2] [true, true] (.ret) ([(2, .slice a_ ((([] : List Int) ++ l).length) c_)]) [] [] (fun _ => by as_aux_lemma => kernel_rfl) trivial ?_
  refine Ends.body [] (.slice a_ ((([] : List Int) ++ l).length) c_) [] (by kernel_rfl) (fun w9 hRep => ?_)
  obtain rfl := Option.some.inj h
  exact ⟨a_, c_, rfl, hRep.sel (r := [1]) (by kernel_rfl) (by kernel_rfl)⟩
def lown_S (F : Nat) (p : Recipe) : Option (Recipe) := bif lenOk (([] : List Lot).length) p.lots.length then (some (⟨(([] : List Lot) ++ p.lots), p.mass, p.target⟩ : Recipe)) else none
set_option maxRecDepth 100000 in
set_option maxHeartbeats 4000000 in
theorem lown_w (F : Nat) (p : Recipe) (a1 : Option Addr) (c1 : Nat) (w : World) (hs1 : Sl 9 Lot.cells w a1 c1 p.lots) (v : Recipe) (h : lown_S F p = some v) :
    Calls Try.prog 13 #[.agg #[.slice a1 p.lots.length c1, .int .i64 p.mass.lo, .int .i64 p.mass.hi, .int .i64 p.target.a.lo, .int .i64 p.target.a.hi, .int .i64 p.target.b.lo, .int .i64 p.target.b.hi, .int .i64 p.target.c.lo, .int .i64 p.target.c.hi]] w (fun e w' => ∃ xa0 xc0, e = .returned (.agg #[.slice xa0 v.lots.length xc0, .int .i64 v.mass.lo, .int .i64 v.mass.hi, .int .i64 v.target.a.lo, .int .i64 v.target.a.hi, .int .i64 v.target.b.lo, .int .i64 v.target.b.hi, .int .i64 v.target.c.lo, .int .i64 v.target.c.hi]) ∧ Rep [] w [owE Lot.cells Lot.zero xa0 xc0 43 9 v.lots] w') := by
  rw [lown_S] at h
  refine At.enter Try.func13 rfl 9 [(0, .agg #[.slice a1 p.lots.length c1, .int .i64 p.mass.lo, .int .i64 p.mass.hi, .int .i64 p.target.a.lo, .int .i64 p.target.a.hi, .int .i64 p.target.b.lo, .int .i64 p.target.b.hi, .int .i64 p.target.c.lo, .int .i64 p.target.c.hi])] ([.sl a1 9 p.lots.length (fun i_ => Lot.cells (nth p.lots Lot.zero i_))]) [] (by kernel_rfl) ⟨rfl, trivial⟩ (Rep.sub (Rep.sl (Rep.start w) Lot.zero hs1 (by simp [Ent.mut])) (by simp)) ?_
  refine At.seq ?_
  refine At.run [] [1, 2] [true, true, true] (.normal) (fun B3 => [(1, .pointer (some ⟨B3, 0, none⟩)), (2, .pointer (some ⟨(B3 + 1), 0, none⟩))]) (fun B3 => [.sl a1 9 p.lots.length (fun i_ => Lot.cells (nth p.lots Lot.zero i_)), .blk B3 [.slice a1 p.lots.length c1, .int .i64 p.mass.lo, .int .i64 p.mass.hi, .int .i64 p.target.a.lo, .int .i64 p.target.a.hi, .int .i64 p.target.b.lo, .int .i64 p.target.b.hi, .int .i64 p.target.c.lo, .int .i64 p.target.c.hi] 28, .blk (B3 + 1) [.slice none 0 0, .int .i64 0, .int .i64 0, .int .i64 0, .int .i64 0, .int .i64 0, .int .i64 0, .int .i64 0, .int .i64 0] 28]) (fun B3 => []) (fun B3 => []) (fun B3 => by as_aux_lemma => kernel_rfl) (fun B3 => trivial) (fun B3 => ?_)
  refine Ends.seq ?_
  refine At.seq ?_
  refine At.region ?_
  refine AtL.run 3 [(1, 0, 0)] [1, 2, 3, 5] [true, true, true, true] (fun B7 => [(1, .pointer (some ⟨B3, 0, none⟩)), (2, .pointer (some ⟨(B3 + 1), 0, none⟩)), (3, .slice (some ⟨B7, 0, none⟩) 0 0), (5, .slice a1 p.lots.length c1)]) (fun B7 => [.sl a1 9 p.lots.length (fun i_ => Lot.cells (nth p.lots Lot.zero i_)), .blk B3 [.slice a1 p.lots.length c1, .int .i64 p.mass.lo, .int .i64 p.mass.hi, .int .i64 p.target.a.lo, .int .i64 p.target.a.hi, .int .i64 p.target.b.lo, .int .i64 p.target.b.hi, .int .i64 p.target.c.lo, .int .i64 p.target.c.hi] 28, .blk (B3 + 1) [.slice none 0 0, .int .i64 0, .int .i64 0, .int .i64 0, .int .i64 0, .int .i64 0, .int .i64 0, .int .i64 0, .int .i64 0] 28, .blk B7 [] 43]) (fun B7 => [B3, 0]) (fun B7 => []) (fun B7 => by as_aux_lemma => kernel_rfl) (fun B7 => trivial) (fun B7 => ?_)
  refine AtL.addRow 3 B7 43 [] (by kernel_rfl) Lot.cells Lot.zero 9 ([] : List Lot) xlen43 (by kernel_rfl) (by decide) (by simp) ?_
  obtain ⟨g1, h⟩ := gd h
  refine AtL.append Lot.zero xei43 xlen43 xone43 (by decide) (some 6) 3 (some ⟨B7, 0, none⟩) (([] : List Lot).length) ([] : List Lot) (by kernel_rfl) a1 p.lots.length c1 p.lots (by kernel_rfl) (by kernel_rfl) ((Adds.sl_ (i := 0) (d := Lot.zero) (by kernel_rfl) hs1.le hs1.big)) (lenOk_le g1) (fun a_ c_ K9 hK9 => ?_)
  obtain rfl := Option.some.inj hK9
  refine AtL.fit [1, 2, 5, 6] ([(1, .pointer (some ⟨B3, 0, none⟩)), (2, .pointer (some ⟨(B3 + 1), 0, none⟩)), (5, .slice a1 p.lots.length c1), (6, .slice a_ ((([] : List Lot) ++ p.lots).length) c_)]) ([.sl a1 9 p.lots.length (fun i_ => Lot.cells (nth p.lots Lot.zero i_)), .blk B3 [.slice a1 p.lots.length c1, .int .i64 p.mass.lo, .int .i64 p.mass.hi, .int .i64 p.target.a.lo, .int .i64 p.target.a.hi, .int .i64 p.target.b.lo, .int .i64 p.target.b.hi, .int .i64 p.target.c.lo, .int .i64 p.target.c.hi] 28, .blk (B3 + 1) [.slice none 0 0, .int .i64 0, .int .i64 0, .int .i64 0, .int .i64 0, .int .i64 0, .int .i64 0, .int .i64 0, .int .i64 0] 28, owE Lot.cells Lot.zero a_ c_ 43 9 (([] : List Lot) ++ p.lots)]) (by kernel_rfl) (by kernel_rfl) ?_
  refine AtL.run 2 [(1, 0, 0)] [1, 2] [false, true, true, true] (fun B8 => [(1, .pointer (some ⟨B3, 0, none⟩)), (2, .pointer (some ⟨(B3 + 1), 0, none⟩))]) (fun B8 => [.blk B3 [.slice a_ ((([] : List Lot) ++ p.lots).length) c_, .int .i64 p.mass.lo, .int .i64 p.mass.hi, .int .i64 p.target.a.lo, .int .i64 p.target.a.hi, .int .i64 p.target.b.lo, .int .i64 p.target.b.hi, .int .i64 p.target.c.lo, .int .i64 p.target.c.hi] 28, .blk (B3 + 1) [.slice none 0 0, .int .i64 0, .int .i64 0, .int .i64 0, .int .i64 0, .int .i64 0, .int .i64 0, .int .i64 0, .int .i64 0] 28, owE Lot.cells Lot.zero a_ c_ 43 9 (([] : List Lot) ++ p.lots)]) (fun B8 => [B3, 0]) (fun B8 => []) (fun B8 => by as_aux_lemma => kernel_rfl) (fun B8 => trivial) (fun B8 => ?_)
  refine AtL.nil (by kernel_rfl) ?_
  refine Ends.seq ?_
  refine At.run [(0, 0, 0), (0, 1, 0), (0, 2, 0), (0, 3, 0), (0, 4, 0), (0, 5, 0), (0, 6, 0), (0, 7, 0), (0, 8, 0), (1, 0, 0), (1, 1, 0), (1, 2, 0), (1, 3, 0), (1, 4, 0), (1, 5, 0), (1, 6, 0), (1, 7, 0), (1, 8, 0)] [2] [false, true, true] (.ret) (fun B9 => [(2, .pointer (some ⟨(B3 + 1), 0, none⟩))]) (fun B9 => [.blk (B3 + 1) [.slice a_ ((([] : List Lot) ++ p.lots).length) c_, .int .i64 p.mass.lo, .int .i64 p.mass.hi, .int .i64 p.target.a.lo, .int .i64 p.target.a.hi, .int .i64 p.target.b.lo, .int .i64 p.target.b.hi, .int .i64 p.target.c.lo, .int .i64 p.target.c.hi] 28, owE Lot.cells Lot.zero a_ c_ 43 9 (([] : List Lot) ++ p.lots)]) (fun B9 => [B3, 0, B3, 1, B3, 2, B3, 3, B3, 4, B3, 5, B3, 6, B3, 7, B3, 8, (B3 + 1), 0, (B3 + 1), 1, (B3 + 1), 2, (B3 + 1), 3, (B3 + 1), 4, (B3 + 1), 5, (B3 + 1), 6, (B3 + 1), 7, (B3 + 1), 8]) (fun B9 => []) (fun B9 => by as_aux_lemma => kernel_rfl) (fun B9 => trivial) (fun B9 => ?_)
  refine Ends.body [(0, 0, 0), (0, 1, 0), (0, 2, 0), (0, 3, 0), (0, 4, 0), (0, 5, 0), (0, 6, 0), (0, 7, 0), (0, 8, 0)] (.agg #[.slice a_ ((([] : List Lot) ++ p.lots).length) c_, .int .i64 p.mass.lo, .int .i64 p.mass.hi, .int .i64 p.target.a.lo, .int .i64 p.target.a.hi, .int .i64 p.target.b.lo, .int .i64 p.target.b.hi, .int .i64 p.target.c.lo, .int .i64 p.target.c.hi]) [(B3 + 1), 0, (B3 + 1), 1, (B3 + 1), 2, (B3 + 1), 3, (B3 + 1), 4, (B3 + 1), 5, (B3 + 1), 6, (B3 + 1), 7, (B3 + 1), 8] (by kernel_rfl) (fun w9 hRep => ?_)
  obtain rfl := Option.some.inj h
  exact ⟨a_, c_, rfl, hRep.sel (r := [1]) (by kernel_rfl) (by kernel_rfl)⟩
theorem own_S {F : Nat} {p : Recipe} (h : p.lots.length ≤ 1000000) : lown_S F p = some p := by
  simp [lown_S, lenOk, h]
theorem ints_S {F : Nat} {l : List Int} (h : l.length ≤ 1000000) : lints_S F l = some l := by
  simp [lints_S, lenOk, h]
theorem weighE_zero {p : Recipe} {c : List Int} (h : weighE p c = 0) : checkE p = 0 ∧ isChargeB p.lots c = true := by
  by_cases h1 : checkE p = 0
  · cases h2 : isChargeB p.lots c with
    | true => exact ⟨h1, rfl⟩
    | false => simp [weighE, h1, h2] at h
  · rw [show weighE p c = checkE p from by unfold weighE; rw [if_pos (by simpa using h1)]] at h
    exact absurd h h1
theorem weighE_ok {p : Recipe} {c : List Int} (h : checkE p = 0) (hc : isChargeB p.lots c = true) : weighE p c = 0 := by
  simp [weighE, h, hc]
theorem bestE_zero {p : Recipe} (h : bestE p = 0) : checkE p = 0 ∧ ∃ s, bestM p = some s ∧ bestOf p.lots (allCharges p) = some s := by
  unfold bestE at h
  split at h
  · rename_i h1
    split at h
    · cases h
    · rename_i h2
      split at h
      · rename_i h3
        obtain ⟨s, hs⟩ := Option.isSome_iff_exists.1 h3
        exact ⟨h1, s, by simp [bestM, h1, h2, hs], hs⟩
      · cases h
  · rename_i h1; exact absurd h h1
theorem bestM_none {p : Recipe} (h : bestE p ≠ 0) : bestM p = none := by
  unfold bestE at h
  unfold bestM
  split
  · rename_i h1
    rw [if_pos h1] at h
    split
    · rfl
    · rename_i h2
      rw [if_neg h2] at h
      split at h
      · exact absurd rfl h
      · rename_i h3; simpa using h3
  · rfl
end Go.Proofs.Ytojnpaenpaobcaa
