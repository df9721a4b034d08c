/- What the functions of ChargeBest mean, and that they compute it. No condition. -/
import Derived.Test.YtojnpaenpaobcaaV
import Derived.Test.YtojnpaenpaobcaaProg
import Derived.Test.YtojnpaenpaobcaaK4
import Derived.Test.YtojnpaenpaobcaaS1
import Derived.Test.YtojnpaenpaobcaaD3
import Derived.Test.YtojnpaenpaobcaaD4
namespace Go.Proofs.Ytojnpaenpaobcaa
open Go.RowKit
theorem xei3 : EI Try.prog 29 3 1 8 := EI.mk' (z := .int .i64 0) Try.underlying29 (by kernel_rfl) rfl (by decide)
theorem xlen3 (x : Int) : (intCells x).length = 1 := rfl
theorem xone3 : ∀ (x : Int), ∀ u ∈ intCells x, u.oneCell' = true := all_one (fun _ => rfl)
theorem xei29 : EI Try.prog 95 29 1 24 := EI.mk' (z := .slice none 0 0) Try.underlying95 (by kernel_rfl) rfl (by decide)
theorem xei43 : EI Try.prog 22 43 9 72 := EI.mk' (z := .agg #[.int .i64 0, .int .i64 0, .int .i64 0, .int .i64 0, .int .i64 0, .int .i64 0, .int .i64 0, .int .i64 0, .int .i64 0]) Try.underlying22 (by kernel_rfl) rfl (by decide)
theorem xlen43 (x : Lot) : (Lot.cells x).length = 9 := rfl
theorem xone43 : ∀ (x : Lot), ∀ u ∈ Lot.cells x, u.oneCell' = true := all_one (fun _ => rfl)
def rMany_l3 (F : Nat) (p : Recipe) : Nat → Int → Int → Option (Int)
  | 0, _, _ => none
  | fuel3 + 1, n_2, i => bif decide (i < (p.lots.length : Int)) then (bif inB i p.lots.length then (rMany_l3 F p fuel3 (mn (IntKind.i64.wrap (n_2 * (IntKind.i64.wrap (((nth p.lots Lot.zero i.toNat).count) + (1 : Int))))) (20001 : Int)) (IntKind.i64.wrap (i + (1 : Int)))) else none) else (some n_2)
def rMany_S (F : Nat) (p : Recipe) : Option (Int) := ((rMany_l3 F p F (1 : Int) (0 : Int))).bind (fun z1 => some z1)
set_option maxRecDepth 100000 in
set_option maxHeartbeats 4000000 in
theorem rMany_w (F : Nat) (p : Recipe) (a1 : Option Addr) (c1 : Nat) (w : World) (hs1 : Sl 9 Lot.cells w a1 c1 p.lots) (v : Int) (h : rMany_S F p = some v) :
    Calls Try.prog 25 #[.agg #[.slice a1 p.lots.length c1, .int .i64 p.mass.lo, .int .i64 p.mass.hi, .int .i64 p.target.a.lo, .int .i64 p.target.a.hi, .int .i64 p.target.b.lo, .int .i64 p.target.b.hi, .int .i64 p.target.c.lo, .int .i64 p.target.c.hi]] w (Ret (.int .i64 v) w) := by
  rw [rMany_S] at h
  refine At.enter Try.func25 rfl 23 [(0, .agg #[.slice a1 p.lots.length c1, .int .i64 p.mass.lo, .int .i64 p.mass.hi, .int .i64 p.target.a.lo, .int .i64 p.target.a.hi, .int .i64 p.target.b.lo, .int .i64 p.target.b.hi, .int .i64 p.target.c.lo, .int .i64 p.target.c.hi])] ([.sl a1 9 p.lots.length (fun i_ => Lot.cells (nth p.lots Lot.zero i_))]) [] (by kernel_rfl) ⟨rfl, trivial⟩ (Rep.sub (Rep.sl (Rep.start w) Lot.zero hs1 (by simp [Ent.mut])) (by simp)) ?_
  refine At.seq ?_
  refine At.run [] [1] [true, true] (.normal) (fun B3 => [(1, .pointer (some ⟨B3, 0, none⟩))]) (fun B3 => [.sl a1 9 p.lots.length (fun i_ => Lot.cells (nth p.lots Lot.zero i_)), .blk B3 [.slice a1 p.lots.length c1, .int .i64 p.mass.lo, .int .i64 p.mass.hi, .int .i64 p.target.a.lo, .int .i64 p.target.a.hi, .int .i64 p.target.b.lo, .int .i64 p.target.b.hi, .int .i64 p.target.c.lo, .int .i64 p.target.c.hi] 28]) (fun B3 => []) (fun B3 => []) (fun B3 => by as_aux_lemma => kernel_rfl) (fun B3 => trivial) (fun B3 => ?_)
  refine Ends.seq ?_
  refine At.seq ?_
  refine At.runR [] [1, 3] [true, true] (.normal) ([(1, .pointer (some ⟨B3, 0, none⟩)), (3, .int .i64 1)]) [] [] (fun _ => by as_aux_lemma => kernel_rfl) trivial ?_
  refine Ends.seq ?_
  obtain ⟨o1, h, hr1⟩ := bd h
  refine At.seq_mid (σ := Int) (fun s => o1 = s) (fun s => [(3, .int .i64 s)]) (fun s => []) ?_ (fun s hI => ?_)
  · refine At.seq ?_
    refine At.runR [] [1, 3, 4] [true, true] (.normal) ([(1, .pointer (some ⟨B3, 0, none⟩)), (3, .int .i64 1), (4, .int .i64 0)]) [] [] (fun _ => by as_aux_lemma => kernel_rfl) trivial ?_
    refine Ends.seq ?_
    refine At.block ?_
    refine At.loop (σ := Int × Int) (fun n s => rMany_l3 F p n s.1 s.2 = some o1) (fun s => [(1, .pointer (some ⟨B3, 0, none⟩)), (3, .int .i64 s.1), (4, .int .i64 s.2)]) (fun s => [.sl a1 9 p.lots.length (fun i_ => Lot.cells (nth p.lots Lot.zero i_)), .blk B3 [.slice a1 p.lots.length c1, .int .i64 p.mass.lo, .int .i64 p.mass.hi, .int .i64 p.target.a.lo, .int .i64 p.target.a.hi, .int .i64 p.target.b.lo, .int .i64 p.target.b.hi, .int .i64 p.target.c.lo, .int .i64 p.target.c.hi] 28]) F ((1 : Int), (0 : Int)) h (by kernel_rfl) (by kernel_rfl) (fun n s hI => ?_)
    obtain ⟨n_2, i⟩ := s
    replace hI : rMany_l3 F p n n_2 i = some o1 := hI
    rcases n with _ | fuel3
    · cases hI
    · rw [rMany_l3] at hI
      have h := hI
      clear hI
      refine At.seq ?_
      refine At.seq ?_
      refine At.runR [(1, 0, 0)] [1, 3, 4, 9] [true, true] (.normal) ([(1, .pointer (some ⟨B3, 0, none⟩)), (3, .int .i64 n_2), (4, .int .i64 i), (9, .bool (decide (i < (p.lots.length : Int))))]) [B3, 0] [] (fun _ => by as_aux_lemma => kernel_rfl) trivial ?_
      refine Ends.seq ?_
      refine At.cond (decide (i < (p.lots.length : Int))) (by kernel_rfl) (fun hc4 => ?_) (fun hc4 => ?_)
      · have h := br_t h hc4
        refine At.runR [] [1, 3, 4] [true, true] (.normal) ([(1, .pointer (some ⟨B3, 0, none⟩)), (3, .int .i64 n_2), (4, .int .i64 i)]) [] [] (fun _ => by as_aux_lemma => kernel_rfl) trivial ?_
        refine Ends.seq ?_
        obtain ⟨g5, h⟩ := gd h
        refine At.runR [(1, 0, 0), (0, 0, 0), (0, 0, i.toNat)] [1, 3, 4] [true, true] (.normal) ([(1, .pointer (some ⟨B3, 0, none⟩)), (3, .int .i64 (mn (IntKind.i64.wrap (n_2 * (IntKind.i64.wrap (((nth p.lots Lot.zero i.toNat).count) + (1 : Int))))) (20001 : Int))), (4, .int .i64 (IntKind.i64.wrap (i + (1 : Int))))]) [B3, 0, slB a1, slO a1 + i.toNat * 9 + 0] [IdxOk a1 a1 p.lots.length p.lots.length i, i.toNat < p.lots.length] (fun _ => by as_aux_lemma => kernel_rfl) ⟨inB_idx g5, inB_lt g5, trivial⟩ ?_
        exact Ends.round fuel3 ((mn (IntKind.i64.wrap (n_2 * (IntKind.i64.wrap (((nth p.lots Lot.zero i.toNat).count) + (1 : Int))))) (20001 : Int)), (IntKind.i64.wrap (i + (1 : Int)))) (Nat.lt_succ_self _) h (by kernel_rfl) (by kernel_rfl)
      · have h := br_f h hc4
        refine At.runR [] [3] [true, true] (.exit 0) ([(3, .int .i64 n_2)]) [] [] (fun _ => by as_aux_lemma => kernel_rfl) trivial ?_
        refine Ends.then_exit ?_
        refine Ends.then_exit ?_
        refine Ends.block_hit ?_
        refine Ends.sel [3] [] ([(3, .int .i64 n_2)]) ([]) (by kernel_rfl) (by kernel_rfl) (by kernel_rfl) ?_
        exact Ends.mid n_2 (Option.some.inj h).symm (by kernel_rfl) (by kernel_rfl)
  · revert hI; revert s; intro n_ hI
    replace hI : o1 = n_ := hI
    have h := hr1
    try rw [hI] at h
    refine At.runR [] [2] [] (.ret) ([(2, .int .i64 n_)]) [] [] (fun _ => by as_aux_lemma => kernel_rfl) trivial ?_
    refine Ends.body [] (.int .i64 n_) [] (by kernel_rfl) (fun w9 hRep => ?_)
    obtain rfl := Option.some.inj h
    exact ⟨rfl, hRep.ext⟩
def rWhole_l8 (F : Nat) (p : Recipe) : Nat → (List Int) → (List Int) → Int → Option ((List Int) × (List Int))
  | 0, _, _, _ => none
  | fuel8 + 1, low2, high5, i => bif decide (i < (p.lots.length : Int)) then (bif inB i p.lots.length then (bif lenOk low2.length ([0]).length then (bif lenOk high5.length ([(nth p.lots Lot.zero i.toNat).count]).length then (rWhole_l8 F p fuel8 (low2 ++ [0]) (high5 ++ [(nth p.lots Lot.zero i.toNat).count]) (IntKind.i64.wrap (i + (1 : Int)))) else none) else none) else none) else (some (low2, high5))
def rWhole_S (F : Nat) (p : Recipe) : Option ((List Int) × (List Int)) := ((rWhole_l8 F p F ([] : List Int) ([] : List Int) (0 : Int))).bind (fun z1 => some (z1.1, z1.2))
set_option maxRecDepth 100000 in
set_option maxHeartbeats 4000000 in
theorem rWhole_w (F : Nat) (p : Recipe) (a1 : Option Addr) (c1 : Nat) (w : World) (hs1 : Sl 9 Lot.cells w a1 c1 p.lots) (v : (List Int) × (List Int)) (h : rWhole_S F p = some v) :
    Calls Try.prog 71 #[.agg #[.slice a1 p.lots.length c1, .int .i64 p.mass.lo, .int .i64 p.mass.hi, .int .i64 p.target.a.lo, .int .i64 p.target.a.hi, .int .i64 p.target.b.lo, .int .i64 p.target.b.hi, .int .i64 p.target.c.lo, .int .i64 p.target.c.hi]] w (fun e w' => ∃ xa0 xc0 xa1 xc1, e = .returned (.tuple #[.slice xa0 v.1.length xc0, .slice xa1 v.2.length xc1]) ∧ Rep [] w [owE intCells 0 xa0 xc0 3 1 v.1, owE intCells 0 xa1 xc1 3 1 v.2] w') := by
  rw [rWhole_S] at h
  refine At.enter Try.func71 rfl 30 [(0, .agg #[.slice a1 p.lots.length c1, .int .i64 p.mass.lo, .int .i64 p.mass.hi, .int .i64 p.target.a.lo, .int .i64 p.target.a.hi, .int .i64 p.target.b.lo, .int .i64 p.target.b.hi, .int .i64 p.target.c.lo, .int .i64 p.target.c.hi])] ([.sl a1 9 p.lots.length (fun i_ => Lot.cells (nth p.lots Lot.zero i_))]) [] (by kernel_rfl) ⟨rfl, trivial⟩ (Rep.sub (Rep.sl (Rep.start w) Lot.zero hs1 (by simp [Ent.mut])) (by simp)) ?_
  refine At.seq ?_
  refine At.run [] [1] [true, true] (.normal) (fun B3 => [(1, .pointer (some ⟨B3, 0, none⟩))]) (fun B3 => [.sl a1 9 p.lots.length (fun i_ => Lot.cells (nth p.lots Lot.zero i_)), .blk B3 [.slice a1 p.lots.length c1, .int .i64 p.mass.lo, .int .i64 p.mass.hi, .int .i64 p.target.a.lo, .int .i64 p.target.a.hi, .int .i64 p.target.b.lo, .int .i64 p.target.b.hi, .int .i64 p.target.c.lo, .int .i64 p.target.c.hi] 28]) (fun B3 => []) (fun B3 => []) (fun B3 => by as_aux_lemma => kernel_rfl) (fun B3 => trivial) (fun B3 => ?_)
  refine Ends.seq ?_
  refine At.seq ?_
  refine At.run [] [1, 4, 5] [true, true, true, true] (.normal) (fun B6 => [(1, .pointer (some ⟨B3, 0, none⟩)), (4, .slice (some ⟨B6, 0, none⟩) 0 0), (5, .slice (some ⟨(B6 + 1), 0, none⟩) 0 0)]) (fun B6 => [.sl a1 9 p.lots.length (fun i_ => Lot.cells (nth p.lots Lot.zero i_)), .blk B3 [.slice a1 p.lots.length c1, .int .i64 p.mass.lo, .int .i64 p.mass.hi, .int .i64 p.target.a.lo, .int .i64 p.target.a.hi, .int .i64 p.target.b.lo, .int .i64 p.target.b.hi, .int .i64 p.target.c.lo, .int .i64 p.target.c.hi] 28, .blk B6 [] 3, .blk (B6 + 1) [] 3]) (fun B6 => []) (fun B6 => []) (fun B6 => by as_aux_lemma => kernel_rfl) (fun B6 => trivial) (fun B6 => ?_)
  refine Ends.seq ?_
  obtain ⟨o1, h, hr1⟩ := bd h
  refine At.seq_mid (σ := (List Int) × (Option Addr) × Nat × (List Int) × (Option Addr) × Nat) (fun s => o1 = (s.1, s.2.2.2.1)) (fun s => [(4, .slice s.2.1 s.1.length s.2.2.1), (5, .slice s.2.2.2.2.1 s.2.2.2.1.length s.2.2.2.2.2)]) (fun s => [owE intCells 0 s.2.1 s.2.2.1 3 1 s.1, owE intCells 0 s.2.2.2.2.1 s.2.2.2.2.2 3 1 s.2.2.2.1]) ?_ (fun s hI => ?_)
  · refine At.seq ?_
    refine At.runR [] [1, 4, 5, 6] [true, true, true, true] (.normal) ([(1, .pointer (some ⟨B3, 0, none⟩)), (4, .slice (some ⟨B6, 0, none⟩) 0 0), (5, .slice (some ⟨(B6 + 1), 0, none⟩) 0 0), (6, .int .i64 0)]) [] [] (fun _ => by as_aux_lemma => kernel_rfl) trivial ?_
    refine Ends.seq ?_
    refine At.block ?_
    refine At.addRow 2 B6 3 [] (by kernel_rfl) intCells 0 1 ([] : List Int) xlen3 (by kernel_rfl) (by decide) (by simp) ?_
    refine At.addRow 2 (B6 + 1) 3 [] (by kernel_rfl) intCells 0 1 ([] : List Int) xlen3 (by kernel_rfl) (by decide) (by simp) ?_
    refine At.loop (σ := (List Int) × (Option Addr) × Nat × (List Int) × (Option Addr) × Nat × Int) (fun n s => rWhole_l8 F p n s.1 s.2.2.2.1 s.2.2.2.2.2.2 = some o1) (fun s => [(1, .pointer (some ⟨B3, 0, none⟩)), (4, .slice s.2.1 s.1.length s.2.2.1), (5, .slice s.2.2.2.2.1 s.2.2.2.1.length s.2.2.2.2.2.1), (6, .int .i64 s.2.2.2.2.2.2)]) (fun s => [.sl a1 9 p.lots.length (fun i_ => Lot.cells (nth p.lots Lot.zero i_)), .blk B3 [.slice a1 p.lots.length c1, .int .i64 p.mass.lo, .int .i64 p.mass.hi, .int .i64 p.target.a.lo, .int .i64 p.target.a.hi, .int .i64 p.target.b.lo, .int .i64 p.target.b.hi, .int .i64 p.target.c.lo, .int .i64 p.target.c.hi] 28, owE intCells 0 s.2.1 s.2.2.1 3 1 s.1, owE intCells 0 s.2.2.2.2.1 s.2.2.2.2.2.1 3 1 s.2.2.2.1]) F (([] : List Int), (some ⟨B6, 0, none⟩), ([] : List Int).length, ([] : List Int), (some ⟨(B6 + 1), 0, none⟩), ([] : List Int).length, (0 : Int)) h (by kernel_rfl) (by kernel_rfl) (fun n s hI => ?_)
    obtain ⟨low2, a_low3, c_low4, high5, a_high6, c_high7, i⟩ := s
    replace hI : rWhole_l8 F p n low2 high5 i = some o1 := hI
    rcases n with _ | fuel8
    · cases hI
    · rw [rWhole_l8] at hI
      have h := hI
      clear hI
      refine At.seq ?_
      refine At.seq ?_
      refine At.runR [(1, 0, 0)] [1, 4, 5, 6, 13] [true, true, true, true] (.normal) ([(1, .pointer (some ⟨B3, 0, none⟩)), (4, .slice a_low3 low2.length c_low4), (5, .slice a_high6 high5.length c_high7), (6, .int .i64 i), (13, .bool (decide (i < (p.lots.length : Int))))]) [B3, 0] [] (fun _ => by as_aux_lemma => kernel_rfl) trivial ?_
      refine Ends.seq ?_
      refine At.cond (decide (i < (p.lots.length : Int))) (by kernel_rfl) (fun hc9 => ?_) (fun hc9 => ?_)
      · have h := br_t h hc9
        refine At.runR [] [1, 4, 5, 6] [true, true, true, true] (.normal) ([(1, .pointer (some ⟨B3, 0, none⟩)), (4, .slice a_low3 low2.length c_low4), (5, .slice a_high6 high5.length c_high7), (6, .int .i64 i)]) [] [] (fun _ => by as_aux_lemma => kernel_rfl) trivial ?_
        refine Ends.seq ?_
        refine At.seq ?_
        refine At.block ?_
        refine At.tree ([.sl a1 9 p.lots.length (fun i_ => Lot.cells (nth p.lots Lot.zero i_)), .blk B3 [.slice a1 p.lots.length c1, .int .i64 p.mass.lo, .int .i64 p.mass.hi, .int .i64 p.target.a.lo, .int .i64 p.target.a.hi, .int .i64 p.target.b.lo, .int .i64 p.target.b.hi, .int .i64 p.target.c.lo, .int .i64 p.target.c.hi] 28]) [0, 1] (by kernel_rfl) (by kernel_rfl) (.pu [0, 3, 4, 6] (.st [5] (.st [7, 8] (.st [9] (.fork 1 (.fork 2 (.mv 10 (.mv 11 (.pu [12, 13] .done))) 10 (.mv 2 (.mv 11 (.pu [12, 13] .done)))) 10 (.mv 1 (.mv 2 (.mv 11 (.pu [12, 13] .done))))))))) (by kernel_rfl) (by kernel_rfl) ?_
        refine AtT.pu ?_
        refine AtY.runp 4 [1, 4, 5, 6, 16, 19, 20, 22] ([(1, .pointer (some ⟨B3, 0, none⟩)), (4, .slice a_low3 low2.length c_low4), (5, .slice a_high6 high5.length c_high7), (6, .int .i64 i), (16, .slice a_low3 low2.length c_low4), (19, .slice a_high6 high5.length c_high7), (20, .pointer (some ⟨B3, 0, none⟩)), (22, .int .i64 i)]) [] (by as_aux_lemma => kernel_rfl) trivial ?_
        refine AtY.nilt (by kernel_rfl) ?_
        refine AtT.st ?_
        refine AtY.run 1 [(1, 0, 0)] [1, 4, 5, 6, 16, 19, 21, 22] ([(1, .pointer (some ⟨B3, 0, none⟩)), (4, .slice a_low3 low2.length c_low4), (5, .slice a_high6 high5.length c_high7), (6, .int .i64 i), (16, .slice a_low3 low2.length c_low4), (19, .slice a_high6 high5.length c_high7), (21, .slice a1 p.lots.length c1), (22, .int .i64 i)]) [B3, 0] [] (by as_aux_lemma => kernel_rfl) trivial ?_
        refine AtY.nilt (by kernel_rfl) ?_
        refine AtT.st ?_
        obtain ⟨g10, h⟩ := gd h
        refine AtY.run 2 [(0, 0, 0)] [1, 4, 5, 6, 16, 19, 24] ([(1, .pointer (some ⟨B3, 0, none⟩)), (4, .slice a_low3 low2.length c_low4), (5, .slice a_high6 high5.length c_high7), (6, .int .i64 i), (16, .slice a_low3 low2.length c_low4), (19, .slice a_high6 high5.length c_high7), (24, .pointer (some ⟨slB a1, slO a1 + i.toNat * 9, none⟩))]) [] [IdxOk a1 a1 p.lots.length p.lots.length i] (by as_aux_lemma => kernel_rfl) ⟨inB_idx g10, trivial⟩ ?_
        refine AtY.nilt (by kernel_rfl) ?_
        refine AtT.st ?_
        refine AtY.run 1 [(0, 0, i.toNat)] [1, 4, 5, 6, 16, 19, 25] ([(1, .pointer (some ⟨B3, 0, none⟩)), (4, .slice a_low3 low2.length c_low4), (5, .slice a_high6 high5.length c_high7), (6, .int .i64 i), (16, .slice a_low3 low2.length c_low4), (19, .slice a_high6 high5.length c_high7), (25, .int .i64 ((nth p.lots Lot.zero i.toNat).count))]) [slB a1, slO a1 + i.toNat * 9 + 0] [i.toNat < p.lots.length] (by as_aux_lemma => kernel_rfl) ⟨inB_lt g10, trivial⟩ ?_
        refine AtY.nilt (by kernel_rfl) ?_
        refine AtT.fork ?_ ?_
        · refine AtT.mv ?_
          refine AtL.run 1 [] [1, 4, 5, 6, 16, 17, 19, 25] [true, true, true, true, true] (fun B32 => [(1, .pointer (some ⟨B3, 0, none⟩)), (4, .slice a_low3 low2.length c_low4), (5, .slice a_high6 high5.length c_high7), (6, .int .i64 i), (16, .slice a_low3 low2.length c_low4), (17, .slice (some ⟨B32, 0, none⟩) 1 1), (19, .slice a_high6 high5.length c_high7), (25, .int .i64 ((nth p.lots Lot.zero i.toNat).count))]) (fun B32 => [.sl a1 9 p.lots.length (fun i_ => Lot.cells (nth p.lots Lot.zero i_)), .blk B3 [.slice a1 p.lots.length c1, .int .i64 p.mass.lo, .int .i64 p.mass.hi, .int .i64 p.target.a.lo, .int .i64 p.target.a.hi, .int .i64 p.target.b.lo, .int .i64 p.target.b.hi, .int .i64 p.target.c.lo, .int .i64 p.target.c.hi] 28, owE intCells 0 a_low3 c_low4 3 1 low2, owE intCells 0 a_high6 c_high7 3 1 high5, .blk B32 [.int .i64 0] 3]) (fun B32 => []) (fun B32 => []) (fun B32 => by as_aux_lemma => kernel_rfl) (fun B32 => trivial) (fun B32 => ?_)
          refine AtL.nil (by kernel_rfl) ?_
          refine Ends.mvt [0, 1] (by kernel_rfl) (by kernel_rfl) ?_
          refine AtT.fork ?_ ?_
          · refine AtT.mv ?_
            obtain ⟨g11, h⟩ := gd h
            refine AtL.append 0 xei3 xlen3 xone3 (by decide) (some 18) 2 a_low3 c_low4 low2 (by kernel_rfl) (some ⟨B32, 0, none⟩) 1 1 ([0]) (by kernel_rfl) (by kernel_rfl) (Adds.row (i := 4) (b := B32) (T := 3) (cs := [.int .i64 0]) 0 (by kernel_rfl) (by kernel_rfl)) (lenOk_le g11) (fun a_ c_ K9 hK9 => ?_)
            obtain rfl := Option.some.inj hK9
            refine AtL.fit [1, 5, 6, 17, 18, 19, 25] ([(1, .pointer (some ⟨B3, 0, none⟩)), (5, .slice a_high6 high5.length c_high7), (6, .int .i64 i), (17, .slice (some ⟨B32, 0, none⟩) 1 1), (18, .slice a_ ((low2 ++ [0]).length) c_), (19, .slice a_high6 high5.length c_high7), (25, .int .i64 ((nth p.lots Lot.zero i.toNat).count))]) ([.sl a1 9 p.lots.length (fun i_ => Lot.cells (nth p.lots Lot.zero i_)), .blk B3 [.slice a1 p.lots.length c1, .int .i64 p.mass.lo, .int .i64 p.mass.hi, .int .i64 p.target.a.lo, .int .i64 p.target.a.hi, .int .i64 p.target.b.lo, .int .i64 p.target.b.hi, .int .i64 p.target.c.lo, .int .i64 p.target.c.hi] 28, owE intCells 0 a_high6 c_high7 3 1 high5, .blk B32 [.int .i64 0] 3, owE intCells 0 a_ c_ 3 1 (low2 ++ [0])]) (by kernel_rfl) (by kernel_rfl) ?_
            refine AtL.nil (by kernel_rfl) ?_
            refine Ends.mvt [0, 1] (by kernel_rfl) (by kernel_rfl) ?_
            refine AtT.mv ?_
            refine AtL.run 1 [] [1, 5, 6, 18, 19, 26] [true, true, true, false, true, true] (fun B35 => [(1, .pointer (some ⟨B3, 0, none⟩)), (5, .slice a_high6 high5.length c_high7), (6, .int .i64 i), (18, .slice a_ ((low2 ++ [0]).length) c_), (19, .slice a_high6 high5.length c_high7), (26, .slice (some ⟨B35, 0, none⟩) 1 1)]) (fun B35 => [.sl a1 9 p.lots.length (fun i_ => Lot.cells (nth p.lots Lot.zero i_)), .blk B3 [.slice a1 p.lots.length c1, .int .i64 p.mass.lo, .int .i64 p.mass.hi, .int .i64 p.target.a.lo, .int .i64 p.target.a.hi, .int .i64 p.target.b.lo, .int .i64 p.target.b.hi, .int .i64 p.target.c.lo, .int .i64 p.target.c.hi] 28, owE intCells 0 a_high6 c_high7 3 1 high5, owE intCells 0 a_ c_ 3 1 (low2 ++ [0]), .blk B35 [.int .i64 ((nth p.lots Lot.zero i.toNat).count)] 3]) (fun B35 => []) (fun B35 => []) (fun B35 => by as_aux_lemma => kernel_rfl) (fun B35 => trivial) (fun B35 => ?_)
            refine AtL.nil (by kernel_rfl) ?_
            refine Ends.mvt [0, 1] (by kernel_rfl) (by kernel_rfl) ?_
            refine AtT.mv ?_
            obtain ⟨g12, h⟩ := gd h
            refine AtL.append 0 xei3 xlen3 xone3 (by decide) (some 27) 2 a_high6 c_high7 high5 (by kernel_rfl) (some ⟨B35, 0, none⟩) 1 1 ([(nth p.lots Lot.zero i.toNat).count]) (by kernel_rfl) (by kernel_rfl) (Adds.row (i := 4) (b := B35) (T := 3) (cs := [.int .i64 ((nth p.lots Lot.zero i.toNat).count)]) ((nth p.lots Lot.zero i.toNat).count) (by kernel_rfl) (by kernel_rfl)) (lenOk_le g12) (fun a_13 c_14 K9 hK9 => ?_)
            obtain rfl := Option.some.inj hK9
            refine AtL.fit [1, 6, 18, 26, 27] ([(1, .pointer (some ⟨B3, 0, none⟩)), (6, .int .i64 i), (18, .slice a_ ((low2 ++ [0]).length) c_), (26, .slice (some ⟨B35, 0, none⟩) 1 1), (27, .slice a_13 ((high5 ++ [(nth p.lots Lot.zero i.toNat).count]).length) c_14)]) ([.sl a1 9 p.lots.length (fun i_ => Lot.cells (nth p.lots Lot.zero i_)), .blk B3 [.slice a1 p.lots.length c1, .int .i64 p.mass.lo, .int .i64 p.mass.hi, .int .i64 p.target.a.lo, .int .i64 p.target.a.hi, .int .i64 p.target.b.lo, .int .i64 p.target.b.hi, .int .i64 p.target.c.lo, .int .i64 p.target.c.hi] 28, owE intCells 0 a_ c_ 3 1 (low2 ++ [0]), .blk B35 [.int .i64 ((nth p.lots Lot.zero i.toNat).count)] 3, owE intCells 0 a_13 c_14 3 1 (high5 ++ [(nth p.lots Lot.zero i.toNat).count])]) (by kernel_rfl) (by kernel_rfl) ?_
            refine AtL.nil (by kernel_rfl) ?_
            refine Ends.mvt [0, 1] (by kernel_rfl) (by kernel_rfl) ?_
            refine AtT.pu ?_
            refine AtY.runp 2 [1, 4, 5, 6] ([(1, .pointer (some ⟨B3, 0, none⟩)), (4, .slice a_ ((low2 ++ [0]).length) c_), (5, .slice a_13 ((high5 ++ [(nth p.lots Lot.zero i.toNat).count]).length) c_14), (6, .int .i64 i)]) [] (by as_aux_lemma => kernel_rfl) trivial ?_
            refine AtY.nilt (by kernel_rfl) ?_
            refine AtT.done ?_
            refine Ends.weak [1, 4, 5, 6] [true, true, true, false, true] ([(1, .pointer (some ⟨B3, 0, none⟩)), (4, .slice a_ ((low2 ++ [0]).length) c_), (5, .slice a_13 ((high5 ++ [(nth p.lots Lot.zero i.toNat).count]).length) c_14), (6, .int .i64 i)]) ([.sl a1 9 p.lots.length (fun i_ => Lot.cells (nth p.lots Lot.zero i_)), .blk B3 [.slice a1 p.lots.length c1, .int .i64 p.mass.lo, .int .i64 p.mass.hi, .int .i64 p.target.a.lo, .int .i64 p.target.a.hi, .int .i64 p.target.b.lo, .int .i64 p.target.b.hi, .int .i64 p.target.c.lo, .int .i64 p.target.c.hi] 28, owE intCells 0 a_ c_ 3 1 (low2 ++ [0]), owE intCells 0 a_13 c_14 3 1 (high5 ++ [(nth p.lots Lot.zero i.toNat).count])]) (by kernel_rfl) (by kernel_rfl) ?_
            refine Ends.block_normal ?_
            refine Ends.seq ?_
            refine At.runR [] [1, 4, 5, 6] [true, true, true, true] (.normal) ([(1, .pointer (some ⟨B3, 0, none⟩)), (4, .slice a_ ((low2 ++ [0]).length) c_), (5, .slice a_13 ((high5 ++ [(nth p.lots Lot.zero i.toNat).count]).length) c_14), (6, .int .i64 (IntKind.i64.wrap (i + (1 : Int))))]) [] [] (fun _ => by as_aux_lemma => kernel_rfl) trivial ?_
            exact Ends.round fuel8 ((low2 ++ [0]), a_, c_, (high5 ++ [(nth p.lots Lot.zero i.toNat).count]), a_13, c_14, (IntKind.i64.wrap (i + (1 : Int)))) (Nat.lt_succ_self _) h (by kernel_rfl) (by kernel_rfl)
          · refine AtT.mv ?_
            refine AtL.run 1 [] [1, 4, 5, 6, 16, 17, 19, 26] [true, true, true, true, true, true] (fun B40 => [(1, .pointer (some ⟨B3, 0, none⟩)), (4, .slice a_low3 low2.length c_low4), (5, .slice a_high6 high5.length c_high7), (6, .int .i64 i), (16, .slice a_low3 low2.length c_low4), (17, .slice (some ⟨B32, 0, none⟩) 1 1), (19, .slice a_high6 high5.length c_high7), (26, .slice (some ⟨B40, 0, none⟩) 1 1)]) (fun B40 => [.sl a1 9 p.lots.length (fun i_ => Lot.cells (nth p.lots Lot.zero i_)), .blk B3 [.slice a1 p.lots.length c1, .int .i64 p.mass.lo, .int .i64 p.mass.hi, .int .i64 p.target.a.lo, .int .i64 p.target.a.hi, .int .i64 p.target.b.lo, .int .i64 p.target.b.hi, .int .i64 p.target.c.lo, .int .i64 p.target.c.hi] 28, owE intCells 0 a_low3 c_low4 3 1 low2, owE intCells 0 a_high6 c_high7 3 1 high5, .blk B32 [.int .i64 0] 3, .blk B40 [.int .i64 ((nth p.lots Lot.zero i.toNat).count)] 3]) (fun B40 => []) (fun B40 => []) (fun B40 => by as_aux_lemma => kernel_rfl) (fun B40 => trivial) (fun B40 => ?_)
            refine AtL.nil (by kernel_rfl) ?_
            refine Ends.mvt [0, 1] (by kernel_rfl) (by kernel_rfl) ?_
            refine AtT.mv ?_
            obtain ⟨g15, h⟩ := gd h
            refine AtL.append 0 xei3 xlen3 xone3 (by decide) (some 18) 2 a_low3 c_low4 low2 (by kernel_rfl) (some ⟨B32, 0, none⟩) 1 1 ([0]) (by kernel_rfl) (by kernel_rfl) (Adds.row (i := 4) (b := B32) (T := 3) (cs := [.int .i64 0]) 0 (by kernel_rfl) (by kernel_rfl)) (lenOk_le g15) (fun a_16 c_17 K9 hK9 => ?_)
            obtain rfl := Option.some.inj hK9
            refine AtL.fit [1, 5, 6, 17, 18, 19, 26] ([(1, .pointer (some ⟨B3, 0, none⟩)), (5, .slice a_high6 high5.length c_high7), (6, .int .i64 i), (17, .slice (some ⟨B32, 0, none⟩) 1 1), (18, .slice a_16 ((low2 ++ [0]).length) c_17), (19, .slice a_high6 high5.length c_high7), (26, .slice (some ⟨B40, 0, none⟩) 1 1)]) ([.sl a1 9 p.lots.length (fun i_ => Lot.cells (nth p.lots Lot.zero i_)), .blk B3 [.slice a1 p.lots.length c1, .int .i64 p.mass.lo, .int .i64 p.mass.hi, .int .i64 p.target.a.lo, .int .i64 p.target.a.hi, .int .i64 p.target.b.lo, .int .i64 p.target.b.hi, .int .i64 p.target.c.lo, .int .i64 p.target.c.hi] 28, owE intCells 0 a_high6 c_high7 3 1 high5, .blk B32 [.int .i64 0] 3, .blk B40 [.int .i64 ((nth p.lots Lot.zero i.toNat).count)] 3, owE intCells 0 a_16 c_17 3 1 (low2 ++ [0])]) (by kernel_rfl) (by kernel_rfl) ?_
            refine AtL.nil (by kernel_rfl) ?_
            refine Ends.mvt [0, 1] (by kernel_rfl) (by kernel_rfl) ?_
            refine AtT.mv ?_
            obtain ⟨g18, h⟩ := gd h
            refine AtL.append 0 xei3 xlen3 xone3 (by decide) (some 27) 2 a_high6 c_high7 high5 (by kernel_rfl) (some ⟨B40, 0, none⟩) 1 1 ([(nth p.lots Lot.zero i.toNat).count]) (by kernel_rfl) (by kernel_rfl) (Adds.row (i := 4) (b := B40) (T := 3) (cs := [.int .i64 ((nth p.lots Lot.zero i.toNat).count)]) ((nth p.lots Lot.zero i.toNat).count) (by kernel_rfl) (by kernel_rfl)) (lenOk_le g18) (fun a_19 c_20 K9 hK9 => ?_)
            obtain rfl := Option.some.inj hK9
            refine AtL.fit [1, 6, 17, 18, 26, 27] ([(1, .pointer (some ⟨B3, 0, none⟩)), (6, .int .i64 i), (17, .slice (some ⟨B32, 0, none⟩) 1 1), (18, .slice a_16 ((low2 ++ [0]).length) c_17), (26, .slice (some ⟨B40, 0, none⟩) 1 1), (27, .slice a_19 ((high5 ++ [(nth p.lots Lot.zero i.toNat).count]).length) c_20)]) ([.sl a1 9 p.lots.length (fun i_ => Lot.cells (nth p.lots Lot.zero i_)), .blk B3 [.slice a1 p.lots.length c1, .int .i64 p.mass.lo, .int .i64 p.mass.hi, .int .i64 p.target.a.lo, .int .i64 p.target.a.hi, .int .i64 p.target.b.lo, .int .i64 p.target.b.hi, .int .i64 p.target.c.lo, .int .i64 p.target.c.hi] 28, .blk B32 [.int .i64 0] 3, .blk B40 [.int .i64 ((nth p.lots Lot.zero i.toNat).count)] 3, owE intCells 0 a_16 c_17 3 1 (low2 ++ [0]), owE intCells 0 a_19 c_20 3 1 (high5 ++ [(nth p.lots Lot.zero i.toNat).count])]) (by kernel_rfl) (by kernel_rfl) ?_
            refine AtL.nil (by kernel_rfl) ?_
            refine Ends.mvt [0, 1] (by kernel_rfl) (by kernel_rfl) ?_
            refine AtT.pu ?_
            refine AtY.runp 2 [1, 4, 5, 6] ([(1, .pointer (some ⟨B3, 0, none⟩)), (4, .slice a_16 ((low2 ++ [0]).length) c_17), (5, .slice a_19 ((high5 ++ [(nth p.lots Lot.zero i.toNat).count]).length) c_20), (6, .int .i64 i)]) [] (by as_aux_lemma => kernel_rfl) trivial ?_
            refine AtY.nilt (by kernel_rfl) ?_
            refine AtT.done ?_
            refine Ends.weak [1, 4, 5, 6] [true, true, false, false, true, true] ([(1, .pointer (some ⟨B3, 0, none⟩)), (4, .slice a_16 ((low2 ++ [0]).length) c_17), (5, .slice a_19 ((high5 ++ [(nth p.lots Lot.zero i.toNat).count]).length) c_20), (6, .int .i64 i)]) ([.sl a1 9 p.lots.length (fun i_ => Lot.cells (nth p.lots Lot.zero i_)), .blk B3 [.slice a1 p.lots.length c1, .int .i64 p.mass.lo, .int .i64 p.mass.hi, .int .i64 p.target.a.lo, .int .i64 p.target.a.hi, .int .i64 p.target.b.lo, .int .i64 p.target.b.hi, .int .i64 p.target.c.lo, .int .i64 p.target.c.hi] 28, owE intCells 0 a_16 c_17 3 1 (low2 ++ [0]), owE intCells 0 a_19 c_20 3 1 (high5 ++ [(nth p.lots Lot.zero i.toNat).count])]) (by kernel_rfl) (by kernel_rfl) ?_
            refine Ends.block_normal ?_
            refine Ends.seq ?_
            refine At.runR [] [1, 4, 5, 6] [true, true, true, true] (.normal) ([(1, .pointer (some ⟨B3, 0, none⟩)), (4, .slice a_16 ((low2 ++ [0]).length) c_17), (5, .slice a_19 ((high5 ++ [(nth p.lots Lot.zero i.toNat).count]).length) c_20), (6, .int .i64 (IntKind.i64.wrap (i + (1 : Int))))]) [] [] (fun _ => by as_aux_lemma => kernel_rfl) trivial ?_
            exact Ends.round fuel8 ((low2 ++ [0]), a_16, c_17, (high5 ++ [(nth p.lots Lot.zero i.toNat).count]), a_19, c_20, (IntKind.i64.wrap (i + (1 : Int)))) (Nat.lt_succ_self _) h (by kernel_rfl) (by kernel_rfl)
        · refine AtT.mv ?_
          refine AtL.run 1 [] [1, 4, 5, 6, 16, 19, 26] [true, true, true, true, true] (fun B47 => [(1, .pointer (some ⟨B3, 0, none⟩)), (4, .slice a_low3 low2.length c_low4), (5, .slice a_high6 high5.length c_high7), (6, .int .i64 i), (16, .slice a_low3 low2.length c_low4), (19, .slice a_high6 high5.length c_high7), (26, .slice (some ⟨B47, 0, none⟩) 1 1)]) (fun B47 => [.sl a1 9 p.lots.length (fun i_ => Lot.cells (nth p.lots Lot.zero i_)), .blk B3 [.slice a1 p.lots.length c1, .int .i64 p.mass.lo, .int .i64 p.mass.hi, .int .i64 p.target.a.lo, .int .i64 p.target.a.hi, .int .i64 p.target.b.lo, .int .i64 p.target.b.hi, .int .i64 p.target.c.lo, .int .i64 p.target.c.hi] 28, owE intCells 0 a_low3 c_low4 3 1 low2, owE intCells 0 a_high6 c_high7 3 1 high5, .blk B47 [.int .i64 ((nth p.lots Lot.zero i.toNat).count)] 3]) (fun B47 => []) (fun B47 => []) (fun B47 => by as_aux_lemma => kernel_rfl) (fun B47 => trivial) (fun B47 => ?_)
          refine AtL.nil (by kernel_rfl) ?_
          refine Ends.mvt [0, 1] (by kernel_rfl) (by kernel_rfl) ?_
          refine AtT.mv ?_
          refine AtL.run 1 [] [1, 4, 5, 6, 16, 17, 19, 26] [true, true, true, true, true, true] (fun B48 => [(1, .pointer (some ⟨B3, 0, none⟩)), (4, .slice a_low3 low2.length c_low4), (5, .slice a_high6 high5.length c_high7), (6, .int .i64 i), (16, .slice a_low3 low2.length c_low4), (17, .slice (some ⟨B48, 0, none⟩) 1 1), (19, .slice a_high6 high5.length c_high7), (26, .slice (some ⟨B47, 0, none⟩) 1 1)]) (fun B48 => [.sl a1 9 p.lots.length (fun i_ => Lot.cells (nth p.lots Lot.zero i_)), .blk B3 [.slice a1 p.lots.length c1, .int .i64 p.mass.lo, .int .i64 p.mass.hi, .int .i64 p.target.a.lo, .int .i64 p.target.a.hi, .int .i64 p.target.b.lo, .int .i64 p.target.b.hi, .int .i64 p.target.c.lo, .int .i64 p.target.c.hi] 28, owE intCells 0 a_low3 c_low4 3 1 low2, owE intCells 0 a_high6 c_high7 3 1 high5, .blk B47 [.int .i64 ((nth p.lots Lot.zero i.toNat).count)] 3, .blk B48 [.int .i64 0] 3]) (fun B48 => []) (fun B48 => []) (fun B48 => by as_aux_lemma => kernel_rfl) (fun B48 => trivial) (fun B48 => ?_)
          refine AtL.nil (by kernel_rfl) ?_
          refine Ends.mvt [0, 1] (by kernel_rfl) (by kernel_rfl) ?_
          refine AtT.mv ?_
          obtain ⟨g21, h⟩ := gd h
          refine AtL.append 0 xei3 xlen3 xone3 (by decide) (some 18) 2 a_low3 c_low4 low2 (by kernel_rfl) (some ⟨B48, 0, none⟩) 1 1 ([0]) (by kernel_rfl) (by kernel_rfl) (Adds.row (i := 5) (b := B48) (T := 3) (cs := [.int .i64 0]) 0 (by kernel_rfl) (by kernel_rfl)) (lenOk_le g21) (fun a_22 c_23 K9 hK9 => ?_)
          obtain rfl := Option.some.inj hK9
          refine AtL.fit [1, 5, 6, 17, 18, 19, 26] ([(1, .pointer (some ⟨B3, 0, none⟩)), (5, .slice a_high6 high5.length c_high7), (6, .int .i64 i), (17, .slice (some ⟨B48, 0, none⟩) 1 1), (18, .slice a_22 ((low2 ++ [0]).length) c_23), (19, .slice a_high6 high5.length c_high7), (26, .slice (some ⟨B47, 0, none⟩) 1 1)]) ([.sl a1 9 p.lots.length (fun i_ => Lot.cells (nth p.lots Lot.zero i_)), .blk B3 [.slice a1 p.lots.length c1, .int .i64 p.mass.lo, .int .i64 p.mass.hi, .int .i64 p.target.a.lo, .int .i64 p.target.a.hi, .int .i64 p.target.b.lo, .int .i64 p.target.b.hi, .int .i64 p.target.c.lo, .int .i64 p.target.c.hi] 28, owE intCells 0 a_high6 c_high7 3 1 high5, .blk B47 [.int .i64 ((nth p.lots Lot.zero i.toNat).count)] 3, .blk B48 [.int .i64 0] 3, owE intCells 0 a_22 c_23 3 1 (low2 ++ [0])]) (by kernel_rfl) (by kernel_rfl) ?_
          refine AtL.nil (by kernel_rfl) ?_
          refine Ends.mvt [0, 1] (by kernel_rfl) (by kernel_rfl) ?_
          refine AtT.mv ?_
          obtain ⟨g24, h⟩ := gd h
          refine AtL.append 0 xei3 xlen3 xone3 (by decide) (some 27) 2 a_high6 c_high7 high5 (by kernel_rfl) (some ⟨B47, 0, none⟩) 1 1 ([(nth p.lots Lot.zero i.toNat).count]) (by kernel_rfl) (by kernel_rfl) (Adds.row (i := 3) (b := B47) (T := 3) (cs := [.int .i64 ((nth p.lots Lot.zero i.toNat).count)]) ((nth p.lots Lot.zero i.toNat).count) (by kernel_rfl) (by kernel_rfl)) (lenOk_le g24) (fun a_25 c_26 K9 hK9 => ?_)
          obtain rfl := Option.some.inj hK9
          refine AtL.fit [1, 6, 17, 18, 26, 27] ([(1, .pointer (some ⟨B3, 0, none⟩)), (6, .int .i64 i), (17, .slice (some ⟨B48, 0, none⟩) 1 1), (18, .slice a_22 ((low2 ++ [0]).length) c_23), (26, .slice (some ⟨B47, 0, none⟩) 1 1), (27, .slice a_25 ((high5 ++ [(nth p.lots Lot.zero i.toNat).count]).length) c_26)]) ([.sl a1 9 p.lots.length (fun i_ => Lot.cells (nth p.lots Lot.zero i_)), .blk B3 [.slice a1 p.lots.length c1, .int .i64 p.mass.lo, .int .i64 p.mass.hi, .int .i64 p.target.a.lo, .int .i64 p.target.a.hi, .int .i64 p.target.b.lo, .int .i64 p.target.b.hi, .int .i64 p.target.c.lo, .int .i64 p.target.c.hi] 28, .blk B47 [.int .i64 ((nth p.lots Lot.zero i.toNat).count)] 3, .blk B48 [.int .i64 0] 3, owE intCells 0 a_22 c_23 3 1 (low2 ++ [0]), owE intCells 0 a_25 c_26 3 1 (high5 ++ [(nth p.lots Lot.zero i.toNat).count])]) (by kernel_rfl) (by kernel_rfl) ?_
          refine AtL.nil (by kernel_rfl) ?_
          refine Ends.mvt [0, 1] (by kernel_rfl) (by kernel_rfl) ?_
          refine AtT.pu ?_
          refine AtY.runp 2 [1, 4, 5, 6] ([(1, .pointer (some ⟨B3, 0, none⟩)), (4, .slice a_22 ((low2 ++ [0]).length) c_23), (5, .slice a_25 ((high5 ++ [(nth p.lots Lot.zero i.toNat).count]).length) c_26), (6, .int .i64 i)]) [] (by as_aux_lemma => kernel_rfl) trivial ?_
          refine AtY.nilt (by kernel_rfl) ?_
          refine AtT.done ?_
          refine Ends.weak [1, 4, 5, 6] [true, true, false, false, true, true] ([(1, .pointer (some ⟨B3, 0, none⟩)), (4, .slice a_22 ((low2 ++ [0]).length) c_23), (5, .slice a_25 ((high5 ++ [(nth p.lots Lot.zero i.toNat).count]).length) c_26), (6, .int .i64 i)]) ([.sl a1 9 p.lots.length (fun i_ => Lot.cells (nth p.lots Lot.zero i_)), .blk B3 [.slice a1 p.lots.length c1, .int .i64 p.mass.lo, .int .i64 p.mass.hi, .int .i64 p.target.a.lo, .int .i64 p.target.a.hi, .int .i64 p.target.b.lo, .int .i64 p.target.b.hi, .int .i64 p.target.c.lo, .int .i64 p.target.c.hi] 28, owE intCells 0 a_22 c_23 3 1 (low2 ++ [0]), owE intCells 0 a_25 c_26 3 1 (high5 ++ [(nth p.lots Lot.zero i.toNat).count])]) (by kernel_rfl) (by kernel_rfl) ?_
          refine Ends.block_normal ?_
          refine Ends.seq ?_
          refine At.runR [] [1, 4, 5, 6] [true, true, true, true] (.normal) ([(1, .pointer (some ⟨B3, 0, none⟩)), (4, .slice a_22 ((low2 ++ [0]).length) c_23), (5, .slice a_25 ((high5 ++ [(nth p.lots Lot.zero i.toNat).count]).length) c_26), (6, .int .i64 (IntKind.i64.wrap (i + (1 : Int))))]) [] [] (fun _ => by as_aux_lemma => kernel_rfl) trivial ?_
          exact Ends.round fuel8 ((low2 ++ [0]), a_22, c_23, (high5 ++ [(nth p.lots Lot.zero i.toNat).count]), a_25, c_26, (IntKind.i64.wrap (i + (1 : Int)))) (Nat.lt_succ_self _) h (by kernel_rfl) (by kernel_rfl)
      · have h := br_f h hc9
        refine At.runR [] [4, 5] [true, true, true, true] (.exit 0) ([(4, .slice a_low3 low2.length c_low4), (5, .slice a_high6 high5.length c_high7)]) [] [] (fun _ => by as_aux_lemma => kernel_rfl) trivial ?_
        refine Ends.then_exit ?_
        refine Ends.then_exit ?_
        refine Ends.block_hit ?_
        refine Ends.sel [4, 5] [2, 3] ([(4, .slice a_low3 low2.length c_low4), (5, .slice a_high6 high5.length c_high7)]) ([owE intCells 0 a_low3 c_low4 3 1 low2, owE intCells 0 a_high6 c_high7 3 1 high5]) (by kernel_rfl) (by kernel_rfl) (by kernel_rfl) ?_
        exact Ends.mid (low2, a_low3, c_low4, high5, a_high6, c_high7) (Option.some.inj h).symm (by kernel_rfl) (by kernel_rfl)
  · obtain ⟨low, a_low, c_low, high, a_high, c_high⟩ := s
    replace hI : o1 = (low, high) := hI
    have h := hr1
    try rw [hI] at h
    refine At.runR [] [2, 3] [true, true] (.ret) ([(2, .slice a_low low.length c_low), (3, .slice a_high high.length c_high)]) [] [] (fun _ => by as_aux_lemma => kernel_rfl) trivial ?_
    refine Ends.body [] (.tuple #[.slice a_low low.length c_low, .slice a_high high.length c_high]) [] (by kernel_rfl) (fun w9 hRep => ?_)
    obtain rfl := Option.some.inj h
    exact ⟨a_low, c_low, a_high, c_high, rfl, hRep.sel (r := [0, 1]) (by kernel_rfl) (by kernel_rfl)⟩
def rBox_l41 (F : Nat) (high : List Int) (out_2 : List (List Int)) (i : Int) (k : Int) : Nat → (List (List Int)) → Int → Option ((List (List Int)))
  | 0, _, _ => none
  | fuel41 + 1, next36, n_ => bif inB i high.length then (bif decide (n_ ≤ (nth high 0 i.toNat)) then (bif inB k out_2.length then (bif lenOk (([] : List Int).length) (nth out_2 [] k.toNat).length then (bif lenOk ((([] : List Int) ++ (nth out_2 [] k.toNat)).length) ([n_]).length then (bif lenOk next36.length 1 then (rBox_l41 F high out_2 i k fuel41 (next36 ++ [((([] : List Int) ++ (nth out_2 [] k.toNat)) ++ [n_])]) (IntKind.i64.wrap (n_ + (1 : Int)))) else none) else none) else none) else none) else (some next36)) else none
def rBox_l15 (F : Nat) (low : List Int) (high : List Int) (out_2 : List (List Int)) (i : Int) : Nat → (List (List Int)) → Int → Option ((List (List Int)))
  | 0, _, _ => none
  | fuel15 + 1, next10, k => bif decide (k < (out_2.length : Int)) then (((bif inB i low.length then (rBox_l41 F high out_2 i k F next10 (nth low 0 i.toNat)) else none)).bind (fun z21 => rBox_l15 F low high out_2 i fuel15 z21 (IntKind.i64.wrap (k + (1 : Int))))) else (some next10)
def rBox_l7 (F : Nat) (low : List Int) (high : List Int) : Nat → (List (List Int)) → Int → Option ((List (List Int)))
  | 0, _, _ => none
  | fuel7 + 1, out_2, i => bif decide (i < (low.length : Int)) then (((rBox_l15 F low high out_2 i F ([] : List (List Int)) (0 : Int))).bind (fun z9 => rBox_l7 F low high fuel7 z9 (IntKind.i64.wrap (i + (1 : Int))))) else (some out_2)
def rBox_S (F : Nat) (low : List Int) (high : List Int) : Option ((List (List Int))) := ((rBox_l7 F low high F ([([] : List Int)]) (0 : Int))).bind (fun z1 => some z1)
set_option maxRecDepth 100000 in
set_option maxHeartbeats 4000000 in
theorem rBox_w (F : Nat) (low : List Int) (high : List Int) (a1 : Option Addr) (c1 : Nat) (a2 : Option Addr) (c2 : Nat) (w : World) (hs1 : Sl 1 intCells w a1 c1 low) (hs2 : Sl 1 intCells w a2 c2 high) (v : (List (List Int))) (h : rBox_S F low high = some v) :
    Calls Try.prog 72 #[.slice a1 low.length c1, .slice a2 high.length c2] w (fun e w' => ∃ xa0 xc0 xA0 xC0, e = .returned (.slice xa0 v.length xc0) ∧ Rep [] w [hdE 29 v xA0 xC0 xa0 xc0, rwE w.heap.size intCells 0 v xA0 xC0] w') := by
  rw [rBox_S] at h
  refine At.enter Try.func72 rfl 51 [(0, .slice a1 low.length c1), (1, .slice a2 high.length c2)] ([.sl a2 1 high.length (fun i_ => intCells (nth high 0 i_)), .sl a1 1 low.length (fun i_ => intCells (nth low 0 i_))]) [] (by kernel_rfl) ⟨rfl, rfl, trivial⟩ (Rep.sub (Rep.sl (Rep.sl (Rep.start w) 0 hs1 (by simp [Ent.mut])) 0 hs2 (by simp [Ent.mut])) (by simp)) ?_
  refine At.seq ?_
  refine At.runR [] [0, 1] [true, true] (.normal) ([(0, .slice a1 low.length c1), (1, .slice a2 high.length c2)]) [] [] (fun _ => by as_aux_lemma => kernel_rfl) trivial ?_
  refine Ends.seq ?_
  refine At.seq ?_
  refine At.run [] [0, 1, 5] [true, true, true, true] (.normal) (fun B6 => [(0, .slice a1 low.length c1), (1, .slice a2 high.length c2), (5, .slice (some ⟨(B6 + 1), 0, none⟩) 1 1)]) (fun B6 => [.sl a2 1 high.length (fun i_ => intCells (nth high 0 i_)), .sl a1 1 low.length (fun i_ => intCells (nth low 0 i_)), .blk B6 [] 3, .blk (B6 + 1) [.slice (some ⟨B6, 0, none⟩) 0 0] 29]) (fun B6 => []) (fun B6 => []) (fun B6 => by as_aux_lemma => kernel_rfl) (fun B6 => trivial) (fun B6 => ?_)
  refine Ends.seq ?_
  obtain ⟨o1, h, hr1⟩ := bd h
  refine At.seq_mid (σ := (List (List Int)) × (Option Addr) × Nat × (Nat → Option Addr) × (Nat → Nat)) (fun s => o1 = s.1) (fun s => [(5, .slice s.2.1 s.1.length s.2.2.1)]) (fun s => [hdE 29 s.1 s.2.2.2.1 s.2.2.2.2 s.2.1 s.2.2.1, rwE w.heap.size intCells 0 s.1 s.2.2.2.1 s.2.2.2.2]) ?_ (fun s hI => ?_)
  · refine At.seq ?_
    refine At.runR [] [0, 1, 5, 6] [true, true, true, true] (.normal) ([(0, .slice a1 low.length c1), (1, .slice a2 high.length c2), (5, .slice (some ⟨(B6 + 1), 0, none⟩) 1 1), (6, .int .i64 0)]) [] [] (fun _ => by as_aux_lemma => kernel_rfl) trivial ?_
    refine Ends.seq ?_
    refine At.block ?_
    refine At.addRow 2 B6 3 [] (by kernel_rfl) intCells 0 1 ([] : List Int) xlen3 (by kernel_rfl) (by decide) (by simp) ?_
    refine At.to (To.owRo 3 (enc := intCells) (d := 0) (a := (some ⟨B6, 0, none⟩)) (c := (([] : List Int).length)) (T := 3) (xs := ([] : List Int)) (by kernel_rfl) xlen3 (w.heap.size) (Nat.le_refl _)) ?_
    refine At.to (To.hdRow1 (i := 2) (b := (B6 + 1)) (T := 29) (a := (some ⟨B6, 0, none⟩)) (c := ([] : List Int).length) (y := ([] : List Int)) (enc := intCells) (d := 0) (by kernel_rfl) (j := 2) (lo2 := w.heap.size) (by kernel_rfl) (w.heap.size) (Nat.le_refl _)) ?_
    refine At.sel [0, 1, 5, 6] [0, 1, 3, 4] ([(0, .slice a1 low.length c1), (1, .slice a2 high.length c2), (5, .slice (some ⟨(B6 + 1), 0, none⟩) (([([] : List Int)]).length) 1), (6, .int .i64 0)]) ([.sl a2 1 high.length (fun i_ => intCells (nth high 0 i_)), .sl a1 1 low.length (fun i_ => intCells (nth low 0 i_)), hdE 29 ([([] : List Int)]) (fun _ => (some ⟨B6, 0, none⟩)) (fun _ => ([] : List Int).length) (some ⟨(B6 + 1), 0, none⟩) 1, rwE w.heap.size intCells 0 ([([] : List Int)]) (fun _ => (some ⟨B6, 0, none⟩)) (fun _ => ([] : List Int).length)]) (by kernel_rfl) (by kernel_rfl) (by kernel_rfl) ?_
    refine At.loop (σ := (List (List Int)) × (Option Addr) × Nat × (Nat → Option Addr) × (Nat → Nat) × Int) (fun n s => rBox_l7 F low high n s.1 s.2.2.2.2.2 = some o1) (fun s => [(0, .slice a1 low.length c1), (1, .slice a2 high.length c2), (5, .slice s.2.1 s.1.length s.2.2.1), (6, .int .i64 s.2.2.2.2.2)]) (fun s => [.sl a2 1 high.length (fun i_ => intCells (nth high 0 i_)), .sl a1 1 low.length (fun i_ => intCells (nth low 0 i_)), hdE 29 s.1 s.2.2.2.1 s.2.2.2.2.1 s.2.1 s.2.2.1, rwE w.heap.size intCells 0 s.1 s.2.2.2.1 s.2.2.2.2.1]) F ([([] : List Int)], (some ⟨(B6 + 1), 0, none⟩), 1, (fun _ => (some ⟨B6, 0, none⟩)), (fun _ => ([] : List Int).length), (0 : Int)) h (by kernel_rfl) (by kernel_rfl) (fun n s hI => ?_)
    obtain ⟨out_2, a_out3, c_out4, A_out5, C_out6, i⟩ := s
    replace hI : rBox_l7 F low high n out_2 i = some o1 := hI
    rcases n with _ | fuel7
    · cases hI
    · rw [rBox_l7] at hI
      have h := hI
      clear hI
      refine At.seq ?_
      refine At.seq ?_
      refine At.runR [] [0, 1, 5, 6, 15] [true, true, true, true] (.normal) ([(0, .slice a1 low.length c1), (1, .slice a2 high.length c2), (5, .slice a_out3 out_2.length c_out4), (6, .int .i64 i), (15, .bool (decide (i < (low.length : Int))))]) [] [] (fun _ => by as_aux_lemma => kernel_rfl) trivial ?_
      refine Ends.seq ?_
      refine At.cond (decide (i < (low.length : Int))) (by kernel_rfl) (fun hc8 => ?_) (fun hc8 => ?_)
      · have h := br_t h hc8
        refine At.runR [] [0, 1, 5, 6] [true, true, true, true] (.normal) ([(0, .slice a1 low.length c1), (1, .slice a2 high.length c2), (5, .slice a_out3 out_2.length c_out4), (6, .int .i64 i)]) [] [] (fun _ => by as_aux_lemma => kernel_rfl) trivial ?_
        refine Ends.seq ?_
        refine At.seq ?_
        refine At.block ?_
        refine At.seq ?_
        refine At.run [] [0, 1, 5, 6, 7] [true, true, true, true, true] (.normal) (fun B29 => [(0, .slice a1 low.length c1), (1, .slice a2 high.length c2), (5, .slice a_out3 out_2.length c_out4), (6, .int .i64 i), (7, .slice (some ⟨B29, 0, none⟩) 0 0)]) (fun B29 => [.sl a2 1 high.length (fun i_ => intCells (nth high 0 i_)), .sl a1 1 low.length (fun i_ => intCells (nth low 0 i_)), hdE 29 out_2 A_out5 C_out6 a_out3 c_out4, rwE w.heap.size intCells 0 out_2 A_out5 C_out6, .blk B29 [] 29]) (fun B29 => []) (fun B29 => []) (fun B29 => by as_aux_lemma => kernel_rfl) (fun B29 => trivial) (fun B29 => ?_)
        refine Ends.seq ?_
        obtain ⟨o9, h, hr9⟩ := bd h
        refine At.seq_mid (σ := (List (List Int)) × (Option Addr) × Nat × (Nat → Option Addr) × (Nat → Nat)) (fun s => o9 = s.1) (fun s => [(0, .slice a1 low.length c1), (1, .slice a2 high.length c2), (6, .int .i64 i), (7, .slice s.2.1 s.1.length s.2.2.1)]) (fun s => [.sl a2 1 high.length (fun i_ => intCells (nth high 0 i_)), .sl a1 1 low.length (fun i_ => intCells (nth low 0 i_)), hdE 29 s.1 s.2.2.2.1 s.2.2.2.2 s.2.1 s.2.2.1, rwE w.heap.size intCells 0 s.1 s.2.2.2.1 s.2.2.2.2]) ?_ (fun s hI => ?_)
        · refine At.seq ?_
          refine At.runR [] [0, 1, 5, 6, 7, 8] [true, true, true, true, true] (.normal) ([(0, .slice a1 low.length c1), (1, .slice a2 high.length c2), (5, .slice a_out3 out_2.length c_out4), (6, .int .i64 i), (7, .slice (some ⟨B29, 0, none⟩) 0 0), (8, .int .i64 0)]) [] [] (fun _ => by as_aux_lemma => kernel_rfl) trivial ?_
          refine Ends.seq ?_
          refine At.block ?_
          refine At.to (To.hdRow0 (i := 4) (b := B29) (T := 29) (by kernel_rfl) (w.heap.size) intCells 0) ?_
          refine At.loop (σ := (List (List Int)) × (Option Addr) × Nat × (Nat → Option Addr) × (Nat → Nat) × Int) (fun n s => rBox_l15 F low high out_2 i n s.1 s.2.2.2.2.2 = some o9) (fun s => [(0, .slice a1 low.length c1), (1, .slice a2 high.length c2), (5, .slice a_out3 out_2.length c_out4), (6, .int .i64 i), (7, .slice s.2.1 s.1.length s.2.2.1), (8, .int .i64 s.2.2.2.2.2)]) (fun s => [.sl a2 1 high.length (fun i_ => intCells (nth high 0 i_)), .sl a1 1 low.length (fun i_ => intCells (nth low 0 i_)), hdE 29 out_2 A_out5 C_out6 a_out3 c_out4, rwE w.heap.size intCells 0 out_2 A_out5 C_out6, hdE 29 s.1 s.2.2.2.1 s.2.2.2.2.1 s.2.1 s.2.2.1, rwE w.heap.size intCells 0 s.1 s.2.2.2.1 s.2.2.2.2.1]) F (([] : List (List Int)), (some ⟨B29, 0, none⟩), 0, (fun _ => none), (fun _ => 0), (0 : Int)) h (by kernel_rfl) (by kernel_rfl) (fun n s hI => ?_)
          obtain ⟨next10, a_next11, c_next12, A_next13, C_next14, k⟩ := s
          replace hI : rBox_l15 F low high out_2 i n next10 k = some o9 := hI
          rcases n with _ | fuel15
          · cases hI
          · rw [rBox_l15] at hI
            have h := hI
            clear hI
            refine At.seq ?_
            refine At.seq ?_
            refine At.runR [] [0, 1, 5, 6, 7, 8, 22] [true, true, true, true, true, true] (.normal) ([(0, .slice a1 low.length c1), (1, .slice a2 high.length c2), (5, .slice a_out3 out_2.length c_out4), (6, .int .i64 i), (7, .slice a_next11 next10.length c_next12), (8, .int .i64 k), (22, .bool (decide (k < (out_2.length : Int))))]) [] [] (fun _ => by as_aux_lemma => kernel_rfl) trivial ?_
            refine Ends.seq ?_
            refine At.cond (decide (k < (out_2.length : Int))) (by kernel_rfl) (fun hc16 => ?_) (fun hc16 => ?_)
            · have h := br_t h hc16
              refine At.runR [] [0, 1, 5, 6, 7, 8] [true, true, true, true, true, true] (.normal) ([(0, .slice a1 low.length c1), (1, .slice a2 high.length c2), (5, .slice a_out3 out_2.length c_out4), (6, .int .i64 i), (7, .slice a_next11 next10.length c_next12), (8, .int .i64 k)]) [] [] (fun _ => by as_aux_lemma => kernel_rfl) trivial ?_
              refine Ends.seq ?_
              obtain ⟨o21, h, hr21⟩ := bd h
              refine At.seq_mid (σ := (List (List Int)) × (Option Addr) × Nat × (Nat → Option Addr) × (Nat → Nat)) (fun s => o21 = s.1) (fun s => [(0, .slice a1 low.length c1), (1, .slice a2 high.length c2), (5, .slice a_out3 out_2.length c_out4), (6, .int .i64 i), (7, .slice s.2.1 s.1.length s.2.2.1), (8, .int .i64 k)]) (fun s => [.sl a2 1 high.length (fun i_ => intCells (nth high 0 i_)), .sl a1 1 low.length (fun i_ => intCells (nth low 0 i_)), hdE 29 out_2 A_out5 C_out6 a_out3 c_out4, rwE w.heap.size intCells 0 out_2 A_out5 C_out6, hdE 29 s.1 s.2.2.2.1 s.2.2.2.2 s.2.1 s.2.2.1, rwE w.heap.size intCells 0 s.1 s.2.2.2.1 s.2.2.2.2]) ?_ (fun s hI => ?_)
              · refine At.block ?_
                refine At.seq ?_
                obtain ⟨g32, h⟩ := gd h
                refine At.runR [(1, 0, 0), (1, 0, i.toNat)] [0, 1, 5, 6, 7, 8, 9] [true, true, true, true, true, true] (.normal) ([(0, .slice a1 low.length c1), (1, .slice a2 high.length c2), (5, .slice a_out3 out_2.length c_out4), (6, .int .i64 i), (7, .slice a_next11 next10.length c_next12), (8, .int .i64 k), (9, .int .i64 (nth low 0 i.toNat))]) [slB a1, slO a1 + i.toNat * 1 + 0] [IdxOk a1 a1 low.length low.length i, i.toNat < low.length] (fun _ => by as_aux_lemma => kernel_rfl) ⟨inB_idx g32, inB_lt g32, trivial⟩ ?_
                refine Ends.seq ?_
                refine At.block ?_
                refine At.loop (σ := (List (List Int)) × (Option Addr) × Nat × (Nat → Option Addr) × (Nat → Nat) × Int) (fun n s => rBox_l41 F high out_2 i k n s.1 s.2.2.2.2.2 = some o21) (fun s => [(0, .slice a1 low.length c1), (1, .slice a2 high.length c2), (5, .slice a_out3 out_2.length c_out4), (6, .int .i64 i), (7, .slice s.2.1 s.1.length s.2.2.1), (8, .int .i64 k), (9, .int .i64 s.2.2.2.2.2)]) (fun s => [.sl a2 1 high.length (fun i_ => intCells (nth high 0 i_)), .sl a1 1 low.length (fun i_ => intCells (nth low 0 i_)), hdE 29 out_2 A_out5 C_out6 a_out3 c_out4, rwE w.heap.size intCells 0 out_2 A_out5 C_out6, hdE 29 s.1 s.2.2.2.1 s.2.2.2.2.1 s.2.1 s.2.2.1, rwE w.heap.size intCells 0 s.1 s.2.2.2.1 s.2.2.2.2.1]) F (next10, a_next11, c_next12, A_next13, C_next14, (nth low 0 i.toNat)) h (by kernel_rfl) (by kernel_rfl) (fun n s hI => ?_)
                obtain ⟨next36, a_next37, c_next38, A_next39, C_next40, n_⟩ := s
                replace hI : rBox_l41 F high out_2 i k n next36 n_ = some o21 := hI
                rcases n with _ | fuel41
                · cases hI
                · rw [rBox_l41] at hI
                  have h := hI
                  clear hI
                  refine At.seq ?_
                  refine At.seq ?_
                  obtain ⟨g46, h⟩ := gd h
                  refine At.runR [(0, 0, 0), (0, 0, i.toNat)] [0, 1, 5, 6, 7, 8, 9, 34] [true, true, true, true, true, true] (.normal) ([(0, .slice a1 low.length c1), (1, .slice a2 high.length c2), (5, .slice a_out3 out_2.length c_out4), (6, .int .i64 i), (7, .slice a_next37 next36.length c_next38), (8, .int .i64 k), (9, .int .i64 n_), (34, .bool (decide (n_ ≤ (nth high 0 i.toNat))))]) [slB a2, slO a2 + i.toNat * 1 + 0] [IdxOk a2 a2 high.length high.length i, i.toNat < high.length] (fun _ => by as_aux_lemma => kernel_rfl) ⟨inB_idx g46, inB_lt g46, trivial⟩ ?_
                  refine Ends.seq ?_
                  refine At.cond (decide (n_ ≤ (nth high 0 i.toNat))) (by kernel_rfl) (fun hc47 => ?_) (fun hc47 => ?_)
                  · have h := br_t h hc47
                    refine At.runR [] [0, 1, 5, 6, 7, 8, 9] [true, true, true, true, true, true] (.normal) ([(0, .slice a1 low.length c1), (1, .slice a2 high.length c2), (5, .slice a_out3 out_2.length c_out4), (6, .int .i64 i), (7, .slice a_next37 next36.length c_next38), (8, .int .i64 k), (9, .int .i64 n_)]) [] [] (fun _ => by as_aux_lemma => kernel_rfl) trivial ?_
                    refine Ends.seq ?_
                    refine At.seq ?_
                    refine At.block ?_
                    refine At.region ?_
                    obtain ⟨g52, h⟩ := gd h
                    refine AtL.run 6 [(2, 0, 0), (2, 0, k.toNat)] [0, 1, 5, 6, 8, 9, 37, 38, 42] [true, true, true, true, true, true, true] (fun B68 => [(0, .slice a1 low.length c1), (1, .slice a2 high.length c2), (5, .slice a_out3 out_2.length c_out4), (6, .int .i64 i), (8, .int .i64 k), (9, .int .i64 n_), (37, .slice a_next37 next36.length c_next38), (38, .slice (some ⟨B68, 0, none⟩) 0 0), (42, .slice (A_out5 k.toNat) ((nth out_2 [] k.toNat).length) (C_out6 k.toNat))]) (fun B68 => [.sl a2 1 high.length (fun i_ => intCells (nth high 0 i_)), .sl a1 1 low.length (fun i_ => intCells (nth low 0 i_)), hdE 29 out_2 A_out5 C_out6 a_out3 c_out4, rwE w.heap.size intCells 0 out_2 A_out5 C_out6, hdE 29 next36 A_next39 C_next40 a_next37 c_next38, rwE w.heap.size intCells 0 next36 A_next39 C_next40, .blk B68 [] 3]) (fun B68 => [slB a_out3, slO a_out3 + k.toNat * 1 + 0]) (fun B68 => [IdxOk a_out3 a_out3 out_2.length out_2.length k, k.toNat < out_2.length]) (fun B68 => by as_aux_lemma => kernel_rfl) (fun B68 => ⟨inB_idx g52, inB_lt g52, trivial⟩) (fun B68 => ?_)
                    refine AtL.addRow 6 B68 3 [] (by kernel_rfl) intCells 0 1 ([] : List Int) xlen3 (by kernel_rfl) (by decide) (by simp) ?_
                    obtain ⟨g53, h⟩ := gd h
                    refine AtL.append 0 xei3 xlen3 xone3 (by decide) (some 43) 6 (some ⟨B68, 0, none⟩) (([] : List Int).length) ([] : List Int) (by kernel_rfl) (A_out5 k.toNat) ((nth out_2 [] k.toNat).length) (C_out6 k.toNat) (nth out_2 [] k.toNat) (by kernel_rfl) (by kernel_rfl) ((Adds.rows (enc := intCells) (d := 0) (lo := w.heap.size) (x := out_2) (A := A_out5) (C := C_out6) (i := 3) (by kernel_rfl) (r := k.toNat) (inB_lt g52))) (lenOk_le g53) (fun a_ c_ K9 hK9 => ?_)
                    obtain rfl := Option.some.inj hK9
                    refine AtL.fit [0, 1, 5, 6, 8, 9, 37, 42, 43] ([(0, .slice a1 low.length c1), (1, .slice a2 high.length c2), (5, .slice a_out3 out_2.length c_out4), (6, .int .i64 i), (8, .int .i64 k), (9, .int .i64 n_), (37, .slice a_next37 next36.length c_next38), (42, .slice (A_out5 k.toNat) ((nth out_2 [] k.toNat).length) (C_out6 k.toNat)), (43, .slice a_ ((([] : List Int) ++ (nth out_2 [] k.toNat)).length) c_)]) ([.sl a2 1 high.length (fun i_ => intCells (nth high 0 i_)), .sl a1 1 low.length (fun i_ => intCells (nth low 0 i_)), hdE 29 out_2 A_out5 C_out6 a_out3 c_out4, rwE w.heap.size intCells 0 out_2 A_out5 C_out6, hdE 29 next36 A_next39 C_next40 a_next37 c_next38, rwE w.heap.size intCells 0 next36 A_next39 C_next40, owE intCells 0 a_ c_ 3 1 (([] : List Int) ++ (nth out_2 [] k.toNat))]) (by kernel_rfl) (by kernel_rfl) ?_
                    refine AtL.run 2 [] [0, 1, 5, 6, 8, 9, 37, 43, 45] [true, true, true, true, true, true, true, true] (fun B69 => [(0, .slice a1 low.length c1), (1, .slice a2 high.length c2), (5, .slice a_out3 out_2.length c_out4), (6, .int .i64 i), (8, .int .i64 k), (9, .int .i64 n_), (37, .slice a_next37 next36.length c_next38), (43, .slice a_ ((([] : List Int) ++ (nth out_2 [] k.toNat)).length) c_), (45, .slice (some ⟨B69, 0, none⟩) 1 1)]) (fun B69 => [.sl a2 1 high.length (fun i_ => intCells (nth high 0 i_)), .sl a1 1 low.length (fun i_ => intCells (nth low 0 i_)), hdE 29 out_2 A_out5 C_out6 a_out3 c_out4, rwE w.heap.size intCells 0 out_2 A_out5 C_out6, hdE 29 next36 A_next39 C_next40 a_next37 c_next38, rwE w.heap.size intCells 0 next36 A_next39 C_next40, owE intCells 0 a_ c_ 3 1 (([] : List Int) ++ (nth out_2 [] k.toNat)), .blk B69 [.int .i64 n_] 3]) (fun B69 => []) (fun B69 => []) (fun B69 => by as_aux_lemma => kernel_rfl) (fun B69 => trivial) (fun B69 => ?_)
                    obtain ⟨g54, h⟩ := gd h
                    refine AtL.append 0 xei3 xlen3 xone3 (by decide) (some 46) 6 a_ c_ (([] : List Int) ++ (nth out_2 [] k.toNat)) (by kernel_rfl) (some ⟨B69, 0, none⟩) 1 1 ([n_]) (by kernel_rfl) (by kernel_rfl) (Adds.row (i := 7) (b := B69) (T := 3) (cs := [.int .i64 n_]) n_ (by kernel_rfl) (by kernel_rfl)) (lenOk_le g54) (fun a_55 c_56 K9 hK9 => ?_)
                    obtain rfl := Option.some.inj hK9
                    refine AtL.fit [0, 1, 5, 6, 8, 9, 37, 45, 46] ([(0, .slice a1 low.length c1), (1, .slice a2 high.length c2), (5, .slice a_out3 out_2.length c_out4), (6, .int .i64 i), (8, .int .i64 k), (9, .int .i64 n_), (37, .slice a_next37 next36.length c_next38), (45, .slice (some ⟨B69, 0, none⟩) 1 1), (46, .slice a_55 (((([] : List Int) ++ (nth out_2 [] k.toNat)) ++ [n_]).length) c_56)]) ([.sl a2 1 high.length (fun i_ => intCells (nth high 0 i_)), .sl a1 1 low.length (fun i_ => intCells (nth low 0 i_)), hdE 29 out_2 A_out5 C_out6 a_out3 c_out4, rwE w.heap.size intCells 0 out_2 A_out5 C_out6, hdE 29 next36 A_next39 C_next40 a_next37 c_next38, rwE w.heap.size intCells 0 next36 A_next39 C_next40, .blk B69 [.int .i64 n_] 3, owE intCells 0 a_55 c_56 3 1 ((([] : List Int) ++ (nth out_2 [] k.toNat)) ++ [n_])]) (by kernel_rfl) (by kernel_rfl) ?_
                    refine AtL.run 1 [] [0, 1, 5, 6, 8, 9, 37, 47] [true, true, true, true, true, true, false, true, true] (fun B70 => [(0, .slice a1 low.length c1), (1, .slice a2 high.length c2), (5, .slice a_out3 out_2.length c_out4), (6, .int .i64 i), (8, .int .i64 k), (9, .int .i64 n_), (37, .slice a_next37 next36.length c_next38), (47, .slice (some ⟨B70, 0, none⟩) 1 1)]) (fun B70 => [.sl a2 1 high.length (fun i_ => intCells (nth high 0 i_)), .sl a1 1 low.length (fun i_ => intCells (nth low 0 i_)), hdE 29 out_2 A_out5 C_out6 a_out3 c_out4, rwE w.heap.size intCells 0 out_2 A_out5 C_out6, hdE 29 next36 A_next39 C_next40 a_next37 c_next38, rwE w.heap.size intCells 0 next36 A_next39 C_next40, owE intCells 0 a_55 c_56 3 1 ((([] : List Int) ++ (nth out_2 [] k.toNat)) ++ [n_]), .blk B70 [.slice a_55 (((([] : List Int) ++ (nth out_2 [] k.toNat)) ++ [n_]).length) c_56] 29]) (fun B70 => []) (fun B70 => []) (fun B70 => by as_aux_lemma => kernel_rfl) (fun B70 => trivial) (fun B70 => ?_)
                    refine AtL.to (To.owRo 6 (enc := intCells) (d := 0) (a := a_55) (c := c_56) (T := 3) (xs := ((([] : List Int) ++ (nth out_2 [] k.toNat)) ++ [n_])) (by kernel_rfl) xlen3 (w.heap.size) (Nat.le_refl _)) ?_
                    obtain ⟨g57, h⟩ := gd h
                    refine AtL.appendHd (enc := intCells) (d := 0) xei29 (by decide) (some 48) 4 a_next37 c_next38 next36 A_next39 C_next40 (by kernel_rfl) (some ⟨B70, 0, none⟩) a_55 c_56 ((([] : List Int) ++ (nth out_2 [] k.toNat)) ++ [n_]) (by kernel_rfl) 7 B70 29 (by kernel_rfl) rfl (by decide) 4 w.heap.size (by kernel_rfl) 5 w.heap.size (by kernel_rfl) (w.heap.size) (Nat.le_refl _) (Nat.le_refl _) (lenOk_le g57) (fun a_58 c_59 A_ C_ K9 hK9 => ?_)
                    obtain rfl := Option.some.inj hK9
                    refine AtL.sel [0, 1, 2, 3, 7, 8] ([.sl a2 1 high.length (fun i_ => intCells (nth high 0 i_)), .sl a1 1 low.length (fun i_ => intCells (nth low 0 i_)), hdE 29 out_2 A_out5 C_out6 a_out3 c_out4, rwE w.heap.size intCells 0 out_2 A_out5 C_out6, hdE 29 (next36 ++ [((([] : List Int) ++ (nth out_2 [] k.toNat)) ++ [n_])]) A_ C_ a_58 c_59, rwE w.heap.size intCells 0 (next36 ++ [((([] : List Int) ++ (nth out_2 [] k.toNat)) ++ [n_])]) A_ C_]) (by kernel_rfl) (by kernel_rfl) ?_
                    refine AtL.fit [0, 1, 5, 6, 8, 9, 48] ([(0, .slice a1 low.length c1), (1, .slice a2 high.length c2), (5, .slice a_out3 out_2.length c_out4), (6, .int .i64 i), (8, .int .i64 k), (9, .int .i64 n_), (48, .slice a_58 ((next36 ++ [((([] : List Int) ++ (nth out_2 [] k.toNat)) ++ [n_])]).length) c_59)]) ([.sl a2 1 high.length (fun i_ => intCells (nth high 0 i_)), .sl a1 1 low.length (fun i_ => intCells (nth low 0 i_)), hdE 29 out_2 A_out5 C_out6 a_out3 c_out4, rwE w.heap.size intCells 0 out_2 A_out5 C_out6, hdE 29 (next36 ++ [((([] : List Int) ++ (nth out_2 [] k.toNat)) ++ [n_])]) A_ C_ a_58 c_59, rwE w.heap.size intCells 0 (next36 ++ [((([] : List Int) ++ (nth out_2 [] k.toNat)) ++ [n_])]) A_ C_]) (by kernel_rfl) (by kernel_rfl) ?_
                    refine AtL.runR 1 [] [0, 1, 5, 6, 7, 8, 9] [true, true, true, true, true, true] ([(0, .slice a1 low.length c1), (1, .slice a2 high.length c2), (5, .slice a_out3 out_2.length c_out4), (6, .int .i64 i), (7, .slice a_58 ((next36 ++ [((([] : List Int) ++ (nth out_2 [] k.toNat)) ++ [n_])]).length) c_59), (8, .int .i64 k), (9, .int .i64 n_)]) [] [] (fun _ => by as_aux_lemma => kernel_rfl) trivial ?_
                    refine AtL.nil (by kernel_rfl) ?_
                    refine Ends.block_normal ?_
                    refine Ends.seq ?_
                    refine At.runR [] [0, 1, 5, 6, 7, 8, 9] [true, true, true, true, true, true] (.normal) ([(0, .slice a1 low.length c1), (1, .slice a2 high.length c2), (5, .slice a_out3 out_2.length c_out4), (6, .int .i64 i), (7, .slice a_58 ((next36 ++ [((([] : List Int) ++ (nth out_2 [] k.toNat)) ++ [n_])]).length) c_59), (8, .int .i64 k), (9, .int .i64 (IntKind.i64.wrap (n_ + (1 : Int))))]) [] [] (fun _ => by as_aux_lemma => kernel_rfl) trivial ?_
                    exact Ends.round fuel41 ((next36 ++ [((([] : List Int) ++ (nth out_2 [] k.toNat)) ++ [n_])]), a_58, c_59, A_, C_, (IntKind.i64.wrap (n_ + (1 : Int)))) (Nat.lt_succ_self _) h (by kernel_rfl) (by kernel_rfl)
                  · have h := br_f h hc47
                    refine At.runR [] [0, 1, 5, 6, 7, 8] [true, true, true, true, true, true] (.exit 4) ([(0, .slice a1 low.length c1), (1, .slice a2 high.length c2), (5, .slice a_out3 out_2.length c_out4), (6, .int .i64 i), (7, .slice a_next37 next36.length c_next38), (8, .int .i64 k)]) [] [] (fun _ => by as_aux_lemma => kernel_rfl) trivial ?_
                    refine Ends.then_exit ?_
                    refine Ends.then_exit ?_
                    refine Ends.block_hit ?_
                    refine Ends.block_normal ?_
                    exact Ends.mid (next36, a_next37, c_next38, A_next39, C_next40) (Option.some.inj h).symm (by kernel_rfl) (by kernel_rfl)
              · obtain ⟨next22, a_next23, c_next24, A_next25, C_next26⟩ := s
                replace hI : o21 = next22 := hI
                have h := hr21
                try rw [hI] at h
                refine At.runR [] [0, 1, 5, 6, 7, 8] [true, true, true, true, true, true] (.normal) ([(0, .slice a1 low.length c1), (1, .slice a2 high.length c2), (5, .slice a_out3 out_2.length c_out4), (6, .int .i64 i), (7, .slice a_next23 next22.length c_next24), (8, .int .i64 (IntKind.i64.wrap (k + (1 : Int))))]) [] [] (fun _ => by as_aux_lemma => kernel_rfl) trivial ?_
                exact Ends.round fuel15 (next22, a_next23, c_next24, A_next25, C_next26, (IntKind.i64.wrap (k + (1 : Int)))) (Nat.lt_succ_self _) h (by kernel_rfl) (by kernel_rfl)
            · have h := br_f h hc16
              refine At.runR [] [0, 1, 6, 7] [true, true, true, true, true, true] (.exit 2) ([(0, .slice a1 low.length c1), (1, .slice a2 high.length c2), (6, .int .i64 i), (7, .slice a_next11 next10.length c_next12)]) [] [] (fun _ => by as_aux_lemma => kernel_rfl) trivial ?_
              refine Ends.then_exit ?_
              refine Ends.then_exit ?_
              refine Ends.block_hit ?_
              refine Ends.sel [0, 1, 6, 7] [0, 1, 4, 5] ([(0, .slice a1 low.length c1), (1, .slice a2 high.length c2), (6, .int .i64 i), (7, .slice a_next11 next10.length c_next12)]) ([.sl a2 1 high.length (fun i_ => intCells (nth high 0 i_)), .sl a1 1 low.length (fun i_ => intCells (nth low 0 i_)), hdE 29 next10 A_next13 C_next14 a_next11 c_next12, rwE w.heap.size intCells 0 next10 A_next13 C_next14]) (by kernel_rfl) (by kernel_rfl) (by kernel_rfl) ?_
              exact Ends.mid (next10, a_next11, c_next12, A_next13, C_next14) (Option.some.inj h).symm (by kernel_rfl) (by kernel_rfl)
        · obtain ⟨next, a_next, c_next, A_next, C_next⟩ := s
          replace hI : o9 = next := hI
          have h := hr9
          try rw [hI] at h
          refine At.runR [] [0, 1, 5, 6] [true, true, true, true] (.normal) ([(0, .slice a1 low.length c1), (1, .slice a2 high.length c2), (5, .slice a_next next.length c_next), (6, .int .i64 i)]) [] [] (fun _ => by as_aux_lemma => kernel_rfl) trivial ?_
          refine Ends.block_normal ?_
          refine Ends.seq ?_
          refine At.runR [] [0, 1, 5, 6] [true, true, true, true] (.normal) ([(0, .slice a1 low.length c1), (1, .slice a2 high.length c2), (5, .slice a_next next.length c_next), (6, .int .i64 (IntKind.i64.wrap (i + (1 : Int))))]) [] [] (fun _ => by as_aux_lemma => kernel_rfl) trivial ?_
          exact Ends.round fuel7 (next, a_next, c_next, A_next, C_next, (IntKind.i64.wrap (i + (1 : Int)))) (Nat.lt_succ_self _) h (by kernel_rfl) (by kernel_rfl)
      · have h := br_f h hc8
        refine At.runR [] [5] [true, true, true, true] (.exit 0) ([(5, .slice a_out3 out_2.length c_out4)]) [] [] (fun _ => by as_aux_lemma => kernel_rfl) trivial ?_
        refine Ends.then_exit ?_
        refine Ends.then_exit ?_
        refine Ends.block_hit ?_
        refine Ends.sel [5] [2, 3] ([(5, .slice a_out3 out_2.length c_out4)]) ([hdE 29 out_2 A_out5 C_out6 a_out3 c_out4, rwE w.heap.size intCells 0 out_2 A_out5 C_out6]) (by kernel_rfl) (by kernel_rfl) (by kernel_rfl) ?_
        exact Ends.mid (out_2, a_out3, c_out4, A_out5, C_out6) (Option.some.inj h).symm (by kernel_rfl) (by kernel_rfl)
  · obtain ⟨out_, a_out, c_out, A_out, C_out⟩ := s
    replace hI : o1 = out_ := hI
    have h := hr1
    try rw [hI] at h
    refine At.runR [] [4] [true, true] (.ret) ([(4, .slice a_out out_.length c_out)]) [] [] (fun _ => by as_aux_lemma => kernel_rfl) trivial ?_
    refine Ends.body [] (.slice a_out out_.length c_out) [] (by kernel_rfl) (fun w9 hRep => ?_)
    obtain rfl := Option.some.inj h
    exact ⟨a_out, c_out, A_out, C_out, rfl, hRep.sel (r := [0, 1]) (by kernel_rfl) (by kernel_rfl)⟩
def rBest_l39 (F : Nat) (p : Recipe) (r_3 : (List (List Int))) (t11 : Int) : Nat → Int → Int → Option (Int)
  | 0, _, _ => none
  | fuel39 + 1, t1238, t13 => bif inB t11 r_3.length then (bif decide (t13 < ((nth r_3 [] t11.toNat).length : Int)) then (bif inB t13 ((nth r_3 [] t11.toNat).length) then (bif inB t13 p.lots.length then (rBest_l39 F p r_3 t11 fuel39 (IntKind.i64.wrap (t1238 + (IntKind.i64.wrap ((nth (nth r_3 [] t11.toNat) 0 t13.toNat) * ((nth p.lots Lot.zero t13.toNat).cost))))) (IntKind.i64.wrap (t13 + (1 : Int)))) else none) else none) else (some t1238)) else none
def rBest_l12 (F : Nat) (p : Recipe) (r_3 : (List (List Int))) : Nat → (List Int) → Int → Bool → Int → Option ((List Int) × Int × Bool)
  | 0, _, _, _, _ => none
  | fuel12 + 1, t87, t910, t1011, t11 => bif decide (t11 < (r_3.length : Int)) then ((((rBest_l39 F p r_3 t11 F (0 : Int) (0 : Int))).bind (fun z26 => ((bif inB t11 r_3.length then (bif decide ((nth r_3 [] t11.toNat).length ≤ p.lots.length) then (bif (fitsR p (⟨(weighM p.lots (nth r_3 [] t11.toNat)).mass, (⟨(((weighM p.lots (nth r_3 [] t11.toNat)).con).a), (((weighM p.lots (nth r_3 [] t11.toNat)).con).b), (((weighM p.lots (nth r_3 [] t11.toNat)).con).c)⟩ : Bnds)⟩ : Pile)) == ((-1) : Int) then (bif !t1011 then (some true) else (some (decide (z26 < t910)))) else (some false)) else none) else none)).bind (fun z27 => bif z27 then (bif inB t11 r_3.length then (some ((nth r_3 [] t11.toNat), z26, true)) else none) else (some (t87, t910, t1011))))).bind (fun z16 => rBest_l12 F p r_3 fuel12 z16.1 z16.2.1 z16.2.2 (IntKind.i64.wrap (t11 + (1 : Int))))) else (some (t87, t910, t1011))
def rBest_S (F : Nat) (p : Recipe) : Option ((List Int) × Int × Bool) := (rWhole_S F p).bind (fun r_ => (rBox_S F r_.1 r_.2).bind (fun r_3 => ((rBest_l12 F p r_3 F ([] : List Int) (0 : Int) false (0 : Int))).bind (fun z6 => some (z6.1, z6.2.1, z6.2.2))))
set_option maxRecDepth 100000 in
set_option maxHeartbeats 4000000 in
theorem rBest_w (F : Nat) (p : Recipe) (a1 : Option Addr) (c1 : Nat) (w : World) (hs1 : Sl 9 Lot.cells w a1 c1 p.lots) (v : (List Int) × Int × Bool) (h : rBest_S F p = some v) :
    Calls Try.prog 26 #[.agg #[.slice a1 p.lots.length c1, .int .i64 p.mass.lo, .int .i64 p.mass.hi, .int .i64 p.target.a.lo, .int .i64 p.target.a.hi, .int .i64 p.target.b.lo, .int .i64 p.target.b.hi, .int .i64 p.target.c.lo, .int .i64 p.target.c.hi]] w (fun e w' => ∃ xa0 xc0, e = .returned (.tuple #[.slice xa0 v.1.length xc0, .int .i64 v.2.1, .bool v.2.2]) ∧ Rep [] w [roE w.heap.size intCells 0 xa0 xc0 v.1] w') := by
  rw [rBest_S] at h
  refine At.enter Try.func26 rfl 81 [(0, .agg #[.slice a1 p.lots.length c1, .int .i64 p.mass.lo, .int .i64 p.mass.hi, .int .i64 p.target.a.lo, .int .i64 p.target.a.hi, .int .i64 p.target.b.lo, .int .i64 p.target.b.hi, .int .i64 p.target.c.lo, .int .i64 p.target.c.hi])] ([.sl a1 9 p.lots.length (fun i_ => Lot.cells (nth p.lots Lot.zero i_))]) [] (by kernel_rfl) ⟨rfl, trivial⟩ (Rep.sub (Rep.sl (Rep.start w) Lot.zero hs1 (by simp [Ent.mut])) (by simp)) ?_
  refine At.seq ?_
  refine At.run [] [1] [true, true] (.normal) (fun B3 => [(1, .pointer (some ⟨B3, 0, none⟩))]) (fun B3 => [.sl a1 9 p.lots.length (fun i_ => Lot.cells (nth p.lots Lot.zero i_)), .blk B3 [.slice a1 p.lots.length c1, .int .i64 p.mass.lo, .int .i64 p.mass.hi, .int .i64 p.target.a.lo, .int .i64 p.target.a.hi, .int .i64 p.target.b.lo, .int .i64 p.target.b.hi, .int .i64 p.target.c.lo, .int .i64 p.target.c.hi] 28]) (fun B3 => []) (fun B3 => []) (fun B3 => by as_aux_lemma => kernel_rfl) (fun B3 => trivial) (fun B3 => ?_)
  refine Ends.seq ?_
  refine At.seq ?_
  refine At.region ?_
  refine AtL.runR 1 [(1, 0, 0), (1, 1, 0), (1, 2, 0), (1, 3, 0), (1, 4, 0), (1, 5, 0), (1, 6, 0), (1, 7, 0), (1, 8, 0)] [1, 15] [true, true] ([(1, .pointer (some ⟨B3, 0, none⟩)), (15, .agg #[.slice a1 p.lots.length c1, .int .i64 p.mass.lo, .int .i64 p.mass.hi, .int .i64 p.target.a.lo, .int .i64 p.target.a.hi, .int .i64 p.target.b.lo, .int .i64 p.target.b.hi, .int .i64 p.target.c.lo, .int .i64 p.target.c.hi])]) [B3, 0, B3, 1, B3, 2, B3, 3, B3, 4, B3, 5, B3, 6, B3, 7, B3, 8] [] (fun _ => by as_aux_lemma => kernel_rfl) trivial ?_
  obtain ⟨r_, hs49, h⟩ := bd h
  refine AtL.call 71 #[.agg #[.slice a1 p.lots.length c1, .int .i64 p.mass.lo, .int .i64 p.mass.hi, .int .i64 p.target.a.lo, .int .i64 p.target.a.hi, .int .i64 p.target.b.lo, .int .i64 p.target.b.hi, .int .i64 p.target.c.lo, .int .i64 p.target.c.hi]] (some 16) (by kernel_rfl) _ (fun w8 hRep => rWhole_w F p a1 c1 w8 (hRep.toSl 0 rfl hs1.le hs1.big) _ hs49) ?_
  rintro w8 e w9 hRep ⟨a_, c_, a_1, c_2, rfl, hE⟩
  refine ⟨_, _, _, rfl, rfl, hRep.join hE (by simp [Ent.fresh]), ?_⟩
  refine AtL.runR 5 [] [1, 5, 6] [true, true, true, true] ([(1, .pointer (some ⟨B3, 0, none⟩)), (5, .slice a_ r_.1.length c_), (6, .slice a_1 r_.2.length c_2)]) [] [] (fun _ => by as_aux_lemma => kernel_rfl) trivial ?_
  refine AtL.nil (by kernel_rfl) ?_
  refine Ends.seq ?_
  refine At.seq ?_
  refine At.region ?_
  refine AtL.runR 2 [] [1, 19, 20] [true, true, true, true] ([(1, .pointer (some ⟨B3, 0, none⟩)), (19, .slice a_ r_.1.length c_), (20, .slice a_1 r_.2.length c_2)]) [] [] (fun _ => by as_aux_lemma => kernel_rfl) trivial ?_
  obtain ⟨r_3, hs48, h⟩ := bd h
  refine AtL.call 72 #[.slice a_ r_.1.length c_, .slice a_1 r_.2.length c_2] (some 21) (by kernel_rfl) _ (fun w8 hRep => rBox_w F r_.1 r_.2 a_ c_ a_1 c_2 w8 (hRep.owSl 2 rfl xlen3) (hRep.owSl 3 rfl xlen3) _ hs48) ?_
  rintro w8 e w9 hRep ⟨a_4, c_5, A_, C_, rfl, hE⟩
  refine ⟨_, _, _, rfl, rfl, hRep.join hE (by simp [Ent.fresh]), ?_⟩
  refine AtL.runR 1 [] [1, 7] [true, true, true, true, true, true] ([(1, .pointer (some ⟨B3, 0, none⟩)), (7, .slice a_4 r_3.length c_5)]) [] [] (fun _ => by as_aux_lemma => kernel_rfl) trivial ?_
  refine AtL.nil (by kernel_rfl) ?_
  refine Ends.seq ?_
  refine At.seq ?_
  refine At.run [] [1, 7, 8, 9, 10] [true, true, false, false, true, true, true] (.normal) (fun B16 => [(1, .pointer (some ⟨B3, 0, none⟩)), (7, .slice a_4 r_3.length c_5), (8, .slice (some ⟨B16, 0, none⟩) 0 0), (9, .int .i64 0), (10, .bool false)]) (fun B16 => [.sl a1 9 p.lots.length (fun i_ => Lot.cells (nth p.lots Lot.zero i_)), .blk B3 [.slice a1 p.lots.length c1, .int .i64 p.mass.lo, .int .i64 p.mass.hi, .int .i64 p.target.a.lo, .int .i64 p.target.a.hi, .int .i64 p.target.b.lo, .int .i64 p.target.b.hi, .int .i64 p.target.c.lo, .int .i64 p.target.c.hi] 28, hdE 29 r_3 A_ C_ a_4 c_5, rwE w.heap.size intCells 0 r_3 A_ C_, .blk B16 [] 3]) (fun B16 => []) (fun B16 => []) (fun B16 => by as_aux_lemma => kernel_rfl) (fun B16 => trivial) (fun B16 => ?_)
  refine Ends.seq ?_
  obtain ⟨o6, h, hr6⟩ := bd h
  refine At.seq_mid (σ := (List Int) × (Option Addr) × Nat × Int × Bool) (fun s => o6 = (s.1, s.2.2.2.1, s.2.2.2.2)) (fun s => [(8, .slice s.2.1 s.1.length s.2.2.1), (9, .int .i64 s.2.2.2.1), (10, .bool s.2.2.2.2)]) (fun s => [roE w.heap.size intCells 0 s.2.1 s.2.2.1 s.1]) ?_ (fun s hI => ?_)
  · refine At.seq ?_
    refine At.runR [] [1, 7, 8, 9, 10, 11] [true, true, true, true, true] (.normal) ([(1, .pointer (some ⟨B3, 0, none⟩)), (7, .slice a_4 r_3.length c_5), (8, .slice (some ⟨B16, 0, none⟩) 0 0), (9, .int .i64 0), (10, .bool false), (11, .int .i64 0)]) [] [] (fun _ => by as_aux_lemma => kernel_rfl) trivial ?_
    refine Ends.seq ?_
    refine At.block ?_
    refine At.addRow 4 B16 3 [] (by kernel_rfl) intCells 0 1 ([] : List Int) xlen3 (by kernel_rfl) (by decide) (by simp) ?_
    refine At.to (To.owRo 4 (enc := intCells) (d := 0) (a := (some ⟨B16, 0, none⟩)) (c := (([] : List Int).length)) (T := 3) (xs := ([] : List Int)) (by kernel_rfl) xlen3 (w.heap.size) (Nat.le_refl _)) ?_
    refine At.loop (σ := (List Int) × (Option Addr) × Nat × Int × Bool × Int) (fun n s => rBest_l12 F p r_3 n s.1 s.2.2.2.1 s.2.2.2.2.1 s.2.2.2.2.2 = some o6) (fun s => [(1, .pointer (some ⟨B3, 0, none⟩)), (7, .slice a_4 r_3.length c_5), (8, .slice s.2.1 s.1.length s.2.2.1), (9, .int .i64 s.2.2.2.1), (10, .bool s.2.2.2.2.1), (11, .int .i64 s.2.2.2.2.2)]) (fun s => [.sl a1 9 p.lots.length (fun i_ => Lot.cells (nth p.lots Lot.zero i_)), .blk B3 [.slice a1 p.lots.length c1, .int .i64 p.mass.lo, .int .i64 p.mass.hi, .int .i64 p.target.a.lo, .int .i64 p.target.a.hi, .int .i64 p.target.b.lo, .int .i64 p.target.b.hi, .int .i64 p.target.c.lo, .int .i64 p.target.c.hi] 28, hdE 29 r_3 A_ C_ a_4 c_5, rwE w.heap.size intCells 0 r_3 A_ C_, roE w.heap.size intCells 0 s.2.1 s.2.2.1 s.1]) F (([] : List Int), (some ⟨B16, 0, none⟩), ([] : List Int).length, (0 : Int), false, (0 : Int)) h (by kernel_rfl) (by kernel_rfl) (fun n s hI => ?_)
    obtain ⟨t87, a_t88, c_t89, t910, t1011, t11⟩ := s
    replace hI : rBest_l12 F p r_3 n t87 t910 t1011 t11 = some o6 := hI
    rcases n with _ | fuel12
    · cases hI
    · rw [rBest_l12] at hI
      have h := hI
      clear hI
      refine At.seq ?_
      refine At.seq ?_
      refine At.runR [] [1, 7, 8, 9, 10, 11, 26] [true, true, true, true, true] (.normal) ([(1, .pointer (some ⟨B3, 0, none⟩)), (7, .slice a_4 r_3.length c_5), (8, .slice a_t88 t87.length c_t89), (9, .int .i64 t910), (10, .bool t1011), (11, .int .i64 t11), (26, .bool (decide (t11 < (r_3.length : Int))))]) [] [] (fun _ => by as_aux_lemma => kernel_rfl) trivial ?_
      refine Ends.seq ?_
      refine At.cond (decide (t11 < (r_3.length : Int))) (by kernel_rfl) (fun hc13 => ?_) (fun hc13 => ?_)
      · have h := br_t h hc13
        refine At.runR [] [1, 7, 8, 9, 10, 11] [true, true, true, true, true] (.normal) ([(1, .pointer (some ⟨B3, 0, none⟩)), (7, .slice a_4 r_3.length c_5), (8, .slice a_t88 t87.length c_t89), (9, .int .i64 t910), (10, .bool t1011), (11, .int .i64 t11)]) [] [] (fun _ => by as_aux_lemma => kernel_rfl) trivial ?_
        refine Ends.seq ?_
        obtain ⟨o16, h, hr16⟩ := bd h
        refine At.seq_mid (σ := (List Int) × (Option Addr) × Nat × Int × Bool) (fun s => o16 = (s.1, s.2.2.2.1, s.2.2.2.2)) (fun s => [(1, .pointer (some ⟨B3, 0, none⟩)), (7, .slice a_4 r_3.length c_5), (8, .slice s.2.1 s.1.length s.2.2.1), (9, .int .i64 s.2.2.2.1), (10, .bool s.2.2.2.2), (11, .int .i64 t11)]) (fun s => [.sl a1 9 p.lots.length (fun i_ => Lot.cells (nth p.lots Lot.zero i_)), .blk B3 [.slice a1 p.lots.length c1, .int .i64 p.mass.lo, .int .i64 p.mass.hi, .int .i64 p.target.a.lo, .int .i64 p.target.a.hi, .int .i64 p.target.b.lo, .int .i64 p.target.b.hi, .int .i64 p.target.c.lo, .int .i64 p.target.c.hi] 28, hdE 29 r_3 A_ C_ a_4 c_5, rwE w.heap.size intCells 0 r_3 A_ C_, roE w.heap.size intCells 0 s.2.1 s.2.2.1 s.1]) ?_ (fun s hI => ?_)
        · refine At.block ?_
          refine At.seq ?_
          refine At.runR [] [1, 7, 8, 9, 10, 11, 12] [true, true, true, true, true] (.normal) ([(1, .pointer (some ⟨B3, 0, none⟩)), (7, .slice a_4 r_3.length c_5), (8, .slice a_t88 t87.length c_t89), (9, .int .i64 t910), (10, .bool t1011), (11, .int .i64 t11), (12, .int .i64 0)]) [] [] (fun _ => by as_aux_lemma => kernel_rfl) trivial ?_
          refine Ends.seq ?_
          obtain ⟨o26, h, hr26⟩ := bd h
          refine At.seq_mid (σ := Int) (fun s => o26 = s) (fun s => [(1, .pointer (some ⟨B3, 0, none⟩)), (7, .slice a_4 r_3.length c_5), (8, .slice a_t88 t87.length c_t89), (9, .int .i64 t910), (10, .bool t1011), (11, .int .i64 t11), (12, .int .i64 s)]) (fun s => [.sl a1 9 p.lots.length (fun i_ => Lot.cells (nth p.lots Lot.zero i_)), .blk B3 [.slice a1 p.lots.length c1, .int .i64 p.mass.lo, .int .i64 p.mass.hi, .int .i64 p.target.a.lo, .int .i64 p.target.a.hi, .int .i64 p.target.b.lo, .int .i64 p.target.b.hi, .int .i64 p.target.c.lo, .int .i64 p.target.c.hi] 28, hdE 29 r_3 A_ C_ a_4 c_5, rwE w.heap.size intCells 0 r_3 A_ C_, roE w.heap.size intCells 0 a_t88 c_t89 t87]) ?_ (fun s hI => ?_)
          · refine At.seq ?_
            refine At.runR [] [1, 7, 8, 9, 10, 11, 12, 13] [true, true, true, true, true] (.normal) ([(1, .pointer (some ⟨B3, 0, none⟩)), (7, .slice a_4 r_3.length c_5), (8, .slice a_t88 t87.length c_t89), (9, .int .i64 t910), (10, .bool t1011), (11, .int .i64 t11), (12, .int .i64 0), (13, .int .i64 0)]) [] [] (fun _ => by as_aux_lemma => kernel_rfl) trivial ?_
            refine Ends.seq ?_
            refine At.block ?_
            refine At.loop (σ := Int × Int) (fun n s => rBest_l39 F p r_3 t11 n s.1 s.2 = some o26) (fun s => [(1, .pointer (some ⟨B3, 0, none⟩)), (7, .slice a_4 r_3.length c_5), (8, .slice a_t88 t87.length c_t89), (9, .int .i64 t910), (10, .bool t1011), (11, .int .i64 t11), (12, .int .i64 s.1), (13, .int .i64 s.2)]) (fun s => [.sl a1 9 p.lots.length (fun i_ => Lot.cells (nth p.lots Lot.zero i_)), .blk B3 [.slice a1 p.lots.length c1, .int .i64 p.mass.lo, .int .i64 p.mass.hi, .int .i64 p.target.a.lo, .int .i64 p.target.a.hi, .int .i64 p.target.b.lo, .int .i64 p.target.b.hi, .int .i64 p.target.c.lo, .int .i64 p.target.c.hi] 28, hdE 29 r_3 A_ C_ a_4 c_5, rwE w.heap.size intCells 0 r_3 A_ C_, roE w.heap.size intCells 0 a_t88 c_t89 t87]) F ((0 : Int), (0 : Int)) h (by kernel_rfl) (by kernel_rfl) (fun n s hI => ?_)
            obtain ⟨t1238, t13⟩ := s
            replace hI : rBest_l39 F p r_3 t11 n t1238 t13 = some o26 := hI
            rcases n with _ | fuel39
            · cases hI
            · rw [rBest_l39] at hI
              have h := hI
              clear hI
              refine At.seq ?_
              refine At.seq ?_
              obtain ⟨g44, h⟩ := gd h
              refine At.runR [(2, 0, 0), (2, 0, t11.toNat)] [1, 7, 8, 9, 10, 11, 12, 13, 35] [true, true, true, true, true] (.normal) ([(1, .pointer (some ⟨B3, 0, none⟩)), (7, .slice a_4 r_3.length c_5), (8, .slice a_t88 t87.length c_t89), (9, .int .i64 t910), (10, .bool t1011), (11, .int .i64 t11), (12, .int .i64 t1238), (13, .int .i64 t13), (35, .bool (decide (t13 < ((nth r_3 [] t11.toNat).length : Int))))]) [slB a_4, slO a_4 + t11.toNat * 1 + 0] [IdxOk a_4 a_4 r_3.length r_3.length t11, t11.toNat < r_3.length] (fun _ => by as_aux_lemma => kernel_rfl) ⟨inB_idx g44, inB_lt g44, trivial⟩ ?_
              refine Ends.seq ?_
              refine At.cond (decide (t13 < ((nth r_3 [] t11.toNat).length : Int))) (by kernel_rfl) (fun hc45 => ?_) (fun hc45 => ?_)
              · have h := br_t h hc45
                refine At.runR [] [1, 7, 8, 9, 10, 11, 12, 13] [true, true, true, true, true] (.normal) ([(1, .pointer (some ⟨B3, 0, none⟩)), (7, .slice a_4 r_3.length c_5), (8, .slice a_t88 t87.length c_t89), (9, .int .i64 t910), (10, .bool t1011), (11, .int .i64 t11), (12, .int .i64 t1238), (13, .int .i64 t13)]) [] [] (fun _ => by as_aux_lemma => kernel_rfl) trivial ?_
                refine Ends.seq ?_
                obtain ⟨g46, h⟩ := gd h
                obtain ⟨g47, h⟩ := gd h
                refine At.runR [(2, 0, 0), (2, 0, t11.toNat), (3, t11.toNat, 0), (3, t11.toNat, t13.toNat), (1, 0, 0), (0, 0, 0), (0, 8, t13.toNat)] [1, 7, 8, 9, 10, 11, 12, 13] [true, true, true, true, true] (.normal) ([(1, .pointer (some ⟨B3, 0, none⟩)), (7, .slice a_4 r_3.length c_5), (8, .slice a_t88 t87.length c_t89), (9, .int .i64 t910), (10, .bool t1011), (11, .int .i64 t11), (12, .int .i64 (IntKind.i64.wrap (t1238 + (IntKind.i64.wrap ((nth (nth r_3 [] t11.toNat) 0 t13.toNat) * ((nth p.lots Lot.zero t13.toNat).cost)))))), (13, .int .i64 (IntKind.i64.wrap (t13 + (1 : Int))))]) [slB a_4, slO a_4 + t11.toNat * 1 + 0, slB (A_ t11.toNat), slO (A_ t11.toNat) + t13.toNat * 1 + 0, B3, 0, slB a1, slO a1 + t13.toNat * 9 + 8] [IdxOk a_4 a_4 r_3.length r_3.length t11, t11.toNat < r_3.length, IdxOk (A_ t11.toNat) (A_ t11.toNat) ((nth r_3 [] t11.toNat).length) ((nth r_3 [] t11.toNat).length) t13, t11.toNat < r_3.length, t11.toNat < r_3.length, t13.toNat < (nth r_3 [] t11.toNat).length, IdxOk a1 a1 p.lots.length p.lots.length t13, t13.toNat < p.lots.length] (fun _ => by as_aux_lemma => kernel_rfl) ⟨inB_idx g44, inB_lt g44, inB_idx g46, inB_lt g44, inB_lt g44, inB_lt g46, inB_idx g47, inB_lt g47, trivial⟩ ?_
                exact Ends.round fuel39 ((IntKind.i64.wrap (t1238 + (IntKind.i64.wrap ((nth (nth r_3 [] t11.toNat) 0 t13.toNat) * ((nth p.lots Lot.zero t13.toNat).cost))))), (IntKind.i64.wrap (t13 + (1 : Int)))) (Nat.lt_succ_self _) h (by kernel_rfl) (by kernel_rfl)
              · have h := br_f h hc45
                refine At.runR [] [1, 7, 8, 9, 10, 11, 12] [true, true, true, true, true] (.exit 2) ([(1, .pointer (some ⟨B3, 0, none⟩)), (7, .slice a_4 r_3.length c_5), (8, .slice a_t88 t87.length c_t89), (9, .int .i64 t910), (10, .bool t1011), (11, .int .i64 t11), (12, .int .i64 t1238)]) [] [] (fun _ => by as_aux_lemma => kernel_rfl) trivial ?_
                refine Ends.then_exit ?_
                refine Ends.then_exit ?_
                refine Ends.block_hit ?_
                exact Ends.mid t1238 (Option.some.inj h).symm (by kernel_rfl) (by kernel_rfl)
          · revert hI; revert s; intro t12 hI
            replace hI : o26 = t12 := hI
            have h := hr26
            try rw [hI] at h
            obtain ⟨o27, h, hr27⟩ := bd h
            refine At.seq_mid (σ := Bool) (fun s => o27 = s) (fun s => [(1, .pointer (some ⟨B3, 0, none⟩)), (7, .slice a_4 r_3.length c_5), (8, .slice a_t88 t87.length c_t89), (9, .int .i64 t910), (10, .bool t1011), (11, .int .i64 t11), (12, .int .i64 t12), (72, .bool s)]) (fun s => [.sl a1 9 p.lots.length (fun i_ => Lot.cells (nth p.lots Lot.zero i_)), .blk B3 [.slice a1 p.lots.length c1, .int .i64 p.mass.lo, .int .i64 p.mass.hi, .int .i64 p.target.a.lo, .int .i64 p.target.a.hi, .int .i64 p.target.b.lo, .int .i64 p.target.b.hi, .int .i64 p.target.c.lo, .int .i64 p.target.c.hi] 28, hdE 29 r_3 A_ C_ a_4 c_5, rwE w.heap.size intCells 0 r_3 A_ C_, roE w.heap.size intCells 0 a_t88 c_t89 t87]) ?_ (fun s hI => ?_)
            · refine At.plan ([.sl a1 9 p.lots.length (fun i_ => Lot.cells (nth p.lots Lot.zero i_)), .blk B3 [.slice a1 p.lots.length c1, .int .i64 p.mass.lo, .int .i64 p.mass.hi, .int .i64 p.target.a.lo, .int .i64 p.target.a.hi, .int .i64 p.target.b.lo, .int .i64 p.target.b.hi, .int .i64 p.target.c.lo, .int .i64 p.target.c.hi] 28, hdE 29 r_3 A_ C_ a_4 c_5, rwE w.heap.size intCells 0 r_3 A_ C_, roE w.heap.size intCells 0 a_t88 c_t89 t87]) [0, 1, 2, 3, 4] (by kernel_rfl) (by kernel_rfl) [.st [1, 3, 4, 5], .st [0, 2, 6], .mv 7, .mv 8, .pu [9, 10, 11, 12, 13, 14, 15, 16, 17, 18]] (by kernel_rfl) (by kernel_rfl) ?_
              refine AtP.st ?_
              obtain ⟨g30, h⟩ := gd h
              refine AtY.run 4 [(2, 0, 0)] [1, 7, 8, 9, 10, 11, 12, 55, 59] ([(1, .pointer (some ⟨B3, 0, none⟩)), (7, .slice a_4 r_3.length c_5), (8, .slice a_t88 t87.length c_t89), (9, .int .i64 t910), (10, .bool t1011), (11, .int .i64 t11), (12, .int .i64 t12), (55, .pointer (some ⟨B3, 0, none⟩)), (59, .pointer (some ⟨slB a_4, slO a_4 + t11.toNat * 1, none⟩))]) [] [IdxOk a_4 a_4 r_3.length r_3.length t11] (by as_aux_lemma => kernel_rfl) ⟨inB_idx g30, trivial⟩ ?_
              refine AtY.nil (by kernel_rfl) ?_
              refine AtP.st ?_
              refine AtY.run 3 [(1, 0, 0), (1, 1, 0), (1, 2, 0), (1, 3, 0), (1, 4, 0), (1, 5, 0), (1, 6, 0), (1, 7, 0), (1, 8, 0), (1, 0, 0), (2, 0, t11.toNat)] [1, 7, 8, 9, 10, 11, 12, 54, 56, 60] ([(1, .pointer (some ⟨B3, 0, none⟩)), (7, .slice a_4 r_3.length c_5), (8, .slice a_t88 t87.length c_t89), (9, .int .i64 t910), (10, .bool t1011), (11, .int .i64 t11), (12, .int .i64 t12), (54, .agg #[.slice a1 p.lots.length c1, .int .i64 p.mass.lo, .int .i64 p.mass.hi, .int .i64 p.target.a.lo, .int .i64 p.target.a.hi, .int .i64 p.target.b.lo, .int .i64 p.target.b.hi, .int .i64 p.target.c.lo, .int .i64 p.target.c.hi]), (56, .slice a1 p.lots.length c1), (60, .slice (A_ t11.toNat) ((nth r_3 [] t11.toNat).length) (C_ t11.toNat))]) [B3, 0, B3, 1, B3, 2, B3, 3, B3, 4, B3, 5, B3, 6, B3, 7, B3, 8, B3, 0, slB a_4, slO a_4 + t11.toNat * 1 + 0] [t11.toNat < r_3.length] (by as_aux_lemma => kernel_rfl) ⟨inB_lt g30, trivial⟩ ?_
              refine AtY.nil (by kernel_rfl) ?_
              refine AtP.mv ?_
              obtain ⟨g31, h⟩ := gd h
              refine AtL.call 21 #[.slice a1 p.lots.length c1, .slice (A_ t11.toNat) ((nth r_3 [] t11.toNat).length) (C_ t11.toNat)] (some 61) (by kernel_rfl) _ (fun w8 hRep => refWeigh_c p.lots (nth r_3 [] t11.toNat) a1 (A_ t11.toNat) c1 (C_ t11.toNat) w8 (hRep.toSl 0 rfl hs1.le hs1.big) (hRep.rowsSl (enc := intCells) (d := 0) (lo := w.heap.size) (x := r_3) (A := A_) (C := C_) 3 rfl t11.toNat (inB_lt g30)) (of_decide_eq_true g31)) ?_
              rintro w8 e w9 hRep ⟨rfl, hE⟩
              refine ⟨_, _, _, rfl, rfl, hRep.ext' hE, ?_⟩
              refine AtL.nil (by kernel_rfl) ?_
              refine Ends.mv [0, 1, 2, 3, 4] (by kernel_rfl) (by kernel_rfl) ?_
              refine AtP.mv ?_
              refine AtL.call 22 #[.agg #[.slice a1 p.lots.length c1, .int .i64 p.mass.lo, .int .i64 p.mass.hi, .int .i64 p.target.a.lo, .int .i64 p.target.a.hi, .int .i64 p.target.b.lo, .int .i64 p.target.b.hi, .int .i64 p.target.c.lo, .int .i64 p.target.c.hi], .agg #[.int .i64 ((weighM p.lots (nth r_3 [] t11.toNat)).mass), .int .i64 ((((weighM p.lots (nth r_3 [] t11.toNat)).con).a).lo), .int .i64 ((((weighM p.lots (nth r_3 [] t11.toNat)).con).a).hi), .int .i64 ((((weighM p.lots (nth r_3 [] t11.toNat)).con).b).lo), .int .i64 ((((weighM p.lots (nth r_3 [] t11.toNat)).con).b).hi), .int .i64 ((((weighM p.lots (nth r_3 [] t11.toNat)).con).c).lo), .int .i64 ((((weighM p.lots (nth r_3 [] t11.toNat)).con).c).hi)]] (some 62) (by kernel_rfl) _ (fun w8 hRep => refFits_c p (⟨(weighM p.lots (nth r_3 [] t11.toNat)).mass, (⟨(((weighM p.lots (nth r_3 [] t11.toNat)).con).a), (((weighM p.lots (nth r_3 [] t11.toNat)).con).b), (((weighM p.lots (nth r_3 [] t11.toNat)).con).c)⟩ : Bnds)⟩ : Pile) a1 c1 w8) ?_
              rintro w8 e w9 hRep ⟨rfl, hE⟩
              refine ⟨_, _, _, rfl, rfl, hRep.ext' hE, ?_⟩
              refine AtL.nil (by kernel_rfl) ?_
              refine Ends.mv [0, 1, 2, 3, 4] (by kernel_rfl) (by kernel_rfl) ?_
              refine AtP.pu ?_
              refine AtY.runp 2 [1, 7, 8, 9, 10, 11, 12, 64] ([(1, .pointer (some ⟨B3, 0, none⟩)), (7, .slice a_4 r_3.length c_5), (8, .slice a_t88 t87.length c_t89), (9, .int .i64 t910), (10, .bool t1011), (11, .int .i64 t11), (12, .int .i64 t12), (64, .bool ((fitsR p (⟨(weighM p.lots (nth r_3 [] t11.toNat)).mass, (⟨(((weighM p.lots (nth r_3 [] t11.toNat)).con).a), (((weighM p.lots (nth r_3 [] t11.toNat)).con).b), (((weighM p.lots (nth r_3 [] t11.toNat)).con).c)⟩ : Bnds)⟩ : Pile)) == ((-1) : Int)))]) [] (by as_aux_lemma => kernel_rfl) trivial ?_
              refine AtY.bool 64 ((fitsR p (⟨(weighM p.lots (nth r_3 [] t11.toNat)).mass, (⟨(((weighM p.lots (nth r_3 [] t11.toNat)).con).a), (((weighM p.lots (nth r_3 [] t11.toNat)).con).b), (((weighM p.lots (nth r_3 [] t11.toNat)).con).c)⟩ : Bnds)⟩ : Pile)) == ((-1) : Int)) (by kernel_rfl) (fun hc32 => ?_) (fun hc32 => ?_)
              · have h := br_t h hc32
                refine AtY.runp 3 [1, 7, 8, 9, 10, 11, 12, 64, 67] ([(1, .pointer (some ⟨B3, 0, none⟩)), (7, .slice a_4 r_3.length c_5), (8, .slice a_t88 t87.length c_t89), (9, .int .i64 t910), (10, .bool t1011), (11, .int .i64 t11), (12, .int .i64 t12), (64, .bool true), (67, .bool (!t1011))]) [] (by as_aux_lemma => kernel_rfl) trivial ?_
                refine AtY.bool 67 (!t1011) (by kernel_rfl) (fun hc33 => ?_) (fun hc33 => ?_)
                · have h := br_t h hc33
                  refine AtY.runp 5 [1, 7, 8, 9, 10, 11, 12, 72] ([(1, .pointer (some ⟨B3, 0, none⟩)), (7, .slice a_4 r_3.length c_5), (8, .slice a_t88 t87.length c_t89), (9, .int .i64 t910), (10, .bool t1011), (11, .int .i64 t11), (12, .int .i64 t12), (72, .bool true)]) [] (by as_aux_lemma => kernel_rfl) trivial ?_
                  refine AtY.nil (by kernel_rfl) ?_
                  refine AtP.nil ?_
                  exact Ends.mid true (Option.some.inj h).symm (by kernel_rfl) (by kernel_rfl)
                · have h := br_f h hc33
                  refine AtY.runp 5 [1, 7, 8, 9, 10, 11, 12, 72] ([(1, .pointer (some ⟨B3, 0, none⟩)), (7, .slice a_4 r_3.length c_5), (8, .slice a_t88 t87.length c_t89), (9, .int .i64 t910), (10, .bool t1011), (11, .int .i64 t11), (12, .int .i64 t12), (72, .bool (decide (t12 < t910)))]) [] (by as_aux_lemma => kernel_rfl) trivial ?_
                  refine AtY.nil (by kernel_rfl) ?_
                  refine AtP.nil ?_
                  exact Ends.mid (decide (t12 < t910)) (Option.some.inj h).symm (by kernel_rfl) (by kernel_rfl)
              · have h := br_f h hc32
                refine AtY.runp 8 [1, 7, 8, 9, 10, 11, 12, 72] ([(1, .pointer (some ⟨B3, 0, none⟩)), (7, .slice a_4 r_3.length c_5), (8, .slice a_t88 t87.length c_t89), (9, .int .i64 t910), (10, .bool t1011), (11, .int .i64 t11), (12, .int .i64 t12), (72, .bool false)]) [] (by as_aux_lemma => kernel_rfl) trivial ?_
                refine AtY.nil (by kernel_rfl) ?_
                refine AtP.nil ?_
                exact Ends.mid false (Option.some.inj h).symm (by kernel_rfl) (by kernel_rfl)
            · revert hI; revert s; intro t72 hI
              replace hI : o27 = t72 := hI
              have h := hr27
              try rw [hI] at h
              refine At.cond (t72) (by kernel_rfl) (fun hc28 => ?_) (fun hc28 => ?_)
              · have h := br_t h hc28
                obtain ⟨g29, h⟩ := gd h
                refine At.runR [(2, 0, 0), (2, 0, t11.toNat)] [1, 7, 8, 9, 10, 11] [true, true, true, true, true] (.normal) ([(1, .pointer (some ⟨B3, 0, none⟩)), (7, .slice a_4 r_3.length c_5), (8, .slice (A_ t11.toNat) ((nth r_3 [] t11.toNat).length) (C_ t11.toNat)), (9, .int .i64 t12), (10, .bool true), (11, .int .i64 t11)]) [slB a_4, slO a_4 + t11.toNat * 1 + 0] [IdxOk a_4 a_4 r_3.length r_3.length t11, t11.toNat < r_3.length] (fun _ => by as_aux_lemma => kernel_rfl) ⟨inB_idx g29, inB_lt g29, trivial⟩ ?_
                refine Ends.block_normal ?_
                refine Ends.to (To.rowRo 3 (lo := w.heap.size) (enc := intCells) (d := 0) (x := r_3) (A := A_) (C := C_) (by kernel_rfl) t11.toNat (inB_lt g29) (w.heap.size) (Nat.le_refl _)) ?_
                refine Ends.sel [1, 7, 8, 9, 10, 11] [0, 1, 2, 3, 5] ([(1, .pointer (some ⟨B3, 0, none⟩)), (7, .slice a_4 r_3.length c_5), (8, .slice (A_ t11.toNat) ((nth r_3 [] t11.toNat).length) (C_ t11.toNat)), (9, .int .i64 t12), (10, .bool true), (11, .int .i64 t11)]) ([.sl a1 9 p.lots.length (fun i_ => Lot.cells (nth p.lots Lot.zero i_)), .blk B3 [.slice a1 p.lots.length c1, .int .i64 p.mass.lo, .int .i64 p.mass.hi, .int .i64 p.target.a.lo, .int .i64 p.target.a.hi, .int .i64 p.target.b.lo, .int .i64 p.target.b.hi, .int .i64 p.target.c.lo, .int .i64 p.target.c.hi] 28, hdE 29 r_3 A_ C_ a_4 c_5, rwE w.heap.size intCells 0 r_3 A_ C_, roE w.heap.size intCells 0 (A_ t11.toNat) (C_ t11.toNat) (nth r_3 [] t11.toNat)]) (by kernel_rfl) (by kernel_rfl) (by kernel_rfl) ?_
                exact Ends.mid ((nth r_3 [] t11.toNat), (A_ t11.toNat), (C_ t11.toNat), t12, true) (Option.some.inj h).symm (by kernel_rfl) (by kernel_rfl)
              · have h := br_f h hc28
                refine At.runR [] [1, 7, 8, 9, 10, 11] [true, true, true, true, true] (.normal) ([(1, .pointer (some ⟨B3, 0, none⟩)), (7, .slice a_4 r_3.length c_5), (8, .slice a_t88 t87.length c_t89), (9, .int .i64 t910), (10, .bool t1011), (11, .int .i64 t11)]) [] [] (fun _ => by as_aux_lemma => kernel_rfl) trivial ?_
                refine Ends.block_normal ?_
                exact Ends.mid (t87, a_t88, c_t89, t910, t1011) (Option.some.inj h).symm (by kernel_rfl) (by kernel_rfl)
        · obtain ⟨t817, a_t818, c_t819, t920, t1021⟩ := s
          replace hI : o16 = (t817, t920, t1021) := hI
          have h := hr16
          try rw [hI] at h
          refine At.runR [] [1, 7, 8, 9, 10, 11] [true, true, true, true, true] (.normal) ([(1, .pointer (some ⟨B3, 0, none⟩)), (7, .slice a_4 r_3.length c_5), (8, .slice a_t818 t817.length c_t819), (9, .int .i64 t920), (10, .bool t1021), (11, .int .i64 (IntKind.i64.wrap (t11 + (1 : Int))))]) [] [] (fun _ => by as_aux_lemma => kernel_rfl) trivial ?_
          exact Ends.round fuel12 (t817, a_t818, c_t819, t920, t1021, (IntKind.i64.wrap (t11 + (1 : Int)))) (Nat.lt_succ_self _) h (by kernel_rfl) (by kernel_rfl)
      · have h := br_f h hc13
        refine At.runR [] [8, 9, 10] [true, true, true, true, true] (.exit 0) ([(8, .slice a_t88 t87.length c_t89), (9, .int .i64 t910), (10, .bool t1011)]) [] [] (fun _ => by as_aux_lemma => kernel_rfl) trivial ?_
        refine Ends.then_exit ?_
        refine Ends.then_exit ?_
        refine Ends.block_hit ?_
        refine Ends.sel [8, 9, 10] [4] ([(8, .slice a_t88 t87.length c_t89), (9, .int .i64 t910), (10, .bool t1011)]) ([roE w.heap.size intCells 0 a_t88 c_t89 t87]) (by kernel_rfl) (by kernel_rfl) (by kernel_rfl) ?_
        exact Ends.mid (t87, a_t88, c_t89, t910, t1011) (Option.some.inj h).symm (by kernel_rfl) (by kernel_rfl)
  · obtain ⟨t8, a_t8, c_t8, t9, t10⟩ := s
    replace hI : o6 = (t8, t9, t10) := hI
    have h := hr6
    try rw [hI] at h
    refine At.runR [] [2, 3, 4] [true] (.ret) ([(2, .slice a_t8 t8.length c_t8), (3, .int .i64 t9), (4, .bool t10)]) [] [] (fun _ => by as_aux_lemma => kernel_rfl) trivial ?_
    refine Ends.body [] (.tuple #[.slice a_t8 t8.length c_t8, .int .i64 t9, .bool t10]) [] (by kernel_rfl) (fun w9 hRep => ?_)
    obtain rfl := Option.some.inj h
    exact ⟨a_t8, c_t8, rfl, hRep.sel (r := [0]) (by kernel_rfl) (by kernel_rfl)⟩
def lsame_l3 (F : Nat) (l : List Int) (m : List Int) : Nat → Int → Option (Sum (Bool) (Unit))
  | 0, _ => none
  | fuel3 + 1, i => bif decide (i < (l.length : Int)) then (bif inB i l.length then (bif inB i m.length then (bif (nth l 0 i.toNat) != (nth m 0 i.toNat) then (some (.inl false)) else (lsame_l3 F l m fuel3 (IntKind.i64.wrap (i + (1 : Int))))) else none) else none) else (some (.inr ()))
def lsame_S (F : Nat) (l : List Int) (m : List Int) : Option (Bool) := bif (l.length : Int) != (m.length : Int) then (some false) else (((lsame_l3 F l m F (0 : Int))).bind (onSum (fun r => some r) (fun _ => some true)))
set_option maxRecDepth 100000 in
set_option maxHeartbeats 4000000 in
theorem lsame_w (F : Nat) (l : List Int) (m : List Int) (a1 : Option Addr) (c1 : Nat) (a2 : Option Addr) (c2 : Nat) (w : World) (hs1 : Sl 1 intCells w a1 c1 l) (hs2 : Sl 1 intCells w a2 c2 m) (v : Bool) (h : lsame_S F l m = some v) :
    Calls Try.prog 19 #[.slice a1 l.length c1, .slice a2 m.length c2] w (Ret (.bool v) w) := by
  rw [lsame_S] at h
  refine At.enter Try.func19 rfl 26 [(0, .slice a1 l.length c1), (1, .slice a2 m.length c2)] ([.sl a2 1 m.length (fun i_ => intCells (nth m 0 i_)), .sl a1 1 l.length (fun i_ => intCells (nth l 0 i_))]) [] (by kernel_rfl) ⟨rfl, rfl, trivial⟩ (Rep.sub (Rep.sl (Rep.sl (Rep.start w) 0 hs1 (by simp [Ent.mut])) 0 hs2 (by simp [Ent.mut])) (by simp)) ?_
  refine At.seq ?_
  refine At.runR [] [0, 1] [true, true] (.normal) ([(0, .slice a1 l.length c1), (1, .slice a2 m.length c2)]) [] [] (fun _ => by as_aux_lemma => kernel_rfl) trivial ?_
  refine Ends.seq ?_
  refine At.seq ?_
  refine At.seq ?_
  refine At.runR [] [0, 1, 10] [true, true] (.normal) ([(0, .slice a1 l.length c1), (1, .slice a2 m.length c2), (10, .bool ((l.length : Int) != (m.length : Int)))]) [] [] (fun _ => by as_aux_lemma => kernel_rfl) trivial ?_
  refine Ends.seq ?_
  refine At.cond ((l.length : Int) != (m.length : Int)) (by kernel_rfl) (fun hc1 => ?_) (fun hc1 => ?_)
  · have h := br_t h hc1
    refine At.runR [] [4] [true, true] (.ret) ([(4, .bool false)]) [] [] (fun _ => by as_aux_lemma => kernel_rfl) trivial ?_
    refine Ends.then_ret ?_
    refine Ends.body [] (.bool false) [] (by kernel_rfl) (fun w9 hRep => ?_)
    obtain rfl := Option.some.inj h
    exact ⟨rfl, hRep.ext⟩
  · have h := br_f h hc1
    refine At.runR [] [0, 1] [true, true] (.normal) ([(0, .slice a1 l.length c1), (1, .slice a2 m.length c2)]) [] [] (fun _ => by as_aux_lemma => kernel_rfl) trivial ?_
    refine Ends.seq ?_
    obtain ⟨o2, h, hr2⟩ := bd h
    refine At.seq_mid (σ := Unit) (fun s => o2 = (.inr ())) (fun s => []) (fun s => []) ?_ (fun s hI => ?_)
    · refine At.seq ?_
      refine At.runR [] [0, 1, 5] [true, true] (.normal) ([(0, .slice a1 l.length c1), (1, .slice a2 m.length c2), (5, .int .i64 0)]) [] [] (fun _ => by as_aux_lemma => kernel_rfl) trivial ?_
      refine Ends.seq ?_
      refine At.block ?_
      refine At.loop (σ := Int) (fun n s => lsame_l3 F l m n s = some o2) (fun s => [(0, .slice a1 l.length c1), (1, .slice a2 m.length c2), (5, .int .i64 s)]) (fun s => [.sl a2 1 m.length (fun i_ => intCells (nth m 0 i_)), .sl a1 1 l.length (fun i_ => intCells (nth l 0 i_))]) F (0 : Int) h (by kernel_rfl) (by kernel_rfl) (fun n s hI => ?_)
      revert hI; revert s; intro i hI
      replace hI : lsame_l3 F l m n i = some o2 := hI
      rcases n with _ | fuel3
      · cases hI
      · rw [lsame_l3] at hI
        have h := hI
        clear hI
        refine At.seq ?_
        refine At.seq ?_
        refine At.runR [] [0, 1, 5, 14] [true, true] (.normal) ([(0, .slice a1 l.length c1), (1, .slice a2 m.length c2), (5, .int .i64 i), (14, .bool (decide (i < (l.length : Int))))]) [] [] (fun _ => by as_aux_lemma => kernel_rfl) trivial ?_
        refine Ends.seq ?_
        refine At.cond (decide (i < (l.length : Int))) (by kernel_rfl) (fun hc4 => ?_) (fun hc4 => ?_)
        · have h := br_t h hc4
          refine At.runR [] [0, 1, 5] [true, true] (.normal) ([(0, .slice a1 l.length c1), (1, .slice a2 m.length c2), (5, .int .i64 i)]) [] [] (fun _ => by as_aux_lemma => kernel_rfl) trivial ?_
          refine Ends.seq ?_
          refine At.seq ?_
          refine At.block ?_
          refine At.seq ?_
          obtain ⟨g15, h⟩ := gd h
          obtain ⟨g16, h⟩ := gd h
          refine At.runR [(1, 0, 0), (1, 0, i.toNat), (0, 0, 0), (0, 0, i.toNat)] [0, 1, 5, 25] [true, true] (.normal) ([(0, .slice a1 l.length c1), (1, .slice a2 m.length c2), (5, .int .i64 i), (25, .bool ((nth l 0 i.toNat) != (nth m 0 i.toNat)))]) [slB a1, slO a1 + i.toNat * 1 + 0, slB a2, slO a2 + i.toNat * 1 + 0] [IdxOk a1 a1 l.length l.length i, i.toNat < l.length, IdxOk a2 a2 m.length m.length i, i.toNat < m.length] (fun _ => by as_aux_lemma => kernel_rfl) ⟨inB_idx g15, inB_lt g15, inB_idx g16, inB_lt g16, trivial⟩ ?_
          refine Ends.seq ?_
          refine At.cond ((nth l 0 i.toNat) != (nth m 0 i.toNat)) (by kernel_rfl) (fun hc17 => ?_) (fun hc17 => ?_)
          · have h := br_t h hc17
            refine At.runR [] [4] [true, true] (.ret) ([(4, .bool false)]) [] [] (fun _ => by as_aux_lemma => kernel_rfl) trivial ?_
            refine Ends.block_ret ?_
            refine Ends.then_ret ?_
            refine Ends.then_ret ?_
            refine Ends.block_ret ?_
            refine Ends.then_ret ?_
            obtain rfl := Option.some.inj h
            have h := hr2
            refine Ends.body [] (.bool false) [] (by kernel_rfl) (fun w9 hRep => ?_)
            obtain rfl := Option.some.inj h
            exact ⟨rfl, hRep.ext⟩
          · have h := br_f h hc17
            refine At.runR [] [0, 1, 5] [true, true] (.normal) ([(0, .slice a1 l.length c1), (1, .slice a2 m.length c2), (5, .int .i64 i)]) [] [] (fun _ => by as_aux_lemma => kernel_rfl) trivial ?_
            refine Ends.block_normal ?_
            refine Ends.seq ?_
            refine At.runR [] [0, 1, 5] [true, true] (.normal) ([(0, .slice a1 l.length c1), (1, .slice a2 m.length c2), (5, .int .i64 (IntKind.i64.wrap (i + (1 : Int))))]) [] [] (fun _ => by as_aux_lemma => kernel_rfl) trivial ?_
            exact Ends.round fuel3 (IntKind.i64.wrap (i + (1 : Int))) (Nat.lt_succ_self _) h (by kernel_rfl) (by kernel_rfl)
        · have h := br_f h hc4
          refine At.runR [] [] [true, true] (.exit 0) ([]) [] [] (fun _ => by as_aux_lemma => kernel_rfl) trivial ?_
          refine Ends.then_exit ?_
          refine Ends.then_exit ?_
          refine Ends.block_hit ?_
          refine Ends.sel [] [] ([]) ([]) (by kernel_rfl) (by kernel_rfl) (by kernel_rfl) ?_
          exact Ends.mid () (Option.some.inj h).symm (by kernel_rfl) (by kernel_rfl)
    · replace hI : o2 = (.inr ()) := hI
      have h := hr2
      try rw [hI] at h
      refine At.runR [] [4] [] (.ret) ([(4, .bool true)]) [] [] (fun _ => by as_aux_lemma => kernel_rfl) trivial ?_
      refine Ends.body [] (.bool true) [] (by kernel_rfl) (fun w9 hRep => ?_)
      obtain rfl := Option.some.inj h
      exact ⟨rfl, hRep.ext⟩
def lslow_S (F : Nat) (p : Recipe) : Option (Bool) := (rMany_S F p).bind (fun r_ => ((bif decide (r_ > (300 : Int)) then (some (decide (r_ ≤ (20000 : Int)))) else (some false))).bind (fun z1 => some z1))
set_option maxRecDepth 100000 in
set_option maxHeartbeats 4000000 in
theorem lslow_w (F : Nat) (p : Recipe) (a1 : Option Addr) (c1 : Nat) (w : World) (hs1 : Sl 9 Lot.cells w a1 c1 p.lots) (v : Bool) (h : lslow_S F p = some v) :
    Calls Try.prog 23 #[.agg #[.slice a1 p.lots.length c1, .int .i64 p.mass.lo, .int .i64 p.mass.hi, .int .i64 p.target.a.lo, .int .i64 p.target.a.hi, .int .i64 p.target.b.lo, .int .i64 p.target.b.hi, .int .i64 p.target.c.lo, .int .i64 p.target.c.hi]] w (Ret (.bool v) w) := by
  rw [lslow_S] at h
  refine At.enter Try.func23 rfl 12 [(0, .agg #[.slice a1 p.lots.length c1, .int .i64 p.mass.lo, .int .i64 p.mass.hi, .int .i64 p.target.a.lo, .int .i64 p.target.a.hi, .int .i64 p.target.b.lo, .int .i64 p.target.b.hi, .int .i64 p.target.c.lo, .int .i64 p.target.c.hi])] ([.sl a1 9 p.lots.length (fun i_ => Lot.cells (nth p.lots Lot.zero i_))]) [] (by kernel_rfl) ⟨rfl, trivial⟩ (Rep.sub (Rep.sl (Rep.start w) Lot.zero hs1 (by simp [Ent.mut])) (by simp)) ?_
  refine At.seq ?_
  refine At.run [] [1] [true, true] (.normal) (fun B3 => [(1, .pointer (some ⟨B3, 0, none⟩))]) (fun B3 => [.sl a1 9 p.lots.length (fun i_ => Lot.cells (nth p.lots Lot.zero i_)), .blk B3 [.slice a1 p.lots.length c1, .int .i64 p.mass.lo, .int .i64 p.mass.hi, .int .i64 p.target.a.lo, .int .i64 p.target.a.hi, .int .i64 p.target.b.lo, .int .i64 p.target.b.hi, .int .i64 p.target.c.lo, .int .i64 p.target.c.hi] 28]) (fun B3 => []) (fun B3 => []) (fun B3 => by as_aux_lemma => kernel_rfl) (fun B3 => trivial) (fun B3 => ?_)
  refine Ends.seq ?_
  refine At.seq ?_
  refine At.region ?_
  refine AtL.runR 1 [(1, 0, 0), (1, 1, 0), (1, 2, 0), (1, 3, 0), (1, 4, 0), (1, 5, 0), (1, 6, 0), (1, 7, 0), (1, 8, 0)] [4] [true, true] ([(4, .agg #[.slice a1 p.lots.length c1, .int .i64 p.mass.lo, .int .i64 p.mass.hi, .int .i64 p.target.a.lo, .int .i64 p.target.a.hi, .int .i64 p.target.b.lo, .int .i64 p.target.b.hi, .int .i64 p.target.c.lo, .int .i64 p.target.c.hi])]) [B3, 0, B3, 1, B3, 2, B3, 3, B3, 4, B3, 5, B3, 6, B3, 7, B3, 8] [] (fun _ => by as_aux_lemma => kernel_rfl) trivial ?_
  obtain ⟨r_, hs3, h⟩ := bd h
  refine AtL.call 25 #[.agg #[.slice a1 p.lots.length c1, .int .i64 p.mass.lo, .int .i64 p.mass.hi, .int .i64 p.target.a.lo, .int .i64 p.target.a.hi, .int .i64 p.target.b.lo, .int .i64 p.target.b.hi, .int .i64 p.target.c.lo, .int .i64 p.target.c.hi]] (some 5) (by kernel_rfl) _ (fun w8 hRep => rMany_w F p a1 c1 w8 (hRep.toSl 0 rfl hs1.le hs1.big) _ hs3) ?_
  rintro w8 e w9 hRep ⟨rfl, hE⟩
  refine ⟨_, _, _, rfl, rfl, hRep.ext' hE, ?_⟩
  refine AtL.runR 1 [] [3] [true, true] ([(3, .int .i64 r_)]) [] [] (fun _ => by as_aux_lemma => kernel_rfl) trivial ?_
  refine AtL.nil (by kernel_rfl) ?_
  refine Ends.seq ?_
  obtain ⟨o1, h, hr1⟩ := bd h
  refine At.seq_mid (σ := Bool) (fun s => o1 = s) (fun s => [(2, .bool s)]) (fun s => []) ?_ (fun s hI => ?_)
  · refine At.region ?_
    refine AtL.runR 3 [] [3, 8] [true, true] ([(3, .int .i64 r_), (8, .bool (decide (r_ > (300 : Int))))]) [] [] (fun _ => by as_aux_lemma => kernel_rfl) trivial ?_
    refine AtL.bool 8 (decide (r_ > (300 : Int))) (by kernel_rfl) (fun hc2 => ?_) (fun hc2 => ?_)
    · have h := br_t h hc2
      refine AtL.runR 4 [] [2] [true, true] ([(2, .bool (decide (r_ ≤ (20000 : Int))))]) [] [] (fun _ => by as_aux_lemma => kernel_rfl) trivial ?_
      refine AtL.nil (by kernel_rfl) ?_
      refine Ends.sel [2] [] ([(2, .bool (decide (r_ ≤ (20000 : Int))))]) ([]) (by kernel_rfl) (by kernel_rfl) (by kernel_rfl) ?_
      exact Ends.mid (decide (r_ ≤ (20000 : Int))) (Option.some.inj h).symm (by kernel_rfl) (by kernel_rfl)
    · have h := br_f h hc2
      refine AtL.runR 4 [] [2] [true, true] ([(2, .bool false)]) [] [] (fun _ => by as_aux_lemma => kernel_rfl) trivial ?_
      refine AtL.nil (by kernel_rfl) ?_
      refine Ends.sel [2] [] ([(2, .bool false)]) ([]) (by kernel_rfl) (by kernel_rfl) (by kernel_rfl) ?_
      exact Ends.mid false (Option.some.inj h).symm (by kernel_rfl) (by kernel_rfl)
  · revert hI; revert s; intro t2 hI
    replace hI : o1 = t2 := hI
    have h := hr1
    try rw [hI] at h
    refine At.runR [] [2] [] (.ret) ([(2, .bool t2)]) [] [] (fun _ => by as_aux_lemma => kernel_rfl) trivial ?_
    refine Ends.body [] (.bool t2) [] (by kernel_rfl) (fun w9 hRep => ?_)
    obtain rfl := Option.some.inj h
    exact ⟨rfl, hRep.ext⟩
def lown_S (F : Nat) (p : Recipe) : Option (Recipe) := bif lenOk (([] : List Lot).length) p.lots.length then (some (⟨(([] : List Lot) ++ p.lots), p.mass, p.target⟩ : Recipe)) else none
set_option maxRecDepth 100000 in
set_option maxHeartbeats 4000000 in
theorem lown_w (F : Nat) (p : Recipe) (a1 : Option Addr) (c1 : Nat) (w : World) (hs1 : Sl 9 Lot.cells w a1 c1 p.lots) (v : Recipe) (h : lown_S F p = some v) :
    Calls Try.prog 13 #[.agg #[.slice a1 p.lots.length c1, .int .i64 p.mass.lo, .int .i64 p.mass.hi, .int .i64 p.target.a.lo, .int .i64 p.target.a.hi, .int .i64 p.target.b.lo, .int .i64 p.target.b.hi, .int .i64 p.target.c.lo, .int .i64 p.target.c.hi]] w (fun e w' => ∃ xa0 xc0, e = .returned (.agg #[.slice xa0 v.lots.length xc0, .int .i64 v.mass.lo, .int .i64 v.mass.hi, .int .i64 v.target.a.lo, .int .i64 v.target.a.hi, .int .i64 v.target.b.lo, .int .i64 v.target.b.hi, .int .i64 v.target.c.lo, .int .i64 v.target.c.hi]) ∧ Rep [] w [owE Lot.cells Lot.zero xa0 xc0 43 9 v.lots] w') := by
  rw [lown_S] at h
  refine At.enter Try.func13 rfl 9 [(0, .agg #[.slice a1 p.lots.length c1, .int .i64 p.mass.lo, .int .i64 p.mass.hi, .int .i64 p.target.a.lo, .int .i64 p.target.a.hi, .int .i64 p.target.b.lo, .int .i64 p.target.b.hi, .int .i64 p.target.c.lo, .int .i64 p.target.c.hi])] ([.sl a1 9 p.lots.length (fun i_ => Lot.cells (nth p.lots Lot.zero i_))]) [] (by kernel_rfl) ⟨rfl, trivial⟩ (Rep.sub (Rep.sl (Rep.start w) Lot.zero hs1 (by simp [Ent.mut])) (by simp)) ?_
  refine At.seq ?_
  refine At.run [] [1, 2] [true, true, true] (.normal) (fun B3 => [(1, .pointer (some ⟨B3, 0, none⟩)), (2, .pointer (some ⟨(B3 + 1), 0, none⟩))]) (fun B3 => [.sl a1 9 p.lots.length (fun i_ => Lot.cells (nth p.lots Lot.zero i_)), .blk B3 [.slice a1 p.lots.length c1, .int .i64 p.mass.lo, .int .i64 p.mass.hi, .int .i64 p.target.a.lo, .int .i64 p.target.a.hi, .int .i64 p.target.b.lo, .int .i64 p.target.b.hi, .int .i64 p.target.c.lo, .int .i64 p.target.c.hi] 28, .blk (B3 + 1) [.slice none 0 0, .int .i64 0, .int .i64 0, .int .i64 0, .int .i64 0, .int .i64 0, .int .i64 0, .int .i64 0, .int .i64 0] 28]) (fun B3 => []) (fun B3 => []) (fun B3 => by as_aux_lemma => kernel_rfl) (fun B3 => trivial) (fun B3 => ?_)
  refine Ends.seq ?_
  refine At.seq ?_
  refine At.region ?_
  refine AtL.run 3 [(1, 0, 0)] [1, 2, 3, 5] [true, true, true, true] (fun B7 => [(1, .pointer (some ⟨B3, 0, none⟩)), (2, .pointer (some ⟨(B3 + 1), 0, none⟩)), (3, .slice (some ⟨B7, 0, none⟩) 0 0), (5, .slice a1 p.lots.length c1)]) (fun B7 => [.sl a1 9 p.lots.length (fun i_ => Lot.cells (nth p.lots Lot.zero i_)), .blk B3 [.slice a1 p.lots.length c1, .int .i64 p.mass.lo, .int .i64 p.mass.hi, .int .i64 p.target.a.lo, .int .i64 p.target.a.hi, .int .i64 p.target.b.lo, .int .i64 p.target.b.hi, .int .i64 p.target.c.lo, .int .i64 p.target.c.hi] 28, .blk (B3 + 1) [.slice none 0 0, .int .i64 0, .int .i64 0, .int .i64 0, .int .i64 0, .int .i64 0, .int .i64 0, .int .i64 0, .int .i64 0] 28, .blk B7 [] 43]) (fun B7 => [B3, 0]) (fun B7 => []) (fun B7 => by as_aux_lemma => kernel_rfl) (fun B7 => trivial) (fun B7 => ?_)
  refine AtL.addRow 3 B7 43 [] (by kernel_rfl) Lot.cells Lot.zero 9 ([] : List Lot) xlen43 (by kernel_rfl) (by decide) (by simp) ?_
  obtain ⟨g1, h⟩ := gd h
  refine AtL.append Lot.zero xei43 xlen43 xone43 (by decide) (some 6) 3 (some ⟨B7, 0, none⟩) (([] : List Lot).length) ([] : List Lot) (by kernel_rfl) a1 p.lots.length c1 p.lots (by kernel_rfl) (by kernel_rfl) ((Adds.sl_ (i := 0) (d := Lot.zero) (by kernel_rfl) hs1.le hs1.big)) (lenOk_le g1) (fun a_ c_ K9 hK9 => ?_)
  obtain rfl := Option.some.inj hK9
  refine AtL.fit [1, 2, 5, 6] ([(1, .pointer (some ⟨B3, 0, none⟩)), (2, .pointer (some ⟨(B3 + 1), 0, none⟩)), (5, .slice a1 p.lots.length c1), (6, .slice a_ ((([] : List Lot) ++ p.lots).length) c_)]) ([.sl a1 9 p.lots.length (fun i_ => Lot.cells (nth p.lots Lot.zero i_)), .blk B3 [.slice a1 p.lots.length c1, .int .i64 p.mass.lo, .int .i64 p.mass.hi, .int .i64 p.target.a.lo, .int .i64 p.target.a.hi, .int .i64 p.target.b.lo, .int .i64 p.target.b.hi, .int .i64 p.target.c.lo, .int .i64 p.target.c.hi] 28, .blk (B3 + 1) [.slice none 0 0, .int .i64 0, .int .i64 0, .int .i64 0, .int .i64 0, .int .i64 0, .int .i64 0, .int .i64 0, .int .i64 0] 28, owE Lot.cells Lot.zero a_ c_ 43 9 (([] : List Lot) ++ p.lots)]) (by kernel_rfl) (by kernel_rfl) ?_
  refine AtL.run 2 [(1, 0, 0)] [1, 2] [false, true, true, true] (fun B8 => [(1, .pointer (some ⟨B3, 0, none⟩)), (2, .pointer (some ⟨(B3 + 1), 0, none⟩))]) (fun B8 => [.blk B3 [.slice a_ ((([] : List Lot) ++ p.lots).length) c_, .int .i64 p.mass.lo, .int .i64 p.mass.hi, .int .i64 p.target.a.lo, .int .i64 p.target.a.hi, .int .i64 p.target.b.lo, .int .i64 p.target.b.hi, .int .i64 p.target.c.lo, .int .i64 p.target.c.hi] 28, .blk (B3 + 1) [.slice none 0 0, .int .i64 0, .int .i64 0, .int .i64 0, .int .i64 0, .int .i64 0, .int .i64 0, .int .i64 0, .int .i64 0] 28, owE Lot.cells Lot.zero a_ c_ 43 9 (([] : List Lot) ++ p.lots)]) (fun B8 => [B3, 0]) (fun B8 => []) (fun B8 => by as_aux_lemma => kernel_rfl) (fun B8 => trivial) (fun B8 => ?_)
  refine AtL.nil (by kernel_rfl) ?_
  refine Ends.seq ?_
  refine At.run [(0, 0, 0), (0, 1, 0), (0, 2, 0), (0, 3, 0), (0, 4, 0), (0, 5, 0), (0, 6, 0), (0, 7, 0), (0, 8, 0), (1, 0, 0), (1, 1, 0), (1, 2, 0), (1, 3, 0), (1, 4, 0), (1, 5, 0), (1, 6, 0), (1, 7, 0), (1, 8, 0)] [2] [false, true, true] (.ret) (fun B9 => [(2, .pointer (some ⟨(B3 + 1), 0, none⟩))]) (fun B9 => [.blk (B3 + 1) [.slice a_ ((([] : List Lot) ++ p.lots).length) c_, .int .i64 p.mass.lo, .int .i64 p.mass.hi, .int .i64 p.target.a.lo, .int .i64 p.target.a.hi, .int .i64 p.target.b.lo, .int .i64 p.target.b.hi, .int .i64 p.target.c.lo, .int .i64 p.target.c.hi] 28, owE Lot.cells Lot.zero a_ c_ 43 9 (([] : List Lot) ++ p.lots)]) (fun B9 => [B3, 0, B3, 1, B3, 2, B3, 3, B3, 4, B3, 5, B3, 6, B3, 7, B3, 8, (B3 + 1), 0, (B3 + 1), 1, (B3 + 1), 2, (B3 + 1), 3, (B3 + 1), 4, (B3 + 1), 5, (B3 + 1), 6, (B3 + 1), 7, (B3 + 1), 8]) (fun B9 => []) (fun B9 => by as_aux_lemma => kernel_rfl) (fun B9 => trivial) (fun B9 => ?_)
  refine Ends.body [(0, 0, 0), (0, 1, 0), (0, 2, 0), (0, 3, 0), (0, 4, 0), (0, 5, 0), (0, 6, 0), (0, 7, 0), (0, 8, 0)] (.agg #[.slice a_ ((([] : List Lot) ++ p.lots).length) c_, .int .i64 p.mass.lo, .int .i64 p.mass.hi, .int .i64 p.target.a.lo, .int .i64 p.target.a.hi, .int .i64 p.target.b.lo, .int .i64 p.target.b.hi, .int .i64 p.target.c.lo, .int .i64 p.target.c.hi]) [(B3 + 1), 0, (B3 + 1), 1, (B3 + 1), 2, (B3 + 1), 3, (B3 + 1), 4, (B3 + 1), 5, (B3 + 1), 6, (B3 + 1), 7, (B3 + 1), 8] (by kernel_rfl) (fun w9 hRep => ?_)
  obtain rfl := Option.some.inj h
  exact ⟨a_, c_, rfl, hRep.sel (r := [1]) (by kernel_rfl) (by kernel_rfl)⟩
def lbest_S (F : Nat) (p : Recipe) : Option (Bool) := ((bif decide ((p.lots.length : Int) > (10 : Int)) then (some true) else (bif (checkE p) == (0 : Int) then ((lslow_S F p).bind (fun r_38 => some r_38)) else (some false)))).bind (fun z1 => bif z1 then (some true) else ((lown_S F p).bind (fun r_ => (((bif (checkE p) == (0 : Int) then ((rMany_S F p).bind (fun r_33 => some (decide (r_33 > (20000 : Int))))) else (some false))).bind (fun z30 => bif z30 then (some (8 : Int)) else (some (checkE p)))).bind (fun z7 => bif z7 != (0 : Int) then (((bif (bestE r_) == z7 then (bif ((stL (bestM r_)).length : Int) == (0 : Int) then (bif (stC (bestM r_)) == (0 : Int) then (some true) else (some false)) else (some false)) else (some false))).bind (fun z9 => some z9)) else ((rBest_S F p).bind (fun r_13 => bif !r_13.2.2 then (((bif (bestE r_) == (20 : Int) then (bif ((stL (bestM r_)).length : Int) == (0 : Int) then (bif (stC (bestM r_)) == (0 : Int) then (some true) else (some false)) else (some false)) else (some false))).bind (fun z17 => some z17)) else (((bif (bestE r_) == (0 : Int) then (bif (stC (bestM r_)) == r_13.2.1 then ((lsame_S F (stL (bestM r_)) r_13.1).bind (fun r_26 => bif r_26 then (some true) else (some false))) else (some false)) else (some false))).bind (fun z22 => some z22))))))))
set_option maxRecDepth 100000 in
set_option maxHeartbeats 4000000 in
theorem lbest_w (F : Nat) (p : Recipe) (a1 : Option Addr) (c1 : Nat) (w : World) (hs1 : Sl 9 Lot.cells w a1 c1 p.lots) (v : Bool) (h : lbest_S F p = some v) :
    Calls Try.prog 4 #[.agg #[.slice a1 p.lots.length c1, .int .i64 p.mass.lo, .int .i64 p.mass.hi, .int .i64 p.target.a.lo, .int .i64 p.target.a.hi, .int .i64 p.target.b.lo, .int .i64 p.target.b.hi, .int .i64 p.target.c.lo, .int .i64 p.target.c.hi]] w (Ret (.bool v) w) := by
  rw [lbest_S] at h
  refine At.enter Try.func4 rfl 94 [(0, .agg #[.slice a1 p.lots.length c1, .int .i64 p.mass.lo, .int .i64 p.mass.hi, .int .i64 p.target.a.lo, .int .i64 p.target.a.hi, .int .i64 p.target.b.lo, .int .i64 p.target.b.hi, .int .i64 p.target.c.lo, .int .i64 p.target.c.hi])] ([.sl a1 9 p.lots.length (fun i_ => Lot.cells (nth p.lots Lot.zero i_))]) [] (by kernel_rfl) ⟨rfl, trivial⟩ (Rep.sub (Rep.sl (Rep.start w) Lot.zero hs1 (by simp [Ent.mut])) (by simp)) ?_
  refine At.seq ?_
  refine At.run [] [1] [true, true] (.normal) (fun B3 => [(1, .pointer (some ⟨B3, 0, none⟩))]) (fun B3 => [.sl a1 9 p.lots.length (fun i_ => Lot.cells (nth p.lots Lot.zero i_)), .blk B3 [.slice a1 p.lots.length c1, .int .i64 p.mass.lo, .int .i64 p.mass.hi, .int .i64 p.target.a.lo, .int .i64 p.target.a.hi, .int .i64 p.target.b.lo, .int .i64 p.target.b.hi, .int .i64 p.target.c.lo, .int .i64 p.target.c.hi] 28]) (fun B3 => []) (fun B3 => []) (fun B3 => by as_aux_lemma => kernel_rfl) (fun B3 => trivial) (fun B3 => ?_)
  refine Ends.seq ?_
  refine At.seq ?_
  obtain ⟨o1, h, hr1⟩ := bd h
  refine At.seq_mid (σ := Bool) (fun s => o1 = s) (fun s => [(1, .pointer (some ⟨B3, 0, none⟩)), (22, .bool s)]) (fun s => [.sl a1 9 p.lots.length (fun i_ => Lot.cells (nth p.lots Lot.zero i_)), .blk B3 [.slice a1 p.lots.length c1, .int .i64 p.mass.lo, .int .i64 p.mass.hi, .int .i64 p.target.a.lo, .int .i64 p.target.a.hi, .int .i64 p.target.b.lo, .int .i64 p.target.b.hi, .int .i64 p.target.c.lo, .int .i64 p.target.c.hi] 28]) ?_ (fun s hI => ?_)
  · refine At.region ?_
    refine AtL.runR 5 [(1, 0, 0)] [1, 14] [true, true] ([(1, .pointer (some ⟨B3, 0, none⟩)), (14, .bool (decide ((p.lots.length : Int) > (10 : Int))))]) [B3, 0] [] (fun _ => by as_aux_lemma => kernel_rfl) trivial ?_
    refine AtL.bool 14 (decide ((p.lots.length : Int) > (10 : Int))) (by kernel_rfl) (fun hc36 => ?_) (fun hc36 => ?_)
    · have h := br_t h hc36
      refine AtL.runR 8 [] [1, 22] [true, true] ([(1, .pointer (some ⟨B3, 0, none⟩)), (22, .bool true)]) [] [] (fun _ => by as_aux_lemma => kernel_rfl) trivial ?_
      refine AtL.nil (by kernel_rfl) ?_
      exact Ends.mid true (Option.some.inj h).symm (by kernel_rfl) (by kernel_rfl)
    · have h := br_f h hc36
      refine AtL.runR 1 [(1, 0, 0), (1, 1, 0), (1, 2, 0), (1, 3, 0), (1, 4, 0), (1, 5, 0), (1, 6, 0), (1, 7, 0), (1, 8, 0)] [1, 14, 15] [true, true] ([(1, .pointer (some ⟨B3, 0, none⟩)), (14, .bool false), (15, .agg #[.slice a1 p.lots.length c1, .int .i64 p.mass.lo, .int .i64 p.mass.hi, .int .i64 p.target.a.lo, .int .i64 p.target.a.hi, .int .i64 p.target.b.lo, .int .i64 p.target.b.hi, .int .i64 p.target.c.lo, .int .i64 p.target.c.hi])]) [B3, 0, B3, 1, B3, 2, B3, 3, B3, 4, B3, 5, B3, 6, B3, 7, B3, 8] [] (fun _ => by as_aux_lemma => kernel_rfl) trivial ?_
      refine AtL.call 18 #[.agg #[.slice a1 p.lots.length c1, .int .i64 p.mass.lo, .int .i64 p.mass.hi, .int .i64 p.target.a.lo, .int .i64 p.target.a.hi, .int .i64 p.target.b.lo, .int .i64 p.target.b.hi, .int .i64 p.target.c.lo, .int .i64 p.target.c.hi]] (some 16) (by kernel_rfl) _ (fun w8 hRep => refCheck_c p a1 c1 w8 (hRep.toSl 0 rfl hs1.le hs1.big)) ?_
      rintro w8 e w9 hRep ⟨rfl, hE⟩
      refine ⟨_, _, _, rfl, rfl, hRep.ext' hE, ?_⟩
      refine AtL.runR 2 [] [1, 14, 18] [true, true] ([(1, .pointer (some ⟨B3, 0, none⟩)), (14, .bool false), (18, .bool ((checkE p) == (0 : Int)))]) [] [] (fun _ => by as_aux_lemma => kernel_rfl) trivial ?_
      refine AtL.bool 18 ((checkE p) == (0 : Int)) (by kernel_rfl) (fun hc37 => ?_) (fun hc37 => ?_)
      · have h := br_t h hc37
        refine AtL.runR 1 [(1, 0, 0), (1, 1, 0), (1, 2, 0), (1, 3, 0), (1, 4, 0), (1, 5, 0), (1, 6, 0), (1, 7, 0), (1, 8, 0)] [1, 14, 18, 19] [true, true] ([(1, .pointer (some ⟨B3, 0, none⟩)), (14, .bool false), (18, .bool true), (19, .agg #[.slice a1 p.lots.length c1, .int .i64 p.mass.lo, .int .i64 p.mass.hi, .int .i64 p.target.a.lo, .int .i64 p.target.a.hi, .int .i64 p.target.b.lo, .int .i64 p.target.b.hi, .int .i64 p.target.c.lo, .int .i64 p.target.c.hi])]) [B3, 0, B3, 1, B3, 2, B3, 3, B3, 4, B3, 5, B3, 6, B3, 7, B3, 8] [] (fun _ => by as_aux_lemma => kernel_rfl) trivial ?_
        obtain ⟨r_38, hs39, h⟩ := bd h
        refine AtL.call 23 #[.agg #[.slice a1 p.lots.length c1, .int .i64 p.mass.lo, .int .i64 p.mass.hi, .int .i64 p.target.a.lo, .int .i64 p.target.a.hi, .int .i64 p.target.b.lo, .int .i64 p.target.b.hi, .int .i64 p.target.c.lo, .int .i64 p.target.c.hi]] (some 20) (by kernel_rfl) _ (fun w8 hRep => lslow_w F p a1 c1 w8 (hRep.toSl 0 rfl hs1.le hs1.big) _ hs39) ?_
        rintro w8 e w9 hRep ⟨rfl, hE⟩
        refine ⟨_, _, _, rfl, rfl, hRep.ext' hE, ?_⟩
        refine AtL.runR 2 [] [1, 22] [true, true] ([(1, .pointer (some ⟨B3, 0, none⟩)), (22, .bool r_38)]) [] [] (fun _ => by as_aux_lemma => kernel_rfl) trivial ?_
        refine AtL.nil (by kernel_rfl) ?_
        exact Ends.mid r_38 (Option.some.inj h).symm (by kernel_rfl) (by kernel_rfl)
      · have h := br_f h hc37
        refine AtL.runR 4 [] [1, 22] [true, true] ([(1, .pointer (some ⟨B3, 0, none⟩)), (22, .bool false)]) [] [] (fun _ => by as_aux_lemma => kernel_rfl) trivial ?_
        refine AtL.nil (by kernel_rfl) ?_
        exact Ends.mid false (Option.some.inj h).symm (by kernel_rfl) (by kernel_rfl)
  · revert hI; revert s; intro t22 hI
    replace hI : o1 = t22 := hI
    have h := hr1
    try rw [hI] at h
    refine At.cond (t22) (by kernel_rfl) (fun hc2 => ?_) (fun hc2 => ?_)
    · have h := br_t h hc2
      refine At.seq ?_
      refine At.region ?_
      refine AtL.call 12 #[] (some 23) (by kernel_rfl) _ (fun w8 hRep => known_c w8) ?_
      rintro w8 e w9 hRep ⟨rfl, hE⟩
      refine ⟨_, _, _, rfl, rfl, hRep.ext' hE, ?_⟩
      refine AtL.runR 1 [] [2] [true, true] ([(2, .bool true)]) [] [] (fun _ => by as_aux_lemma => kernel_rfl) trivial ?_
      refine AtL.nil (by kernel_rfl) ?_
      refine Ends.seq ?_
      refine At.runR [] [2] [true, true] (.ret) ([(2, .bool true)]) [] [] (fun _ => by as_aux_lemma => kernel_rfl) trivial ?_
      refine Ends.then_ret ?_
      refine Ends.body [] (.bool true) [] (by kernel_rfl) (fun w9 hRep => ?_)
      obtain rfl := Option.some.inj h
      exact ⟨rfl, hRep.ext⟩
    · have h := br_f h hc2
      refine At.runR [] [1] [true, true] (.normal) ([(1, .pointer (some ⟨B3, 0, none⟩))]) [] [] (fun _ => by as_aux_lemma => kernel_rfl) trivial ?_
      refine Ends.seq ?_
      refine At.seq ?_
      refine At.region ?_
      refine AtL.runR 1 [(1, 0, 0), (1, 1, 0), (1, 2, 0), (1, 3, 0), (1, 4, 0), (1, 5, 0), (1, 6, 0), (1, 7, 0), (1, 8, 0)] [1, 25] [true, true] ([(1, .pointer (some ⟨B3, 0, none⟩)), (25, .agg #[.slice a1 p.lots.length c1, .int .i64 p.mass.lo, .int .i64 p.mass.hi, .int .i64 p.target.a.lo, .int .i64 p.target.a.hi, .int .i64 p.target.b.lo, .int .i64 p.target.b.hi, .int .i64 p.target.c.lo, .int .i64 p.target.c.hi])]) [B3, 0, B3, 1, B3, 2, B3, 3, B3, 4, B3, 5, B3, 6, B3, 7, B3, 8] [] (fun _ => by as_aux_lemma => kernel_rfl) trivial ?_
      obtain ⟨r_, hs35, h⟩ := bd h
      refine AtL.call 13 #[.agg #[.slice a1 p.lots.length c1, .int .i64 p.mass.lo, .int .i64 p.mass.hi, .int .i64 p.target.a.lo, .int .i64 p.target.a.hi, .int .i64 p.target.b.lo, .int .i64 p.target.b.hi, .int .i64 p.target.c.lo, .int .i64 p.target.c.hi]] (some 26) (by kernel_rfl) _ (fun w8 hRep => lown_w F p a1 c1 w8 (hRep.toSl 0 rfl hs1.le hs1.big) _ hs35) ?_
      rintro w8 e w9 hRep ⟨a_, c_, rfl, hE⟩
      refine ⟨_, _, _, rfl, rfl, hRep.join hE (by simp [Ent.fresh]), ?_⟩
      refine AtL.freeze 1 B3 28 [.slice a1 p.lots.length c1, .int .i64 p.mass.lo, .int .i64 p.mass.hi, .int .i64 p.target.a.lo, .int .i64 p.target.a.hi, .int .i64 p.target.b.lo, .int .i64 p.target.b.hi, .int .i64 p.target.c.lo, .int .i64 p.target.c.hi] (by kernel_rfl) ?_
      refine AtL.freezeOw 2 Lot.cells Lot.zero a_ c_ 43 9 r_.lots (by kernel_rfl) xlen43 (fun hf3l hf3b => ?_)
      refine AtL.fit [1, 25, 26] ([(1, .pointer (some ⟨B3, 0, none⟩)), (25, .agg #[.slice a1 p.lots.length c1, .int .i64 p.mass.lo, .int .i64 p.mass.hi, .int .i64 p.target.a.lo, .int .i64 p.target.a.hi, .int .i64 p.target.b.lo, .int .i64 p.target.b.hi, .int .i64 p.target.c.lo, .int .i64 p.target.c.hi]), (26, .agg #[.slice a_ r_.lots.length c_, .int .i64 r_.mass.lo, .int .i64 r_.mass.hi, .int .i64 r_.target.a.lo, .int .i64 r_.target.a.hi, .int .i64 r_.target.b.lo, .int .i64 r_.target.b.hi, .int .i64 r_.target.c.lo, .int .i64 r_.target.c.hi])]) ([.sl a1 9 p.lots.length (fun i_ => Lot.cells (nth p.lots Lot.zero i_)), .sl (some ⟨B3, 0, none⟩) 9 1 (fun _ => [.slice a1 p.lots.length c1, .int .i64 p.mass.lo, .int .i64 p.mass.hi, .int .i64 p.target.a.lo, .int .i64 p.target.a.hi, .int .i64 p.target.b.lo, .int .i64 p.target.b.hi, .int .i64 p.target.c.lo, .int .i64 p.target.c.hi]), .sl a_ 9 r_.lots.length (fun i_ => Lot.cells (nth r_.lots Lot.zero i_))]) (by kernel_rfl) (by kernel_rfl) ?_
      refine AtL.call 24 #[.agg #[.slice a_ r_.lots.length c_, .int .i64 r_.mass.lo, .int .i64 r_.mass.hi, .int .i64 r_.target.a.lo, .int .i64 r_.target.a.hi, .int .i64 r_.target.b.lo, .int .i64 r_.target.b.hi, .int .i64 r_.target.c.lo, .int .i64 r_.target.c.hi]] (some 27) (by kernel_rfl) _ (fun w8 hRep => best_c r_ a_ c_ w8 (hRep.toSl 2 rfl hf3l hf3b)) ?_
      rintro w8 e w9 hRep ⟨a_5, c_6, rfl, hs4, hE⟩
      refine ⟨_, _, _, rfl, rfl, hRep.addSl hE (by simp [Ent.mut]) 0 hs4, ?_⟩
      refine AtL.runR 7 [] [1, 3, 4, 5] [true, true, true, true] ([(1, .pointer (some ⟨B3, 0, none⟩)), (3, .slice a_5 ((stL (bestM r_)).length) c_6), (4, .int .i64 (stC (bestM r_))), (5, .int .i64 (bestE r_))]) [] [] (fun _ => by as_aux_lemma => kernel_rfl) trivial ?_
      refine AtL.nil (by kernel_rfl) ?_
      refine Ends.seq ?_
      refine At.seq ?_
      refine At.region ?_
      refine AtL.runR 1 [(1, 0, 0), (1, 1, 0), (1, 2, 0), (1, 3, 0), (1, 4, 0), (1, 5, 0), (1, 6, 0), (1, 7, 0), (1, 8, 0)] [1, 3, 4, 5, 31] [true, true, true, true] ([(1, .pointer (some ⟨B3, 0, none⟩)), (3, .slice a_5 ((stL (bestM r_)).length) c_6), (4, .int .i64 (stC (bestM r_))), (5, .int .i64 (bestE r_)), (31, .agg #[.slice a1 p.lots.length c1, .int .i64 p.mass.lo, .int .i64 p.mass.hi, .int .i64 p.target.a.lo, .int .i64 p.target.a.hi, .int .i64 p.target.b.lo, .int .i64 p.target.b.hi, .int .i64 p.target.c.lo, .int .i64 p.target.c.hi])]) [B3, 0, B3, 1, B3, 2, B3, 3, B3, 4, B3, 5, B3, 6, B3, 7, B3, 8] [0 < 1, 0 < 1, 0 < 1, 0 < 1, 0 < 1, 0 < 1, 0 < 1, 0 < 1, 0 < 1] (fun _ => by as_aux_lemma => kernel_rfl) ⟨Nat.one_pos, Nat.one_pos, Nat.one_pos, Nat.one_pos, Nat.one_pos, Nat.one_pos, Nat.one_pos, Nat.one_pos, Nat.one_pos, trivial⟩ ?_
      refine AtL.call 18 #[.agg #[.slice a1 p.lots.length c1, .int .i64 p.mass.lo, .int .i64 p.mass.hi, .int .i64 p.target.a.lo, .int .i64 p.target.a.hi, .int .i64 p.target.b.lo, .int .i64 p.target.b.hi, .int .i64 p.target.c.lo, .int .i64 p.target.c.hi]] (some 32) (by kernel_rfl) _ (fun w8 hRep => refCheck_c p a1 c1 w8 (hRep.toSl 0 rfl hs1.le hs1.big)) ?_
      rintro w8 e w9 hRep ⟨rfl, hE⟩
      refine ⟨_, _, _, rfl, rfl, hRep.ext' hE, ?_⟩
      refine AtL.runR 1 [] [1, 3, 4, 5, 6] [true, true, true, true] ([(1, .pointer (some ⟨B3, 0, none⟩)), (3, .slice a_5 ((stL (bestM r_)).length) c_6), (4, .int .i64 (stC (bestM r_))), (5, .int .i64 (bestE r_)), (6, .int .i64 (checkE p))]) [] [] (fun _ => by as_aux_lemma => kernel_rfl) trivial ?_
      refine AtL.nil (by kernel_rfl) ?_
      refine Ends.seq ?_
      obtain ⟨o7, h, hr7⟩ := bd h
      refine At.seq_mid (σ := Int) (fun s => o7 = s) (fun s => [(1, .pointer (some ⟨B3, 0, none⟩)), (3, .slice a_5 ((stL (bestM r_)).length) c_6), (4, .int .i64 (stC (bestM r_))), (5, .int .i64 (bestE r_)), (6, .int .i64 s)]) (fun s => [.sl a1 9 p.lots.length (fun i_ => Lot.cells (nth p.lots Lot.zero i_)), .sl (some ⟨B3, 0, none⟩) 9 1 (fun _ => [.slice a1 p.lots.length c1, .int .i64 p.mass.lo, .int .i64 p.mass.hi, .int .i64 p.target.a.lo, .int .i64 p.target.a.hi, .int .i64 p.target.b.lo, .int .i64 p.target.b.hi, .int .i64 p.target.c.lo, .int .i64 p.target.c.hi]), .sl a_5 1 ((stL (bestM r_)).length) (fun i_ => intCells (nth (stL (bestM r_)) 0 i_))]) ?_ (fun s hI => ?_)
      · obtain ⟨o30, h, hr30⟩ := bd h
        refine At.seq_mid (σ := Bool) (fun s => o30 = s) (fun s => [(1, .pointer (some ⟨B3, 0, none⟩)), (3, .slice a_5 ((stL (bestM r_)).length) c_6), (4, .int .i64 (stC (bestM r_))), (5, .int .i64 (bestE r_)), (6, .int .i64 (checkE p)), (39, .bool s)]) (fun s => [.sl a1 9 p.lots.length (fun i_ => Lot.cells (nth p.lots Lot.zero i_)), .sl (some ⟨B3, 0, none⟩) 9 1 (fun _ => [.slice a1 p.lots.length c1, .int .i64 p.mass.lo, .int .i64 p.mass.hi, .int .i64 p.target.a.lo, .int .i64 p.target.a.hi, .int .i64 p.target.b.lo, .int .i64 p.target.b.hi, .int .i64 p.target.c.lo, .int .i64 p.target.c.hi]), .sl a_5 1 ((stL (bestM r_)).length) (fun i_ => intCells (nth (stL (bestM r_)) 0 i_))]) ?_ (fun s hI => ?_)
        · refine At.region ?_
          refine AtL.runR 3 [] [1, 3, 4, 5, 6, 35] [true, true, true, true] ([(1, .pointer (some ⟨B3, 0, none⟩)), (3, .slice a_5 ((stL (bestM r_)).length) c_6), (4, .int .i64 (stC (bestM r_))), (5, .int .i64 (bestE r_)), (6, .int .i64 (checkE p)), (35, .bool ((checkE p) == (0 : Int)))]) [] [] (fun _ => by as_aux_lemma => kernel_rfl) trivial ?_
          refine AtL.bool 35 ((checkE p) == (0 : Int)) (by kernel_rfl) (fun hc32 => ?_) (fun hc32 => ?_)
          · have h := br_t h hc32
            refine AtL.runR 1 [(1, 0, 0), (1, 1, 0), (1, 2, 0), (1, 3, 0), (1, 4, 0), (1, 5, 0), (1, 6, 0), (1, 7, 0), (1, 8, 0)] [1, 3, 4, 5, 6, 35, 36] [true, true, true, true] ([(1, .pointer (some ⟨B3, 0, none⟩)), (3, .slice a_5 ((stL (bestM r_)).length) c_6), (4, .int .i64 (stC (bestM r_))), (5, .int .i64 (bestE r_)), (6, .int .i64 (checkE p)), (35, .bool true), (36, .agg #[.slice a1 p.lots.length c1, .int .i64 p.mass.lo, .int .i64 p.mass.hi, .int .i64 p.target.a.lo, .int .i64 p.target.a.hi, .int .i64 p.target.b.lo, .int .i64 p.target.b.hi, .int .i64 p.target.c.lo, .int .i64 p.target.c.hi])]) [B3, 0, B3, 1, B3, 2, B3, 3, B3, 4, B3, 5, B3, 6, B3, 7, B3, 8] [0 < 1, 0 < 1, 0 < 1, 0 < 1, 0 < 1, 0 < 1, 0 < 1, 0 < 1, 0 < 1] (fun _ => by as_aux_lemma => kernel_rfl) ⟨Nat.one_pos, Nat.one_pos, Nat.one_pos, Nat.one_pos, Nat.one_pos, Nat.one_pos, Nat.one_pos, Nat.one_pos, Nat.one_pos, trivial⟩ ?_
            obtain ⟨r_33, hs34, h⟩ := bd h
            refine AtL.call 25 #[.agg #[.slice a1 p.lots.length c1, .int .i64 p.mass.lo, .int .i64 p.mass.hi, .int .i64 p.target.a.lo, .int .i64 p.target.a.hi, .int .i64 p.target.b.lo, .int .i64 p.target.b.hi, .int .i64 p.target.c.lo, .int .i64 p.target.c.hi]] (some 37) (by kernel_rfl) _ (fun w8 hRep => rMany_w F p a1 c1 w8 (hRep.toSl 0 rfl hs1.le hs1.big) _ hs34) ?_
            rintro w8 e w9 hRep ⟨rfl, hE⟩
            refine ⟨_, _, _, rfl, rfl, hRep.ext' hE, ?_⟩
            refine AtL.runR 2 [] [1, 3, 4, 5, 6, 39] [true, true, true, true] ([(1, .pointer (some ⟨B3, 0, none⟩)), (3, .slice a_5 ((stL (bestM r_)).length) c_6), (4, .int .i64 (stC (bestM r_))), (5, .int .i64 (bestE r_)), (6, .int .i64 (checkE p)), (39, .bool (decide (r_33 > (20000 : Int))))]) [] [] (fun _ => by as_aux_lemma => kernel_rfl) trivial ?_
            refine AtL.nil (by kernel_rfl) ?_
            refine Ends.sel [1, 3, 4, 5, 6, 39] [0, 1, 3] ([(1, .pointer (some ⟨B3, 0, none⟩)), (3, .slice a_5 ((stL (bestM r_)).length) c_6), (4, .int .i64 (stC (bestM r_))), (5, .int .i64 (bestE r_)), (6, .int .i64 (checkE p)), (39, .bool (decide (r_33 > (20000 : Int))))]) ([.sl a1 9 p.lots.length (fun i_ => Lot.cells (nth p.lots Lot.zero i_)), .sl (some ⟨B3, 0, none⟩) 9 1 (fun _ => [.slice a1 p.lots.length c1, .int .i64 p.mass.lo, .int .i64 p.mass.hi, .int .i64 p.target.a.lo, .int .i64 p.target.a.hi, .int .i64 p.target.b.lo, .int .i64 p.target.b.hi, .int .i64 p.target.c.lo, .int .i64 p.target.c.hi]), .sl a_5 1 ((stL (bestM r_)).length) (fun i_ => intCells (nth (stL (bestM r_)) 0 i_))]) (by kernel_rfl) (by kernel_rfl) (by kernel_rfl) ?_
            exact Ends.mid (decide (r_33 > (20000 : Int))) (Option.some.inj h).symm (by kernel_rfl) (by kernel_rfl)
          · have h := br_f h hc32
            refine AtL.runR 4 [] [1, 3, 4, 5, 6, 39] [true, true, true, true] ([(1, .pointer (some ⟨B3, 0, none⟩)), (3, .slice a_5 ((stL (bestM r_)).length) c_6), (4, .int .i64 (stC (bestM r_))), (5, .int .i64 (bestE r_)), (6, .int .i64 (checkE p)), (39, .bool false)]) [] [] (fun _ => by as_aux_lemma => kernel_rfl) trivial ?_
            refine AtL.nil (by kernel_rfl) ?_
            refine Ends.sel [1, 3, 4, 5, 6, 39] [0, 1, 3] ([(1, .pointer (some ⟨B3, 0, none⟩)), (3, .slice a_5 ((stL (bestM r_)).length) c_6), (4, .int .i64 (stC (bestM r_))), (5, .int .i64 (bestE r_)), (6, .int .i64 (checkE p)), (39, .bool false)]) ([.sl a1 9 p.lots.length (fun i_ => Lot.cells (nth p.lots Lot.zero i_)), .sl (some ⟨B3, 0, none⟩) 9 1 (fun _ => [.slice a1 p.lots.length c1, .int .i64 p.mass.lo, .int .i64 p.mass.hi, .int .i64 p.target.a.lo, .int .i64 p.target.a.hi, .int .i64 p.target.b.lo, .int .i64 p.target.b.hi, .int .i64 p.target.c.lo, .int .i64 p.target.c.hi]), .sl a_5 1 ((stL (bestM r_)).length) (fun i_ => intCells (nth (stL (bestM r_)) 0 i_))]) (by kernel_rfl) (by kernel_rfl) (by kernel_rfl) ?_
            exact Ends.mid false (Option.some.inj h).symm (by kernel_rfl) (by kernel_rfl)
        · revert hI; revert s; intro t39 hI
          replace hI : o30 = t39 := hI
          have h := hr30
          try rw [hI] at h
          refine At.cond (t39) (by kernel_rfl) (fun hc31 => ?_) (fun hc31 => ?_)
          · have h := br_t h hc31
            refine At.runR [] [1, 3, 4, 5, 6] [true, true, true] (.normal) ([(1, .pointer (some ⟨B3, 0, none⟩)), (3, .slice a_5 ((stL (bestM r_)).length) c_6), (4, .int .i64 (stC (bestM r_))), (5, .int .i64 (bestE r_)), (6, .int .i64 8)]) [] [] (fun _ => by as_aux_lemma => kernel_rfl) trivial ?_
            exact Ends.mid (8 : Int) (Option.some.inj h).symm (by kernel_rfl) (by kernel_rfl)
          · have h := br_f h hc31
            refine At.runR [] [1, 3, 4, 5, 6] [true, true, true] (.normal) ([(1, .pointer (some ⟨B3, 0, none⟩)), (3, .slice a_5 ((stL (bestM r_)).length) c_6), (4, .int .i64 (stC (bestM r_))), (5, .int .i64 (bestE r_)), (6, .int .i64 (checkE p))]) [] [] (fun _ => by as_aux_lemma => kernel_rfl) trivial ?_
            exact Ends.mid (checkE p) (Option.some.inj h).symm (by kernel_rfl) (by kernel_rfl)
      · revert hI; revert s; intro t6 hI
        replace hI : o7 = t6 := hI
        have h := hr7
        try rw [hI] at h
        refine At.seq ?_
        refine At.seq ?_
        refine At.runR [] [1, 3, 4, 5, 6, 41] [true, true, true] (.normal) ([(1, .pointer (some ⟨B3, 0, none⟩)), (3, .slice a_5 ((stL (bestM r_)).length) c_6), (4, .int .i64 (stC (bestM r_))), (5, .int .i64 (bestE r_)), (6, .int .i64 t6), (41, .bool (t6 != (0 : Int)))]) [] [] (fun _ => by as_aux_lemma => kernel_rfl) trivial ?_
        refine Ends.seq ?_
        refine At.cond (t6 != (0 : Int)) (by kernel_rfl) (fun hc8 => ?_) (fun hc8 => ?_)
        · have h := br_t h hc8
          obtain ⟨o9, h, hr9⟩ := bd h
          refine At.seq_mid (σ := Bool) (fun s => o9 = s) (fun s => [(2, .bool s)]) (fun s => []) ?_ (fun s hI => ?_)
          · refine At.region ?_
            refine AtL.runR 4 [] [3, 4, 45] [true, true, true] ([(3, .slice a_5 ((stL (bestM r_)).length) c_6), (4, .int .i64 (stC (bestM r_))), (45, .bool ((bestE r_) == t6))]) [] [] (fun _ => by as_aux_lemma => kernel_rfl) trivial ?_
            refine AtL.bool 45 ((bestE r_) == t6) (by kernel_rfl) (fun hc10 => ?_) (fun hc10 => ?_)
            · have h := br_t h hc10
              refine AtL.runR 5 [] [4, 50] [true, true, true] ([(4, .int .i64 (stC (bestM r_))), (50, .bool (((stL (bestM r_)).length : Int) == (0 : Int)))]) [] [] (fun _ => by as_aux_lemma => kernel_rfl) trivial ?_
              refine AtL.bool 50 (((stL (bestM r_)).length : Int) == (0 : Int)) (by kernel_rfl) (fun hc11 => ?_) (fun hc11 => ?_)
              · have h := br_t h hc11
                refine AtL.runR 4 [] [54] [true, true, true] ([(54, .bool ((stC (bestM r_)) == (0 : Int)))]) [] [] (fun _ => by as_aux_lemma => kernel_rfl) trivial ?_
                refine AtL.bool 54 ((stC (bestM r_)) == (0 : Int)) (by kernel_rfl) (fun hc12 => ?_) (fun hc12 => ?_)
                · have h := br_t h hc12
                  refine AtL.call 12 #[] (some 55) (by kernel_rfl) _ (fun w8 hRep => known_c w8) ?_
                  rintro w8 e w9 hRep ⟨rfl, hE⟩
                  refine ⟨_, _, _, rfl, rfl, hRep.ext' hE, ?_⟩
                  refine AtL.runR 2 [] [2] [true, true, true] ([(2, .bool true)]) [] [] (fun _ => by as_aux_lemma => kernel_rfl) trivial ?_
                  refine AtL.nil (by kernel_rfl) ?_
                  refine Ends.sel [2] [] ([(2, .bool true)]) ([]) (by kernel_rfl) (by kernel_rfl) (by kernel_rfl) ?_
                  exact Ends.mid true (Option.some.inj h).symm (by kernel_rfl) (by kernel_rfl)
                · have h := br_f h hc12
                  refine AtL.runR 3 [] [2] [true, true, true] ([(2, .bool false)]) [] [] (fun _ => by as_aux_lemma => kernel_rfl) trivial ?_
                  refine AtL.nil (by kernel_rfl) ?_
                  refine Ends.sel [2] [] ([(2, .bool false)]) ([]) (by kernel_rfl) (by kernel_rfl) (by kernel_rfl) ?_
                  exact Ends.mid false (Option.some.inj h).symm (by kernel_rfl) (by kernel_rfl)
              · have h := br_f h hc11
                refine AtL.runR 7 [] [2] [true, true, true] ([(2, .bool false)]) [] [] (fun _ => by as_aux_lemma => kernel_rfl) trivial ?_
                refine AtL.nil (by kernel_rfl) ?_
                refine Ends.sel [2] [] ([(2, .bool false)]) ([]) (by kernel_rfl) (by kernel_rfl) (by kernel_rfl) ?_
                exact Ends.mid false (Option.some.inj h).symm (by kernel_rfl) (by kernel_rfl)
            · have h := br_f h hc10
              refine AtL.runR 12 [] [2] [true, true, true] ([(2, .bool false)]) [] [] (fun _ => by as_aux_lemma => kernel_rfl) trivial ?_
              refine AtL.nil (by kernel_rfl) ?_
              refine Ends.sel [2] [] ([(2, .bool false)]) ([]) (by kernel_rfl) (by kernel_rfl) (by kernel_rfl) ?_
              exact Ends.mid false (Option.some.inj h).symm (by kernel_rfl) (by kernel_rfl)
          · revert hI; revert s; intro t2 hI
            replace hI : o9 = t2 := hI
            have h := hr9
            try rw [hI] at h
            refine At.runR [] [2] [] (.ret) ([(2, .bool t2)]) [] [] (fun _ => by as_aux_lemma => kernel_rfl) trivial ?_
            refine Ends.then_ret ?_
            refine Ends.body [] (.bool t2) [] (by kernel_rfl) (fun w9 hRep => ?_)
            obtain rfl := Option.some.inj h
            exact ⟨rfl, hRep.ext⟩
        · have h := br_f h hc8
          refine At.runR [] [1, 3, 4, 5] [true, true, true] (.normal) ([(1, .pointer (some ⟨B3, 0, none⟩)), (3, .slice a_5 ((stL (bestM r_)).length) c_6), (4, .int .i64 (stC (bestM r_))), (5, .int .i64 (bestE r_))]) [] [] (fun _ => by as_aux_lemma => kernel_rfl) trivial ?_
          refine Ends.seq ?_
          refine At.seq ?_
          refine At.region ?_
          refine AtL.runR 1 [(1, 0, 0), (1, 1, 0), (1, 2, 0), (1, 3, 0), (1, 4, 0), (1, 5, 0), (1, 6, 0), (1, 7, 0), (1, 8, 0)] [3, 4, 5, 58] [true, true, true] ([(3, .slice a_5 ((stL (bestM r_)).length) c_6), (4, .int .i64 (stC (bestM r_))), (5, .int .i64 (bestE r_)), (58, .agg #[.slice a1 p.lots.length c1, .int .i64 p.mass.lo, .int .i64 p.mass.hi, .int .i64 p.target.a.lo, .int .i64 p.target.a.hi, .int .i64 p.target.b.lo, .int .i64 p.target.b.hi, .int .i64 p.target.c.lo, .int .i64 p.target.c.hi])]) [B3, 0, B3, 1, B3, 2, B3, 3, B3, 4, B3, 5, B3, 6, B3, 7, B3, 8] [0 < 1, 0 < 1, 0 < 1, 0 < 1, 0 < 1, 0 < 1, 0 < 1, 0 < 1, 0 < 1] (fun _ => by as_aux_lemma => kernel_rfl) ⟨Nat.one_pos, Nat.one_pos, Nat.one_pos, Nat.one_pos, Nat.one_pos, Nat.one_pos, Nat.one_pos, Nat.one_pos, Nat.one_pos, trivial⟩ ?_
          obtain ⟨r_13, hs29, h⟩ := bd h
          refine AtL.call 26 #[.agg #[.slice a1 p.lots.length c1, .int .i64 p.mass.lo, .int .i64 p.mass.hi, .int .i64 p.target.a.lo, .int .i64 p.target.a.hi, .int .i64 p.target.b.lo, .int .i64 p.target.b.hi, .int .i64 p.target.c.lo, .int .i64 p.target.c.hi]] (some 59) (by kernel_rfl) _ (fun w8 hRep => rBest_w F p a1 c1 w8 (hRep.toSl 0 rfl hs1.le hs1.big) _ hs29) ?_
          rintro w8 e w9 hRep ⟨a_14, c_15, rfl, hE⟩
          refine ⟨_, _, _, rfl, rfl, hRep.join hE (by simp [Ent.fresh]), ?_⟩
          refine AtL.runR 7 [] [3, 4, 5, 7, 8, 9] [true, true, true, true] ([(3, .slice a_5 ((stL (bestM r_)).length) c_6), (4, .int .i64 (stC (bestM r_))), (5, .int .i64 (bestE r_)), (7, .slice a_14 r_13.1.length c_15), (8, .int .i64 r_13.2.1), (9, .bool r_13.2.2)]) [] [] (fun _ => by as_aux_lemma => kernel_rfl) trivial ?_
          refine AtL.nil (by kernel_rfl) ?_
          refine Ends.seq ?_
          refine At.seq ?_
          refine At.seq ?_
          refine At.runR [] [3, 4, 5, 7, 8, 64] [true, true, true, true] (.normal) ([(3, .slice a_5 ((stL (bestM r_)).length) c_6), (4, .int .i64 (stC (bestM r_))), (5, .int .i64 (bestE r_)), (7, .slice a_14 r_13.1.length c_15), (8, .int .i64 r_13.2.1), (64, .bool (!r_13.2.2))]) [] [] (fun _ => by as_aux_lemma => kernel_rfl) trivial ?_
          refine Ends.seq ?_
          refine At.cond (!r_13.2.2) (by kernel_rfl) (fun hc16 => ?_) (fun hc16 => ?_)
          · have h := br_t h hc16
            obtain ⟨o17, h, hr17⟩ := bd h
            refine At.seq_mid (σ := Bool) (fun s => o17 = s) (fun s => [(2, .bool s)]) (fun s => []) ?_ (fun s hI => ?_)
            · refine At.region ?_
              refine AtL.runR 3 [] [3, 4, 67] [true, true, true, true] ([(3, .slice a_5 ((stL (bestM r_)).length) c_6), (4, .int .i64 (stC (bestM r_))), (67, .bool ((bestE r_) == (20 : Int)))]) [] [] (fun _ => by as_aux_lemma => kernel_rfl) trivial ?_
              refine AtL.bool 67 ((bestE r_) == (20 : Int)) (by kernel_rfl) (fun hc19 => ?_) (fun hc19 => ?_)
              · have h := br_t h hc19
                refine AtL.runR 5 [] [4, 72] [true, true, true, true] ([(4, .int .i64 (stC (bestM r_))), (72, .bool (((stL (bestM r_)).length : Int) == (0 : Int)))]) [] [] (fun _ => by as_aux_lemma => kernel_rfl) trivial ?_
                refine AtL.bool 72 (((stL (bestM r_)).length : Int) == (0 : Int)) (by kernel_rfl) (fun hc20 => ?_) (fun hc20 => ?_)
                · have h := br_t h hc20
                  refine AtL.runR 4 [] [76] [true, true, true, true] ([(76, .bool ((stC (bestM r_)) == (0 : Int)))]) [] [] (fun _ => by as_aux_lemma => kernel_rfl) trivial ?_
                  refine AtL.bool 76 ((stC (bestM r_)) == (0 : Int)) (by kernel_rfl) (fun hc21 => ?_) (fun hc21 => ?_)
                  · have h := br_t h hc21
                    refine AtL.call 12 #[] (some 77) (by kernel_rfl) _ (fun w8 hRep => known_c w8) ?_
                    rintro w8 e w9 hRep ⟨rfl, hE⟩
                    refine ⟨_, _, _, rfl, rfl, hRep.ext' hE, ?_⟩
                    refine AtL.runR 2 [] [2] [true, true, true, true] ([(2, .bool true)]) [] [] (fun _ => by as_aux_lemma => kernel_rfl) trivial ?_
                    refine AtL.nil (by kernel_rfl) ?_
                    refine Ends.sel [2] [] ([(2, .bool true)]) ([]) (by kernel_rfl) (by kernel_rfl) (by kernel_rfl) ?_
                    exact Ends.mid true (Option.some.inj h).symm (by kernel_rfl) (by kernel_rfl)
                  · have h := br_f h hc21
                    refine AtL.runR 3 [] [2] [true, true, true, true] ([(2, .bool false)]) [] [] (fun _ => by as_aux_lemma => kernel_rfl) trivial ?_
                    refine AtL.nil (by kernel_rfl) ?_
                    refine Ends.sel [2] [] ([(2, .bool false)]) ([]) (by kernel_rfl) (by kernel_rfl) (by kernel_rfl) ?_
                    exact Ends.mid false (Option.some.inj h).symm (by kernel_rfl) (by kernel_rfl)
                · have h := br_f h hc20
                  refine AtL.runR 7 [] [2] [true, true, true, true] ([(2, .bool false)]) [] [] (fun _ => by as_aux_lemma => kernel_rfl) trivial ?_
                  refine AtL.nil (by kernel_rfl) ?_
                  refine Ends.sel [2] [] ([(2, .bool false)]) ([]) (by kernel_rfl) (by kernel_rfl) (by kernel_rfl) ?_
                  exact Ends.mid false (Option.some.inj h).symm (by kernel_rfl) (by kernel_rfl)
              · have h := br_f h hc19
                refine AtL.runR 12 [] [2] [true, true, true, true] ([(2, .bool false)]) [] [] (fun _ => by as_aux_lemma => kernel_rfl) trivial ?_
                refine AtL.nil (by kernel_rfl) ?_
                refine Ends.sel [2] [] ([(2, .bool false)]) ([]) (by kernel_rfl) (by kernel_rfl) (by kernel_rfl) ?_
                exact Ends.mid false (Option.some.inj h).symm (by kernel_rfl) (by kernel_rfl)
            · revert hI; revert s; intro t218 hI
              replace hI : o17 = t218 := hI
              have h := hr17
              try rw [hI] at h
              refine At.runR [] [2] [] (.ret) ([(2, .bool t218)]) [] [] (fun _ => by as_aux_lemma => kernel_rfl) trivial ?_
              refine Ends.then_ret ?_
              refine Ends.body [] (.bool t218) [] (by kernel_rfl) (fun w9 hRep => ?_)
              obtain rfl := Option.some.inj h
              exact ⟨rfl, hRep.ext⟩
          · have h := br_f h hc16
            refine At.runR [] [3, 4, 5, 7, 8] [true, true, true, true] (.normal) ([(3, .slice a_5 ((stL (bestM r_)).length) c_6), (4, .int .i64 (stC (bestM r_))), (5, .int .i64 (bestE r_)), (7, .slice a_14 r_13.1.length c_15), (8, .int .i64 r_13.2.1)]) [] [] (fun _ => by as_aux_lemma => kernel_rfl) trivial ?_
            refine Ends.seq ?_
            obtain ⟨o22, h, hr22⟩ := bd h
            refine At.seq_mid (σ := Bool) (fun s => o22 = s) (fun s => [(2, .bool s)]) (fun s => []) ?_ (fun s hI => ?_)
            · refine At.region ?_
              refine AtL.runR 3 [] [3, 4, 7, 8, 81] [true, true, true, true] ([(3, .slice a_5 ((stL (bestM r_)).length) c_6), (4, .int .i64 (stC (bestM r_))), (7, .slice a_14 r_13.1.length c_15), (8, .int .i64 r_13.2.1), (81, .bool ((bestE r_) == (0 : Int)))]) [] [] (fun _ => by as_aux_lemma => kernel_rfl) trivial ?_
              refine AtL.bool 81 ((bestE r_) == (0 : Int)) (by kernel_rfl) (fun hc24 => ?_) (fun hc24 => ?_)
              · have h := br_t h hc24
                refine AtL.runR 5 [] [3, 7, 86] [true, true, true, true] ([(3, .slice a_5 ((stL (bestM r_)).length) c_6), (7, .slice a_14 r_13.1.length c_15), (86, .bool ((stC (bestM r_)) == r_13.2.1))]) [] [] (fun _ => by as_aux_lemma => kernel_rfl) trivial ?_
                refine AtL.bool 86 ((stC (bestM r_)) == r_13.2.1) (by kernel_rfl) (fun hc25 => ?_) (fun hc25 => ?_)
                · have h := br_t h hc25
                  refine AtL.runR 2 [] [86, 87, 88] [true, true, true, true] ([(86, .bool true), (87, .slice a_5 ((stL (bestM r_)).length) c_6), (88, .slice a_14 r_13.1.length c_15)]) [] [] (fun _ => by as_aux_lemma => kernel_rfl) trivial ?_
                  obtain ⟨r_26, hs28, h⟩ := bd h
                  refine AtL.call 19 #[.slice a_5 ((stL (bestM r_)).length) c_6, .slice a_14 r_13.1.length c_15] (some 89) (by kernel_rfl) _ (fun w8 hRep => lsame_w F (stL (bestM r_)) r_13.1 a_5 c_6 a_14 c_15 w8 (hRep.toSl 2 rfl hs4.le hs4.big) (hRep.rowSl (enc := intCells) (d := 0) (lo := w.heap.size) (a := a_14) (c := c_15) (xs := r_13.1) 3 rfl) _ hs28) ?_
                  rintro w8 e w9 hRep ⟨rfl, hE⟩
                  refine ⟨_, _, _, rfl, rfl, hRep.ext' hE, ?_⟩
                  refine AtL.runR 2 [] [91] [true, true, true, true] ([(91, .bool r_26)]) [] [] (fun _ => by as_aux_lemma => kernel_rfl) trivial ?_
                  refine AtL.bool 91 (r_26) (by kernel_rfl) (fun hc27 => ?_) (fun hc27 => ?_)
                  · have h := br_t h hc27
                    refine AtL.call 12 #[] (some 92) (by kernel_rfl) _ (fun w8 hRep => known_c w8) ?_
                    rintro w8 e w9 hRep ⟨rfl, hE⟩
                    refine ⟨_, _, _, rfl, rfl, hRep.ext' hE, ?_⟩
                    refine AtL.runR 2 [] [2] [true, true, true, true] ([(2, .bool true)]) [] [] (fun _ => by as_aux_lemma => kernel_rfl) trivial ?_
                    refine AtL.nil (by kernel_rfl) ?_
                    refine Ends.sel [2] [] ([(2, .bool true)]) ([]) (by kernel_rfl) (by kernel_rfl) (by kernel_rfl) ?_
                    exact Ends.mid true (Option.some.inj h).symm (by kernel_rfl) (by kernel_rfl)
                  · have h := br_f h hc27
                    refine AtL.runR 3 [] [2] [true, true, true, true] ([(2, .bool false)]) [] [] (fun _ => by as_aux_lemma => kernel_rfl) trivial ?_
                    refine AtL.nil (by kernel_rfl) ?_
                    refine Ends.sel [2] [] ([(2, .bool false)]) ([]) (by kernel_rfl) (by kernel_rfl) (by kernel_rfl) ?_
                    exact Ends.mid false (Option.some.inj h).symm (by kernel_rfl) (by kernel_rfl)
                · have h := br_f h hc25
                  refine AtL.runR 8 [] [2] [true, true, true, true] ([(2, .bool false)]) [] [] (fun _ => by as_aux_lemma => kernel_rfl) trivial ?_
                  refine AtL.nil (by kernel_rfl) ?_
                  refine Ends.sel [2] [] ([(2, .bool false)]) ([]) (by kernel_rfl) (by kernel_rfl) (by kernel_rfl) ?_
                  exact Ends.mid false (Option.some.inj h).symm (by kernel_rfl) (by kernel_rfl)
              · have h := br_f h hc24
                refine AtL.runR 13 [] [2] [true, true, true, true] ([(2, .bool false)]) [] [] (fun _ => by as_aux_lemma => kernel_rfl) trivial ?_
                refine AtL.nil (by kernel_rfl) ?_
                refine Ends.sel [2] [] ([(2, .bool false)]) ([]) (by kernel_rfl) (by kernel_rfl) (by kernel_rfl) ?_
                exact Ends.mid false (Option.some.inj h).symm (by kernel_rfl) (by kernel_rfl)
            · revert hI; revert s; intro t223 hI
              replace hI : o22 = t223 := hI
              have h := hr22
              try rw [hI] at h
              refine At.runR [] [2] [] (.ret) ([(2, .bool t223)]) [] [] (fun _ => by as_aux_lemma => kernel_rfl) trivial ?_
              refine Ends.body [] (.bool t223) [] (by kernel_rfl) (fun w9 hRep => ?_)
              obtain rfl := Option.some.inj h
              exact ⟨rfl, hRep.ext⟩
end Go.Proofs.Ytojnpaenpaobcaa
