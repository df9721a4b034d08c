/- What the functions of ChargeRefutes mean, and that they compute it. No condition. -/
import Derived.Test.YtojnpaenpaobcaaV
import Derived.Test.YtojnpaenpaobcaaProg
import Derived.Test.YtojnpaenpaobcaaK4
import Derived.Test.YtojnpaenpaobcaaS1
import Derived.Test.YtojnpaenpaobcaaD3
import Derived.Test.YtojnpaenpaobcaaD4
namespace Go.Proofs.Ytojnpaenpaobcaa
open Go.RowKit
def Split.zero : Split := ⟨0, 0, 0⟩
structure Doubt where
 (proof : List Split) (own : Bool) (at_ : Int) (change : Split)
theorem refTrueI_c (p : Recipe) (x : Pile) (c : Int) (hc : inB c 8 = true) (a : Option Addr) (cap : Nat) (w : World) :
  Calls Try.prog 65 #[.agg #[.slice a p.lots.length cap, .int .i64 p.mass.lo, .int .i64 p.mass.hi, .int .i64 p.target.a.lo, .int .i64 p.target.a.hi, .int .i64 p.target.b.lo, .int .i64 p.target.b.hi, .int .i64 p.target.c.lo, .int .i64 p.target.c.hi], .agg #[.int .i64 x.mass, .int .i64 x.con.a.lo, .int .i64 x.con.a.hi, .int .i64 x.con.b.lo, .int .i64 x.con.b.hi, .int .i64 x.con.c.lo, .int .i64 x.con.c.hi], .int .i64 c] w (Ret (.bool (trueB p x c.toNat)) w) := by
 simp only [inB, Bool.and_eq_true, decide_eq_true_eq] at hc
 have := refTrue_c p x c.toNat (by omega) a cap w
 rwa [show ((c.toNat : Nat) : Int) = c by omega] at this
abbrev rcL (a : Option Addr) (c : Nat) (p : Recipe) : List Value := [.slice a p.lots.length c, .int .i64 p.mass.lo, .int .i64 p.mass.hi, .int .i64 p.target.a.lo, .int .i64 p.target.a.hi, .int .i64 p.target.b.lo, .int .i64 p.target.b.hi, .int .i64 p.target.c.lo, .int .i64 p.target.c.hi]
theorem xei3 : EI Try.prog 29 3 1 8 := EI.mk' (z := .int .i64 0) Try.underlying29 (by kernel_rfl) rfl (by decide)
theorem xlen3 (x : Int) : (intCells x).length = 1 := rfl
theorem xone3 : ∀ (x : Int), ∀ u ∈ intCells x, u.oneCell' = true := all_one (fun _ => rfl)
theorem xei29 : EI Try.prog 95 29 1 24 := EI.mk' (z := .slice none 0 0) Try.underlying95 (by kernel_rfl) rfl (by decide)
theorem xei55 : EI Try.prog 53 55 3 24 := EI.mk' (z := .agg #[.int .i64 0, .int .i64 0, .int .i64 0]) Try.underlying53 (by kernel_rfl) rfl (by decide)
theorem xlen55 (x : Split) : (Split.cells x).length = 3 := rfl
theorem xone55 : ∀ (x : Split), ∀ u ∈ Split.cells x, u.oneCell' = true := all_one (fun _ => rfl)
theorem xei43 : EI Try.prog 22 43 9 72 := EI.mk' (z := .agg #[.int .i64 0, .int .i64 0, .int .i64 0, .int .i64 0, .int .i64 0, .int .i64 0, .int .i64 0, .int .i64 0, .int .i64 0]) Try.underlying22 (by kernel_rfl) rfl (by decide)
theorem xlen43 (x : Lot) : (Lot.cells x).length = 9 := rfl
theorem xone43 : ∀ (x : Lot), ∀ u ∈ Lot.cells x, u.oneCell' = true := all_one (fun _ => rfl)
def rIn_S (F : Nat) (n_ : Int) (lo : Int) (hi : Int) : Option (Bool) := ((bif decide (n_ ≥ lo) then (some (decide (n_ ≤ hi))) else (some false))).bind (fun z1 => some z1)
set_option maxRecDepth 100000 in
set_option maxHeartbeats 4000000 in
theorem rIn_w (F : Nat) (n_ : Int) (lo : Int) (hi : Int) (w : World) (v : Bool) (h : rIn_S F n_ lo hi = some v) :
  Calls Try.prog 64 #[.int .i64 n_, .int .i64 lo, .int .i64 hi] w (Ret (.bool v) w) := by
 rw [rIn_S] at h
 refine At.enter Try.func64 rfl 15 [(0, .int .i64 n_), (1, .int .i64 lo), (2, .int .i64 hi)] ([]) [] (by kernel_rfl) ⟨rfl, rfl, rfl, trivial⟩ (Rep.sub (Rep.start w) (by simp)) ?_
 refine At.seq ?_
 refine At.runR [] [0, 1, 2] [] (.normal) ([(0, .int .i64 n_), (1, .int .i64 lo), (2, .int .i64 hi)]) [] [] (fun _ => by as_aux_lemma => kernel_rfl) trivial ?_
 refine Ends.seq ?_
 obtain ⟨o1, h, hr1⟩ := bd h
 refine At.seq_mid (σ := Bool) (fun s => o1 = s) (fun s => [(6, .bool s)]) (fun s => []) ?_ (fun s hI => ?_)
 ·refine At.region ?_
  refine AtL.runR 4 [] [0, 2, 10] [] ([(0, .int .i64 n_), (2, .int .i64 hi), (10, .bool (decide (n_ ≥ lo)))]) [] [] (fun _ => by as_aux_lemma => kernel_rfl) trivial ?_
  refine AtL.bool 10 (decide (n_ ≥ lo)) (by kernel_rfl) (fun hc2 => ?_) (fun hc2 => ?_)
  ·have h := br_t h hc2
   refine AtL.runR 5 [] [6] [] ([(6, .bool (decide (n_ ≤ hi)))]) [] [] (fun _ => by as_aux_lemma => kernel_rfl) trivial ?_
   refine AtL.nil (by kernel_rfl) ?_
   exact Ends.mid (decide (n_ ≤ hi)) (Option.some.inj h).symm (by kernel_rfl) (by kernel_rfl)
  ·have h := br_f h hc2
   refine AtL.runR 5 [] [6] [] ([(6, .bool false)]) [] [] (fun _ => by as_aux_lemma => kernel_rfl) trivial ?_
   refine AtL.nil (by kernel_rfl) ?_
   exact Ends.mid false (Option.some.inj h).symm (by kernel_rfl) (by kernel_rfl)
 ·revert hI; revert s; intro t6 hI
  replace hI : o1 = t6 := hI
  have h := hr1
  try rw [hI] at h
  refine At.runR [] [6] [] (.ret) ([(6, .bool t6)]) [] [] (fun _ => by as_aux_lemma => kernel_rfl) trivial ?_
  refine Ends.body [] (.bool t6) [] (by kernel_rfl) (fun w9 hRep => ?_)
  obtain rfl := Option.some.inj h
  exact ⟨rfl, hRep.ext⟩
def rMany_l3 (F : Nat) (p : Recipe) : Nat → Int → Int → Option (Int)
 | 0, _, _ => none
 | fuel3 + 1, n_2, i => bif decide (i < (p.lots.length : Int)) then (bif inB i p.lots.length then (rMany_l3 F p fuel3 (mn (IntKind.i64.wrap (n_2 * (IntKind.i64.wrap (((nth p.lots Lot.zero i.toNat).count) + (1 : Int))))) (20001 : Int)) (IntKind.i64.wrap (i + (1 : Int)))) else none) else (some n_2)
def rMany_S (F : Nat) (p : Recipe) : Option (Int) := ((rMany_l3 F p F (1 : Int) (0 : Int))).bind (fun z1 => some z1)
set_option maxRecDepth 100000 in
set_option maxHeartbeats 4000000 in
theorem rMany_w (F : Nat) (p : Recipe) (a1 : Option Addr) (c1 : Nat) (w : World) (hs1 : Sl 9 Lot.cells w a1 c1 p.lots) (v : Int) (h : rMany_S F p = some v) :
  Calls Try.prog 25 #[.agg #[.slice a1 p.lots.length c1, .int .i64 p.mass.lo, .int .i64 p.mass.hi, .int .i64 p.target.a.lo, .int .i64 p.target.a.hi, .int .i64 p.target.b.lo, .int .i64 p.target.b.hi, .int .i64 p.target.c.lo, .int .i64 p.target.c.hi]] w (Ret (.int .i64 v) w) := by
 rw [rMany_S] at h
 refine At.enter Try.func25 rfl 23 [(0, .agg (rcL a1 c1 p).toArray)] ([.sl a1 9 p.lots.length (fun i_ => Lot.cells (nth p.lots Lot.zero i_))]) [] (by kernel_rfl) ⟨rfl, trivial⟩ (Rep.sub (Rep.sl (Rep.start w) Lot.zero hs1 (by simp [Ent.mut])) (by simp)) ?_
 refine At.seq ?_
 refine At.run [] [1] [true, true] (.normal) (fun B3 => [(1, .pointer (some ⟨B3, 0, none⟩))]) (fun B3 => [.sl a1 9 p.lots.length (fun i_ => Lot.cells (nth p.lots Lot.zero i_)), .blk B3 (rcL a1 c1 p) 28]) (fun B3 => []) (fun B3 => []) (fun B3 => by as_aux_lemma => kernel_rfl) (fun B3 => trivial) (fun B3 => ?_)
 refine Ends.seq ?_
 refine At.seq ?_
 refine At.runR [] [1, 3] [true, true] (.normal) ([(1, .pointer (some ⟨B3, 0, none⟩)), (3, .int .i64 1)]) [] [] (fun _ => by as_aux_lemma => kernel_rfl) trivial ?_
 refine Ends.seq ?_
 obtain ⟨o1, h, hr1⟩ := bd h
 refine At.seq_mid (σ := Int) (fun s => o1 = s) (fun s => [(3, .int .i64 s)]) (fun s => []) ?_ (fun s hI => ?_)
 ·refine At.seq ?_
  refine At.runR [] [1, 3, 4] [true, true] (.normal) ([(1, .pointer (some ⟨B3, 0, none⟩)), (3, .int .i64 1), (4, .int .i64 0)]) [] [] (fun _ => by as_aux_lemma => kernel_rfl) trivial ?_
  refine Ends.seq ?_
  refine At.block ?_
  refine At.loop (σ := Int × Int) (fun n s => rMany_l3 F p n s.1 s.2 = some o1) (fun s => [(1, .pointer (some ⟨B3, 0, none⟩)), (3, .int .i64 s.1), (4, .int .i64 s.2)]) (fun s => [.sl a1 9 p.lots.length (fun i_ => Lot.cells (nth p.lots Lot.zero i_)), .blk B3 (rcL a1 c1 p) 28]) F ((1 : Int), (0 : Int)) h (by kernel_rfl) (by kernel_rfl) (fun n s hI => ?_)
  obtain ⟨n_2, i⟩ := s
  replace hI : rMany_l3 F p n n_2 i = some o1 := hI
  rcases n with _ | fuel3
  ·cases hI
  ·rw [rMany_l3] at hI
   have h := hI
   clear hI
   refine At.seq ?_
   refine At.seq ?_
   refine At.runR [(1, 0, 0)] [1, 3, 4, 9] [true, true] (.normal) ([(1, .pointer (some ⟨B3, 0, none⟩)), (3, .int .i64 n_2), (4, .int .i64 i), (9, .bool (decide (i < (p.lots.length : Int))))]) [B3, 0] [] (fun _ => by as_aux_lemma => kernel_rfl) trivial ?_
   refine Ends.seq ?_
   refine At.cond (decide (i < (p.lots.length : Int))) (by kernel_rfl) (fun hc4 => ?_) (fun hc4 => ?_)
   ·have h := br_t h hc4
    refine At.runR [] [1, 3, 4] [true, true] (.normal) ([(1, .pointer (some ⟨B3, 0, none⟩)), (3, .int .i64 n_2), (4, .int .i64 i)]) [] [] (fun _ => by as_aux_lemma => kernel_rfl) trivial ?_
    refine Ends.seq ?_
    obtain ⟨g5, h⟩ := gd h
    refine At.runR [(1, 0, 0), (0, 0, 0), (0, 0, i.toNat)] [1, 3, 4] [true, true] (.normal) ([(1, .pointer (some ⟨B3, 0, none⟩)), (3, .int .i64 (mn (IntKind.i64.wrap (n_2 * (IntKind.i64.wrap (((nth p.lots Lot.zero i.toNat).count) + (1 : Int))))) (20001 : Int))), (4, .int .i64 (IntKind.i64.wrap (i + (1 : Int))))]) [B3, 0, slB a1, slO a1 + i.toNat * 9 + 0] [IdxOk a1 a1 p.lots.length p.lots.length i, i.toNat < p.lots.length] (fun _ => by as_aux_lemma => kernel_rfl) ⟨inB_idx g5, inB_lt g5, trivial⟩ ?_
    exact Ends.round fuel3 ((mn (IntKind.i64.wrap (n_2 * (IntKind.i64.wrap (((nth p.lots Lot.zero i.toNat).count) + (1 : Int))))) (20001 : Int)), (IntKind.i64.wrap (i + (1 : Int)))) (Nat.lt_succ_self _) h (by kernel_rfl) (by kernel_rfl)
   ·have h := br_f h hc4
    refine At.runR [] [3] [true, true] (.exit 0) ([(3, .int .i64 n_2)]) [] [] (fun _ => by as_aux_lemma => kernel_rfl) trivial ?_
    refine Ends.then_exit ?_
    refine Ends.then_exit ?_
    refine Ends.block_hit ?_
    refine Ends.sel [3] [] ([(3, .int .i64 n_2)]) ([]) (by kernel_rfl) (by kernel_rfl) (by kernel_rfl) ?_
    exact Ends.mid n_2 (Option.some.inj h).symm (by kernel_rfl) (by kernel_rfl)
 ·revert hI; revert s; intro n_ hI
  replace hI : o1 = n_ := hI
  have h := hr1
  try rw [hI] at h
  refine At.runR [] [2] [] (.ret) ([(2, .int .i64 n_)]) [] [] (fun _ => by as_aux_lemma => kernel_rfl) trivial ?_
  refine Ends.body [] (.int .i64 n_) [] (by kernel_rfl) (fun w9 hRep => ?_)
  obtain rfl := Option.some.inj h
  exact ⟨rfl, hRep.ext⟩
def rWhole_l8 (F : Nat) (p : Recipe) : Nat → (List Int) → (List Int) → Int → Option ((List Int) × (List Int))
 | 0, _, _, _ => none
 | fuel8 + 1, low2, high5, i => bif decide (i < (p.lots.length : Int)) then (bif inB i p.lots.length then (bif lenOk low2.length ([0]).length then (bif lenOk high5.length ([(nth p.lots Lot.zero i.toNat).count]).length then (rWhole_l8 F p fuel8 (low2 ++ [0]) (high5 ++ [(nth p.lots Lot.zero i.toNat).count]) (IntKind.i64.wrap (i + (1 : Int)))) else none) else none) else none) else (some (low2, high5))
def rWhole_S (F : Nat) (p : Recipe) : Option ((List Int) × (List Int)) := ((rWhole_l8 F p F ([] : List Int) ([] : List Int) (0 : Int))).bind (fun z1 => some (z1.1, z1.2))
set_option maxRecDepth 100000 in
set_option maxHeartbeats 4000000 in
theorem rWhole_w (F : Nat) (p : Recipe) (a1 : Option Addr) (c1 : Nat) (w : World) (hs1 : Sl 9 Lot.cells w a1 c1 p.lots) (v : (List Int) × (List Int)) (h : rWhole_S F p = some v) :
  Calls Try.prog 71 #[.agg #[.slice a1 p.lots.length c1, .int .i64 p.mass.lo, .int .i64 p.mass.hi, .int .i64 p.target.a.lo, .int .i64 p.target.a.hi, .int .i64 p.target.b.lo, .int .i64 p.target.b.hi, .int .i64 p.target.c.lo, .int .i64 p.target.c.hi]] w (fun e w' => ∃ xa0 xc0 xa1 xc1, e = .returned (.tuple #[.slice xa0 v.1.length xc0, .slice xa1 v.2.length xc1]) ∧ Rep [] w [owE intCells 0 xa0 xc0 3 1 v.1, owE intCells 0 xa1 xc1 3 1 v.2] w') := by
 rw [rWhole_S] at h
 refine At.enter Try.func71 rfl 30 [(0, .agg (rcL a1 c1 p).toArray)] ([.sl a1 9 p.lots.length (fun i_ => Lot.cells (nth p.lots Lot.zero i_))]) [] (by kernel_rfl) ⟨rfl, trivial⟩ (Rep.sub (Rep.sl (Rep.start w) Lot.zero hs1 (by simp [Ent.mut])) (by simp)) ?_
 refine At.seq ?_
 refine At.run [] [1] [true, true] (.normal) (fun B3 => [(1, .pointer (some ⟨B3, 0, none⟩))]) (fun B3 => [.sl a1 9 p.lots.length (fun i_ => Lot.cells (nth p.lots Lot.zero i_)), .blk B3 (rcL a1 c1 p) 28]) (fun B3 => []) (fun B3 => []) (fun B3 => by as_aux_lemma => kernel_rfl) (fun B3 => trivial) (fun B3 => ?_)
 refine Ends.seq ?_
 refine At.seq ?_
 refine At.run [] [1, 4, 5] [true, true, true, true] (.normal) (fun B6 => [(1, .pointer (some ⟨B3, 0, none⟩)), (4, .slice (some ⟨B6, 0, none⟩) 0 0), (5, .slice (some ⟨(B6 + 1), 0, none⟩) 0 0)]) (fun B6 => [.sl a1 9 p.lots.length (fun i_ => Lot.cells (nth p.lots Lot.zero i_)), .blk B3 (rcL a1 c1 p) 28, .blk B6 [] 3, .blk (B6 + 1) [] 3]) (fun B6 => []) (fun B6 => []) (fun B6 => by as_aux_lemma => kernel_rfl) (fun B6 => trivial) (fun B6 => ?_)
 refine Ends.seq ?_
 obtain ⟨o1, h, hr1⟩ := bd h
 refine At.seq_mid (σ := (List Int) × (Option Addr) × Nat × (List Int) × (Option Addr) × Nat) (fun s => o1 = (s.1, s.2.2.2.1)) (fun s => [(4, .slice s.2.1 s.1.length s.2.2.1), (5, .slice s.2.2.2.2.1 s.2.2.2.1.length s.2.2.2.2.2)]) (fun s => [owE intCells 0 s.2.1 s.2.2.1 3 1 s.1, owE intCells 0 s.2.2.2.2.1 s.2.2.2.2.2 3 1 s.2.2.2.1]) ?_ (fun s hI => ?_)
 ·refine At.seq ?_
  refine At.runR [] [1, 4, 5, 6] [true, true, true, true] (.normal) ([(1, .pointer (some ⟨B3, 0, none⟩)), (4, .slice (some ⟨B6, 0, none⟩) 0 0), (5, .slice (some ⟨(B6 + 1), 0, none⟩) 0 0), (6, .int .i64 0)]) [] [] (fun _ => by as_aux_lemma => kernel_rfl) trivial ?_
  refine Ends.seq ?_
  refine At.block ?_
  refine At.addRow 2 B6 3 [] (by kernel_rfl) intCells 0 1 ([] : List Int) xlen3 (by kernel_rfl) (Nat.le_of_ble_eq_true rfl) (by simp) ?_
  refine At.addRow 2 (B6 + 1) 3 [] (by kernel_rfl) intCells 0 1 ([] : List Int) xlen3 (by kernel_rfl) (Nat.le_of_ble_eq_true rfl) (by simp) ?_
  refine At.loop (σ := (List Int) × (Option Addr) × Nat × (List Int) × (Option Addr) × Nat × Int) (fun n s => rWhole_l8 F p n s.1 s.2.2.2.1 s.2.2.2.2.2.2 = some o1) (fun s => [(1, .pointer (some ⟨B3, 0, none⟩)), (4, .slice s.2.1 s.1.length s.2.2.1), (5, .slice s.2.2.2.2.1 s.2.2.2.1.length s.2.2.2.2.2.1), (6, .int .i64 s.2.2.2.2.2.2)]) (fun s => [.sl a1 9 p.lots.length (fun i_ => Lot.cells (nth p.lots Lot.zero i_)), .blk B3 (rcL a1 c1 p) 28, owE intCells 0 s.2.1 s.2.2.1 3 1 s.1, owE intCells 0 s.2.2.2.2.1 s.2.2.2.2.2.1 3 1 s.2.2.2.1]) F (([] : List Int), (some ⟨B6, 0, none⟩), ([] : List Int).length, ([] : List Int), (some ⟨(B6 + 1), 0, none⟩), ([] : List Int).length, (0 : Int)) h (by kernel_rfl) (by kernel_rfl) (fun n s hI => ?_)
  obtain ⟨low2, a_low3, c_low4, high5, a_high6, c_high7, i⟩ := s
  replace hI : rWhole_l8 F p n low2 high5 i = some o1 := hI
  rcases n with _ | fuel8
  ·cases hI
  ·rw [rWhole_l8] at hI
   have h := hI
   clear hI
   refine At.seq ?_
   refine At.seq ?_
   refine At.runR [(1, 0, 0)] [1, 4, 5, 6, 13] [true, true, true, true] (.normal) ([(1, .pointer (some ⟨B3, 0, none⟩)), (4, .slice a_low3 low2.length c_low4), (5, .slice a_high6 high5.length c_high7), (6, .int .i64 i), (13, .bool (decide (i < (p.lots.length : Int))))]) [B3, 0] [] (fun _ => by as_aux_lemma => kernel_rfl) trivial ?_
   refine Ends.seq ?_
   refine At.cond (decide (i < (p.lots.length : Int))) (by kernel_rfl) (fun hc9 => ?_) (fun hc9 => ?_)
   ·have h := br_t h hc9
    refine At.runR [] [1, 4, 5, 6] [true, true, true, true] (.normal) ([(1, .pointer (some ⟨B3, 0, none⟩)), (4, .slice a_low3 low2.length c_low4), (5, .slice a_high6 high5.length c_high7), (6, .int .i64 i)]) [] [] (fun _ => by as_aux_lemma => kernel_rfl) trivial ?_
    refine Ends.seq ?_
    refine At.seq ?_
    refine At.block ?_
    refine At.tree ([.sl a1 9 p.lots.length (fun i_ => Lot.cells (nth p.lots Lot.zero i_)), .blk B3 (rcL a1 c1 p) 28]) [0, 1] (by kernel_rfl) (by kernel_rfl) (.pu [0, 3, 4, 6] (.st [5] (.st [7, 8] (.st [9] (.fork 1 (.fork 2 (.mv 10 (.mv 11 (.pu [12, 13] .done))) 10 (.mv 2 (.mv 11 (.pu [12, 13] .done)))) 10 (.mv 1 (.mv 2 (.mv 11 (.pu [12, 13] .done))))))))) (by kernel_rfl) (by kernel_rfl) ?_
    refine AtT.pu ?_
    refine AtY.runp 4 [1, 4, 5, 6, 16, 19, 20, 22] ([(1, .pointer (some ⟨B3, 0, none⟩)), (4, .slice a_low3 low2.length c_low4), (5, .slice a_high6 high5.length c_high7), (6, .int .i64 i), (16, .slice a_low3 low2.length c_low4), (19, .slice a_high6 high5.length c_high7), (20, .pointer (some ⟨B3, 0, none⟩)), (22, .int .i64 i)]) [] (by as_aux_lemma => kernel_rfl) trivial ?_
    refine AtY.nilt (by kernel_rfl) ?_
    refine AtT.st ?_
    refine AtY.run 1 [(1, 0, 0)] [1, 4, 5, 6, 16, 19, 21, 22] ([(1, .pointer (some ⟨B3, 0, none⟩)), (4, .slice a_low3 low2.length c_low4), (5, .slice a_high6 high5.length c_high7), (6, .int .i64 i), (16, .slice a_low3 low2.length c_low4), (19, .slice a_high6 high5.length c_high7), (21, .slice a1 p.lots.length c1), (22, .int .i64 i)]) [B3, 0] [] (by as_aux_lemma => kernel_rfl) trivial ?_
    refine AtY.nilt (by kernel_rfl) ?_
    refine AtT.st ?_
    obtain ⟨g10, h⟩ := gd h
    refine AtY.run 2 [(0, 0, 0)] [1, 4, 5, 6, 16, 19, 24] ([(1, .pointer (some ⟨B3, 0, none⟩)), (4, .slice a_low3 low2.length c_low4), (5, .slice a_high6 high5.length c_high7), (6, .int .i64 i), (16, .slice a_low3 low2.length c_low4), (19, .slice a_high6 high5.length c_high7), (24, .pointer (some ⟨slB a1, slO a1 + i.toNat * 9, none⟩))]) [] [IdxOk a1 a1 p.lots.length p.lots.length i] (by as_aux_lemma => kernel_rfl) ⟨inB_idx g10, trivial⟩ ?_
    refine AtY.nilt (by kernel_rfl) ?_
    refine AtT.st ?_
    refine AtY.run 1 [(0, 0, i.toNat)] [1, 4, 5, 6, 16, 19, 25] ([(1, .pointer (some ⟨B3, 0, none⟩)), (4, .slice a_low3 low2.length c_low4), (5, .slice a_high6 high5.length c_high7), (6, .int .i64 i), (16, .slice a_low3 low2.length c_low4), (19, .slice a_high6 high5.length c_high7), (25, .int .i64 ((nth p.lots Lot.zero i.toNat).count))]) [slB a1, slO a1 + i.toNat * 9 + 0] [i.toNat < p.lots.length] (by as_aux_lemma => kernel_rfl) ⟨inB_lt g10, trivial⟩ ?_
    refine AtY.nilt (by kernel_rfl) ?_
    refine AtT.fork ?_ ?_
    ·refine AtT.mv ?_
     refine AtL.run 1 [] [1, 4, 5, 6, 16, 17, 19, 25] [true, true, true, true, true] (fun B32 => [(1, .pointer (some ⟨B3, 0, none⟩)), (4, .slice a_low3 low2.length c_low4), (5, .slice a_high6 high5.length c_high7), (6, .int .i64 i), (16, .slice a_low3 low2.length c_low4), (17, .slice (some ⟨B32, 0, none⟩) 1 1), (19, .slice a_high6 high5.length c_high7), (25, .int .i64 ((nth p.lots Lot.zero i.toNat).count))]) (fun B32 => [.sl a1 9 p.lots.length (fun i_ => Lot.cells (nth p.lots Lot.zero i_)), .blk B3 (rcL a1 c1 p) 28, owE intCells 0 a_low3 c_low4 3 1 low2, owE intCells 0 a_high6 c_high7 3 1 high5, .blk B32 [.int .i64 0] 3]) (fun B32 => []) (fun B32 => []) (fun B32 => by as_aux_lemma => kernel_rfl) (fun B32 => trivial) (fun B32 => ?_)
     refine AtL.nil (by kernel_rfl) ?_
     refine Ends.mvt [0, 1] (by kernel_rfl) (by kernel_rfl) ?_
     refine AtT.fork ?_ ?_
     ·refine AtT.mv ?_
      obtain ⟨g11, h⟩ := gd h
      refine AtL.append 0 xei3 xlen3 xone3 (by decide) (some 18) 2 a_low3 c_low4 low2 (by kernel_rfl) (some ⟨B32, 0, none⟩) 1 1 ([0]) (by kernel_rfl) (by kernel_rfl) (Adds.row (i := 4) (b := B32) (T := 3) (cs := [.int .i64 0]) 0 (by kernel_rfl) (by kernel_rfl)) (lenOk_le g11) (fun a_ c_ K9 hK9 => ?_)
      obtain rfl := Option.some.inj hK9
      refine AtL.fit [1, 5, 6, 17, 18, 19, 25] ([(1, .pointer (some ⟨B3, 0, none⟩)), (5, .slice a_high6 high5.length c_high7), (6, .int .i64 i), (17, .slice (some ⟨B32, 0, none⟩) 1 1), (18, .slice a_ ((low2 ++ [0]).length) c_), (19, .slice a_high6 high5.length c_high7), (25, .int .i64 ((nth p.lots Lot.zero i.toNat).count))]) ([.sl a1 9 p.lots.length (fun i_ => Lot.cells (nth p.lots Lot.zero i_)), .blk B3 (rcL a1 c1 p) 28, owE intCells 0 a_high6 c_high7 3 1 high5, .blk B32 [.int .i64 0] 3, owE intCells 0 a_ c_ 3 1 (low2 ++ [0])]) (by kernel_rfl) (by kernel_rfl) ?_
      refine AtL.nil (by kernel_rfl) ?_
      refine Ends.mvt [0, 1] (by kernel_rfl) (by kernel_rfl) ?_
      refine AtT.mv ?_
      refine AtL.run 1 [] [1, 5, 6, 18, 19, 26] [true, true, true, false, true, true] (fun B35 => [(1, .pointer (some ⟨B3, 0, none⟩)), (5, .slice a_high6 high5.length c_high7), (6, .int .i64 i), (18, .slice a_ ((low2 ++ [0]).length) c_), (19, .slice a_high6 high5.length c_high7), (26, .slice (some ⟨B35, 0, none⟩) 1 1)]) (fun B35 => [.sl a1 9 p.lots.length (fun i_ => Lot.cells (nth p.lots Lot.zero i_)), .blk B3 (rcL a1 c1 p) 28, owE intCells 0 a_high6 c_high7 3 1 high5, owE intCells 0 a_ c_ 3 1 (low2 ++ [0]), .blk B35 [.int .i64 ((nth p.lots Lot.zero i.toNat).count)] 3]) (fun B35 => []) (fun B35 => []) (fun B35 => by as_aux_lemma => kernel_rfl) (fun B35 => trivial) (fun B35 => ?_)
      refine AtL.nil (by kernel_rfl) ?_
      refine Ends.mvt [0, 1] (by kernel_rfl) (by kernel_rfl) ?_
      refine AtT.mv ?_
      obtain ⟨g12, h⟩ := gd h
      refine AtL.append 0 xei3 xlen3 xone3 (by decide) (some 27) 2 a_high6 c_high7 high5 (by kernel_rfl) (some ⟨B35, 0, none⟩) 1 1 ([(nth p.lots Lot.zero i.toNat).count]) (by kernel_rfl) (by kernel_rfl) (Adds.row (i := 4) (b := B35) (T := 3) (cs := [.int .i64 ((nth p.lots Lot.zero i.toNat).count)]) ((nth p.lots Lot.zero i.toNat).count) (by kernel_rfl) (by kernel_rfl)) (lenOk_le g12) (fun a_13 c_14 K9 hK9 => ?_)
      obtain rfl := Option.some.inj hK9
      refine AtL.fit [1, 6, 18, 26, 27] ([(1, .pointer (some ⟨B3, 0, none⟩)), (6, .int .i64 i), (18, .slice a_ ((low2 ++ [0]).length) c_), (26, .slice (some ⟨B35, 0, none⟩) 1 1), (27, .slice a_13 ((high5 ++ [(nth p.lots Lot.zero i.toNat).count]).length) c_14)]) ([.sl a1 9 p.lots.length (fun i_ => Lot.cells (nth p.lots Lot.zero i_)), .blk B3 (rcL a1 c1 p) 28, owE intCells 0 a_ c_ 3 1 (low2 ++ [0]), .blk B35 [.int .i64 ((nth p.lots Lot.zero i.toNat).count)] 3, owE intCells 0 a_13 c_14 3 1 (high5 ++ [(nth p.lots Lot.zero i.toNat).count])]) (by kernel_rfl) (by kernel_rfl) ?_
      refine AtL.nil (by kernel_rfl) ?_
      refine Ends.mvt [0, 1] (by kernel_rfl) (by kernel_rfl) ?_
      refine AtT.pu ?_
      refine AtY.runp 2 [1, 4, 5, 6] ([(1, .pointer (some ⟨B3, 0, none⟩)), (4, .slice a_ ((low2 ++ [0]).length) c_), (5, .slice a_13 ((high5 ++ [(nth p.lots Lot.zero i.toNat).count]).length) c_14), (6, .int .i64 i)]) [] (by as_aux_lemma => kernel_rfl) trivial ?_
      refine AtY.nilt (by kernel_rfl) ?_
      refine AtT.done ?_
      refine Ends.weak [1, 4, 5, 6] [true, true, true, false, true] ([(1, .pointer (some ⟨B3, 0, none⟩)), (4, .slice a_ ((low2 ++ [0]).length) c_), (5, .slice a_13 ((high5 ++ [(nth p.lots Lot.zero i.toNat).count]).length) c_14), (6, .int .i64 i)]) ([.sl a1 9 p.lots.length (fun i_ => Lot.cells (nth p.lots Lot.zero i_)), .blk B3 (rcL a1 c1 p) 28, owE intCells 0 a_ c_ 3 1 (low2 ++ [0]), owE intCells 0 a_13 c_14 3 1 (high5 ++ [(nth p.lots Lot.zero i.toNat).count])]) (by kernel_rfl) (by kernel_rfl) ?_
      refine Ends.block_normal ?_
      refine Ends.seq ?_
      refine At.runR [] [1, 4, 5, 6] [true, true, true, true] (.normal) ([(1, .pointer (some ⟨B3, 0, none⟩)), (4, .slice a_ ((low2 ++ [0]).length) c_), (5, .slice a_13 ((high5 ++ [(nth p.lots Lot.zero i.toNat).count]).length) c_14), (6, .int .i64 (IntKind.i64.wrap (i + (1 : Int))))]) [] [] (fun _ => by as_aux_lemma => kernel_rfl) trivial ?_
      exact Ends.round fuel8 ((low2 ++ [0]), a_, c_, (high5 ++ [(nth p.lots Lot.zero i.toNat).count]), a_13, c_14, (IntKind.i64.wrap (i + (1 : Int)))) (Nat.lt_succ_self _) h (by kernel_rfl) (by kernel_rfl)
     ·refine AtT.mv ?_
      refine AtL.run 1 [] [1, 4, 5, 6, 16, 17, 19, 26] [true, true, true, true, true, true] (fun B40 => [(1, .pointer (some ⟨B3, 0, none⟩)), (4, .slice a_low3 low2.length c_low4), (5, .slice a_high6 high5.length c_high7), (6, .int .i64 i), (16, .slice a_low3 low2.length c_low4), (17, .slice (some ⟨B32, 0, none⟩) 1 1), (19, .slice a_high6 high5.length c_high7), (26, .slice (some ⟨B40, 0, none⟩) 1 1)]) (fun B40 => [.sl a1 9 p.lots.length (fun i_ => Lot.cells (nth p.lots Lot.zero i_)), .blk B3 (rcL a1 c1 p) 28, owE intCells 0 a_low3 c_low4 3 1 low2, owE intCells 0 a_high6 c_high7 3 1 high5, .blk B32 [.int .i64 0] 3, .blk B40 [.int .i64 ((nth p.lots Lot.zero i.toNat).count)] 3]) (fun B40 => []) (fun B40 => []) (fun B40 => by as_aux_lemma => kernel_rfl) (fun B40 => trivial) (fun B40 => ?_)
      refine AtL.nil (by kernel_rfl) ?_
      refine Ends.mvt [0, 1] (by kernel_rfl) (by kernel_rfl) ?_
      refine AtT.mv ?_
      obtain ⟨g15, h⟩ := gd h
      refine AtL.append 0 xei3 xlen3 xone3 (by decide) (some 18) 2 a_low3 c_low4 low2 (by kernel_rfl) (some ⟨B32, 0, none⟩) 1 1 ([0]) (by kernel_rfl) (by kernel_rfl) (Adds.row (i := 4) (b := B32) (T := 3) (cs := [.int .i64 0]) 0 (by kernel_rfl) (by kernel_rfl)) (lenOk_le g15) (fun a_16 c_17 K9 hK9 => ?_)
      obtain rfl := Option.some.inj hK9
      refine AtL.fit [1, 5, 6, 17, 18, 19, 26] ([(1, .pointer (some ⟨B3, 0, none⟩)), (5, .slice a_high6 high5.length c_high7), (6, .int .i64 i), (17, .slice (some ⟨B32, 0, none⟩) 1 1), (18, .slice a_16 ((low2 ++ [0]).length) c_17), (19, .slice a_high6 high5.length c_high7), (26, .slice (some ⟨B40, 0, none⟩) 1 1)]) ([.sl a1 9 p.lots.length (fun i_ => Lot.cells (nth p.lots Lot.zero i_)), .blk B3 (rcL a1 c1 p) 28, owE intCells 0 a_high6 c_high7 3 1 high5, .blk B32 [.int .i64 0] 3, .blk B40 [.int .i64 ((nth p.lots Lot.zero i.toNat).count)] 3, owE intCells 0 a_16 c_17 3 1 (low2 ++ [0])]) (by kernel_rfl) (by kernel_rfl) ?_
      refine AtL.nil (by kernel_rfl) ?_
      refine Ends.mvt [0, 1] (by kernel_rfl) (by kernel_rfl) ?_
      refine AtT.mv ?_
      obtain ⟨g18, h⟩ := gd h
      refine AtL.append 0 xei3 xlen3 xone3 (by decide) (some 27) 2 a_high6 c_high7 high5 (by kernel_rfl) (some ⟨B40, 0, none⟩) 1 1 ([(nth p.lots Lot.zero i.toNat).count]) (by kernel_rfl) (by kernel_rfl) (Adds.row (i := 4) (b := B40) (T := 3) (cs := [.int .i64 ((nth p.lots Lot.zero i.toNat).count)]) ((nth p.lots Lot.zero i.toNat).count) (by kernel_rfl) (by kernel_rfl)) (lenOk_le g18) (fun a_19 c_20 K9 hK9 => ?_)
      obtain rfl := Option.some.inj hK9
      refine AtL.fit [1, 6, 17, 18, 26, 27] ([(1, .pointer (some ⟨B3, 0, none⟩)), (6, .int .i64 i), (17, .slice (some ⟨B32, 0, none⟩) 1 1), (18, .slice a_16 ((low2 ++ [0]).length) c_17), (26, .slice (some ⟨B40, 0, none⟩) 1 1), (27, .slice a_19 ((high5 ++ [(nth p.lots Lot.zero i.toNat).count]).length) c_20)]) ([.sl a1 9 p.lots.length (fun i_ => Lot.cells (nth p.lots Lot.zero i_)), .blk B3 (rcL a1 c1 p) 28, .blk B32 [.int .i64 0] 3, .blk B40 [.int .i64 ((nth p.lots Lot.zero i.toNat).count)] 3, owE intCells 0 a_16 c_17 3 1 (low2 ++ [0]), owE intCells 0 a_19 c_20 3 1 (high5 ++ [(nth p.lots Lot.zero i.toNat).count])]) (by kernel_rfl) (by kernel_rfl) ?_
      refine AtL.nil (by kernel_rfl) ?_
      refine Ends.mvt [0, 1] (by kernel_rfl) (by kernel_rfl) ?_
      refine AtT.pu ?_
      refine AtY.runp 2 [1, 4, 5, 6] ([(1, .pointer (some ⟨B3, 0, none⟩)), (4, .slice a_16 ((low2 ++ [0]).length) c_17), (5, .slice a_19 ((high5 ++ [(nth p.lots Lot.zero i.toNat).count]).length) c_20), (6, .int .i64 i)]) [] (by as_aux_lemma => kernel_rfl) trivial ?_
      refine AtY.nilt (by kernel_rfl) ?_
      refine AtT.done ?_
      refine Ends.weak [1, 4, 5, 6] [true, true, false, false, true, true] ([(1, .pointer (some ⟨B3, 0, none⟩)), (4, .slice a_16 ((low2 ++ [0]).length) c_17), (5, .slice a_19 ((high5 ++ [(nth p.lots Lot.zero i.toNat).count]).length) c_20), (6, .int .i64 i)]) ([.sl a1 9 p.lots.length (fun i_ => Lot.cells (nth p.lots Lot.zero i_)), .blk B3 (rcL a1 c1 p) 28, owE intCells 0 a_16 c_17 3 1 (low2 ++ [0]), owE intCells 0 a_19 c_20 3 1 (high5 ++ [(nth p.lots Lot.zero i.toNat).count])]) (by kernel_rfl) (by kernel_rfl) ?_
      refine Ends.block_normal ?_
      refine Ends.seq ?_
      refine At.runR [] [1, 4, 5, 6] [true, true, true, true] (.normal) ([(1, .pointer (some ⟨B3, 0, none⟩)), (4, .slice a_16 ((low2 ++ [0]).length) c_17), (5, .slice a_19 ((high5 ++ [(nth p.lots Lot.zero i.toNat).count]).length) c_20), (6, .int .i64 (IntKind.i64.wrap (i + (1 : Int))))]) [] [] (fun _ => by as_aux_lemma => kernel_rfl) trivial ?_
      exact Ends.round fuel8 ((low2 ++ [0]), a_16, c_17, (high5 ++ [(nth p.lots Lot.zero i.toNat).count]), a_19, c_20, (IntKind.i64.wrap (i + (1 : Int)))) (Nat.lt_succ_self _) h (by kernel_rfl) (by kernel_rfl)
    ·refine AtT.mv ?_
     refine AtL.run 1 [] [1, 4, 5, 6, 16, 19, 26] [true, true, true, true, true] (fun B47 => [(1, .pointer (some ⟨B3, 0, none⟩)), (4, .slice a_low3 low2.length c_low4), (5, .slice a_high6 high5.length c_high7), (6, .int .i64 i), (16, .slice a_low3 low2.length c_low4), (19, .slice a_high6 high5.length c_high7), (26, .slice (some ⟨B47, 0, none⟩) 1 1)]) (fun B47 => [.sl a1 9 p.lots.length (fun i_ => Lot.cells (nth p.lots Lot.zero i_)), .blk B3 (rcL a1 c1 p) 28, owE intCells 0 a_low3 c_low4 3 1 low2, owE intCells 0 a_high6 c_high7 3 1 high5, .blk B47 [.int .i64 ((nth p.lots Lot.zero i.toNat).count)] 3]) (fun B47 => []) (fun B47 => []) (fun B47 => by as_aux_lemma => kernel_rfl) (fun B47 => trivial) (fun B47 => ?_)
     refine AtL.nil (by kernel_rfl) ?_
     refine Ends.mvt [0, 1] (by kernel_rfl) (by kernel_rfl) ?_
     refine AtT.mv ?_
     refine AtL.run 1 [] [1, 4, 5, 6, 16, 17, 19, 26] [true, true, true, true, true, true] (fun B48 => [(1, .pointer (some ⟨B3, 0, none⟩)), (4, .slice a_low3 low2.length c_low4), (5, .slice a_high6 high5.length c_high7), (6, .int .i64 i), (16, .slice a_low3 low2.length c_low4), (17, .slice (some ⟨B48, 0, none⟩) 1 1), (19, .slice a_high6 high5.length c_high7), (26, .slice (some ⟨B47, 0, none⟩) 1 1)]) (fun B48 => [.sl a1 9 p.lots.length (fun i_ => Lot.cells (nth p.lots Lot.zero i_)), .blk B3 (rcL a1 c1 p) 28, owE intCells 0 a_low3 c_low4 3 1 low2, owE intCells 0 a_high6 c_high7 3 1 high5, .blk B47 [.int .i64 ((nth p.lots Lot.zero i.toNat).count)] 3, .blk B48 [.int .i64 0] 3]) (fun B48 => []) (fun B48 => []) (fun B48 => by as_aux_lemma => kernel_rfl) (fun B48 => trivial) (fun B48 => ?_)
     refine AtL.nil (by kernel_rfl) ?_
     refine Ends.mvt [0, 1] (by kernel_rfl) (by kernel_rfl) ?_
     refine AtT.mv ?_
     obtain ⟨g21, h⟩ := gd h
     refine AtL.append 0 xei3 xlen3 xone3 (by decide) (some 18) 2 a_low3 c_low4 low2 (by kernel_rfl) (some ⟨B48, 0, none⟩) 1 1 ([0]) (by kernel_rfl) (by kernel_rfl) (Adds.row (i := 5) (b := B48) (T := 3) (cs := [.int .i64 0]) 0 (by kernel_rfl) (by kernel_rfl)) (lenOk_le g21) (fun a_22 c_23 K9 hK9 => ?_)
     obtain rfl := Option.some.inj hK9
     refine AtL.fit [1, 5, 6, 17, 18, 19, 26] ([(1, .pointer (some ⟨B3, 0, none⟩)), (5, .slice a_high6 high5.length c_high7), (6, .int .i64 i), (17, .slice (some ⟨B48, 0, none⟩) 1 1), (18, .slice a_22 ((low2 ++ [0]).length) c_23), (19, .slice a_high6 high5.length c_high7), (26, .slice (some ⟨B47, 0, none⟩) 1 1)]) ([.sl a1 9 p.lots.length (fun i_ => Lot.cells (nth p.lots Lot.zero i_)), .blk B3 (rcL a1 c1 p) 28, owE intCells 0 a_high6 c_high7 3 1 high5, .blk B47 [.int .i64 ((nth p.lots Lot.zero i.toNat).count)] 3, .blk B48 [.int .i64 0] 3, owE intCells 0 a_22 c_23 3 1 (low2 ++ [0])]) (by kernel_rfl) (by kernel_rfl) ?_
     refine AtL.nil (by kernel_rfl) ?_
     refine Ends.mvt [0, 1] (by kernel_rfl) (by kernel_rfl) ?_
     refine AtT.mv ?_
     obtain ⟨g24, h⟩ := gd h
     refine AtL.append 0 xei3 xlen3 xone3 (by decide) (some 27) 2 a_high6 c_high7 high5 (by kernel_rfl) (some ⟨B47, 0, none⟩) 1 1 ([(nth p.lots Lot.zero i.toNat).count]) (by kernel_rfl) (by kernel_rfl) (Adds.row (i := 3) (b := B47) (T := 3) (cs := [.int .i64 ((nth p.lots Lot.zero i.toNat).count)]) ((nth p.lots Lot.zero i.toNat).count) (by kernel_rfl) (by kernel_rfl)) (lenOk_le g24) (fun a_25 c_26 K9 hK9 => ?_)
     obtain rfl := Option.some.inj hK9
     refine AtL.fit [1, 6, 17, 18, 26, 27] ([(1, .pointer (some ⟨B3, 0, none⟩)), (6, .int .i64 i), (17, .slice (some ⟨B48, 0, none⟩) 1 1), (18, .slice a_22 ((low2 ++ [0]).length) c_23), (26, .slice (some ⟨B47, 0, none⟩) 1 1), (27, .slice a_25 ((high5 ++ [(nth p.lots Lot.zero i.toNat).count]).length) c_26)]) ([.sl a1 9 p.lots.length (fun i_ => Lot.cells (nth p.lots Lot.zero i_)), .blk B3 (rcL a1 c1 p) 28, .blk B47 [.int .i64 ((nth p.lots Lot.zero i.toNat).count)] 3, .blk B48 [.int .i64 0] 3, owE intCells 0 a_22 c_23 3 1 (low2 ++ [0]), owE intCells 0 a_25 c_26 3 1 (high5 ++ [(nth p.lots Lot.zero i.toNat).count])]) (by kernel_rfl) (by kernel_rfl) ?_
     refine AtL.nil (by kernel_rfl) ?_
     refine Ends.mvt [0, 1] (by kernel_rfl) (by kernel_rfl) ?_
     refine AtT.pu ?_
     refine AtY.runp 2 [1, 4, 5, 6] ([(1, .pointer (some ⟨B3, 0, none⟩)), (4, .slice a_22 ((low2 ++ [0]).length) c_23), (5, .slice a_25 ((high5 ++ [(nth p.lots Lot.zero i.toNat).count]).length) c_26), (6, .int .i64 i)]) [] (by as_aux_lemma => kernel_rfl) trivial ?_
     refine AtY.nilt (by kernel_rfl) ?_
     refine AtT.done ?_
     refine Ends.weak [1, 4, 5, 6] [true, true, false, false, true, true] ([(1, .pointer (some ⟨B3, 0, none⟩)), (4, .slice a_22 ((low2 ++ [0]).length) c_23), (5, .slice a_25 ((high5 ++ [(nth p.lots Lot.zero i.toNat).count]).length) c_26), (6, .int .i64 i)]) ([.sl a1 9 p.lots.length (fun i_ => Lot.cells (nth p.lots Lot.zero i_)), .blk B3 (rcL a1 c1 p) 28, owE intCells 0 a_22 c_23 3 1 (low2 ++ [0]), owE intCells 0 a_25 c_26 3 1 (high5 ++ [(nth p.lots Lot.zero i.toNat).count])]) (by kernel_rfl) (by kernel_rfl) ?_
     refine Ends.block_normal ?_
     refine Ends.seq ?_
     refine At.runR [] [1, 4, 5, 6] [true, true, true, true] (.normal) ([(1, .pointer (some ⟨B3, 0, none⟩)), (4, .slice a_22 ((low2 ++ [0]).length) c_23), (5, .slice a_25 ((high5 ++ [(nth p.lots Lot.zero i.toNat).count]).length) c_26), (6, .int .i64 (IntKind.i64.wrap (i + (1 : Int))))]) [] [] (fun _ => by as_aux_lemma => kernel_rfl) trivial ?_
     exact Ends.round fuel8 ((low2 ++ [0]), a_22, c_23, (high5 ++ [(nth p.lots Lot.zero i.toNat).count]), a_25, c_26, (IntKind.i64.wrap (i + (1 : Int)))) (Nat.lt_succ_self _) h (by kernel_rfl) (by kernel_rfl)
   ·have h := br_f h hc9
    refine At.runR [] [4, 5] [true, true, true, true] (.exit 0) ([(4, .slice a_low3 low2.length c_low4), (5, .slice a_high6 high5.length c_high7)]) [] [] (fun _ => by as_aux_lemma => kernel_rfl) trivial ?_
    refine Ends.then_exit ?_
    refine Ends.then_exit ?_
    refine Ends.block_hit ?_
    refine Ends.sel [4, 5] [2, 3] ([(4, .slice a_low3 low2.length c_low4), (5, .slice a_high6 high5.length c_high7)]) ([owE intCells 0 a_low3 c_low4 3 1 low2, owE intCells 0 a_high6 c_high7 3 1 high5]) (by kernel_rfl) (by kernel_rfl) (by kernel_rfl) ?_
    exact Ends.mid (low2, a_low3, c_low4, high5, a_high6, c_high7) (Option.some.inj h).symm (by kernel_rfl) (by kernel_rfl)
 ·obtain ⟨low, a_low, c_low, high, a_high, c_high⟩ := s
  replace hI : o1 = (low, high) := hI
  have h := hr1
  try rw [hI] at h
  refine At.runR [] [2, 3] [true, true] (.ret) ([(2, .slice a_low low.length c_low), (3, .slice a_high high.length c_high)]) [] [] (fun _ => by as_aux_lemma => kernel_rfl) trivial ?_
  refine Ends.body [] (.tuple #[.slice a_low low.length c_low, .slice a_high high.length c_high]) [] (by kernel_rfl) (fun w9 hRep => ?_)
  obtain rfl := Option.some.inj h
  exact ⟨a_low, c_low, a_high, c_high, rfl, hRep.sel (r := [0, 1]) (by kernel_rfl) (by kernel_rfl)⟩
def rBox_l41 (F : Nat) (high : List Int) (out_2 : List (List Int)) (i : Int) (k : Int) : Nat → (List (List Int)) → Int → Option ((List (List Int)))
 | 0, _, _ => none
 | fuel41 + 1, next36, n_ => bif inB i high.length then (bif decide (n_ ≤ (nth high 0 i.toNat)) then (bif inB k out_2.length then (bif lenOk (([] : List Int).length) (nth out_2 [] k.toNat).length then (bif lenOk ((([] : List Int) ++ (nth out_2 [] k.toNat)).length) ([n_]).length then (bif lenOk next36.length 1 then (rBox_l41 F high out_2 i k fuel41 (next36 ++ [((([] : List Int) ++ (nth out_2 [] k.toNat)) ++ [n_])]) (IntKind.i64.wrap (n_ + (1 : Int)))) else none) else none) else none) else none) else (some next36)) else none
def rBox_l15 (F : Nat) (low : List Int) (high : List Int) (out_2 : List (List Int)) (i : Int) : Nat → (List (List Int)) → Int → Option ((List (List Int)))
 | 0, _, _ => none
 | fuel15 + 1, next10, k => bif decide (k < (out_2.length : Int)) then (((bif inB i low.length then (rBox_l41 F high out_2 i k F next10 (nth low 0 i.toNat)) else none)).bind (fun z21 => rBox_l15 F low high out_2 i fuel15 z21 (IntKind.i64.wrap (k + (1 : Int))))) else (some next10)
def rBox_l7 (F : Nat) (low : List Int) (high : List Int) : Nat → (List (List Int)) → Int → Option ((List (List Int)))
 | 0, _, _ => none
 | fuel7 + 1, out_2, i => bif decide (i < (low.length : Int)) then (((rBox_l15 F low high out_2 i F ([] : List (List Int)) (0 : Int))).bind (fun z9 => rBox_l7 F low high fuel7 z9 (IntKind.i64.wrap (i + (1 : Int))))) else (some out_2)
def rBox_S (F : Nat) (low : List Int) (high : List Int) : Option ((List (List Int))) := ((rBox_l7 F low high F ([([] : List Int)]) (0 : Int))).bind (fun z1 => some z1)
set_option maxRecDepth 100000 in
set_option maxHeartbeats 4000000 in
theorem rBox_w (F : Nat) (low : List Int) (high : List Int) (a1 : Option Addr) (c1 : Nat) (a2 : Option Addr) (c2 : Nat) (w : World) (hs1 : Sl 1 intCells w a1 c1 low) (hs2 : Sl 1 intCells w a2 c2 high) (v : (List (List Int))) (h : rBox_S F low high = some v) :
  Calls Try.prog 72 #[.slice a1 low.length c1, .slice a2 high.length c2] w (fun e w' => ∃ xa0 xc0 xA0 xC0, e = .returned (.slice xa0 v.length xc0) ∧ Rep [] w [hdE 29 v xA0 xC0 xa0 xc0, rwE w.heap.size intCells 0 v xA0 xC0] w') := by
 rw [rBox_S] at h
 refine At.enter Try.func72 rfl 51 [(0, .slice a1 low.length c1), (1, .slice a2 high.length c2)] ([.sl a2 1 high.length (fun i_ => intCells (nth high 0 i_)), .sl a1 1 low.length (fun i_ => intCells (nth low 0 i_))]) [] (by kernel_rfl) ⟨rfl, rfl, trivial⟩ (Rep.sub (Rep.sl (Rep.sl (Rep.start w) 0 hs1 (by simp [Ent.mut])) 0 hs2 (by simp [Ent.mut])) (by simp)) ?_
 refine At.seq ?_
 refine At.runR [] [0, 1] [true, true] (.normal) ([(0, .slice a1 low.length c1), (1, .slice a2 high.length c2)]) [] [] (fun _ => by as_aux_lemma => kernel_rfl) trivial ?_
 refine Ends.seq ?_
 refine At.seq ?_
 refine At.run [] [0, 1, 5] [true, true, true, true] (.normal) (fun B6 => [(0, .slice a1 low.length c1), (1, .slice a2 high.length c2), (5, .slice (some ⟨(B6 + 1), 0, none⟩) 1 1)]) (fun B6 => [.sl a2 1 high.length (fun i_ => intCells (nth high 0 i_)), .sl a1 1 low.length (fun i_ => intCells (nth low 0 i_)), .blk B6 [] 3, .blk (B6 + 1) [.slice (some ⟨B6, 0, none⟩) 0 0] 29]) (fun B6 => []) (fun B6 => []) (fun B6 => by as_aux_lemma => kernel_rfl) (fun B6 => trivial) (fun B6 => ?_)
 refine Ends.seq ?_
 obtain ⟨o1, h, hr1⟩ := bd h
 refine At.seq_mid (σ := (List (List Int)) × (Option Addr) × Nat × (Nat → Option Addr) × (Nat → Nat)) (fun s => o1 = s.1) (fun s => [(5, .slice s.2.1 s.1.length s.2.2.1)]) (fun s => [hdE 29 s.1 s.2.2.2.1 s.2.2.2.2 s.2.1 s.2.2.1, rwE w.heap.size intCells 0 s.1 s.2.2.2.1 s.2.2.2.2]) ?_ (fun s hI => ?_)
 ·refine At.seq ?_
  refine At.runR [] [0, 1, 5, 6] [true, true, true, true] (.normal) ([(0, .slice a1 low.length c1), (1, .slice a2 high.length c2), (5, .slice (some ⟨(B6 + 1), 0, none⟩) 1 1), (6, .int .i64 0)]) [] [] (fun _ => by as_aux_lemma => kernel_rfl) trivial ?_
  refine Ends.seq ?_
  refine At.block ?_
  refine At.addRow 2 B6 3 [] (by kernel_rfl) intCells 0 1 ([] : List Int) xlen3 (by kernel_rfl) (Nat.le_of_ble_eq_true rfl) (by simp) ?_
  refine At.to (To.owRo 3 (enc := intCells) (d := 0) (a := (some ⟨B6, 0, none⟩)) (c := (([] : List Int).length)) (T := 3) (xs := ([] : List Int)) (by kernel_rfl) xlen3 (w.heap.size) (Nat.le_refl _)) ?_
  refine At.to (To.hdRow1 (i := 2) (b := (B6 + 1)) (T := 29) (a := (some ⟨B6, 0, none⟩)) (c := ([] : List Int).length) (y := ([] : List Int)) (enc := intCells) (d := 0) (by kernel_rfl) (j := 2) (lo2 := w.heap.size) (by kernel_rfl) (w.heap.size) (Nat.le_refl _)) ?_
  refine At.sel [0, 1, 5, 6] [0, 1, 3, 4] ([(0, .slice a1 low.length c1), (1, .slice a2 high.length c2), (5, .slice (some ⟨(B6 + 1), 0, none⟩) (([([] : List Int)]).length) 1), (6, .int .i64 0)]) ([.sl a2 1 high.length (fun i_ => intCells (nth high 0 i_)), .sl a1 1 low.length (fun i_ => intCells (nth low 0 i_)), hdE 29 ([([] : List Int)]) (fun _ => (some ⟨B6, 0, none⟩)) (fun _ => ([] : List Int).length) (some ⟨(B6 + 1), 0, none⟩) 1, rwE w.heap.size intCells 0 ([([] : List Int)]) (fun _ => (some ⟨B6, 0, none⟩)) (fun _ => ([] : List Int).length)]) (by kernel_rfl) (by kernel_rfl) (by kernel_rfl) ?_
  refine At.loop (σ := (List (List Int)) × (Option Addr) × Nat × (Nat → Option Addr) × (Nat → Nat) × Int) (fun n s => rBox_l7 F low high n s.1 s.2.2.2.2.2 = some o1) (fun s => [(0, .slice a1 low.length c1), (1, .slice a2 high.length c2), (5, .slice s.2.1 s.1.length s.2.2.1), (6, .int .i64 s.2.2.2.2.2)]) (fun s => [.sl a2 1 high.length (fun i_ => intCells (nth high 0 i_)), .sl a1 1 low.length (fun i_ => intCells (nth low 0 i_)), hdE 29 s.1 s.2.2.2.1 s.2.2.2.2.1 s.2.1 s.2.2.1, rwE w.heap.size intCells 0 s.1 s.2.2.2.1 s.2.2.2.2.1]) F ([([] : List Int)], (some ⟨(B6 + 1), 0, none⟩), 1, (fun _ => (some ⟨B6, 0, none⟩)), (fun _ => ([] : List Int).length), (0 : Int)) h (by kernel_rfl) (by kernel_rfl) (fun n s hI => ?_)
  obtain ⟨out_2, a_out3, c_out4, A_out5, C_out6, i⟩ := s
  replace hI : rBox_l7 F low high n out_2 i = some o1 := hI
  rcases n with _ | fuel7
  ·cases hI
  ·rw [rBox_l7] at hI
   have h := hI
   clear hI
   refine At.seq ?_
   refine At.seq ?_
   refine At.runR [] [0, 1, 5, 6, 15] [true, true, true, true] (.normal) ([(0, .slice a1 low.length c1), (1, .slice a2 high.length c2), (5, .slice a_out3 out_2.length c_out4), (6, .int .i64 i), (15, .bool (decide (i < (low.length : Int))))]) [] [] (fun _ => by as_aux_lemma => kernel_rfl) trivial ?_
   refine Ends.seq ?_
   refine At.cond (decide (i < (low.length : Int))) (by kernel_rfl) (fun hc8 => ?_) (fun hc8 => ?_)
   ·have h := br_t h hc8
    refine At.runR [] [0, 1, 5, 6] [true, true, true, true] (.normal) ([(0, .slice a1 low.length c1), (1, .slice a2 high.length c2), (5, .slice a_out3 out_2.length c_out4), (6, .int .i64 i)]) [] [] (fun _ => by as_aux_lemma => kernel_rfl) trivial ?_
    refine Ends.seq ?_
    refine At.seq ?_
    refine At.block ?_
    refine At.seq ?_
    refine At.run [] [0, 1, 5, 6, 7] [true, true, true, true, true] (.normal) (fun B29 => [(0, .slice a1 low.length c1), (1, .slice a2 high.length c2), (5, .slice a_out3 out_2.length c_out4), (6, .int .i64 i), (7, .slice (some ⟨B29, 0, none⟩) 0 0)]) (fun B29 => [.sl a2 1 high.length (fun i_ => intCells (nth high 0 i_)), .sl a1 1 low.length (fun i_ => intCells (nth low 0 i_)), hdE 29 out_2 A_out5 C_out6 a_out3 c_out4, rwE w.heap.size intCells 0 out_2 A_out5 C_out6, .blk B29 [] 29]) (fun B29 => []) (fun B29 => []) (fun B29 => by as_aux_lemma => kernel_rfl) (fun B29 => trivial) (fun B29 => ?_)
    refine Ends.seq ?_
    obtain ⟨o9, h, hr9⟩ := bd h
    refine At.seq_mid (σ := (List (List Int)) × (Option Addr) × Nat × (Nat → Option Addr) × (Nat → Nat)) (fun s => o9 = s.1) (fun s => [(0, .slice a1 low.length c1), (1, .slice a2 high.length c2), (6, .int .i64 i), (7, .slice s.2.1 s.1.length s.2.2.1)]) (fun s => [.sl a2 1 high.length (fun i_ => intCells (nth high 0 i_)), .sl a1 1 low.length (fun i_ => intCells (nth low 0 i_)), hdE 29 s.1 s.2.2.2.1 s.2.2.2.2 s.2.1 s.2.2.1, rwE w.heap.size intCells 0 s.1 s.2.2.2.1 s.2.2.2.2]) ?_ (fun s hI => ?_)
    ·refine At.seq ?_
     refine At.runR [] [0, 1, 5, 6, 7, 8] [true, true, true, true, true] (.normal) ([(0, .slice a1 low.length c1), (1, .slice a2 high.length c2), (5, .slice a_out3 out_2.length c_out4), (6, .int .i64 i), (7, .slice (some ⟨B29, 0, none⟩) 0 0), (8, .int .i64 0)]) [] [] (fun _ => by as_aux_lemma => kernel_rfl) trivial ?_
     refine Ends.seq ?_
     refine At.block ?_
     refine At.to (To.hdRow0 (i := 4) (b := B29) (T := 29) (by kernel_rfl) (w.heap.size) intCells 0) ?_
     refine At.loop (σ := (List (List Int)) × (Option Addr) × Nat × (Nat → Option Addr) × (Nat → Nat) × Int) (fun n s => rBox_l15 F low high out_2 i n s.1 s.2.2.2.2.2 = some o9) (fun s => [(0, .slice a1 low.length c1), (1, .slice a2 high.length c2), (5, .slice a_out3 out_2.length c_out4), (6, .int .i64 i), (7, .slice s.2.1 s.1.length s.2.2.1), (8, .int .i64 s.2.2.2.2.2)]) (fun s => [.sl a2 1 high.length (fun i_ => intCells (nth high 0 i_)), .sl a1 1 low.length (fun i_ => intCells (nth low 0 i_)), hdE 29 out_2 A_out5 C_out6 a_out3 c_out4, rwE w.heap.size intCells 0 out_2 A_out5 C_out6, hdE 29 s.1 s.2.2.2.1 s.2.2.2.2.1 s.2.1 s.2.2.1, rwE w.heap.size intCells 0 s.1 s.2.2.2.1 s.2.2.2.2.1]) F (([] : List (List Int)), (some ⟨B29, 0, none⟩), 0, (fun _ => none), (fun _ => 0), (0 : Int)) h (by kernel_rfl) (by kernel_rfl) (fun n s hI => ?_)
     obtain ⟨next10, a_next11, c_next12, A_next13, C_next14, k⟩ := s
     replace hI : rBox_l15 F low high out_2 i n next10 k = some o9 := hI
     rcases n with _ | fuel15
     ·cases hI
     ·rw [rBox_l15] at hI
      have h := hI
      clear hI
      refine At.seq ?_
      refine At.seq ?_
      refine At.runR [] [0, 1, 5, 6, 7, 8, 22] [true, true, true, true, true, true] (.normal) ([(0, .slice a1 low.length c1), (1, .slice a2 high.length c2), (5, .slice a_out3 out_2.length c_out4), (6, .int .i64 i), (7, .slice a_next11 next10.length c_next12), (8, .int .i64 k), (22, .bool (decide (k < (out_2.length : Int))))]) [] [] (fun _ => by as_aux_lemma => kernel_rfl) trivial ?_
      refine Ends.seq ?_
      refine At.cond (decide (k < (out_2.length : Int))) (by kernel_rfl) (fun hc16 => ?_) (fun hc16 => ?_)
      ·have h := br_t h hc16
       refine At.runR [] [0, 1, 5, 6, 7, 8] [true, true, true, true, true, true] (.normal) ([(0, .slice a1 low.length c1), (1, .slice a2 high.length c2), (5, .slice a_out3 out_2.length c_out4), (6, .int .i64 i), (7, .slice a_next11 next10.length c_next12), (8, .int .i64 k)]) [] [] (fun _ => by as_aux_lemma => kernel_rfl) trivial ?_
       refine Ends.seq ?_
       obtain ⟨o21, h, hr21⟩ := bd h
       refine At.seq_mid (σ := (List (List Int)) × (Option Addr) × Nat × (Nat → Option Addr) × (Nat → Nat)) (fun s => o21 = s.1) (fun s => [(0, .slice a1 low.length c1), (1, .slice a2 high.length c2), (5, .slice a_out3 out_2.length c_out4), (6, .int .i64 i), (7, .slice s.2.1 s.1.length s.2.2.1), (8, .int .i64 k)]) (fun s => [.sl a2 1 high.length (fun i_ => intCells (nth high 0 i_)), .sl a1 1 low.length (fun i_ => intCells (nth low 0 i_)), hdE 29 out_2 A_out5 C_out6 a_out3 c_out4, rwE w.heap.size intCells 0 out_2 A_out5 C_out6, hdE 29 s.1 s.2.2.2.1 s.2.2.2.2 s.2.1 s.2.2.1, rwE w.heap.size intCells 0 s.1 s.2.2.2.1 s.2.2.2.2]) ?_ (fun s hI => ?_)
       ·refine At.block ?_
        refine At.seq ?_
        obtain ⟨g32, h⟩ := gd h
        refine At.runR [(1, 0, 0), (1, 0, i.toNat)] [0, 1, 5, 6, 7, 8, 9] [true, true, true, true, true, true] (.normal) ([(0, .slice a1 low.length c1), (1, .slice a2 high.length c2), (5, .slice a_out3 out_2.length c_out4), (6, .int .i64 i), (7, .slice a_next11 next10.length c_next12), (8, .int .i64 k), (9, .int .i64 (nth low 0 i.toNat))]) [slB a1, slO a1 + i.toNat * 1 + 0] [IdxOk a1 a1 low.length low.length i, i.toNat < low.length] (fun _ => by as_aux_lemma => kernel_rfl) ⟨inB_idx g32, inB_lt g32, trivial⟩ ?_
        refine Ends.seq ?_
        refine At.block ?_
        refine At.loop (σ := (List (List Int)) × (Option Addr) × Nat × (Nat → Option Addr) × (Nat → Nat) × Int) (fun n s => rBox_l41 F high out_2 i k n s.1 s.2.2.2.2.2 = some o21) (fun s => [(0, .slice a1 low.length c1), (1, .slice a2 high.length c2), (5, .slice a_out3 out_2.length c_out4), (6, .int .i64 i), (7, .slice s.2.1 s.1.length s.2.2.1), (8, .int .i64 k), (9, .int .i64 s.2.2.2.2.2)]) (fun s => [.sl a2 1 high.length (fun i_ => intCells (nth high 0 i_)), .sl a1 1 low.length (fun i_ => intCells (nth low 0 i_)), hdE 29 out_2 A_out5 C_out6 a_out3 c_out4, rwE w.heap.size intCells 0 out_2 A_out5 C_out6, hdE 29 s.1 s.2.2.2.1 s.2.2.2.2.1 s.2.1 s.2.2.1, rwE w.heap.size intCells 0 s.1 s.2.2.2.1 s.2.2.2.2.1]) F (next10, a_next11, c_next12, A_next13, C_next14, (nth low 0 i.toNat)) h (by kernel_rfl) (by kernel_rfl) (fun n s hI => ?_)
        obtain ⟨next36, a_next37, c_next38, A_next39, C_next40, n_⟩ := s
        replace hI : rBox_l41 F high out_2 i k n next36 n_ = some o21 := hI
        rcases n with _ | fuel41
        ·cases hI
        ·rw [rBox_l41] at hI
         have h := hI
         clear hI
         refine At.seq ?_
         refine At.seq ?_
         obtain ⟨g46, h⟩ := gd h
         refine At.runR [(0, 0, 0), (0, 0, i.toNat)] [0, 1, 5, 6, 7, 8, 9, 34] [true, true, true, true, true, true] (.normal) ([(0, .slice a1 low.length c1), (1, .slice a2 high.length c2), (5, .slice a_out3 out_2.length c_out4), (6, .int .i64 i), (7, .slice a_next37 next36.length c_next38), (8, .int .i64 k), (9, .int .i64 n_), (34, .bool (decide (n_ ≤ (nth high 0 i.toNat))))]) [slB a2, slO a2 + i.toNat * 1 + 0] [IdxOk a2 a2 high.length high.length i, i.toNat < high.length] (fun _ => by as_aux_lemma => kernel_rfl) ⟨inB_idx g46, inB_lt g46, trivial⟩ ?_
         refine Ends.seq ?_
         refine At.cond (decide (n_ ≤ (nth high 0 i.toNat))) (by kernel_rfl) (fun hc47 => ?_) (fun hc47 => ?_)
         ·have h := br_t h hc47
          refine At.runR [] [0, 1, 5, 6, 7, 8, 9] [true, true, true, true, true, true] (.normal) ([(0, .slice a1 low.length c1), (1, .slice a2 high.length c2), (5, .slice a_out3 out_2.length c_out4), (6, .int .i64 i), (7, .slice a_next37 next36.length c_next38), (8, .int .i64 k), (9, .int .i64 n_)]) [] [] (fun _ => by as_aux_lemma => kernel_rfl) trivial ?_
          refine Ends.seq ?_
          refine At.seq ?_
          refine At.block ?_
          refine At.region ?_
          obtain ⟨g52, h⟩ := gd h
          refine AtL.run 6 [(2, 0, 0), (2, 0, k.toNat)] [0, 1, 5, 6, 8, 9, 37, 38, 42] [true, true, true, true, true, true, true] (fun B68 => [(0, .slice a1 low.length c1), (1, .slice a2 high.length c2), (5, .slice a_out3 out_2.length c_out4), (6, .int .i64 i), (8, .int .i64 k), (9, .int .i64 n_), (37, .slice a_next37 next36.length c_next38), (38, .slice (some ⟨B68, 0, none⟩) 0 0), (42, .slice (A_out5 k.toNat) ((nth out_2 [] k.toNat).length) (C_out6 k.toNat))]) (fun B68 => [.sl a2 1 high.length (fun i_ => intCells (nth high 0 i_)), .sl a1 1 low.length (fun i_ => intCells (nth low 0 i_)), hdE 29 out_2 A_out5 C_out6 a_out3 c_out4, rwE w.heap.size intCells 0 out_2 A_out5 C_out6, hdE 29 next36 A_next39 C_next40 a_next37 c_next38, rwE w.heap.size intCells 0 next36 A_next39 C_next40, .blk B68 [] 3]) (fun B68 => [slB a_out3, slO a_out3 + k.toNat * 1 + 0]) (fun B68 => [IdxOk a_out3 a_out3 out_2.length out_2.length k, k.toNat < out_2.length]) (fun B68 => by as_aux_lemma => kernel_rfl) (fun B68 => ⟨inB_idx g52, inB_lt g52, trivial⟩) (fun B68 => ?_)
          refine AtL.addRow 6 B68 3 [] (by kernel_rfl) intCells 0 1 ([] : List Int) xlen3 (by kernel_rfl) (Nat.le_of_ble_eq_true rfl) (by simp) ?_
          obtain ⟨g53, h⟩ := gd h
          refine AtL.append 0 xei3 xlen3 xone3 (by decide) (some 43) 6 (some ⟨B68, 0, none⟩) (([] : List Int).length) ([] : List Int) (by kernel_rfl) (A_out5 k.toNat) ((nth out_2 [] k.toNat).length) (C_out6 k.toNat) (nth out_2 [] k.toNat) (by kernel_rfl) (by kernel_rfl) ((Adds.rows (enc := intCells) (d := 0) (lo := w.heap.size) (x := out_2) (A := A_out5) (C := C_out6) (i := 3) (by kernel_rfl) (r := k.toNat) (inB_lt g52))) (lenOk_le g53) (fun a_ c_ K9 hK9 => ?_)
          obtain rfl := Option.some.inj hK9
          refine AtL.fit [0, 1, 5, 6, 8, 9, 37, 42, 43] ([(0, .slice a1 low.length c1), (1, .slice a2 high.length c2), (5, .slice a_out3 out_2.length c_out4), (6, .int .i64 i), (8, .int .i64 k), (9, .int .i64 n_), (37, .slice a_next37 next36.length c_next38), (42, .slice (A_out5 k.toNat) ((nth out_2 [] k.toNat).length) (C_out6 k.toNat)), (43, .slice a_ ((([] : List Int) ++ (nth out_2 [] k.toNat)).length) c_)]) ([.sl a2 1 high.length (fun i_ => intCells (nth high 0 i_)), .sl a1 1 low.length (fun i_ => intCells (nth low 0 i_)), hdE 29 out_2 A_out5 C_out6 a_out3 c_out4, rwE w.heap.size intCells 0 out_2 A_out5 C_out6, hdE 29 next36 A_next39 C_next40 a_next37 c_next38, rwE w.heap.size intCells 0 next36 A_next39 C_next40, owE intCells 0 a_ c_ 3 1 (([] : List Int) ++ (nth out_2 [] k.toNat))]) (by kernel_rfl) (by kernel_rfl) ?_
          refine AtL.run 2 [] [0, 1, 5, 6, 8, 9, 37, 43, 45] [true, true, true, true, true, true, true, true] (fun B69 => [(0, .slice a1 low.length c1), (1, .slice a2 high.length c2), (5, .slice a_out3 out_2.length c_out4), (6, .int .i64 i), (8, .int .i64 k), (9, .int .i64 n_), (37, .slice a_next37 next36.length c_next38), (43, .slice a_ ((([] : List Int) ++ (nth out_2 [] k.toNat)).length) c_), (45, .slice (some ⟨B69, 0, none⟩) 1 1)]) (fun B69 => [.sl a2 1 high.length (fun i_ => intCells (nth high 0 i_)), .sl a1 1 low.length (fun i_ => intCells (nth low 0 i_)), hdE 29 out_2 A_out5 C_out6 a_out3 c_out4, rwE w.heap.size intCells 0 out_2 A_out5 C_out6, hdE 29 next36 A_next39 C_next40 a_next37 c_next38, rwE w.heap.size intCells 0 next36 A_next39 C_next40, owE intCells 0 a_ c_ 3 1 (([] : List Int) ++ (nth out_2 [] k.toNat)), .blk B69 [.int .i64 n_] 3]) (fun B69 => []) (fun B69 => []) (fun B69 => by as_aux_lemma => kernel_rfl) (fun B69 => trivial) (fun B69 => ?_)
          obtain ⟨g54, h⟩ := gd h
          refine AtL.append 0 xei3 xlen3 xone3 (by decide) (some 46) 6 a_ c_ (([] : List Int) ++ (nth out_2 [] k.toNat)) (by kernel_rfl) (some ⟨B69, 0, none⟩) 1 1 ([n_]) (by kernel_rfl) (by kernel_rfl) (Adds.row (i := 7) (b := B69) (T := 3) (cs := [.int .i64 n_]) n_ (by kernel_rfl) (by kernel_rfl)) (lenOk_le g54) (fun a_55 c_56 K9 hK9 => ?_)
          obtain rfl := Option.some.inj hK9
          refine AtL.fit [0, 1, 5, 6, 8, 9, 37, 45, 46] ([(0, .slice a1 low.length c1), (1, .slice a2 high.length c2), (5, .slice a_out3 out_2.length c_out4), (6, .int .i64 i), (8, .int .i64 k), (9, .int .i64 n_), (37, .slice a_next37 next36.length c_next38), (45, .slice (some ⟨B69, 0, none⟩) 1 1), (46, .slice a_55 (((([] : List Int) ++ (nth out_2 [] k.toNat)) ++ [n_]).length) c_56)]) ([.sl a2 1 high.length (fun i_ => intCells (nth high 0 i_)), .sl a1 1 low.length (fun i_ => intCells (nth low 0 i_)), hdE 29 out_2 A_out5 C_out6 a_out3 c_out4, rwE w.heap.size intCells 0 out_2 A_out5 C_out6, hdE 29 next36 A_next39 C_next40 a_next37 c_next38, rwE w.heap.size intCells 0 next36 A_next39 C_next40, .blk B69 [.int .i64 n_] 3, owE intCells 0 a_55 c_56 3 1 ((([] : List Int) ++ (nth out_2 [] k.toNat)) ++ [n_])]) (by kernel_rfl) (by kernel_rfl) ?_
          refine AtL.run 1 [] [0, 1, 5, 6, 8, 9, 37, 47] [true, true, true, true, true, true, false, true, true] (fun B70 => [(0, .slice a1 low.length c1), (1, .slice a2 high.length c2), (5, .slice a_out3 out_2.length c_out4), (6, .int .i64 i), (8, .int .i64 k), (9, .int .i64 n_), (37, .slice a_next37 next36.length c_next38), (47, .slice (some ⟨B70, 0, none⟩) 1 1)]) (fun B70 => [.sl a2 1 high.length (fun i_ => intCells (nth high 0 i_)), .sl a1 1 low.length (fun i_ => intCells (nth low 0 i_)), hdE 29 out_2 A_out5 C_out6 a_out3 c_out4, rwE w.heap.size intCells 0 out_2 A_out5 C_out6, hdE 29 next36 A_next39 C_next40 a_next37 c_next38, rwE w.heap.size intCells 0 next36 A_next39 C_next40, owE intCells 0 a_55 c_56 3 1 ((([] : List Int) ++ (nth out_2 [] k.toNat)) ++ [n_]), .blk B70 [.slice a_55 (((([] : List Int) ++ (nth out_2 [] k.toNat)) ++ [n_]).length) c_56] 29]) (fun B70 => []) (fun B70 => []) (fun B70 => by as_aux_lemma => kernel_rfl) (fun B70 => trivial) (fun B70 => ?_)
          refine AtL.to (To.owRo 6 (enc := intCells) (d := 0) (a := a_55) (c := c_56) (T := 3) (xs := ((([] : List Int) ++ (nth out_2 [] k.toNat)) ++ [n_])) (by kernel_rfl) xlen3 (w.heap.size) (Nat.le_refl _)) ?_
          obtain ⟨g57, h⟩ := gd h
          refine AtL.appendHd (enc := intCells) (d := 0) xei29 (by decide) (some 48) 4 a_next37 c_next38 next36 A_next39 C_next40 (by kernel_rfl) (some ⟨B70, 0, none⟩) a_55 c_56 ((([] : List Int) ++ (nth out_2 [] k.toNat)) ++ [n_]) (by kernel_rfl) 7 B70 29 (by kernel_rfl) rfl (by decide) 4 w.heap.size (by kernel_rfl) 5 w.heap.size (by kernel_rfl) (w.heap.size) (Nat.le_refl _) (Nat.le_refl _) (lenOk_le g57) (fun a_58 c_59 A_ C_ K9 hK9 => ?_)
          obtain rfl := Option.some.inj hK9
          refine AtL.sel [0, 1, 2, 3, 7, 8] ([.sl a2 1 high.length (fun i_ => intCells (nth high 0 i_)), .sl a1 1 low.length (fun i_ => intCells (nth low 0 i_)), hdE 29 out_2 A_out5 C_out6 a_out3 c_out4, rwE w.heap.size intCells 0 out_2 A_out5 C_out6, hdE 29 (next36 ++ [((([] : List Int) ++ (nth out_2 [] k.toNat)) ++ [n_])]) A_ C_ a_58 c_59, rwE w.heap.size intCells 0 (next36 ++ [((([] : List Int) ++ (nth out_2 [] k.toNat)) ++ [n_])]) A_ C_]) (by kernel_rfl) (by kernel_rfl) ?_
          refine AtL.fit [0, 1, 5, 6, 8, 9, 48] ([(0, .slice a1 low.length c1), (1, .slice a2 high.length c2), (5, .slice a_out3 out_2.length c_out4), (6, .int .i64 i), (8, .int .i64 k), (9, .int .i64 n_), (48, .slice a_58 ((next36 ++ [((([] : List Int) ++ (nth out_2 [] k.toNat)) ++ [n_])]).length) c_59)]) ([.sl a2 1 high.length (fun i_ => intCells (nth high 0 i_)), .sl a1 1 low.length (fun i_ => intCells (nth low 0 i_)), hdE 29 out_2 A_out5 C_out6 a_out3 c_out4, rwE w.heap.size intCells 0 out_2 A_out5 C_out6, hdE 29 (next36 ++ [((([] : List Int) ++ (nth out_2 [] k.toNat)) ++ [n_])]) A_ C_ a_58 c_59, rwE w.heap.size intCells 0 (next36 ++ [((([] : List Int) ++ (nth out_2 [] k.toNat)) ++ [n_])]) A_ C_]) (by kernel_rfl) (by kernel_rfl) ?_
          refine AtL.runR 1 [] [0, 1, 5, 6, 7, 8, 9] [true, true, true, true, true, true] ([(0, .slice a1 low.length c1), (1, .slice a2 high.length c2), (5, .slice a_out3 out_2.length c_out4), (6, .int .i64 i), (7, .slice a_58 ((next36 ++ [((([] : List Int) ++ (nth out_2 [] k.toNat)) ++ [n_])]).length) c_59), (8, .int .i64 k), (9, .int .i64 n_)]) [] [] (fun _ => by as_aux_lemma => kernel_rfl) trivial ?_
          refine AtL.nil (by kernel_rfl) ?_
          refine Ends.block_normal ?_
          refine Ends.seq ?_
          refine At.runR [] [0, 1, 5, 6, 7, 8, 9] [true, true, true, true, true, true] (.normal) ([(0, .slice a1 low.length c1), (1, .slice a2 high.length c2), (5, .slice a_out3 out_2.length c_out4), (6, .int .i64 i), (7, .slice a_58 ((next36 ++ [((([] : List Int) ++ (nth out_2 [] k.toNat)) ++ [n_])]).length) c_59), (8, .int .i64 k), (9, .int .i64 (IntKind.i64.wrap (n_ + (1 : Int))))]) [] [] (fun _ => by as_aux_lemma => kernel_rfl) trivial ?_
          exact Ends.round fuel41 ((next36 ++ [((([] : List Int) ++ (nth out_2 [] k.toNat)) ++ [n_])]), a_58, c_59, A_, C_, (IntKind.i64.wrap (n_ + (1 : Int)))) (Nat.lt_succ_self _) h (by kernel_rfl) (by kernel_rfl)
         ·have h := br_f h hc47
          refine At.runR [] [0, 1, 5, 6, 7, 8] [true, true, true, true, true, true] (.exit 4) ([(0, .slice a1 low.length c1), (1, .slice a2 high.length c2), (5, .slice a_out3 out_2.length c_out4), (6, .int .i64 i), (7, .slice a_next37 next36.length c_next38), (8, .int .i64 k)]) [] [] (fun _ => by as_aux_lemma => kernel_rfl) trivial ?_
          refine Ends.then_exit ?_
          refine Ends.then_exit ?_
          refine Ends.block_hit ?_
          refine Ends.block_normal ?_
          exact Ends.mid (next36, a_next37, c_next38, A_next39, C_next40) (Option.some.inj h).symm (by kernel_rfl) (by kernel_rfl)
       ·obtain ⟨next22, a_next23, c_next24, A_next25, C_next26⟩ := s
        replace hI : o21 = next22 := hI
        have h := hr21
        try rw [hI] at h
        refine At.runR [] [0, 1, 5, 6, 7, 8] [true, true, true, true, true, true] (.normal) ([(0, .slice a1 low.length c1), (1, .slice a2 high.length c2), (5, .slice a_out3 out_2.length c_out4), (6, .int .i64 i), (7, .slice a_next23 next22.length c_next24), (8, .int .i64 (IntKind.i64.wrap (k + (1 : Int))))]) [] [] (fun _ => by as_aux_lemma => kernel_rfl) trivial ?_
        exact Ends.round fuel15 (next22, a_next23, c_next24, A_next25, C_next26, (IntKind.i64.wrap (k + (1 : Int)))) (Nat.lt_succ_self _) h (by kernel_rfl) (by kernel_rfl)
      ·have h := br_f h hc16
       refine At.runR [] [0, 1, 6, 7] [true, true, true, true, true, true] (.exit 2) ([(0, .slice a1 low.length c1), (1, .slice a2 high.length c2), (6, .int .i64 i), (7, .slice a_next11 next10.length c_next12)]) [] [] (fun _ => by as_aux_lemma => kernel_rfl) trivial ?_
       refine Ends.then_exit ?_
       refine Ends.then_exit ?_
       refine Ends.block_hit ?_
       refine Ends.sel [0, 1, 6, 7] [0, 1, 4, 5] ([(0, .slice a1 low.length c1), (1, .slice a2 high.length c2), (6, .int .i64 i), (7, .slice a_next11 next10.length c_next12)]) ([.sl a2 1 high.length (fun i_ => intCells (nth high 0 i_)), .sl a1 1 low.length (fun i_ => intCells (nth low 0 i_)), hdE 29 next10 A_next13 C_next14 a_next11 c_next12, rwE w.heap.size intCells 0 next10 A_next13 C_next14]) (by kernel_rfl) (by kernel_rfl) (by kernel_rfl) ?_
       exact Ends.mid (next10, a_next11, c_next12, A_next13, C_next14) (Option.some.inj h).symm (by kernel_rfl) (by kernel_rfl)
    ·obtain ⟨next, a_next, c_next, A_next, C_next⟩ := s
     replace hI : o9 = next := hI
     have h := hr9
     try rw [hI] at h
     refine At.runR [] [0, 1, 5, 6] [true, true, true, true] (.normal) ([(0, .slice a1 low.length c1), (1, .slice a2 high.length c2), (5, .slice a_next next.length c_next), (6, .int .i64 i)]) [] [] (fun _ => by as_aux_lemma => kernel_rfl) trivial ?_
     refine Ends.block_normal ?_
     refine Ends.seq ?_
     refine At.runR [] [0, 1, 5, 6] [true, true, true, true] (.normal) ([(0, .slice a1 low.length c1), (1, .slice a2 high.length c2), (5, .slice a_next next.length c_next), (6, .int .i64 (IntKind.i64.wrap (i + (1 : Int))))]) [] [] (fun _ => by as_aux_lemma => kernel_rfl) trivial ?_
     exact Ends.round fuel7 (next, a_next, c_next, A_next, C_next, (IntKind.i64.wrap (i + (1 : Int)))) (Nat.lt_succ_self _) h (by kernel_rfl) (by kernel_rfl)
   ·have h := br_f h hc8
    refine At.runR [] [5] [true, true, true, true] (.exit 0) ([(5, .slice a_out3 out_2.length c_out4)]) [] [] (fun _ => by as_aux_lemma => kernel_rfl) trivial ?_
    refine Ends.then_exit ?_
    refine Ends.then_exit ?_
    refine Ends.block_hit ?_
    refine Ends.sel [5] [2, 3] ([(5, .slice a_out3 out_2.length c_out4)]) ([hdE 29 out_2 A_out5 C_out6 a_out3 c_out4, rwE w.heap.size intCells 0 out_2 A_out5 C_out6]) (by kernel_rfl) (by kernel_rfl) (by kernel_rfl) ?_
    exact Ends.mid (out_2, a_out3, c_out4, A_out5, C_out6) (Option.some.inj h).symm (by kernel_rfl) (by kernel_rfl)
 ·obtain ⟨out_, a_out, c_out, A_out, C_out⟩ := s
  replace hI : o1 = out_ := hI
  have h := hr1
  try rw [hI] at h
  refine At.runR [] [4] [true, true] (.ret) ([(4, .slice a_out out_.length c_out)]) [] [] (fun _ => by as_aux_lemma => kernel_rfl) trivial ?_
  refine Ends.body [] (.slice a_out out_.length c_out) [] (by kernel_rfl) (fun w9 hRep => ?_)
  obtain rfl := Option.some.inj h
  exact ⟨a_out, c_out, A_out, C_out, rfl, hRep.sel (r := [0, 1]) (by kernel_rfl) (by kernel_rfl)⟩
def rPut_S (F : Nat) (l : List Int) (i : Int) (x : Int) : Option ((List Int)) := bif lenOk (([] : List Int).length) l.length then (bif inB i ((([] : List Int) ++ l).length) then ((some ((([] : List Int) ++ l).set i.toNat x)).bind (fun x6 => some x6)) else none) else none
set_option maxRecDepth 100000 in
set_option maxHeartbeats 4000000 in
theorem rPut_w (F : Nat) (l : List Int) (i : Int) (x : Int) (a1 : Option Addr) (c1 : Nat) (w : World) (hs1 : Sl 1 intCells w a1 c1 l) (v : (List Int)) (h : rPut_S F l i x = some v) :
  Calls Try.prog 98 #[.slice a1 l.length c1, .int .i64 i, .int .i64 x] w (fun e w' => ∃ xa0 xc0, e = .returned (.slice xa0 v.length xc0) ∧ Rep [] w [owE intCells 0 xa0 xc0 3 1 v] w') := by
 rw [rPut_S] at h
 refine At.enter Try.func98 rfl 16 [(0, .slice a1 l.length c1), (1, .int .i64 i), (2, .int .i64 x)] ([.sl a1 1 l.length (fun i_ => intCells (nth l 0 i_))]) [] (by kernel_rfl) ⟨rfl, rfl, rfl, trivial⟩ (Rep.sub (Rep.sl (Rep.start w) 0 hs1 (by simp [Ent.mut])) (by simp)) ?_
 refine At.seq ?_
 refine At.runR [] [0, 1, 2] [true] (.normal) ([(0, .slice a1 l.length c1), (1, .int .i64 i), (2, .int .i64 x)]) [] [] (fun _ => by as_aux_lemma => kernel_rfl) trivial ?_
 refine Ends.seq ?_
 refine At.seq ?_
 refine At.region ?_
 refine AtL.run 2 [] [1, 2, 8, 9] [true, true] (fun B7 => [(1, .int .i64 i), (2, .int .i64 x), (8, .slice (some ⟨B7, 0, none⟩) 0 0), (9, .slice a1 l.length c1)]) (fun B7 => [.sl a1 1 l.length (fun i_ => intCells (nth l 0 i_)), .blk B7 [] 3]) (fun B7 => []) (fun B7 => []) (fun B7 => by as_aux_lemma => kernel_rfl) (fun B7 => trivial) (fun B7 => ?_)
 refine AtL.addRow 1 B7 3 [] (by kernel_rfl) intCells 0 1 ([] : List Int) xlen3 (by kernel_rfl) (Nat.le_of_ble_eq_true rfl) (by simp) ?_
 obtain ⟨g1, h⟩ := gd h
 refine AtL.append 0 xei3 xlen3 xone3 (by decide) (some 10) 1 (some ⟨B7, 0, none⟩) (([] : List Int).length) ([] : List Int) (by kernel_rfl) a1 l.length c1 l (by kernel_rfl) (by kernel_rfl) ((Adds.sl_ (i := 0) (d := 0) (by kernel_rfl) hs1.le hs1.big)) (lenOk_le g1) (fun a_ c_ K9 hK9 => ?_)
 obtain rfl := Option.some.inj hK9
 refine AtL.fit [1, 2, 9, 10] ([(1, .int .i64 i), (2, .int .i64 x), (9, .slice a1 l.length c1), (10, .slice a_ ((([] : List Int) ++ l).length) c_)]) ([.sl a1 1 l.length (fun i_ => intCells (nth l 0 i_)), owE intCells 0 a_ c_ 3 1 (([] : List Int) ++ l)]) (by kernel_rfl) (by kernel_rfl) ?_
 refine AtL.runR 1 [] [1, 2, 7] [true, true] ([(1, .int .i64 i), (2, .int .i64 x), (7, .slice a_ ((([] : List Int) ++ l).length) c_)]) [] [] (fun _ => by as_aux_lemma => kernel_rfl) trivial ?_
 refine AtL.nil (by kernel_rfl) ?_
 refine Ends.seq ?_
 refine At.seq ?_
 refine At.region ?_
 obtain ⟨g5, h⟩ := gd h
 refine AtL.runR 4 [(1, 0, 0)] [7, 13, 14] [true, true] ([(7, .slice a_ ((([] : List Int) ++ l).length) c_), (13, .int .i64 x), (14, .pointer (some ⟨slB a_, slO a_ + i.toNat * 1, none⟩))]) [] [IdxOk a_ a_ ((([] : List Int) ++ l).length) ((([] : List Int) ++ l).length) i] (fun _ => by as_aux_lemma => kernel_rfl) ⟨inB_idx g5, trivial⟩ ?_
 obtain ⟨x6, hz7, h⟩ := bd h
 replace hz7 := Option.some.inj hz7
 refine AtL.storeOw 1 0 a_ c_ 3 1 (([] : List Int) ++ l) (by kernel_rfl) xlen3 i.toNat (inB_lt g5) 0 (by decide) x (.int .i64 x) (by kernel_rfl) ⟨slB a_, slO a_ + i.toNat * 1, none⟩ (by kernel_rfl) (by kernel_rfl) ?_
 refine AtL.fit2 ([(7, .slice a_ x6.length c_), (13, .int .i64 x), (14, .pointer (some ⟨slB a_, slO a_ + i.toNat * 1, none⟩))]) ([.sl a1 1 l.length (fun i_ => intCells (nth l 0 i_)), owE intCells 0 a_ c_ 3 1 x6]) (by subst hz7; simp only [List.length_set]) (by subst hz7; kernel_rfl) ?_
 refine AtL.nil (by kernel_rfl) ?_
 refine Ends.seq ?_
 refine At.runR [] [6] [true, true] (.ret) ([(6, .slice a_ x6.length c_)]) [] [] (fun _ => by as_aux_lemma => kernel_rfl) trivial ?_
 refine Ends.body [] (.slice a_ x6.length c_) [] (by kernel_rfl) (fun w9 hRep => ?_)
 obtain rfl := Option.some.inj h
 exact ⟨a_, c_, rfl, hRep.sel (r := [1]) (by kernel_rfl) (by kernel_rfl)⟩
def rNever_l2 (F : Nat) (p : Recipe) (cond : Int) (r_ : (List (List Int))) : Nat → Int → Option (Sum (Bool) (Unit))
 | 0, _ => none
 | fuel2 + 1, k => bif decide (k < (r_.length : Int)) then (bif inB k r_.length then (bif decide ((nth r_ [] k.toNat).length ≤ p.lots.length) then (bif inB cond 8 then (bif trueB p (⟨(weighM p.lots (nth r_ [] k.toNat)).mass, (⟨(((weighM p.lots (nth r_ [] k.toNat)).con).a), (((weighM p.lots (nth r_ [] k.toNat)).con).b), (((weighM p.lots (nth r_ [] k.toNat)).con).c)⟩ : Bnds)⟩ : Pile) cond.toNat then (some (.inl false)) else (rNever_l2 F p cond r_ fuel2 (IntKind.i64.wrap (k + (1 : Int))))) else none) else none) else none) else (some (.inr ()))
def rNever_S (F : Nat) (p : Recipe) (low : List Int) (high : List Int) (cond : Int) : Option (Bool) := (rBox_S F low high).bind (fun r_ => ((rNever_l2 F p cond r_ F (0 : Int))).bind (onSum (fun r => some r) (fun _ => some true)))
set_option maxRecDepth 100000 in
set_option maxHeartbeats 4000000 in
theorem rNever_w (F : Nat) (p : Recipe) (low : List Int) (high : List Int) (cond : Int) (a1 : Option Addr) (c1 : Nat) (a2 : Option Addr) (c2 : Nat) (a3 : Option Addr) (c3 : Nat) (w : World) (hs1 : Sl 9 Lot.cells w a1 c1 p.lots) (hs2 : Sl 1 intCells w a2 c2 low) (hs3 : Sl 1 intCells w a3 c3 high) (v : Bool) (h : rNever_S F p low high cond = some v) :
  Calls Try.prog 97 #[.agg #[.slice a1 p.lots.length c1, .int .i64 p.mass.lo, .int .i64 p.mass.hi, .int .i64 p.target.a.lo, .int .i64 p.target.a.hi, .int .i64 p.target.b.lo, .int .i64 p.target.b.hi, .int .i64 p.target.c.lo, .int .i64 p.target.c.hi], .slice a2 low.length c2, .slice a3 high.length c3, .int .i64 cond] w (Ret (.bool v) w) := by
 rw [rNever_S] at h
 refine At.enter Try.func97 rfl 30 [(0, .agg (rcL a1 c1 p).toArray), (1, .slice a2 low.length c2), (2, .slice a3 high.length c3), (3, .int .i64 cond)] ([.sl a3 1 high.length (fun i_ => intCells (nth high 0 i_)), .sl a2 1 low.length (fun i_ => intCells (nth low 0 i_)), .sl a1 9 p.lots.length (fun i_ => Lot.cells (nth p.lots Lot.zero i_))]) [] (by kernel_rfl) ⟨rfl, rfl, rfl, rfl, trivial⟩ (Rep.sub (Rep.sl (Rep.sl (Rep.sl (Rep.start w) Lot.zero hs1 (by simp [Ent.mut])) 0 hs2 (by simp [Ent.mut])) 0 hs3 (by simp [Ent.mut])) (by simp)) ?_
 refine At.seq ?_
 refine At.run [] [1, 2, 3, 4] [true, true, true, true] (.normal) (fun B3 => [(1, .slice a2 low.length c2), (2, .slice a3 high.length c3), (3, .int .i64 cond), (4, .pointer (some ⟨B3, 0, none⟩))]) (fun B3 => [.sl a3 1 high.length (fun i_ => intCells (nth high 0 i_)), .sl a2 1 low.length (fun i_ => intCells (nth low 0 i_)), .sl a1 9 p.lots.length (fun i_ => Lot.cells (nth p.lots Lot.zero i_)), .blk B3 (rcL a1 c1 p) 28]) (fun B3 => []) (fun B3 => []) (fun B3 => by as_aux_lemma => kernel_rfl) (fun B3 => trivial) (fun B3 => ?_)
 refine Ends.seq ?_
 refine At.seq ?_
 refine At.region ?_
 refine AtL.runR 2 [] [3, 4, 11, 12] [true, true, true, true] ([(3, .int .i64 cond), (4, .pointer (some ⟨B3, 0, none⟩)), (11, .slice a2 low.length c2), (12, .slice a3 high.length c3)]) [] [] (fun _ => by as_aux_lemma => kernel_rfl) trivial ?_
 obtain ⟨r_, hs8, h⟩ := bd h
 refine AtL.call 72 #[.slice a2 low.length c2, .slice a3 high.length c3] (some 13) (by kernel_rfl) _ (fun w8 hRep => rBox_w F low high a2 c2 a3 c3 w8 (hRep.toSl 1 rfl hs2.le hs2.big) (hRep.toSl 0 rfl hs3.le hs3.big) _ hs8) ?_
 rintro w8 e w9 hRep ⟨a_, c_, A_, C_, rfl, hE⟩
 refine ⟨_, _, _, rfl, rfl, hRep.join hE (by simp [Ent.fresh]), ?_⟩
 refine AtL.runR 1 [] [3, 4, 9] [true, true, true, true, true, true] ([(3, .int .i64 cond), (4, .pointer (some ⟨B3, 0, none⟩)), (9, .slice a_ r_.length c_)]) [] [] (fun _ => by as_aux_lemma => kernel_rfl) trivial ?_
 refine AtL.nil (by kernel_rfl) ?_
 refine Ends.seq ?_
 obtain ⟨o1, h, hr1⟩ := bd h
 refine At.seq_mid (σ := Unit) (fun s => o1 = (.inr ())) (fun s => []) (fun s => []) ?_ (fun s hI => ?_)
 ·refine At.seq ?_
  refine At.runR [] [3, 4, 9, 10] [true, true, true, true, true, true] (.normal) ([(3, .int .i64 cond), (4, .pointer (some ⟨B3, 0, none⟩)), (9, .slice a_ r_.length c_), (10, .int .i64 0)]) [] [] (fun _ => by as_aux_lemma => kernel_rfl) trivial ?_
  refine Ends.seq ?_
  refine At.block ?_
  refine At.sel [3, 4, 9, 10] [2, 3, 4, 5] ([(3, .int .i64 cond), (4, .pointer (some ⟨B3, 0, none⟩)), (9, .slice a_ r_.length c_), (10, .int .i64 0)]) ([.sl a1 9 p.lots.length (fun i_ => Lot.cells (nth p.lots Lot.zero i_)), .blk B3 (rcL a1 c1 p) 28, hdE 29 r_ A_ C_ a_ c_, rwE w.heap.size intCells 0 r_ A_ C_]) (by kernel_rfl) (by kernel_rfl) (by kernel_rfl) ?_
  refine At.loop (σ := Int) (fun n s => rNever_l2 F p cond r_ n s = some o1) (fun s => [(3, .int .i64 cond), (4, .pointer (some ⟨B3, 0, none⟩)), (9, .slice a_ r_.length c_), (10, .int .i64 s)]) (fun s => [.sl a1 9 p.lots.length (fun i_ => Lot.cells (nth p.lots Lot.zero i_)), .blk B3 (rcL a1 c1 p) 28, hdE 29 r_ A_ C_ a_ c_, rwE w.heap.size intCells 0 r_ A_ C_]) F (0 : Int) h (by kernel_rfl) (by kernel_rfl) (fun n s hI => ?_)
  revert hI; revert s; intro k hI
  replace hI : rNever_l2 F p cond r_ n k = some o1 := hI
  rcases n with _ | fuel2
  ·cases hI
  ·rw [rNever_l2] at hI
   have h := hI
   clear hI
   refine At.seq ?_
   refine At.seq ?_
   refine At.runR [] [3, 4, 9, 10, 17] [true, true, true, true] (.normal) ([(3, .int .i64 cond), (4, .pointer (some ⟨B3, 0, none⟩)), (9, .slice a_ r_.length c_), (10, .int .i64 k), (17, .bool (decide (k < (r_.length : Int))))]) [] [] (fun _ => by as_aux_lemma => kernel_rfl) trivial ?_
   refine Ends.seq ?_
   refine At.cond (decide (k < (r_.length : Int))) (by kernel_rfl) (fun hc3 => ?_) (fun hc3 => ?_)
   ·have h := br_t h hc3
    refine At.runR [] [3, 4, 9, 10] [true, true, true, true] (.normal) ([(3, .int .i64 cond), (4, .pointer (some ⟨B3, 0, none⟩)), (9, .slice a_ r_.length c_), (10, .int .i64 k)]) [] [] (fun _ => by as_aux_lemma => kernel_rfl) trivial ?_
    refine Ends.seq ?_
    refine At.seq ?_
    refine At.block ?_
    refine At.seq ?_
    refine At.plan ([.sl a1 9 p.lots.length (fun i_ => Lot.cells (nth p.lots Lot.zero i_)), .blk B3 (rcL a1 c1 p) 28, hdE 29 r_ A_ C_ a_ c_, rwE w.heap.size intCells 0 r_ A_ C_]) [0, 1, 2, 3] (by kernel_rfl) (by kernel_rfl) [.st [1, 3, 4, 5, 8], .st [0, 2, 6], .mv 7, .mv 9] (by kernel_rfl) (by kernel_rfl) ?_
    refine AtP.st ?_
    obtain ⟨g4, h⟩ := gd h
    refine AtY.run 5 [(2, 0, 0)] [3, 4, 9, 10, 21, 25, 28] ([(3, .int .i64 cond), (4, .pointer (some ⟨B3, 0, none⟩)), (9, .slice a_ r_.length c_), (10, .int .i64 k), (21, .pointer (some ⟨B3, 0, none⟩)), (25, .pointer (some ⟨slB a_, slO a_ + k.toNat * 1, none⟩)), (28, .int .i64 cond)]) [] [IdxOk a_ a_ r_.length r_.length k] (by as_aux_lemma => kernel_rfl) ⟨inB_idx g4, trivial⟩ ?_
    refine AtY.nil (by kernel_rfl) ?_
    refine AtP.st ?_
    refine AtY.run 3 [(1, 0, 0), (1, 1, 0), (1, 2, 0), (1, 3, 0), (1, 4, 0), (1, 5, 0), (1, 6, 0), (1, 7, 0), (1, 8, 0), (1, 0, 0), (2, 0, k.toNat)] [3, 4, 9, 10, 20, 22, 26, 28] ([(3, .int .i64 cond), (4, .pointer (some ⟨B3, 0, none⟩)), (9, .slice a_ r_.length c_), (10, .int .i64 k), (20, .agg (rcL a1 c1 p).toArray), (22, .slice a1 p.lots.length c1), (26, .slice (A_ k.toNat) ((nth r_ [] k.toNat).length) (C_ k.toNat)), (28, .int .i64 cond)]) [B3, 0, B3, 1, B3, 2, B3, 3, B3, 4, B3, 5, B3, 6, B3, 7, B3, 8, B3, 0, slB a_, slO a_ + k.toNat * 1 + 0] [k.toNat < r_.length] (by as_aux_lemma => kernel_rfl) ⟨inB_lt g4, trivial⟩ ?_
    refine AtY.nil (by kernel_rfl) ?_
    refine AtP.mv ?_
    obtain ⟨g5, h⟩ := gd h
    refine AtL.call 21 #[.slice a1 p.lots.length c1, .slice (A_ k.toNat) ((nth r_ [] k.toNat).length) (C_ k.toNat)] (some 27) (by kernel_rfl) _ (fun w8 hRep => refWeigh_c p.lots (nth r_ [] k.toNat) a1 (A_ k.toNat) c1 (C_ k.toNat) w8 (hRep.toSl 0 rfl hs1.le hs1.big) (hRep.rowsSl (enc := intCells) (d := 0) (lo := w.heap.size) (x := r_) (A := A_) (C := C_) 3 rfl k.toNat (inB_lt g4)) (of_decide_eq_true g5)) ?_
    rintro w8 e w9 hRep ⟨rfl, hE⟩
    refine ⟨_, _, _, rfl, rfl, hRep.ext' hE, ?_⟩
    refine AtL.nil (by kernel_rfl) ?_
    refine Ends.mv [0, 1, 2, 3] (by kernel_rfl) (by kernel_rfl) ?_
    refine AtP.mv ?_
    obtain ⟨g6, h⟩ := gd h
    refine AtL.call 65 #[.agg (rcL a1 c1 p).toArray, .agg #[.int .i64 ((weighM p.lots (nth r_ [] k.toNat)).mass), .int .i64 ((((weighM p.lots (nth r_ [] k.toNat)).con).a).lo), .int .i64 ((((weighM p.lots (nth r_ [] k.toNat)).con).a).hi), .int .i64 ((((weighM p.lots (nth r_ [] k.toNat)).con).b).lo), .int .i64 ((((weighM p.lots (nth r_ [] k.toNat)).con).b).hi), .int .i64 ((((weighM p.lots (nth r_ [] k.toNat)).con).c).lo), .int .i64 ((((weighM p.lots (nth r_ [] k.toNat)).con).c).hi)], .int .i64 cond] (some 29) (by kernel_rfl) _ (fun w8 hRep => refTrueI_c p (⟨(weighM p.lots (nth r_ [] k.toNat)).mass, (⟨(((weighM p.lots (nth r_ [] k.toNat)).con).a), (((weighM p.lots (nth r_ [] k.toNat)).con).b), (((weighM p.lots (nth r_ [] k.toNat)).con).c)⟩ : Bnds)⟩ : Pile) cond g6 a1 c1 w8) ?_
    rintro w8 e w9 hRep ⟨rfl, hE⟩
    refine ⟨_, _, _, rfl, rfl, hRep.ext' hE, ?_⟩
    refine AtL.nil (by kernel_rfl) ?_
    refine Ends.mv [0, 1, 2, 3] (by kernel_rfl) (by kernel_rfl) ?_
    refine AtP.nil ?_
    refine Ends.weak [3, 4, 9, 10, 29] [true, true, true, true] ([(3, .int .i64 cond), (4, .pointer (some ⟨B3, 0, none⟩)), (9, .slice a_ r_.length c_), (10, .int .i64 k), (29, .bool (trueB p (⟨(weighM p.lots (nth r_ [] k.toNat)).mass, (⟨(((weighM p.lots (nth r_ [] k.toNat)).con).a), (((weighM p.lots (nth r_ [] k.toNat)).con).b), (((weighM p.lots (nth r_ [] k.toNat)).con).c)⟩ : Bnds)⟩ : Pile) cond.toNat))]) ([.sl a1 9 p.lots.length (fun i_ => Lot.cells (nth p.lots Lot.zero i_)), .blk B3 (rcL a1 c1 p) 28, hdE 29 r_ A_ C_ a_ c_, rwE w.heap.size intCells 0 r_ A_ C_]) (by kernel_rfl) (by kernel_rfl) ?_
    refine Ends.seq ?_
    refine At.cond (trueB p (⟨(weighM p.lots (nth r_ [] k.toNat)).mass, (⟨(((weighM p.lots (nth r_ [] k.toNat)).con).a), (((weighM p.lots (nth r_ [] k.toNat)).con).b), (((weighM p.lots (nth r_ [] k.toNat)).con).c)⟩ : Bnds)⟩ : Pile) cond.toNat) (by kernel_rfl) (fun hc7 => ?_) (fun hc7 => ?_)
    ·have h := br_t h hc7
     refine At.runR [] [8] [true, true, true, true] (.ret) ([(8, .bool false)]) [] [] (fun _ => by as_aux_lemma => kernel_rfl) trivial ?_
     refine Ends.block_ret ?_
     refine Ends.then_ret ?_
     refine Ends.then_ret ?_
     refine Ends.block_ret ?_
     refine Ends.then_ret ?_
     obtain rfl := Option.some.inj h
     have h := hr1
     refine Ends.body [] (.bool false) [] (by kernel_rfl) (fun w9 hRep => ?_)
     obtain rfl := Option.some.inj h
     exact ⟨rfl, hRep.ext⟩
    ·have h := br_f h hc7
     refine At.runR [] [3, 4, 9, 10] [true, true, true, true] (.normal) ([(3, .int .i64 cond), (4, .pointer (some ⟨B3, 0, none⟩)), (9, .slice a_ r_.length c_), (10, .int .i64 k)]) [] [] (fun _ => by as_aux_lemma => kernel_rfl) trivial ?_
     refine Ends.block_normal ?_
     refine Ends.seq ?_
     refine At.runR [] [3, 4, 9, 10] [true, true, true, true] (.normal) ([(3, .int .i64 cond), (4, .pointer (some ⟨B3, 0, none⟩)), (9, .slice a_ r_.length c_), (10, .int .i64 (IntKind.i64.wrap (k + (1 : Int))))]) [] [] (fun _ => by as_aux_lemma => kernel_rfl) trivial ?_
     exact Ends.round fuel2 (IntKind.i64.wrap (k + (1 : Int))) (Nat.lt_succ_self _) h (by kernel_rfl) (by kernel_rfl)
   ·have h := br_f h hc3
    refine At.runR [] [] [true, true, true, true] (.exit 0) ([]) [] [] (fun _ => by as_aux_lemma => kernel_rfl) trivial ?_
    refine Ends.then_exit ?_
    refine Ends.then_exit ?_
    refine Ends.block_hit ?_
    refine Ends.sel [] [] ([]) ([]) (by kernel_rfl) (by kernel_rfl) (by kernel_rfl) ?_
    exact Ends.mid () (Option.some.inj h).symm (by kernel_rfl) (by kernel_rfl)
 ·replace hI : o1 = (.inr ()) := hI
  have h := hr1
  try rw [hI] at h
  refine At.runR [] [8] [] (.ret) ([(8, .bool true)]) [] [] (fun _ => by as_aux_lemma => kernel_rfl) trivial ?_
  refine Ends.body [] (.bool true) [] (by kernel_rfl) (fun w9 hRep => ?_)
  obtain rfl := Option.some.inj h
  exact ⟨rfl, hRep.ext⟩
def rProve_l3 (F : Nat) (R : Recipe → (List Int) → (List Int) → Option ((List Split) × Bool)) (p : Recipe) (low : List Int) (high : List Int) : Nat → Int → Option (Sum ((List Split) × Bool) (Unit))
 | 0, _ => none
 | fuel3 + 1, t9 => bif decide (t9 < (low.length : Int)) then (bif inB t9 low.length then (bif inB t9 high.length then (bif decide ((nth low 0 t9.toNat) < (nth high 0 t9.toNat)) then ((rPut_S F high t9 (IntKind.i64.wrap ((IntKind.i64.wrap ((nth low 0 t9.toNat) + (nth high 0 t9.toNat))).tdiv (2 : Int)))).bind (fun r_ => (R p low r_).bind (fun r_18 => bif !r_18.2 then (some (.inl ([], false))) else ((rPut_S F low t9 (IntKind.i64.wrap ((IntKind.i64.wrap ((IntKind.i64.wrap ((nth low 0 t9.toNat) + (nth high 0 t9.toNat))).tdiv (2 : Int))) + (1 : Int)))).bind (fun r_22 => (R p r_22 high).bind (fun r_25 => bif lenOk (([(⟨t9, IntKind.i64.wrap ((IntKind.i64.wrap ((nth low 0 t9.toNat) + (nth high 0 t9.toNat))).tdiv (2 : Int)), 0⟩ : Split)] : List Split).length) r_18.1.length then (bif lenOk ((([(⟨t9, IntKind.i64.wrap ((IntKind.i64.wrap ((nth low 0 t9.toNat) + (nth high 0 t9.toNat))).tdiv (2 : Int)), 0⟩ : Split)] : List Split) ++ r_18.1).length) r_25.1.length then (some (.inl (((([(⟨t9, IntKind.i64.wrap ((IntKind.i64.wrap ((nth low 0 t9.toNat) + (nth high 0 t9.toNat))).tdiv (2 : Int)), 0⟩ : Split)] : List Split) ++ r_18.1) ++ r_25.1), r_25.2))) else none) else none)))))) else (rProve_l3 F R p low high fuel3 (IntKind.i64.wrap (t9 + (1 : Int))))) else none) else none) else (some (.inr ()))
def rProve_S (F : Nat) : Nat → Recipe → (List Int) → (List Int) → Option ((List Split) × Bool)
 | 0, _, _, _ => none
 | rf + 1, p, low, high => ((rNever_S F p low high 0).bind (fun r_38 => bif r_38 then (some (.inl (([(⟨(-1), 0, 0⟩ : Split)] : List Split), true))) else ((rNever_S F p low high 1).bind (fun r_40 => bif r_40 then (some (.inl (([(⟨(-1), 0, 1⟩ : Split)] : List Split), true))) else ((rNever_S F p low high 2).bind (fun r_42 => bif r_42 then (some (.inl (([(⟨(-1), 0, 2⟩ : Split)] : List Split), true))) else ((rNever_S F p low high 3).bind (fun r_44 => bif r_44 then (some (.inl (([(⟨(-1), 0, 3⟩ : Split)] : List Split), true))) else ((rNever_S F p low high 4).bind (fun r_46 => bif r_46 then (some (.inl (([(⟨(-1), 0, 4⟩ : Split)] : List Split), true))) else ((rNever_S F p low high 5).bind (fun r_48 => bif r_48 then (some (.inl (([(⟨(-1), 0, 5⟩ : Split)] : List Split), true))) else ((rNever_S F p low high 6).bind (fun r_50 => bif r_50 then (some (.inl (([(⟨(-1), 0, 6⟩ : Split)] : List Split), true))) else ((rNever_S F p low high 7).bind (fun r_52 => bif r_52 then (some (.inl (([(⟨(-1), 0, 7⟩ : Split)] : List Split), true))) else (some (.inr ())))))))))))))))))).bind (onSum (fun r => some r) (fun _ => ((rProve_l3 F (rProve_S F rf) p low high F (0 : Int))).bind (onSum (fun r => some r) (fun _ => some ([], false)))))
set_option maxRecDepth 100000 in
set_option maxHeartbeats 4000000 in
theorem rProve_w (F : Nat) : ∀ (rf : Nat) (p : Recipe) (low : List Int) (high : List Int) (a1 : Option Addr) (c1 : Nat) (a2 : Option Addr) (c2 : Nat) (a3 : Option Addr) (c3 : Nat) (w : World) (hs1 : Sl 9 Lot.cells w a1 c1 p.lots) (hs2 : Sl 1 intCells w a2 c2 low) (hs3 : Sl 1 intCells w a3 c3 high) (v : (List Split) × Bool) (h : rProve_S F rf p low high = some v),
  Calls Try.prog 76 #[.agg #[.slice a1 p.lots.length c1, .int .i64 p.mass.lo, .int .i64 p.mass.hi, .int .i64 p.target.a.lo, .int .i64 p.target.a.hi, .int .i64 p.target.b.lo, .int .i64 p.target.b.hi, .int .i64 p.target.c.lo, .int .i64 p.target.c.hi], .slice a2 low.length c2, .slice a3 high.length c3] w (fun e w' => ∃ xa0 xc0, e = .returned (.tuple #[.slice xa0 v.1.length xc0, .bool v.2]) ∧ Rep [] w [owE Split.cells Split.zero xa0 xc0 55 3 v.1] w') := by
 intro rf
 induction rf with
 | zero =>
  intro p low high a1 c1 a2 c2 a3 c3 w hs1 hs2 hs3 v h
  rw [rProve_S] at h
  cases h
 | succ rf ih =>
  intro p low high a1 c1 a2 c2 a3 c3 w hs1 hs2 hs3 v h
  rw [rProve_S] at h
  refine At.enter Try.func76 rfl 83 [(0, .agg (rcL a1 c1 p).toArray), (1, .slice a2 low.length c2), (2, .slice a3 high.length c3)] ([.sl a3 1 high.length (fun i_ => intCells (nth high 0 i_)), .sl a2 1 low.length (fun i_ => intCells (nth low 0 i_)), .sl a1 9 p.lots.length (fun i_ => Lot.cells (nth p.lots Lot.zero i_))]) [] (by kernel_rfl) ⟨rfl, rfl, rfl, trivial⟩ (Rep.sub (Rep.sl (Rep.sl (Rep.sl (Rep.start w) Lot.zero hs1 (by simp [Ent.mut])) 0 hs2 (by simp [Ent.mut])) 0 hs3 (by simp [Ent.mut])) (by simp)) ?_
  refine At.seq ?_
  refine At.run [] [1, 2, 3] [true, true, true, true] (.normal) (fun B3 => [(1, .slice a2 low.length c2), (2, .slice a3 high.length c3), (3, .pointer (some ⟨B3, 0, none⟩))]) (fun B3 => [.sl a3 1 high.length (fun i_ => intCells (nth high 0 i_)), .sl a2 1 low.length (fun i_ => intCells (nth low 0 i_)), .sl a1 9 p.lots.length (fun i_ => Lot.cells (nth p.lots Lot.zero i_)), .blk B3 (rcL a1 c1 p) 28]) (fun B3 => []) (fun B3 => []) (fun B3 => by as_aux_lemma => kernel_rfl) (fun B3 => trivial) (fun B3 => ?_)
  refine Ends.seq ?_
  obtain ⟨o1, h, hr1⟩ := bd h
  refine At.seq_mid (σ := Unit) (fun s => o1 = (.inr ())) (fun s => [(1, .slice a2 low.length c2), (2, .slice a3 high.length c3), (3, .pointer (some ⟨B3, 0, none⟩))]) (fun s => [.sl a3 1 high.length (fun i_ => intCells (nth high 0 i_)), .sl a2 1 low.length (fun i_ => intCells (nth low 0 i_)), .sl a1 9 p.lots.length (fun i_ => Lot.cells (nth p.lots Lot.zero i_)), .blk B3 (rcL a1 c1 p) 28]) ?_ (fun s hI => ?_)
  ·refine At.seq ?_
   refine At.runR [] [1, 2, 3, 8] [true, true, true, true] (.normal) ([(1, .slice a2 low.length c2), (2, .slice a3 high.length c3), (3, .pointer (some ⟨B3, 0, none⟩)), (8, .int .i64 0)]) [] [] (fun _ => by as_aux_lemma => kernel_rfl) trivial ?_
   refine Ends.seq ?_
   refine At.block ?_
   refine At.unroll 13 ?_
   refine AtR.succ ?_
   refine At.seq ?_
   refine At.runR [] [1, 2, 3, 8] [true, true, true, true] (.normal) ([(1, .slice a2 low.length c2), (2, .slice a3 high.length c3), (3, .pointer (some ⟨B3, 0, none⟩)), (8, .int .i64 0)]) [] [] (fun _ => by as_aux_lemma => kernel_rfl) trivial ?_
   refine Ends.seq ?_
   refine At.seq ?_
   refine At.block ?_
   refine At.seq ?_
   refine At.region ?_
   refine AtL.runR 4 [(3, 0, 0), (3, 1, 0), (3, 2, 0), (3, 3, 0), (3, 4, 0), (3, 5, 0), (3, 6, 0), (3, 7, 0), (3, 8, 0)] [1, 2, 3, 8, 18, 19, 20, 21] [true, true, true, true] ([(1, .slice a2 low.length c2), (2, .slice a3 high.length c3), (3, .pointer (some ⟨B3, 0, none⟩)), (8, .int .i64 0), (18, .agg (rcL a1 c1 p).toArray), (19, .slice a2 low.length c2), (20, .slice a3 high.length c3), (21, .int .i64 0)]) [B3, 0, B3, 1, B3, 2, B3, 3, B3, 4, B3, 5, B3, 6, B3, 7, B3, 8] [] (fun _ => by as_aux_lemma => kernel_rfl) trivial ?_
   obtain ⟨r_38, hs61, h⟩ := bd h
   refine AtL.call 97 #[.agg (rcL a1 c1 p).toArray, .slice a2 low.length c2, .slice a3 high.length c3, .int .i64 0] (some 22) (by kernel_rfl) _ (fun w8 hRep => rNever_w F p low high 0 a1 c1 a2 c2 a3 c3 w8 (hRep.toSl 2 rfl hs1.le hs1.big) (hRep.toSl 1 rfl hs2.le hs2.big) (hRep.toSl 0 rfl hs3.le hs3.big) _ hs61) ?_
   rintro w8 e w9 hRep ⟨rfl, hE⟩
   refine ⟨_, _, _, rfl, rfl, hRep.ext' hE, ?_⟩
   refine AtL.nil (by kernel_rfl) ?_
   refine Ends.seq ?_
   refine At.cond (r_38) (by kernel_rfl) (fun hc39 => ?_) (fun hc39 => ?_)
   ·have h := br_t h hc39
    refine At.run [] [6, 7] [false, false, false, false, true] (.ret) (fun B93 => [(6, .slice (some ⟨B93, 0, none⟩) 1 1), (7, .bool true)]) (fun B93 => [.blk B93 [.int .i64 (-1), .int .i64 0, .int .i64 0] 55]) (fun B93 => []) (fun B93 => []) (fun B93 => by as_aux_lemma => kernel_rfl) (fun B93 => trivial) (fun B93 => ?_)
    refine Ends.block_ret ?_
    refine Ends.then_ret ?_
    refine Ends.then_ret ?_
    refine Ends.block_ret ?_
    refine Ends.then_ret ?_
    obtain rfl := Option.some.inj h
    have h := hr1
    refine Ends.addRow 0 B93 55 [.int .i64 (-1), .int .i64 0, .int .i64 0] (by kernel_rfl) Split.cells Split.zero 3 ([(⟨(-1), 0, 0⟩ : Split)] : List Split) xlen55 (by kernel_rfl) (Nat.le_of_ble_eq_true rfl) (by simp) ?_
    refine Ends.body [] (.tuple #[.slice (some ⟨B93, 0, none⟩) (([(⟨(-1), 0, 0⟩ : Split)] : List Split).length) (([(⟨(-1), 0, 0⟩ : Split)] : List Split).length), .bool true]) [] (by kernel_rfl) (fun w9 hRep => ?_)
    obtain rfl := Option.some.inj h
    exact ⟨(some ⟨B93, 0, none⟩), ([(⟨(-1), 0, 0⟩ : Split)] : List Split).length, rfl, hRep.sel (r := [0]) (by kernel_rfl) (by kernel_rfl)⟩
   ·have h := br_f h hc39
    refine At.runR [] [1, 2, 3, 8] [true, true, true, true] (.normal) ([(1, .slice a2 low.length c2), (2, .slice a3 high.length c3), (3, .pointer (some ⟨B3, 0, none⟩)), (8, .int .i64 0)]) [] [] (fun _ => by as_aux_lemma => kernel_rfl) trivial ?_
    refine Ends.block_normal ?_
    refine Ends.seq ?_
    refine At.runR [] [1, 2, 3, 8] [true, true, true, true] (.normal) ([(1, .slice a2 low.length c2), (2, .slice a3 high.length c3), (3, .pointer (some ⟨B3, 0, none⟩)), (8, .int .i64 1)]) [] [] (fun _ => by as_aux_lemma => kernel_rfl) trivial ?_
    refine Ends.rounds ?_
    refine AtR.succ ?_
    refine At.seq ?_
    refine At.runR [] [1, 2, 3, 8] [true, true, true, true] (.normal) ([(1, .slice a2 low.length c2), (2, .slice a3 high.length c3), (3, .pointer (some ⟨B3, 0, none⟩)), (8, .int .i64 1)]) [] [] (fun _ => by as_aux_lemma => kernel_rfl) trivial ?_
    refine Ends.seq ?_
    refine At.seq ?_
    refine At.block ?_
    refine At.seq ?_
    refine At.region ?_
    refine AtL.runR 4 [(3, 0, 0), (3, 1, 0), (3, 2, 0), (3, 3, 0), (3, 4, 0), (3, 5, 0), (3, 6, 0), (3, 7, 0), (3, 8, 0)] [1, 2, 3, 8, 18, 19, 20, 21] [true, true, true, true] ([(1, .slice a2 low.length c2), (2, .slice a3 high.length c3), (3, .pointer (some ⟨B3, 0, none⟩)), (8, .int .i64 1), (18, .agg (rcL a1 c1 p).toArray), (19, .slice a2 low.length c2), (20, .slice a3 high.length c3), (21, .int .i64 1)]) [B3, 0, B3, 1, B3, 2, B3, 3, B3, 4, B3, 5, B3, 6, B3, 7, B3, 8] [] (fun _ => by as_aux_lemma => kernel_rfl) trivial ?_
    obtain ⟨r_40, hs60, h⟩ := bd h
    refine AtL.call 97 #[.agg (rcL a1 c1 p).toArray, .slice a2 low.length c2, .slice a3 high.length c3, .int .i64 1] (some 22) (by kernel_rfl) _ (fun w8 hRep => rNever_w F p low high 1 a1 c1 a2 c2 a3 c3 w8 (hRep.toSl 2 rfl hs1.le hs1.big) (hRep.toSl 1 rfl hs2.le hs2.big) (hRep.toSl 0 rfl hs3.le hs3.big) _ hs60) ?_
    rintro w8 e w9 hRep ⟨rfl, hE⟩
    refine ⟨_, _, _, rfl, rfl, hRep.ext' hE, ?_⟩
    refine AtL.nil (by kernel_rfl) ?_
    refine Ends.seq ?_
    refine At.cond (r_40) (by kernel_rfl) (fun hc41 => ?_) (fun hc41 => ?_)
    ·have h := br_t h hc41
     refine At.run [] [6, 7] [false, false, false, false, true] (.ret) (fun B110 => [(6, .slice (some ⟨B110, 0, none⟩) 1 1), (7, .bool true)]) (fun B110 => [.blk B110 [.int .i64 (-1), .int .i64 0, .int .i64 1] 55]) (fun B110 => []) (fun B110 => []) (fun B110 => by as_aux_lemma => kernel_rfl) (fun B110 => trivial) (fun B110 => ?_)
     refine Ends.block_ret ?_
     refine Ends.then_ret ?_
     refine Ends.then_ret ?_
     refine Ends.block_ret ?_
     refine Ends.then_ret ?_
     obtain rfl := Option.some.inj h
     have h := hr1
     refine Ends.addRow 0 B110 55 [.int .i64 (-1), .int .i64 0, .int .i64 1] (by kernel_rfl) Split.cells Split.zero 3 ([(⟨(-1), 0, 1⟩ : Split)] : List Split) xlen55 (by kernel_rfl) (Nat.le_of_ble_eq_true rfl) (by simp) ?_
     refine Ends.body [] (.tuple #[.slice (some ⟨B110, 0, none⟩) (([(⟨(-1), 0, 1⟩ : Split)] : List Split).length) (([(⟨(-1), 0, 1⟩ : Split)] : List Split).length), .bool true]) [] (by kernel_rfl) (fun w9 hRep => ?_)
     obtain rfl := Option.some.inj h
     exact ⟨(some ⟨B110, 0, none⟩), ([(⟨(-1), 0, 1⟩ : Split)] : List Split).length, rfl, hRep.sel (r := [0]) (by kernel_rfl) (by kernel_rfl)⟩
    ·have h := br_f h hc41
     refine At.runR [] [1, 2, 3, 8] [true, true, true, true] (.normal) ([(1, .slice a2 low.length c2), (2, .slice a3 high.length c3), (3, .pointer (some ⟨B3, 0, none⟩)), (8, .int .i64 1)]) [] [] (fun _ => by as_aux_lemma => kernel_rfl) trivial ?_
     refine Ends.block_normal ?_
     refine Ends.seq ?_
     refine At.runR [] [1, 2, 3, 8] [true, true, true, true] (.normal) ([(1, .slice a2 low.length c2), (2, .slice a3 high.length c3), (3, .pointer (some ⟨B3, 0, none⟩)), (8, .int .i64 2)]) [] [] (fun _ => by as_aux_lemma => kernel_rfl) trivial ?_
     refine Ends.rounds ?_
     refine AtR.succ ?_
     refine At.seq ?_
     refine At.runR [] [1, 2, 3, 8] [true, true, true, true] (.normal) ([(1, .slice a2 low.length c2), (2, .slice a3 high.length c3), (3, .pointer (some ⟨B3, 0, none⟩)), (8, .int .i64 2)]) [] [] (fun _ => by as_aux_lemma => kernel_rfl) trivial ?_
     refine Ends.seq ?_
     refine At.seq ?_
     refine At.block ?_
     refine At.seq ?_
     refine At.region ?_
     refine AtL.runR 4 [(3, 0, 0), (3, 1, 0), (3, 2, 0), (3, 3, 0), (3, 4, 0), (3, 5, 0), (3, 6, 0), (3, 7, 0), (3, 8, 0)] [1, 2, 3, 8, 18, 19, 20, 21] [true, true, true, true] ([(1, .slice a2 low.length c2), (2, .slice a3 high.length c3), (3, .pointer (some ⟨B3, 0, none⟩)), (8, .int .i64 2), (18, .agg (rcL a1 c1 p).toArray), (19, .slice a2 low.length c2), (20, .slice a3 high.length c3), (21, .int .i64 2)]) [B3, 0, B3, 1, B3, 2, B3, 3, B3, 4, B3, 5, B3, 6, B3, 7, B3, 8] [] (fun _ => by as_aux_lemma => kernel_rfl) trivial ?_
     obtain ⟨r_42, hs59, h⟩ := bd h
     refine AtL.call 97 #[.agg (rcL a1 c1 p).toArray, .slice a2 low.length c2, .slice a3 high.length c3, .int .i64 2] (some 22) (by kernel_rfl) _ (fun w8 hRep => rNever_w F p low high 2 a1 c1 a2 c2 a3 c3 w8 (hRep.toSl 2 rfl hs1.le hs1.big) (hRep.toSl 1 rfl hs2.le hs2.big) (hRep.toSl 0 rfl hs3.le hs3.big) _ hs59) ?_
     rintro w8 e w9 hRep ⟨rfl, hE⟩
     refine ⟨_, _, _, rfl, rfl, hRep.ext' hE, ?_⟩
     refine AtL.nil (by kernel_rfl) ?_
     refine Ends.seq ?_
     refine At.cond (r_42) (by kernel_rfl) (fun hc43 => ?_) (fun hc43 => ?_)
     ·have h := br_t h hc43
      refine At.run [] [6, 7] [false, false, false, false, true] (.ret) (fun B127 => [(6, .slice (some ⟨B127, 0, none⟩) 1 1), (7, .bool true)]) (fun B127 => [.blk B127 [.int .i64 (-1), .int .i64 0, .int .i64 2] 55]) (fun B127 => []) (fun B127 => []) (fun B127 => by as_aux_lemma => kernel_rfl) (fun B127 => trivial) (fun B127 => ?_)
      refine Ends.block_ret ?_
      refine Ends.then_ret ?_
      refine Ends.then_ret ?_
      refine Ends.block_ret ?_
      refine Ends.then_ret ?_
      obtain rfl := Option.some.inj h
      have h := hr1
      refine Ends.addRow 0 B127 55 [.int .i64 (-1), .int .i64 0, .int .i64 2] (by kernel_rfl) Split.cells Split.zero 3 ([(⟨(-1), 0, 2⟩ : Split)] : List Split) xlen55 (by kernel_rfl) (Nat.le_of_ble_eq_true rfl) (by simp) ?_
      refine Ends.body [] (.tuple #[.slice (some ⟨B127, 0, none⟩) (([(⟨(-1), 0, 2⟩ : Split)] : List Split).length) (([(⟨(-1), 0, 2⟩ : Split)] : List Split).length), .bool true]) [] (by kernel_rfl) (fun w9 hRep => ?_)
      obtain rfl := Option.some.inj h
      exact ⟨(some ⟨B127, 0, none⟩), ([(⟨(-1), 0, 2⟩ : Split)] : List Split).length, rfl, hRep.sel (r := [0]) (by kernel_rfl) (by kernel_rfl)⟩
     ·have h := br_f h hc43
      refine At.runR [] [1, 2, 3, 8] [true, true, true, true] (.normal) ([(1, .slice a2 low.length c2), (2, .slice a3 high.length c3), (3, .pointer (some ⟨B3, 0, none⟩)), (8, .int .i64 2)]) [] [] (fun _ => by as_aux_lemma => kernel_rfl) trivial ?_
      refine Ends.block_normal ?_
      refine Ends.seq ?_
      refine At.runR [] [1, 2, 3, 8] [true, true, true, true] (.normal) ([(1, .slice a2 low.length c2), (2, .slice a3 high.length c3), (3, .pointer (some ⟨B3, 0, none⟩)), (8, .int .i64 3)]) [] [] (fun _ => by as_aux_lemma => kernel_rfl) trivial ?_
      refine Ends.rounds ?_
      refine AtR.succ ?_
      refine At.seq ?_
      refine At.runR [] [1, 2, 3, 8] [true, true, true, true] (.normal) ([(1, .slice a2 low.length c2), (2, .slice a3 high.length c3), (3, .pointer (some ⟨B3, 0, none⟩)), (8, .int .i64 3)]) [] [] (fun _ => by as_aux_lemma => kernel_rfl) trivial ?_
      refine Ends.seq ?_
      refine At.seq ?_
      refine At.block ?_
      refine At.seq ?_
      refine At.region ?_
      refine AtL.runR 4 [(3, 0, 0), (3, 1, 0), (3, 2, 0), (3, 3, 0), (3, 4, 0), (3, 5, 0), (3, 6, 0), (3, 7, 0), (3, 8, 0)] [1, 2, 3, 8, 18, 19, 20, 21] [true, true, true, true] ([(1, .slice a2 low.length c2), (2, .slice a3 high.length c3), (3, .pointer (some ⟨B3, 0, none⟩)), (8, .int .i64 3), (18, .agg (rcL a1 c1 p).toArray), (19, .slice a2 low.length c2), (20, .slice a3 high.length c3), (21, .int .i64 3)]) [B3, 0, B3, 1, B3, 2, B3, 3, B3, 4, B3, 5, B3, 6, B3, 7, B3, 8] [] (fun _ => by as_aux_lemma => kernel_rfl) trivial ?_
      obtain ⟨r_44, hs58, h⟩ := bd h
      refine AtL.call 97 #[.agg (rcL a1 c1 p).toArray, .slice a2 low.length c2, .slice a3 high.length c3, .int .i64 3] (some 22) (by kernel_rfl) _ (fun w8 hRep => rNever_w F p low high 3 a1 c1 a2 c2 a3 c3 w8 (hRep.toSl 2 rfl hs1.le hs1.big) (hRep.toSl 1 rfl hs2.le hs2.big) (hRep.toSl 0 rfl hs3.le hs3.big) _ hs58) ?_
      rintro w8 e w9 hRep ⟨rfl, hE⟩
      refine ⟨_, _, _, rfl, rfl, hRep.ext' hE, ?_⟩
      refine AtL.nil (by kernel_rfl) ?_
      refine Ends.seq ?_
      refine At.cond (r_44) (by kernel_rfl) (fun hc45 => ?_) (fun hc45 => ?_)
      ·have h := br_t h hc45
       refine At.run [] [6, 7] [false, false, false, false, true] (.ret) (fun B144 => [(6, .slice (some ⟨B144, 0, none⟩) 1 1), (7, .bool true)]) (fun B144 => [.blk B144 [.int .i64 (-1), .int .i64 0, .int .i64 3] 55]) (fun B144 => []) (fun B144 => []) (fun B144 => by as_aux_lemma => kernel_rfl) (fun B144 => trivial) (fun B144 => ?_)
       refine Ends.block_ret ?_
       refine Ends.then_ret ?_
       refine Ends.then_ret ?_
       refine Ends.block_ret ?_
       refine Ends.then_ret ?_
       obtain rfl := Option.some.inj h
       have h := hr1
       refine Ends.addRow 0 B144 55 [.int .i64 (-1), .int .i64 0, .int .i64 3] (by kernel_rfl) Split.cells Split.zero 3 ([(⟨(-1), 0, 3⟩ : Split)] : List Split) xlen55 (by kernel_rfl) (Nat.le_of_ble_eq_true rfl) (by simp) ?_
       refine Ends.body [] (.tuple #[.slice (some ⟨B144, 0, none⟩) (([(⟨(-1), 0, 3⟩ : Split)] : List Split).length) (([(⟨(-1), 0, 3⟩ : Split)] : List Split).length), .bool true]) [] (by kernel_rfl) (fun w9 hRep => ?_)
       obtain rfl := Option.some.inj h
       exact ⟨(some ⟨B144, 0, none⟩), ([(⟨(-1), 0, 3⟩ : Split)] : List Split).length, rfl, hRep.sel (r := [0]) (by kernel_rfl) (by kernel_rfl)⟩
      ·have h := br_f h hc45
       refine At.runR [] [1, 2, 3, 8] [true, true, true, true] (.normal) ([(1, .slice a2 low.length c2), (2, .slice a3 high.length c3), (3, .pointer (some ⟨B3, 0, none⟩)), (8, .int .i64 3)]) [] [] (fun _ => by as_aux_lemma => kernel_rfl) trivial ?_
       refine Ends.block_normal ?_
       refine Ends.seq ?_
       refine At.runR [] [1, 2, 3, 8] [true, true, true, true] (.normal) ([(1, .slice a2 low.length c2), (2, .slice a3 high.length c3), (3, .pointer (some ⟨B3, 0, none⟩)), (8, .int .i64 4)]) [] [] (fun _ => by as_aux_lemma => kernel_rfl) trivial ?_
       refine Ends.rounds ?_
       refine AtR.succ ?_
       refine At.seq ?_
       refine At.runR [] [1, 2, 3, 8] [true, true, true, true] (.normal) ([(1, .slice a2 low.length c2), (2, .slice a3 high.length c3), (3, .pointer (some ⟨B3, 0, none⟩)), (8, .int .i64 4)]) [] [] (fun _ => by as_aux_lemma => kernel_rfl) trivial ?_
       refine Ends.seq ?_
       refine At.seq ?_
       refine At.block ?_
       refine At.seq ?_
       refine At.region ?_
       refine AtL.runR 4 [(3, 0, 0), (3, 1, 0), (3, 2, 0), (3, 3, 0), (3, 4, 0), (3, 5, 0), (3, 6, 0), (3, 7, 0), (3, 8, 0)] [1, 2, 3, 8, 18, 19, 20, 21] [true, true, true, true] ([(1, .slice a2 low.length c2), (2, .slice a3 high.length c3), (3, .pointer (some ⟨B3, 0, none⟩)), (8, .int .i64 4), (18, .agg (rcL a1 c1 p).toArray), (19, .slice a2 low.length c2), (20, .slice a3 high.length c3), (21, .int .i64 4)]) [B3, 0, B3, 1, B3, 2, B3, 3, B3, 4, B3, 5, B3, 6, B3, 7, B3, 8] [] (fun _ => by as_aux_lemma => kernel_rfl) trivial ?_
       obtain ⟨r_46, hs57, h⟩ := bd h
       refine AtL.call 97 #[.agg (rcL a1 c1 p).toArray, .slice a2 low.length c2, .slice a3 high.length c3, .int .i64 4] (some 22) (by kernel_rfl) _ (fun w8 hRep => rNever_w F p low high 4 a1 c1 a2 c2 a3 c3 w8 (hRep.toSl 2 rfl hs1.le hs1.big) (hRep.toSl 1 rfl hs2.le hs2.big) (hRep.toSl 0 rfl hs3.le hs3.big) _ hs57) ?_
       rintro w8 e w9 hRep ⟨rfl, hE⟩
       refine ⟨_, _, _, rfl, rfl, hRep.ext' hE, ?_⟩
       refine AtL.nil (by kernel_rfl) ?_
       refine Ends.seq ?_
       refine At.cond (r_46) (by kernel_rfl) (fun hc47 => ?_) (fun hc47 => ?_)
       ·have h := br_t h hc47
        refine At.run [] [6, 7] [false, false, false, false, true] (.ret) (fun B161 => [(6, .slice (some ⟨B161, 0, none⟩) 1 1), (7, .bool true)]) (fun B161 => [.blk B161 [.int .i64 (-1), .int .i64 0, .int .i64 4] 55]) (fun B161 => []) (fun B161 => []) (fun B161 => by as_aux_lemma => kernel_rfl) (fun B161 => trivial) (fun B161 => ?_)
        refine Ends.block_ret ?_
        refine Ends.then_ret ?_
        refine Ends.then_ret ?_
        refine Ends.block_ret ?_
        refine Ends.then_ret ?_
        obtain rfl := Option.some.inj h
        have h := hr1
        refine Ends.addRow 0 B161 55 [.int .i64 (-1), .int .i64 0, .int .i64 4] (by kernel_rfl) Split.cells Split.zero 3 ([(⟨(-1), 0, 4⟩ : Split)] : List Split) xlen55 (by kernel_rfl) (Nat.le_of_ble_eq_true rfl) (by simp) ?_
        refine Ends.body [] (.tuple #[.slice (some ⟨B161, 0, none⟩) (([(⟨(-1), 0, 4⟩ : Split)] : List Split).length) (([(⟨(-1), 0, 4⟩ : Split)] : List Split).length), .bool true]) [] (by kernel_rfl) (fun w9 hRep => ?_)
        obtain rfl := Option.some.inj h
        exact ⟨(some ⟨B161, 0, none⟩), ([(⟨(-1), 0, 4⟩ : Split)] : List Split).length, rfl, hRep.sel (r := [0]) (by kernel_rfl) (by kernel_rfl)⟩
       ·have h := br_f h hc47
        refine At.runR [] [1, 2, 3, 8] [true, true, true, true] (.normal) ([(1, .slice a2 low.length c2), (2, .slice a3 high.length c3), (3, .pointer (some ⟨B3, 0, none⟩)), (8, .int .i64 4)]) [] [] (fun _ => by as_aux_lemma => kernel_rfl) trivial ?_
        refine Ends.block_normal ?_
        refine Ends.seq ?_
        refine At.runR [] [1, 2, 3, 8] [true, true, true, true] (.normal) ([(1, .slice a2 low.length c2), (2, .slice a3 high.length c3), (3, .pointer (some ⟨B3, 0, none⟩)), (8, .int .i64 5)]) [] [] (fun _ => by as_aux_lemma => kernel_rfl) trivial ?_
        refine Ends.rounds ?_
        refine AtR.succ ?_
        refine At.seq ?_
        refine At.runR [] [1, 2, 3, 8] [true, true, true, true] (.normal) ([(1, .slice a2 low.length c2), (2, .slice a3 high.length c3), (3, .pointer (some ⟨B3, 0, none⟩)), (8, .int .i64 5)]) [] [] (fun _ => by as_aux_lemma => kernel_rfl) trivial ?_
        refine Ends.seq ?_
        refine At.seq ?_
        refine At.block ?_
        refine At.seq ?_
        refine At.region ?_
        refine AtL.runR 4 [(3, 0, 0), (3, 1, 0), (3, 2, 0), (3, 3, 0), (3, 4, 0), (3, 5, 0), (3, 6, 0), (3, 7, 0), (3, 8, 0)] [1, 2, 3, 8, 18, 19, 20, 21] [true, true, true, true] ([(1, .slice a2 low.length c2), (2, .slice a3 high.length c3), (3, .pointer (some ⟨B3, 0, none⟩)), (8, .int .i64 5), (18, .agg (rcL a1 c1 p).toArray), (19, .slice a2 low.length c2), (20, .slice a3 high.length c3), (21, .int .i64 5)]) [B3, 0, B3, 1, B3, 2, B3, 3, B3, 4, B3, 5, B3, 6, B3, 7, B3, 8] [] (fun _ => by as_aux_lemma => kernel_rfl) trivial ?_
        obtain ⟨r_48, hs56, h⟩ := bd h
        refine AtL.call 97 #[.agg (rcL a1 c1 p).toArray, .slice a2 low.length c2, .slice a3 high.length c3, .int .i64 5] (some 22) (by kernel_rfl) _ (fun w8 hRep => rNever_w F p low high 5 a1 c1 a2 c2 a3 c3 w8 (hRep.toSl 2 rfl hs1.le hs1.big) (hRep.toSl 1 rfl hs2.le hs2.big) (hRep.toSl 0 rfl hs3.le hs3.big) _ hs56) ?_
        rintro w8 e w9 hRep ⟨rfl, hE⟩
        refine ⟨_, _, _, rfl, rfl, hRep.ext' hE, ?_⟩
        refine AtL.nil (by kernel_rfl) ?_
        refine Ends.seq ?_
        refine At.cond (r_48) (by kernel_rfl) (fun hc49 => ?_) (fun hc49 => ?_)
        ·have h := br_t h hc49
         refine At.run [] [6, 7] [false, false, false, false, true] (.ret) (fun B178 => [(6, .slice (some ⟨B178, 0, none⟩) 1 1), (7, .bool true)]) (fun B178 => [.blk B178 [.int .i64 (-1), .int .i64 0, .int .i64 5] 55]) (fun B178 => []) (fun B178 => []) (fun B178 => by as_aux_lemma => kernel_rfl) (fun B178 => trivial) (fun B178 => ?_)
         refine Ends.block_ret ?_
         refine Ends.then_ret ?_
         refine Ends.then_ret ?_
         refine Ends.block_ret ?_
         refine Ends.then_ret ?_
         obtain rfl := Option.some.inj h
         have h := hr1
         refine Ends.addRow 0 B178 55 [.int .i64 (-1), .int .i64 0, .int .i64 5] (by kernel_rfl) Split.cells Split.zero 3 ([(⟨(-1), 0, 5⟩ : Split)] : List Split) xlen55 (by kernel_rfl) (Nat.le_of_ble_eq_true rfl) (by simp) ?_
         refine Ends.body [] (.tuple #[.slice (some ⟨B178, 0, none⟩) (([(⟨(-1), 0, 5⟩ : Split)] : List Split).length) (([(⟨(-1), 0, 5⟩ : Split)] : List Split).length), .bool true]) [] (by kernel_rfl) (fun w9 hRep => ?_)
         obtain rfl := Option.some.inj h
         exact ⟨(some ⟨B178, 0, none⟩), ([(⟨(-1), 0, 5⟩ : Split)] : List Split).length, rfl, hRep.sel (r := [0]) (by kernel_rfl) (by kernel_rfl)⟩
        ·have h := br_f h hc49
         refine At.runR [] [1, 2, 3, 8] [true, true, true, true] (.normal) ([(1, .slice a2 low.length c2), (2, .slice a3 high.length c3), (3, .pointer (some ⟨B3, 0, none⟩)), (8, .int .i64 5)]) [] [] (fun _ => by as_aux_lemma => kernel_rfl) trivial ?_
         refine Ends.block_normal ?_
         refine Ends.seq ?_
         refine At.runR [] [1, 2, 3, 8] [true, true, true, true] (.normal) ([(1, .slice a2 low.length c2), (2, .slice a3 high.length c3), (3, .pointer (some ⟨B3, 0, none⟩)), (8, .int .i64 6)]) [] [] (fun _ => by as_aux_lemma => kernel_rfl) trivial ?_
         refine Ends.rounds ?_
         refine AtR.succ ?_
         refine At.seq ?_
         refine At.runR [] [1, 2, 3, 8] [true, true, true, true] (.normal) ([(1, .slice a2 low.length c2), (2, .slice a3 high.length c3), (3, .pointer (some ⟨B3, 0, none⟩)), (8, .int .i64 6)]) [] [] (fun _ => by as_aux_lemma => kernel_rfl) trivial ?_
         refine Ends.seq ?_
         refine At.seq ?_
         refine At.block ?_
         refine At.seq ?_
         refine At.region ?_
         refine AtL.runR 4 [(3, 0, 0), (3, 1, 0), (3, 2, 0), (3, 3, 0), (3, 4, 0), (3, 5, 0), (3, 6, 0), (3, 7, 0), (3, 8, 0)] [1, 2, 3, 8, 18, 19, 20, 21] [true, true, true, true] ([(1, .slice a2 low.length c2), (2, .slice a3 high.length c3), (3, .pointer (some ⟨B3, 0, none⟩)), (8, .int .i64 6), (18, .agg (rcL a1 c1 p).toArray), (19, .slice a2 low.length c2), (20, .slice a3 high.length c3), (21, .int .i64 6)]) [B3, 0, B3, 1, B3, 2, B3, 3, B3, 4, B3, 5, B3, 6, B3, 7, B3, 8] [] (fun _ => by as_aux_lemma => kernel_rfl) trivial ?_
         obtain ⟨r_50, hs55, h⟩ := bd h
         refine AtL.call 97 #[.agg (rcL a1 c1 p).toArray, .slice a2 low.length c2, .slice a3 high.length c3, .int .i64 6] (some 22) (by kernel_rfl) _ (fun w8 hRep => rNever_w F p low high 6 a1 c1 a2 c2 a3 c3 w8 (hRep.toSl 2 rfl hs1.le hs1.big) (hRep.toSl 1 rfl hs2.le hs2.big) (hRep.toSl 0 rfl hs3.le hs3.big) _ hs55) ?_
         rintro w8 e w9 hRep ⟨rfl, hE⟩
         refine ⟨_, _, _, rfl, rfl, hRep.ext' hE, ?_⟩
         refine AtL.nil (by kernel_rfl) ?_
         refine Ends.seq ?_
         refine At.cond (r_50) (by kernel_rfl) (fun hc51 => ?_) (fun hc51 => ?_)
         ·have h := br_t h hc51
          refine At.run [] [6, 7] [false, false, false, false, true] (.ret) (fun B195 => [(6, .slice (some ⟨B195, 0, none⟩) 1 1), (7, .bool true)]) (fun B195 => [.blk B195 [.int .i64 (-1), .int .i64 0, .int .i64 6] 55]) (fun B195 => []) (fun B195 => []) (fun B195 => by as_aux_lemma => kernel_rfl) (fun B195 => trivial) (fun B195 => ?_)
          refine Ends.block_ret ?_
          refine Ends.then_ret ?_
          refine Ends.then_ret ?_
          refine Ends.block_ret ?_
          refine Ends.then_ret ?_
          obtain rfl := Option.some.inj h
          have h := hr1
          refine Ends.addRow 0 B195 55 [.int .i64 (-1), .int .i64 0, .int .i64 6] (by kernel_rfl) Split.cells Split.zero 3 ([(⟨(-1), 0, 6⟩ : Split)] : List Split) xlen55 (by kernel_rfl) (Nat.le_of_ble_eq_true rfl) (by simp) ?_
          refine Ends.body [] (.tuple #[.slice (some ⟨B195, 0, none⟩) (([(⟨(-1), 0, 6⟩ : Split)] : List Split).length) (([(⟨(-1), 0, 6⟩ : Split)] : List Split).length), .bool true]) [] (by kernel_rfl) (fun w9 hRep => ?_)
          obtain rfl := Option.some.inj h
          exact ⟨(some ⟨B195, 0, none⟩), ([(⟨(-1), 0, 6⟩ : Split)] : List Split).length, rfl, hRep.sel (r := [0]) (by kernel_rfl) (by kernel_rfl)⟩
         ·have h := br_f h hc51
          refine At.runR [] [1, 2, 3, 8] [true, true, true, true] (.normal) ([(1, .slice a2 low.length c2), (2, .slice a3 high.length c3), (3, .pointer (some ⟨B3, 0, none⟩)), (8, .int .i64 6)]) [] [] (fun _ => by as_aux_lemma => kernel_rfl) trivial ?_
          refine Ends.block_normal ?_
          refine Ends.seq ?_
          refine At.runR [] [1, 2, 3, 8] [true, true, true, true] (.normal) ([(1, .slice a2 low.length c2), (2, .slice a3 high.length c3), (3, .pointer (some ⟨B3, 0, none⟩)), (8, .int .i64 7)]) [] [] (fun _ => by as_aux_lemma => kernel_rfl) trivial ?_
          refine Ends.rounds ?_
          refine AtR.succ ?_
          refine At.seq ?_
          refine At.runR [] [1, 2, 3, 8] [true, true, true, true] (.normal) ([(1, .slice a2 low.length c2), (2, .slice a3 high.length c3), (3, .pointer (some ⟨B3, 0, none⟩)), (8, .int .i64 7)]) [] [] (fun _ => by as_aux_lemma => kernel_rfl) trivial ?_
          refine Ends.seq ?_
          refine At.seq ?_
          refine At.block ?_
          refine At.seq ?_
          refine At.region ?_
          refine AtL.runR 4 [(3, 0, 0), (3, 1, 0), (3, 2, 0), (3, 3, 0), (3, 4, 0), (3, 5, 0), (3, 6, 0), (3, 7, 0), (3, 8, 0)] [1, 2, 3, 8, 18, 19, 20, 21] [true, true, true, true] ([(1, .slice a2 low.length c2), (2, .slice a3 high.length c3), (3, .pointer (some ⟨B3, 0, none⟩)), (8, .int .i64 7), (18, .agg (rcL a1 c1 p).toArray), (19, .slice a2 low.length c2), (20, .slice a3 high.length c3), (21, .int .i64 7)]) [B3, 0, B3, 1, B3, 2, B3, 3, B3, 4, B3, 5, B3, 6, B3, 7, B3, 8] [] (fun _ => by as_aux_lemma => kernel_rfl) trivial ?_
          obtain ⟨r_52, hs54, h⟩ := bd h
          refine AtL.call 97 #[.agg (rcL a1 c1 p).toArray, .slice a2 low.length c2, .slice a3 high.length c3, .int .i64 7] (some 22) (by kernel_rfl) _ (fun w8 hRep => rNever_w F p low high 7 a1 c1 a2 c2 a3 c3 w8 (hRep.toSl 2 rfl hs1.le hs1.big) (hRep.toSl 1 rfl hs2.le hs2.big) (hRep.toSl 0 rfl hs3.le hs3.big) _ hs54) ?_
          rintro w8 e w9 hRep ⟨rfl, hE⟩
          refine ⟨_, _, _, rfl, rfl, hRep.ext' hE, ?_⟩
          refine AtL.nil (by kernel_rfl) ?_
          refine Ends.seq ?_
          refine At.cond (r_52) (by kernel_rfl) (fun hc53 => ?_) (fun hc53 => ?_)
          ·have h := br_t h hc53
           refine At.run [] [6, 7] [false, false, false, false, true] (.ret) (fun B212 => [(6, .slice (some ⟨B212, 0, none⟩) 1 1), (7, .bool true)]) (fun B212 => [.blk B212 [.int .i64 (-1), .int .i64 0, .int .i64 7] 55]) (fun B212 => []) (fun B212 => []) (fun B212 => by as_aux_lemma => kernel_rfl) (fun B212 => trivial) (fun B212 => ?_)
           refine Ends.block_ret ?_
           refine Ends.then_ret ?_
           refine Ends.then_ret ?_
           refine Ends.block_ret ?_
           refine Ends.then_ret ?_
           obtain rfl := Option.some.inj h
           have h := hr1
           refine Ends.addRow 0 B212 55 [.int .i64 (-1), .int .i64 0, .int .i64 7] (by kernel_rfl) Split.cells Split.zero 3 ([(⟨(-1), 0, 7⟩ : Split)] : List Split) xlen55 (by kernel_rfl) (Nat.le_of_ble_eq_true rfl) (by simp) ?_
           refine Ends.body [] (.tuple #[.slice (some ⟨B212, 0, none⟩) (([(⟨(-1), 0, 7⟩ : Split)] : List Split).length) (([(⟨(-1), 0, 7⟩ : Split)] : List Split).length), .bool true]) [] (by kernel_rfl) (fun w9 hRep => ?_)
           obtain rfl := Option.some.inj h
           exact ⟨(some ⟨B212, 0, none⟩), ([(⟨(-1), 0, 7⟩ : Split)] : List Split).length, rfl, hRep.sel (r := [0]) (by kernel_rfl) (by kernel_rfl)⟩
          ·have h := br_f h hc53
           refine At.runR [] [1, 2, 3, 8] [true, true, true, true] (.normal) ([(1, .slice a2 low.length c2), (2, .slice a3 high.length c3), (3, .pointer (some ⟨B3, 0, none⟩)), (8, .int .i64 7)]) [] [] (fun _ => by as_aux_lemma => kernel_rfl) trivial ?_
           refine Ends.block_normal ?_
           refine Ends.seq ?_
           refine At.runR [] [1, 2, 3, 8] [true, true, true, true] (.normal) ([(1, .slice a2 low.length c2), (2, .slice a3 high.length c3), (3, .pointer (some ⟨B3, 0, none⟩)), (8, .int .i64 8)]) [] [] (fun _ => by as_aux_lemma => kernel_rfl) trivial ?_
           refine Ends.rounds ?_
           refine AtR.succ ?_
           refine At.runR [] [1, 2, 3] [true, true, true, true] (.exit 0) ([(1, .slice a2 low.length c2), (2, .slice a3 high.length c3), (3, .pointer (some ⟨B3, 0, none⟩))]) [] [] (fun _ => by as_aux_lemma => kernel_rfl) trivial ?_
           refine Ends.then_exit ?_
           refine Ends.block_hit ?_
           exact Ends.mid () (Option.some.inj h).symm (by kernel_rfl) (by kernel_rfl)
  ·replace hI : o1 = (.inr ()) := hI
   have h := hr1
   try rw [hI] at h
   obtain ⟨o2, h, hr2⟩ := bd h
   refine At.seq_mid (σ := Unit) (fun s => o2 = (.inr ())) (fun s => []) (fun s => []) ?_ (fun s hI => ?_)
   ·refine At.seq ?_
    refine At.runR [] [1, 2, 3, 9] [true, true, true, true] (.normal) ([(1, .slice a2 low.length c2), (2, .slice a3 high.length c3), (3, .pointer (some ⟨B3, 0, none⟩)), (9, .int .i64 0)]) [] [] (fun _ => by as_aux_lemma => kernel_rfl) trivial ?_
    refine Ends.seq ?_
    refine At.block ?_
    refine At.loop (σ := Int) (fun n s => rProve_l3 F (rProve_S F rf) p low high n s = some o2) (fun s => [(1, .slice a2 low.length c2), (2, .slice a3 high.length c3), (3, .pointer (some ⟨B3, 0, none⟩)), (9, .int .i64 s)]) (fun s => [.sl a3 1 high.length (fun i_ => intCells (nth high 0 i_)), .sl a2 1 low.length (fun i_ => intCells (nth low 0 i_)), .sl a1 9 p.lots.length (fun i_ => Lot.cells (nth p.lots Lot.zero i_)), .blk B3 (rcL a1 c1 p) 28]) F (0 : Int) h (by kernel_rfl) (by kernel_rfl) (fun n s hI => ?_)
    revert hI; revert s; intro t9 hI
    replace hI : rProve_l3 F (rProve_S F rf) p low high n t9 = some o2 := hI
    rcases n with _ | fuel3
    ·cases hI
    ·rw [rProve_l3] at hI
     have h := hI
     clear hI
     refine At.seq ?_
     refine At.seq ?_
     refine At.runR [] [1, 2, 3, 9, 29] [true, true, true, true] (.normal) ([(1, .slice a2 low.length c2), (2, .slice a3 high.length c3), (3, .pointer (some ⟨B3, 0, none⟩)), (9, .int .i64 t9), (29, .bool (decide (t9 < (low.length : Int))))]) [] [] (fun _ => by as_aux_lemma => kernel_rfl) trivial ?_
     refine Ends.seq ?_
     refine At.cond (decide (t9 < (low.length : Int))) (by kernel_rfl) (fun hc4 => ?_) (fun hc4 => ?_)
     ·have h := br_t h hc4
      refine At.runR [] [1, 2, 3, 9] [true, true, true, true] (.normal) ([(1, .slice a2 low.length c2), (2, .slice a3 high.length c3), (3, .pointer (some ⟨B3, 0, none⟩)), (9, .int .i64 t9)]) [] [] (fun _ => by as_aux_lemma => kernel_rfl) trivial ?_
      refine Ends.seq ?_
      refine At.seq ?_
      refine At.block ?_
      refine At.seq ?_
      obtain ⟨g15, h⟩ := gd h
      obtain ⟨g16, h⟩ := gd h
      refine At.runR [(1, 0, 0), (1, 0, t9.toNat), (0, 0, 0), (0, 0, t9.toNat)] [1, 2, 3, 9, 40] [true, true, true, true] (.normal) ([(1, .slice a2 low.length c2), (2, .slice a3 high.length c3), (3, .pointer (some ⟨B3, 0, none⟩)), (9, .int .i64 t9), (40, .bool (decide ((nth low 0 t9.toNat) < (nth high 0 t9.toNat))))]) [slB a2, slO a2 + t9.toNat * 1 + 0, slB a3, slO a3 + t9.toNat * 1 + 0] [IdxOk a2 a2 low.length low.length t9, t9.toNat < low.length, IdxOk a3 a3 high.length high.length t9, t9.toNat < high.length] (fun _ => by as_aux_lemma => kernel_rfl) ⟨inB_idx g15, inB_lt g15, inB_idx g16, inB_lt g16, trivial⟩ ?_
      refine Ends.seq ?_
      refine At.cond (decide ((nth low 0 t9.toNat) < (nth high 0 t9.toNat))) (by kernel_rfl) (fun hc17 => ?_) (fun hc17 => ?_)
      ·have h := br_t h hc17
       refine At.seq ?_
       refine At.runR [(1, 0, 0), (1, 0, t9.toNat), (0, 0, 0), (0, 0, t9.toNat)] [1, 2, 3, 9, 10] [true, true, true, true] (.normal) ([(1, .slice a2 low.length c2), (2, .slice a3 high.length c3), (3, .pointer (some ⟨B3, 0, none⟩)), (9, .int .i64 t9), (10, .int .i64 (IntKind.i64.wrap ((IntKind.i64.wrap ((nth low 0 t9.toNat) + (nth high 0 t9.toNat))).tdiv (2 : Int))))]) [slB a2, slO a2 + t9.toNat * 1 + 0, slB a3, slO a3 + t9.toNat * 1 + 0] [IdxOk a2 a2 low.length low.length t9, t9.toNat < low.length, IdxOk a3 a3 high.length high.length t9, t9.toNat < high.length, (2 : Int) ≠ 0] (fun _ => by as_aux_lemma => kernel_rfl) ⟨inB_idx g15, inB_lt g15, inB_idx g16, inB_lt g16, by decide, trivial⟩ ?_
       refine Ends.seq ?_
       refine At.seq ?_
       refine At.plan ([.sl a3 1 high.length (fun i_ => intCells (nth high 0 i_)), .sl a2 1 low.length (fun i_ => intCells (nth low 0 i_)), .sl a1 9 p.lots.length (fun i_ => Lot.cells (nth p.lots Lot.zero i_)), .blk B3 (rcL a1 c1 p) 28]) [0, 1, 2, 3] (by kernel_rfl) (by kernel_rfl) [.pu [1, 2, 3, 4], .st [0], .mv 5, .mv 6, .pu [7, 8, 9, 10, 11]] (by kernel_rfl) (by kernel_rfl) ?_
       refine AtP.pu ?_
       refine AtY.runp 4 [1, 2, 3, 9, 10, 53, 54, 55, 56] ([(1, .slice a2 low.length c2), (2, .slice a3 high.length c3), (3, .pointer (some ⟨B3, 0, none⟩)), (9, .int .i64 t9), (10, .int .i64 (IntKind.i64.wrap ((IntKind.i64.wrap ((nth low 0 t9.toNat) + (nth high 0 t9.toNat))).tdiv (2 : Int)))), (53, .slice a2 low.length c2), (54, .slice a3 high.length c3), (55, .int .i64 t9), (56, .int .i64 (IntKind.i64.wrap ((IntKind.i64.wrap ((nth low 0 t9.toNat) + (nth high 0 t9.toNat))).tdiv (2 : Int))))]) [] (by as_aux_lemma => kernel_rfl) trivial ?_
       refine AtY.nil (by kernel_rfl) ?_
       refine AtP.st ?_
       refine AtY.run 1 [(3, 0, 0), (3, 1, 0), (3, 2, 0), (3, 3, 0), (3, 4, 0), (3, 5, 0), (3, 6, 0), (3, 7, 0), (3, 8, 0)] [1, 2, 3, 9, 10, 52, 53, 54, 55, 56] ([(1, .slice a2 low.length c2), (2, .slice a3 high.length c3), (3, .pointer (some ⟨B3, 0, none⟩)), (9, .int .i64 t9), (10, .int .i64 (IntKind.i64.wrap ((IntKind.i64.wrap ((nth low 0 t9.toNat) + (nth high 0 t9.toNat))).tdiv (2 : Int)))), (52, .agg (rcL a1 c1 p).toArray), (53, .slice a2 low.length c2), (54, .slice a3 high.length c3), (55, .int .i64 t9), (56, .int .i64 (IntKind.i64.wrap ((IntKind.i64.wrap ((nth low 0 t9.toNat) + (nth high 0 t9.toNat))).tdiv (2 : Int))))]) [B3, 0, B3, 1, B3, 2, B3, 3, B3, 4, B3, 5, B3, 6, B3, 7, B3, 8] [] (by as_aux_lemma => kernel_rfl) trivial ?_
       refine AtY.nil (by kernel_rfl) ?_
       refine AtP.mv ?_
       obtain ⟨r_, hs37, h⟩ := bd h
       refine AtL.call 98 #[.slice a3 high.length c3, .int .i64 t9, .int .i64 (IntKind.i64.wrap ((IntKind.i64.wrap ((nth low 0 t9.toNat) + (nth high 0 t9.toNat))).tdiv (2 : Int)))] (some 57) (by kernel_rfl) _ (fun w8 hRep => rPut_w F high t9 (IntKind.i64.wrap ((IntKind.i64.wrap ((nth low 0 t9.toNat) + (nth high 0 t9.toNat))).tdiv (2 : Int))) a3 c3 w8 (hRep.toSl 0 rfl hs3.le hs3.big) _ hs37) ?_
       rintro w8 e w9 hRep ⟨a_, c_, rfl, hE⟩
       refine ⟨_, _, _, rfl, rfl, hRep.join hE (by simp [Ent.fresh]), ?_⟩
       refine AtL.nil (by kernel_rfl) ?_
       refine Ends.mv [0, 1, 2, 3] (by kernel_rfl) (by kernel_rfl) ?_
       refine AtP.mv ?_
       obtain ⟨r_18, hs36, h⟩ := bd h
       refine AtL.call 76 #[.agg (rcL a1 c1 p).toArray, .slice a2 low.length c2, .slice a_ r_.length c_] (some 58) (by kernel_rfl) _ (fun w8 hRep => ih p low r_ a1 c1 a2 c2 a_ c_ w8 (hRep.toSl 2 rfl hs1.le hs1.big) (hRep.toSl 1 rfl hs2.le hs2.big) (hRep.owSl 4 rfl xlen3) _ hs36) ?_
       rintro w8 e w9 hRep ⟨a_19, c_20, rfl, hE⟩
       refine ⟨_, _, _, rfl, rfl, hRep.join hE (by simp [Ent.fresh]), ?_⟩
       refine AtL.nil (by kernel_rfl) ?_
       refine Ends.mv [0, 1, 2, 3] (by kernel_rfl) (by kernel_rfl) ?_
       refine AtP.pu ?_
       refine AtY.runp 5 [1, 2, 3, 9, 10, 11, 12] ([(1, .slice a2 low.length c2), (2, .slice a3 high.length c3), (3, .pointer (some ⟨B3, 0, none⟩)), (9, .int .i64 t9), (10, .int .i64 (IntKind.i64.wrap ((IntKind.i64.wrap ((nth low 0 t9.toNat) + (nth high 0 t9.toNat))).tdiv (2 : Int)))), (11, .slice a_19 r_18.1.length c_20), (12, .bool r_18.2)]) [] (by as_aux_lemma => kernel_rfl) trivial ?_
       refine AtY.nil (by kernel_rfl) ?_
       refine AtP.nil ?_
       refine Ends.weak [1, 2, 3, 9, 10, 11, 12] [true, true, true, true, false, true] ([(1, .slice a2 low.length c2), (2, .slice a3 high.length c3), (3, .pointer (some ⟨B3, 0, none⟩)), (9, .int .i64 t9), (10, .int .i64 (IntKind.i64.wrap ((IntKind.i64.wrap ((nth low 0 t9.toNat) + (nth high 0 t9.toNat))).tdiv (2 : Int)))), (11, .slice a_19 r_18.1.length c_20), (12, .bool r_18.2)]) ([.sl a3 1 high.length (fun i_ => intCells (nth high 0 i_)), .sl a2 1 low.length (fun i_ => intCells (nth low 0 i_)), .sl a1 9 p.lots.length (fun i_ => Lot.cells (nth p.lots Lot.zero i_)), .blk B3 (rcL a1 c1 p) 28, owE Split.cells Split.zero a_19 c_20 55 3 r_18.1]) (by kernel_rfl) (by kernel_rfl) ?_
       refine Ends.seq ?_
       refine At.seq ?_
       refine At.seq ?_
       refine At.runR [] [1, 2, 3, 9, 10, 11, 62] [true, true, true, true, true] (.normal) ([(1, .slice a2 low.length c2), (2, .slice a3 high.length c3), (3, .pointer (some ⟨B3, 0, none⟩)), (9, .int .i64 t9), (10, .int .i64 (IntKind.i64.wrap ((IntKind.i64.wrap ((nth low 0 t9.toNat) + (nth high 0 t9.toNat))).tdiv (2 : Int)))), (11, .slice a_19 r_18.1.length c_20), (62, .bool (!r_18.2))]) [] [] (fun _ => by as_aux_lemma => kernel_rfl) trivial ?_
       refine Ends.seq ?_
       refine At.cond (!r_18.2) (by kernel_rfl) (fun hc21 => ?_) (fun hc21 => ?_)
       ·have h := br_t h hc21
        refine At.runR [] [6, 7] [true, true, true, true, true] (.ret) ([(6, .slice none 0 0), (7, .bool false)]) [] [] (fun _ => by as_aux_lemma => kernel_rfl) trivial ?_
        refine Ends.then_ret ?_
        refine Ends.block_ret ?_
        refine Ends.then_ret ?_
        refine Ends.then_ret ?_
        refine Ends.block_ret ?_
        refine Ends.then_ret ?_
        obtain rfl := Option.some.inj h
        have h := hr2
        refine Ends.addNil Split.cells Split.zero 55 3 xlen55 ?_
        refine Ends.body [] (.tuple #[.slice none (([] : List Split).length) 0, .bool false]) [] (by kernel_rfl) (fun w9 hRep => ?_)
        obtain rfl := Option.some.inj h
        exact ⟨none, 0, rfl, hRep.sel (r := [5]) (by kernel_rfl) (by kernel_rfl)⟩
       ·have h := br_f h hc21
        refine At.runR [] [1, 2, 3, 9, 10, 11] [true, true, true, true, true] (.normal) ([(1, .slice a2 low.length c2), (2, .slice a3 high.length c3), (3, .pointer (some ⟨B3, 0, none⟩)), (9, .int .i64 t9), (10, .int .i64 (IntKind.i64.wrap ((IntKind.i64.wrap ((nth low 0 t9.toNat) + (nth high 0 t9.toNat))).tdiv (2 : Int)))), (11, .slice a_19 r_18.1.length c_20)]) [] [] (fun _ => by as_aux_lemma => kernel_rfl) trivial ?_
        refine Ends.seq ?_
        refine At.seq ?_
        refine At.plan ([.sl a3 1 high.length (fun i_ => intCells (nth high 0 i_)), .sl a2 1 low.length (fun i_ => intCells (nth low 0 i_)), .sl a1 9 p.lots.length (fun i_ => Lot.cells (nth p.lots Lot.zero i_)), .blk B3 (rcL a1 c1 p) 28]) [0, 1, 2, 3] (by kernel_rfl) (by kernel_rfl) [.pu [1, 2, 3, 4, 6], .st [0], .mv 5, .mv 7, .pu [8, 9, 10, 11, 12]] (by kernel_rfl) (by kernel_rfl) ?_
        refine AtP.pu ?_
        refine AtY.runp 5 [3, 9, 10, 11, 65, 66, 68, 70] ([(3, .pointer (some ⟨B3, 0, none⟩)), (9, .int .i64 t9), (10, .int .i64 (IntKind.i64.wrap ((IntKind.i64.wrap ((nth low 0 t9.toNat) + (nth high 0 t9.toNat))).tdiv (2 : Int)))), (11, .slice a_19 r_18.1.length c_20), (65, .slice a2 low.length c2), (66, .int .i64 t9), (68, .int .i64 (IntKind.i64.wrap ((IntKind.i64.wrap ((IntKind.i64.wrap ((nth low 0 t9.toNat) + (nth high 0 t9.toNat))).tdiv (2 : Int))) + (1 : Int)))), (70, .slice a3 high.length c3)]) [] (by as_aux_lemma => kernel_rfl) trivial ?_
        refine AtY.nil (by kernel_rfl) ?_
        refine AtP.st ?_
        refine AtY.run 1 [(3, 0, 0), (3, 1, 0), (3, 2, 0), (3, 3, 0), (3, 4, 0), (3, 5, 0), (3, 6, 0), (3, 7, 0), (3, 8, 0)] [9, 10, 11, 64, 65, 66, 68, 70] ([(9, .int .i64 t9), (10, .int .i64 (IntKind.i64.wrap ((IntKind.i64.wrap ((nth low 0 t9.toNat) + (nth high 0 t9.toNat))).tdiv (2 : Int)))), (11, .slice a_19 r_18.1.length c_20), (64, .agg (rcL a1 c1 p).toArray), (65, .slice a2 low.length c2), (66, .int .i64 t9), (68, .int .i64 (IntKind.i64.wrap ((IntKind.i64.wrap ((IntKind.i64.wrap ((nth low 0 t9.toNat) + (nth high 0 t9.toNat))).tdiv (2 : Int))) + (1 : Int)))), (70, .slice a3 high.length c3)]) [B3, 0, B3, 1, B3, 2, B3, 3, B3, 4, B3, 5, B3, 6, B3, 7, B3, 8] [] (by as_aux_lemma => kernel_rfl) trivial ?_
        refine AtY.nil (by kernel_rfl) ?_
        refine AtP.mv ?_
        obtain ⟨r_22, hs35, h⟩ := bd h
        refine AtL.call 98 #[.slice a2 low.length c2, .int .i64 t9, .int .i64 (IntKind.i64.wrap ((IntKind.i64.wrap ((IntKind.i64.wrap ((nth low 0 t9.toNat) + (nth high 0 t9.toNat))).tdiv (2 : Int))) + (1 : Int)))] (some 69) (by kernel_rfl) _ (fun w8 hRep => rPut_w F low t9 (IntKind.i64.wrap ((IntKind.i64.wrap ((IntKind.i64.wrap ((nth low 0 t9.toNat) + (nth high 0 t9.toNat))).tdiv (2 : Int))) + (1 : Int))) a2 c2 w8 (hRep.toSl 1 rfl hs2.le hs2.big) _ hs35) ?_
        rintro w8 e w9 hRep ⟨a_23, c_24, rfl, hE⟩
        refine ⟨_, _, _, rfl, rfl, hRep.join hE (by simp [Ent.fresh]), ?_⟩
        refine AtL.nil (by kernel_rfl) ?_
        refine Ends.mv [0, 1, 2, 3] (by kernel_rfl) (by kernel_rfl) ?_
        refine AtP.mv ?_
        obtain ⟨r_25, hs34, h⟩ := bd h
        refine AtL.call 76 #[.agg (rcL a1 c1 p).toArray, .slice a_23 r_22.length c_24, .slice a3 high.length c3] (some 71) (by kernel_rfl) _ (fun w8 hRep => ih p r_22 high a1 c1 a_23 c_24 a3 c3 w8 (hRep.toSl 2 rfl hs1.le hs1.big) (hRep.owSl 5 rfl xlen3) (hRep.toSl 0 rfl hs3.le hs3.big) _ hs34) ?_
        rintro w8 e w9 hRep ⟨a_26, c_27, rfl, hE⟩
        refine ⟨_, _, _, rfl, rfl, hRep.join hE (by simp [Ent.fresh]), ?_⟩
        refine AtL.nil (by kernel_rfl) ?_
        refine Ends.mv [0, 1, 2, 3] (by kernel_rfl) (by kernel_rfl) ?_
        refine AtP.pu ?_
        refine AtY.runp 5 [9, 10, 11, 12, 13] ([(9, .int .i64 t9), (10, .int .i64 (IntKind.i64.wrap ((IntKind.i64.wrap ((nth low 0 t9.toNat) + (nth high 0 t9.toNat))).tdiv (2 : Int)))), (11, .slice a_19 r_18.1.length c_20), (12, .bool r_25.2), (13, .slice a_26 r_25.1.length c_27)]) [] (by as_aux_lemma => kernel_rfl) trivial ?_
        refine AtY.nil (by kernel_rfl) ?_
        refine AtP.nil ?_
        refine Ends.weak [9, 10, 11, 12, 13] [true, true, true, true, true, false, true] ([(9, .int .i64 t9), (10, .int .i64 (IntKind.i64.wrap ((IntKind.i64.wrap ((nth low 0 t9.toNat) + (nth high 0 t9.toNat))).tdiv (2 : Int)))), (11, .slice a_19 r_18.1.length c_20), (12, .bool r_25.2), (13, .slice a_26 r_25.1.length c_27)]) ([.sl a3 1 high.length (fun i_ => intCells (nth high 0 i_)), .sl a2 1 low.length (fun i_ => intCells (nth low 0 i_)), .sl a1 9 p.lots.length (fun i_ => Lot.cells (nth p.lots Lot.zero i_)), .blk B3 (rcL a1 c1 p) 28, owE Split.cells Split.zero a_19 c_20 55 3 r_18.1, owE Split.cells Split.zero a_26 c_27 55 3 r_25.1]) (by kernel_rfl) (by kernel_rfl) ?_
        refine Ends.seq ?_
        refine At.seq ?_
        refine At.region ?_
        refine AtL.run 5 [] [12, 13, 77, 78] [true, true, true, true, true, true, true] (fun B66 => [(12, .bool r_25.2), (13, .slice a_26 r_25.1.length c_27), (77, .slice (some ⟨B66, 0, none⟩) 1 1), (78, .slice a_19 r_18.1.length c_20)]) (fun B66 => [.sl a3 1 high.length (fun i_ => intCells (nth high 0 i_)), .sl a2 1 low.length (fun i_ => intCells (nth low 0 i_)), .sl a1 9 p.lots.length (fun i_ => Lot.cells (nth p.lots Lot.zero i_)), .blk B3 (rcL a1 c1 p) 28, owE Split.cells Split.zero a_19 c_20 55 3 r_18.1, owE Split.cells Split.zero a_26 c_27 55 3 r_25.1, .blk B66 [.int .i64 t9, .int .i64 (IntKind.i64.wrap ((IntKind.i64.wrap ((nth low 0 t9.toNat) + (nth high 0 t9.toNat))).tdiv (2 : Int))), .int .i64 0] 55]) (fun B66 => []) (fun B66 => []) (fun B66 => by as_aux_lemma => kernel_rfl) (fun B66 => trivial) (fun B66 => ?_)
        refine AtL.addRow 6 B66 55 [.int .i64 t9, .int .i64 (IntKind.i64.wrap ((IntKind.i64.wrap ((nth low 0 t9.toNat) + (nth high 0 t9.toNat))).tdiv (2 : Int))), .int .i64 0] (by kernel_rfl) Split.cells Split.zero 3 ([(⟨t9, IntKind.i64.wrap ((IntKind.i64.wrap ((nth low 0 t9.toNat) + (nth high 0 t9.toNat))).tdiv (2 : Int)), 0⟩ : Split)] : List Split) xlen55 (by kernel_rfl) (Nat.le_of_ble_eq_true rfl) (by simp) ?_
        obtain ⟨g28, h⟩ := gd h
        refine AtL.append Split.zero xei55 xlen55 xone55 (by decide) (some 79) 6 (some ⟨B66, 0, none⟩) (([(⟨t9, IntKind.i64.wrap ((IntKind.i64.wrap ((nth low 0 t9.toNat) + (nth high 0 t9.toNat))).tdiv (2 : Int)), 0⟩ : Split)] : List Split).length) ([(⟨t9, IntKind.i64.wrap ((IntKind.i64.wrap ((nth low 0 t9.toNat) + (nth high 0 t9.toNat))).tdiv (2 : Int)), 0⟩ : Split)] : List Split) (by kernel_rfl) a_19 r_18.1.length c_20 r_18.1 (by kernel_rfl) (by kernel_rfl) ((Adds.ow (i := 4) (d := Split.zero) (T := 55) (by kernel_rfl) xlen55)) (lenOk_le g28) (fun a_29 c_30 K9 hK9 => ?_)
        obtain rfl := Option.some.inj hK9
        refine AtL.fit [12, 13, 78, 79] ([(12, .bool r_25.2), (13, .slice a_26 r_25.1.length c_27), (78, .slice a_19 r_18.1.length c_20), (79, .slice a_29 ((([(⟨t9, IntKind.i64.wrap ((IntKind.i64.wrap ((nth low 0 t9.toNat) + (nth high 0 t9.toNat))).tdiv (2 : Int)), 0⟩ : Split)] : List Split) ++ r_18.1).length) c_30)]) ([.sl a3 1 high.length (fun i_ => intCells (nth high 0 i_)), .sl a2 1 low.length (fun i_ => intCells (nth low 0 i_)), .sl a1 9 p.lots.length (fun i_ => Lot.cells (nth p.lots Lot.zero i_)), .blk B3 (rcL a1 c1 p) 28, owE Split.cells Split.zero a_19 c_20 55 3 r_18.1, owE Split.cells Split.zero a_26 c_27 55 3 r_25.1, owE Split.cells Split.zero a_29 c_30 55 3 (([(⟨t9, IntKind.i64.wrap ((IntKind.i64.wrap ((nth low 0 t9.toNat) + (nth high 0 t9.toNat))).tdiv (2 : Int)), 0⟩ : Split)] : List Split) ++ r_18.1)]) (by kernel_rfl) (by kernel_rfl) ?_
        refine AtL.runR 1 [] [12, 79, 80] [true, true, true, true, true, true, true] ([(12, .bool r_25.2), (79, .slice a_29 ((([(⟨t9, IntKind.i64.wrap ((IntKind.i64.wrap ((nth low 0 t9.toNat) + (nth high 0 t9.toNat))).tdiv (2 : Int)), 0⟩ : Split)] : List Split) ++ r_18.1).length) c_30), (80, .slice a_26 r_25.1.length c_27)]) [] [] (fun _ => by as_aux_lemma => kernel_rfl) trivial ?_
        obtain ⟨g31, h⟩ := gd h
        refine AtL.append Split.zero xei55 xlen55 xone55 (by decide) (some 81) 6 a_29 c_30 (([(⟨t9, IntKind.i64.wrap ((IntKind.i64.wrap ((nth low 0 t9.toNat) + (nth high 0 t9.toNat))).tdiv (2 : Int)), 0⟩ : Split)] : List Split) ++ r_18.1) (by kernel_rfl) a_26 r_25.1.length c_27 r_25.1 (by kernel_rfl) (by kernel_rfl) ((Adds.ow (i := 5) (d := Split.zero) (T := 55) (by kernel_rfl) xlen55)) (lenOk_le g31) (fun a_32 c_33 K9 hK9 => ?_)
        obtain rfl := Option.some.inj hK9
        refine AtL.fit [12, 80, 81] ([(12, .bool r_25.2), (80, .slice a_26 r_25.1.length c_27), (81, .slice a_32 (((([(⟨t9, IntKind.i64.wrap ((IntKind.i64.wrap ((nth low 0 t9.toNat) + (nth high 0 t9.toNat))).tdiv (2 : Int)), 0⟩ : Split)] : List Split) ++ r_18.1) ++ r_25.1).length) c_33)]) ([.sl a3 1 high.length (fun i_ => intCells (nth high 0 i_)), .sl a2 1 low.length (fun i_ => intCells (nth low 0 i_)), .sl a1 9 p.lots.length (fun i_ => Lot.cells (nth p.lots Lot.zero i_)), .blk B3 (rcL a1 c1 p) 28, owE Split.cells Split.zero a_19 c_20 55 3 r_18.1, owE Split.cells Split.zero a_26 c_27 55 3 r_25.1, owE Split.cells Split.zero a_32 c_33 55 3 ((([(⟨t9, IntKind.i64.wrap ((IntKind.i64.wrap ((nth low 0 t9.toNat) + (nth high 0 t9.toNat))).tdiv (2 : Int)), 0⟩ : Split)] : List Split) ++ r_18.1) ++ r_25.1)]) (by kernel_rfl) (by kernel_rfl) ?_
        refine AtL.runR 3 [] [6, 7] [true, true, true, true, true, true, true] ([(6, .slice a_32 (((([(⟨t9, IntKind.i64.wrap ((IntKind.i64.wrap ((nth low 0 t9.toNat) + (nth high 0 t9.toNat))).tdiv (2 : Int)), 0⟩ : Split)] : List Split) ++ r_18.1) ++ r_25.1).length) c_33), (7, .bool r_25.2)]) [] [] (fun _ => by as_aux_lemma => kernel_rfl) trivial ?_
        refine AtL.nil (by kernel_rfl) ?_
        refine Ends.seq ?_
        refine At.runR [] [6, 7] [true, true, true, true, true, true, true] (.ret) ([(6, .slice a_32 (((([(⟨t9, IntKind.i64.wrap ((IntKind.i64.wrap ((nth low 0 t9.toNat) + (nth high 0 t9.toNat))).tdiv (2 : Int)), 0⟩ : Split)] : List Split) ++ r_18.1) ++ r_25.1).length) c_33), (7, .bool r_25.2)]) [] [] (fun _ => by as_aux_lemma => kernel_rfl) trivial ?_
        refine Ends.block_ret ?_
        refine Ends.then_ret ?_
        refine Ends.then_ret ?_
        refine Ends.block_ret ?_
        refine Ends.then_ret ?_
        obtain rfl := Option.some.inj h
        have h := hr2
        refine Ends.body [] (.tuple #[.slice a_32 (((([(⟨t9, IntKind.i64.wrap ((IntKind.i64.wrap ((nth low 0 t9.toNat) + (nth high 0 t9.toNat))).tdiv (2 : Int)), 0⟩ : Split)] : List Split) ++ r_18.1) ++ r_25.1).length) c_33, .bool r_25.2]) [] (by kernel_rfl) (fun w9 hRep => ?_)
        obtain rfl := Option.some.inj h
        exact ⟨a_32, c_33, rfl, hRep.sel (r := [6]) (by kernel_rfl) (by kernel_rfl)⟩
      ·have h := br_f h hc17
       refine At.runR [] [1, 2, 3, 9] [true, true, true, true] (.normal) ([(1, .slice a2 low.length c2), (2, .slice a3 high.length c3), (3, .pointer (some ⟨B3, 0, none⟩)), (9, .int .i64 t9)]) [] [] (fun _ => by as_aux_lemma => kernel_rfl) trivial ?_
       refine Ends.block_normal ?_
       refine Ends.seq ?_
       refine At.runR [] [1, 2, 3, 9] [true, true, true, true] (.normal) ([(1, .slice a2 low.length c2), (2, .slice a3 high.length c3), (3, .pointer (some ⟨B3, 0, none⟩)), (9, .int .i64 (IntKind.i64.wrap (t9 + (1 : Int))))]) [] [] (fun _ => by as_aux_lemma => kernel_rfl) trivial ?_
       exact Ends.round fuel3 (IntKind.i64.wrap (t9 + (1 : Int))) (Nat.lt_succ_self _) h (by kernel_rfl) (by kernel_rfl)
     ·have h := br_f h hc4
      refine At.runR [] [] [true, true, true, true] (.exit 2) ([]) [] [] (fun _ => by as_aux_lemma => kernel_rfl) trivial ?_
      refine Ends.then_exit ?_
      refine Ends.then_exit ?_
      refine Ends.block_hit ?_
      refine Ends.sel [] [] ([]) ([]) (by kernel_rfl) (by kernel_rfl) (by kernel_rfl) ?_
      exact Ends.mid () (Option.some.inj h).symm (by kernel_rfl) (by kernel_rfl)
   ·replace hI : o2 = (.inr ()) := hI
    have h := hr2
    try rw [hI] at h
    refine At.runR [] [6, 7] [] (.ret) ([(6, .slice none 0 0), (7, .bool false)]) [] [] (fun _ => by as_aux_lemma => kernel_rfl) trivial ?_
    refine Ends.addNil Split.cells Split.zero 55 3 xlen55 ?_
    refine Ends.body [] (.tuple #[.slice none (([] : List Split).length) 0, .bool false]) [] (by kernel_rfl) (fun w9 hRep => ?_)
    obtain rfl := Option.some.inj h
    exact ⟨none, 0, rfl, hRep.sel (r := [0]) (by kernel_rfl) (by kernel_rfl)⟩
def rRefute_S (F : Nat) (p : Recipe) : Option ((List Split) × Bool) := (rWhole_S F p).bind (fun r_ => (rProve_S F F p r_.1 r_.2).bind (fun r_3 => bif !r_3.2 then (some ([], false)) else (some (r_3.1, true))))
set_option maxRecDepth 100000 in
set_option maxHeartbeats 4000000 in
theorem rRefute_w (F : Nat) (p : Recipe) (a1 : Option Addr) (c1 : Nat) (w : World) (hs1 : Sl 9 Lot.cells w a1 c1 p.lots) (v : (List Split) × Bool) (h : rRefute_S F p = some v) :
  Calls Try.prog 29 #[.agg #[.slice a1 p.lots.length c1, .int .i64 p.mass.lo, .int .i64 p.mass.hi, .int .i64 p.target.a.lo, .int .i64 p.target.a.hi, .int .i64 p.target.b.lo, .int .i64 p.target.b.hi, .int .i64 p.target.c.lo, .int .i64 p.target.c.hi]] w (fun e w' => ∃ xa0 xc0, e = .returned (.tuple #[.slice xa0 v.1.length xc0, .bool v.2]) ∧ Rep [] w [owE Split.cells Split.zero xa0 xc0 55 3 v.1] w') := by
 rw [rRefute_S] at h
 refine At.enter Try.func29 rfl 23 [(0, .agg (rcL a1 c1 p).toArray)] ([.sl a1 9 p.lots.length (fun i_ => Lot.cells (nth p.lots Lot.zero i_))]) [] (by kernel_rfl) ⟨rfl, trivial⟩ (Rep.sub (Rep.sl (Rep.start w) Lot.zero hs1 (by simp [Ent.mut])) (by simp)) ?_
 refine At.seq ?_
 refine At.run [] [1] [true, true] (.normal) (fun B3 => [(1, .pointer (some ⟨B3, 0, none⟩))]) (fun B3 => [.sl a1 9 p.lots.length (fun i_ => Lot.cells (nth p.lots Lot.zero i_)), .blk B3 (rcL a1 c1 p) 28]) (fun B3 => []) (fun B3 => []) (fun B3 => by as_aux_lemma => kernel_rfl) (fun B3 => trivial) (fun B3 => ?_)
 refine Ends.seq ?_
 refine At.seq ?_
 refine At.region ?_
 refine AtL.runR 1 [(1, 0, 0), (1, 1, 0), (1, 2, 0), (1, 3, 0), (1, 4, 0), (1, 5, 0), (1, 6, 0), (1, 7, 0), (1, 8, 0)] [1, 9] [true, true] ([(1, .pointer (some ⟨B3, 0, none⟩)), (9, .agg (rcL a1 c1 p).toArray)]) [B3, 0, B3, 1, B3, 2, B3, 3, B3, 4, B3, 5, B3, 6, B3, 7, B3, 8] [] (fun _ => by as_aux_lemma => kernel_rfl) trivial ?_
 obtain ⟨r_, hs8, h⟩ := bd h
 refine AtL.call 71 #[.agg (rcL a1 c1 p).toArray] (some 10) (by kernel_rfl) _ (fun w8 hRep => rWhole_w F p a1 c1 w8 (hRep.toSl 0 rfl hs1.le hs1.big) _ hs8) ?_
 rintro w8 e w9 hRep ⟨a_, c_, a_1, c_2, rfl, hE⟩
 refine ⟨_, _, _, rfl, rfl, hRep.join hE (by simp [Ent.fresh]), ?_⟩
 refine AtL.runR 5 [] [1, 4, 5] [true, true, true, true] ([(1, .pointer (some ⟨B3, 0, none⟩)), (4, .slice a_ r_.1.length c_), (5, .slice a_1 r_.2.length c_2)]) [] [] (fun _ => by as_aux_lemma => kernel_rfl) trivial ?_
 refine AtL.nil (by kernel_rfl) ?_
 refine Ends.seq ?_
 refine At.seq ?_
 refine At.region ?_
 refine AtL.runR 3 [(1, 0, 0), (1, 1, 0), (1, 2, 0), (1, 3, 0), (1, 4, 0), (1, 5, 0), (1, 6, 0), (1, 7, 0), (1, 8, 0)] [14, 15, 16] [true, true, true, true] ([(14, .agg (rcL a1 c1 p).toArray), (15, .slice a_ r_.1.length c_), (16, .slice a_1 r_.2.length c_2)]) [B3, 0, B3, 1, B3, 2, B3, 3, B3, 4, B3, 5, B3, 6, B3, 7, B3, 8] [] (fun _ => by as_aux_lemma => kernel_rfl) trivial ?_
 obtain ⟨r_3, hs7, h⟩ := bd h
 refine AtL.call 76 #[.agg (rcL a1 c1 p).toArray, .slice a_ r_.1.length c_, .slice a_1 r_.2.length c_2] (some 17) (by kernel_rfl) _ (fun w8 hRep => rProve_w F F p r_.1 r_.2 a1 c1 a_ c_ a_1 c_2 w8 (hRep.toSl 0 rfl hs1.le hs1.big) (hRep.owSl 2 rfl xlen3) (hRep.owSl 3 rfl xlen3) _ hs7) ?_
 rintro w8 e w9 hRep ⟨a_4, c_5, rfl, hE⟩
 refine ⟨_, _, _, rfl, rfl, hRep.join hE (by simp [Ent.fresh]), ?_⟩
 refine AtL.runR 5 [] [6, 7] [true, true, true, true, true] ([(6, .slice a_4 r_3.1.length c_5), (7, .bool r_3.2)]) [] [] (fun _ => by as_aux_lemma => kernel_rfl) trivial ?_
 refine AtL.nil (by kernel_rfl) ?_
 refine Ends.seq ?_
 refine At.seq ?_
 refine At.seq ?_
 refine At.runR [] [6, 21] [true, true, true, true, true] (.normal) ([(6, .slice a_4 r_3.1.length c_5), (21, .bool (!r_3.2))]) [] [] (fun _ => by as_aux_lemma => kernel_rfl) trivial ?_
 refine Ends.seq ?_
 refine At.cond (!r_3.2) (by kernel_rfl) (fun hc6 => ?_) (fun hc6 => ?_)
 ·have h := br_t h hc6
  refine At.runR [] [2, 3] [true, true, true, true, true] (.ret) ([(2, .slice none 0 0), (3, .bool false)]) [] [] (fun _ => by as_aux_lemma => kernel_rfl) trivial ?_
  refine Ends.then_ret ?_
  refine Ends.addNil Split.cells Split.zero 55 3 xlen55 ?_
  refine Ends.body [] (.tuple #[.slice none (([] : List Split).length) 0, .bool false]) [] (by kernel_rfl) (fun w9 hRep => ?_)
  obtain rfl := Option.some.inj h
  exact ⟨none, 0, rfl, hRep.sel (r := [5]) (by kernel_rfl) (by kernel_rfl)⟩
 ·have h := br_f h hc6
  refine At.runR [] [6] [true, true, true, true, true] (.normal) ([(6, .slice a_4 r_3.1.length c_5)]) [] [] (fun _ => by as_aux_lemma => kernel_rfl) trivial ?_
  refine Ends.seq ?_
  refine At.runR [] [2, 3] [true, true, true, true, true] (.ret) ([(2, .slice a_4 r_3.1.length c_5), (3, .bool true)]) [] [] (fun _ => by as_aux_lemma => kernel_rfl) trivial ?_
  refine Ends.body [] (.tuple #[.slice a_4 r_3.1.length c_5, .bool true]) [] (by kernel_rfl) (fun w9 hRep => ?_)
  obtain rfl := Option.some.inj h
  exact ⟨a_4, c_5, rfl, hRep.sel (r := [4]) (by kernel_rfl) (by kernel_rfl)⟩
def rAccept_S (F : Nat) : Nat → Recipe → (List Int) → (List Int) → (List Split) → Option (Int)
 | 0, _, _, _, _ => none
 | rf + 1, p, low, high, l => bif (l.length : Int) == (0 : Int) then (some (-1)) else (bif inB 0 l.length then (bif ((nth l Split.zero (0 : Int).toNat).lot) == ((-1) : Int) then (((bif ((nth l Split.zero (0 : Int).toNat).at_) != (0 : Int) then (some true) else ((rIn_S F ((nth l Split.zero (0 : Int).toNat).reason) 0 7).bind (fun r_ => bif !r_ then (some true) else ((rNever_S F p low high ((nth l Split.zero (0 : Int).toNat).reason)).bind (fun r_10 => some (!r_10))))))).bind (fun z6 => bif z6 then (some (-1)) else (some 1))) else (((rIn_S F ((nth l Split.zero (0 : Int).toNat).lot) 0 (IntKind.i64.wrap ((low.length : Int) - (1 : Int)))).bind (fun r_29 => bif !r_29 then (some true) else (bif ((nth l Split.zero (0 : Int).toNat).reason) != (0 : Int) then (some true) else (bif inB ((nth l Split.zero (0 : Int).toNat).lot) low.length then (bif decide (((nth l Split.zero (0 : Int).toNat).at_) < (nth low 0 ((nth l Split.zero (0 : Int).toNat).lot).toNat)) then (some true) else (bif inB ((nth l Split.zero (0 : Int).toNat).lot) high.length then (some (decide (((nth l Split.zero (0 : Int).toNat).at_) ≥ (nth high 0 ((nth l Split.zero (0 : Int).toNat).lot).toNat)))) else none)) else none)))).bind (fun z13 => bif z13 then (some (-1)) else (bif dropOk (1 : Int) l.length then ((rPut_S F high ((nth l Split.zero (0 : Int).toNat).lot) ((nth l Split.zero (0 : Int).toNat).at_)).bind (fun r_16 => ((rAccept_S F rf) p low r_16 (List.drop ((1 : Int).toNat) l)).bind (fun r_17 => bif decide (r_17 < (0 : Int)) then (some (-1)) else (bif dropOk (IntKind.i64.wrap ((1 : Int) + r_17)) l.length then ((rPut_S F low ((nth l Split.zero (0 : Int).toNat).lot) (IntKind.i64.wrap (((nth l Split.zero (0 : Int).toNat).at_) + (1 : Int)))).bind (fun r_20 => ((rAccept_S F rf) p r_20 high (List.drop ((IntKind.i64.wrap ((1 : Int) + r_17)).toNat) l)).bind (fun r_23 => bif decide (r_23 < (0 : Int)) then (some (-1)) else (some (IntKind.i64.wrap ((IntKind.i64.wrap ((1 : Int) + r_17)) + r_23)))))) else none)))) else none)))) else none)
set_option maxRecDepth 100000 in
set_option maxHeartbeats 4000000 in
theorem rAccept_w (F : Nat) : ∀ (rf : Nat) (p : Recipe) (low : List Int) (high : List Int) (l : List Split) (a1 : Option Addr) (c1 : Nat) (a2 : Option Addr) (c2 : Nat) (a3 : Option Addr) (c3 : Nat) (a4 : Option Addr) (c4 : Nat) (w : World) (hs1 : Sl 9 Lot.cells w a1 c1 p.lots) (hs2 : Sl 1 intCells w a2 c2 low) (hs3 : Sl 1 intCells w a3 c3 high) (hs4 : Sl 3 Split.cells w a4 c4 l) (v : Int) (h : rAccept_S F rf p low high l = some v),
  Calls Try.prog 77 #[.agg #[.slice a1 p.lots.length c1, .int .i64 p.mass.lo, .int .i64 p.mass.hi, .int .i64 p.target.a.lo, .int .i64 p.target.a.hi, .int .i64 p.target.b.lo, .int .i64 p.target.b.hi, .int .i64 p.target.c.lo, .int .i64 p.target.c.hi], .slice a2 low.length c2, .slice a3 high.length c3, .slice a4 l.length c4] w (Ret (.int .i64 v) w) := by
 intro rf
 induction rf with
 | zero =>
  intro p low high l a1 c1 a2 c2 a3 c3 a4 c4 w hs1 hs2 hs3 hs4 v h
  rw [rAccept_S] at h
  cases h
 | succ rf ih =>
  intro p low high l a1 c1 a2 c2 a3 c3 a4 c4 w hs1 hs2 hs3 hs4 v h
  rw [rAccept_S] at h
  refine At.enter Try.func77 rfl 104 [(0, .agg (rcL a1 c1 p).toArray), (1, .slice a2 low.length c2), (2, .slice a3 high.length c3), (3, .slice a4 l.length c4)] ([.sl a4 3 l.length (fun i_ => Split.cells (nth l Split.zero i_)), .sl a3 1 high.length (fun i_ => intCells (nth high 0 i_)), .sl a2 1 low.length (fun i_ => intCells (nth low 0 i_)), .sl a1 9 p.lots.length (fun i_ => Lot.cells (nth p.lots Lot.zero i_))]) [] (by kernel_rfl) ⟨rfl, rfl, rfl, rfl, trivial⟩ (Rep.sub (Rep.sl (Rep.sl (Rep.sl (Rep.sl (Rep.start w) Lot.zero hs1 (by simp [Ent.mut])) 0 hs2 (by simp [Ent.mut])) 0 hs3 (by simp [Ent.mut])) Split.zero hs4 (by simp [Ent.mut])) (by simp)) ?_
  refine At.seq ?_
  refine At.run [] [1, 2, 3, 4] [true, true, true, true, true] (.normal) (fun B3 => [(1, .slice a2 low.length c2), (2, .slice a3 high.length c3), (3, .slice a4 l.length c4), (4, .pointer (some ⟨B3, 0, none⟩))]) (fun B3 => [.sl a4 3 l.length (fun i_ => Split.cells (nth l Split.zero i_)), .sl a3 1 high.length (fun i_ => intCells (nth high 0 i_)), .sl a2 1 low.length (fun i_ => intCells (nth low 0 i_)), .sl a1 9 p.lots.length (fun i_ => Lot.cells (nth p.lots Lot.zero i_)), .blk B3 (rcL a1 c1 p) 28]) (fun B3 => []) (fun B3 => []) (fun B3 => by as_aux_lemma => kernel_rfl) (fun B3 => trivial) (fun B3 => ?_)
  refine Ends.seq ?_
  refine At.seq ?_
  refine At.seq ?_
  refine At.runR [] [1, 2, 3, 4, 14] [true, true, true, true, true] (.normal) ([(1, .slice a2 low.length c2), (2, .slice a3 high.length c3), (3, .slice a4 l.length c4), (4, .pointer (some ⟨B3, 0, none⟩)), (14, .bool ((l.length : Int) == (0 : Int)))]) [] [] (fun _ => by as_aux_lemma => kernel_rfl) trivial ?_
  refine Ends.seq ?_
  refine At.cond ((l.length : Int) == (0 : Int)) (by kernel_rfl) (fun hc1 => ?_) (fun hc1 => ?_)
  ·have h := br_t h hc1
   refine At.runR [] [8] [true, true, true, true, true] (.ret) ([(8, .int .i64 (-1))]) [] [] (fun _ => by as_aux_lemma => kernel_rfl) trivial ?_
   refine Ends.then_ret ?_
   refine Ends.body [] (.int .i64 (-1)) [] (by kernel_rfl) (fun w9 hRep => ?_)
   obtain rfl := Option.some.inj h
   exact ⟨rfl, hRep.ext⟩
  ·have h := br_f h hc1
   refine At.runR [] [1, 2, 3, 4] [true, true, true, true, true] (.normal) ([(1, .slice a2 low.length c2), (2, .slice a3 high.length c3), (3, .slice a4 l.length c4), (4, .pointer (some ⟨B3, 0, none⟩))]) [] [] (fun _ => by as_aux_lemma => kernel_rfl) trivial ?_
   refine Ends.seq ?_
   refine At.seq ?_
   obtain ⟨g4, h⟩ := gd h
   refine At.run [(0, 0, 0), (0, 0, (0 : Int).toNat), (0, 1, (0 : Int).toNat), (0, 2, (0 : Int).toNat), (5, 0, 0), (5, 1, 0), (5, 2, 0)] [1, 2, 3, 4, 9] [true, true, true, true, true, true] (.normal) (fun B15 => [(1, .slice a2 low.length c2), (2, .slice a3 high.length c3), (3, .slice a4 l.length c4), (4, .pointer (some ⟨B3, 0, none⟩)), (9, .pointer (some ⟨B15, 0, none⟩))]) (fun B15 => [.sl a4 3 l.length (fun i_ => Split.cells (nth l Split.zero i_)), .sl a3 1 high.length (fun i_ => intCells (nth high 0 i_)), .sl a2 1 low.length (fun i_ => intCells (nth low 0 i_)), .sl a1 9 p.lots.length (fun i_ => Lot.cells (nth p.lots Lot.zero i_)), .blk B3 (rcL a1 c1 p) 28, .blk B15 [.int .i64 ((nth l Split.zero (0 : Int).toNat).lot), .int .i64 ((nth l Split.zero (0 : Int).toNat).at_), .int .i64 ((nth l Split.zero (0 : Int).toNat).reason)] 55]) (fun B15 => [slB a4, slO a4 + (0 : Int).toNat * 3 + 0, slB a4, slO a4 + (0 : Int).toNat * 3 + 1, slB a4, slO a4 + (0 : Int).toNat * 3 + 2, B15, 0, B15, 1, B15, 2]) (fun B15 => [IdxOk a4 a4 l.length l.length 0, (0 : Int).toNat < l.length, (0 : Int).toNat < l.length, (0 : Int).toNat < l.length]) (fun B15 => by as_aux_lemma => kernel_rfl) (fun B15 => ⟨inB_idx g4, inB_lt g4, inB_lt g4, inB_lt g4, trivial⟩) (fun B15 => ?_)
   refine Ends.seq ?_
   refine At.seq ?_
   refine At.seq ?_
   refine At.runR [(5, 0, 0)] [1, 2, 3, 4, 9, 20] [true, true, true, true, true, true] (.normal) ([(1, .slice a2 low.length c2), (2, .slice a3 high.length c3), (3, .slice a4 l.length c4), (4, .pointer (some ⟨B3, 0, none⟩)), (9, .pointer (some ⟨B15, 0, none⟩)), (20, .bool (((nth l Split.zero (0 : Int).toNat).lot) == ((-1) : Int)))]) [B15, 0] [] (fun _ => by as_aux_lemma => kernel_rfl) trivial ?_
   refine Ends.seq ?_
   refine At.cond (((nth l Split.zero (0 : Int).toNat).lot) == ((-1) : Int)) (by kernel_rfl) (fun hc5 => ?_) (fun hc5 => ?_)
   ·have h := br_t h hc5
    refine At.seq ?_
    obtain ⟨o6, h, hr6⟩ := bd h
    refine At.seq_mid (σ := Bool) (fun s => o6 = s) (fun s => [(38, .bool s)]) (fun s => []) ?_ (fun s hI => ?_)
    ·refine At.region ?_
     refine AtL.runR 4 [(5, 1, 0)] [1, 2, 4, 9, 24] [true, true, true, true, true, true] ([(1, .slice a2 low.length c2), (2, .slice a3 high.length c3), (4, .pointer (some ⟨B3, 0, none⟩)), (9, .pointer (some ⟨B15, 0, none⟩)), (24, .bool (((nth l Split.zero (0 : Int).toNat).at_) != (0 : Int)))]) [B15, 1] [] (fun _ => by as_aux_lemma => kernel_rfl) trivial ?_
     refine AtL.bool 24 (((nth l Split.zero (0 : Int).toNat).at_) != (0 : Int)) (by kernel_rfl) (fun hc8 => ?_) (fun hc8 => ?_)
     ·have h := br_t h hc8
      refine AtL.runR 14 [] [38] [true, true, true, true, true, true] ([(38, .bool true)]) [] [] (fun _ => by as_aux_lemma => kernel_rfl) trivial ?_
      refine AtL.nil (by kernel_rfl) ?_
      refine Ends.sel [38] [] ([(38, .bool true)]) ([]) (by kernel_rfl) (by kernel_rfl) (by kernel_rfl) ?_
      exact Ends.mid true (Option.some.inj h).symm (by kernel_rfl) (by kernel_rfl)
     ·have h := br_f h hc8
      refine AtL.runR 2 [(5, 2, 0)] [1, 2, 4, 9, 24, 26] [true, true, true, true, true, true] ([(1, .slice a2 low.length c2), (2, .slice a3 high.length c3), (4, .pointer (some ⟨B3, 0, none⟩)), (9, .pointer (some ⟨B15, 0, none⟩)), (24, .bool false), (26, .int .i64 ((nth l Split.zero (0 : Int).toNat).reason))]) [B15, 2] [] (fun _ => by as_aux_lemma => kernel_rfl) trivial ?_
      obtain ⟨r_, hs12, h⟩ := bd h
      refine AtL.call 64 #[.int .i64 ((nth l Split.zero (0 : Int).toNat).reason), .int .i64 0, .int .i64 7] (some 27) (by kernel_rfl) _ (fun w8 hRep => rIn_w F ((nth l Split.zero (0 : Int).toNat).reason) 0 7 w8 _ hs12) ?_
      rintro w8 e w9 hRep ⟨rfl, hE⟩
      refine ⟨_, _, _, rfl, rfl, hRep.ext' hE, ?_⟩
      refine AtL.runR 3 [] [1, 2, 4, 9, 30] [true, true, true, true, true, true] ([(1, .slice a2 low.length c2), (2, .slice a3 high.length c3), (4, .pointer (some ⟨B3, 0, none⟩)), (9, .pointer (some ⟨B15, 0, none⟩)), (30, .bool (!r_))]) [] [] (fun _ => by as_aux_lemma => kernel_rfl) trivial ?_
      refine AtL.bool 30 (!r_) (by kernel_rfl) (fun hc9 => ?_) (fun hc9 => ?_)
      ·have h := br_t h hc9
       refine AtL.runR 8 [] [38] [true, true, true, true, true, true] ([(38, .bool true)]) [] [] (fun _ => by as_aux_lemma => kernel_rfl) trivial ?_
       refine AtL.nil (by kernel_rfl) ?_
       refine Ends.sel [38] [] ([(38, .bool true)]) ([]) (by kernel_rfl) (by kernel_rfl) (by kernel_rfl) ?_
       exact Ends.mid true (Option.some.inj h).symm (by kernel_rfl) (by kernel_rfl)
      ·have h := br_f h hc9
       refine AtL.runR 5 [(4, 0, 0), (4, 1, 0), (4, 2, 0), (4, 3, 0), (4, 4, 0), (4, 5, 0), (4, 6, 0), (4, 7, 0), (4, 8, 0), (5, 2, 0)] [30, 31, 32, 33, 35] [true, true, true, true, true, true] ([(30, .bool false), (31, .agg (rcL a1 c1 p).toArray), (32, .slice a2 low.length c2), (33, .slice a3 high.length c3), (35, .int .i64 ((nth l Split.zero (0 : Int).toNat).reason))]) [B3, 0, B3, 1, B3, 2, B3, 3, B3, 4, B3, 5, B3, 6, B3, 7, B3, 8, B15, 2] [] (fun _ => by as_aux_lemma => kernel_rfl) trivial ?_
       obtain ⟨r_10, hs11, h⟩ := bd h
       refine AtL.call 97 #[.agg (rcL a1 c1 p).toArray, .slice a2 low.length c2, .slice a3 high.length c3, .int .i64 ((nth l Split.zero (0 : Int).toNat).reason)] (some 36) (by kernel_rfl) _ (fun w8 hRep => rNever_w F p low high ((nth l Split.zero (0 : Int).toNat).reason) a1 c1 a2 c2 a3 c3 w8 (hRep.toSl 3 rfl hs1.le hs1.big) (hRep.toSl 2 rfl hs2.le hs2.big) (hRep.toSl 1 rfl hs3.le hs3.big) _ hs11) ?_
       rintro w8 e w9 hRep ⟨rfl, hE⟩
       refine ⟨_, _, _, rfl, rfl, hRep.ext' hE, ?_⟩
       refine AtL.runR 2 [] [38] [true, true, true, true, true, true] ([(38, .bool (!r_10))]) [] [] (fun _ => by as_aux_lemma => kernel_rfl) trivial ?_
       refine AtL.nil (by kernel_rfl) ?_
       refine Ends.sel [38] [] ([(38, .bool (!r_10))]) ([]) (by kernel_rfl) (by kernel_rfl) (by kernel_rfl) ?_
       exact Ends.mid (!r_10) (Option.some.inj h).symm (by kernel_rfl) (by kernel_rfl)
    ·revert hI; revert s; intro t38 hI
     replace hI : o6 = t38 := hI
     have h := hr6
     try rw [hI] at h
     refine At.cond (t38) (by kernel_rfl) (fun hc7 => ?_) (fun hc7 => ?_)
     ·have h := br_t h hc7
      refine At.runR [] [8] [] (.ret) ([(8, .int .i64 (-1))]) [] [] (fun _ => by as_aux_lemma => kernel_rfl) trivial ?_
      refine Ends.then_ret ?_
      refine Ends.then_ret ?_
      refine Ends.body [] (.int .i64 (-1)) [] (by kernel_rfl) (fun w9 hRep => ?_)
      obtain rfl := Option.some.inj h
      exact ⟨rfl, hRep.ext⟩
     ·have h := br_f h hc7
      refine At.runR [] [] [] (.normal) ([]) [] [] (fun _ => by as_aux_lemma => kernel_rfl) trivial ?_
      refine Ends.seq ?_
      refine At.runR [] [8] [] (.ret) ([(8, .int .i64 1)]) [] [] (fun _ => by as_aux_lemma => kernel_rfl) trivial ?_
      refine Ends.then_ret ?_
      refine Ends.body [] (.int .i64 1) [] (by kernel_rfl) (fun w9 hRep => ?_)
      obtain rfl := Option.some.inj h
      exact ⟨rfl, hRep.ext⟩
   ·have h := br_f h hc5
    refine At.runR [] [1, 2, 3, 4, 9] [true, true, true, true, true, true] (.normal) ([(1, .slice a2 low.length c2), (2, .slice a3 high.length c3), (3, .slice a4 l.length c4), (4, .pointer (some ⟨B3, 0, none⟩)), (9, .pointer (some ⟨B15, 0, none⟩))]) [] [] (fun _ => by as_aux_lemma => kernel_rfl) trivial ?_
    refine Ends.seq ?_
    refine At.seq ?_
    obtain ⟨o13, h, hr13⟩ := bd h
    refine At.seq_mid (σ := Bool) (fun s => o13 = s) (fun s => [(1, .slice a2 low.length c2), (2, .slice a3 high.length c3), (3, .slice a4 l.length c4), (4, .pointer (some ⟨B3, 0, none⟩)), (9, .pointer (some ⟨B15, 0, none⟩)), (70, .bool s)]) (fun s => [.sl a4 3 l.length (fun i_ => Split.cells (nth l Split.zero i_)), .sl a3 1 high.length (fun i_ => intCells (nth high 0 i_)), .sl a2 1 low.length (fun i_ => intCells (nth low 0 i_)), .sl a1 9 p.lots.length (fun i_ => Lot.cells (nth p.lots Lot.zero i_)), .blk B3 (rcL a1 c1 p) 28, .blk B15 [.int .i64 ((nth l Split.zero (0 : Int).toNat).lot), .int .i64 ((nth l Split.zero (0 : Int).toNat).at_), .int .i64 ((nth l Split.zero (0 : Int).toNat).reason)] 55]) ?_ (fun s hI => ?_)
    ·refine At.plan ([.sl a4 3 l.length (fun i_ => Split.cells (nth l Split.zero i_)), .sl a3 1 high.length (fun i_ => intCells (nth high 0 i_)), .sl a2 1 low.length (fun i_ => intCells (nth low 0 i_)), .sl a1 9 p.lots.length (fun i_ => Lot.cells (nth p.lots Lot.zero i_)), .blk B3 (rcL a1 c1 p) 28, .blk B15 [.int .i64 ((nth l Split.zero (0 : Int).toNat).lot), .int .i64 ((nth l Split.zero (0 : Int).toNat).at_), .int .i64 ((nth l Split.zero (0 : Int).toNat).reason)] 55]) [0, 1, 2, 3, 4, 5] (by kernel_rfl) (by kernel_rfl) [.pu [0, 2], .st [1, 3], .pu [4], .mv 5, .pu [6, 7, 8], .st [9], .pu [10, 11, 12, 13, 15, 16], .st [14, 17], .st [18], .st [19], .pu [20, 21, 22, 23, 25, 26], .st [24, 27], .st [28], .st [29], .pu [30, 31]] (by kernel_rfl) (by kernel_rfl) ?_
     refine AtP.pu ?_
     refine AtY.runp 2 [1, 2, 3, 4, 9, 39, 41] ([(1, .slice a2 low.length c2), (2, .slice a3 high.length c3), (3, .slice a4 l.length c4), (4, .pointer (some ⟨B3, 0, none⟩)), (9, .pointer (some ⟨B15, 0, none⟩)), (39, .pointer (some ⟨B15, 0, none⟩)), (41, .slice a2 low.length c2)]) [] (by as_aux_lemma => kernel_rfl) trivial ?_
     refine AtY.nil (by kernel_rfl) ?_
     refine AtP.st ?_
     refine AtY.run 2 [(5, 0, 0)] [1, 2, 3, 4, 9, 40, 42] ([(1, .slice a2 low.length c2), (2, .slice a3 high.length c3), (3, .slice a4 l.length c4), (4, .pointer (some ⟨B3, 0, none⟩)), (9, .pointer (some ⟨B15, 0, none⟩)), (40, .int .i64 ((nth l Split.zero (0 : Int).toNat).lot)), (42, .int .i64 (low.length : Int))]) [B15, 0] [] (by as_aux_lemma => kernel_rfl) trivial ?_
     refine AtY.nil (by kernel_rfl) ?_
     refine AtP.pu ?_
     refine AtY.runp 1 [1, 2, 3, 4, 9, 40, 43] ([(1, .slice a2 low.length c2), (2, .slice a3 high.length c3), (3, .slice a4 l.length c4), (4, .pointer (some ⟨B3, 0, none⟩)), (9, .pointer (some ⟨B15, 0, none⟩)), (40, .int .i64 ((nth l Split.zero (0 : Int).toNat).lot)), (43, .int .i64 (IntKind.i64.wrap ((low.length : Int) - (1 : Int))))]) [] (by as_aux_lemma => kernel_rfl) trivial ?_
     refine AtY.nil (by kernel_rfl) ?_
     refine AtP.mv ?_
     obtain ⟨r_29, hs35, h⟩ := bd h
     refine AtL.call 64 #[.int .i64 ((nth l Split.zero (0 : Int).toNat).lot), .int .i64 0, .int .i64 (IntKind.i64.wrap ((low.length : Int) - (1 : Int)))] (some 44) (by kernel_rfl) _ (fun w8 hRep => rIn_w F ((nth l Split.zero (0 : Int).toNat).lot) 0 (IntKind.i64.wrap ((low.length : Int) - (1 : Int))) w8 _ hs35) ?_
     rintro w8 e w9 hRep ⟨rfl, hE⟩
     refine ⟨_, _, _, rfl, rfl, hRep.ext' hE, ?_⟩
     refine AtL.nil (by kernel_rfl) ?_
     refine Ends.mv [0, 1, 2, 3, 4, 5] (by kernel_rfl) (by kernel_rfl) ?_
     refine AtP.pu ?_
     refine AtY.runp 2 [1, 2, 3, 4, 9, 46] ([(1, .slice a2 low.length c2), (2, .slice a3 high.length c3), (3, .slice a4 l.length c4), (4, .pointer (some ⟨B3, 0, none⟩)), (9, .pointer (some ⟨B15, 0, none⟩)), (46, .bool (!r_29))]) [] (by as_aux_lemma => kernel_rfl) trivial ?_
     refine AtY.bool 46 (!r_29) (by kernel_rfl) (fun hc30 => ?_) (fun hc30 => ?_)
     ·have h := br_t h hc30
      refine AtY.runp 1 [1, 2, 3, 4, 9, 46, 47] ([(1, .slice a2 low.length c2), (2, .slice a3 high.length c3), (3, .slice a4 l.length c4), (4, .pointer (some ⟨B3, 0, none⟩)), (9, .pointer (some ⟨B15, 0, none⟩)), (46, .bool true), (47, undef)]) [] (by as_aux_lemma => kernel_rfl) trivial ?_
      refine AtY.nil (by kernel_rfl) ?_
      refine AtP.st ?_
      refine AtY.run 1 [] [1, 2, 3, 4, 9, 46, 48] ([(1, .slice a2 low.length c2), (2, .slice a3 high.length c3), (3, .slice a4 l.length c4), (4, .pointer (some ⟨B3, 0, none⟩)), (9, .pointer (some ⟨B15, 0, none⟩)), (46, .bool true), (48, undef)]) [] [] (by as_aux_lemma => kernel_rfl) trivial ?_
      refine AtY.nil (by kernel_rfl) ?_
      refine AtP.pu ?_
      refine AtY.runp 6 [1, 2, 3, 4, 9, 51, 52, 54, 55] ([(1, .slice a2 low.length c2), (2, .slice a3 high.length c3), (3, .slice a4 l.length c4), (4, .pointer (some ⟨B3, 0, none⟩)), (9, .pointer (some ⟨B15, 0, none⟩)), (51, .bool true), (52, undef), (54, undef), (55, undef)]) [] (by as_aux_lemma => kernel_rfl) trivial ?_
      refine AtY.nil (by kernel_rfl) ?_
      refine AtP.st ?_
      refine AtY.run 2 [] [1, 2, 3, 4, 9, 51, 53, 54, 56] ([(1, .slice a2 low.length c2), (2, .slice a3 high.length c3), (3, .slice a4 l.length c4), (4, .pointer (some ⟨B3, 0, none⟩)), (9, .pointer (some ⟨B15, 0, none⟩)), (51, .bool true), (53, undef), (54, undef), (56, undef)]) [] [] (by as_aux_lemma => kernel_rfl) trivial ?_
      refine AtY.nil (by kernel_rfl) ?_
      refine AtP.st ?_
      refine AtY.run 1 [] [1, 2, 3, 4, 9, 51, 53, 57] ([(1, .slice a2 low.length c2), (2, .slice a3 high.length c3), (3, .slice a4 l.length c4), (4, .pointer (some ⟨B3, 0, none⟩)), (9, .pointer (some ⟨B15, 0, none⟩)), (51, .bool true), (53, undef), (57, undef)]) [] [] (by as_aux_lemma => kernel_rfl) trivial ?_
      refine AtY.nil (by kernel_rfl) ?_
      refine AtP.st ?_
      refine AtY.run 1 [] [1, 2, 3, 4, 9, 51, 53, 58] ([(1, .slice a2 low.length c2), (2, .slice a3 high.length c3), (3, .slice a4 l.length c4), (4, .pointer (some ⟨B3, 0, none⟩)), (9, .pointer (some ⟨B15, 0, none⟩)), (51, .bool true), (53, undef), (58, undef)]) [] [] (by as_aux_lemma => kernel_rfl) trivial ?_
      refine AtY.nil (by kernel_rfl) ?_
      refine AtP.pu ?_
      refine AtY.runp 6 [1, 2, 3, 4, 9, 61, 62, 64, 65] ([(1, .slice a2 low.length c2), (2, .slice a3 high.length c3), (3, .slice a4 l.length c4), (4, .pointer (some ⟨B3, 0, none⟩)), (9, .pointer (some ⟨B15, 0, none⟩)), (61, .bool true), (62, undef), (64, undef), (65, undef)]) [] (by as_aux_lemma => kernel_rfl) trivial ?_
      refine AtY.nil (by kernel_rfl) ?_
      refine AtP.st ?_
      refine AtY.run 2 [] [1, 2, 3, 4, 9, 61, 63, 64, 66] ([(1, .slice a2 low.length c2), (2, .slice a3 high.length c3), (3, .slice a4 l.length c4), (4, .pointer (some ⟨B3, 0, none⟩)), (9, .pointer (some ⟨B15, 0, none⟩)), (61, .bool true), (63, undef), (64, undef), (66, undef)]) [] [] (by as_aux_lemma => kernel_rfl) trivial ?_
      refine AtY.nil (by kernel_rfl) ?_
      refine AtP.st ?_
      refine AtY.run 1 [] [1, 2, 3, 4, 9, 61, 63, 67] ([(1, .slice a2 low.length c2), (2, .slice a3 high.length c3), (3, .slice a4 l.length c4), (4, .pointer (some ⟨B3, 0, none⟩)), (9, .pointer (some ⟨B15, 0, none⟩)), (61, .bool true), (63, undef), (67, undef)]) [] [] (by as_aux_lemma => kernel_rfl) trivial ?_
      refine AtY.nil (by kernel_rfl) ?_
      refine AtP.st ?_
      refine AtY.run 1 [] [1, 2, 3, 4, 9, 61, 63, 68] ([(1, .slice a2 low.length c2), (2, .slice a3 high.length c3), (3, .slice a4 l.length c4), (4, .pointer (some ⟨B3, 0, none⟩)), (9, .pointer (some ⟨B15, 0, none⟩)), (61, .bool true), (63, undef), (68, undef)]) [] [] (by as_aux_lemma => kernel_rfl) trivial ?_
      refine AtY.nil (by kernel_rfl) ?_
      refine AtP.pu ?_
      refine AtY.runp 2 [1, 2, 3, 4, 9, 70] ([(1, .slice a2 low.length c2), (2, .slice a3 high.length c3), (3, .slice a4 l.length c4), (4, .pointer (some ⟨B3, 0, none⟩)), (9, .pointer (some ⟨B15, 0, none⟩)), (70, .bool true)]) [] (by as_aux_lemma => kernel_rfl) trivial ?_
      refine AtY.nil (by kernel_rfl) ?_
      refine AtP.nil ?_
      exact Ends.mid true (Option.some.inj h).symm (by kernel_rfl) (by kernel_rfl)
     ·have h := br_f h hc30
      refine AtY.runp 1 [1, 2, 3, 4, 9, 46, 47] ([(1, .slice a2 low.length c2), (2, .slice a3 high.length c3), (3, .slice a4 l.length c4), (4, .pointer (some ⟨B3, 0, none⟩)), (9, .pointer (some ⟨B15, 0, none⟩)), (46, .bool false), (47, .pointer (some ⟨B15, 2, none⟩))]) [] (by as_aux_lemma => kernel_rfl) trivial ?_
      refine AtY.nil (by kernel_rfl) ?_
      refine AtP.st ?_
      refine AtY.run 1 [(5, 2, 0)] [1, 2, 3, 4, 9, 46, 48] ([(1, .slice a2 low.length c2), (2, .slice a3 high.length c3), (3, .slice a4 l.length c4), (4, .pointer (some ⟨B3, 0, none⟩)), (9, .pointer (some ⟨B15, 0, none⟩)), (46, .bool false), (48, .int .i64 ((nth l Split.zero (0 : Int).toNat).reason))]) [B15, 2] [] (by as_aux_lemma => kernel_rfl) trivial ?_
      refine AtY.nil (by kernel_rfl) ?_
      refine AtP.pu ?_
      refine AtY.runp 3 [1, 2, 3, 4, 9, 51] ([(1, .slice a2 low.length c2), (2, .slice a3 high.length c3), (3, .slice a4 l.length c4), (4, .pointer (some ⟨B3, 0, none⟩)), (9, .pointer (some ⟨B15, 0, none⟩)), (51, .bool (((nth l Split.zero (0 : Int).toNat).reason) != (0 : Int)))]) [] (by as_aux_lemma => kernel_rfl) trivial ?_
      refine AtY.bool 51 (((nth l Split.zero (0 : Int).toNat).reason) != (0 : Int)) (by kernel_rfl) (fun hc31 => ?_) (fun hc31 => ?_)
      ·have h := br_t h hc31
       refine AtY.runp 3 [1, 2, 3, 4, 9, 51, 52, 54, 55] ([(1, .slice a2 low.length c2), (2, .slice a3 high.length c3), (3, .slice a4 l.length c4), (4, .pointer (some ⟨B3, 0, none⟩)), (9, .pointer (some ⟨B15, 0, none⟩)), (51, .bool true), (52, undef), (54, undef), (55, undef)]) [] (by as_aux_lemma => kernel_rfl) trivial ?_
       refine AtY.nil (by kernel_rfl) ?_
       refine AtP.st ?_
       refine AtY.run 2 [] [1, 2, 3, 4, 9, 51, 53, 54, 56] ([(1, .slice a2 low.length c2), (2, .slice a3 high.length c3), (3, .slice a4 l.length c4), (4, .pointer (some ⟨B3, 0, none⟩)), (9, .pointer (some ⟨B15, 0, none⟩)), (51, .bool true), (53, undef), (54, undef), (56, undef)]) [] [] (by as_aux_lemma => kernel_rfl) trivial ?_
       refine AtY.nil (by kernel_rfl) ?_
       refine AtP.st ?_
       refine AtY.run 1 [] [1, 2, 3, 4, 9, 51, 53, 57] ([(1, .slice a2 low.length c2), (2, .slice a3 high.length c3), (3, .slice a4 l.length c4), (4, .pointer (some ⟨B3, 0, none⟩)), (9, .pointer (some ⟨B15, 0, none⟩)), (51, .bool true), (53, undef), (57, undef)]) [] [] (by as_aux_lemma => kernel_rfl) trivial ?_
       refine AtY.nil (by kernel_rfl) ?_
       refine AtP.st ?_
       refine AtY.run 1 [] [1, 2, 3, 4, 9, 51, 53, 58] ([(1, .slice a2 low.length c2), (2, .slice a3 high.length c3), (3, .slice a4 l.length c4), (4, .pointer (some ⟨B3, 0, none⟩)), (9, .pointer (some ⟨B15, 0, none⟩)), (51, .bool true), (53, undef), (58, undef)]) [] [] (by as_aux_lemma => kernel_rfl) trivial ?_
       refine AtY.nil (by kernel_rfl) ?_
       refine AtP.pu ?_
       refine AtY.runp 6 [1, 2, 3, 4, 9, 61, 62, 64, 65] ([(1, .slice a2 low.length c2), (2, .slice a3 high.length c3), (3, .slice a4 l.length c4), (4, .pointer (some ⟨B3, 0, none⟩)), (9, .pointer (some ⟨B15, 0, none⟩)), (61, .bool true), (62, undef), (64, undef), (65, undef)]) [] (by as_aux_lemma => kernel_rfl) trivial ?_
       refine AtY.nil (by kernel_rfl) ?_
       refine AtP.st ?_
       refine AtY.run 2 [] [1, 2, 3, 4, 9, 61, 63, 64, 66] ([(1, .slice a2 low.length c2), (2, .slice a3 high.length c3), (3, .slice a4 l.length c4), (4, .pointer (some ⟨B3, 0, none⟩)), (9, .pointer (some ⟨B15, 0, none⟩)), (61, .bool true), (63, undef), (64, undef), (66, undef)]) [] [] (by as_aux_lemma => kernel_rfl) trivial ?_
       refine AtY.nil (by kernel_rfl) ?_
       refine AtP.st ?_
       refine AtY.run 1 [] [1, 2, 3, 4, 9, 61, 63, 67] ([(1, .slice a2 low.length c2), (2, .slice a3 high.length c3), (3, .slice a4 l.length c4), (4, .pointer (some ⟨B3, 0, none⟩)), (9, .pointer (some ⟨B15, 0, none⟩)), (61, .bool true), (63, undef), (67, undef)]) [] [] (by as_aux_lemma => kernel_rfl) trivial ?_
       refine AtY.nil (by kernel_rfl) ?_
       refine AtP.st ?_
       refine AtY.run 1 [] [1, 2, 3, 4, 9, 61, 63, 68] ([(1, .slice a2 low.length c2), (2, .slice a3 high.length c3), (3, .slice a4 l.length c4), (4, .pointer (some ⟨B3, 0, none⟩)), (9, .pointer (some ⟨B15, 0, none⟩)), (61, .bool true), (63, undef), (68, undef)]) [] [] (by as_aux_lemma => kernel_rfl) trivial ?_
       refine AtY.nil (by kernel_rfl) ?_
       refine AtP.pu ?_
       refine AtY.runp 2 [1, 2, 3, 4, 9, 70] ([(1, .slice a2 low.length c2), (2, .slice a3 high.length c3), (3, .slice a4 l.length c4), (4, .pointer (some ⟨B3, 0, none⟩)), (9, .pointer (some ⟨B15, 0, none⟩)), (70, .bool true)]) [] (by as_aux_lemma => kernel_rfl) trivial ?_
       refine AtY.nil (by kernel_rfl) ?_
       refine AtP.nil ?_
       exact Ends.mid true (Option.some.inj h).symm (by kernel_rfl) (by kernel_rfl)
      ·have h := br_f h hc31
       refine AtY.runp 3 [1, 2, 3, 4, 9, 51, 52, 54, 55] ([(1, .slice a2 low.length c2), (2, .slice a3 high.length c3), (3, .slice a4 l.length c4), (4, .pointer (some ⟨B3, 0, none⟩)), (9, .pointer (some ⟨B15, 0, none⟩)), (51, .bool false), (52, .pointer (some ⟨B15, 1, none⟩)), (54, .slice a2 low.length c2), (55, .pointer (some ⟨B15, 0, none⟩))]) [] (by as_aux_lemma => kernel_rfl) trivial ?_
       refine AtY.nil (by kernel_rfl) ?_
       refine AtP.st ?_
       refine AtY.run 2 [(5, 1, 0), (5, 0, 0)] [1, 2, 3, 4, 9, 51, 53, 54, 56] ([(1, .slice a2 low.length c2), (2, .slice a3 high.length c3), (3, .slice a4 l.length c4), (4, .pointer (some ⟨B3, 0, none⟩)), (9, .pointer (some ⟨B15, 0, none⟩)), (51, .bool false), (53, .int .i64 ((nth l Split.zero (0 : Int).toNat).at_)), (54, .slice a2 low.length c2), (56, .int .i64 ((nth l Split.zero (0 : Int).toNat).lot))]) [B15, 1, B15, 0] [] (by as_aux_lemma => kernel_rfl) trivial ?_
       refine AtY.nil (by kernel_rfl) ?_
       refine AtP.st ?_
       obtain ⟨g32, h⟩ := gd h
       refine AtY.run 1 [(2, 0, 0)] [1, 2, 3, 4, 9, 51, 53, 57] ([(1, .slice a2 low.length c2), (2, .slice a3 high.length c3), (3, .slice a4 l.length c4), (4, .pointer (some ⟨B3, 0, none⟩)), (9, .pointer (some ⟨B15, 0, none⟩)), (51, .bool false), (53, .int .i64 ((nth l Split.zero (0 : Int).toNat).at_)), (57, .pointer (some ⟨slB a2, slO a2 + ((nth l Split.zero (0 : Int).toNat).lot).toNat * 1, none⟩))]) [] [IdxOk a2 a2 low.length low.length ((nth l Split.zero (0 : Int).toNat).lot)] (by as_aux_lemma => kernel_rfl) ⟨inB_idx g32, trivial⟩ ?_
       refine AtY.nil (by kernel_rfl) ?_
       refine AtP.st ?_
       refine AtY.run 1 [(2, 0, ((nth l Split.zero (0 : Int).toNat).lot).toNat)] [1, 2, 3, 4, 9, 51, 53, 58] ([(1, .slice a2 low.length c2), (2, .slice a3 high.length c3), (3, .slice a4 l.length c4), (4, .pointer (some ⟨B3, 0, none⟩)), (9, .pointer (some ⟨B15, 0, none⟩)), (51, .bool false), (53, .int .i64 ((nth l Split.zero (0 : Int).toNat).at_)), (58, .int .i64 (nth low 0 ((nth l Split.zero (0 : Int).toNat).lot).toNat))]) [slB a2, slO a2 + ((nth l Split.zero (0 : Int).toNat).lot).toNat * 1 + 0] [((nth l Split.zero (0 : Int).toNat).lot).toNat < low.length] (by as_aux_lemma => kernel_rfl) ⟨inB_lt g32, trivial⟩ ?_
       refine AtY.nil (by kernel_rfl) ?_
       refine AtP.pu ?_
       refine AtY.runp 3 [1, 2, 3, 4, 9, 61] ([(1, .slice a2 low.length c2), (2, .slice a3 high.length c3), (3, .slice a4 l.length c4), (4, .pointer (some ⟨B3, 0, none⟩)), (9, .pointer (some ⟨B15, 0, none⟩)), (61, .bool (decide (((nth l Split.zero (0 : Int).toNat).at_) < (nth low 0 ((nth l Split.zero (0 : Int).toNat).lot).toNat))))]) [] (by as_aux_lemma => kernel_rfl) trivial ?_
       refine AtY.bool 61 (decide (((nth l Split.zero (0 : Int).toNat).at_) < (nth low 0 ((nth l Split.zero (0 : Int).toNat).lot).toNat))) (by kernel_rfl) (fun hc33 => ?_) (fun hc33 => ?_)
       ·have h := br_t h hc33
        refine AtY.runp 3 [1, 2, 3, 4, 9, 61, 62, 64, 65] ([(1, .slice a2 low.length c2), (2, .slice a3 high.length c3), (3, .slice a4 l.length c4), (4, .pointer (some ⟨B3, 0, none⟩)), (9, .pointer (some ⟨B15, 0, none⟩)), (61, .bool true), (62, undef), (64, undef), (65, undef)]) [] (by as_aux_lemma => kernel_rfl) trivial ?_
        refine AtY.nil (by kernel_rfl) ?_
        refine AtP.st ?_
        refine AtY.run 2 [] [1, 2, 3, 4, 9, 61, 63, 64, 66] ([(1, .slice a2 low.length c2), (2, .slice a3 high.length c3), (3, .slice a4 l.length c4), (4, .pointer (some ⟨B3, 0, none⟩)), (9, .pointer (some ⟨B15, 0, none⟩)), (61, .bool true), (63, undef), (64, undef), (66, undef)]) [] [] (by as_aux_lemma => kernel_rfl) trivial ?_
        refine AtY.nil (by kernel_rfl) ?_
        refine AtP.st ?_
        refine AtY.run 1 [] [1, 2, 3, 4, 9, 61, 63, 67] ([(1, .slice a2 low.length c2), (2, .slice a3 high.length c3), (3, .slice a4 l.length c4), (4, .pointer (some ⟨B3, 0, none⟩)), (9, .pointer (some ⟨B15, 0, none⟩)), (61, .bool true), (63, undef), (67, undef)]) [] [] (by as_aux_lemma => kernel_rfl) trivial ?_
        refine AtY.nil (by kernel_rfl) ?_
        refine AtP.st ?_
        refine AtY.run 1 [] [1, 2, 3, 4, 9, 61, 63, 68] ([(1, .slice a2 low.length c2), (2, .slice a3 high.length c3), (3, .slice a4 l.length c4), (4, .pointer (some ⟨B3, 0, none⟩)), (9, .pointer (some ⟨B15, 0, none⟩)), (61, .bool true), (63, undef), (68, undef)]) [] [] (by as_aux_lemma => kernel_rfl) trivial ?_
        refine AtY.nil (by kernel_rfl) ?_
        refine AtP.pu ?_
        refine AtY.runp 2 [1, 2, 3, 4, 9, 70] ([(1, .slice a2 low.length c2), (2, .slice a3 high.length c3), (3, .slice a4 l.length c4), (4, .pointer (some ⟨B3, 0, none⟩)), (9, .pointer (some ⟨B15, 0, none⟩)), (70, .bool true)]) [] (by as_aux_lemma => kernel_rfl) trivial ?_
        refine AtY.nil (by kernel_rfl) ?_
        refine AtP.nil ?_
        exact Ends.mid true (Option.some.inj h).symm (by kernel_rfl) (by kernel_rfl)
       ·have h := br_f h hc33
        refine AtY.runp 3 [1, 2, 3, 4, 9, 61, 62, 64, 65] ([(1, .slice a2 low.length c2), (2, .slice a3 high.length c3), (3, .slice a4 l.length c4), (4, .pointer (some ⟨B3, 0, none⟩)), (9, .pointer (some ⟨B15, 0, none⟩)), (61, .bool false), (62, .pointer (some ⟨B15, 1, none⟩)), (64, .slice a3 high.length c3), (65, .pointer (some ⟨B15, 0, none⟩))]) [] (by as_aux_lemma => kernel_rfl) trivial ?_
        refine AtY.nil (by kernel_rfl) ?_
        refine AtP.st ?_
        refine AtY.run 2 [(5, 1, 0), (5, 0, 0)] [1, 2, 3, 4, 9, 61, 63, 64, 66] ([(1, .slice a2 low.length c2), (2, .slice a3 high.length c3), (3, .slice a4 l.length c4), (4, .pointer (some ⟨B3, 0, none⟩)), (9, .pointer (some ⟨B15, 0, none⟩)), (61, .bool false), (63, .int .i64 ((nth l Split.zero (0 : Int).toNat).at_)), (64, .slice a3 high.length c3), (66, .int .i64 ((nth l Split.zero (0 : Int).toNat).lot))]) [B15, 1, B15, 0] [] (by as_aux_lemma => kernel_rfl) trivial ?_
        refine AtY.nil (by kernel_rfl) ?_
        refine AtP.st ?_
        obtain ⟨g34, h⟩ := gd h
        refine AtY.run 1 [(1, 0, 0)] [1, 2, 3, 4, 9, 61, 63, 67] ([(1, .slice a2 low.length c2), (2, .slice a3 high.length c3), (3, .slice a4 l.length c4), (4, .pointer (some ⟨B3, 0, none⟩)), (9, .pointer (some ⟨B15, 0, none⟩)), (61, .bool false), (63, .int .i64 ((nth l Split.zero (0 : Int).toNat).at_)), (67, .pointer (some ⟨slB a3, slO a3 + ((nth l Split.zero (0 : Int).toNat).lot).toNat * 1, none⟩))]) [] [IdxOk a3 a3 high.length high.length ((nth l Split.zero (0 : Int).toNat).lot)] (by as_aux_lemma => kernel_rfl) ⟨inB_idx g34, trivial⟩ ?_
        refine AtY.nil (by kernel_rfl) ?_
        refine AtP.st ?_
        refine AtY.run 1 [(1, 0, ((nth l Split.zero (0 : Int).toNat).lot).toNat)] [1, 2, 3, 4, 9, 61, 63, 68] ([(1, .slice a2 low.length c2), (2, .slice a3 high.length c3), (3, .slice a4 l.length c4), (4, .pointer (some ⟨B3, 0, none⟩)), (9, .pointer (some ⟨B15, 0, none⟩)), (61, .bool false), (63, .int .i64 ((nth l Split.zero (0 : Int).toNat).at_)), (68, .int .i64 (nth high 0 ((nth l Split.zero (0 : Int).toNat).lot).toNat))]) [slB a3, slO a3 + ((nth l Split.zero (0 : Int).toNat).lot).toNat * 1 + 0] [((nth l Split.zero (0 : Int).toNat).lot).toNat < high.length] (by as_aux_lemma => kernel_rfl) ⟨inB_lt g34, trivial⟩ ?_
        refine AtY.nil (by kernel_rfl) ?_
        refine AtP.pu ?_
        refine AtY.runp 2 [1, 2, 3, 4, 9, 70] ([(1, .slice a2 low.length c2), (2, .slice a3 high.length c3), (3, .slice a4 l.length c4), (4, .pointer (some ⟨B3, 0, none⟩)), (9, .pointer (some ⟨B15, 0, none⟩)), (70, .bool (decide (((nth l Split.zero (0 : Int).toNat).at_) ≥ (nth high 0 ((nth l Split.zero (0 : Int).toNat).lot).toNat))))]) [] (by as_aux_lemma => kernel_rfl) trivial ?_
        refine AtY.nil (by kernel_rfl) ?_
        refine AtP.nil ?_
        exact Ends.mid (decide (((nth l Split.zero (0 : Int).toNat).at_) ≥ (nth high 0 ((nth l Split.zero (0 : Int).toNat).lot).toNat))) (Option.some.inj h).symm (by kernel_rfl) (by kernel_rfl)
    ·revert hI; revert s; intro t70 hI
     replace hI : o13 = t70 := hI
     have h := hr13
     try rw [hI] at h
     refine At.cond (t70) (by kernel_rfl) (fun hc14 => ?_) (fun hc14 => ?_)
     ·have h := br_t h hc14
      refine At.runR [] [8] [true, true, true, true, true, true] (.ret) ([(8, .int .i64 (-1))]) [] [] (fun _ => by as_aux_lemma => kernel_rfl) trivial ?_
      refine Ends.then_ret ?_
      refine Ends.body [] (.int .i64 (-1)) [] (by kernel_rfl) (fun w9 hRep => ?_)
      obtain rfl := Option.some.inj h
      exact ⟨rfl, hRep.ext⟩
     ·have h := br_f h hc14
      refine At.runR [] [1, 2, 3, 4, 9] [true, true, true, true, true, true] (.normal) ([(1, .slice a2 low.length c2), (2, .slice a3 high.length c3), (3, .slice a4 l.length c4), (4, .pointer (some ⟨B3, 0, none⟩)), (9, .pointer (some ⟨B15, 0, none⟩))]) [] [] (fun _ => by as_aux_lemma => kernel_rfl) trivial ?_
      refine Ends.seq ?_
      refine At.seq ?_
      refine At.plan ([.sl a4 3 l.length (fun i_ => Split.cells (nth l Split.zero i_)), .sl a3 1 high.length (fun i_ => intCells (nth high 0 i_)), .sl a2 1 low.length (fun i_ => intCells (nth low 0 i_)), .sl a1 9 p.lots.length (fun i_ => Lot.cells (nth p.lots Lot.zero i_)), .blk B3 (rcL a1 c1 p) 28, .blk B15 [.int .i64 ((nth l Split.zero (0 : Int).toNat).lot), .int .i64 ((nth l Split.zero (0 : Int).toNat).at_), .int .i64 ((nth l Split.zero (0 : Int).toNat).reason)] 55]) [0, 1, 2, 3, 4, 5] (by kernel_rfl) (by kernel_rfl) [.pu [1, 2, 3, 5, 8, 9], .st [0, 4, 6], .mv 7, .mv 10, .pu [11]] (by kernel_rfl) (by kernel_rfl) ?_
      refine AtP.pu ?_
      obtain ⟨g15, h⟩ := gd h
      refine AtY.runp 6 [1, 2, 3, 4, 9, 72, 73, 74, 76, 80] ([(1, .slice a2 low.length c2), (2, .slice a3 high.length c3), (3, .slice a4 l.length c4), (4, .pointer (some ⟨B3, 0, none⟩)), (9, .pointer (some ⟨B15, 0, none⟩)), (72, .slice a2 low.length c2), (73, .slice a3 high.length c3), (74, .pointer (some ⟨B15, 0, none⟩)), (76, .pointer (some ⟨B15, 1, none⟩)), (80, .slice (dropA a4 c4 ((1 : Int).toNat) 3) (l.length - (1 : Int).toNat) (c4 - (1 : Int).toNat))]) [DropOk (1 : Int) l.length c4] (by as_aux_lemma => kernel_rfl) ⟨dropOk_is g15 hs4.le, trivial⟩ ?_
      refine AtY.fit2 ([(1, .slice a2 low.length c2), (2, .slice a3 high.length c3), (3, .slice a4 l.length c4), (4, .pointer (some ⟨B3, 0, none⟩)), (9, .pointer (some ⟨B15, 0, none⟩)), (72, .slice a2 low.length c2), (73, .slice a3 high.length c3), (74, .pointer (some ⟨B15, 0, none⟩)), (76, .pointer (some ⟨B15, 1, none⟩)), (80, .slice (dropA a4 c4 ((1 : Int).toNat) 3) ((List.drop ((1 : Int).toNat) l).length) (c4 - (1 : Int).toNat))]) (by simp only [List.length_drop]) ?_
      refine AtY.nil (by kernel_rfl) ?_
      refine AtP.st ?_
      refine AtY.run 3 [(4, 0, 0), (4, 1, 0), (4, 2, 0), (4, 3, 0), (4, 4, 0), (4, 5, 0), (4, 6, 0), (4, 7, 0), (4, 8, 0), (5, 0, 0), (5, 1, 0)] [1, 2, 3, 4, 9, 71, 72, 73, 75, 77, 80] ([(1, .slice a2 low.length c2), (2, .slice a3 high.length c3), (3, .slice a4 l.length c4), (4, .pointer (some ⟨B3, 0, none⟩)), (9, .pointer (some ⟨B15, 0, none⟩)), (71, .agg (rcL a1 c1 p).toArray), (72, .slice a2 low.length c2), (73, .slice a3 high.length c3), (75, .int .i64 ((nth l Split.zero (0 : Int).toNat).lot)), (77, .int .i64 ((nth l Split.zero (0 : Int).toNat).at_)), (80, .slice (dropA a4 c4 ((1 : Int).toNat) 3) ((List.drop ((1 : Int).toNat) l).length) (c4 - (1 : Int).toNat))]) [B3, 0, B3, 1, B3, 2, B3, 3, B3, 4, B3, 5, B3, 6, B3, 7, B3, 8, B15, 0, B15, 1] [] (by as_aux_lemma => kernel_rfl) trivial ?_
      refine AtY.nil (by kernel_rfl) ?_
      refine AtP.mv ?_
      obtain ⟨r_16, hs28, h⟩ := bd h
      refine AtL.call 98 #[.slice a3 high.length c3, .int .i64 ((nth l Split.zero (0 : Int).toNat).lot), .int .i64 ((nth l Split.zero (0 : Int).toNat).at_)] (some 78) (by kernel_rfl) _ (fun w8 hRep => rPut_w F high ((nth l Split.zero (0 : Int).toNat).lot) ((nth l Split.zero (0 : Int).toNat).at_) a3 c3 w8 (hRep.toSl 1 rfl hs3.le hs3.big) _ hs28) ?_
      rintro w8 e w9 hRep ⟨a_, c_, rfl, hE⟩
      refine ⟨_, _, _, rfl, rfl, hRep.join hE (by simp [Ent.fresh]), ?_⟩
      refine AtL.nil (by kernel_rfl) ?_
      refine Ends.mv [0, 1, 2, 3, 4, 5] (by kernel_rfl) (by kernel_rfl) ?_
      refine AtP.mv ?_
      obtain ⟨r_17, hs27, h⟩ := bd h
      refine AtL.call 77 #[.agg (rcL a1 c1 p).toArray, .slice a2 low.length c2, .slice a_ r_16.length c_, .slice (dropA a4 c4 ((1 : Int).toNat) 3) ((List.drop ((1 : Int).toNat) l).length) (c4 - (1 : Int).toNat)] (some 81) (by kernel_rfl) _ (fun w8 hRep => ih p low r_16 (List.drop ((1 : Int).toNat) l) a1 c1 a2 c2 a_ c_ (dropA a4 c4 ((1 : Int).toNat) 3) (c4 - (1 : Int).toNat) w8 (hRep.toSl 3 rfl hs1.le hs1.big) (hRep.toSl 2 rfl hs2.le hs2.big) (hRep.owSl 6 rfl xlen3) (Sl.dropA (hRep.toSl 0 rfl hs4.le hs4.big) g15) _ hs27) ?_
      rintro w8 e w9 hRep ⟨rfl, hE⟩
      refine ⟨_, _, _, rfl, rfl, hRep.ext' hE, ?_⟩
      refine AtL.nil (by kernel_rfl) ?_
      refine Ends.mv [0, 1, 2, 3, 4, 5] (by kernel_rfl) (by kernel_rfl) ?_
      refine AtP.pu ?_
      refine AtY.runp 1 [1, 2, 3, 4, 9, 10] ([(1, .slice a2 low.length c2), (2, .slice a3 high.length c3), (3, .slice a4 l.length c4), (4, .pointer (some ⟨B3, 0, none⟩)), (9, .pointer (some ⟨B15, 0, none⟩)), (10, .int .i64 r_17)]) [] (by as_aux_lemma => kernel_rfl) trivial ?_
      refine AtY.nil (by kernel_rfl) ?_
      refine AtP.nil ?_
      refine Ends.weak [1, 2, 3, 4, 9, 10] [true, true, true, true, true, true, false] ([(1, .slice a2 low.length c2), (2, .slice a3 high.length c3), (3, .slice a4 l.length c4), (4, .pointer (some ⟨B3, 0, none⟩)), (9, .pointer (some ⟨B15, 0, none⟩)), (10, .int .i64 r_17)]) ([.sl a4 3 l.length (fun i_ => Split.cells (nth l Split.zero i_)), .sl a3 1 high.length (fun i_ => intCells (nth high 0 i_)), .sl a2 1 low.length (fun i_ => intCells (nth low 0 i_)), .sl a1 9 p.lots.length (fun i_ => Lot.cells (nth p.lots Lot.zero i_)), .blk B3 (rcL a1 c1 p) 28, .blk B15 [.int .i64 ((nth l Split.zero (0 : Int).toNat).lot), .int .i64 ((nth l Split.zero (0 : Int).toNat).at_), .int .i64 ((nth l Split.zero (0 : Int).toNat).reason)] 55]) (by kernel_rfl) (by kernel_rfl) ?_
      refine Ends.seq ?_
      refine At.seq ?_
      refine At.seq ?_
      refine At.runR [] [1, 2, 3, 4, 9, 10, 83] [true, true, true, true, true, true] (.normal) ([(1, .slice a2 low.length c2), (2, .slice a3 high.length c3), (3, .slice a4 l.length c4), (4, .pointer (some ⟨B3, 0, none⟩)), (9, .pointer (some ⟨B15, 0, none⟩)), (10, .int .i64 r_17), (83, .bool (decide (r_17 < (0 : Int))))]) [] [] (fun _ => by as_aux_lemma => kernel_rfl) trivial ?_
      refine Ends.seq ?_
      refine At.cond (decide (r_17 < (0 : Int))) (by kernel_rfl) (fun hc18 => ?_) (fun hc18 => ?_)
      ·have h := br_t h hc18
       refine At.runR [] [8] [true, true, true, true, true, true] (.ret) ([(8, .int .i64 (-1))]) [] [] (fun _ => by as_aux_lemma => kernel_rfl) trivial ?_
       refine Ends.then_ret ?_
       refine Ends.body [] (.int .i64 (-1)) [] (by kernel_rfl) (fun w9 hRep => ?_)
       obtain rfl := Option.some.inj h
       exact ⟨rfl, hRep.ext⟩
      ·have h := br_f h hc18
       refine At.runR [] [1, 2, 3, 4, 9, 10] [true, true, true, true, true, true] (.normal) ([(1, .slice a2 low.length c2), (2, .slice a3 high.length c3), (3, .slice a4 l.length c4), (4, .pointer (some ⟨B3, 0, none⟩)), (9, .pointer (some ⟨B15, 0, none⟩)), (10, .int .i64 r_17)]) [] [] (fun _ => by as_aux_lemma => kernel_rfl) trivial ?_
       refine Ends.seq ?_
       refine At.seq ?_
       refine At.plan ([.sl a4 3 l.length (fun i_ => Split.cells (nth l Split.zero i_)), .sl a3 1 high.length (fun i_ => intCells (nth high 0 i_)), .sl a2 1 low.length (fun i_ => intCells (nth low 0 i_)), .sl a1 9 p.lots.length (fun i_ => Lot.cells (nth p.lots Lot.zero i_)), .blk B3 (rcL a1 c1 p) 28, .blk B15 [.int .i64 ((nth l Split.zero (0 : Int).toNat).lot), .int .i64 ((nth l Split.zero (0 : Int).toNat).at_), .int .i64 ((nth l Split.zero (0 : Int).toNat).reason)] 55]) [0, 1, 2, 3, 4, 5] (by kernel_rfl) (by kernel_rfl) [.pu [1, 2, 4, 8, 9, 10, 11, 12], .st [0, 3, 5], .pu [6], .mv 7, .mv 13, .pu [14]] (by kernel_rfl) (by kernel_rfl) ?_
       refine AtP.pu ?_
       obtain ⟨g19, h⟩ := gd h
       refine AtY.runp 8 [4, 10, 85, 86, 88, 92, 96] ([(4, .pointer (some ⟨B3, 0, none⟩)), (10, .int .i64 r_17), (85, .slice a2 low.length c2), (86, .pointer (some ⟨B15, 0, none⟩)), (88, .pointer (some ⟨B15, 1, none⟩)), (92, .slice a3 high.length c3), (96, .slice (dropA a4 c4 ((IntKind.i64.wrap ((1 : Int) + r_17)).toNat) 3) (l.length - (IntKind.i64.wrap ((1 : Int) + r_17)).toNat) (c4 - (IntKind.i64.wrap ((1 : Int) + r_17)).toNat))]) [DropOk (IntKind.i64.wrap ((1 : Int) + r_17)) l.length c4] (by as_aux_lemma => kernel_rfl) ⟨dropOk_is g19 hs4.le, trivial⟩ ?_
       refine AtY.fit2 ([(4, .pointer (some ⟨B3, 0, none⟩)), (10, .int .i64 r_17), (85, .slice a2 low.length c2), (86, .pointer (some ⟨B15, 0, none⟩)), (88, .pointer (some ⟨B15, 1, none⟩)), (92, .slice a3 high.length c3), (96, .slice (dropA a4 c4 ((IntKind.i64.wrap ((1 : Int) + r_17)).toNat) 3) ((List.drop ((IntKind.i64.wrap ((1 : Int) + r_17)).toNat) l).length) (c4 - (IntKind.i64.wrap ((1 : Int) + r_17)).toNat))]) (by simp only [List.length_drop]) ?_
       refine AtY.nil (by kernel_rfl) ?_
       refine AtP.st ?_
       refine AtY.run 3 [(4, 0, 0), (4, 1, 0), (4, 2, 0), (4, 3, 0), (4, 4, 0), (4, 5, 0), (4, 6, 0), (4, 7, 0), (4, 8, 0), (5, 0, 0), (5, 1, 0)] [10, 84, 85, 87, 89, 92, 96] ([(10, .int .i64 r_17), (84, .agg (rcL a1 c1 p).toArray), (85, .slice a2 low.length c2), (87, .int .i64 ((nth l Split.zero (0 : Int).toNat).lot)), (89, .int .i64 ((nth l Split.zero (0 : Int).toNat).at_)), (92, .slice a3 high.length c3), (96, .slice (dropA a4 c4 ((IntKind.i64.wrap ((1 : Int) + r_17)).toNat) 3) ((List.drop ((IntKind.i64.wrap ((1 : Int) + r_17)).toNat) l).length) (c4 - (IntKind.i64.wrap ((1 : Int) + r_17)).toNat))]) [B3, 0, B3, 1, B3, 2, B3, 3, B3, 4, B3, 5, B3, 6, B3, 7, B3, 8, B15, 0, B15, 1] [] (by as_aux_lemma => kernel_rfl) trivial ?_
       refine AtY.nil (by kernel_rfl) ?_
       refine AtP.pu ?_
       refine AtY.runp 1 [10, 84, 85, 87, 90, 92, 96] ([(10, .int .i64 r_17), (84, .agg (rcL a1 c1 p).toArray), (85, .slice a2 low.length c2), (87, .int .i64 ((nth l Split.zero (0 : Int).toNat).lot)), (90, .int .i64 (IntKind.i64.wrap (((nth l Split.zero (0 : Int).toNat).at_) + (1 : Int)))), (92, .slice a3 high.length c3), (96, .slice (dropA a4 c4 ((IntKind.i64.wrap ((1 : Int) + r_17)).toNat) 3) ((List.drop ((IntKind.i64.wrap ((1 : Int) + r_17)).toNat) l).length) (c4 - (IntKind.i64.wrap ((1 : Int) + r_17)).toNat))]) [] (by as_aux_lemma => kernel_rfl) trivial ?_
       refine AtY.nil (by kernel_rfl) ?_
       refine AtP.mv ?_
       obtain ⟨r_20, hs26, h⟩ := bd h
       refine AtL.call 98 #[.slice a2 low.length c2, .int .i64 ((nth l Split.zero (0 : Int).toNat).lot), .int .i64 (IntKind.i64.wrap (((nth l Split.zero (0 : Int).toNat).at_) + (1 : Int)))] (some 91) (by kernel_rfl) _ (fun w8 hRep => rPut_w F low ((nth l Split.zero (0 : Int).toNat).lot) (IntKind.i64.wrap (((nth l Split.zero (0 : Int).toNat).at_) + (1 : Int))) a2 c2 w8 (hRep.toSl 2 rfl hs2.le hs2.big) _ hs26) ?_
       rintro w8 e w9 hRep ⟨a_21, c_22, rfl, hE⟩
       refine ⟨_, _, _, rfl, rfl, hRep.join hE (by simp [Ent.fresh]), ?_⟩
       refine AtL.nil (by kernel_rfl) ?_
       refine Ends.mv [0, 1, 2, 3, 4, 5] (by kernel_rfl) (by kernel_rfl) ?_
       refine AtP.mv ?_
       obtain ⟨r_23, hs25, h⟩ := bd h
       refine AtL.call 77 #[.agg (rcL a1 c1 p).toArray, .slice a_21 r_20.length c_22, .slice a3 high.length c3, .slice (dropA a4 c4 ((IntKind.i64.wrap ((1 : Int) + r_17)).toNat) 3) ((List.drop ((IntKind.i64.wrap ((1 : Int) + r_17)).toNat) l).length) (c4 - (IntKind.i64.wrap ((1 : Int) + r_17)).toNat)] (some 97) (by kernel_rfl) _ (fun w8 hRep => ih p r_20 high (List.drop ((IntKind.i64.wrap ((1 : Int) + r_17)).toNat) l) a1 c1 a_21 c_22 a3 c3 (dropA a4 c4 ((IntKind.i64.wrap ((1 : Int) + r_17)).toNat) 3) (c4 - (IntKind.i64.wrap ((1 : Int) + r_17)).toNat) w8 (hRep.toSl 3 rfl hs1.le hs1.big) (hRep.owSl 6 rfl xlen3) (hRep.toSl 1 rfl hs3.le hs3.big) (Sl.dropA (hRep.toSl 0 rfl hs4.le hs4.big) g19) _ hs25) ?_
       rintro w8 e w9 hRep ⟨rfl, hE⟩
       refine ⟨_, _, _, rfl, rfl, hRep.ext' hE, ?_⟩
       refine AtL.nil (by kernel_rfl) ?_
       refine Ends.mv [0, 1, 2, 3, 4, 5] (by kernel_rfl) (by kernel_rfl) ?_
       refine AtP.pu ?_
       refine AtY.runp 1 [10, 11] ([(10, .int .i64 r_17), (11, .int .i64 r_23)]) [] (by as_aux_lemma => kernel_rfl) trivial ?_
       refine AtY.nil (by kernel_rfl) ?_
       refine AtP.nil ?_
       refine Ends.weak [10, 11] [true, true, true, true, true, true, false] ([(10, .int .i64 r_17), (11, .int .i64 r_23)]) ([.sl a4 3 l.length (fun i_ => Split.cells (nth l Split.zero i_)), .sl a3 1 high.length (fun i_ => intCells (nth high 0 i_)), .sl a2 1 low.length (fun i_ => intCells (nth low 0 i_)), .sl a1 9 p.lots.length (fun i_ => Lot.cells (nth p.lots Lot.zero i_)), .blk B3 (rcL a1 c1 p) 28, .blk B15 [.int .i64 ((nth l Split.zero (0 : Int).toNat).lot), .int .i64 ((nth l Split.zero (0 : Int).toNat).at_), .int .i64 ((nth l Split.zero (0 : Int).toNat).reason)] 55]) (by kernel_rfl) (by kernel_rfl) ?_
       refine Ends.seq ?_
       refine At.seq ?_
       refine At.seq ?_
       refine At.runR [] [10, 11, 99] [true, true, true, true, true, true] (.normal) ([(10, .int .i64 r_17), (11, .int .i64 r_23), (99, .bool (decide (r_23 < (0 : Int))))]) [] [] (fun _ => by as_aux_lemma => kernel_rfl) trivial ?_
       refine Ends.seq ?_
       refine At.cond (decide (r_23 < (0 : Int))) (by kernel_rfl) (fun hc24 => ?_) (fun hc24 => ?_)
       ·have h := br_t h hc24
        refine At.runR [] [8] [true, true, true, true, true, true] (.ret) ([(8, .int .i64 (-1))]) [] [] (fun _ => by as_aux_lemma => kernel_rfl) trivial ?_
        refine Ends.then_ret ?_
        refine Ends.body [] (.int .i64 (-1)) [] (by kernel_rfl) (fun w9 hRep => ?_)
        obtain rfl := Option.some.inj h
        exact ⟨rfl, hRep.ext⟩
       ·have h := br_f h hc24
        refine At.runR [] [10, 11] [true, true, true, true, true, true] (.normal) ([(10, .int .i64 r_17), (11, .int .i64 r_23)]) [] [] (fun _ => by as_aux_lemma => kernel_rfl) trivial ?_
        refine Ends.seq ?_
        refine At.runR [] [8] [true, true, true, true, true, true] (.ret) ([(8, .int .i64 (IntKind.i64.wrap ((IntKind.i64.wrap ((1 : Int) + r_17)) + r_23)))]) [] [] (fun _ => by as_aux_lemma => kernel_rfl) trivial ?_
        refine Ends.body [] (.int .i64 (IntKind.i64.wrap ((IntKind.i64.wrap ((1 : Int) + r_17)) + r_23))) [] (by kernel_rfl) (fun w9 hRep => ?_)
        obtain rfl := Option.some.inj h
        exact ⟨rfl, hRep.ext⟩
def rRefutes_S (F : Nat) (p : Recipe) (l : List Split) : Option (Bool) := (rWhole_S F p).bind (fun r_ => ((bif decide ((l.length : Int) ≤ (40000 : Int)) then ((rAccept_S F F p r_.1 r_.2 l).bind (fun r_5 => bif r_5 == (l.length : Int) then (some (decide ((l.length : Int) > (0 : Int)))) else (some false))) else (some false))).bind (fun z3 => some z3))
set_option maxRecDepth 100000 in
set_option maxHeartbeats 4000000 in
theorem rRefutes_w (F : Nat) (p : Recipe) (l : List Split) (a1 : Option Addr) (c1 : Nat) (a2 : Option Addr) (c2 : Nat) (w : World) (hs1 : Sl 9 Lot.cells w a1 c1 p.lots) (hs2 : Sl 3 Split.cells w a2 c2 l) (v : Bool) (h : rRefutes_S F p l = some v) :
  Calls Try.prog 31 #[.agg #[.slice a1 p.lots.length c1, .int .i64 p.mass.lo, .int .i64 p.mass.hi, .int .i64 p.target.a.lo, .int .i64 p.target.a.hi, .int .i64 p.target.b.lo, .int .i64 p.target.b.hi, .int .i64 p.target.c.lo, .int .i64 p.target.c.hi], .slice a2 l.length c2] w (Ret (.bool v) w) := by
 rw [rRefutes_S] at h
 refine At.enter Try.func31 rfl 30 [(0, .agg (rcL a1 c1 p).toArray), (1, .slice a2 l.length c2)] ([.sl a2 3 l.length (fun i_ => Split.cells (nth l Split.zero i_)), .sl a1 9 p.lots.length (fun i_ => Lot.cells (nth p.lots Lot.zero i_))]) [] (by kernel_rfl) ⟨rfl, rfl, trivial⟩ (Rep.sub (Rep.sl (Rep.sl (Rep.start w) Lot.zero hs1 (by simp [Ent.mut])) Split.zero hs2 (by simp [Ent.mut])) (by simp)) ?_
 refine At.seq ?_
 refine At.run [] [1, 2] [true, true, true] (.normal) (fun B3 => [(1, .slice a2 l.length c2), (2, .pointer (some ⟨B3, 0, none⟩))]) (fun B3 => [.sl a2 3 l.length (fun i_ => Split.cells (nth l Split.zero i_)), .sl a1 9 p.lots.length (fun i_ => Lot.cells (nth p.lots Lot.zero i_)), .blk B3 (rcL a1 c1 p) 28]) (fun B3 => []) (fun B3 => []) (fun B3 => by as_aux_lemma => kernel_rfl) (fun B3 => trivial) (fun B3 => ?_)
 refine Ends.seq ?_
 refine At.seq ?_
 refine At.region ?_
 refine AtL.runR 1 [(2, 0, 0), (2, 1, 0), (2, 2, 0), (2, 3, 0), (2, 4, 0), (2, 5, 0), (2, 6, 0), (2, 7, 0), (2, 8, 0)] [1, 2, 8] [true, true, true] ([(1, .slice a2 l.length c2), (2, .pointer (some ⟨B3, 0, none⟩)), (8, .agg (rcL a1 c1 p).toArray)]) [B3, 0, B3, 1, B3, 2, B3, 3, B3, 4, B3, 5, B3, 6, B3, 7, B3, 8] [] (fun _ => by as_aux_lemma => kernel_rfl) trivial ?_
 obtain ⟨r_, hs8, h⟩ := bd h
 refine AtL.call 71 #[.agg (rcL a1 c1 p).toArray] (some 9) (by kernel_rfl) _ (fun w8 hRep => rWhole_w F p a1 c1 w8 (hRep.toSl 1 rfl hs1.le hs1.big) _ hs8) ?_
 rintro w8 e w9 hRep ⟨a_, c_, a_1, c_2, rfl, hE⟩
 refine ⟨_, _, _, rfl, rfl, hRep.join hE (by simp [Ent.fresh]), ?_⟩
 refine AtL.runR 5 [] [1, 2, 5, 6] [true, true, true, true, true] ([(1, .slice a2 l.length c2), (2, .pointer (some ⟨B3, 0, none⟩)), (5, .slice a_ r_.1.length c_), (6, .slice a_1 r_.2.length c_2)]) [] [] (fun _ => by as_aux_lemma => kernel_rfl) trivial ?_
 refine AtL.nil (by kernel_rfl) ?_
 refine Ends.seq ?_
 obtain ⟨o3, h, hr3⟩ := bd h
 refine At.seq_mid (σ := Bool) (fun s => o3 = s) (fun s => [(4, .bool s)]) (fun s => []) ?_ (fun s hI => ?_)
 ·refine At.region ?_
  refine AtL.runR 4 [] [1, 2, 5, 6, 15] [true, true, true, true, true] ([(1, .slice a2 l.length c2), (2, .pointer (some ⟨B3, 0, none⟩)), (5, .slice a_ r_.1.length c_), (6, .slice a_1 r_.2.length c_2), (15, .bool (decide ((l.length : Int) ≤ (40000 : Int))))]) [] [] (fun _ => by as_aux_lemma => kernel_rfl) trivial ?_
  refine AtL.bool 15 (decide ((l.length : Int) ≤ (40000 : Int))) (by kernel_rfl) (fun hc4 => ?_) (fun hc4 => ?_)
  ·have h := br_t h hc4
   refine AtL.runR 4 [(2, 0, 0), (2, 1, 0), (2, 2, 0), (2, 3, 0), (2, 4, 0), (2, 5, 0), (2, 6, 0), (2, 7, 0), (2, 8, 0)] [1, 15, 16, 17, 18, 19] [true, true, true, true, true] ([(1, .slice a2 l.length c2), (15, .bool true), (16, .agg (rcL a1 c1 p).toArray), (17, .slice a_ r_.1.length c_), (18, .slice a_1 r_.2.length c_2), (19, .slice a2 l.length c2)]) [B3, 0, B3, 1, B3, 2, B3, 3, B3, 4, B3, 5, B3, 6, B3, 7, B3, 8] [] (fun _ => by as_aux_lemma => kernel_rfl) trivial ?_
   obtain ⟨r_5, hs7, h⟩ := bd h
   refine AtL.call 77 #[.agg (rcL a1 c1 p).toArray, .slice a_ r_.1.length c_, .slice a_1 r_.2.length c_2, .slice a2 l.length c2] (some 20) (by kernel_rfl) _ (fun w8 hRep => rAccept_w F F p r_.1 r_.2 l a1 c1 a_ c_ a_1 c_2 a2 c2 w8 (hRep.toSl 1 rfl hs1.le hs1.big) (hRep.owSl 3 rfl xlen3) (hRep.owSl 4 rfl xlen3) (hRep.toSl 0 rfl hs2.le hs2.big) _ hs7) ?_
   rintro w8 e w9 hRep ⟨rfl, hE⟩
   refine ⟨_, _, _, rfl, rfl, hRep.ext' hE, ?_⟩
   refine AtL.runR 5 [] [1, 25] [true, true, true, true, true] ([(1, .slice a2 l.length c2), (25, .bool (r_5 == (l.length : Int)))]) [] [] (fun _ => by as_aux_lemma => kernel_rfl) trivial ?_
   refine AtL.bool 25 (r_5 == (l.length : Int)) (by kernel_rfl) (fun hc6 => ?_) (fun hc6 => ?_)
   ·have h := br_t h hc6
    refine AtL.runR 5 [] [4] [true, true, true, true, true] ([(4, .bool (decide ((l.length : Int) > (0 : Int))))]) [] [] (fun _ => by as_aux_lemma => kernel_rfl) trivial ?_
    refine AtL.nil (by kernel_rfl) ?_
    refine Ends.sel [4] [] ([(4, .bool (decide ((l.length : Int) > (0 : Int))))]) ([]) (by kernel_rfl) (by kernel_rfl) (by kernel_rfl) ?_
    exact Ends.mid (decide ((l.length : Int) > (0 : Int))) (Option.some.inj h).symm (by kernel_rfl) (by kernel_rfl)
   ·have h := br_f h hc6
    refine AtL.runR 5 [] [4] [true, true, true, true, true] ([(4, .bool false)]) [] [] (fun _ => by as_aux_lemma => kernel_rfl) trivial ?_
    refine AtL.nil (by kernel_rfl) ?_
    refine Ends.sel [4] [] ([(4, .bool false)]) ([]) (by kernel_rfl) (by kernel_rfl) (by kernel_rfl) ?_
    exact Ends.mid false (Option.some.inj h).symm (by kernel_rfl) (by kernel_rfl)
  ·have h := br_f h hc4
   refine AtL.runR 15 [] [4] [true, true, true, true, true] ([(4, .bool false)]) [] [] (fun _ => by as_aux_lemma => kernel_rfl) trivial ?_
   refine AtL.nil (by kernel_rfl) ?_
   refine Ends.sel [4] [] ([(4, .bool false)]) ([]) (by kernel_rfl) (by kernel_rfl) (by kernel_rfl) ?_
   exact Ends.mid false (Option.some.inj h).symm (by kernel_rfl) (by kernel_rfl)
 ·revert hI; revert s; intro t4 hI
  replace hI : o3 = t4 := hI
  have h := hr3
  try rw [hI] at h
  refine At.runR [] [4] [] (.ret) ([(4, .bool t4)]) [] [] (fun _ => by as_aux_lemma => kernel_rfl) trivial ?_
  refine Ends.body [] (.bool t4) [] (by kernel_rfl) (fun w9 hRep => ?_)
  obtain rfl := Option.some.inj h
  exact ⟨rfl, hRep.ext⟩
def lslow_S (F : Nat) (p : Recipe) : Option (Bool) := (rMany_S F p).bind (fun r_ => ((bif decide (r_ > (300 : Int)) then (some (decide (r_ ≤ (20000 : Int)))) else (some false))).bind (fun z1 => some z1))
set_option maxRecDepth 100000 in
set_option maxHeartbeats 4000000 in
theorem lslow_w (F : Nat) (p : Recipe) (a1 : Option Addr) (c1 : Nat) (w : World) (hs1 : Sl 9 Lot.cells w a1 c1 p.lots) (v : Bool) (h : lslow_S F p = some v) :
  Calls Try.prog 23 #[.agg #[.slice a1 p.lots.length c1, .int .i64 p.mass.lo, .int .i64 p.mass.hi, .int .i64 p.target.a.lo, .int .i64 p.target.a.hi, .int .i64 p.target.b.lo, .int .i64 p.target.b.hi, .int .i64 p.target.c.lo, .int .i64 p.target.c.hi]] w (Ret (.bool v) w) := by
 rw [lslow_S] at h
 refine At.enter Try.func23 rfl 12 [(0, .agg (rcL a1 c1 p).toArray)] ([.sl a1 9 p.lots.length (fun i_ => Lot.cells (nth p.lots Lot.zero i_))]) [] (by kernel_rfl) ⟨rfl, trivial⟩ (Rep.sub (Rep.sl (Rep.start w) Lot.zero hs1 (by simp [Ent.mut])) (by simp)) ?_
 refine At.seq ?_
 refine At.run [] [1] [true, true] (.normal) (fun B3 => [(1, .pointer (some ⟨B3, 0, none⟩))]) (fun B3 => [.sl a1 9 p.lots.length (fun i_ => Lot.cells (nth p.lots Lot.zero i_)), .blk B3 (rcL a1 c1 p) 28]) (fun B3 => []) (fun B3 => []) (fun B3 => by as_aux_lemma => kernel_rfl) (fun B3 => trivial) (fun B3 => ?_)
 refine Ends.seq ?_
 refine At.seq ?_
 refine At.region ?_
 refine AtL.runR 1 [(1, 0, 0), (1, 1, 0), (1, 2, 0), (1, 3, 0), (1, 4, 0), (1, 5, 0), (1, 6, 0), (1, 7, 0), (1, 8, 0)] [4] [true, true] ([(4, .agg (rcL a1 c1 p).toArray)]) [B3, 0, B3, 1, B3, 2, B3, 3, B3, 4, B3, 5, B3, 6, B3, 7, B3, 8] [] (fun _ => by as_aux_lemma => kernel_rfl) trivial ?_
 obtain ⟨r_, hs3, h⟩ := bd h
 refine AtL.call 25 #[.agg (rcL a1 c1 p).toArray] (some 5) (by kernel_rfl) _ (fun w8 hRep => rMany_w F p a1 c1 w8 (hRep.toSl 0 rfl hs1.le hs1.big) _ hs3) ?_
 rintro w8 e w9 hRep ⟨rfl, hE⟩
 refine ⟨_, _, _, rfl, rfl, hRep.ext' hE, ?_⟩
 refine AtL.runR 1 [] [3] [true, true] ([(3, .int .i64 r_)]) [] [] (fun _ => by as_aux_lemma => kernel_rfl) trivial ?_
 refine AtL.nil (by kernel_rfl) ?_
 refine Ends.seq ?_
 obtain ⟨o1, h, hr1⟩ := bd h
 refine At.seq_mid (σ := Bool) (fun s => o1 = s) (fun s => [(2, .bool s)]) (fun s => []) ?_ (fun s hI => ?_)
 ·refine At.region ?_
  refine AtL.runR 3 [] [3, 8] [true, true] ([(3, .int .i64 r_), (8, .bool (decide (r_ > (300 : Int))))]) [] [] (fun _ => by as_aux_lemma => kernel_rfl) trivial ?_
  refine AtL.bool 8 (decide (r_ > (300 : Int))) (by kernel_rfl) (fun hc2 => ?_) (fun hc2 => ?_)
  ·have h := br_t h hc2
   refine AtL.runR 4 [] [2] [true, true] ([(2, .bool (decide (r_ ≤ (20000 : Int))))]) [] [] (fun _ => by as_aux_lemma => kernel_rfl) trivial ?_
   refine AtL.nil (by kernel_rfl) ?_
   refine Ends.sel [2] [] ([(2, .bool (decide (r_ ≤ (20000 : Int))))]) ([]) (by kernel_rfl) (by kernel_rfl) (by kernel_rfl) ?_
   exact Ends.mid (decide (r_ ≤ (20000 : Int))) (Option.some.inj h).symm (by kernel_rfl) (by kernel_rfl)
  ·have h := br_f h hc2
   refine AtL.runR 4 [] [2] [true, true] ([(2, .bool false)]) [] [] (fun _ => by as_aux_lemma => kernel_rfl) trivial ?_
   refine AtL.nil (by kernel_rfl) ?_
   refine Ends.sel [2] [] ([(2, .bool false)]) ([]) (by kernel_rfl) (by kernel_rfl) (by kernel_rfl) ?_
   exact Ends.mid false (Option.some.inj h).symm (by kernel_rfl) (by kernel_rfl)
 ·revert hI; revert s; intro t2 hI
  replace hI : o1 = t2 := hI
  have h := hr1
  try rw [hI] at h
  refine At.runR [] [2] [] (.ret) ([(2, .bool t2)]) [] [] (fun _ => by as_aux_lemma => kernel_rfl) trivial ?_
  refine Ends.body [] (.bool t2) [] (by kernel_rfl) (fun w9 hRep => ?_)
  obtain rfl := Option.some.inj h
  exact ⟨rfl, hRep.ext⟩
def lown_S (F : Nat) (p : Recipe) : Option (Recipe) := bif lenOk (([] : List Lot).length) p.lots.length then (some (⟨(([] : List Lot) ++ p.lots), p.mass, p.target⟩ : Recipe)) else none
set_option maxRecDepth 100000 in
set_option maxHeartbeats 4000000 in
theorem lown_w (F : Nat) (p : Recipe) (a1 : Option Addr) (c1 : Nat) (w : World) (hs1 : Sl 9 Lot.cells w a1 c1 p.lots) (v : Recipe) (h : lown_S F p = some v) :
  Calls Try.prog 13 #[.agg #[.slice a1 p.lots.length c1, .int .i64 p.mass.lo, .int .i64 p.mass.hi, .int .i64 p.target.a.lo, .int .i64 p.target.a.hi, .int .i64 p.target.b.lo, .int .i64 p.target.b.hi, .int .i64 p.target.c.lo, .int .i64 p.target.c.hi]] w (fun e w' => ∃ xa0 xc0, e = .returned (.agg #[.slice xa0 v.lots.length xc0, .int .i64 v.mass.lo, .int .i64 v.mass.hi, .int .i64 v.target.a.lo, .int .i64 v.target.a.hi, .int .i64 v.target.b.lo, .int .i64 v.target.b.hi, .int .i64 v.target.c.lo, .int .i64 v.target.c.hi]) ∧ Rep [] w [owE Lot.cells Lot.zero xa0 xc0 43 9 v.lots] w') := by
 rw [lown_S] at h
 refine At.enter Try.func13 rfl 9 [(0, .agg (rcL a1 c1 p).toArray)] ([.sl a1 9 p.lots.length (fun i_ => Lot.cells (nth p.lots Lot.zero i_))]) [] (by kernel_rfl) ⟨rfl, trivial⟩ (Rep.sub (Rep.sl (Rep.start w) Lot.zero hs1 (by simp [Ent.mut])) (by simp)) ?_
 refine At.seq ?_
 refine At.run [] [1, 2] [true, true, true] (.normal) (fun B3 => [(1, .pointer (some ⟨B3, 0, none⟩)), (2, .pointer (some ⟨(B3 + 1), 0, none⟩))]) (fun B3 => [.sl a1 9 p.lots.length (fun i_ => Lot.cells (nth p.lots Lot.zero i_)), .blk B3 (rcL a1 c1 p) 28, .blk (B3 + 1) [.slice none 0 0, .int .i64 0, .int .i64 0, .int .i64 0, .int .i64 0, .int .i64 0, .int .i64 0, .int .i64 0, .int .i64 0] 28]) (fun B3 => []) (fun B3 => []) (fun B3 => by as_aux_lemma => kernel_rfl) (fun B3 => trivial) (fun B3 => ?_)
 refine Ends.seq ?_
 refine At.seq ?_
 refine At.region ?_
 refine AtL.run 3 [(1, 0, 0)] [1, 2, 3, 5] [true, true, true, true] (fun B7 => [(1, .pointer (some ⟨B3, 0, none⟩)), (2, .pointer (some ⟨(B3 + 1), 0, none⟩)), (3, .slice (some ⟨B7, 0, none⟩) 0 0), (5, .slice a1 p.lots.length c1)]) (fun B7 => [.sl a1 9 p.lots.length (fun i_ => Lot.cells (nth p.lots Lot.zero i_)), .blk B3 (rcL a1 c1 p) 28, .blk (B3 + 1) [.slice none 0 0, .int .i64 0, .int .i64 0, .int .i64 0, .int .i64 0, .int .i64 0, .int .i64 0, .int .i64 0, .int .i64 0] 28, .blk B7 [] 43]) (fun B7 => [B3, 0]) (fun B7 => []) (fun B7 => by as_aux_lemma => kernel_rfl) (fun B7 => trivial) (fun B7 => ?_)
 refine AtL.addRow 3 B7 43 [] (by kernel_rfl) Lot.cells Lot.zero 9 ([] : List Lot) xlen43 (by kernel_rfl) (Nat.le_of_ble_eq_true rfl) (by simp) ?_
 obtain ⟨g1, h⟩ := gd h
 refine AtL.append Lot.zero xei43 xlen43 xone43 (by decide) (some 6) 3 (some ⟨B7, 0, none⟩) (([] : List Lot).length) ([] : List Lot) (by kernel_rfl) a1 p.lots.length c1 p.lots (by kernel_rfl) (by kernel_rfl) ((Adds.sl_ (i := 0) (d := Lot.zero) (by kernel_rfl) hs1.le hs1.big)) (lenOk_le g1) (fun a_ c_ K9 hK9 => ?_)
 obtain rfl := Option.some.inj hK9
 refine AtL.fit [1, 2, 5, 6] ([(1, .pointer (some ⟨B3, 0, none⟩)), (2, .pointer (some ⟨(B3 + 1), 0, none⟩)), (5, .slice a1 p.lots.length c1), (6, .slice a_ ((([] : List Lot) ++ p.lots).length) c_)]) ([.sl a1 9 p.lots.length (fun i_ => Lot.cells (nth p.lots Lot.zero i_)), .blk B3 (rcL a1 c1 p) 28, .blk (B3 + 1) [.slice none 0 0, .int .i64 0, .int .i64 0, .int .i64 0, .int .i64 0, .int .i64 0, .int .i64 0, .int .i64 0, .int .i64 0] 28, owE Lot.cells Lot.zero a_ c_ 43 9 (([] : List Lot) ++ p.lots)]) (by kernel_rfl) (by kernel_rfl) ?_
 refine AtL.run 2 [(1, 0, 0)] [1, 2] [false, true, true, true] (fun B8 => [(1, .pointer (some ⟨B3, 0, none⟩)), (2, .pointer (some ⟨(B3 + 1), 0, none⟩))]) (fun B8 => [.blk B3 [.slice a_ ((([] : List Lot) ++ p.lots).length) c_, .int .i64 p.mass.lo, .int .i64 p.mass.hi, .int .i64 p.target.a.lo, .int .i64 p.target.a.hi, .int .i64 p.target.b.lo, .int .i64 p.target.b.hi, .int .i64 p.target.c.lo, .int .i64 p.target.c.hi] 28, .blk (B3 + 1) [.slice none 0 0, .int .i64 0, .int .i64 0, .int .i64 0, .int .i64 0, .int .i64 0, .int .i64 0, .int .i64 0, .int .i64 0] 28, owE Lot.cells Lot.zero a_ c_ 43 9 (([] : List Lot) ++ p.lots)]) (fun B8 => [B3, 0]) (fun B8 => []) (fun B8 => by as_aux_lemma => kernel_rfl) (fun B8 => trivial) (fun B8 => ?_)
 refine AtL.nil (by kernel_rfl) ?_
 refine Ends.seq ?_
 refine At.run [(0, 0, 0), (0, 1, 0), (0, 2, 0), (0, 3, 0), (0, 4, 0), (0, 5, 0), (0, 6, 0), (0, 7, 0), (0, 8, 0), (1, 0, 0), (1, 1, 0), (1, 2, 0), (1, 3, 0), (1, 4, 0), (1, 5, 0), (1, 6, 0), (1, 7, 0), (1, 8, 0)] [2] [false, true, true] (.ret) (fun B9 => [(2, .pointer (some ⟨(B3 + 1), 0, none⟩))]) (fun B9 => [.blk (B3 + 1) [.slice a_ ((([] : List Lot) ++ p.lots).length) c_, .int .i64 p.mass.lo, .int .i64 p.mass.hi, .int .i64 p.target.a.lo, .int .i64 p.target.a.hi, .int .i64 p.target.b.lo, .int .i64 p.target.b.hi, .int .i64 p.target.c.lo, .int .i64 p.target.c.hi] 28, owE Lot.cells Lot.zero a_ c_ 43 9 (([] : List Lot) ++ p.lots)]) (fun B9 => [B3, 0, B3, 1, B3, 2, B3, 3, B3, 4, B3, 5, B3, 6, B3, 7, B3, 8, (B3 + 1), 0, (B3 + 1), 1, (B3 + 1), 2, (B3 + 1), 3, (B3 + 1), 4, (B3 + 1), 5, (B3 + 1), 6, (B3 + 1), 7, (B3 + 1), 8]) (fun B9 => []) (fun B9 => by as_aux_lemma => kernel_rfl) (fun B9 => trivial) (fun B9 => ?_)
 refine Ends.body [(0, 0, 0), (0, 1, 0), (0, 2, 0), (0, 3, 0), (0, 4, 0), (0, 5, 0), (0, 6, 0), (0, 7, 0), (0, 8, 0)] (.agg #[.slice a_ ((([] : List Lot) ++ p.lots).length) c_, .int .i64 p.mass.lo, .int .i64 p.mass.hi, .int .i64 p.target.a.lo, .int .i64 p.target.a.hi, .int .i64 p.target.b.lo, .int .i64 p.target.b.hi, .int .i64 p.target.c.lo, .int .i64 p.target.c.hi]) [(B3 + 1), 0, (B3 + 1), 1, (B3 + 1), 2, (B3 + 1), 3, (B3 + 1), 4, (B3 + 1), 5, (B3 + 1), 6, (B3 + 1), 7, (B3 + 1), 8] (by kernel_rfl) (fun w9 hRep => ?_)
 obtain rfl := Option.some.inj h
 exact ⟨a_, c_, rfl, hRep.sel (r := [1]) (by kernel_rfl) (by kernel_rfl)⟩
end Go.Proofs.Ytojnpaenpaobcaa
