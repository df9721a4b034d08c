/- What the functions of ChargeSure mean, and that they compute it. No condition. -/
import Derived.Test.YtojnpaenpaobcaaV
import Derived.Test.YtojnpaenpaobcaaProg
import Derived.Test.YtojnpaenpaobcaaK4
import Derived.Test.YtojnpaenpaobcaaS1
namespace Go.Proofs.Ytojnpaenpaobcaa
open Go.RowKit
structure Plc3 where
  (a b c : Int)
def Plc3.zero : Plc3 := ⟨0, 0, 0⟩
def Plc3.cells (x : Plc3) : List Value := [.int .u8 x.a, .int .u8 x.b, .int .u8 x.c]
structure Con3 where
  (a b c : Int)
def Con3.zero : Con3 := ⟨0, 0, 0⟩
def Con3.cells (x : Con3) : List Value := [.int .i64 x.a, .int .i64 x.b, .int .i64 x.c]
structure Guess where
  counts : List Int
  places : List Plc3
theorem xei3 : EI Try.prog 29 3 1 8 := EI.mk' (z := .int .i64 0) Try.underlying29 (by kernel_rfl) rfl (by decide)
theorem xlen3 (x : Int) : (intCells x).length = 1 := rfl
theorem xone3 : ∀ (x : Int), ∀ u ∈ intCells x, u.oneCell' = true := all_one (fun _ => rfl)
theorem xei43 : EI Try.prog 22 43 9 72 := EI.mk' (z := .agg #[.int .i64 0, .int .i64 0, .int .i64 0, .int .i64 0, .int .i64 0, .int .i64 0, .int .i64 0, .int .i64 0, .int .i64 0]) Try.underlying22 (by kernel_rfl) rfl (by decide)
theorem xlen43 (x : Lot) : (Lot.cells x).length = 9 := rfl
theorem xone43 : ∀ (x : Lot), ∀ u ∈ Lot.cells x, u.oneCell' = true := all_one (fun _ => rfl)
def llisted_S (F : Nat) (p : Recipe) (g : Guess) : Option (Bool) := ((bif decide ((p.lots.length : Int) ≤ (10 : Int)) then (bif decide ((g.counts.length : Int) ≤ (12 : Int)) then (some (decide ((g.places.length : Int) ≤ (40 : Int)))) else (some false)) else (some false))).bind (fun z1 => some z1)
set_option maxRecDepth 100000 in
set_option maxHeartbeats 4000000 in
theorem llisted_w (F : Nat) (p : Recipe) (g : Guess) (a1 : Option Addr) (c1 : Nat) (a2 : Option Addr) (c2 : Nat) (a3 : Option Addr) (c3 : Nat) (w : World) (hs1 : Sl 9 Lot.cells w a1 c1 p.lots) (hs2 : Sl 1 intCells w a2 c2 g.counts) (hs3 : Sl 3 Plc3.cells w a3 c3 g.places) (v : Bool) (h : llisted_S F p g = some v) :
    Calls Try.prog 32 #[.agg #[.slice a1 p.lots.length c1, .int .i64 p.mass.lo, .int .i64 p.mass.hi, .int .i64 p.target.a.lo, .int .i64 p.target.a.hi, .int .i64 p.target.b.lo, .int .i64 p.target.b.hi, .int .i64 p.target.c.lo, .int .i64 p.target.c.hi], .agg #[.slice a2 g.counts.length c2, .slice a3 g.places.length c3]] w (Ret (.bool v) w) := by
  rw [llisted_S] at h
  refine At.enter Try.func32 rfl 21 [(0, .agg #[.slice a1 p.lots.length c1, .int .i64 p.mass.lo, .int .i64 p.mass.hi, .int .i64 p.target.a.lo, .int .i64 p.target.a.hi, .int .i64 p.target.b.lo, .int .i64 p.target.b.hi, .int .i64 p.target.c.lo, .int .i64 p.target.c.hi]), (1, .agg #[.slice a2 g.counts.length c2, .slice a3 g.places.length c3])] ([.sl a3 3 g.places.length (fun i_ => Plc3.cells (nth g.places Plc3.zero i_)), .sl a2 1 g.counts.length (fun i_ => intCells (nth g.counts 0 i_)), .sl a1 9 p.lots.length (fun i_ => Lot.cells (nth p.lots Lot.zero i_))]) [] (by kernel_rfl) ⟨rfl, rfl, trivial⟩ (Rep.sub (Rep.sl (Rep.sl (Rep.sl (Rep.start w) Lot.zero hs1 (by simp [Ent.mut])) 0 hs2 (by simp [Ent.mut])) Plc3.zero hs3 (by simp [Ent.mut])) (by simp)) ?_
  refine At.seq ?_
  refine At.run [] [2, 3] [true, true, true, true, true] (.normal) (fun B3 => [(2, .pointer (some ⟨B3, 0, none⟩)), (3, .pointer (some ⟨(B3 + 1), 0, none⟩))]) (fun B3 => [.sl a3 3 g.places.length (fun i_ => Plc3.cells (nth g.places Plc3.zero i_)), .sl a2 1 g.counts.length (fun i_ => intCells (nth g.counts 0 i_)), .sl a1 9 p.lots.length (fun i_ => Lot.cells (nth p.lots Lot.zero i_)), .blk B3 [.slice a1 p.lots.length c1, .int .i64 p.mass.lo, .int .i64 p.mass.hi, .int .i64 p.target.a.lo, .int .i64 p.target.a.hi, .int .i64 p.target.b.lo, .int .i64 p.target.b.hi, .int .i64 p.target.c.lo, .int .i64 p.target.c.hi] 28, .blk (B3 + 1) [.slice a2 g.counts.length c2, .slice a3 g.places.length c3] 70]) (fun B3 => []) (fun B3 => []) (fun B3 => by as_aux_lemma => kernel_rfl) (fun B3 => trivial) (fun B3 => ?_)
  refine Ends.seq ?_
  obtain ⟨o1, h, hr1⟩ := bd h
  refine At.seq_mid (σ := Bool) (fun s => o1 = s) (fun s => [(4, .bool s)]) (fun s => []) ?_ (fun s hI => ?_)
  · refine At.region ?_
    refine AtL.runR 5 [(3, 0, 0)] [3, 9] [true, true, true, true, true] ([(3, .pointer (some ⟨(B3 + 1), 0, none⟩)), (9, .bool (decide ((p.lots.length : Int) ≤ (10 : Int))))]) [B3, 0] [] (fun _ => by as_aux_lemma => kernel_rfl) trivial ?_
    refine AtL.bool 9 (decide ((p.lots.length : Int) ≤ (10 : Int))) (by kernel_rfl) (fun hc2 => ?_) (fun hc2 => ?_)
    · have h := br_t h hc2
      refine AtL.runR 6 [(4, 0, 0)] [3, 15] [true, true, true, true, true] ([(3, .pointer (some ⟨(B3 + 1), 0, none⟩)), (15, .bool (decide ((g.counts.length : Int) ≤ (12 : Int))))]) [(B3 + 1), 0] [] (fun _ => by as_aux_lemma => kernel_rfl) trivial ?_
      refine AtL.bool 15 (decide ((g.counts.length : Int) ≤ (12 : Int))) (by kernel_rfl) (fun hc3 => ?_) (fun hc3 => ?_)
      · have h := br_t h hc3
        refine AtL.runR 6 [(4, 1, 0)] [4] [true, true, true, true, true] ([(4, .bool (decide ((g.places.length : Int) ≤ (40 : Int))))]) [(B3 + 1), 1] [] (fun _ => by as_aux_lemma => kernel_rfl) trivial ?_
        refine AtL.nil (by kernel_rfl) ?_
        refine Ends.sel [4] [] ([(4, .bool (decide ((g.places.length : Int) ≤ (40 : Int))))]) ([]) (by kernel_rfl) (by kernel_rfl) (by kernel_rfl) ?_
        exact Ends.mid (decide ((g.places.length : Int) ≤ (40 : Int))) (Option.some.inj h).symm (by kernel_rfl) (by kernel_rfl)
      · have h := br_f h hc3
        refine AtL.runR 6 [] [4] [true, true, true, true, true] ([(4, .bool false)]) [] [] (fun _ => by as_aux_lemma => kernel_rfl) trivial ?_
        refine AtL.nil (by kernel_rfl) ?_
        refine Ends.sel [4] [] ([(4, .bool false)]) ([]) (by kernel_rfl) (by kernel_rfl) (by kernel_rfl) ?_
        exact Ends.mid false (Option.some.inj h).symm (by kernel_rfl) (by kernel_rfl)
    · have h := br_f h hc2
      refine AtL.runR 12 [] [4] [true, true, true, true, true] ([(4, .bool false)]) [] [] (fun _ => by as_aux_lemma => kernel_rfl) trivial ?_
      refine AtL.nil (by kernel_rfl) ?_
      refine Ends.sel [4] [] ([(4, .bool false)]) ([]) (by kernel_rfl) (by kernel_rfl) (by kernel_rfl) ?_
      exact Ends.mid false (Option.some.inj h).symm (by kernel_rfl) (by kernel_rfl)
  · revert hI; revert s; intro t4 hI
    replace hI : o1 = t4 := hI
    have h := hr1
    try rw [hI] at h
    refine At.runR [] [4] [] (.ret) ([(4, .bool t4)]) [] [] (fun _ => by as_aux_lemma => kernel_rfl) trivial ?_
    refine Ends.body [] (.bool t4) [] (by kernel_rfl) (fun w9 hRep => ?_)
    obtain rfl := Option.some.inj h
    exact ⟨rfl, hRep.ext⟩
def ltruly_l36 (F : Nat) (p : Recipe) (counts : List Int) (g : Guess) (t10 : Int) : Nat → Int → Int → Int → Con3 → Option (Int × Int × Con3)
  | 0, _, _, _, _ => none
  | fuel36 + 1, t733, t934, t11, x35 => bif inB t10 counts.length then (bif decide (t11 < (nth counts 0 t10.toNat)) then (bif inB t10 p.lots.length then ((((bif decide ((g.places.length : Int) > (0 : Int)) then (bif (g.places.length : Int) != 0 then (bif inB (t934.tmod (g.places.length : Int)) g.places.length then (some (IntKind.i64.wrap ((nth g.places Plc3.zero (t934.tmod (g.places.length : Int)).toNat).a))) else none) else none) else (some (0 : Int)))).bind (fun z51 => ((bif decide ((g.places.length : Int) > (0 : Int)) then (bif (g.places.length : Int) != 0 then (bif inB (t934.tmod (g.places.length : Int)) g.places.length then (some (IntKind.i64.wrap ((nth g.places Plc3.zero (t934.tmod (g.places.length : Int)).toNat).b))) else none) else none) else (some (0 : Int)))).bind (fun z52 => ((bif decide ((g.places.length : Int) > (0 : Int)) then (bif (g.places.length : Int) != 0 then (bif inB (t934.tmod (g.places.length : Int)) g.places.length then (some (IntKind.i64.wrap ((nth g.places Plc3.zero (t934.tmod (g.places.length : Int)).toNat).c))) else none) else none) else (some (0 : Int)))).bind (fun z54 => some (⟨IntKind.i64.wrap (x35.a + (IntKind.i64.wrap (((((nth p.lots Lot.zero t10.toNat).con).a).lo) + (IntKind.i64.wrap ((IntKind.i64.wrap ((IntKind.i64.wrap (((((nth p.lots Lot.zero t10.toNat).con).a).hi) - ((((nth p.lots Lot.zero t10.toNat).con).a).lo))) * z51)).tdiv (255 : Int)))))), IntKind.i64.wrap (x35.b + (IntKind.i64.wrap (((((nth p.lots Lot.zero t10.toNat).con).b).lo) + (IntKind.i64.wrap ((IntKind.i64.wrap ((IntKind.i64.wrap (((((nth p.lots Lot.zero t10.toNat).con).b).hi) - ((((nth p.lots Lot.zero t10.toNat).con).b).lo))) * z52)).tdiv (255 : Int)))))), IntKind.i64.wrap (x35.c + (IntKind.i64.wrap (((((nth p.lots Lot.zero t10.toNat).con).c).lo) + (IntKind.i64.wrap ((IntKind.i64.wrap ((IntKind.i64.wrap (((((nth p.lots Lot.zero t10.toNat).con).c).hi) - ((((nth p.lots Lot.zero t10.toNat).con).c).lo))) * z54)).tdiv (255 : Int))))))⟩ : Con3))))).bind (fun z49 => ltruly_l36 F p counts g t10 fuel36 (IntKind.i64.wrap (t733 + ((nth p.lots Lot.zero t10.toNat).mass))) (IntKind.i64.wrap (t934 + (1 : Int))) (IntKind.i64.wrap (t11 + (1 : Int))) z49)) else none) else (some (t733, t934, x35))) else none
def ltruly_l19 (F : Nat) (p : Recipe) (counts : List Int) (g : Guess) : Nat → Int → Int → Int → Con3 → Option (Int × Con3)
  | 0, _, _, _, _ => none
  | fuel19 + 1, t717, t9, t10, x18 => ((bif decide (t10 < (p.lots.length : Int)) then (some (decide (t10 < (counts.length : Int)))) else (some false))).bind (fun z20 => bif z20 then (((ltruly_l36 F p counts g t10 F t717 t9 (0 : Int) x18)).bind (fun z24 => ltruly_l19 F p counts g fuel19 z24.1 z24.2.1 (IntKind.i64.wrap (t10 + (1 : Int))) z24.2.2)) else (some (t717, x18)))
def ltruly_S (F : Nat) (p : Recipe) (counts : List Int) (g : Guess) : Option (Bool) := ((ltruly_l19 F p counts g F (0 : Int) (0 : Int) (0 : Int) (⟨0, 0, 0⟩ : Con3))).bind (fun z1 => ((bif decide (z1.1 < p.mass.lo) then (some true) else (some (decide (z1.1 > p.mass.hi))))).bind (fun z2 => bif z2 then (some false) else ((((bif decide ((IntKind.i64.wrap (z1.2.a * (1000000 : Int))) < (IntKind.i64.wrap (p.target.a.lo * z1.1))) then (some true) else (some (decide ((IntKind.i64.wrap (z1.2.a * (1000000 : Int))) > (IntKind.i64.wrap (p.target.a.hi * z1.1))))))).bind (fun z5 => bif z5 then (some (.inl false)) else (((bif decide ((IntKind.i64.wrap (z1.2.b * (1000000 : Int))) < (IntKind.i64.wrap (p.target.b.lo * z1.1))) then (some true) else (some (decide ((IntKind.i64.wrap (z1.2.b * (1000000 : Int))) > (IntKind.i64.wrap (p.target.b.hi * z1.1))))))).bind (fun z7 => bif z7 then (some (.inl false)) else (((bif decide ((IntKind.i64.wrap (z1.2.c * (1000000 : Int))) < (IntKind.i64.wrap (p.target.c.lo * z1.1))) then (some true) else (some (decide ((IntKind.i64.wrap (z1.2.c * (1000000 : Int))) > (IntKind.i64.wrap (p.target.c.hi * z1.1))))))).bind (fun z10 => bif z10 then (some (.inl false)) else (some (.inr ())))))))).bind (onSum (fun r => some r) (fun _ => some true)))))
set_option maxRecDepth 100000 in
set_option maxHeartbeats 4000000 in
theorem ltruly_w (F : Nat) (p : Recipe) (counts : List Int) (g : Guess) (a1 : Option Addr) (c1 : Nat) (a2 : Option Addr) (c2 : Nat) (a3 : Option Addr) (c3 : Nat) (a4 : Option Addr) (c4 : Nat) (w : World) (hs1 : Sl 9 Lot.cells w a1 c1 p.lots) (hs2 : Sl 1 intCells w a2 c2 counts) (hs3 : Sl 1 intCells w a3 c3 g.counts) (hs4 : Sl 3 Plc3.cells w a4 c4 g.places) (v : Bool) (h : ltruly_S F p counts g = some v) :
    Calls Try.prog 33 #[.agg #[.slice a1 p.lots.length c1, .int .i64 p.mass.lo, .int .i64 p.mass.hi, .int .i64 p.target.a.lo, .int .i64 p.target.a.hi, .int .i64 p.target.b.lo, .int .i64 p.target.b.hi, .int .i64 p.target.c.lo, .int .i64 p.target.c.hi], .slice a2 counts.length c2, .agg #[.slice a3 g.counts.length c3, .slice a4 g.places.length c4]] w (Ret (.bool v) w) := by
  rw [ltruly_S] at h
  refine At.enter Try.func33 rfl 134 [(0, .agg #[.slice a1 p.lots.length c1, .int .i64 p.mass.lo, .int .i64 p.mass.hi, .int .i64 p.target.a.lo, .int .i64 p.target.a.hi, .int .i64 p.target.b.lo, .int .i64 p.target.b.hi, .int .i64 p.target.c.lo, .int .i64 p.target.c.hi]), (1, .slice a2 counts.length c2), (2, .agg #[.slice a3 g.counts.length c3, .slice a4 g.places.length c4])] ([.sl a4 3 g.places.length (fun i_ => Plc3.cells (nth g.places Plc3.zero i_)), .sl a3 1 g.counts.length (fun i_ => intCells (nth g.counts 0 i_)), .sl a2 1 counts.length (fun i_ => intCells (nth counts 0 i_)), .sl a1 9 p.lots.length (fun i_ => Lot.cells (nth p.lots Lot.zero i_))]) [] (by kernel_rfl) ⟨rfl, rfl, rfl, trivial⟩ (Rep.sub (Rep.sl (Rep.sl (Rep.sl (Rep.sl (Rep.start w) Lot.zero hs1 (by simp [Ent.mut])) 0 hs2 (by simp [Ent.mut])) 0 hs3 (by simp [Ent.mut])) Plc3.zero hs4 (by simp [Ent.mut])) (by simp)) ?_
  refine At.seq ?_
  refine At.run [] [1, 3, 5] [true, true, true, true, true, true] (.normal) (fun B3 => [(1, .slice a2 counts.length c2), (3, .pointer (some ⟨B3, 0, none⟩)), (5, .pointer (some ⟨(B3 + 1), 0, none⟩))]) (fun B3 => [.sl a4 3 g.places.length (fun i_ => Plc3.cells (nth g.places Plc3.zero i_)), .sl a3 1 g.counts.length (fun i_ => intCells (nth g.counts 0 i_)), .sl a2 1 counts.length (fun i_ => intCells (nth counts 0 i_)), .sl a1 9 p.lots.length (fun i_ => Lot.cells (nth p.lots Lot.zero i_)), .blk B3 [.slice a1 p.lots.length c1, .int .i64 p.mass.lo, .int .i64 p.mass.hi, .int .i64 p.target.a.lo, .int .i64 p.target.a.hi, .int .i64 p.target.b.lo, .int .i64 p.target.b.hi, .int .i64 p.target.c.lo, .int .i64 p.target.c.hi] 28, .blk (B3 + 1) [.slice a3 g.counts.length c3, .slice a4 g.places.length c4] 70]) (fun B3 => []) (fun B3 => []) (fun B3 => by as_aux_lemma => kernel_rfl) (fun B3 => trivial) (fun B3 => ?_)
  refine Ends.seq ?_
  refine At.seq ?_
  refine At.run [(6, 0, 0), (6, 1, 0), (6, 2, 0)] [1, 3, 5, 7, 8, 9] [true, true, true, true, true, true, true] (.normal) (fun B6 => [(1, .slice a2 counts.length c2), (3, .pointer (some ⟨B3, 0, none⟩)), (5, .pointer (some ⟨(B3 + 1), 0, none⟩)), (7, .int .i64 0), (8, .pointer (some ⟨B6, 0, none⟩)), (9, .int .i64 0)]) (fun B6 => [.sl a4 3 g.places.length (fun i_ => Plc3.cells (nth g.places Plc3.zero i_)), .sl a3 1 g.counts.length (fun i_ => intCells (nth g.counts 0 i_)), .sl a2 1 counts.length (fun i_ => intCells (nth counts 0 i_)), .sl a1 9 p.lots.length (fun i_ => Lot.cells (nth p.lots Lot.zero i_)), .blk B3 [.slice a1 p.lots.length c1, .int .i64 p.mass.lo, .int .i64 p.mass.hi, .int .i64 p.target.a.lo, .int .i64 p.target.a.hi, .int .i64 p.target.b.lo, .int .i64 p.target.b.hi, .int .i64 p.target.c.lo, .int .i64 p.target.c.hi] 28, .blk (B3 + 1) [.slice a3 g.counts.length c3, .slice a4 g.places.length c4] 70, .blk B6 [.int .i64 0, .int .i64 0, .int .i64 0] 135]) (fun B6 => [B6, 0, B6, 1, B6, 2]) (fun B6 => []) (fun B6 => by as_aux_lemma => kernel_rfl) (fun B6 => trivial) (fun B6 => ?_)
  refine Ends.seq ?_
  obtain ⟨o1, h, hr1⟩ := bd h
  refine At.seq_mid (σ := Int × Con3) (fun s => o1 = (s.1, s.2)) (fun s => [(3, .pointer (some ⟨B3, 0, none⟩)), (7, .int .i64 s.1), (8, .pointer (some ⟨B6, 0, none⟩))]) (fun s => [.sl a1 9 p.lots.length (fun i_ => Lot.cells (nth p.lots Lot.zero i_)), .blk B3 [.slice a1 p.lots.length c1, .int .i64 p.mass.lo, .int .i64 p.mass.hi, .int .i64 p.target.a.lo, .int .i64 p.target.a.hi, .int .i64 p.target.b.lo, .int .i64 p.target.b.hi, .int .i64 p.target.c.lo, .int .i64 p.target.c.hi] 28, .blk B6 [.int .i64 s.2.a, .int .i64 s.2.b, .int .i64 s.2.c] 135]) ?_ (fun s hI => ?_)
  · refine At.seq ?_
    refine At.runR [] [1, 3, 5, 7, 8, 9, 10] [true, true, true, true, true, true, true] (.normal) ([(1, .slice a2 counts.length c2), (3, .pointer (some ⟨B3, 0, none⟩)), (5, .pointer (some ⟨(B3 + 1), 0, none⟩)), (7, .int .i64 0), (8, .pointer (some ⟨B6, 0, none⟩)), (9, .int .i64 0), (10, .int .i64 0)]) [] [] (fun _ => by as_aux_lemma => kernel_rfl) trivial ?_
    refine Ends.seq ?_
    refine At.block ?_
    refine At.loop (σ := Int × Int × Int × Con3) (fun n s => ltruly_l19 F p counts g n s.1 s.2.1 s.2.2.1 s.2.2.2 = some o1) (fun s => [(1, .slice a2 counts.length c2), (3, .pointer (some ⟨B3, 0, none⟩)), (5, .pointer (some ⟨(B3 + 1), 0, none⟩)), (7, .int .i64 s.1), (8, .pointer (some ⟨B6, 0, none⟩)), (9, .int .i64 s.2.1), (10, .int .i64 s.2.2.1)]) (fun s => [.sl a4 3 g.places.length (fun i_ => Plc3.cells (nth g.places Plc3.zero i_)), .sl a3 1 g.counts.length (fun i_ => intCells (nth g.counts 0 i_)), .sl a2 1 counts.length (fun i_ => intCells (nth counts 0 i_)), .sl a1 9 p.lots.length (fun i_ => Lot.cells (nth p.lots Lot.zero i_)), .blk B3 [.slice a1 p.lots.length c1, .int .i64 p.mass.lo, .int .i64 p.mass.hi, .int .i64 p.target.a.lo, .int .i64 p.target.a.hi, .int .i64 p.target.b.lo, .int .i64 p.target.b.hi, .int .i64 p.target.c.lo, .int .i64 p.target.c.hi] 28, .blk (B3 + 1) [.slice a3 g.counts.length c3, .slice a4 g.places.length c4] 70, .blk B6 [.int .i64 s.2.2.2.a, .int .i64 s.2.2.2.b, .int .i64 s.2.2.2.c] 135]) F ((0 : Int), (0 : Int), (0 : Int), (⟨0, 0, 0⟩ : Con3)) h (by kernel_rfl) (by kernel_rfl) (fun n s hI => ?_)
    obtain ⟨t717, t9, t10, x18⟩ := s
    replace hI : ltruly_l19 F p counts g n t717 t9 t10 x18 = some o1 := hI
    rcases n with _ | fuel19
    · cases hI
    · rw [ltruly_l19] at hI
      have h := hI
      clear hI
      refine At.seq ?_
      obtain ⟨o20, h, hr20⟩ := bd h
      refine At.seq_mid (σ := Bool) (fun s => o20 = s) (fun s => [(1, .slice a2 counts.length c2), (3, .pointer (some ⟨B3, 0, none⟩)), (5, .pointer (some ⟨(B3 + 1), 0, none⟩)), (7, .int .i64 t717), (8, .pointer (some ⟨B6, 0, none⟩)), (9, .int .i64 t9), (10, .int .i64 t10), (27, .bool s)]) (fun s => [.sl a4 3 g.places.length (fun i_ => Plc3.cells (nth g.places Plc3.zero i_)), .sl a3 1 g.counts.length (fun i_ => intCells (nth g.counts 0 i_)), .sl a2 1 counts.length (fun i_ => intCells (nth counts 0 i_)), .sl a1 9 p.lots.length (fun i_ => Lot.cells (nth p.lots Lot.zero i_)), .blk B3 [.slice a1 p.lots.length c1, .int .i64 p.mass.lo, .int .i64 p.mass.hi, .int .i64 p.target.a.lo, .int .i64 p.target.a.hi, .int .i64 p.target.b.lo, .int .i64 p.target.b.hi, .int .i64 p.target.c.lo, .int .i64 p.target.c.hi] 28, .blk (B3 + 1) [.slice a3 g.counts.length c3, .slice a4 g.places.length c4] 70, .blk B6 [.int .i64 x18.a, .int .i64 x18.b, .int .i64 x18.c] 135]) ?_ (fun s hI => ?_)
      · refine At.region ?_
        refine AtL.runR 6 [(4, 0, 0)] [1, 3, 5, 7, 8, 9, 10, 22] [true, true, true, true, true, true, true] ([(1, .slice a2 counts.length c2), (3, .pointer (some ⟨B3, 0, none⟩)), (5, .pointer (some ⟨(B3 + 1), 0, none⟩)), (7, .int .i64 t717), (8, .pointer (some ⟨B6, 0, none⟩)), (9, .int .i64 t9), (10, .int .i64 t10), (22, .bool (decide (t10 < (p.lots.length : Int))))]) [B3, 0] [] (fun _ => by as_aux_lemma => kernel_rfl) trivial ?_
        refine AtL.bool 22 (decide (t10 < (p.lots.length : Int))) (by kernel_rfl) (fun hc65 => ?_) (fun hc65 => ?_)
        · have h := br_t h hc65
          refine AtL.runR 5 [] [1, 3, 5, 7, 8, 9, 10, 27] [true, true, true, true, true, true, true] ([(1, .slice a2 counts.length c2), (3, .pointer (some ⟨B3, 0, none⟩)), (5, .pointer (some ⟨(B3 + 1), 0, none⟩)), (7, .int .i64 t717), (8, .pointer (some ⟨B6, 0, none⟩)), (9, .int .i64 t9), (10, .int .i64 t10), (27, .bool (decide (t10 < (counts.length : Int))))]) [] [] (fun _ => by as_aux_lemma => kernel_rfl) trivial ?_
          refine AtL.nil (by kernel_rfl) ?_
          exact Ends.mid (decide (t10 < (counts.length : Int))) (Option.some.inj h).symm (by kernel_rfl) (by kernel_rfl)
        · have h := br_f h hc65
          refine AtL.runR 5 [] [1, 3, 5, 7, 8, 9, 10, 27] [true, true, true, true, true, true, true] ([(1, .slice a2 counts.length c2), (3, .pointer (some ⟨B3, 0, none⟩)), (5, .pointer (some ⟨(B3 + 1), 0, none⟩)), (7, .int .i64 t717), (8, .pointer (some ⟨B6, 0, none⟩)), (9, .int .i64 t9), (10, .int .i64 t10), (27, .bool false)]) [] [] (fun _ => by as_aux_lemma => kernel_rfl) trivial ?_
          refine AtL.nil (by kernel_rfl) ?_
          exact Ends.mid false (Option.some.inj h).symm (by kernel_rfl) (by kernel_rfl)
      · revert hI; revert s; intro t27 hI
        replace hI : o20 = t27 := hI
        have h := hr20
        try rw [hI] at h
        refine At.cond (t27) (by kernel_rfl) (fun hc21 => ?_) (fun hc21 => ?_)
        · have h := br_t h hc21
          refine At.runR [] [1, 3, 5, 7, 8, 9, 10] [true, true, true, true, true, true, true] (.normal) ([(1, .slice a2 counts.length c2), (3, .pointer (some ⟨B3, 0, none⟩)), (5, .pointer (some ⟨(B3 + 1), 0, none⟩)), (7, .int .i64 t717), (8, .pointer (some ⟨B6, 0, none⟩)), (9, .int .i64 t9), (10, .int .i64 t10)]) [] [] (fun _ => by as_aux_lemma => kernel_rfl) trivial ?_
          refine Ends.seq ?_
          obtain ⟨o24, h, hr24⟩ := bd h
          refine At.seq_mid (σ := Int × Int × Con3) (fun s => o24 = (s.1, s.2.1, s.2.2)) (fun s => [(1, .slice a2 counts.length c2), (3, .pointer (some ⟨B3, 0, none⟩)), (5, .pointer (some ⟨(B3 + 1), 0, none⟩)), (7, .int .i64 s.1), (8, .pointer (some ⟨B6, 0, none⟩)), (9, .int .i64 s.2.1), (10, .int .i64 t10)]) (fun s => [.sl a4 3 g.places.length (fun i_ => Plc3.cells (nth g.places Plc3.zero i_)), .sl a3 1 g.counts.length (fun i_ => intCells (nth g.counts 0 i_)), .sl a2 1 counts.length (fun i_ => intCells (nth counts 0 i_)), .sl a1 9 p.lots.length (fun i_ => Lot.cells (nth p.lots Lot.zero i_)), .blk B3 [.slice a1 p.lots.length c1, .int .i64 p.mass.lo, .int .i64 p.mass.hi, .int .i64 p.target.a.lo, .int .i64 p.target.a.hi, .int .i64 p.target.b.lo, .int .i64 p.target.b.hi, .int .i64 p.target.c.lo, .int .i64 p.target.c.hi] 28, .blk (B3 + 1) [.slice a3 g.counts.length c3, .slice a4 g.places.length c4] 70, .blk B6 [.int .i64 s.2.2.a, .int .i64 s.2.2.b, .int .i64 s.2.2.c] 135]) ?_ (fun s hI => ?_)
          · refine At.block ?_
            refine At.seq ?_
            refine At.runR [] [1, 3, 5, 7, 8, 9, 10, 11] [true, true, true, true, true, true, true] (.normal) ([(1, .slice a2 counts.length c2), (3, .pointer (some ⟨B3, 0, none⟩)), (5, .pointer (some ⟨(B3 + 1), 0, none⟩)), (7, .int .i64 t717), (8, .pointer (some ⟨B6, 0, none⟩)), (9, .int .i64 t9), (10, .int .i64 t10), (11, .int .i64 0)]) [] [] (fun _ => by as_aux_lemma => kernel_rfl) trivial ?_
            refine Ends.seq ?_
            refine At.block ?_
            refine At.loop (σ := Int × Int × Int × Con3) (fun n s => ltruly_l36 F p counts g t10 n s.1 s.2.1 s.2.2.1 s.2.2.2 = some o24) (fun s => [(1, .slice a2 counts.length c2), (3, .pointer (some ⟨B3, 0, none⟩)), (5, .pointer (some ⟨(B3 + 1), 0, none⟩)), (7, .int .i64 s.1), (8, .pointer (some ⟨B6, 0, none⟩)), (9, .int .i64 s.2.1), (10, .int .i64 t10), (11, .int .i64 s.2.2.1)]) (fun s => [.sl a4 3 g.places.length (fun i_ => Plc3.cells (nth g.places Plc3.zero i_)), .sl a3 1 g.counts.length (fun i_ => intCells (nth g.counts 0 i_)), .sl a2 1 counts.length (fun i_ => intCells (nth counts 0 i_)), .sl a1 9 p.lots.length (fun i_ => Lot.cells (nth p.lots Lot.zero i_)), .blk B3 [.slice a1 p.lots.length c1, .int .i64 p.mass.lo, .int .i64 p.mass.hi, .int .i64 p.target.a.lo, .int .i64 p.target.a.hi, .int .i64 p.target.b.lo, .int .i64 p.target.b.hi, .int .i64 p.target.c.lo, .int .i64 p.target.c.hi] 28, .blk (B3 + 1) [.slice a3 g.counts.length c3, .slice a4 g.places.length c4] 70, .blk B6 [.int .i64 s.2.2.2.a, .int .i64 s.2.2.2.b, .int .i64 s.2.2.2.c] 135]) F (t717, t9, (0 : Int), x18) h (by kernel_rfl) (by kernel_rfl) (fun n s hI => ?_)
            obtain ⟨t733, t934, t11, x35⟩ := s
            replace hI : ltruly_l36 F p counts g t10 n t733 t934 t11 x35 = some o24 := hI
            rcases n with _ | fuel36
            · cases hI
            · rw [ltruly_l36] at hI
              have h := hI
              clear hI
              refine At.seq ?_
              refine At.seq ?_
              obtain ⟨g41, h⟩ := gd h
              refine At.runR [(2, 0, 0), (2, 0, t10.toNat)] [1, 3, 5, 7, 8, 9, 10, 11, 35] [true, true, true, true, true, true, true] (.normal) ([(1, .slice a2 counts.length c2), (3, .pointer (some ⟨B3, 0, none⟩)), (5, .pointer (some ⟨(B3 + 1), 0, none⟩)), (7, .int .i64 t733), (8, .pointer (some ⟨B6, 0, none⟩)), (9, .int .i64 t934), (10, .int .i64 t10), (11, .int .i64 t11), (35, .bool (decide (t11 < (nth counts 0 t10.toNat))))]) [slB a2, slO a2 + t10.toNat * 1 + 0] [IdxOk a2 a2 counts.length counts.length t10, t10.toNat < counts.length] (fun _ => by as_aux_lemma => kernel_rfl) ⟨inB_idx g41, inB_lt g41, trivial⟩ ?_
              refine Ends.seq ?_
              refine At.cond (decide (t11 < (nth counts 0 t10.toNat))) (by kernel_rfl) (fun hc42 => ?_) (fun hc42 => ?_)
              · have h := br_t h hc42
                refine At.runR [] [1, 3, 5, 7, 8, 9, 10, 11] [true, true, true, true, true, true, true] (.normal) ([(1, .slice a2 counts.length c2), (3, .pointer (some ⟨B3, 0, none⟩)), (5, .pointer (some ⟨(B3 + 1), 0, none⟩)), (7, .int .i64 t733), (8, .pointer (some ⟨B6, 0, none⟩)), (9, .int .i64 t934), (10, .int .i64 t10), (11, .int .i64 t11)]) [] [] (fun _ => by as_aux_lemma => kernel_rfl) trivial ?_
                refine Ends.seq ?_
                refine At.seq ?_
                refine At.block ?_
                refine At.seq ?_
                obtain ⟨g48, h⟩ := gd h
                refine At.runR [(4, 0, 0), (3, 0, 0), (3, 1, t10.toNat)] [1, 3, 5, 7, 8, 9, 10, 11] [true, true, true, true, true, true, true] (.normal) ([(1, .slice a2 counts.length c2), (3, .pointer (some ⟨B3, 0, none⟩)), (5, .pointer (some ⟨(B3 + 1), 0, none⟩)), (7, .int .i64 (IntKind.i64.wrap (t733 + ((nth p.lots Lot.zero t10.toNat).mass)))), (8, .pointer (some ⟨B6, 0, none⟩)), (9, .int .i64 t934), (10, .int .i64 t10), (11, .int .i64 t11)]) [B3, 0, slB a1, slO a1 + t10.toNat * 9 + 1] [IdxOk a1 a1 p.lots.length p.lots.length t10, t10.toNat < p.lots.length] (fun _ => by as_aux_lemma => kernel_rfl) ⟨inB_idx g48, inB_lt g48, trivial⟩ ?_
                refine Ends.seq ?_
                obtain ⟨o49, h, hr49⟩ := bd h
                refine At.seq_mid (σ := Con3) (fun s => o49 = s) (fun s => [(1, .slice a2 counts.length c2), (3, .pointer (some ⟨B3, 0, none⟩)), (5, .pointer (some ⟨(B3 + 1), 0, none⟩)), (7, .int .i64 (IntKind.i64.wrap (t733 + ((nth p.lots Lot.zero t10.toNat).mass)))), (8, .pointer (some ⟨B6, 0, none⟩)), (9, .int .i64 t934), (10, .int .i64 t10), (11, .int .i64 t11)]) (fun s => [.sl a4 3 g.places.length (fun i_ => Plc3.cells (nth g.places Plc3.zero i_)), .sl a3 1 g.counts.length (fun i_ => intCells (nth g.counts 0 i_)), .sl a2 1 counts.length (fun i_ => intCells (nth counts 0 i_)), .sl a1 9 p.lots.length (fun i_ => Lot.cells (nth p.lots Lot.zero i_)), .blk B3 [.slice a1 p.lots.length c1, .int .i64 p.mass.lo, .int .i64 p.mass.hi, .int .i64 p.target.a.lo, .int .i64 p.target.a.hi, .int .i64 p.target.b.lo, .int .i64 p.target.b.hi, .int .i64 p.target.c.lo, .int .i64 p.target.c.hi] 28, .blk (B3 + 1) [.slice a3 g.counts.length c3, .slice a4 g.places.length c4] 70, .blk B6 [.int .i64 s.a, .int .i64 s.b, .int .i64 s.c] 135]) ?_ (fun s hI => ?_)
                · refine At.seq ?_
                  refine At.runR [] [1, 3, 5, 7, 8, 9, 10, 11, 12] [true, true, true, true, true, true, true] (.normal) ([(1, .slice a2 counts.length c2), (3, .pointer (some ⟨B3, 0, none⟩)), (5, .pointer (some ⟨(B3 + 1), 0, none⟩)), (7, .int .i64 (IntKind.i64.wrap (t733 + ((nth p.lots Lot.zero t10.toNat).mass)))), (8, .pointer (some ⟨B6, 0, none⟩)), (9, .int .i64 t934), (10, .int .i64 t10), (11, .int .i64 t11), (12, .int .i64 0)]) [] [] (fun _ => by as_aux_lemma => kernel_rfl) trivial ?_
                  refine Ends.seq ?_
                  refine At.block ?_
                  refine At.unroll 13 ?_
                  refine AtR.succ ?_
                  refine At.seq ?_
                  refine At.runR [] [1, 3, 5, 7, 8, 9, 10, 11, 12] [true, true, true, true, true, true, true] (.normal) ([(1, .slice a2 counts.length c2), (3, .pointer (some ⟨B3, 0, none⟩)), (5, .pointer (some ⟨(B3 + 1), 0, none⟩)), (7, .int .i64 (IntKind.i64.wrap (t733 + ((nth p.lots Lot.zero t10.toNat).mass)))), (8, .pointer (some ⟨B6, 0, none⟩)), (9, .int .i64 t934), (10, .int .i64 t10), (11, .int .i64 t11), (12, .int .i64 0)]) [] [] (fun _ => by as_aux_lemma => kernel_rfl) trivial ?_
                  refine Ends.seq ?_
                  refine At.seq ?_
                  refine At.block ?_
                  refine At.seq ?_
                  refine At.run [(4, 0, 0), (3, 0, 0), (3, 2, t10.toNat), (3, 3, t10.toNat), (7, 0, 0), (7, 1, 0)] [1, 3, 5, 7, 8, 9, 10, 11, 12, 13, 14] [true, true, true, true, true, true, true, true] (.normal) (fun B139 => [(1, .slice a2 counts.length c2), (3, .pointer (some ⟨B3, 0, none⟩)), (5, .pointer (some ⟨(B3 + 1), 0, none⟩)), (7, .int .i64 (IntKind.i64.wrap (t733 + ((nth p.lots Lot.zero t10.toNat).mass)))), (8, .pointer (some ⟨B6, 0, none⟩)), (9, .int .i64 t934), (10, .int .i64 t10), (11, .int .i64 t11), (12, .int .i64 0), (13, .pointer (some ⟨B139, 0, none⟩)), (14, .int .i64 0)]) (fun B139 => [.sl a4 3 g.places.length (fun i_ => Plc3.cells (nth g.places Plc3.zero i_)), .sl a3 1 g.counts.length (fun i_ => intCells (nth g.counts 0 i_)), .sl a2 1 counts.length (fun i_ => intCells (nth counts 0 i_)), .sl a1 9 p.lots.length (fun i_ => Lot.cells (nth p.lots Lot.zero i_)), .blk B3 [.slice a1 p.lots.length c1, .int .i64 p.mass.lo, .int .i64 p.mass.hi, .int .i64 p.target.a.lo, .int .i64 p.target.a.hi, .int .i64 p.target.b.lo, .int .i64 p.target.b.hi, .int .i64 p.target.c.lo, .int .i64 p.target.c.hi] 28, .blk (B3 + 1) [.slice a3 g.counts.length c3, .slice a4 g.places.length c4] 70, .blk B6 [.int .i64 x35.a, .int .i64 x35.b, .int .i64 x35.c] 135, .blk B139 [.int .i64 ((((nth p.lots Lot.zero t10.toNat).con).a).lo), .int .i64 ((((nth p.lots Lot.zero t10.toNat).con).a).hi)] 24]) (fun B139 => [B3, 0, slB a1, slO a1 + t10.toNat * 9 + 2, slB a1, slO a1 + t10.toNat * 9 + 3, B139, 0, B139, 1]) (fun B139 => [IdxOk a1 a1 p.lots.length p.lots.length t10, t10.toNat < p.lots.length, t10.toNat < p.lots.length]) (fun B139 => by as_aux_lemma => kernel_rfl) (fun B139 => ⟨inB_idx g48, inB_lt g48, inB_lt g48, trivial⟩) (fun B139 => ?_)
                  refine Ends.seq ?_
                  obtain ⟨o51, h, hr51⟩ := bd h
                  refine At.seq_mid (σ := Int) (fun s => o51 = s) (fun s => [(1, .slice a2 counts.length c2), (3, .pointer (some ⟨B3, 0, none⟩)), (5, .pointer (some ⟨(B3 + 1), 0, none⟩)), (7, .int .i64 (IntKind.i64.wrap (t733 + ((nth p.lots Lot.zero t10.toNat).mass)))), (8, .pointer (some ⟨B6, 0, none⟩)), (9, .int .i64 t934), (10, .int .i64 t10), (11, .int .i64 t11), (12, .int .i64 0), (13, .pointer (some ⟨B139, 0, none⟩)), (14, .int .i64 s)]) (fun s => [.sl a4 3 g.places.length (fun i_ => Plc3.cells (nth g.places Plc3.zero i_)), .sl a3 1 g.counts.length (fun i_ => intCells (nth g.counts 0 i_)), .sl a2 1 counts.length (fun i_ => intCells (nth counts 0 i_)), .sl a1 9 p.lots.length (fun i_ => Lot.cells (nth p.lots Lot.zero i_)), .blk B3 [.slice a1 p.lots.length c1, .int .i64 p.mass.lo, .int .i64 p.mass.hi, .int .i64 p.target.a.lo, .int .i64 p.target.a.hi, .int .i64 p.target.b.lo, .int .i64 p.target.b.hi, .int .i64 p.target.c.lo, .int .i64 p.target.c.hi] 28, .blk (B3 + 1) [.slice a3 g.counts.length c3, .slice a4 g.places.length c4] 70, .blk B6 [.int .i64 x35.a, .int .i64 x35.b, .int .i64 x35.c] 135, .blk B139 [.int .i64 ((((nth p.lots Lot.zero t10.toNat).con).a).lo), .int .i64 ((((nth p.lots Lot.zero t10.toNat).con).a).hi)] 24]) ?_ (fun s hI => ?_)
                  · refine At.seq ?_
                    refine At.runR [(5, 1, 0)] [1, 3, 5, 7, 8, 9, 10, 11, 12, 13, 14, 61] [true, true, true, true, true, true, true, true] (.normal) ([(1, .slice a2 counts.length c2), (3, .pointer (some ⟨B3, 0, none⟩)), (5, .pointer (some ⟨(B3 + 1), 0, none⟩)), (7, .int .i64 (IntKind.i64.wrap (t733 + ((nth p.lots Lot.zero t10.toNat).mass)))), (8, .pointer (some ⟨B6, 0, none⟩)), (9, .int .i64 t934), (10, .int .i64 t10), (11, .int .i64 t11), (12, .int .i64 0), (13, .pointer (some ⟨B139, 0, none⟩)), (14, .int .i64 0), (61, .bool (decide ((g.places.length : Int) > (0 : Int))))]) [(B3 + 1), 1] [] (fun _ => by as_aux_lemma => kernel_rfl) trivial ?_
                    refine Ends.seq ?_
                    refine At.cond (decide ((g.places.length : Int) > (0 : Int))) (by kernel_rfl) (fun hc62 => ?_) (fun hc62 => ?_)
                    · have h := br_t h hc62
                      obtain ⟨g63, h⟩ := gd h
                      obtain ⟨g64, h⟩ := gd h
                      refine At.runR [(5, 1, 0), (5, 1, 0), (0, 0, 0), (0, 0, (t934.tmod (g.places.length : Int)).toNat)] [1, 3, 5, 7, 8, 9, 10, 11, 12, 13, 14] [true, true, true, true, true, true, true, true] (.normal) ([(1, .slice a2 counts.length c2), (3, .pointer (some ⟨B3, 0, none⟩)), (5, .pointer (some ⟨(B3 + 1), 0, none⟩)), (7, .int .i64 (IntKind.i64.wrap (t733 + ((nth p.lots Lot.zero t10.toNat).mass)))), (8, .pointer (some ⟨B6, 0, none⟩)), (9, .int .i64 t934), (10, .int .i64 t10), (11, .int .i64 t11), (12, .int .i64 0), (13, .pointer (some ⟨B139, 0, none⟩)), (14, .int .i64 (IntKind.i64.wrap ((nth g.places Plc3.zero (t934.tmod (g.places.length : Int)).toNat).a)))]) [(B3 + 1), 1, (B3 + 1), 1, slB a4, slO a4 + (t934.tmod (g.places.length : Int)).toNat * 3 + 0] [(g.places.length : Int) ≠ 0, IdxOk a4 a4 g.places.length g.places.length (t934.tmod (g.places.length : Int)), (t934.tmod (g.places.length : Int)).toNat < g.places.length] (fun _ => by as_aux_lemma => kernel_rfl) ⟨bne_ne g63, inB_idx g64, inB_lt g64, trivial⟩ ?_
                      exact Ends.mid (IntKind.i64.wrap ((nth g.places Plc3.zero (t934.tmod (g.places.length : Int)).toNat).a)) (Option.some.inj h).symm (by kernel_rfl) (by kernel_rfl)
                    · have h := br_f h hc62
                      refine At.runR [] [1, 3, 5, 7, 8, 9, 10, 11, 12, 13, 14] [true, true, true, true, true, true, true, true] (.normal) ([(1, .slice a2 counts.length c2), (3, .pointer (some ⟨B3, 0, none⟩)), (5, .pointer (some ⟨(B3 + 1), 0, none⟩)), (7, .int .i64 (IntKind.i64.wrap (t733 + ((nth p.lots Lot.zero t10.toNat).mass)))), (8, .pointer (some ⟨B6, 0, none⟩)), (9, .int .i64 t934), (10, .int .i64 t10), (11, .int .i64 t11), (12, .int .i64 0), (13, .pointer (some ⟨B139, 0, none⟩)), (14, .int .i64 0)]) [] [] (fun _ => by as_aux_lemma => kernel_rfl) trivial ?_
                      exact Ends.mid (0 : Int) (Option.some.inj h).symm (by kernel_rfl) (by kernel_rfl)
                  · revert hI; revert s; intro t14 hI
                    replace hI : o51 = t14 := hI
                    have h := hr51
                    try rw [hI] at h
                    refine At.run [(6, 0, 0), (7, 0, 0), (7, 1, 0), (7, 0, 0), (6, 0, 0)] [1, 3, 5, 7, 8, 9, 10, 11, 12] [true, true, true, true, true, true, true, false] (.normal) (fun B142 => [(1, .slice a2 counts.length c2), (3, .pointer (some ⟨B3, 0, none⟩)), (5, .pointer (some ⟨(B3 + 1), 0, none⟩)), (7, .int .i64 (IntKind.i64.wrap (t733 + ((nth p.lots Lot.zero t10.toNat).mass)))), (8, .pointer (some ⟨B6, 0, none⟩)), (9, .int .i64 t934), (10, .int .i64 t10), (11, .int .i64 t11), (12, .int .i64 0)]) (fun B142 => [.sl a4 3 g.places.length (fun i_ => Plc3.cells (nth g.places Plc3.zero i_)), .sl a3 1 g.counts.length (fun i_ => intCells (nth g.counts 0 i_)), .sl a2 1 counts.length (fun i_ => intCells (nth counts 0 i_)), .sl a1 9 p.lots.length (fun i_ => Lot.cells (nth p.lots Lot.zero i_)), .blk B3 [.slice a1 p.lots.length c1, .int .i64 p.mass.lo, .int .i64 p.mass.hi, .int .i64 p.target.a.lo, .int .i64 p.target.a.hi, .int .i64 p.target.b.lo, .int .i64 p.target.b.hi, .int .i64 p.target.c.lo, .int .i64 p.target.c.hi] 28, .blk (B3 + 1) [.slice a3 g.counts.length c3, .slice a4 g.places.length c4] 70, .blk B6 [.int .i64 (IntKind.i64.wrap (x35.a + (IntKind.i64.wrap (((((nth p.lots Lot.zero t10.toNat).con).a).lo) + (IntKind.i64.wrap ((IntKind.i64.wrap ((IntKind.i64.wrap (((((nth p.lots Lot.zero t10.toNat).con).a).hi) - ((((nth p.lots Lot.zero t10.toNat).con).a).lo))) * t14)).tdiv (255 : Int))))))), .int .i64 x35.b, .int .i64 x35.c] 135]) (fun B142 => [B6, 0, B139, 0, B139, 1, B139, 0, B6, 0]) (fun B142 => [(255 : Int) ≠ 0]) (fun B142 => by as_aux_lemma => kernel_rfl) (fun B142 => ⟨by decide, trivial⟩) (fun B142 => ?_)
                    refine Ends.block_normal ?_
                    refine Ends.seq ?_
                    refine At.runR [] [1, 3, 5, 7, 8, 9, 10, 11, 12] [true, true, true, true, true, true, true] (.normal) ([(1, .slice a2 counts.length c2), (3, .pointer (some ⟨B3, 0, none⟩)), (5, .pointer (some ⟨(B3 + 1), 0, none⟩)), (7, .int .i64 (IntKind.i64.wrap (t733 + ((nth p.lots Lot.zero t10.toNat).mass)))), (8, .pointer (some ⟨B6, 0, none⟩)), (9, .int .i64 t934), (10, .int .i64 t10), (11, .int .i64 t11), (12, .int .i64 1)]) [] [] (fun _ => by as_aux_lemma => kernel_rfl) trivial ?_
                    refine Ends.rounds ?_
                    refine AtR.succ ?_
                    refine At.seq ?_
                    refine At.runR [] [1, 3, 5, 7, 8, 9, 10, 11, 12] [true, true, true, true, true, true, true] (.normal) ([(1, .slice a2 counts.length c2), (3, .pointer (some ⟨B3, 0, none⟩)), (5, .pointer (some ⟨(B3 + 1), 0, none⟩)), (7, .int .i64 (IntKind.i64.wrap (t733 + ((nth p.lots Lot.zero t10.toNat).mass)))), (8, .pointer (some ⟨B6, 0, none⟩)), (9, .int .i64 t934), (10, .int .i64 t10), (11, .int .i64 t11), (12, .int .i64 1)]) [] [] (fun _ => by as_aux_lemma => kernel_rfl) trivial ?_
                    refine Ends.seq ?_
                    refine At.seq ?_
                    refine At.block ?_
                    refine At.seq ?_
                    refine At.run [(4, 0, 0), (3, 0, 0), (3, 4, t10.toNat), (3, 5, t10.toNat), (7, 0, 0), (7, 1, 0)] [1, 3, 5, 7, 8, 9, 10, 11, 12, 13, 14] [true, true, true, true, true, true, true, true] (.normal) (fun B152 => [(1, .slice a2 counts.length c2), (3, .pointer (some ⟨B3, 0, none⟩)), (5, .pointer (some ⟨(B3 + 1), 0, none⟩)), (7, .int .i64 (IntKind.i64.wrap (t733 + ((nth p.lots Lot.zero t10.toNat).mass)))), (8, .pointer (some ⟨B6, 0, none⟩)), (9, .int .i64 t934), (10, .int .i64 t10), (11, .int .i64 t11), (12, .int .i64 1), (13, .pointer (some ⟨B152, 0, none⟩)), (14, .int .i64 0)]) (fun B152 => [.sl a4 3 g.places.length (fun i_ => Plc3.cells (nth g.places Plc3.zero i_)), .sl a3 1 g.counts.length (fun i_ => intCells (nth g.counts 0 i_)), .sl a2 1 counts.length (fun i_ => intCells (nth counts 0 i_)), .sl a1 9 p.lots.length (fun i_ => Lot.cells (nth p.lots Lot.zero i_)), .blk B3 [.slice a1 p.lots.length c1, .int .i64 p.mass.lo, .int .i64 p.mass.hi, .int .i64 p.target.a.lo, .int .i64 p.target.a.hi, .int .i64 p.target.b.lo, .int .i64 p.target.b.hi, .int .i64 p.target.c.lo, .int .i64 p.target.c.hi] 28, .blk (B3 + 1) [.slice a3 g.counts.length c3, .slice a4 g.places.length c4] 70, .blk B6 [.int .i64 (IntKind.i64.wrap (x35.a + (IntKind.i64.wrap (((((nth p.lots Lot.zero t10.toNat).con).a).lo) + (IntKind.i64.wrap ((IntKind.i64.wrap ((IntKind.i64.wrap (((((nth p.lots Lot.zero t10.toNat).con).a).hi) - ((((nth p.lots Lot.zero t10.toNat).con).a).lo))) * t14)).tdiv (255 : Int))))))), .int .i64 x35.b, .int .i64 x35.c] 135, .blk B152 [.int .i64 ((((nth p.lots Lot.zero t10.toNat).con).b).lo), .int .i64 ((((nth p.lots Lot.zero t10.toNat).con).b).hi)] 24]) (fun B152 => [B3, 0, slB a1, slO a1 + t10.toNat * 9 + 4, slB a1, slO a1 + t10.toNat * 9 + 5, B152, 0, B152, 1]) (fun B152 => [IdxOk a1 a1 p.lots.length p.lots.length t10, t10.toNat < p.lots.length, t10.toNat < p.lots.length]) (fun B152 => by as_aux_lemma => kernel_rfl) (fun B152 => ⟨inB_idx g48, inB_lt g48, inB_lt g48, trivial⟩) (fun B152 => ?_)
                    refine Ends.seq ?_
                    obtain ⟨o52, h, hr52⟩ := bd h
                    refine At.seq_mid (σ := Int) (fun s => o52 = s) (fun s => [(1, .slice a2 counts.length c2), (3, .pointer (some ⟨B3, 0, none⟩)), (5, .pointer (some ⟨(B3 + 1), 0, none⟩)), (7, .int .i64 (IntKind.i64.wrap (t733 + ((nth p.lots Lot.zero t10.toNat).mass)))), (8, .pointer (some ⟨B6, 0, none⟩)), (9, .int .i64 t934), (10, .int .i64 t10), (11, .int .i64 t11), (12, .int .i64 1), (13, .pointer (some ⟨B152, 0, none⟩)), (14, .int .i64 s)]) (fun s => [.sl a4 3 g.places.length (fun i_ => Plc3.cells (nth g.places Plc3.zero i_)), .sl a3 1 g.counts.length (fun i_ => intCells (nth g.counts 0 i_)), .sl a2 1 counts.length (fun i_ => intCells (nth counts 0 i_)), .sl a1 9 p.lots.length (fun i_ => Lot.cells (nth p.lots Lot.zero i_)), .blk B3 [.slice a1 p.lots.length c1, .int .i64 p.mass.lo, .int .i64 p.mass.hi, .int .i64 p.target.a.lo, .int .i64 p.target.a.hi, .int .i64 p.target.b.lo, .int .i64 p.target.b.hi, .int .i64 p.target.c.lo, .int .i64 p.target.c.hi] 28, .blk (B3 + 1) [.slice a3 g.counts.length c3, .slice a4 g.places.length c4] 70, .blk B6 [.int .i64 (IntKind.i64.wrap (x35.a + (IntKind.i64.wrap (((((nth p.lots Lot.zero t10.toNat).con).a).lo) + (IntKind.i64.wrap ((IntKind.i64.wrap ((IntKind.i64.wrap (((((nth p.lots Lot.zero t10.toNat).con).a).hi) - ((((nth p.lots Lot.zero t10.toNat).con).a).lo))) * t14)).tdiv (255 : Int))))))), .int .i64 x35.b, .int .i64 x35.c] 135, .blk B152 [.int .i64 ((((nth p.lots Lot.zero t10.toNat).con).b).lo), .int .i64 ((((nth p.lots Lot.zero t10.toNat).con).b).hi)] 24]) ?_ (fun s hI => ?_)
                    · refine At.seq ?_
                      refine At.runR [(5, 1, 0)] [1, 3, 5, 7, 8, 9, 10, 11, 12, 13, 14, 61] [true, true, true, true, true, true, true, true] (.normal) ([(1, .slice a2 counts.length c2), (3, .pointer (some ⟨B3, 0, none⟩)), (5, .pointer (some ⟨(B3 + 1), 0, none⟩)), (7, .int .i64 (IntKind.i64.wrap (t733 + ((nth p.lots Lot.zero t10.toNat).mass)))), (8, .pointer (some ⟨B6, 0, none⟩)), (9, .int .i64 t934), (10, .int .i64 t10), (11, .int .i64 t11), (12, .int .i64 1), (13, .pointer (some ⟨B152, 0, none⟩)), (14, .int .i64 0), (61, .bool (decide ((g.places.length : Int) > (0 : Int))))]) [(B3 + 1), 1] [] (fun _ => by as_aux_lemma => kernel_rfl) trivial ?_
                      refine Ends.seq ?_
                      refine At.cond (decide ((g.places.length : Int) > (0 : Int))) (by kernel_rfl) (fun hc59 => ?_) (fun hc59 => ?_)
                      · have h := br_t h hc59
                        obtain ⟨g60, h⟩ := gd h
                        obtain ⟨g61, h⟩ := gd h
                        refine At.runR [(5, 1, 0), (5, 1, 0), (0, 0, 0), (0, 1, (t934.tmod (g.places.length : Int)).toNat)] [1, 3, 5, 7, 8, 9, 10, 11, 12, 13, 14] [true, true, true, true, true, true, true, true] (.normal) ([(1, .slice a2 counts.length c2), (3, .pointer (some ⟨B3, 0, none⟩)), (5, .pointer (some ⟨(B3 + 1), 0, none⟩)), (7, .int .i64 (IntKind.i64.wrap (t733 + ((nth p.lots Lot.zero t10.toNat).mass)))), (8, .pointer (some ⟨B6, 0, none⟩)), (9, .int .i64 t934), (10, .int .i64 t10), (11, .int .i64 t11), (12, .int .i64 1), (13, .pointer (some ⟨B152, 0, none⟩)), (14, .int .i64 (IntKind.i64.wrap ((nth g.places Plc3.zero (t934.tmod (g.places.length : Int)).toNat).b)))]) [(B3 + 1), 1, (B3 + 1), 1, slB a4, slO a4 + (t934.tmod (g.places.length : Int)).toNat * 3 + 1] [(g.places.length : Int) ≠ 0, IdxOk a4 a4 g.places.length g.places.length (t934.tmod (g.places.length : Int)), (t934.tmod (g.places.length : Int)).toNat < g.places.length] (fun _ => by as_aux_lemma => kernel_rfl) ⟨bne_ne g60, inB_idx g61, inB_lt g61, trivial⟩ ?_
                        exact Ends.mid (IntKind.i64.wrap ((nth g.places Plc3.zero (t934.tmod (g.places.length : Int)).toNat).b)) (Option.some.inj h).symm (by kernel_rfl) (by kernel_rfl)
                      · have h := br_f h hc59
                        refine At.runR [] [1, 3, 5, 7, 8, 9, 10, 11, 12, 13, 14] [true, true, true, true, true, true, true, true] (.normal) ([(1, .slice a2 counts.length c2), (3, .pointer (some ⟨B3, 0, none⟩)), (5, .pointer (some ⟨(B3 + 1), 0, none⟩)), (7, .int .i64 (IntKind.i64.wrap (t733 + ((nth p.lots Lot.zero t10.toNat).mass)))), (8, .pointer (some ⟨B6, 0, none⟩)), (9, .int .i64 t934), (10, .int .i64 t10), (11, .int .i64 t11), (12, .int .i64 1), (13, .pointer (some ⟨B152, 0, none⟩)), (14, .int .i64 0)]) [] [] (fun _ => by as_aux_lemma => kernel_rfl) trivial ?_
                        exact Ends.mid (0 : Int) (Option.some.inj h).symm (by kernel_rfl) (by kernel_rfl)
                    · revert hI; revert s; intro t1453 hI
                      replace hI : o52 = t1453 := hI
                      have h := hr52
                      try rw [hI] at h
                      refine At.run [(6, 1, 0), (7, 0, 0), (7, 1, 0), (7, 0, 0), (6, 1, 0)] [1, 3, 5, 7, 8, 9, 10, 11, 12] [true, true, true, true, true, true, true, false] (.normal) (fun B155 => [(1, .slice a2 counts.length c2), (3, .pointer (some ⟨B3, 0, none⟩)), (5, .pointer (some ⟨(B3 + 1), 0, none⟩)), (7, .int .i64 (IntKind.i64.wrap (t733 + ((nth p.lots Lot.zero t10.toNat).mass)))), (8, .pointer (some ⟨B6, 0, none⟩)), (9, .int .i64 t934), (10, .int .i64 t10), (11, .int .i64 t11), (12, .int .i64 1)]) (fun B155 => [.sl a4 3 g.places.length (fun i_ => Plc3.cells (nth g.places Plc3.zero i_)), .sl a3 1 g.counts.length (fun i_ => intCells (nth g.counts 0 i_)), .sl a2 1 counts.length (fun i_ => intCells (nth counts 0 i_)), .sl a1 9 p.lots.length (fun i_ => Lot.cells (nth p.lots Lot.zero i_)), .blk B3 [.slice a1 p.lots.length c1, .int .i64 p.mass.lo, .int .i64 p.mass.hi, .int .i64 p.target.a.lo, .int .i64 p.target.a.hi, .int .i64 p.target.b.lo, .int .i64 p.target.b.hi, .int .i64 p.target.c.lo, .int .i64 p.target.c.hi] 28, .blk (B3 + 1) [.slice a3 g.counts.length c3, .slice a4 g.places.length c4] 70, .blk B6 [.int .i64 (IntKind.i64.wrap (x35.a + (IntKind.i64.wrap (((((nth p.lots Lot.zero t10.toNat).con).a).lo) + (IntKind.i64.wrap ((IntKind.i64.wrap ((IntKind.i64.wrap (((((nth p.lots Lot.zero t10.toNat).con).a).hi) - ((((nth p.lots Lot.zero t10.toNat).con).a).lo))) * t14)).tdiv (255 : Int))))))), .int .i64 (IntKind.i64.wrap (x35.b + (IntKind.i64.wrap (((((nth p.lots Lot.zero t10.toNat).con).b).lo) + (IntKind.i64.wrap ((IntKind.i64.wrap ((IntKind.i64.wrap (((((nth p.lots Lot.zero t10.toNat).con).b).hi) - ((((nth p.lots Lot.zero t10.toNat).con).b).lo))) * t1453)).tdiv (255 : Int))))))), .int .i64 x35.c] 135]) (fun B155 => [B6, 1, B152, 0, B152, 1, B152, 0, B6, 1]) (fun B155 => [(255 : Int) ≠ 0]) (fun B155 => by as_aux_lemma => kernel_rfl) (fun B155 => ⟨by decide, trivial⟩) (fun B155 => ?_)
                      refine Ends.block_normal ?_
                      refine Ends.seq ?_
                      refine At.runR [] [1, 3, 5, 7, 8, 9, 10, 11, 12] [true, true, true, true, true, true, true] (.normal) ([(1, .slice a2 counts.length c2), (3, .pointer (some ⟨B3, 0, none⟩)), (5, .pointer (some ⟨(B3 + 1), 0, none⟩)), (7, .int .i64 (IntKind.i64.wrap (t733 + ((nth p.lots Lot.zero t10.toNat).mass)))), (8, .pointer (some ⟨B6, 0, none⟩)), (9, .int .i64 t934), (10, .int .i64 t10), (11, .int .i64 t11), (12, .int .i64 2)]) [] [] (fun _ => by as_aux_lemma => kernel_rfl) trivial ?_
                      refine Ends.rounds ?_
                      refine AtR.succ ?_
                      refine At.seq ?_
                      refine At.runR [] [1, 3, 5, 7, 8, 9, 10, 11, 12] [true, true, true, true, true, true, true] (.normal) ([(1, .slice a2 counts.length c2), (3, .pointer (some ⟨B3, 0, none⟩)), (5, .pointer (some ⟨(B3 + 1), 0, none⟩)), (7, .int .i64 (IntKind.i64.wrap (t733 + ((nth p.lots Lot.zero t10.toNat).mass)))), (8, .pointer (some ⟨B6, 0, none⟩)), (9, .int .i64 t934), (10, .int .i64 t10), (11, .int .i64 t11), (12, .int .i64 2)]) [] [] (fun _ => by as_aux_lemma => kernel_rfl) trivial ?_
                      refine Ends.seq ?_
                      refine At.seq ?_
                      refine At.block ?_
                      refine At.seq ?_
                      refine At.run [(4, 0, 0), (3, 0, 0), (3, 6, t10.toNat), (3, 7, t10.toNat), (7, 0, 0), (7, 1, 0)] [1, 3, 5, 7, 8, 9, 10, 11, 12, 13, 14] [true, true, true, true, true, true, true, true] (.normal) (fun B165 => [(1, .slice a2 counts.length c2), (3, .pointer (some ⟨B3, 0, none⟩)), (5, .pointer (some ⟨(B3 + 1), 0, none⟩)), (7, .int .i64 (IntKind.i64.wrap (t733 + ((nth p.lots Lot.zero t10.toNat).mass)))), (8, .pointer (some ⟨B6, 0, none⟩)), (9, .int .i64 t934), (10, .int .i64 t10), (11, .int .i64 t11), (12, .int .i64 2), (13, .pointer (some ⟨B165, 0, none⟩)), (14, .int .i64 0)]) (fun B165 => [.sl a4 3 g.places.length (fun i_ => Plc3.cells (nth g.places Plc3.zero i_)), .sl a3 1 g.counts.length (fun i_ => intCells (nth g.counts 0 i_)), .sl a2 1 counts.length (fun i_ => intCells (nth counts 0 i_)), .sl a1 9 p.lots.length (fun i_ => Lot.cells (nth p.lots Lot.zero i_)), .blk B3 [.slice a1 p.lots.length c1, .int .i64 p.mass.lo, .int .i64 p.mass.hi, .int .i64 p.target.a.lo, .int .i64 p.target.a.hi, .int .i64 p.target.b.lo, .int .i64 p.target.b.hi, .int .i64 p.target.c.lo, .int .i64 p.target.c.hi] 28, .blk (B3 + 1) [.slice a3 g.counts.length c3, .slice a4 g.places.length c4] 70, .blk B6 [.int .i64 (IntKind.i64.wrap (x35.a + (IntKind.i64.wrap (((((nth p.lots Lot.zero t10.toNat).con).a).lo) + (IntKind.i64.wrap ((IntKind.i64.wrap ((IntKind.i64.wrap (((((nth p.lots Lot.zero t10.toNat).con).a).hi) - ((((nth p.lots Lot.zero t10.toNat).con).a).lo))) * t14)).tdiv (255 : Int))))))), .int .i64 (IntKind.i64.wrap (x35.b + (IntKind.i64.wrap (((((nth p.lots Lot.zero t10.toNat).con).b).lo) + (IntKind.i64.wrap ((IntKind.i64.wrap ((IntKind.i64.wrap (((((nth p.lots Lot.zero t10.toNat).con).b).hi) - ((((nth p.lots Lot.zero t10.toNat).con).b).lo))) * t1453)).tdiv (255 : Int))))))), .int .i64 x35.c] 135, .blk B165 [.int .i64 ((((nth p.lots Lot.zero t10.toNat).con).c).lo), .int .i64 ((((nth p.lots Lot.zero t10.toNat).con).c).hi)] 24]) (fun B165 => [B3, 0, slB a1, slO a1 + t10.toNat * 9 + 6, slB a1, slO a1 + t10.toNat * 9 + 7, B165, 0, B165, 1]) (fun B165 => [IdxOk a1 a1 p.lots.length p.lots.length t10, t10.toNat < p.lots.length, t10.toNat < p.lots.length]) (fun B165 => by as_aux_lemma => kernel_rfl) (fun B165 => ⟨inB_idx g48, inB_lt g48, inB_lt g48, trivial⟩) (fun B165 => ?_)
                      refine Ends.seq ?_
                      obtain ⟨o54, h, hr54⟩ := bd h
                      refine At.seq_mid (σ := Int) (fun s => o54 = s) (fun s => [(1, .slice a2 counts.length c2), (3, .pointer (some ⟨B3, 0, none⟩)), (5, .pointer (some ⟨(B3 + 1), 0, none⟩)), (7, .int .i64 (IntKind.i64.wrap (t733 + ((nth p.lots Lot.zero t10.toNat).mass)))), (8, .pointer (some ⟨B6, 0, none⟩)), (9, .int .i64 t934), (10, .int .i64 t10), (11, .int .i64 t11), (12, .int .i64 2), (13, .pointer (some ⟨B165, 0, none⟩)), (14, .int .i64 s)]) (fun s => [.sl a4 3 g.places.length (fun i_ => Plc3.cells (nth g.places Plc3.zero i_)), .sl a3 1 g.counts.length (fun i_ => intCells (nth g.counts 0 i_)), .sl a2 1 counts.length (fun i_ => intCells (nth counts 0 i_)), .sl a1 9 p.lots.length (fun i_ => Lot.cells (nth p.lots Lot.zero i_)), .blk B3 [.slice a1 p.lots.length c1, .int .i64 p.mass.lo, .int .i64 p.mass.hi, .int .i64 p.target.a.lo, .int .i64 p.target.a.hi, .int .i64 p.target.b.lo, .int .i64 p.target.b.hi, .int .i64 p.target.c.lo, .int .i64 p.target.c.hi] 28, .blk (B3 + 1) [.slice a3 g.counts.length c3, .slice a4 g.places.length c4] 70, .blk B6 [.int .i64 (IntKind.i64.wrap (x35.a + (IntKind.i64.wrap (((((nth p.lots Lot.zero t10.toNat).con).a).lo) + (IntKind.i64.wrap ((IntKind.i64.wrap ((IntKind.i64.wrap (((((nth p.lots Lot.zero t10.toNat).con).a).hi) - ((((nth p.lots Lot.zero t10.toNat).con).a).lo))) * t14)).tdiv (255 : Int))))))), .int .i64 (IntKind.i64.wrap (x35.b + (IntKind.i64.wrap (((((nth p.lots Lot.zero t10.toNat).con).b).lo) + (IntKind.i64.wrap ((IntKind.i64.wrap ((IntKind.i64.wrap (((((nth p.lots Lot.zero t10.toNat).con).b).hi) - ((((nth p.lots Lot.zero t10.toNat).con).b).lo))) * t1453)).tdiv (255 : Int))))))), .int .i64 x35.c] 135, .blk B165 [.int .i64 ((((nth p.lots Lot.zero t10.toNat).con).c).lo), .int .i64 ((((nth p.lots Lot.zero t10.toNat).con).c).hi)] 24]) ?_ (fun s hI => ?_)
                      · refine At.seq ?_
                        refine At.runR [(5, 1, 0)] [1, 3, 5, 7, 8, 9, 10, 11, 12, 13, 14, 61] [true, true, true, true, true, true, true, true] (.normal) ([(1, .slice a2 counts.length c2), (3, .pointer (some ⟨B3, 0, none⟩)), (5, .pointer (some ⟨(B3 + 1), 0, none⟩)), (7, .int .i64 (IntKind.i64.wrap (t733 + ((nth p.lots Lot.zero t10.toNat).mass)))), (8, .pointer (some ⟨B6, 0, none⟩)), (9, .int .i64 t934), (10, .int .i64 t10), (11, .int .i64 t11), (12, .int .i64 2), (13, .pointer (some ⟨B165, 0, none⟩)), (14, .int .i64 0), (61, .bool (decide ((g.places.length : Int) > (0 : Int))))]) [(B3 + 1), 1] [] (fun _ => by as_aux_lemma => kernel_rfl) trivial ?_
                        refine Ends.seq ?_
                        refine At.cond (decide ((g.places.length : Int) > (0 : Int))) (by kernel_rfl) (fun hc56 => ?_) (fun hc56 => ?_)
                        · have h := br_t h hc56
                          obtain ⟨g57, h⟩ := gd h
                          obtain ⟨g58, h⟩ := gd h
                          refine At.runR [(5, 1, 0), (5, 1, 0), (0, 0, 0), (0, 2, (t934.tmod (g.places.length : Int)).toNat)] [1, 3, 5, 7, 8, 9, 10, 11, 12, 13, 14] [true, true, true, true, true, true, true, true] (.normal) ([(1, .slice a2 counts.length c2), (3, .pointer (some ⟨B3, 0, none⟩)), (5, .pointer (some ⟨(B3 + 1), 0, none⟩)), (7, .int .i64 (IntKind.i64.wrap (t733 + ((nth p.lots Lot.zero t10.toNat).mass)))), (8, .pointer (some ⟨B6, 0, none⟩)), (9, .int .i64 t934), (10, .int .i64 t10), (11, .int .i64 t11), (12, .int .i64 2), (13, .pointer (some ⟨B165, 0, none⟩)), (14, .int .i64 (IntKind.i64.wrap ((nth g.places Plc3.zero (t934.tmod (g.places.length : Int)).toNat).c)))]) [(B3 + 1), 1, (B3 + 1), 1, slB a4, slO a4 + (t934.tmod (g.places.length : Int)).toNat * 3 + 2] [(g.places.length : Int) ≠ 0, IdxOk a4 a4 g.places.length g.places.length (t934.tmod (g.places.length : Int)), (t934.tmod (g.places.length : Int)).toNat < g.places.length] (fun _ => by as_aux_lemma => kernel_rfl) ⟨bne_ne g57, inB_idx g58, inB_lt g58, trivial⟩ ?_
                          exact Ends.mid (IntKind.i64.wrap ((nth g.places Plc3.zero (t934.tmod (g.places.length : Int)).toNat).c)) (Option.some.inj h).symm (by kernel_rfl) (by kernel_rfl)
                        · have h := br_f h hc56
                          refine At.runR [] [1, 3, 5, 7, 8, 9, 10, 11, 12, 13, 14] [true, true, true, true, true, true, true, true] (.normal) ([(1, .slice a2 counts.length c2), (3, .pointer (some ⟨B3, 0, none⟩)), (5, .pointer (some ⟨(B3 + 1), 0, none⟩)), (7, .int .i64 (IntKind.i64.wrap (t733 + ((nth p.lots Lot.zero t10.toNat).mass)))), (8, .pointer (some ⟨B6, 0, none⟩)), (9, .int .i64 t934), (10, .int .i64 t10), (11, .int .i64 t11), (12, .int .i64 2), (13, .pointer (some ⟨B165, 0, none⟩)), (14, .int .i64 0)]) [] [] (fun _ => by as_aux_lemma => kernel_rfl) trivial ?_
                          exact Ends.mid (0 : Int) (Option.some.inj h).symm (by kernel_rfl) (by kernel_rfl)
                      · revert hI; revert s; intro t1455 hI
                        replace hI : o54 = t1455 := hI
                        have h := hr54
                        try rw [hI] at h
                        refine At.run [(6, 2, 0), (7, 0, 0), (7, 1, 0), (7, 0, 0), (6, 2, 0)] [1, 3, 5, 7, 8, 9, 10, 11, 12] [true, true, true, true, true, true, true, false] (.normal) (fun B168 => [(1, .slice a2 counts.length c2), (3, .pointer (some ⟨B3, 0, none⟩)), (5, .pointer (some ⟨(B3 + 1), 0, none⟩)), (7, .int .i64 (IntKind.i64.wrap (t733 + ((nth p.lots Lot.zero t10.toNat).mass)))), (8, .pointer (some ⟨B6, 0, none⟩)), (9, .int .i64 t934), (10, .int .i64 t10), (11, .int .i64 t11), (12, .int .i64 2)]) (fun B168 => [.sl a4 3 g.places.length (fun i_ => Plc3.cells (nth g.places Plc3.zero i_)), .sl a3 1 g.counts.length (fun i_ => intCells (nth g.counts 0 i_)), .sl a2 1 counts.length (fun i_ => intCells (nth counts 0 i_)), .sl a1 9 p.lots.length (fun i_ => Lot.cells (nth p.lots Lot.zero i_)), .blk B3 [.slice a1 p.lots.length c1, .int .i64 p.mass.lo, .int .i64 p.mass.hi, .int .i64 p.target.a.lo, .int .i64 p.target.a.hi, .int .i64 p.target.b.lo, .int .i64 p.target.b.hi, .int .i64 p.target.c.lo, .int .i64 p.target.c.hi] 28, .blk (B3 + 1) [.slice a3 g.counts.length c3, .slice a4 g.places.length c4] 70, .blk B6 [.int .i64 (IntKind.i64.wrap (x35.a + (IntKind.i64.wrap (((((nth p.lots Lot.zero t10.toNat).con).a).lo) + (IntKind.i64.wrap ((IntKind.i64.wrap ((IntKind.i64.wrap (((((nth p.lots Lot.zero t10.toNat).con).a).hi) - ((((nth p.lots Lot.zero t10.toNat).con).a).lo))) * t14)).tdiv (255 : Int))))))), .int .i64 (IntKind.i64.wrap (x35.b + (IntKind.i64.wrap (((((nth p.lots Lot.zero t10.toNat).con).b).lo) + (IntKind.i64.wrap ((IntKind.i64.wrap ((IntKind.i64.wrap (((((nth p.lots Lot.zero t10.toNat).con).b).hi) - ((((nth p.lots Lot.zero t10.toNat).con).b).lo))) * t1453)).tdiv (255 : Int))))))), .int .i64 (IntKind.i64.wrap (x35.c + (IntKind.i64.wrap (((((nth p.lots Lot.zero t10.toNat).con).c).lo) + (IntKind.i64.wrap ((IntKind.i64.wrap ((IntKind.i64.wrap (((((nth p.lots Lot.zero t10.toNat).con).c).hi) - ((((nth p.lots Lot.zero t10.toNat).con).c).lo))) * t1455)).tdiv (255 : Int)))))))] 135]) (fun B168 => [B6, 2, B165, 0, B165, 1, B165, 0, B6, 2]) (fun B168 => [(255 : Int) ≠ 0]) (fun B168 => by as_aux_lemma => kernel_rfl) (fun B168 => ⟨by decide, trivial⟩) (fun B168 => ?_)
                        refine Ends.block_normal ?_
                        refine Ends.seq ?_
                        refine At.runR [] [1, 3, 5, 7, 8, 9, 10, 11, 12] [true, true, true, true, true, true, true] (.normal) ([(1, .slice a2 counts.length c2), (3, .pointer (some ⟨B3, 0, none⟩)), (5, .pointer (some ⟨(B3 + 1), 0, none⟩)), (7, .int .i64 (IntKind.i64.wrap (t733 + ((nth p.lots Lot.zero t10.toNat).mass)))), (8, .pointer (some ⟨B6, 0, none⟩)), (9, .int .i64 t934), (10, .int .i64 t10), (11, .int .i64 t11), (12, .int .i64 3)]) [] [] (fun _ => by as_aux_lemma => kernel_rfl) trivial ?_
                        refine Ends.rounds ?_
                        refine AtR.succ ?_
                        refine At.runR [] [1, 3, 5, 7, 8, 9, 10, 11] [true, true, true, true, true, true, true] (.exit 4) ([(1, .slice a2 counts.length c2), (3, .pointer (some ⟨B3, 0, none⟩)), (5, .pointer (some ⟨(B3 + 1), 0, none⟩)), (7, .int .i64 (IntKind.i64.wrap (t733 + ((nth p.lots Lot.zero t10.toNat).mass)))), (8, .pointer (some ⟨B6, 0, none⟩)), (9, .int .i64 t934), (10, .int .i64 t10), (11, .int .i64 t11)]) [] [] (fun _ => by as_aux_lemma => kernel_rfl) trivial ?_
                        refine Ends.then_exit ?_
                        refine Ends.block_hit ?_
                        exact Ends.mid (⟨IntKind.i64.wrap (x35.a + (IntKind.i64.wrap (((((nth p.lots Lot.zero t10.toNat).con).a).lo) + (IntKind.i64.wrap ((IntKind.i64.wrap ((IntKind.i64.wrap (((((nth p.lots Lot.zero t10.toNat).con).a).hi) - ((((nth p.lots Lot.zero t10.toNat).con).a).lo))) * t14)).tdiv (255 : Int)))))), IntKind.i64.wrap (x35.b + (IntKind.i64.wrap (((((nth p.lots Lot.zero t10.toNat).con).b).lo) + (IntKind.i64.wrap ((IntKind.i64.wrap ((IntKind.i64.wrap (((((nth p.lots Lot.zero t10.toNat).con).b).hi) - ((((nth p.lots Lot.zero t10.toNat).con).b).lo))) * t1453)).tdiv (255 : Int)))))), IntKind.i64.wrap (x35.c + (IntKind.i64.wrap (((((nth p.lots Lot.zero t10.toNat).con).c).lo) + (IntKind.i64.wrap ((IntKind.i64.wrap ((IntKind.i64.wrap (((((nth p.lots Lot.zero t10.toNat).con).c).hi) - ((((nth p.lots Lot.zero t10.toNat).con).c).lo))) * t1455)).tdiv (255 : Int))))))⟩ : Con3) (Option.some.inj h).symm (by kernel_rfl) (by kernel_rfl)
                · revert hI; revert s; intro x50 hI
                  replace hI : o49 = x50 := hI
                  have h := hr49
                  try rw [hI] at h
                  refine At.runR [] [1, 3, 5, 7, 8, 9, 10, 11] [true, true, true, true, true, true, true] (.normal) ([(1, .slice a2 counts.length c2), (3, .pointer (some ⟨B3, 0, none⟩)), (5, .pointer (some ⟨(B3 + 1), 0, none⟩)), (7, .int .i64 (IntKind.i64.wrap (t733 + ((nth p.lots Lot.zero t10.toNat).mass)))), (8, .pointer (some ⟨B6, 0, none⟩)), (9, .int .i64 (IntKind.i64.wrap (t934 + (1 : Int)))), (10, .int .i64 t10), (11, .int .i64 t11)]) [] [] (fun _ => by as_aux_lemma => kernel_rfl) trivial ?_
                  refine Ends.block_normal ?_
                  refine Ends.seq ?_
                  refine At.runR [] [1, 3, 5, 7, 8, 9, 10, 11] [true, true, true, true, true, true, true] (.normal) ([(1, .slice a2 counts.length c2), (3, .pointer (some ⟨B3, 0, none⟩)), (5, .pointer (some ⟨(B3 + 1), 0, none⟩)), (7, .int .i64 (IntKind.i64.wrap (t733 + ((nth p.lots Lot.zero t10.toNat).mass)))), (8, .pointer (some ⟨B6, 0, none⟩)), (9, .int .i64 (IntKind.i64.wrap (t934 + (1 : Int)))), (10, .int .i64 t10), (11, .int .i64 (IntKind.i64.wrap (t11 + (1 : Int))))]) [] [] (fun _ => by as_aux_lemma => kernel_rfl) trivial ?_
                  exact Ends.round fuel36 ((IntKind.i64.wrap (t733 + ((nth p.lots Lot.zero t10.toNat).mass))), (IntKind.i64.wrap (t934 + (1 : Int))), (IntKind.i64.wrap (t11 + (1 : Int))), x50) (Nat.lt_succ_self _) h (by kernel_rfl) (by kernel_rfl)
              · have h := br_f h hc42
                refine At.runR [] [1, 3, 5, 7, 8, 9, 10] [true, true, true, true, true, true, true] (.exit 2) ([(1, .slice a2 counts.length c2), (3, .pointer (some ⟨B3, 0, none⟩)), (5, .pointer (some ⟨(B3 + 1), 0, none⟩)), (7, .int .i64 t733), (8, .pointer (some ⟨B6, 0, none⟩)), (9, .int .i64 t934), (10, .int .i64 t10)]) [] [] (fun _ => by as_aux_lemma => kernel_rfl) trivial ?_
                refine Ends.then_exit ?_
                refine Ends.then_exit ?_
                refine Ends.block_hit ?_
                refine Ends.block_normal ?_
                exact Ends.mid (t733, t934, x35) (Option.some.inj h).symm (by kernel_rfl) (by kernel_rfl)
          · obtain ⟨t725, t926, x27⟩ := s
            replace hI : o24 = (t725, t926, x27) := hI
            have h := hr24
            try rw [hI] at h
            refine At.runR [] [1, 3, 5, 7, 8, 9, 10] [true, true, true, true, true, true, true] (.normal) ([(1, .slice a2 counts.length c2), (3, .pointer (some ⟨B3, 0, none⟩)), (5, .pointer (some ⟨(B3 + 1), 0, none⟩)), (7, .int .i64 t725), (8, .pointer (some ⟨B6, 0, none⟩)), (9, .int .i64 t926), (10, .int .i64 (IntKind.i64.wrap (t10 + (1 : Int))))]) [] [] (fun _ => by as_aux_lemma => kernel_rfl) trivial ?_
            exact Ends.round fuel19 (t725, t926, (IntKind.i64.wrap (t10 + (1 : Int))), x27) (Nat.lt_succ_self _) h (by kernel_rfl) (by kernel_rfl)
        · have h := br_f h hc21
          refine At.runR [] [3, 7, 8] [true, true, true, true, true, true, true] (.exit 0) ([(3, .pointer (some ⟨B3, 0, none⟩)), (7, .int .i64 t717), (8, .pointer (some ⟨B6, 0, none⟩))]) [] [] (fun _ => by as_aux_lemma => kernel_rfl) trivial ?_
          refine Ends.then_exit ?_
          refine Ends.then_exit ?_
          refine Ends.block_hit ?_
          refine Ends.sel [3, 7, 8] [3, 4, 6] ([(3, .pointer (some ⟨B3, 0, none⟩)), (7, .int .i64 t717), (8, .pointer (some ⟨B6, 0, none⟩))]) ([.sl a1 9 p.lots.length (fun i_ => Lot.cells (nth p.lots Lot.zero i_)), .blk B3 [.slice a1 p.lots.length c1, .int .i64 p.mass.lo, .int .i64 p.mass.hi, .int .i64 p.target.a.lo, .int .i64 p.target.a.hi, .int .i64 p.target.b.lo, .int .i64 p.target.b.hi, .int .i64 p.target.c.lo, .int .i64 p.target.c.hi] 28, .blk B6 [.int .i64 x18.a, .int .i64 x18.b, .int .i64 x18.c] 135]) (by kernel_rfl) (by kernel_rfl) (by kernel_rfl) ?_
          exact Ends.mid (t717, x18) (Option.some.inj h).symm (by kernel_rfl) (by kernel_rfl)
  · obtain ⟨t7, x⟩ := s
    replace hI : o1 = (t7, x) := hI
    have h := hr1
    try rw [hI] at h
    refine At.seq ?_
    obtain ⟨o2, h, hr2⟩ := bd h
    refine At.seq_mid (σ := Bool) (fun s => o2 = s) (fun s => [(3, .pointer (some ⟨B3, 0, none⟩)), (7, .int .i64 t7), (8, .pointer (some ⟨B6, 0, none⟩)), (103, .bool s)]) (fun s => [.sl a1 9 p.lots.length (fun i_ => Lot.cells (nth p.lots Lot.zero i_)), .blk B3 [.slice a1 p.lots.length c1, .int .i64 p.mass.lo, .int .i64 p.mass.hi, .int .i64 p.target.a.lo, .int .i64 p.target.a.hi, .int .i64 p.target.b.lo, .int .i64 p.target.b.hi, .int .i64 p.target.c.lo, .int .i64 p.target.c.hi] 28, .blk B6 [.int .i64 x.a, .int .i64 x.b, .int .i64 x.c] 135]) ?_ (fun s hI => ?_)
    · refine At.region ?_
      refine AtL.runR 6 [(1, 1, 0)] [3, 7, 8, 97] [true, true, true] ([(3, .pointer (some ⟨B3, 0, none⟩)), (7, .int .i64 t7), (8, .pointer (some ⟨B6, 0, none⟩)), (97, .bool (decide (t7 < p.mass.lo)))]) [B3, 1] [] (fun _ => by as_aux_lemma => kernel_rfl) trivial ?_
      refine AtL.bool 97 (decide (t7 < p.mass.lo)) (by kernel_rfl) (fun hc16 => ?_) (fun hc16 => ?_)
      · have h := br_t h hc16
        refine AtL.runR 6 [] [3, 7, 8, 103] [true, true, true] ([(3, .pointer (some ⟨B3, 0, none⟩)), (7, .int .i64 t7), (8, .pointer (some ⟨B6, 0, none⟩)), (103, .bool true)]) [] [] (fun _ => by as_aux_lemma => kernel_rfl) trivial ?_
        refine AtL.nil (by kernel_rfl) ?_
        exact Ends.mid true (Option.some.inj h).symm (by kernel_rfl) (by kernel_rfl)
      · have h := br_f h hc16
        refine AtL.runR 6 [(1, 2, 0)] [3, 7, 8, 103] [true, true, true] ([(3, .pointer (some ⟨B3, 0, none⟩)), (7, .int .i64 t7), (8, .pointer (some ⟨B6, 0, none⟩)), (103, .bool (decide (t7 > p.mass.hi)))]) [B3, 2] [] (fun _ => by as_aux_lemma => kernel_rfl) trivial ?_
        refine AtL.nil (by kernel_rfl) ?_
        exact Ends.mid (decide (t7 > p.mass.hi)) (Option.some.inj h).symm (by kernel_rfl) (by kernel_rfl)
    · revert hI; revert s; intro t103 hI
      replace hI : o2 = t103 := hI
      have h := hr2
      try rw [hI] at h
      refine At.cond (t103) (by kernel_rfl) (fun hc3 => ?_) (fun hc3 => ?_)
      · have h := br_t h hc3
        refine At.runR [] [6] [true, true, true] (.ret) ([(6, .bool false)]) [] [] (fun _ => by as_aux_lemma => kernel_rfl) trivial ?_
        refine Ends.then_ret ?_
        refine Ends.body [] (.bool false) [] (by kernel_rfl) (fun w9 hRep => ?_)
        obtain rfl := Option.some.inj h
        exact ⟨rfl, hRep.ext⟩
      · have h := br_f h hc3
        refine At.runR [] [3, 7, 8] [true, true, true] (.normal) ([(3, .pointer (some ⟨B3, 0, none⟩)), (7, .int .i64 t7), (8, .pointer (some ⟨B6, 0, none⟩))]) [] [] (fun _ => by as_aux_lemma => kernel_rfl) trivial ?_
        refine Ends.seq ?_
        obtain ⟨o4, h, hr4⟩ := bd h
        refine At.seq_mid (σ := Unit) (fun s => o4 = (.inr ())) (fun s => []) (fun s => []) ?_ (fun s hI => ?_)
        · refine At.seq ?_
          refine At.runR [] [3, 7, 8, 15] [true, true, true] (.normal) ([(3, .pointer (some ⟨B3, 0, none⟩)), (7, .int .i64 t7), (8, .pointer (some ⟨B6, 0, none⟩)), (15, .int .i64 0)]) [] [] (fun _ => by as_aux_lemma => kernel_rfl) trivial ?_
          refine Ends.seq ?_
          refine At.block ?_
          refine At.unroll 13 ?_
          refine AtR.succ ?_
          refine At.seq ?_
          refine At.runR [] [3, 7, 8, 15] [true, true, true] (.normal) ([(3, .pointer (some ⟨B3, 0, none⟩)), (7, .int .i64 t7), (8, .pointer (some ⟨B6, 0, none⟩)), (15, .int .i64 0)]) [] [] (fun _ => by as_aux_lemma => kernel_rfl) trivial ?_
          refine Ends.seq ?_
          refine At.seq ?_
          refine At.block ?_
          obtain ⟨o5, h, hr5⟩ := bd h
          refine At.seq_mid (σ := Bool) (fun s => o5 = s) (fun s => [(3, .pointer (some ⟨B3, 0, none⟩)), (7, .int .i64 t7), (8, .pointer (some ⟨B6, 0, none⟩)), (15, .int .i64 0), (133, .bool s)]) (fun s => [.sl a1 9 p.lots.length (fun i_ => Lot.cells (nth p.lots Lot.zero i_)), .blk B3 [.slice a1 p.lots.length c1, .int .i64 p.mass.lo, .int .i64 p.mass.hi, .int .i64 p.target.a.lo, .int .i64 p.target.a.hi, .int .i64 p.target.b.lo, .int .i64 p.target.b.hi, .int .i64 p.target.c.lo, .int .i64 p.target.c.hi] 28, .blk B6 [.int .i64 x.a, .int .i64 x.b, .int .i64 x.c] 135]) ?_ (fun s hI => ?_)
          · refine At.plan ([.sl a1 9 p.lots.length (fun i_ => Lot.cells (nth p.lots Lot.zero i_)), .blk B3 [.slice a1 p.lots.length c1, .int .i64 p.mass.lo, .int .i64 p.mass.hi, .int .i64 p.target.a.lo, .int .i64 p.target.a.hi, .int .i64 p.target.b.lo, .int .i64 p.target.b.hi, .int .i64 p.target.c.lo, .int .i64 p.target.c.hi] 28, .blk B6 [.int .i64 x.a, .int .i64 x.b, .int .i64 x.c] 135]) [0, 1, 2] (by kernel_rfl) (by kernel_rfl) [.st [0, 1, 2, 3, 4, 5, 6, 7, 8, 9, 10, 11, 12, 13, 14, 15, 16, 17, 18, 19, 20, 21, 22, 23, 24, 25]] (by kernel_rfl) (by kernel_rfl) ?_
            refine AtP.st ?_
            refine AtY.run 13 [(2, 0, 0), (1, 3, 0)] [3, 7, 8, 15, 120] ([(3, .pointer (some ⟨B3, 0, none⟩)), (7, .int .i64 t7), (8, .pointer (some ⟨B6, 0, none⟩)), (15, .int .i64 0), (120, .bool (decide ((IntKind.i64.wrap (x.a * (1000000 : Int))) < (IntKind.i64.wrap (p.target.a.lo * t7)))))]) [B6, 0, B3, 3] [] (by as_aux_lemma => kernel_rfl) trivial ?_
            refine AtY.bool 120 (decide ((IntKind.i64.wrap (x.a * (1000000 : Int))) < (IntKind.i64.wrap (p.target.a.lo * t7)))) (by kernel_rfl) (fun hc15 => ?_) (fun hc15 => ?_)
            · have h := br_t h hc15
              refine AtY.run 13 [] [3, 7, 8, 15, 133] ([(3, .pointer (some ⟨B3, 0, none⟩)), (7, .int .i64 t7), (8, .pointer (some ⟨B6, 0, none⟩)), (15, .int .i64 0), (133, .bool true)]) [] [] (by as_aux_lemma => kernel_rfl) trivial ?_
              refine AtY.nil (by kernel_rfl) ?_
              refine AtP.nil ?_
              exact Ends.mid true (Option.some.inj h).symm (by kernel_rfl) (by kernel_rfl)
            · have h := br_f h hc15
              refine AtY.run 13 [(2, 0, 0), (1, 4, 0)] [3, 7, 8, 15, 133] ([(3, .pointer (some ⟨B3, 0, none⟩)), (7, .int .i64 t7), (8, .pointer (some ⟨B6, 0, none⟩)), (15, .int .i64 0), (133, .bool (decide ((IntKind.i64.wrap (x.a * (1000000 : Int))) > (IntKind.i64.wrap (p.target.a.hi * t7)))))]) [B6, 0, B3, 4] [] (by as_aux_lemma => kernel_rfl) trivial ?_
              refine AtY.nil (by kernel_rfl) ?_
              refine AtP.nil ?_
              exact Ends.mid (decide ((IntKind.i64.wrap (x.a * (1000000 : Int))) > (IntKind.i64.wrap (p.target.a.hi * t7)))) (Option.some.inj h).symm (by kernel_rfl) (by kernel_rfl)
          · revert hI; revert s; intro t133 hI
            replace hI : o5 = t133 := hI
            have h := hr5
            try rw [hI] at h
            refine At.cond (t133) (by kernel_rfl) (fun hc6 => ?_) (fun hc6 => ?_)
            · have h := br_t h hc6
              refine At.runR [] [6] [true, true, true] (.ret) ([(6, .bool false)]) [] [] (fun _ => by as_aux_lemma => kernel_rfl) trivial ?_
              refine Ends.block_ret ?_
              refine Ends.then_ret ?_
              refine Ends.then_ret ?_
              refine Ends.block_ret ?_
              refine Ends.then_ret ?_
              obtain rfl := Option.some.inj h
              have h := hr4
              refine Ends.body [] (.bool false) [] (by kernel_rfl) (fun w9 hRep => ?_)
              obtain rfl := Option.some.inj h
              exact ⟨rfl, hRep.ext⟩
            · have h := br_f h hc6
              refine At.runR [] [3, 7, 8, 15] [true, true, true] (.normal) ([(3, .pointer (some ⟨B3, 0, none⟩)), (7, .int .i64 t7), (8, .pointer (some ⟨B6, 0, none⟩)), (15, .int .i64 0)]) [] [] (fun _ => by as_aux_lemma => kernel_rfl) trivial ?_
              refine Ends.block_normal ?_
              refine Ends.seq ?_
              refine At.runR [] [3, 7, 8, 15] [true, true, true] (.normal) ([(3, .pointer (some ⟨B3, 0, none⟩)), (7, .int .i64 t7), (8, .pointer (some ⟨B6, 0, none⟩)), (15, .int .i64 1)]) [] [] (fun _ => by as_aux_lemma => kernel_rfl) trivial ?_
              refine Ends.rounds ?_
              refine AtR.succ ?_
              refine At.seq ?_
              refine At.runR [] [3, 7, 8, 15] [true, true, true] (.normal) ([(3, .pointer (some ⟨B3, 0, none⟩)), (7, .int .i64 t7), (8, .pointer (some ⟨B6, 0, none⟩)), (15, .int .i64 1)]) [] [] (fun _ => by as_aux_lemma => kernel_rfl) trivial ?_
              refine Ends.seq ?_
              refine At.seq ?_
              refine At.block ?_
              obtain ⟨o7, h, hr7⟩ := bd h
              refine At.seq_mid (σ := Bool) (fun s => o7 = s) (fun s => [(3, .pointer (some ⟨B3, 0, none⟩)), (7, .int .i64 t7), (8, .pointer (some ⟨B6, 0, none⟩)), (15, .int .i64 1), (133, .bool s)]) (fun s => [.sl a1 9 p.lots.length (fun i_ => Lot.cells (nth p.lots Lot.zero i_)), .blk B3 [.slice a1 p.lots.length c1, .int .i64 p.mass.lo, .int .i64 p.mass.hi, .int .i64 p.target.a.lo, .int .i64 p.target.a.hi, .int .i64 p.target.b.lo, .int .i64 p.target.b.hi, .int .i64 p.target.c.lo, .int .i64 p.target.c.hi] 28, .blk B6 [.int .i64 x.a, .int .i64 x.b, .int .i64 x.c] 135]) ?_ (fun s hI => ?_)
              · refine At.plan ([.sl a1 9 p.lots.length (fun i_ => Lot.cells (nth p.lots Lot.zero i_)), .blk B3 [.slice a1 p.lots.length c1, .int .i64 p.mass.lo, .int .i64 p.mass.hi, .int .i64 p.target.a.lo, .int .i64 p.target.a.hi, .int .i64 p.target.b.lo, .int .i64 p.target.b.hi, .int .i64 p.target.c.lo, .int .i64 p.target.c.hi] 28, .blk B6 [.int .i64 x.a, .int .i64 x.b, .int .i64 x.c] 135]) [0, 1, 2] (by kernel_rfl) (by kernel_rfl) [.st [0, 1, 2, 3, 4, 5, 6, 7, 8, 9, 10, 11, 12, 13, 14, 15, 16, 17, 18, 19, 20, 21, 22, 23, 24, 25]] (by kernel_rfl) (by kernel_rfl) ?_
                refine AtP.st ?_
                refine AtY.run 13 [(2, 1, 0), (1, 5, 0)] [3, 7, 8, 15, 120] ([(3, .pointer (some ⟨B3, 0, none⟩)), (7, .int .i64 t7), (8, .pointer (some ⟨B6, 0, none⟩)), (15, .int .i64 1), (120, .bool (decide ((IntKind.i64.wrap (x.b * (1000000 : Int))) < (IntKind.i64.wrap (p.target.b.lo * t7)))))]) [B6, 1, B3, 5] [] (by as_aux_lemma => kernel_rfl) trivial ?_
                refine AtY.bool 120 (decide ((IntKind.i64.wrap (x.b * (1000000 : Int))) < (IntKind.i64.wrap (p.target.b.lo * t7)))) (by kernel_rfl) (fun hc14 => ?_) (fun hc14 => ?_)
                · have h := br_t h hc14
                  refine AtY.run 13 [] [3, 7, 8, 15, 133] ([(3, .pointer (some ⟨B3, 0, none⟩)), (7, .int .i64 t7), (8, .pointer (some ⟨B6, 0, none⟩)), (15, .int .i64 1), (133, .bool true)]) [] [] (by as_aux_lemma => kernel_rfl) trivial ?_
                  refine AtY.nil (by kernel_rfl) ?_
                  refine AtP.nil ?_
                  exact Ends.mid true (Option.some.inj h).symm (by kernel_rfl) (by kernel_rfl)
                · have h := br_f h hc14
                  refine AtY.run 13 [(2, 1, 0), (1, 6, 0)] [3, 7, 8, 15, 133] ([(3, .pointer (some ⟨B3, 0, none⟩)), (7, .int .i64 t7), (8, .pointer (some ⟨B6, 0, none⟩)), (15, .int .i64 1), (133, .bool (decide ((IntKind.i64.wrap (x.b * (1000000 : Int))) > (IntKind.i64.wrap (p.target.b.hi * t7)))))]) [B6, 1, B3, 6] [] (by as_aux_lemma => kernel_rfl) trivial ?_
                  refine AtY.nil (by kernel_rfl) ?_
                  refine AtP.nil ?_
                  exact Ends.mid (decide ((IntKind.i64.wrap (x.b * (1000000 : Int))) > (IntKind.i64.wrap (p.target.b.hi * t7)))) (Option.some.inj h).symm (by kernel_rfl) (by kernel_rfl)
              · revert hI; revert s; intro t1338 hI
                replace hI : o7 = t1338 := hI
                have h := hr7
                try rw [hI] at h
                refine At.cond (t1338) (by kernel_rfl) (fun hc9 => ?_) (fun hc9 => ?_)
                · have h := br_t h hc9
                  refine At.runR [] [6] [true, true, true] (.ret) ([(6, .bool false)]) [] [] (fun _ => by as_aux_lemma => kernel_rfl) trivial ?_
                  refine Ends.block_ret ?_
                  refine Ends.then_ret ?_
                  refine Ends.then_ret ?_
                  refine Ends.block_ret ?_
                  refine Ends.then_ret ?_
                  obtain rfl := Option.some.inj h
                  have h := hr4
                  refine Ends.body [] (.bool false) [] (by kernel_rfl) (fun w9 hRep => ?_)
                  obtain rfl := Option.some.inj h
                  exact ⟨rfl, hRep.ext⟩
                · have h := br_f h hc9
                  refine At.runR [] [3, 7, 8, 15] [true, true, true] (.normal) ([(3, .pointer (some ⟨B3, 0, none⟩)), (7, .int .i64 t7), (8, .pointer (some ⟨B6, 0, none⟩)), (15, .int .i64 1)]) [] [] (fun _ => by as_aux_lemma => kernel_rfl) trivial ?_
                  refine Ends.block_normal ?_
                  refine Ends.seq ?_
                  refine At.runR [] [3, 7, 8, 15] [true, true, true] (.normal) ([(3, .pointer (some ⟨B3, 0, none⟩)), (7, .int .i64 t7), (8, .pointer (some ⟨B6, 0, none⟩)), (15, .int .i64 2)]) [] [] (fun _ => by as_aux_lemma => kernel_rfl) trivial ?_
                  refine Ends.rounds ?_
                  refine AtR.succ ?_
                  refine At.seq ?_
                  refine At.runR [] [3, 7, 8, 15] [true, true, true] (.normal) ([(3, .pointer (some ⟨B3, 0, none⟩)), (7, .int .i64 t7), (8, .pointer (some ⟨B6, 0, none⟩)), (15, .int .i64 2)]) [] [] (fun _ => by as_aux_lemma => kernel_rfl) trivial ?_
                  refine Ends.seq ?_
                  refine At.seq ?_
                  refine At.block ?_
                  obtain ⟨o10, h, hr10⟩ := bd h
                  refine At.seq_mid (σ := Bool) (fun s => o10 = s) (fun s => [(3, .pointer (some ⟨B3, 0, none⟩)), (7, .int .i64 t7), (8, .pointer (some ⟨B6, 0, none⟩)), (15, .int .i64 2), (133, .bool s)]) (fun s => [.sl a1 9 p.lots.length (fun i_ => Lot.cells (nth p.lots Lot.zero i_)), .blk B3 [.slice a1 p.lots.length c1, .int .i64 p.mass.lo, .int .i64 p.mass.hi, .int .i64 p.target.a.lo, .int .i64 p.target.a.hi, .int .i64 p.target.b.lo, .int .i64 p.target.b.hi, .int .i64 p.target.c.lo, .int .i64 p.target.c.hi] 28, .blk B6 [.int .i64 x.a, .int .i64 x.b, .int .i64 x.c] 135]) ?_ (fun s hI => ?_)
                  · refine At.plan ([.sl a1 9 p.lots.length (fun i_ => Lot.cells (nth p.lots Lot.zero i_)), .blk B3 [.slice a1 p.lots.length c1, .int .i64 p.mass.lo, .int .i64 p.mass.hi, .int .i64 p.target.a.lo, .int .i64 p.target.a.hi, .int .i64 p.target.b.lo, .int .i64 p.target.b.hi, .int .i64 p.target.c.lo, .int .i64 p.target.c.hi] 28, .blk B6 [.int .i64 x.a, .int .i64 x.b, .int .i64 x.c] 135]) [0, 1, 2] (by kernel_rfl) (by kernel_rfl) [.st [0, 1, 2, 3, 4, 5, 6, 7, 8, 9, 10, 11, 12, 13, 14, 15, 16, 17, 18, 19, 20, 21, 22, 23, 24, 25]] (by kernel_rfl) (by kernel_rfl) ?_
                    refine AtP.st ?_
                    refine AtY.run 13 [(2, 2, 0), (1, 7, 0)] [3, 7, 8, 15, 120] ([(3, .pointer (some ⟨B3, 0, none⟩)), (7, .int .i64 t7), (8, .pointer (some ⟨B6, 0, none⟩)), (15, .int .i64 2), (120, .bool (decide ((IntKind.i64.wrap (x.c * (1000000 : Int))) < (IntKind.i64.wrap (p.target.c.lo * t7)))))]) [B6, 2, B3, 7] [] (by as_aux_lemma => kernel_rfl) trivial ?_
                    refine AtY.bool 120 (decide ((IntKind.i64.wrap (x.c * (1000000 : Int))) < (IntKind.i64.wrap (p.target.c.lo * t7)))) (by kernel_rfl) (fun hc13 => ?_) (fun hc13 => ?_)
                    · have h := br_t h hc13
                      refine AtY.run 13 [] [3, 7, 8, 15, 133] ([(3, .pointer (some ⟨B3, 0, none⟩)), (7, .int .i64 t7), (8, .pointer (some ⟨B6, 0, none⟩)), (15, .int .i64 2), (133, .bool true)]) [] [] (by as_aux_lemma => kernel_rfl) trivial ?_
                      refine AtY.nil (by kernel_rfl) ?_
                      refine AtP.nil ?_
                      exact Ends.mid true (Option.some.inj h).symm (by kernel_rfl) (by kernel_rfl)
                    · have h := br_f h hc13
                      refine AtY.run 13 [(2, 2, 0), (1, 8, 0)] [3, 7, 8, 15, 133] ([(3, .pointer (some ⟨B3, 0, none⟩)), (7, .int .i64 t7), (8, .pointer (some ⟨B6, 0, none⟩)), (15, .int .i64 2), (133, .bool (decide ((IntKind.i64.wrap (x.c * (1000000 : Int))) > (IntKind.i64.wrap (p.target.c.hi * t7)))))]) [B6, 2, B3, 8] [] (by as_aux_lemma => kernel_rfl) trivial ?_
                      refine AtY.nil (by kernel_rfl) ?_
                      refine AtP.nil ?_
                      exact Ends.mid (decide ((IntKind.i64.wrap (x.c * (1000000 : Int))) > (IntKind.i64.wrap (p.target.c.hi * t7)))) (Option.some.inj h).symm (by kernel_rfl) (by kernel_rfl)
                  · revert hI; revert s; intro t13311 hI
                    replace hI : o10 = t13311 := hI
                    have h := hr10
                    try rw [hI] at h
                    refine At.cond (t13311) (by kernel_rfl) (fun hc12 => ?_) (fun hc12 => ?_)
                    · have h := br_t h hc12
                      refine At.runR [] [6] [true, true, true] (.ret) ([(6, .bool false)]) [] [] (fun _ => by as_aux_lemma => kernel_rfl) trivial ?_
                      refine Ends.block_ret ?_
                      refine Ends.then_ret ?_
                      refine Ends.then_ret ?_
                      refine Ends.block_ret ?_
                      refine Ends.then_ret ?_
                      obtain rfl := Option.some.inj h
                      have h := hr4
                      refine Ends.body [] (.bool false) [] (by kernel_rfl) (fun w9 hRep => ?_)
                      obtain rfl := Option.some.inj h
                      exact ⟨rfl, hRep.ext⟩
                    · have h := br_f h hc12
                      refine At.runR [] [3, 7, 8, 15] [true, true, true] (.normal) ([(3, .pointer (some ⟨B3, 0, none⟩)), (7, .int .i64 t7), (8, .pointer (some ⟨B6, 0, none⟩)), (15, .int .i64 2)]) [] [] (fun _ => by as_aux_lemma => kernel_rfl) trivial ?_
                      refine Ends.block_normal ?_
                      refine Ends.seq ?_
                      refine At.runR [] [3, 7, 8, 15] [true, true, true] (.normal) ([(3, .pointer (some ⟨B3, 0, none⟩)), (7, .int .i64 t7), (8, .pointer (some ⟨B6, 0, none⟩)), (15, .int .i64 3)]) [] [] (fun _ => by as_aux_lemma => kernel_rfl) trivial ?_
                      refine Ends.rounds ?_
                      refine AtR.succ ?_
                      refine At.runR [] [] [true, true, true] (.exit 6) ([]) [] [] (fun _ => by as_aux_lemma => kernel_rfl) trivial ?_
                      refine Ends.then_exit ?_
                      refine Ends.block_hit ?_
                      refine Ends.sel [] [] ([]) ([]) (by kernel_rfl) (by kernel_rfl) (by kernel_rfl) ?_
                      exact Ends.mid () (Option.some.inj h).symm (by kernel_rfl) (by kernel_rfl)
        · replace hI : o4 = (.inr ()) := hI
          have h := hr4
          try rw [hI] at h
          refine At.runR [] [6] [] (.ret) ([(6, .bool true)]) [] [] (fun _ => by as_aux_lemma => kernel_rfl) trivial ?_
          refine Ends.body [] (.bool true) [] (by kernel_rfl) (fun w9 hRep => ?_)
          obtain rfl := Option.some.inj h
          exact ⟨rfl, hRep.ext⟩
def lcost_l3 (F : Nat) (p : Recipe) (counts : List Int) : Nat → Int → Int → Option (Int)
  | 0, _, _ => none
  | fuel3 + 1, n_2, i => ((bif decide (i < (p.lots.length : Int)) then (some (decide (i < (counts.length : Int)))) else (some false))).bind (fun z4 => bif z4 then (bif inB i counts.length then (bif inB i p.lots.length then (lcost_l3 F p counts fuel3 (IntKind.i64.wrap (n_2 + (IntKind.i64.wrap ((nth counts 0 i.toNat) * ((nth p.lots Lot.zero i.toNat).cost))))) (IntKind.i64.wrap (i + (1 : Int)))) else none) else none) else (some n_2))
def lcost_S (F : Nat) (p : Recipe) (counts : List Int) : Option (Int) := ((lcost_l3 F p counts F (0 : Int) (0 : Int))).bind (fun z1 => some z1)
set_option maxRecDepth 100000 in
set_option maxHeartbeats 4000000 in
theorem lcost_w (F : Nat) (p : Recipe) (counts : List Int) (a1 : Option Addr) (c1 : Nat) (a2 : Option Addr) (c2 : Nat) (w : World) (hs1 : Sl 9 Lot.cells w a1 c1 p.lots) (hs2 : Sl 1 intCells w a2 c2 counts) (v : Int) (h : lcost_S F p counts = some v) :
    Calls Try.prog 35 #[.agg #[.slice a1 p.lots.length c1, .int .i64 p.mass.lo, .int .i64 p.mass.hi, .int .i64 p.target.a.lo, .int .i64 p.target.a.hi, .int .i64 p.target.b.lo, .int .i64 p.target.b.hi, .int .i64 p.target.c.lo, .int .i64 p.target.c.hi], .slice a2 counts.length c2] w (Ret (.int .i64 v) w) := by
  rw [lcost_S] at h
  refine At.enter Try.func35 rfl 34 [(0, .agg #[.slice a1 p.lots.length c1, .int .i64 p.mass.lo, .int .i64 p.mass.hi, .int .i64 p.target.a.lo, .int .i64 p.target.a.hi, .int .i64 p.target.b.lo, .int .i64 p.target.b.hi, .int .i64 p.target.c.lo, .int .i64 p.target.c.hi]), (1, .slice a2 counts.length c2)] ([.sl a2 1 counts.length (fun i_ => intCells (nth counts 0 i_)), .sl a1 9 p.lots.length (fun i_ => Lot.cells (nth p.lots Lot.zero i_))]) [] (by kernel_rfl) ⟨rfl, rfl, trivial⟩ (Rep.sub (Rep.sl (Rep.sl (Rep.start w) Lot.zero hs1 (by simp [Ent.mut])) 0 hs2 (by simp [Ent.mut])) (by simp)) ?_
  refine At.seq ?_
  refine At.run [] [1, 2] [true, true, true] (.normal) (fun B3 => [(1, .slice a2 counts.length c2), (2, .pointer (some ⟨B3, 0, none⟩))]) (fun B3 => [.sl a2 1 counts.length (fun i_ => intCells (nth counts 0 i_)), .sl a1 9 p.lots.length (fun i_ => Lot.cells (nth p.lots Lot.zero i_)), .blk B3 [.slice a1 p.lots.length c1, .int .i64 p.mass.lo, .int .i64 p.mass.hi, .int .i64 p.target.a.lo, .int .i64 p.target.a.hi, .int .i64 p.target.b.lo, .int .i64 p.target.b.hi, .int .i64 p.target.c.lo, .int .i64 p.target.c.hi] 28]) (fun B3 => []) (fun B3 => []) (fun B3 => by as_aux_lemma => kernel_rfl) (fun B3 => trivial) (fun B3 => ?_)
  refine Ends.seq ?_
  refine At.seq ?_
  refine At.runR [] [1, 2, 5] [true, true, true] (.normal) ([(1, .slice a2 counts.length c2), (2, .pointer (some ⟨B3, 0, none⟩)), (5, .int .i64 0)]) [] [] (fun _ => by as_aux_lemma => kernel_rfl) trivial ?_
  refine Ends.seq ?_
  obtain ⟨o1, h, hr1⟩ := bd h
  refine At.seq_mid (σ := Int) (fun s => o1 = s) (fun s => [(5, .int .i64 s)]) (fun s => []) ?_ (fun s hI => ?_)
  · refine At.seq ?_
    refine At.runR [] [1, 2, 5, 6] [true, true, true] (.normal) ([(1, .slice a2 counts.length c2), (2, .pointer (some ⟨B3, 0, none⟩)), (5, .int .i64 0), (6, .int .i64 0)]) [] [] (fun _ => by as_aux_lemma => kernel_rfl) trivial ?_
    refine Ends.seq ?_
    refine At.block ?_
    refine At.loop (σ := Int × Int) (fun n s => lcost_l3 F p counts n s.1 s.2 = some o1) (fun s => [(1, .slice a2 counts.length c2), (2, .pointer (some ⟨B3, 0, none⟩)), (5, .int .i64 s.1), (6, .int .i64 s.2)]) (fun s => [.sl a2 1 counts.length (fun i_ => intCells (nth counts 0 i_)), .sl a1 9 p.lots.length (fun i_ => Lot.cells (nth p.lots Lot.zero i_)), .blk B3 [.slice a1 p.lots.length c1, .int .i64 p.mass.lo, .int .i64 p.mass.hi, .int .i64 p.target.a.lo, .int .i64 p.target.a.hi, .int .i64 p.target.b.lo, .int .i64 p.target.b.hi, .int .i64 p.target.c.lo, .int .i64 p.target.c.hi] 28]) F ((0 : Int), (0 : Int)) h (by kernel_rfl) (by kernel_rfl) (fun n s hI => ?_)
    obtain ⟨n_2, i⟩ := s
    replace hI : lcost_l3 F p counts n n_2 i = some o1 := hI
    rcases n with _ | fuel3
    · cases hI
    · rw [lcost_l3] at hI
      have h := hI
      clear hI
      refine At.seq ?_
      obtain ⟨o4, h, hr4⟩ := bd h
      refine At.seq_mid (σ := Bool) (fun s => o4 = s) (fun s => [(1, .slice a2 counts.length c2), (2, .pointer (some ⟨B3, 0, none⟩)), (5, .int .i64 n_2), (6, .int .i64 i), (17, .bool s)]) (fun s => [.sl a2 1 counts.length (fun i_ => intCells (nth counts 0 i_)), .sl a1 9 p.lots.length (fun i_ => Lot.cells (nth p.lots Lot.zero i_)), .blk B3 [.slice a1 p.lots.length c1, .int .i64 p.mass.lo, .int .i64 p.mass.hi, .int .i64 p.target.a.lo, .int .i64 p.target.a.hi, .int .i64 p.target.b.lo, .int .i64 p.target.b.hi, .int .i64 p.target.c.lo, .int .i64 p.target.c.hi] 28]) ?_ (fun s hI => ?_)
      · refine At.region ?_
        refine AtL.runR 6 [(2, 0, 0)] [1, 2, 5, 6, 12] [true, true, true] ([(1, .slice a2 counts.length c2), (2, .pointer (some ⟨B3, 0, none⟩)), (5, .int .i64 n_2), (6, .int .i64 i), (12, .bool (decide (i < (p.lots.length : Int))))]) [B3, 0] [] (fun _ => by as_aux_lemma => kernel_rfl) trivial ?_
        refine AtL.bool 12 (decide (i < (p.lots.length : Int))) (by kernel_rfl) (fun hc8 => ?_) (fun hc8 => ?_)
        · have h := br_t h hc8
          refine AtL.runR 5 [] [1, 2, 5, 6, 17] [true, true, true] ([(1, .slice a2 counts.length c2), (2, .pointer (some ⟨B3, 0, none⟩)), (5, .int .i64 n_2), (6, .int .i64 i), (17, .bool (decide (i < (counts.length : Int))))]) [] [] (fun _ => by as_aux_lemma => kernel_rfl) trivial ?_
          refine AtL.nil (by kernel_rfl) ?_
          exact Ends.mid (decide (i < (counts.length : Int))) (Option.some.inj h).symm (by kernel_rfl) (by kernel_rfl)
        · have h := br_f h hc8
          refine AtL.runR 5 [] [1, 2, 5, 6, 17] [true, true, true] ([(1, .slice a2 counts.length c2), (2, .pointer (some ⟨B3, 0, none⟩)), (5, .int .i64 n_2), (6, .int .i64 i), (17, .bool false)]) [] [] (fun _ => by as_aux_lemma => kernel_rfl) trivial ?_
          refine AtL.nil (by kernel_rfl) ?_
          exact Ends.mid false (Option.some.inj h).symm (by kernel_rfl) (by kernel_rfl)
      · revert hI; revert s; intro t17 hI
        replace hI : o4 = t17 := hI
        have h := hr4
        try rw [hI] at h
        refine At.cond (t17) (by kernel_rfl) (fun hc5 => ?_) (fun hc5 => ?_)
        · have h := br_t h hc5
          refine At.runR [] [1, 2, 5, 6] [true, true, true] (.normal) ([(1, .slice a2 counts.length c2), (2, .pointer (some ⟨B3, 0, none⟩)), (5, .int .i64 n_2), (6, .int .i64 i)]) [] [] (fun _ => by as_aux_lemma => kernel_rfl) trivial ?_
          refine Ends.seq ?_
          obtain ⟨g6, h⟩ := gd h
          obtain ⟨g7, h⟩ := gd h
          refine At.runR [(0, 0, 0), (0, 0, i.toNat), (2, 0, 0), (1, 0, 0), (1, 8, i.toNat)] [1, 2, 5, 6] [true, true, true] (.normal) ([(1, .slice a2 counts.length c2), (2, .pointer (some ⟨B3, 0, none⟩)), (5, .int .i64 (IntKind.i64.wrap (n_2 + (IntKind.i64.wrap ((nth counts 0 i.toNat) * ((nth p.lots Lot.zero i.toNat).cost)))))), (6, .int .i64 (IntKind.i64.wrap (i + (1 : Int))))]) [slB a2, slO a2 + i.toNat * 1 + 0, B3, 0, slB a1, slO a1 + i.toNat * 9 + 8] [IdxOk a2 a2 counts.length counts.length i, i.toNat < counts.length, IdxOk a1 a1 p.lots.length p.lots.length i, i.toNat < p.lots.length] (fun _ => by as_aux_lemma => kernel_rfl) ⟨inB_idx g6, inB_lt g6, inB_idx g7, inB_lt g7, trivial⟩ ?_
          exact Ends.round fuel3 ((IntKind.i64.wrap (n_2 + (IntKind.i64.wrap ((nth counts 0 i.toNat) * ((nth p.lots Lot.zero i.toNat).cost))))), (IntKind.i64.wrap (i + (1 : Int)))) (Nat.lt_succ_self _) h (by kernel_rfl) (by kernel_rfl)
        · have h := br_f h hc5
          refine At.runR [] [5] [true, true, true] (.exit 0) ([(5, .int .i64 n_2)]) [] [] (fun _ => by as_aux_lemma => kernel_rfl) trivial ?_
          refine Ends.then_exit ?_
          refine Ends.then_exit ?_
          refine Ends.block_hit ?_
          refine Ends.sel [5] [] ([(5, .int .i64 n_2)]) ([]) (by kernel_rfl) (by kernel_rfl) (by kernel_rfl) ?_
          exact Ends.mid n_2 (Option.some.inj h).symm (by kernel_rfl) (by kernel_rfl)
  · revert hI; revert s; intro n_ hI
    replace hI : o1 = n_ := hI
    have h := hr1
    try rw [hI] at h
    refine At.runR [] [4] [] (.ret) ([(4, .int .i64 n_)]) [] [] (fun _ => by as_aux_lemma => kernel_rfl) trivial ?_
    refine Ends.body [] (.int .i64 n_) [] (by kernel_rfl) (fun w9 hRep => ?_)
    obtain rfl := Option.some.inj h
    exact ⟨rfl, hRep.ext⟩
def lpieces_l3 (F : Nat) (l : List Int) : Nat → Int → Int → Option (Int)
  | 0, _, _ => none
  | fuel3 + 1, n_2, i => bif decide (i < (l.length : Int)) then (bif inB i l.length then (lpieces_l3 F l fuel3 (IntKind.i64.wrap (n_2 + (mn (mx (nth l 0 i.toNat) (0 : Int)) (1000 : Int)))) (IntKind.i64.wrap (i + (1 : Int)))) else none) else (some n_2)
def lpieces_S (F : Nat) (l : List Int) : Option (Int) := ((lpieces_l3 F l F (0 : Int) (0 : Int))).bind (fun z1 => some z1)
set_option maxRecDepth 100000 in
set_option maxHeartbeats 4000000 in
theorem lpieces_w (F : Nat) (l : List Int) (a1 : Option Addr) (c1 : Nat) (w : World) (hs1 : Sl 1 intCells w a1 c1 l) (v : Int) (h : lpieces_S F l = some v) :
    Calls Try.prog 34 #[.slice a1 l.length c1] w (Ret (.int .i64 v) w) := by
  rw [lpieces_S] at h
  refine At.enter Try.func34 rfl 20 [(0, .slice a1 l.length c1)] ([.sl a1 1 l.length (fun i_ => intCells (nth l 0 i_))]) [] (by kernel_rfl) ⟨rfl, trivial⟩ (Rep.sub (Rep.sl (Rep.start w) 0 hs1 (by simp [Ent.mut])) (by simp)) ?_
  refine At.seq ?_
  refine At.runR [] [0] [true] (.normal) ([(0, .slice a1 l.length c1)]) [] [] (fun _ => by as_aux_lemma => kernel_rfl) trivial ?_
  refine Ends.seq ?_
  refine At.seq ?_
  refine At.runR [] [0, 3] [true] (.normal) ([(0, .slice a1 l.length c1), (3, .int .i64 0)]) [] [] (fun _ => by as_aux_lemma => kernel_rfl) trivial ?_
  refine Ends.seq ?_
  obtain ⟨o1, h, hr1⟩ := bd h
  refine At.seq_mid (σ := Int) (fun s => o1 = s) (fun s => [(3, .int .i64 s)]) (fun s => []) ?_ (fun s hI => ?_)
  · refine At.seq ?_
    refine At.runR [] [0, 3, 4] [true] (.normal) ([(0, .slice a1 l.length c1), (3, .int .i64 0), (4, .int .i64 0)]) [] [] (fun _ => by as_aux_lemma => kernel_rfl) trivial ?_
    refine Ends.seq ?_
    refine At.block ?_
    refine At.loop (σ := Int × Int) (fun n s => lpieces_l3 F l n s.1 s.2 = some o1) (fun s => [(0, .slice a1 l.length c1), (3, .int .i64 s.1), (4, .int .i64 s.2)]) (fun s => [.sl a1 1 l.length (fun i_ => intCells (nth l 0 i_))]) F ((0 : Int), (0 : Int)) h (by kernel_rfl) (by kernel_rfl) (fun n s hI => ?_)
    obtain ⟨n_2, i⟩ := s
    replace hI : lpieces_l3 F l n n_2 i = some o1 := hI
    rcases n with _ | fuel3
    · cases hI
    · rw [lpieces_l3] at hI
      have h := hI
      clear hI
      refine At.seq ?_
      refine At.seq ?_
      refine At.runR [] [0, 3, 4, 8] [true] (.normal) ([(0, .slice a1 l.length c1), (3, .int .i64 n_2), (4, .int .i64 i), (8, .bool (decide (i < (l.length : Int))))]) [] [] (fun _ => by as_aux_lemma => kernel_rfl) trivial ?_
      refine Ends.seq ?_
      refine At.cond (decide (i < (l.length : Int))) (by kernel_rfl) (fun hc4 => ?_) (fun hc4 => ?_)
      · have h := br_t h hc4
        refine At.runR [] [0, 3, 4] [true] (.normal) ([(0, .slice a1 l.length c1), (3, .int .i64 n_2), (4, .int .i64 i)]) [] [] (fun _ => by as_aux_lemma => kernel_rfl) trivial ?_
        refine Ends.seq ?_
        obtain ⟨g5, h⟩ := gd h
        refine At.runR [(0, 0, 0), (0, 0, i.toNat)] [0, 3, 4] [true] (.normal) ([(0, .slice a1 l.length c1), (3, .int .i64 (IntKind.i64.wrap (n_2 + (mn (mx (nth l 0 i.toNat) (0 : Int)) (1000 : Int))))), (4, .int .i64 (IntKind.i64.wrap (i + (1 : Int))))]) [slB a1, slO a1 + i.toNat * 1 + 0] [IdxOk a1 a1 l.length l.length i, i.toNat < l.length] (fun _ => by as_aux_lemma => kernel_rfl) ⟨inB_idx g5, inB_lt g5, trivial⟩ ?_
        exact Ends.round fuel3 ((IntKind.i64.wrap (n_2 + (mn (mx (nth l 0 i.toNat) (0 : Int)) (1000 : Int)))), (IntKind.i64.wrap (i + (1 : Int)))) (Nat.lt_succ_self _) h (by kernel_rfl) (by kernel_rfl)
      · have h := br_f h hc4
        refine At.runR [] [3] [true] (.exit 0) ([(3, .int .i64 n_2)]) [] [] (fun _ => by as_aux_lemma => kernel_rfl) trivial ?_
        refine Ends.then_exit ?_
        refine Ends.then_exit ?_
        refine Ends.block_hit ?_
        refine Ends.sel [3] [] ([(3, .int .i64 n_2)]) ([]) (by kernel_rfl) (by kernel_rfl) (by kernel_rfl) ?_
        exact Ends.mid n_2 (Option.some.inj h).symm (by kernel_rfl) (by kernel_rfl)
  · revert hI; revert s; intro n_ hI
    replace hI : o1 = n_ := hI
    have h := hr1
    try rw [hI] at h
    refine At.runR [] [2] [] (.ret) ([(2, .int .i64 n_)]) [] [] (fun _ => by as_aux_lemma => kernel_rfl) trivial ?_
    refine Ends.body [] (.int .i64 n_) [] (by kernel_rfl) (fun w9 hRep => ?_)
    obtain rfl := Option.some.inj h
    exact ⟨rfl, hRep.ext⟩
def lints_S (F : Nat) (l : List Int) : Option ((List Int)) := bif lenOk (([] : List Int).length) l.length then (some (([] : List Int) ++ l)) else none
set_option maxRecDepth 100000 in
set_option maxHeartbeats 4000000 in
theorem lints_w (F : Nat) (l : List Int) (a1 : Option Addr) (c1 : Nat) (w : World) (hs1 : Sl 1 intCells w a1 c1 l) (v : (List Int)) (h : lints_S F l = some v) :
    Calls Try.prog 14 #[.slice a1 l.length c1] w (fun e w' => ∃ xa0 xc0, e = .returned (.slice xa0 v.length xc0) ∧ Rep [] w [owE intCells 0 xa0 xc0 3 1 v] w') := by
  rw [lints_S] at h
  refine At.enter Try.func14 rfl 6 [(0, .slice a1 l.length c1)] ([.sl a1 1 l.length (fun i_ => intCells (nth l 0 i_))]) [] (by kernel_rfl) ⟨rfl, trivial⟩ (Rep.sub (Rep.sl (Rep.start w) 0 hs1 (by simp [Ent.mut])) (by simp)) ?_
  refine At.seq ?_
  refine At.runR [] [0] [true] (.normal) ([(0, .slice a1 l.length c1)]) [] [] (fun _ => by as_aux_lemma => kernel_rfl) trivial ?_
  refine Ends.seq ?_
  refine At.seq ?_
  refine At.region ?_
  refine AtL.run 2 [] [3, 4] [true, true] (fun B7 => [(3, .slice (some ⟨B7, 0, none⟩) 0 0), (4, .slice a1 l.length c1)]) (fun B7 => [.sl a1 1 l.length (fun i_ => intCells (nth l 0 i_)), .blk B7 [] 3]) (fun B7 => []) (fun B7 => []) (fun B7 => by as_aux_lemma => kernel_rfl) (fun B7 => trivial) (fun B7 => ?_)
  refine AtL.addRow 1 B7 3 [] (by kernel_rfl) intCells 0 1 ([] : List Int) xlen3 (by kernel_rfl) (by decide) (by simp) ?_
  obtain ⟨g1, h⟩ := gd h
  refine AtL.append 0 xei3 xlen3 xone3 (by decide) (some 5) 1 (some ⟨B7, 0, none⟩) (([] : List Int).length) ([] : List Int) (by kernel_rfl) a1 l.length c1 l (by kernel_rfl) (by kernel_rfl) ((Adds.sl_ (i := 0) (d := 0) (by kernel_rfl) hs1.le hs1.big)) (lenOk_le g1) (fun a_ c_ K9 hK9 => ?_)
  obtain rfl := Option.some.inj hK9
  refine AtL.fit [4, 5] ([(4, .slice a1 l.length c1), (5, .slice a_ ((([] : List Int) ++ l).length) c_)]) ([.sl a1 1 l.length (fun i_ => intCells (nth l 0 i_)), owE intCells 0 a_ c_ 3 1 (([] : List Int) ++ l)]) (by kernel_rfl) (by kernel_rfl) ?_
  refine AtL.runR 1 [] [2] [true, true] ([(2, .slice a_ ((([] : List Int) ++ l).length) c_)]) [] [] (fun _ => by as_aux_lemma => kernel_rfl) trivial ?_
  refine AtL.nil (by kernel_rfl) ?_
  refine Ends.seq ?_
  refine At.runR [] [2] [true, true] (.ret) ([(2, .slice a_ ((([] : List Int) ++ l).length) c_)]) [] [] (fun _ => by as_aux_lemma => kernel_rfl) trivial ?_
  refine Ends.body [] (.slice a_ ((([] : List Int) ++ l).length) c_) [] (by kernel_rfl) (fun w9 hRep => ?_)
  obtain rfl := Option.some.inj h
  exact ⟨a_, c_, rfl, hRep.sel (r := [1]) (by kernel_rfl) (by kernel_rfl)⟩
def lown_S (F : Nat) (p : Recipe) : Option (Recipe) := bif lenOk (([] : List Lot).length) p.lots.length then (some (⟨(([] : List Lot) ++ p.lots), p.mass, p.target⟩ : Recipe)) else none
set_option maxRecDepth 100000 in
set_option maxHeartbeats 4000000 in
theorem lown_w (F : Nat) (p : Recipe) (a1 : Option Addr) (c1 : Nat) (w : World) (hs1 : Sl 9 Lot.cells w a1 c1 p.lots) (v : Recipe) (h : lown_S F p = some v) :
    Calls Try.prog 13 #[.agg #[.slice a1 p.lots.length c1, .int .i64 p.mass.lo, .int .i64 p.mass.hi, .int .i64 p.target.a.lo, .int .i64 p.target.a.hi, .int .i64 p.target.b.lo, .int .i64 p.target.b.hi, .int .i64 p.target.c.lo, .int .i64 p.target.c.hi]] w (fun e w' => ∃ xa0 xc0, e = .returned (.agg #[.slice xa0 v.lots.length xc0, .int .i64 v.mass.lo, .int .i64 v.mass.hi, .int .i64 v.target.a.lo, .int .i64 v.target.a.hi, .int .i64 v.target.b.lo, .int .i64 v.target.b.hi, .int .i64 v.target.c.lo, .int .i64 v.target.c.hi]) ∧ Rep [] w [owE Lot.cells Lot.zero xa0 xc0 43 9 v.lots] w') := by
  rw [lown_S] at h
  refine At.enter Try.func13 rfl 9 [(0, .agg #[.slice a1 p.lots.length c1, .int .i64 p.mass.lo, .int .i64 p.mass.hi, .int .i64 p.target.a.lo, .int .i64 p.target.a.hi, .int .i64 p.target.b.lo, .int .i64 p.target.b.hi, .int .i64 p.target.c.lo, .int .i64 p.target.c.hi])] ([.sl a1 9 p.lots.length (fun i_ => Lot.cells (nth p.lots Lot.zero i_))]) [] (by kernel_rfl) ⟨rfl, trivial⟩ (Rep.sub (Rep.sl (Rep.start w) Lot.zero hs1 (by simp [Ent.mut])) (by simp)) ?_
  refine At.seq ?_
  refine At.run [] [1, 2] [true, true, true] (.normal) (fun B3 => [(1, .pointer (some ⟨B3, 0, none⟩)), (2, .pointer (some ⟨(B3 + 1), 0, none⟩))]) (fun B3 => [.sl a1 9 p.lots.length (fun i_ => Lot.cells (nth p.lots Lot.zero i_)), .blk B3 [.slice a1 p.lots.length c1, .int .i64 p.mass.lo, .int .i64 p.mass.hi, .int .i64 p.target.a.lo, .int .i64 p.target.a.hi, .int .i64 p.target.b.lo, .int .i64 p.target.b.hi, .int .i64 p.target.c.lo, .int .i64 p.target.c.hi] 28, .blk (B3 + 1) [.slice none 0 0, .int .i64 0, .int .i64 0, .int .i64 0, .int .i64 0, .int .i64 0, .int .i64 0, .int .i64 0, .int .i64 0] 28]) (fun B3 => []) (fun B3 => []) (fun B3 => by as_aux_lemma => kernel_rfl) (fun B3 => trivial) (fun B3 => ?_)
  refine Ends.seq ?_
  refine At.seq ?_
  refine At.region ?_
  refine AtL.run 3 [(1, 0, 0)] [1, 2, 3, 5] [true, true, true, true] (fun B7 => [(1, .pointer (some ⟨B3, 0, none⟩)), (2, .pointer (some ⟨(B3 + 1), 0, none⟩)), (3, .slice (some ⟨B7, 0, none⟩) 0 0), (5, .slice a1 p.lots.length c1)]) (fun B7 => [.sl a1 9 p.lots.length (fun i_ => Lot.cells (nth p.lots Lot.zero i_)), .blk B3 [.slice a1 p.lots.length c1, .int .i64 p.mass.lo, .int .i64 p.mass.hi, .int .i64 p.target.a.lo, .int .i64 p.target.a.hi, .int .i64 p.target.b.lo, .int .i64 p.target.b.hi, .int .i64 p.target.c.lo, .int .i64 p.target.c.hi] 28, .blk (B3 + 1) [.slice none 0 0, .int .i64 0, .int .i64 0, .int .i64 0, .int .i64 0, .int .i64 0, .int .i64 0, .int .i64 0, .int .i64 0] 28, .blk B7 [] 43]) (fun B7 => [B3, 0]) (fun B7 => []) (fun B7 => by as_aux_lemma => kernel_rfl) (fun B7 => trivial) (fun B7 => ?_)
  refine AtL.addRow 3 B7 43 [] (by kernel_rfl) Lot.cells Lot.zero 9 ([] : List Lot) xlen43 (by kernel_rfl) (by decide) (by simp) ?_
  obtain ⟨g1, h⟩ := gd h
  refine AtL.append Lot.zero xei43 xlen43 xone43 (by decide) (some 6) 3 (some ⟨B7, 0, none⟩) (([] : List Lot).length) ([] : List Lot) (by kernel_rfl) a1 p.lots.length c1 p.lots (by kernel_rfl) (by kernel_rfl) ((Adds.sl_ (i := 0) (d := Lot.zero) (by kernel_rfl) hs1.le hs1.big)) (lenOk_le g1) (fun a_ c_ K9 hK9 => ?_)
  obtain rfl := Option.some.inj hK9
  refine AtL.fit [1, 2, 5, 6] ([(1, .pointer (some ⟨B3, 0, none⟩)), (2, .pointer (some ⟨(B3 + 1), 0, none⟩)), (5, .slice a1 p.lots.length c1), (6, .slice a_ ((([] : List Lot) ++ p.lots).length) c_)]) ([.sl a1 9 p.lots.length (fun i_ => Lot.cells (nth p.lots Lot.zero i_)), .blk B3 [.slice a1 p.lots.length c1, .int .i64 p.mass.lo, .int .i64 p.mass.hi, .int .i64 p.target.a.lo, .int .i64 p.target.a.hi, .int .i64 p.target.b.lo, .int .i64 p.target.b.hi, .int .i64 p.target.c.lo, .int .i64 p.target.c.hi] 28, .blk (B3 + 1) [.slice none 0 0, .int .i64 0, .int .i64 0, .int .i64 0, .int .i64 0, .int .i64 0, .int .i64 0, .int .i64 0, .int .i64 0] 28, owE Lot.cells Lot.zero a_ c_ 43 9 (([] : List Lot) ++ p.lots)]) (by kernel_rfl) (by kernel_rfl) ?_
  refine AtL.run 2 [(1, 0, 0)] [1, 2] [false, true, true, true] (fun B8 => [(1, .pointer (some ⟨B3, 0, none⟩)), (2, .pointer (some ⟨(B3 + 1), 0, none⟩))]) (fun B8 => [.blk B3 [.slice a_ ((([] : List Lot) ++ p.lots).length) c_, .int .i64 p.mass.lo, .int .i64 p.mass.hi, .int .i64 p.target.a.lo, .int .i64 p.target.a.hi, .int .i64 p.target.b.lo, .int .i64 p.target.b.hi, .int .i64 p.target.c.lo, .int .i64 p.target.c.hi] 28, .blk (B3 + 1) [.slice none 0 0, .int .i64 0, .int .i64 0, .int .i64 0, .int .i64 0, .int .i64 0, .int .i64 0, .int .i64 0, .int .i64 0] 28, owE Lot.cells Lot.zero a_ c_ 43 9 (([] : List Lot) ++ p.lots)]) (fun B8 => [B3, 0]) (fun B8 => []) (fun B8 => by as_aux_lemma => kernel_rfl) (fun B8 => trivial) (fun B8 => ?_)
  refine AtL.nil (by kernel_rfl) ?_
  refine Ends.seq ?_
  refine At.run [(0, 0, 0), (0, 1, 0), (0, 2, 0), (0, 3, 0), (0, 4, 0), (0, 5, 0), (0, 6, 0), (0, 7, 0), (0, 8, 0), (1, 0, 0), (1, 1, 0), (1, 2, 0), (1, 3, 0), (1, 4, 0), (1, 5, 0), (1, 6, 0), (1, 7, 0), (1, 8, 0)] [2] [false, true, true] (.ret) (fun B9 => [(2, .pointer (some ⟨(B3 + 1), 0, none⟩))]) (fun B9 => [.blk (B3 + 1) [.slice a_ ((([] : List Lot) ++ p.lots).length) c_, .int .i64 p.mass.lo, .int .i64 p.mass.hi, .int .i64 p.target.a.lo, .int .i64 p.target.a.hi, .int .i64 p.target.b.lo, .int .i64 p.target.b.hi, .int .i64 p.target.c.lo, .int .i64 p.target.c.hi] 28, owE Lot.cells Lot.zero a_ c_ 43 9 (([] : List Lot) ++ p.lots)]) (fun B9 => [B3, 0, B3, 1, B3, 2, B3, 3, B3, 4, B3, 5, B3, 6, B3, 7, B3, 8, (B3 + 1), 0, (B3 + 1), 1, (B3 + 1), 2, (B3 + 1), 3, (B3 + 1), 4, (B3 + 1), 5, (B3 + 1), 6, (B3 + 1), 7, (B3 + 1), 8]) (fun B9 => []) (fun B9 => by as_aux_lemma => kernel_rfl) (fun B9 => trivial) (fun B9 => ?_)
  refine Ends.body [(0, 0, 0), (0, 1, 0), (0, 2, 0), (0, 3, 0), (0, 4, 0), (0, 5, 0), (0, 6, 0), (0, 7, 0), (0, 8, 0)] (.agg #[.slice a_ ((([] : List Lot) ++ p.lots).length) c_, .int .i64 p.mass.lo, .int .i64 p.mass.hi, .int .i64 p.target.a.lo, .int .i64 p.target.a.hi, .int .i64 p.target.b.lo, .int .i64 p.target.b.hi, .int .i64 p.target.c.lo, .int .i64 p.target.c.hi]) [(B3 + 1), 0, (B3 + 1), 1, (B3 + 1), 2, (B3 + 1), 3, (B3 + 1), 4, (B3 + 1), 5, (B3 + 1), 6, (B3 + 1), 7, (B3 + 1), 8] (by kernel_rfl) (fun w9 hRep => ?_)
  obtain rfl := Option.some.inj h
  exact ⟨a_, c_, rfl, hRep.sel (r := [1]) (by kernel_rfl) (by kernel_rfl)⟩
def lsure_S (F : Nat) (p : Recipe) (g : Guess) : Option (Bool) := (llisted_S F p g).bind (fun r_ => bif !r_ then (some true) else ((lown_S F p).bind (fun r_2 => (lints_S F g.counts).bind (fun r_3 => ((bif (weighE r_2 r_3) == (0 : Int) then (bif (fitsK r_2 r_3) == ((-1) : Int) then ((ltruly_S F p g.counts g).bind (fun r_54 => some (!r_54))) else (some false)) else (some false))).bind (fun z6 => bif z6 then (some false) else ((lown_S F p).bind (fun r_8 => bif (bestE r_8) != (0 : Int) then (((bif ((stL (bestM r_8)).length : Int) == (0 : Int) then (bif (stC (bestM r_8)) == (0 : Int) then (bif (bestE r_8) != (20 : Int) then (some true) else (bif (weighE r_2 r_3) != (0 : Int) then (some true) else (bif (fitsK r_2 r_3) != ((-1) : Int) then (some true) else (some false)))) else (some false)) else (some false))).bind (fun z16 => some z16)) else (((bif ((stL (bestM r_8)).length : Int) != (p.lots.length : Int) then (some true) else ((lpieces_S F (stL (bestM r_8))).bind (fun r_43 => bif decide (r_43 > (6000 : Int)) then (some true) else ((lcost_S F p (stL (bestM r_8))).bind (fun r_45 => bif (stC (bestM r_8)) != r_45 then (some true) else ((ltruly_S F p (stL (bestM r_8)) g).bind (fun r_47 => some (!r_47))))))))).bind (fun z22 => bif z22 then (some false) else ((lown_S F p).bind (fun r_24 => (lints_S F (stL (bestM r_8))).bind (fun r_27 => ((bif (weighE r_24 r_27) != (0 : Int) then (some true) else (some ((fitsK r_24 r_27) != ((-1) : Int))))).bind (fun z30 => bif z30 then (some false) else (((bif (weighE r_2 r_3) != (0 : Int) then (some true) else (bif (fitsK r_2 r_3) != ((-1) : Int) then (some true) else ((lcost_S F p g.counts).bind (fun r_36 => bif decide (r_36 ≥ (stC (bestM r_8))) then (some true) else (some false)))))).bind (fun z32 => some z32)))))))))))))))
set_option maxRecDepth 100000 in
set_option maxHeartbeats 4000000 in
theorem lsure_w (F : Nat) (p : Recipe) (g : Guess) (a1 : Option Addr) (c1 : Nat) (a2 : Option Addr) (c2 : Nat) (a3 : Option Addr) (c3 : Nat) (w : World) (hs1 : Sl 9 Lot.cells w a1 c1 p.lots) (hs2 : Sl 1 intCells w a2 c2 g.counts) (hs3 : Sl 3 Plc3.cells w a3 c3 g.places) (v : Bool) (h : lsure_S F p g = some v) :
    Calls Try.prog 6 #[.agg #[.slice a1 p.lots.length c1, .int .i64 p.mass.lo, .int .i64 p.mass.hi, .int .i64 p.target.a.lo, .int .i64 p.target.a.hi, .int .i64 p.target.b.lo, .int .i64 p.target.b.hi, .int .i64 p.target.c.lo, .int .i64 p.target.c.hi], .agg #[.slice a2 g.counts.length c2, .slice a3 g.places.length c3]] w (Ret (.bool v) w) := by
  rw [lsure_S] at h
  refine At.enter Try.func6 rfl 127 [(0, .agg #[.slice a1 p.lots.length c1, .int .i64 p.mass.lo, .int .i64 p.mass.hi, .int .i64 p.target.a.lo, .int .i64 p.target.a.hi, .int .i64 p.target.b.lo, .int .i64 p.target.b.hi, .int .i64 p.target.c.lo, .int .i64 p.target.c.hi]), (1, .agg #[.slice a2 g.counts.length c2, .slice a3 g.places.length c3])] ([.sl a3 3 g.places.length (fun i_ => Plc3.cells (nth g.places Plc3.zero i_)), .sl a2 1 g.counts.length (fun i_ => intCells (nth g.counts 0 i_)), .sl a1 9 p.lots.length (fun i_ => Lot.cells (nth p.lots Lot.zero i_))]) [] (by kernel_rfl) ⟨rfl, rfl, trivial⟩ (Rep.sub (Rep.sl (Rep.sl (Rep.sl (Rep.start w) Lot.zero hs1 (by simp [Ent.mut])) 0 hs2 (by simp [Ent.mut])) Plc3.zero hs3 (by simp [Ent.mut])) (by simp)) ?_
  refine At.seq ?_
  refine At.run [] [2, 3] [true, true, true, true, true] (.normal) (fun B3 => [(2, .pointer (some ⟨B3, 0, none⟩)), (3, .pointer (some ⟨(B3 + 1), 0, none⟩))]) (fun B3 => [.sl a3 3 g.places.length (fun i_ => Plc3.cells (nth g.places Plc3.zero i_)), .sl a2 1 g.counts.length (fun i_ => intCells (nth g.counts 0 i_)), .sl a1 9 p.lots.length (fun i_ => Lot.cells (nth p.lots Lot.zero i_)), .blk B3 [.slice a1 p.lots.length c1, .int .i64 p.mass.lo, .int .i64 p.mass.hi, .int .i64 p.target.a.lo, .int .i64 p.target.a.hi, .int .i64 p.target.b.lo, .int .i64 p.target.b.hi, .int .i64 p.target.c.lo, .int .i64 p.target.c.hi] 28, .blk (B3 + 1) [.slice a2 g.counts.length c2, .slice a3 g.places.length c3] 70]) (fun B3 => []) (fun B3 => []) (fun B3 => by as_aux_lemma => kernel_rfl) (fun B3 => trivial) (fun B3 => ?_)
  refine Ends.seq ?_
  refine At.seq ?_
  refine At.seq ?_
  refine At.region ?_
  refine AtL.runR 2 [(3, 0, 0), (3, 1, 0), (3, 2, 0), (3, 3, 0), (3, 4, 0), (3, 5, 0), (3, 6, 0), (3, 7, 0), (3, 8, 0), (4, 0, 0), (4, 1, 0)] [2, 3, 12, 13] [true, true, true, true, true] ([(2, .pointer (some ⟨B3, 0, none⟩)), (3, .pointer (some ⟨(B3 + 1), 0, none⟩)), (12, .agg #[.slice a1 p.lots.length c1, .int .i64 p.mass.lo, .int .i64 p.mass.hi, .int .i64 p.target.a.lo, .int .i64 p.target.a.hi, .int .i64 p.target.b.lo, .int .i64 p.target.b.hi, .int .i64 p.target.c.lo, .int .i64 p.target.c.hi]), (13, .agg #[.slice a2 g.counts.length c2, .slice a3 g.places.length c3])]) [B3, 0, B3, 1, B3, 2, B3, 3, B3, 4, B3, 5, B3, 6, B3, 7, B3, 8, (B3 + 1), 0, (B3 + 1), 1] [] (fun _ => by as_aux_lemma => kernel_rfl) trivial ?_
  obtain ⟨r_, hs58, h⟩ := bd h
  refine AtL.call 32 #[.agg #[.slice a1 p.lots.length c1, .int .i64 p.mass.lo, .int .i64 p.mass.hi, .int .i64 p.target.a.lo, .int .i64 p.target.a.hi, .int .i64 p.target.b.lo, .int .i64 p.target.b.hi, .int .i64 p.target.c.lo, .int .i64 p.target.c.hi], .agg #[.slice a2 g.counts.length c2, .slice a3 g.places.length c3]] (some 14) (by kernel_rfl) _ (fun w8 hRep => llisted_w F p g a1 c1 a2 c2 a3 c3 w8 (hRep.toSl 2 rfl hs1.le hs1.big) (hRep.toSl 1 rfl hs2.le hs2.big) (hRep.toSl 0 rfl hs3.le hs3.big) _ hs58) ?_
  rintro w8 e w9 hRep ⟨rfl, hE⟩
  refine ⟨_, _, _, rfl, rfl, hRep.ext' hE, ?_⟩
  refine AtL.runR 1 [] [2, 3, 15] [true, true, true, true, true] ([(2, .pointer (some ⟨B3, 0, none⟩)), (3, .pointer (some ⟨(B3 + 1), 0, none⟩)), (15, .bool (!r_))]) [] [] (fun _ => by as_aux_lemma => kernel_rfl) trivial ?_
  refine AtL.nil (by kernel_rfl) ?_
  refine Ends.seq ?_
  refine At.cond (!r_) (by kernel_rfl) (fun hc1 => ?_) (fun hc1 => ?_)
  · have h := br_t h hc1
    refine At.seq ?_
    refine At.region ?_
    refine AtL.call 12 #[] (some 16) (by kernel_rfl) _ (fun w8 hRep => known_c w8) ?_
    rintro w8 e w9 hRep ⟨rfl, hE⟩
    refine ⟨_, _, _, rfl, rfl, hRep.ext' hE, ?_⟩
    refine AtL.runR 1 [] [4] [true, true, true, true, true] ([(4, .bool true)]) [] [] (fun _ => by as_aux_lemma => kernel_rfl) trivial ?_
    refine AtL.nil (by kernel_rfl) ?_
    refine Ends.seq ?_
    refine At.runR [] [4] [true, true, true, true, true] (.ret) ([(4, .bool true)]) [] [] (fun _ => by as_aux_lemma => kernel_rfl) trivial ?_
    refine Ends.then_ret ?_
    refine Ends.body [] (.bool true) [] (by kernel_rfl) (fun w9 hRep => ?_)
    obtain rfl := Option.some.inj h
    exact ⟨rfl, hRep.ext⟩
  · have h := br_f h hc1
    refine At.runR [] [2, 3] [true, true, true, true, true] (.normal) ([(2, .pointer (some ⟨B3, 0, none⟩)), (3, .pointer (some ⟨(B3 + 1), 0, none⟩))]) [] [] (fun _ => by as_aux_lemma => kernel_rfl) trivial ?_
    refine Ends.seq ?_
    refine At.seq ?_
    refine At.plan ([.sl a3 3 g.places.length (fun i_ => Plc3.cells (nth g.places Plc3.zero i_)), .sl a2 1 g.counts.length (fun i_ => intCells (nth g.counts 0 i_)), .sl a1 9 p.lots.length (fun i_ => Lot.cells (nth p.lots Lot.zero i_)), .blk B3 [.slice a1 p.lots.length c1, .int .i64 p.mass.lo, .int .i64 p.mass.hi, .int .i64 p.target.a.lo, .int .i64 p.target.a.hi, .int .i64 p.target.b.lo, .int .i64 p.target.b.hi, .int .i64 p.target.c.lo, .int .i64 p.target.c.hi] 28, .blk (B3 + 1) [.slice a2 g.counts.length c2, .slice a3 g.places.length c3] 70]) [0, 1, 2, 3, 4] (by kernel_rfl) (by kernel_rfl) [.pu [2], .st [0, 3], .mv 1, .mv 4, .mv 5, .pu [6, 7, 8, 9, 10]] (by kernel_rfl) (by kernel_rfl) ?_
    refine AtP.pu ?_
    refine AtY.runp 1 [2, 3, 20] ([(2, .pointer (some ⟨B3, 0, none⟩)), (3, .pointer (some ⟨(B3 + 1), 0, none⟩)), (20, .pointer (some ⟨(B3 + 1), 0, none⟩))]) [] (by as_aux_lemma => kernel_rfl) trivial ?_
    refine AtY.nil (by kernel_rfl) ?_
    refine AtP.st ?_
    refine AtY.run 2 [(3, 0, 0), (3, 1, 0), (3, 2, 0), (3, 3, 0), (3, 4, 0), (3, 5, 0), (3, 6, 0), (3, 7, 0), (3, 8, 0), (4, 0, 0)] [2, 3, 18, 21] ([(2, .pointer (some ⟨B3, 0, none⟩)), (3, .pointer (some ⟨(B3 + 1), 0, none⟩)), (18, .agg #[.slice a1 p.lots.length c1, .int .i64 p.mass.lo, .int .i64 p.mass.hi, .int .i64 p.target.a.lo, .int .i64 p.target.a.hi, .int .i64 p.target.b.lo, .int .i64 p.target.b.hi, .int .i64 p.target.c.lo, .int .i64 p.target.c.hi]), (21, .slice a2 g.counts.length c2)]) [B3, 0, B3, 1, B3, 2, B3, 3, B3, 4, B3, 5, B3, 6, B3, 7, B3, 8, (B3 + 1), 0] [] (by as_aux_lemma => kernel_rfl) trivial ?_
    refine AtY.nil (by kernel_rfl) ?_
    refine AtP.mv ?_
    obtain ⟨r_2, hs57, h⟩ := bd h
    refine AtL.call 13 #[.agg #[.slice a1 p.lots.length c1, .int .i64 p.mass.lo, .int .i64 p.mass.hi, .int .i64 p.target.a.lo, .int .i64 p.target.a.hi, .int .i64 p.target.b.lo, .int .i64 p.target.b.hi, .int .i64 p.target.c.lo, .int .i64 p.target.c.hi]] (some 19) (by kernel_rfl) _ (fun w8 hRep => lown_w F p a1 c1 w8 (hRep.toSl 2 rfl hs1.le hs1.big) _ hs57) ?_
    rintro w8 e w9 hRep ⟨a_, c_, rfl, hE⟩
    refine ⟨_, _, _, rfl, rfl, hRep.join hE (by simp [Ent.looks, Ent.mut]), ?_⟩
    refine AtL.nil (by kernel_rfl) ?_
    refine Ends.mv [0, 1, 2, 3, 4] (by kernel_rfl) (by kernel_rfl) ?_
    refine AtP.mv ?_
    obtain ⟨r_3, hs56, h⟩ := bd h
    refine AtL.call 14 #[.slice a2 g.counts.length c2] (some 22) (by kernel_rfl) _ (fun w8 hRep => lints_w F g.counts a2 c2 w8 (hRep.toSl 1 rfl hs2.le hs2.big) _ hs56) ?_
    rintro w8 e w9 hRep ⟨a_4, c_5, rfl, hE⟩
    refine ⟨_, _, _, rfl, rfl, hRep.join hE (by simp [Ent.looks, Ent.mut]), ?_⟩
    refine AtL.nil (by kernel_rfl) ?_
    refine Ends.mv [0, 1, 2, 3, 4] (by kernel_rfl) (by kernel_rfl) ?_
    refine AtP.mv ?_
    refine AtL.call 17 #[.agg #[.slice a_ r_2.lots.length c_, .int .i64 r_2.mass.lo, .int .i64 r_2.mass.hi, .int .i64 r_2.target.a.lo, .int .i64 r_2.target.a.hi, .int .i64 r_2.target.b.lo, .int .i64 r_2.target.b.hi, .int .i64 r_2.target.c.lo, .int .i64 r_2.target.c.hi], .slice a_4 r_3.length c_5] (some 23) (by kernel_rfl) _ (fun w8 hRep => fits_c r_2 r_3 a_ a_4 c_ c_5 w8 (hRep.owSl 5 rfl xlen43) (hRep.owSl 6 rfl xlen3)) ?_
    rintro w8 e w9 hRep ⟨rfl, hE⟩
    refine ⟨_, _, _, rfl, rfl, hRep.ext' hE, ?_⟩
    refine AtL.nil (by kernel_rfl) ?_
    refine Ends.mv [0, 1, 2, 3, 4] (by kernel_rfl) (by kernel_rfl) ?_
    refine AtP.pu ?_
    refine AtY.runp 5 [2, 3, 5, 6] ([(2, .pointer (some ⟨B3, 0, none⟩)), (3, .pointer (some ⟨(B3 + 1), 0, none⟩)), (5, .int .i64 (fitsK r_2 r_3)), (6, .int .i64 (weighE r_2 r_3))]) [] (by as_aux_lemma => kernel_rfl) trivial ?_
    refine AtY.nil (by kernel_rfl) ?_
    refine AtP.nil ?_
    refine Ends.weak [2, 3, 5, 6] [true, true, true, true, true, false, false] ([(2, .pointer (some ⟨B3, 0, none⟩)), (3, .pointer (some ⟨(B3 + 1), 0, none⟩)), (5, .int .i64 (fitsK r_2 r_3)), (6, .int .i64 (weighE r_2 r_3))]) ([.sl a3 3 g.places.length (fun i_ => Plc3.cells (nth g.places Plc3.zero i_)), .sl a2 1 g.counts.length (fun i_ => intCells (nth g.counts 0 i_)), .sl a1 9 p.lots.length (fun i_ => Lot.cells (nth p.lots Lot.zero i_)), .blk B3 [.slice a1 p.lots.length c1, .int .i64 p.mass.lo, .int .i64 p.mass.hi, .int .i64 p.target.a.lo, .int .i64 p.target.a.hi, .int .i64 p.target.b.lo, .int .i64 p.target.b.hi, .int .i64 p.target.c.lo, .int .i64 p.target.c.hi] 28, .blk (B3 + 1) [.slice a2 g.counts.length c2, .slice a3 g.places.length c3] 70]) (by kernel_rfl) (by kernel_rfl) ?_
    refine Ends.seq ?_
    refine At.seq ?_
    obtain ⟨o6, h, hr6⟩ := bd h
    refine At.seq_mid (σ := Bool) (fun s => o6 = s) (fun s => [(2, .pointer (some ⟨B3, 0, none⟩)), (3, .pointer (some ⟨(B3 + 1), 0, none⟩)), (5, .int .i64 (fitsK r_2 r_3)), (6, .int .i64 (weighE r_2 r_3)), (39, .bool s)]) (fun s => [.sl a3 3 g.places.length (fun i_ => Plc3.cells (nth g.places Plc3.zero i_)), .sl a2 1 g.counts.length (fun i_ => intCells (nth g.counts 0 i_)), .sl a1 9 p.lots.length (fun i_ => Lot.cells (nth p.lots Lot.zero i_)), .blk B3 [.slice a1 p.lots.length c1, .int .i64 p.mass.lo, .int .i64 p.mass.hi, .int .i64 p.target.a.lo, .int .i64 p.target.a.hi, .int .i64 p.target.b.lo, .int .i64 p.target.b.hi, .int .i64 p.target.c.lo, .int .i64 p.target.c.hi] 28, .blk (B3 + 1) [.slice a2 g.counts.length c2, .slice a3 g.places.length c3] 70]) ?_ (fun s hI => ?_)
    · refine At.region ?_
      refine AtL.runR 3 [] [2, 3, 5, 6, 28] [true, true, true, true, true] ([(2, .pointer (some ⟨B3, 0, none⟩)), (3, .pointer (some ⟨(B3 + 1), 0, none⟩)), (5, .int .i64 (fitsK r_2 r_3)), (6, .int .i64 (weighE r_2 r_3)), (28, .bool ((weighE r_2 r_3) == (0 : Int)))]) [] [] (fun _ => by as_aux_lemma => kernel_rfl) trivial ?_
      refine AtL.bool 28 ((weighE r_2 r_3) == (0 : Int)) (by kernel_rfl) (fun hc52 => ?_) (fun hc52 => ?_)
      · have h := br_t h hc52
        refine AtL.runR 4 [] [2, 3, 5, 6, 32] [true, true, true, true, true] ([(2, .pointer (some ⟨B3, 0, none⟩)), (3, .pointer (some ⟨(B3 + 1), 0, none⟩)), (5, .int .i64 (fitsK r_2 r_3)), (6, .int .i64 (weighE r_2 r_3)), (32, .bool ((fitsK r_2 r_3) == ((-1) : Int)))]) [] [] (fun _ => by as_aux_lemma => kernel_rfl) trivial ?_
        refine AtL.bool 32 ((fitsK r_2 r_3) == ((-1) : Int)) (by kernel_rfl) (fun hc53 => ?_) (fun hc53 => ?_)
        · have h := br_t h hc53
          refine AtL.runR 4 [(3, 0, 0), (3, 1, 0), (3, 2, 0), (3, 3, 0), (3, 4, 0), (3, 5, 0), (3, 6, 0), (3, 7, 0), (3, 8, 0), (4, 0, 0), (4, 0, 0), (4, 1, 0)] [2, 3, 5, 6, 32, 33, 35, 36] [true, true, true, true, true] ([(2, .pointer (some ⟨B3, 0, none⟩)), (3, .pointer (some ⟨(B3 + 1), 0, none⟩)), (5, .int .i64 (fitsK r_2 r_3)), (6, .int .i64 (weighE r_2 r_3)), (32, .bool true), (33, .agg #[.slice a1 p.lots.length c1, .int .i64 p.mass.lo, .int .i64 p.mass.hi, .int .i64 p.target.a.lo, .int .i64 p.target.a.hi, .int .i64 p.target.b.lo, .int .i64 p.target.b.hi, .int .i64 p.target.c.lo, .int .i64 p.target.c.hi]), (35, .slice a2 g.counts.length c2), (36, .agg #[.slice a2 g.counts.length c2, .slice a3 g.places.length c3])]) [B3, 0, B3, 1, B3, 2, B3, 3, B3, 4, B3, 5, B3, 6, B3, 7, B3, 8, (B3 + 1), 0, (B3 + 1), 0, (B3 + 1), 1] [] (fun _ => by as_aux_lemma => kernel_rfl) trivial ?_
          obtain ⟨r_54, hs55, h⟩ := bd h
          refine AtL.call 33 #[.agg #[.slice a1 p.lots.length c1, .int .i64 p.mass.lo, .int .i64 p.mass.hi, .int .i64 p.target.a.lo, .int .i64 p.target.a.hi, .int .i64 p.target.b.lo, .int .i64 p.target.b.hi, .int .i64 p.target.c.lo, .int .i64 p.target.c.hi], .slice a2 g.counts.length c2, .agg #[.slice a2 g.counts.length c2, .slice a3 g.places.length c3]] (some 37) (by kernel_rfl) _ (fun w8 hRep => ltruly_w F p g.counts g a1 c1 a2 c2 a2 c2 a3 c3 w8 (hRep.toSl 2 rfl hs1.le hs1.big) (hRep.toSl 1 rfl hs2.le hs2.big) (hRep.toSl 1 rfl hs2.le hs2.big) (hRep.toSl 0 rfl hs3.le hs3.big) _ hs55) ?_
          rintro w8 e w9 hRep ⟨rfl, hE⟩
          refine ⟨_, _, _, rfl, rfl, hRep.ext' hE, ?_⟩
          refine AtL.runR 2 [] [2, 3, 5, 6, 39] [true, true, true, true, true] ([(2, .pointer (some ⟨B3, 0, none⟩)), (3, .pointer (some ⟨(B3 + 1), 0, none⟩)), (5, .int .i64 (fitsK r_2 r_3)), (6, .int .i64 (weighE r_2 r_3)), (39, .bool (!r_54))]) [] [] (fun _ => by as_aux_lemma => kernel_rfl) trivial ?_
          refine AtL.nil (by kernel_rfl) ?_
          exact Ends.mid (!r_54) (Option.some.inj h).symm (by kernel_rfl) (by kernel_rfl)
        · have h := br_f h hc53
          refine AtL.runR 7 [] [2, 3, 5, 6, 39] [true, true, true, true, true] ([(2, .pointer (some ⟨B3, 0, none⟩)), (3, .pointer (some ⟨(B3 + 1), 0, none⟩)), (5, .int .i64 (fitsK r_2 r_3)), (6, .int .i64 (weighE r_2 r_3)), (39, .bool false)]) [] [] (fun _ => by as_aux_lemma => kernel_rfl) trivial ?_
          refine AtL.nil (by kernel_rfl) ?_
          exact Ends.mid false (Option.some.inj h).symm (by kernel_rfl) (by kernel_rfl)
      · have h := br_f h hc52
        refine AtL.runR 11 [] [2, 3, 5, 6, 39] [true, true, true, true, true] ([(2, .pointer (some ⟨B3, 0, none⟩)), (3, .pointer (some ⟨(B3 + 1), 0, none⟩)), (5, .int .i64 (fitsK r_2 r_3)), (6, .int .i64 (weighE r_2 r_3)), (39, .bool false)]) [] [] (fun _ => by as_aux_lemma => kernel_rfl) trivial ?_
        refine AtL.nil (by kernel_rfl) ?_
        exact Ends.mid false (Option.some.inj h).symm (by kernel_rfl) (by kernel_rfl)
    · revert hI; revert s; intro t39 hI
      replace hI : o6 = t39 := hI
      have h := hr6
      try rw [hI] at h
      refine At.cond (t39) (by kernel_rfl) (fun hc7 => ?_) (fun hc7 => ?_)
      · have h := br_t h hc7
        refine At.runR [] [4] [true, true, true, true, true] (.ret) ([(4, .bool false)]) [] [] (fun _ => by as_aux_lemma => kernel_rfl) trivial ?_
        refine Ends.then_ret ?_
        refine Ends.body [] (.bool false) [] (by kernel_rfl) (fun w9 hRep => ?_)
        obtain rfl := Option.some.inj h
        exact ⟨rfl, hRep.ext⟩
      · have h := br_f h hc7
        refine At.runR [] [2, 3, 5, 6] [true, true, true, true, true] (.normal) ([(2, .pointer (some ⟨B3, 0, none⟩)), (3, .pointer (some ⟨(B3 + 1), 0, none⟩)), (5, .int .i64 (fitsK r_2 r_3)), (6, .int .i64 (weighE r_2 r_3))]) [] [] (fun _ => by as_aux_lemma => kernel_rfl) trivial ?_
        refine Ends.seq ?_
        refine At.seq ?_
        refine At.region ?_
        refine AtL.runR 1 [(3, 0, 0), (3, 1, 0), (3, 2, 0), (3, 3, 0), (3, 4, 0), (3, 5, 0), (3, 6, 0), (3, 7, 0), (3, 8, 0)] [2, 3, 5, 6, 41] [true, true, true, true, true] ([(2, .pointer (some ⟨B3, 0, none⟩)), (3, .pointer (some ⟨(B3 + 1), 0, none⟩)), (5, .int .i64 (fitsK r_2 r_3)), (6, .int .i64 (weighE r_2 r_3)), (41, .agg #[.slice a1 p.lots.length c1, .int .i64 p.mass.lo, .int .i64 p.mass.hi, .int .i64 p.target.a.lo, .int .i64 p.target.a.hi, .int .i64 p.target.b.lo, .int .i64 p.target.b.hi, .int .i64 p.target.c.lo, .int .i64 p.target.c.hi])]) [B3, 0, B3, 1, B3, 2, B3, 3, B3, 4, B3, 5, B3, 6, B3, 7, B3, 8] [] (fun _ => by as_aux_lemma => kernel_rfl) trivial ?_
        obtain ⟨r_8, hs51, h⟩ := bd h
        refine AtL.call 13 #[.agg #[.slice a1 p.lots.length c1, .int .i64 p.mass.lo, .int .i64 p.mass.hi, .int .i64 p.target.a.lo, .int .i64 p.target.a.hi, .int .i64 p.target.b.lo, .int .i64 p.target.b.hi, .int .i64 p.target.c.lo, .int .i64 p.target.c.hi]] (some 42) (by kernel_rfl) _ (fun w8 hRep => lown_w F p a1 c1 w8 (hRep.toSl 2 rfl hs1.le hs1.big) _ hs51) ?_
        rintro w8 e w9 hRep ⟨a_9, c_10, rfl, hE⟩
        refine ⟨_, _, _, rfl, rfl, hRep.join hE (by simp [Ent.looks, Ent.mut]), ?_⟩
        refine AtL.freeze 3 B3 28 [.slice a1 p.lots.length c1, .int .i64 p.mass.lo, .int .i64 p.mass.hi, .int .i64 p.target.a.lo, .int .i64 p.target.a.hi, .int .i64 p.target.b.lo, .int .i64 p.target.b.hi, .int .i64 p.target.c.lo, .int .i64 p.target.c.hi] (by kernel_rfl) ?_
        refine AtL.freeze 4 (B3 + 1) 70 [.slice a2 g.counts.length c2, .slice a3 g.places.length c3] (by kernel_rfl) ?_
        refine AtL.freezeOw 5 Lot.cells Lot.zero a_9 c_10 43 9 r_8.lots (by kernel_rfl) xlen43 (fun hf11l hf11b => ?_)
        refine AtL.fit [2, 3, 5, 6, 41, 42] ([(2, .pointer (some ⟨B3, 0, none⟩)), (3, .pointer (some ⟨(B3 + 1), 0, none⟩)), (5, .int .i64 (fitsK r_2 r_3)), (6, .int .i64 (weighE r_2 r_3)), (41, .agg #[.slice a1 p.lots.length c1, .int .i64 p.mass.lo, .int .i64 p.mass.hi, .int .i64 p.target.a.lo, .int .i64 p.target.a.hi, .int .i64 p.target.b.lo, .int .i64 p.target.b.hi, .int .i64 p.target.c.lo, .int .i64 p.target.c.hi]), (42, .agg #[.slice a_9 r_8.lots.length c_10, .int .i64 r_8.mass.lo, .int .i64 r_8.mass.hi, .int .i64 r_8.target.a.lo, .int .i64 r_8.target.a.hi, .int .i64 r_8.target.b.lo, .int .i64 r_8.target.b.hi, .int .i64 r_8.target.c.lo, .int .i64 r_8.target.c.hi])]) ([.sl a3 3 g.places.length (fun i_ => Plc3.cells (nth g.places Plc3.zero i_)), .sl a2 1 g.counts.length (fun i_ => intCells (nth g.counts 0 i_)), .sl a1 9 p.lots.length (fun i_ => Lot.cells (nth p.lots Lot.zero i_)), .sl (some ⟨B3, 0, none⟩) 9 1 (fun _ => [.slice a1 p.lots.length c1, .int .i64 p.mass.lo, .int .i64 p.mass.hi, .int .i64 p.target.a.lo, .int .i64 p.target.a.hi, .int .i64 p.target.b.lo, .int .i64 p.target.b.hi, .int .i64 p.target.c.lo, .int .i64 p.target.c.hi]), .sl (some ⟨(B3 + 1), 0, none⟩) 2 1 (fun _ => [.slice a2 g.counts.length c2, .slice a3 g.places.length c3]), .sl a_9 9 r_8.lots.length (fun i_ => Lot.cells (nth r_8.lots Lot.zero i_))]) (by kernel_rfl) (by kernel_rfl) ?_
        refine AtL.call 24 #[.agg #[.slice a_9 r_8.lots.length c_10, .int .i64 r_8.mass.lo, .int .i64 r_8.mass.hi, .int .i64 r_8.target.a.lo, .int .i64 r_8.target.a.hi, .int .i64 r_8.target.b.lo, .int .i64 r_8.target.b.hi, .int .i64 r_8.target.c.lo, .int .i64 r_8.target.c.hi]] (some 43) (by kernel_rfl) _ (fun w8 hRep => best_c r_8 a_9 c_10 w8 (hRep.toSl 5 rfl hf11l hf11b)) ?_
        rintro w8 e w9 hRep ⟨a_13, c_14, rfl, hs12, hE⟩
        refine ⟨_, _, _, rfl, rfl, hRep.addSl hE (by simp [Ent.mut]) 0 hs12, ?_⟩
        refine AtL.runR 7 [] [2, 3, 5, 6, 7, 8, 9] [true, true, true, true, true, true, true] ([(2, .pointer (some ⟨B3, 0, none⟩)), (3, .pointer (some ⟨(B3 + 1), 0, none⟩)), (5, .int .i64 (fitsK r_2 r_3)), (6, .int .i64 (weighE r_2 r_3)), (7, .slice a_13 ((stL (bestM r_8)).length) c_14), (8, .int .i64 (stC (bestM r_8))), (9, .int .i64 (bestE r_8))]) [] [] (fun _ => by as_aux_lemma => kernel_rfl) trivial ?_
        refine AtL.nil (by kernel_rfl) ?_
        refine Ends.seq ?_
        refine At.seq ?_
        refine At.seq ?_
        refine At.runR [] [2, 3, 5, 6, 7, 8, 9, 48] [true, true, true, true, true, true, true] (.normal) ([(2, .pointer (some ⟨B3, 0, none⟩)), (3, .pointer (some ⟨(B3 + 1), 0, none⟩)), (5, .int .i64 (fitsK r_2 r_3)), (6, .int .i64 (weighE r_2 r_3)), (7, .slice a_13 ((stL (bestM r_8)).length) c_14), (8, .int .i64 (stC (bestM r_8))), (9, .int .i64 (bestE r_8)), (48, .bool ((bestE r_8) != (0 : Int)))]) [] [] (fun _ => by as_aux_lemma => kernel_rfl) trivial ?_
        refine Ends.seq ?_
        refine At.cond ((bestE r_8) != (0 : Int)) (by kernel_rfl) (fun hc15 => ?_) (fun hc15 => ?_)
        · have h := br_t h hc15
          obtain ⟨o16, h, hr16⟩ := bd h
          refine At.seq_mid (σ := Bool) (fun s => o16 = s) (fun s => [(4, .bool s)]) (fun s => []) ?_ (fun s hI => ?_)
          · refine At.region ?_
            refine AtL.runR 4 [] [5, 6, 8, 9, 52] [true, true, true, true, true, true, true] ([(5, .int .i64 (fitsK r_2 r_3)), (6, .int .i64 (weighE r_2 r_3)), (8, .int .i64 (stC (bestM r_8))), (9, .int .i64 (bestE r_8)), (52, .bool (((stL (bestM r_8)).length : Int) == (0 : Int)))]) [] [] (fun _ => by as_aux_lemma => kernel_rfl) trivial ?_
            refine AtL.bool 52 (((stL (bestM r_8)).length : Int) == (0 : Int)) (by kernel_rfl) (fun hc17 => ?_) (fun hc17 => ?_)
            · have h := br_t h hc17
              refine AtL.runR 4 [] [5, 6, 9, 56] [true, true, true, true, true, true, true] ([(5, .int .i64 (fitsK r_2 r_3)), (6, .int .i64 (weighE r_2 r_3)), (9, .int .i64 (bestE r_8)), (56, .bool ((stC (bestM r_8)) == (0 : Int)))]) [] [] (fun _ => by as_aux_lemma => kernel_rfl) trivial ?_
              refine AtL.bool 56 ((stC (bestM r_8)) == (0 : Int)) (by kernel_rfl) (fun hc18 => ?_) (fun hc18 => ?_)
              · have h := br_t h hc18
                refine AtL.runR 3 [] [5, 6, 56, 59] [true, true, true, true, true, true, true] ([(5, .int .i64 (fitsK r_2 r_3)), (6, .int .i64 (weighE r_2 r_3)), (56, .bool true), (59, .bool ((bestE r_8) != (20 : Int)))]) [] [] (fun _ => by as_aux_lemma => kernel_rfl) trivial ?_
                refine AtL.bool 59 ((bestE r_8) != (20 : Int)) (by kernel_rfl) (fun hc19 => ?_) (fun hc19 => ?_)
                · have h := br_t h hc19
                  refine AtL.runR 9 [] [68] [true, true, true, true, true, true, true] ([(68, .bool true)]) [] [] (fun _ => by as_aux_lemma => kernel_rfl) trivial ?_
                  refine AtL.call 12 #[] (some 69) (by kernel_rfl) _ (fun w8 hRep => known_c w8) ?_
                  rintro w8 e w9 hRep ⟨rfl, hE⟩
                  refine ⟨_, _, _, rfl, rfl, hRep.ext' hE, ?_⟩
                  refine AtL.runR 2 [] [4] [true, true, true, true, true, true, true] ([(4, .bool true)]) [] [] (fun _ => by as_aux_lemma => kernel_rfl) trivial ?_
                  refine AtL.nil (by kernel_rfl) ?_
                  refine Ends.sel [4] [] ([(4, .bool true)]) ([]) (by kernel_rfl) (by kernel_rfl) (by kernel_rfl) ?_
                  exact Ends.mid true (Option.some.inj h).symm (by kernel_rfl) (by kernel_rfl)
                · have h := br_f h hc19
                  refine AtL.runR 4 [] [5, 56, 63] [true, true, true, true, true, true, true] ([(5, .int .i64 (fitsK r_2 r_3)), (56, .bool true), (63, .bool ((weighE r_2 r_3) != (0 : Int)))]) [] [] (fun _ => by as_aux_lemma => kernel_rfl) trivial ?_
                  refine AtL.bool 63 ((weighE r_2 r_3) != (0 : Int)) (by kernel_rfl) (fun hc20 => ?_) (fun hc20 => ?_)
                  · have h := br_t h hc20
                    refine AtL.runR 5 [] [68] [true, true, true, true, true, true, true] ([(68, .bool true)]) [] [] (fun _ => by as_aux_lemma => kernel_rfl) trivial ?_
                    refine AtL.call 12 #[] (some 69) (by kernel_rfl) _ (fun w8 hRep => known_c w8) ?_
                    rintro w8 e w9 hRep ⟨rfl, hE⟩
                    refine ⟨_, _, _, rfl, rfl, hRep.ext' hE, ?_⟩
                    refine AtL.runR 2 [] [4] [true, true, true, true, true, true, true] ([(4, .bool true)]) [] [] (fun _ => by as_aux_lemma => kernel_rfl) trivial ?_
                    refine AtL.nil (by kernel_rfl) ?_
                    refine Ends.sel [4] [] ([(4, .bool true)]) ([]) (by kernel_rfl) (by kernel_rfl) (by kernel_rfl) ?_
                    exact Ends.mid true (Option.some.inj h).symm (by kernel_rfl) (by kernel_rfl)
                  · have h := br_f h hc20
                    refine AtL.runR 5 [] [68] [true, true, true, true, true, true, true] ([(68, .bool ((fitsK r_2 r_3) != ((-1) : Int)))]) [] [] (fun _ => by as_aux_lemma => kernel_rfl) trivial ?_
                    refine AtL.bool 68 ((fitsK r_2 r_3) != ((-1) : Int)) (by kernel_rfl) (fun hc21 => ?_) (fun hc21 => ?_)
                    · have h := br_t h hc21
                      refine AtL.call 12 #[] (some 69) (by kernel_rfl) _ (fun w8 hRep => known_c w8) ?_
                      rintro w8 e w9 hRep ⟨rfl, hE⟩
                      refine ⟨_, _, _, rfl, rfl, hRep.ext' hE, ?_⟩
                      refine AtL.runR 2 [] [4] [true, true, true, true, true, true, true] ([(4, .bool true)]) [] [] (fun _ => by as_aux_lemma => kernel_rfl) trivial ?_
                      refine AtL.nil (by kernel_rfl) ?_
                      refine Ends.sel [4] [] ([(4, .bool true)]) ([]) (by kernel_rfl) (by kernel_rfl) (by kernel_rfl) ?_
                      exact Ends.mid true (Option.some.inj h).symm (by kernel_rfl) (by kernel_rfl)
                    · have h := br_f h hc21
                      refine AtL.runR 3 [] [4] [true, true, true, true, true, true, true] ([(4, .bool false)]) [] [] (fun _ => by as_aux_lemma => kernel_rfl) trivial ?_
                      refine AtL.nil (by kernel_rfl) ?_
                      refine Ends.sel [4] [] ([(4, .bool false)]) ([]) (by kernel_rfl) (by kernel_rfl) (by kernel_rfl) ?_
                      exact Ends.mid false (Option.some.inj h).symm (by kernel_rfl) (by kernel_rfl)
              · have h := br_f h hc18
                refine AtL.runR 15 [] [4] [true, true, true, true, true, true, true] ([(4, .bool false)]) [] [] (fun _ => by as_aux_lemma => kernel_rfl) trivial ?_
                refine AtL.nil (by kernel_rfl) ?_
                refine Ends.sel [4] [] ([(4, .bool false)]) ([]) (by kernel_rfl) (by kernel_rfl) (by kernel_rfl) ?_
                exact Ends.mid false (Option.some.inj h).symm (by kernel_rfl) (by kernel_rfl)
            · have h := br_f h hc17
              refine AtL.runR 19 [] [4] [true, true, true, true, true, true, true] ([(4, .bool false)]) [] [] (fun _ => by as_aux_lemma => kernel_rfl) trivial ?_
              refine AtL.nil (by kernel_rfl) ?_
              refine Ends.sel [4] [] ([(4, .bool false)]) ([]) (by kernel_rfl) (by kernel_rfl) (by kernel_rfl) ?_
              exact Ends.mid false (Option.some.inj h).symm (by kernel_rfl) (by kernel_rfl)
          · revert hI; revert s; intro t4 hI
            replace hI : o16 = t4 := hI
            have h := hr16
            try rw [hI] at h
            refine At.runR [] [4] [] (.ret) ([(4, .bool t4)]) [] [] (fun _ => by as_aux_lemma => kernel_rfl) trivial ?_
            refine Ends.then_ret ?_
            refine Ends.body [] (.bool t4) [] (by kernel_rfl) (fun w9 hRep => ?_)
            obtain rfl := Option.some.inj h
            exact ⟨rfl, hRep.ext⟩
        · have h := br_f h hc15
          refine At.runR [] [2, 3, 5, 6, 7, 8] [true, true, true, true, true, true, true] (.normal) ([(2, .pointer (some ⟨B3, 0, none⟩)), (3, .pointer (some ⟨(B3 + 1), 0, none⟩)), (5, .int .i64 (fitsK r_2 r_3)), (6, .int .i64 (weighE r_2 r_3)), (7, .slice a_13 ((stL (bestM r_8)).length) c_14), (8, .int .i64 (stC (bestM r_8)))]) [] [] (fun _ => by as_aux_lemma => kernel_rfl) trivial ?_
          refine Ends.seq ?_
          refine At.seq ?_
          obtain ⟨o22, h, hr22⟩ := bd h
          refine At.seq_mid (σ := Bool) (fun s => o22 = s) (fun s => [(2, .pointer (some ⟨B3, 0, none⟩)), (3, .pointer (some ⟨(B3 + 1), 0, none⟩)), (5, .int .i64 (fitsK r_2 r_3)), (6, .int .i64 (weighE r_2 r_3)), (7, .slice a_13 ((stL (bestM r_8)).length) c_14), (8, .int .i64 (stC (bestM r_8))), (95, .bool s)]) (fun s => [.sl a3 3 g.places.length (fun i_ => Plc3.cells (nth g.places Plc3.zero i_)), .sl a2 1 g.counts.length (fun i_ => intCells (nth g.counts 0 i_)), .sl a1 9 p.lots.length (fun i_ => Lot.cells (nth p.lots Lot.zero i_)), .sl (some ⟨B3, 0, none⟩) 9 1 (fun _ => [.slice a1 p.lots.length c1, .int .i64 p.mass.lo, .int .i64 p.mass.hi, .int .i64 p.target.a.lo, .int .i64 p.target.a.hi, .int .i64 p.target.b.lo, .int .i64 p.target.b.hi, .int .i64 p.target.c.lo, .int .i64 p.target.c.hi]), .sl (some ⟨(B3 + 1), 0, none⟩) 2 1 (fun _ => [.slice a2 g.counts.length c2, .slice a3 g.places.length c3]), .sl a_13 1 ((stL (bestM r_8)).length) (fun i_ => intCells (nth (stL (bestM r_8)) 0 i_))]) ?_ (fun s hI => ?_)
          · refine At.region ?_
            refine AtL.runR 7 [(3, 0, 0)] [2, 3, 5, 6, 7, 8, 77] [true, true, true, true, true, true, true] ([(2, .pointer (some ⟨B3, 0, none⟩)), (3, .pointer (some ⟨(B3 + 1), 0, none⟩)), (5, .int .i64 (fitsK r_2 r_3)), (6, .int .i64 (weighE r_2 r_3)), (7, .slice a_13 ((stL (bestM r_8)).length) c_14), (8, .int .i64 (stC (bestM r_8))), (77, .bool (((stL (bestM r_8)).length : Int) != (p.lots.length : Int)))]) [B3, 0] [0 < 1] (fun _ => by as_aux_lemma => kernel_rfl) ⟨Nat.one_pos, trivial⟩ ?_
            refine AtL.bool 77 (((stL (bestM r_8)).length : Int) != (p.lots.length : Int)) (by kernel_rfl) (fun hc42 => ?_) (fun hc42 => ?_)
            · have h := br_t h hc42
              refine AtL.runR 18 [] [2, 3, 5, 6, 7, 8, 95] [true, true, true, true, true, true, true] ([(2, .pointer (some ⟨B3, 0, none⟩)), (3, .pointer (some ⟨(B3 + 1), 0, none⟩)), (5, .int .i64 (fitsK r_2 r_3)), (6, .int .i64 (weighE r_2 r_3)), (7, .slice a_13 ((stL (bestM r_8)).length) c_14), (8, .int .i64 (stC (bestM r_8))), (95, .bool true)]) [] [] (fun _ => by as_aux_lemma => kernel_rfl) trivial ?_
              refine AtL.nil (by kernel_rfl) ?_
              refine Ends.sel [2, 3, 5, 6, 7, 8, 95] [0, 1, 2, 3, 4, 6] ([(2, .pointer (some ⟨B3, 0, none⟩)), (3, .pointer (some ⟨(B3 + 1), 0, none⟩)), (5, .int .i64 (fitsK r_2 r_3)), (6, .int .i64 (weighE r_2 r_3)), (7, .slice a_13 ((stL (bestM r_8)).length) c_14), (8, .int .i64 (stC (bestM r_8))), (95, .bool true)]) ([.sl a3 3 g.places.length (fun i_ => Plc3.cells (nth g.places Plc3.zero i_)), .sl a2 1 g.counts.length (fun i_ => intCells (nth g.counts 0 i_)), .sl a1 9 p.lots.length (fun i_ => Lot.cells (nth p.lots Lot.zero i_)), .sl (some ⟨B3, 0, none⟩) 9 1 (fun _ => [.slice a1 p.lots.length c1, .int .i64 p.mass.lo, .int .i64 p.mass.hi, .int .i64 p.target.a.lo, .int .i64 p.target.a.hi, .int .i64 p.target.b.lo, .int .i64 p.target.b.hi, .int .i64 p.target.c.lo, .int .i64 p.target.c.hi]), .sl (some ⟨(B3 + 1), 0, none⟩) 2 1 (fun _ => [.slice a2 g.counts.length c2, .slice a3 g.places.length c3]), .sl a_13 1 ((stL (bestM r_8)).length) (fun i_ => intCells (nth (stL (bestM r_8)) 0 i_))]) (by kernel_rfl) (by kernel_rfl) (by kernel_rfl) ?_
              exact Ends.mid true (Option.some.inj h).symm (by kernel_rfl) (by kernel_rfl)
            · have h := br_f h hc42
              refine AtL.runR 1 [] [2, 3, 5, 6, 7, 8, 77, 78] [true, true, true, true, true, true, true] ([(2, .pointer (some ⟨B3, 0, none⟩)), (3, .pointer (some ⟨(B3 + 1), 0, none⟩)), (5, .int .i64 (fitsK r_2 r_3)), (6, .int .i64 (weighE r_2 r_3)), (7, .slice a_13 ((stL (bestM r_8)).length) c_14), (8, .int .i64 (stC (bestM r_8))), (77, .bool false), (78, .slice a_13 ((stL (bestM r_8)).length) c_14)]) [] [] (fun _ => by as_aux_lemma => kernel_rfl) trivial ?_
              obtain ⟨r_43, hs50, h⟩ := bd h
              refine AtL.call 34 #[.slice a_13 ((stL (bestM r_8)).length) c_14] (some 79) (by kernel_rfl) _ (fun w8 hRep => lpieces_w F (stL (bestM r_8)) a_13 c_14 w8 (hRep.toSl 6 rfl hs12.le hs12.big) _ hs50) ?_
              rintro w8 e w9 hRep ⟨rfl, hE⟩
              refine ⟨_, _, _, rfl, rfl, hRep.ext' hE, ?_⟩
              refine AtL.runR 3 [] [2, 3, 5, 6, 7, 8, 82] [true, true, true, true, true, true, true] ([(2, .pointer (some ⟨B3, 0, none⟩)), (3, .pointer (some ⟨(B3 + 1), 0, none⟩)), (5, .int .i64 (fitsK r_2 r_3)), (6, .int .i64 (weighE r_2 r_3)), (7, .slice a_13 ((stL (bestM r_8)).length) c_14), (8, .int .i64 (stC (bestM r_8))), (82, .bool (decide (r_43 > (6000 : Int))))]) [] [] (fun _ => by as_aux_lemma => kernel_rfl) trivial ?_
              refine AtL.bool 82 (decide (r_43 > (6000 : Int))) (by kernel_rfl) (fun hc44 => ?_) (fun hc44 => ?_)
              · have h := br_t h hc44
                refine AtL.runR 13 [] [2, 3, 5, 6, 7, 8, 95] [true, true, true, true, true, true, true] ([(2, .pointer (some ⟨B3, 0, none⟩)), (3, .pointer (some ⟨(B3 + 1), 0, none⟩)), (5, .int .i64 (fitsK r_2 r_3)), (6, .int .i64 (weighE r_2 r_3)), (7, .slice a_13 ((stL (bestM r_8)).length) c_14), (8, .int .i64 (stC (bestM r_8))), (95, .bool true)]) [] [] (fun _ => by as_aux_lemma => kernel_rfl) trivial ?_
                refine AtL.nil (by kernel_rfl) ?_
                refine Ends.sel [2, 3, 5, 6, 7, 8, 95] [0, 1, 2, 3, 4, 6] ([(2, .pointer (some ⟨B3, 0, none⟩)), (3, .pointer (some ⟨(B3 + 1), 0, none⟩)), (5, .int .i64 (fitsK r_2 r_3)), (6, .int .i64 (weighE r_2 r_3)), (7, .slice a_13 ((stL (bestM r_8)).length) c_14), (8, .int .i64 (stC (bestM r_8))), (95, .bool true)]) ([.sl a3 3 g.places.length (fun i_ => Plc3.cells (nth g.places Plc3.zero i_)), .sl a2 1 g.counts.length (fun i_ => intCells (nth g.counts 0 i_)), .sl a1 9 p.lots.length (fun i_ => Lot.cells (nth p.lots Lot.zero i_)), .sl (some ⟨B3, 0, none⟩) 9 1 (fun _ => [.slice a1 p.lots.length c1, .int .i64 p.mass.lo, .int .i64 p.mass.hi, .int .i64 p.target.a.lo, .int .i64 p.target.a.hi, .int .i64 p.target.b.lo, .int .i64 p.target.b.hi, .int .i64 p.target.c.lo, .int .i64 p.target.c.hi]), .sl (some ⟨(B3 + 1), 0, none⟩) 2 1 (fun _ => [.slice a2 g.counts.length c2, .slice a3 g.places.length c3]), .sl a_13 1 ((stL (bestM r_8)).length) (fun i_ => intCells (nth (stL (bestM r_8)) 0 i_))]) (by kernel_rfl) (by kernel_rfl) (by kernel_rfl) ?_
                exact Ends.mid true (Option.some.inj h).symm (by kernel_rfl) (by kernel_rfl)
              · have h := br_f h hc44
                refine AtL.runR 3 [(3, 0, 0), (3, 1, 0), (3, 2, 0), (3, 3, 0), (3, 4, 0), (3, 5, 0), (3, 6, 0), (3, 7, 0), (3, 8, 0)] [2, 3, 5, 6, 7, 8, 82, 83, 84, 85] [true, true, true, true, true, true, true] ([(2, .pointer (some ⟨B3, 0, none⟩)), (3, .pointer (some ⟨(B3 + 1), 0, none⟩)), (5, .int .i64 (fitsK r_2 r_3)), (6, .int .i64 (weighE r_2 r_3)), (7, .slice a_13 ((stL (bestM r_8)).length) c_14), (8, .int .i64 (stC (bestM r_8))), (82, .bool false), (83, .int .i64 (stC (bestM r_8))), (84, .agg #[.slice a1 p.lots.length c1, .int .i64 p.mass.lo, .int .i64 p.mass.hi, .int .i64 p.target.a.lo, .int .i64 p.target.a.hi, .int .i64 p.target.b.lo, .int .i64 p.target.b.hi, .int .i64 p.target.c.lo, .int .i64 p.target.c.hi]), (85, .slice a_13 ((stL (bestM r_8)).length) c_14)]) [B3, 0, B3, 1, B3, 2, B3, 3, B3, 4, B3, 5, B3, 6, B3, 7, B3, 8] [0 < 1, 0 < 1, 0 < 1, 0 < 1, 0 < 1, 0 < 1, 0 < 1, 0 < 1, 0 < 1] (fun _ => by as_aux_lemma => kernel_rfl) ⟨Nat.one_pos, Nat.one_pos, Nat.one_pos, Nat.one_pos, Nat.one_pos, Nat.one_pos, Nat.one_pos, Nat.one_pos, Nat.one_pos, trivial⟩ ?_
                obtain ⟨r_45, hs49, h⟩ := bd h
                refine AtL.call 35 #[.agg #[.slice a1 p.lots.length c1, .int .i64 p.mass.lo, .int .i64 p.mass.hi, .int .i64 p.target.a.lo, .int .i64 p.target.a.hi, .int .i64 p.target.b.lo, .int .i64 p.target.b.hi, .int .i64 p.target.c.lo, .int .i64 p.target.c.hi], .slice a_13 ((stL (bestM r_8)).length) c_14] (some 86) (by kernel_rfl) _ (fun w8 hRep => lcost_w F p (stL (bestM r_8)) a1 c1 a_13 c_14 w8 (hRep.toSl 2 rfl hs1.le hs1.big) (hRep.toSl 6 rfl hs12.le hs12.big) _ hs49) ?_
                rintro w8 e w9 hRep ⟨rfl, hE⟩
                refine ⟨_, _, _, rfl, rfl, hRep.ext' hE, ?_⟩
                refine AtL.runR 3 [] [2, 3, 5, 6, 7, 8, 89] [true, true, true, true, true, true, true] ([(2, .pointer (some ⟨B3, 0, none⟩)), (3, .pointer (some ⟨(B3 + 1), 0, none⟩)), (5, .int .i64 (fitsK r_2 r_3)), (6, .int .i64 (weighE r_2 r_3)), (7, .slice a_13 ((stL (bestM r_8)).length) c_14), (8, .int .i64 (stC (bestM r_8))), (89, .bool ((stC (bestM r_8)) != r_45))]) [] [] (fun _ => by as_aux_lemma => kernel_rfl) trivial ?_
                refine AtL.bool 89 ((stC (bestM r_8)) != r_45) (by kernel_rfl) (fun hc46 => ?_) (fun hc46 => ?_)
                · have h := br_t h hc46
                  refine AtL.runR 6 [] [2, 3, 5, 6, 7, 8, 95] [true, true, true, true, true, true, true] ([(2, .pointer (some ⟨B3, 0, none⟩)), (3, .pointer (some ⟨(B3 + 1), 0, none⟩)), (5, .int .i64 (fitsK r_2 r_3)), (6, .int .i64 (weighE r_2 r_3)), (7, .slice a_13 ((stL (bestM r_8)).length) c_14), (8, .int .i64 (stC (bestM r_8))), (95, .bool true)]) [] [] (fun _ => by as_aux_lemma => kernel_rfl) trivial ?_
                  refine AtL.nil (by kernel_rfl) ?_
                  refine Ends.sel [2, 3, 5, 6, 7, 8, 95] [0, 1, 2, 3, 4, 6] ([(2, .pointer (some ⟨B3, 0, none⟩)), (3, .pointer (some ⟨(B3 + 1), 0, none⟩)), (5, .int .i64 (fitsK r_2 r_3)), (6, .int .i64 (weighE r_2 r_3)), (7, .slice a_13 ((stL (bestM r_8)).length) c_14), (8, .int .i64 (stC (bestM r_8))), (95, .bool true)]) ([.sl a3 3 g.places.length (fun i_ => Plc3.cells (nth g.places Plc3.zero i_)), .sl a2 1 g.counts.length (fun i_ => intCells (nth g.counts 0 i_)), .sl a1 9 p.lots.length (fun i_ => Lot.cells (nth p.lots Lot.zero i_)), .sl (some ⟨B3, 0, none⟩) 9 1 (fun _ => [.slice a1 p.lots.length c1, .int .i64 p.mass.lo, .int .i64 p.mass.hi, .int .i64 p.target.a.lo, .int .i64 p.target.a.hi, .int .i64 p.target.b.lo, .int .i64 p.target.b.hi, .int .i64 p.target.c.lo, .int .i64 p.target.c.hi]), .sl (some ⟨(B3 + 1), 0, none⟩) 2 1 (fun _ => [.slice a2 g.counts.length c2, .slice a3 g.places.length c3]), .sl a_13 1 ((stL (bestM r_8)).length) (fun i_ => intCells (nth (stL (bestM r_8)) 0 i_))]) (by kernel_rfl) (by kernel_rfl) (by kernel_rfl) ?_
                  exact Ends.mid true (Option.some.inj h).symm (by kernel_rfl) (by kernel_rfl)
                · have h := br_f h hc46
                  refine AtL.runR 3 [(3, 0, 0), (3, 1, 0), (3, 2, 0), (3, 3, 0), (3, 4, 0), (3, 5, 0), (3, 6, 0), (3, 7, 0), (3, 8, 0), (4, 0, 0), (4, 1, 0)] [2, 3, 5, 6, 7, 8, 89, 90, 91, 92] [true, true, true, true, true, true, true] ([(2, .pointer (some ⟨B3, 0, none⟩)), (3, .pointer (some ⟨(B3 + 1), 0, none⟩)), (5, .int .i64 (fitsK r_2 r_3)), (6, .int .i64 (weighE r_2 r_3)), (7, .slice a_13 ((stL (bestM r_8)).length) c_14), (8, .int .i64 (stC (bestM r_8))), (89, .bool false), (90, .agg #[.slice a1 p.lots.length c1, .int .i64 p.mass.lo, .int .i64 p.mass.hi, .int .i64 p.target.a.lo, .int .i64 p.target.a.hi, .int .i64 p.target.b.lo, .int .i64 p.target.b.hi, .int .i64 p.target.c.lo, .int .i64 p.target.c.hi]), (91, .slice a_13 ((stL (bestM r_8)).length) c_14), (92, .agg #[.slice a2 g.counts.length c2, .slice a3 g.places.length c3])]) [B3, 0, B3, 1, B3, 2, B3, 3, B3, 4, B3, 5, B3, 6, B3, 7, B3, 8, (B3 + 1), 0, (B3 + 1), 1] [0 < 1, 0 < 1, 0 < 1, 0 < 1, 0 < 1, 0 < 1, 0 < 1, 0 < 1, 0 < 1, 0 < 1, 0 < 1] (fun _ => by as_aux_lemma => kernel_rfl) ⟨Nat.one_pos, Nat.one_pos, Nat.one_pos, Nat.one_pos, Nat.one_pos, Nat.one_pos, Nat.one_pos, Nat.one_pos, Nat.one_pos, Nat.one_pos, Nat.one_pos, trivial⟩ ?_
                  obtain ⟨r_47, hs48, h⟩ := bd h
                  refine AtL.call 33 #[.agg #[.slice a1 p.lots.length c1, .int .i64 p.mass.lo, .int .i64 p.mass.hi, .int .i64 p.target.a.lo, .int .i64 p.target.a.hi, .int .i64 p.target.b.lo, .int .i64 p.target.b.hi, .int .i64 p.target.c.lo, .int .i64 p.target.c.hi], .slice a_13 ((stL (bestM r_8)).length) c_14, .agg #[.slice a2 g.counts.length c2, .slice a3 g.places.length c3]] (some 93) (by kernel_rfl) _ (fun w8 hRep => ltruly_w F p (stL (bestM r_8)) g a1 c1 a_13 c_14 a2 c2 a3 c3 w8 (hRep.toSl 2 rfl hs1.le hs1.big) (hRep.toSl 6 rfl hs12.le hs12.big) (hRep.toSl 1 rfl hs2.le hs2.big) (hRep.toSl 0 rfl hs3.le hs3.big) _ hs48) ?_
                  rintro w8 e w9 hRep ⟨rfl, hE⟩
                  refine ⟨_, _, _, rfl, rfl, hRep.ext' hE, ?_⟩
                  refine AtL.runR 2 [] [2, 3, 5, 6, 7, 8, 95] [true, true, true, true, true, true, true] ([(2, .pointer (some ⟨B3, 0, none⟩)), (3, .pointer (some ⟨(B3 + 1), 0, none⟩)), (5, .int .i64 (fitsK r_2 r_3)), (6, .int .i64 (weighE r_2 r_3)), (7, .slice a_13 ((stL (bestM r_8)).length) c_14), (8, .int .i64 (stC (bestM r_8))), (95, .bool (!r_47))]) [] [] (fun _ => by as_aux_lemma => kernel_rfl) trivial ?_
                  refine AtL.nil (by kernel_rfl) ?_
                  refine Ends.sel [2, 3, 5, 6, 7, 8, 95] [0, 1, 2, 3, 4, 6] ([(2, .pointer (some ⟨B3, 0, none⟩)), (3, .pointer (some ⟨(B3 + 1), 0, none⟩)), (5, .int .i64 (fitsK r_2 r_3)), (6, .int .i64 (weighE r_2 r_3)), (7, .slice a_13 ((stL (bestM r_8)).length) c_14), (8, .int .i64 (stC (bestM r_8))), (95, .bool (!r_47))]) ([.sl a3 3 g.places.length (fun i_ => Plc3.cells (nth g.places Plc3.zero i_)), .sl a2 1 g.counts.length (fun i_ => intCells (nth g.counts 0 i_)), .sl a1 9 p.lots.length (fun i_ => Lot.cells (nth p.lots Lot.zero i_)), .sl (some ⟨B3, 0, none⟩) 9 1 (fun _ => [.slice a1 p.lots.length c1, .int .i64 p.mass.lo, .int .i64 p.mass.hi, .int .i64 p.target.a.lo, .int .i64 p.target.a.hi, .int .i64 p.target.b.lo, .int .i64 p.target.b.hi, .int .i64 p.target.c.lo, .int .i64 p.target.c.hi]), .sl (some ⟨(B3 + 1), 0, none⟩) 2 1 (fun _ => [.slice a2 g.counts.length c2, .slice a3 g.places.length c3]), .sl a_13 1 ((stL (bestM r_8)).length) (fun i_ => intCells (nth (stL (bestM r_8)) 0 i_))]) (by kernel_rfl) (by kernel_rfl) (by kernel_rfl) ?_
                  exact Ends.mid (!r_47) (Option.some.inj h).symm (by kernel_rfl) (by kernel_rfl)
          · revert hI; revert s; intro t95 hI
            replace hI : o22 = t95 := hI
            have h := hr22
            try rw [hI] at h
            refine At.cond (t95) (by kernel_rfl) (fun hc23 => ?_) (fun hc23 => ?_)
            · have h := br_t h hc23
              refine At.runR [] [4] [true, true, true, true, true, true] (.ret) ([(4, .bool false)]) [] [] (fun _ => by as_aux_lemma => kernel_rfl) trivial ?_
              refine Ends.then_ret ?_
              refine Ends.body [] (.bool false) [] (by kernel_rfl) (fun w9 hRep => ?_)
              obtain rfl := Option.some.inj h
              exact ⟨rfl, hRep.ext⟩
            · have h := br_f h hc23
              refine At.runR [] [2, 3, 5, 6, 7, 8] [true, true, true, true, true, true] (.normal) ([(2, .pointer (some ⟨B3, 0, none⟩)), (3, .pointer (some ⟨(B3 + 1), 0, none⟩)), (5, .int .i64 (fitsK r_2 r_3)), (6, .int .i64 (weighE r_2 r_3)), (7, .slice a_13 ((stL (bestM r_8)).length) c_14), (8, .int .i64 (stC (bestM r_8)))]) [] [] (fun _ => by as_aux_lemma => kernel_rfl) trivial ?_
              refine Ends.seq ?_
              refine At.seq ?_
              refine At.region ?_
              refine AtL.runR 1 [(3, 0, 0), (3, 1, 0), (3, 2, 0), (3, 3, 0), (3, 4, 0), (3, 5, 0), (3, 6, 0), (3, 7, 0), (3, 8, 0)] [2, 3, 5, 6, 7, 8, 97] [true, true, true, true, true, true] ([(2, .pointer (some ⟨B3, 0, none⟩)), (3, .pointer (some ⟨(B3 + 1), 0, none⟩)), (5, .int .i64 (fitsK r_2 r_3)), (6, .int .i64 (weighE r_2 r_3)), (7, .slice a_13 ((stL (bestM r_8)).length) c_14), (8, .int .i64 (stC (bestM r_8))), (97, .agg #[.slice a1 p.lots.length c1, .int .i64 p.mass.lo, .int .i64 p.mass.hi, .int .i64 p.target.a.lo, .int .i64 p.target.a.hi, .int .i64 p.target.b.lo, .int .i64 p.target.b.hi, .int .i64 p.target.c.lo, .int .i64 p.target.c.hi])]) [B3, 0, B3, 1, B3, 2, B3, 3, B3, 4, B3, 5, B3, 6, B3, 7, B3, 8] [0 < 1, 0 < 1, 0 < 1, 0 < 1, 0 < 1, 0 < 1, 0 < 1, 0 < 1, 0 < 1] (fun _ => by as_aux_lemma => kernel_rfl) ⟨Nat.one_pos, Nat.one_pos, Nat.one_pos, Nat.one_pos, Nat.one_pos, Nat.one_pos, Nat.one_pos, Nat.one_pos, Nat.one_pos, trivial⟩ ?_
              obtain ⟨r_24, hs41, h⟩ := bd h
              refine AtL.call 13 #[.agg #[.slice a1 p.lots.length c1, .int .i64 p.mass.lo, .int .i64 p.mass.hi, .int .i64 p.target.a.lo, .int .i64 p.target.a.hi, .int .i64 p.target.b.lo, .int .i64 p.target.b.hi, .int .i64 p.target.c.lo, .int .i64 p.target.c.hi]] (some 98) (by kernel_rfl) _ (fun w8 hRep => lown_w F p a1 c1 w8 (hRep.toSl 2 rfl hs1.le hs1.big) _ hs41) ?_
              rintro w8 e w9 hRep ⟨a_25, c_26, rfl, hE⟩
              refine ⟨_, _, _, rfl, rfl, hRep.join hE (by simp [Ent.looks, Ent.mut]), ?_⟩
              refine AtL.runR 1 [] [2, 3, 5, 6, 8, 98, 99] [true, true, true, true, true, true, true] ([(2, .pointer (some ⟨B3, 0, none⟩)), (3, .pointer (some ⟨(B3 + 1), 0, none⟩)), (5, .int .i64 (fitsK r_2 r_3)), (6, .int .i64 (weighE r_2 r_3)), (8, .int .i64 (stC (bestM r_8))), (98, .agg #[.slice a_25 r_24.lots.length c_26, .int .i64 r_24.mass.lo, .int .i64 r_24.mass.hi, .int .i64 r_24.target.a.lo, .int .i64 r_24.target.a.hi, .int .i64 r_24.target.b.lo, .int .i64 r_24.target.b.hi, .int .i64 r_24.target.c.lo, .int .i64 r_24.target.c.hi]), (99, .slice a_13 ((stL (bestM r_8)).length) c_14)]) [] [] (fun _ => by as_aux_lemma => kernel_rfl) trivial ?_
              obtain ⟨r_27, hs40, h⟩ := bd h
              refine AtL.call 14 #[.slice a_13 ((stL (bestM r_8)).length) c_14] (some 100) (by kernel_rfl) _ (fun w8 hRep => lints_w F (stL (bestM r_8)) a_13 c_14 w8 (hRep.toSl 5 rfl hs12.le hs12.big) _ hs40) ?_
              rintro w8 e w9 hRep ⟨a_28, c_29, rfl, hE⟩
              refine ⟨_, _, _, rfl, rfl, hRep.join hE (by simp [Ent.looks, Ent.mut]), ?_⟩
              refine AtL.call 17 #[.agg #[.slice a_25 r_24.lots.length c_26, .int .i64 r_24.mass.lo, .int .i64 r_24.mass.hi, .int .i64 r_24.target.a.lo, .int .i64 r_24.target.a.hi, .int .i64 r_24.target.b.lo, .int .i64 r_24.target.b.hi, .int .i64 r_24.target.c.lo, .int .i64 r_24.target.c.hi], .slice a_28 r_27.length c_29] (some 101) (by kernel_rfl) _ (fun w8 hRep => fits_c r_24 r_27 a_25 a_28 c_26 c_29 w8 (hRep.owSl 6 rfl xlen43) (hRep.owSl 7 rfl xlen3)) ?_
              rintro w8 e w9 hRep ⟨rfl, hE⟩
              refine ⟨_, _, _, rfl, rfl, hRep.ext' hE, ?_⟩
              refine AtL.runR 5 [] [2, 3, 5, 6, 8, 10, 11] [true, true, true, true, true, true, true, true] ([(2, .pointer (some ⟨B3, 0, none⟩)), (3, .pointer (some ⟨(B3 + 1), 0, none⟩)), (5, .int .i64 (fitsK r_2 r_3)), (6, .int .i64 (weighE r_2 r_3)), (8, .int .i64 (stC (bestM r_8))), (10, .int .i64 (fitsK r_24 r_27)), (11, .int .i64 (weighE r_24 r_27))]) [] [] (fun _ => by as_aux_lemma => kernel_rfl) trivial ?_
              refine AtL.nil (by kernel_rfl) ?_
              refine Ends.seq ?_
              refine At.seq ?_
              obtain ⟨o30, h, hr30⟩ := bd h
              refine At.seq_mid (σ := Bool) (fun s => o30 = s) (fun s => [(2, .pointer (some ⟨B3, 0, none⟩)), (3, .pointer (some ⟨(B3 + 1), 0, none⟩)), (5, .int .i64 (fitsK r_2 r_3)), (6, .int .i64 (weighE r_2 r_3)), (8, .int .i64 (stC (bestM r_8))), (109, .bool s)]) (fun s => [.sl a3 3 g.places.length (fun i_ => Plc3.cells (nth g.places Plc3.zero i_)), .sl a2 1 g.counts.length (fun i_ => intCells (nth g.counts 0 i_)), .sl a1 9 p.lots.length (fun i_ => Lot.cells (nth p.lots Lot.zero i_)), .sl (some ⟨B3, 0, none⟩) 9 1 (fun _ => [.slice a1 p.lots.length c1, .int .i64 p.mass.lo, .int .i64 p.mass.hi, .int .i64 p.target.a.lo, .int .i64 p.target.a.hi, .int .i64 p.target.b.lo, .int .i64 p.target.b.hi, .int .i64 p.target.c.lo, .int .i64 p.target.c.hi]), .sl (some ⟨(B3 + 1), 0, none⟩) 2 1 (fun _ => [.slice a2 g.counts.length c2, .slice a3 g.places.length c3])]) ?_ (fun s hI => ?_)
              · refine At.region ?_
                refine AtL.runR 3 [] [2, 3, 5, 6, 8, 10, 106] [true, true, true, true, true, true, true, true] ([(2, .pointer (some ⟨B3, 0, none⟩)), (3, .pointer (some ⟨(B3 + 1), 0, none⟩)), (5, .int .i64 (fitsK r_2 r_3)), (6, .int .i64 (weighE r_2 r_3)), (8, .int .i64 (stC (bestM r_8))), (10, .int .i64 (fitsK r_24 r_27)), (106, .bool ((weighE r_24 r_27) != (0 : Int)))]) [] [] (fun _ => by as_aux_lemma => kernel_rfl) trivial ?_
                refine AtL.bool 106 ((weighE r_24 r_27) != (0 : Int)) (by kernel_rfl) (fun hc39 => ?_) (fun hc39 => ?_)
                · have h := br_t h hc39
                  refine AtL.runR 3 [] [2, 3, 5, 6, 8, 109] [true, true, true, true, true, true, true, true] ([(2, .pointer (some ⟨B3, 0, none⟩)), (3, .pointer (some ⟨(B3 + 1), 0, none⟩)), (5, .int .i64 (fitsK r_2 r_3)), (6, .int .i64 (weighE r_2 r_3)), (8, .int .i64 (stC (bestM r_8))), (109, .bool true)]) [] [] (fun _ => by as_aux_lemma => kernel_rfl) trivial ?_
                  refine AtL.nil (by kernel_rfl) ?_
                  refine Ends.sel [2, 3, 5, 6, 8, 109] [0, 1, 2, 3, 4] ([(2, .pointer (some ⟨B3, 0, none⟩)), (3, .pointer (some ⟨(B3 + 1), 0, none⟩)), (5, .int .i64 (fitsK r_2 r_3)), (6, .int .i64 (weighE r_2 r_3)), (8, .int .i64 (stC (bestM r_8))), (109, .bool true)]) ([.sl a3 3 g.places.length (fun i_ => Plc3.cells (nth g.places Plc3.zero i_)), .sl a2 1 g.counts.length (fun i_ => intCells (nth g.counts 0 i_)), .sl a1 9 p.lots.length (fun i_ => Lot.cells (nth p.lots Lot.zero i_)), .sl (some ⟨B3, 0, none⟩) 9 1 (fun _ => [.slice a1 p.lots.length c1, .int .i64 p.mass.lo, .int .i64 p.mass.hi, .int .i64 p.target.a.lo, .int .i64 p.target.a.hi, .int .i64 p.target.b.lo, .int .i64 p.target.b.hi, .int .i64 p.target.c.lo, .int .i64 p.target.c.hi]), .sl (some ⟨(B3 + 1), 0, none⟩) 2 1 (fun _ => [.slice a2 g.counts.length c2, .slice a3 g.places.length c3])]) (by kernel_rfl) (by kernel_rfl) (by kernel_rfl) ?_
                  exact Ends.mid true (Option.some.inj h).symm (by kernel_rfl) (by kernel_rfl)
                · have h := br_f h hc39
                  refine AtL.runR 3 [] [2, 3, 5, 6, 8, 109] [true, true, true, true, true, true, true, true] ([(2, .pointer (some ⟨B3, 0, none⟩)), (3, .pointer (some ⟨(B3 + 1), 0, none⟩)), (5, .int .i64 (fitsK r_2 r_3)), (6, .int .i64 (weighE r_2 r_3)), (8, .int .i64 (stC (bestM r_8))), (109, .bool ((fitsK r_24 r_27) != ((-1) : Int)))]) [] [] (fun _ => by as_aux_lemma => kernel_rfl) trivial ?_
                  refine AtL.nil (by kernel_rfl) ?_
                  refine Ends.sel [2, 3, 5, 6, 8, 109] [0, 1, 2, 3, 4] ([(2, .pointer (some ⟨B3, 0, none⟩)), (3, .pointer (some ⟨(B3 + 1), 0, none⟩)), (5, .int .i64 (fitsK r_2 r_3)), (6, .int .i64 (weighE r_2 r_3)), (8, .int .i64 (stC (bestM r_8))), (109, .bool ((fitsK r_24 r_27) != ((-1) : Int)))]) ([.sl a3 3 g.places.length (fun i_ => Plc3.cells (nth g.places Plc3.zero i_)), .sl a2 1 g.counts.length (fun i_ => intCells (nth g.counts 0 i_)), .sl a1 9 p.lots.length (fun i_ => Lot.cells (nth p.lots Lot.zero i_)), .sl (some ⟨B3, 0, none⟩) 9 1 (fun _ => [.slice a1 p.lots.length c1, .int .i64 p.mass.lo, .int .i64 p.mass.hi, .int .i64 p.target.a.lo, .int .i64 p.target.a.hi, .int .i64 p.target.b.lo, .int .i64 p.target.b.hi, .int .i64 p.target.c.lo, .int .i64 p.target.c.hi]), .sl (some ⟨(B3 + 1), 0, none⟩) 2 1 (fun _ => [.slice a2 g.counts.length c2, .slice a3 g.places.length c3])]) (by kernel_rfl) (by kernel_rfl) (by kernel_rfl) ?_
                  exact Ends.mid ((fitsK r_24 r_27) != ((-1) : Int)) (Option.some.inj h).symm (by kernel_rfl) (by kernel_rfl)
              · revert hI; revert s; intro t109 hI
                replace hI : o30 = t109 := hI
                have h := hr30
                try rw [hI] at h
                refine At.cond (t109) (by kernel_rfl) (fun hc31 => ?_) (fun hc31 => ?_)
                · have h := br_t h hc31
                  refine At.runR [] [4] [true, true, true, true, true] (.ret) ([(4, .bool false)]) [] [] (fun _ => by as_aux_lemma => kernel_rfl) trivial ?_
                  refine Ends.then_ret ?_
                  refine Ends.body [] (.bool false) [] (by kernel_rfl) (fun w9 hRep => ?_)
                  obtain rfl := Option.some.inj h
                  exact ⟨rfl, hRep.ext⟩
                · have h := br_f h hc31
                  refine At.runR [] [2, 3, 5, 6, 8] [true, true, true, true, true] (.normal) ([(2, .pointer (some ⟨B3, 0, none⟩)), (3, .pointer (some ⟨(B3 + 1), 0, none⟩)), (5, .int .i64 (fitsK r_2 r_3)), (6, .int .i64 (weighE r_2 r_3)), (8, .int .i64 (stC (bestM r_8)))]) [] [] (fun _ => by as_aux_lemma => kernel_rfl) trivial ?_
                  refine Ends.seq ?_
                  obtain ⟨o32, h, hr32⟩ := bd h
                  refine At.seq_mid (σ := Bool) (fun s => o32 = s) (fun s => [(4, .bool s)]) (fun s => []) ?_ (fun s hI => ?_)
                  · refine At.region ?_
                    refine AtL.runR 3 [] [2, 3, 5, 8, 112] [true, true, true, true, true] ([(2, .pointer (some ⟨B3, 0, none⟩)), (3, .pointer (some ⟨(B3 + 1), 0, none⟩)), (5, .int .i64 (fitsK r_2 r_3)), (8, .int .i64 (stC (bestM r_8))), (112, .bool ((weighE r_2 r_3) != (0 : Int)))]) [] [] (fun _ => by as_aux_lemma => kernel_rfl) trivial ?_
                    refine AtL.bool 112 ((weighE r_2 r_3) != (0 : Int)) (by kernel_rfl) (fun hc34 => ?_) (fun hc34 => ?_)
                    · have h := br_t h hc34
                      refine AtL.runR 12 [] [124] [true, true, true, true, true] ([(124, .bool true)]) [] [] (fun _ => by as_aux_lemma => kernel_rfl) trivial ?_
                      refine AtL.call 12 #[] (some 125) (by kernel_rfl) _ (fun w8 hRep => known_c w8) ?_
                      rintro w8 e w9 hRep ⟨rfl, hE⟩
                      refine ⟨_, _, _, rfl, rfl, hRep.ext' hE, ?_⟩
                      refine AtL.runR 2 [] [4] [true, true, true, true, true] ([(4, .bool true)]) [] [] (fun _ => by as_aux_lemma => kernel_rfl) trivial ?_
                      refine AtL.nil (by kernel_rfl) ?_
                      refine Ends.sel [4] [] ([(4, .bool true)]) ([]) (by kernel_rfl) (by kernel_rfl) (by kernel_rfl) ?_
                      exact Ends.mid true (Option.some.inj h).symm (by kernel_rfl) (by kernel_rfl)
                    · have h := br_f h hc34
                      refine AtL.runR 4 [] [2, 3, 8, 116] [true, true, true, true, true] ([(2, .pointer (some ⟨B3, 0, none⟩)), (3, .pointer (some ⟨(B3 + 1), 0, none⟩)), (8, .int .i64 (stC (bestM r_8))), (116, .bool ((fitsK r_2 r_3) != ((-1) : Int)))]) [] [] (fun _ => by as_aux_lemma => kernel_rfl) trivial ?_
                      refine AtL.bool 116 ((fitsK r_2 r_3) != ((-1) : Int)) (by kernel_rfl) (fun hc35 => ?_) (fun hc35 => ?_)
                      · have h := br_t h hc35
                        refine AtL.runR 8 [] [124] [true, true, true, true, true] ([(124, .bool true)]) [] [] (fun _ => by as_aux_lemma => kernel_rfl) trivial ?_
                        refine AtL.call 12 #[] (some 125) (by kernel_rfl) _ (fun w8 hRep => known_c w8) ?_
                        rintro w8 e w9 hRep ⟨rfl, hE⟩
                        refine ⟨_, _, _, rfl, rfl, hRep.ext' hE, ?_⟩
                        refine AtL.runR 2 [] [4] [true, true, true, true, true] ([(4, .bool true)]) [] [] (fun _ => by as_aux_lemma => kernel_rfl) trivial ?_
                        refine AtL.nil (by kernel_rfl) ?_
                        refine Ends.sel [4] [] ([(4, .bool true)]) ([]) (by kernel_rfl) (by kernel_rfl) (by kernel_rfl) ?_
                        exact Ends.mid true (Option.some.inj h).symm (by kernel_rfl) (by kernel_rfl)
                      · have h := br_f h hc35
                        refine AtL.runR 3 [(3, 0, 0), (3, 1, 0), (3, 2, 0), (3, 3, 0), (3, 4, 0), (3, 5, 0), (3, 6, 0), (3, 7, 0), (3, 8, 0), (4, 0, 0)] [8, 116, 117, 119] [true, true, true, true, true] ([(8, .int .i64 (stC (bestM r_8))), (116, .bool false), (117, .agg #[.slice a1 p.lots.length c1, .int .i64 p.mass.lo, .int .i64 p.mass.hi, .int .i64 p.target.a.lo, .int .i64 p.target.a.hi, .int .i64 p.target.b.lo, .int .i64 p.target.b.hi, .int .i64 p.target.c.lo, .int .i64 p.target.c.hi]), (119, .slice a2 g.counts.length c2)]) [B3, 0, B3, 1, B3, 2, B3, 3, B3, 4, B3, 5, B3, 6, B3, 7, B3, 8, (B3 + 1), 0] [0 < 1, 0 < 1, 0 < 1, 0 < 1, 0 < 1, 0 < 1, 0 < 1, 0 < 1, 0 < 1, 0 < 1] (fun _ => by as_aux_lemma => kernel_rfl) ⟨Nat.one_pos, Nat.one_pos, Nat.one_pos, Nat.one_pos, Nat.one_pos, Nat.one_pos, Nat.one_pos, Nat.one_pos, Nat.one_pos, Nat.one_pos, trivial⟩ ?_
                        obtain ⟨r_36, hs38, h⟩ := bd h
                        refine AtL.call 35 #[.agg #[.slice a1 p.lots.length c1, .int .i64 p.mass.lo, .int .i64 p.mass.hi, .int .i64 p.target.a.lo, .int .i64 p.target.a.hi, .int .i64 p.target.b.lo, .int .i64 p.target.b.hi, .int .i64 p.target.c.lo, .int .i64 p.target.c.hi], .slice a2 g.counts.length c2] (some 120) (by kernel_rfl) _ (fun w8 hRep => lcost_w F p g.counts a1 c1 a2 c2 w8 (hRep.toSl 2 rfl hs1.le hs1.big) (hRep.toSl 1 rfl hs2.le hs2.big) _ hs38) ?_
                        rintro w8 e w9 hRep ⟨rfl, hE⟩
                        refine ⟨_, _, _, rfl, rfl, hRep.ext' hE, ?_⟩
                        refine AtL.runR 4 [] [124] [true, true, true, true, true] ([(124, .bool (decide (r_36 ≥ (stC (bestM r_8)))))]) [] [] (fun _ => by as_aux_lemma => kernel_rfl) trivial ?_
                        refine AtL.bool 124 (decide (r_36 ≥ (stC (bestM r_8)))) (by kernel_rfl) (fun hc37 => ?_) (fun hc37 => ?_)
                        · have h := br_t h hc37
                          refine AtL.call 12 #[] (some 125) (by kernel_rfl) _ (fun w8 hRep => known_c w8) ?_
                          rintro w8 e w9 hRep ⟨rfl, hE⟩
                          refine ⟨_, _, _, rfl, rfl, hRep.ext' hE, ?_⟩
                          refine AtL.runR 2 [] [4] [true, true, true, true, true] ([(4, .bool true)]) [] [] (fun _ => by as_aux_lemma => kernel_rfl) trivial ?_
                          refine AtL.nil (by kernel_rfl) ?_
                          refine Ends.sel [4] [] ([(4, .bool true)]) ([]) (by kernel_rfl) (by kernel_rfl) (by kernel_rfl) ?_
                          exact Ends.mid true (Option.some.inj h).symm (by kernel_rfl) (by kernel_rfl)
                        · have h := br_f h hc37
                          refine AtL.runR 3 [] [4] [true, true, true, true, true] ([(4, .bool false)]) [] [] (fun _ => by as_aux_lemma => kernel_rfl) trivial ?_
                          refine AtL.nil (by kernel_rfl) ?_
                          refine Ends.sel [4] [] ([(4, .bool false)]) ([]) (by kernel_rfl) (by kernel_rfl) (by kernel_rfl) ?_
                          exact Ends.mid false (Option.some.inj h).symm (by kernel_rfl) (by kernel_rfl)
                  · revert hI; revert s; intro t433 hI
                    replace hI : o32 = t433 := hI
                    have h := hr32
                    try rw [hI] at h
                    refine At.runR [] [4] [] (.ret) ([(4, .bool t433)]) [] [] (fun _ => by as_aux_lemma => kernel_rfl) trivial ?_
                    refine Ends.body [] (.bool t433) [] (by kernel_rfl) (fun w9 hRep => ?_)
                    obtain rfl := Option.some.inj h
                    exact ⟨rfl, hRep.ext⟩
end Go.Proofs.Ytojnpaenpaobcaa
