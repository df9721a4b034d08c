/- What is laid in the package variables that this code reads: what melts may have, and two ways to choose. No condition. -/
import Derived.Test.YthmicafabimfkaaGreatDoorWYR
import Derived.Test.YthmicafabimfkaaGreatDoorWPLd
import Derived.MakeChecks
import Derived.LaidMore
import Derived.OpenShut
import Derived.Handed
import Derived.Test.YthmicafabimfkaaGreatDoorRows
namespace Go.Proofs.YthmicafabimfkaaGreatDoor
open Go.RowKit Go.Proofs Go.Proofs.YthmicafabimfkaaGreatDoor
set_option maxRecDepth 100000
section
variable {H : Type} {enc : TypeId × Value -> H} {w : World} {base : Nat} {sp : Nat -> Bool} {held : Bool}
theorem xEN {xs : List (DataW H × List MemPlace)} {ds : List (DataW H)} (h : xs.map (·.1) = ds) {i : Nat} {d : DataW H} (hi : ds[i]? = some d) : ∃ q, xs[i]? = some (d, q) := by
 rw [<- h, List.getElem?_map] at hi
 cases hx : xs[i]? with
 | none => rw [hx] at hi; cases hi
 | some x =>
  rw [hx] at hi;cases hi;exact ⟨x.2, rfl⟩
theorem xHE {fuel : Nat} {cs : List Value} {b : Bool} {q : List MemPlace} (h : DataW.trod enc Tryz.prog w base sp held fuel 4 cs = some (.lit (.bool b), q)) : cs = [.bool b] := by
 obtain ⟨b', e, e2⟩ := DataW.trod_bool Tryz.underlying4 h;cases e2;exact e
theorem det_int {fuel : Nat} {cs : List Value} {n : Int} {q : List MemPlace} (h : DataW.trod enc Tryz.prog w base sp held fuel 3 cs = some (.lit (.int .i64 n), q)) : cs = [.int .i64 n] := by
 obtain ⟨b', e, e2, _⟩ := DataW.trod_int Tryz.underlying3 h;cases e2;exact e
theorem xJ6 {fuel : Nat} {cs : List Value} {a b c : Bool} {q : List MemPlace} (h : DataW.trod enc Tryz.prog w base sp held fuel 149 cs = some (.agg [.lit (.bool a), .lit (.bool b), .lit (.bool c)], q)) : cs = [.bool a, .bool b, .bool c] := by
 obtain ⟨xs, n, _, hx, hl, _, hg⟩ := DataW.trod_struct Tryz.underlying149 h;have hm : xs.map (·.1) = [.lit (.bool a), .lit (.bool b), .lit (.bool c)] := by
  have := congrArg Prod.fst hx;simpa using this.symm
 obtain ⟨q0, e0⟩ := xEN hm (i := 0) rfl;obtain ⟨q1, e1⟩ := xEN hm (i := 1) rfl;obtain ⟨q2, e2⟩ := xEN hm (i := 2) rfl;have c0 : (cs.drop 0).take (Tryz.prog.cellsOf 4) = [.bool a] := xHE ((hg 0 _ rfl).trans e0);have c1 : (cs.drop 1).take (Tryz.prog.cellsOf 4) = [.bool b] := xHE ((hg 1 _ rfl).trans e1);have c2 : (cs.drop 2).take (Tryz.prog.cellsOf 4) = [.bool c] := xHE ((hg 2 _ rfl).trans e2);rw [show Tryz.prog.cellsOf 4 = 1 by kernel_rfl] at c0 c1 c2;rw [show Tryz.prog.cellsOf 149 = 3 by kernel_rfl] at hl;have q := parts [(0, 1), (1, 1), (2, 1)] (by decide) hl;simp only [List.map_cons, List.map_nil, List.flatten_cons, List.flatten_nil] at q;rw [q, c0, c1, c2];rfl
theorem xEg {fuel : Nat} {cs : List Value} {a : Int} {b : Bool} {q : List MemPlace} (h : DataW.trod enc Tryz.prog w base sp held fuel 177 cs = some (.agg [.lit (.int .i64 a), .lit (.bool b)], q)) : cs = [.int .i64 a, .bool b] := by
 obtain ⟨xs, n, _, hx, hl, _, hg⟩ := DataW.trod_struct Tryz.underlying177 h;have hm : xs.map (·.1) = [.lit (.int .i64 a), .lit (.bool b)] := by
  have := congrArg Prod.fst hx;simpa using this.symm
 obtain ⟨q0, e0⟩ := xEN hm (i := 0) rfl;obtain ⟨q1, e1⟩ := xEN hm (i := 1) rfl;have c0 : (cs.drop 0).take (Tryz.prog.cellsOf 3) = [.int .i64 a] := det_int ((hg 0 _ rfl).trans e0);have c1 : (cs.drop 1).take (Tryz.prog.cellsOf 4) = [.bool b] := xHE ((hg 1 _ rfl).trans e1);rw [show Tryz.prog.cellsOf 3 = 1 by kernel_rfl] at c0;rw [show Tryz.prog.cellsOf 4 = 1 by kernel_rfl] at c1;rw [show Tryz.prog.cellsOf 177 = 2 by kernel_rfl] at hl;have q := parts [(0, 1), (1, 1)] (by decide) hl;simp only [List.map_cons, List.map_nil, List.flatten_cons, List.flatten_nil] at q;rw [q, c0, c1];rfl
theorem xQU {fuel : Nat} {cs : List Value} {q : List MemPlace} (h : DataW.trod enc Tryz.prog w base sp held fuel 178 cs = some (Rows.laid_boule_melt_limits, q)) : cs = xEf 2 := by
 obtain ⟨xs, n, _, hx, hl, _, hg⟩ := DataW.trod_array Tryz.underlying178 h;have hm : xs.map (·.1) = [.agg [.lit (.int .i64 0), .lit (.bool false)], .agg [.lit (.int .i64 20000), .lit (.bool true)], .agg [.lit (.int .i64 1000000000000), .lit (.bool true)], .agg [.lit (.int .i64 1000000000000), .lit (.bool false)], .agg [.lit (.int .i64 10000), .lit (.bool false)]] := by
  have := congrArg Prod.fst hx;simpa [Rows.laid_boule_melt_limits] using this.symm
 obtain ⟨q0, e0⟩ := xEN hm (i := 0) rfl;obtain ⟨q1, e1⟩ := xEN hm (i := 1) rfl;obtain ⟨q2, e2⟩ := xEN hm (i := 2) rfl;obtain ⟨q3, e3⟩ := xEN hm (i := 3) rfl;obtain ⟨q4, e4⟩ := xEN hm (i := 4) rfl;have c0 := xEg ((hg 0 (by decide)).trans e0);have c1 := xEg ((hg 1 (by decide)).trans e1);have c2 := xEg ((hg 2 (by decide)).trans e2);have c3 := xEg ((hg 3 (by decide)).trans e3);have c4 := xEg ((hg 4 (by decide)).trans e4);rw [show Tryz.prog.cellsOf 177 = 2 by kernel_rfl] at c0 c1 c2 c3 c4;have c0' : (cs.drop 0).take 2 = _ := c0;have c1' : (cs.drop 2).take 2 = _ := c1;have c2' : (cs.drop 4).take 2 = _ := c2;have c3' : (cs.drop 6).take 2 = _ := c3;have c4' : (cs.drop 8).take 2 = _ := c4;rw [show Tryz.prog.cellsOf 178 = 10 by kernel_rfl] at hl;have q := parts [(0, 2), (2, 2), (4, 2), (6, 2), (8, 2)] (by decide) hl;simp only [List.map_cons, List.map_nil, List.flatten_cons, List.flatten_nil] at q;rw [q, c0', c1', c2', c3', c4'];rfl
end
theorem xHL {P : Program} {w : World} {n : String} {g : Nat} {cs : Array Value} (hg : P.globalNamed n = some g) (h : w.var? P n = some cs) : ∃ T f, w.heap[g]? = some (.cells cs T f) := by
 unfold World.var? at h;rw [hg] at h;simp only [Option.bind_some] at h;split at h
 ·rename_i c T f hc;exact ⟨T, f, by rw [hc, Option.some.inj h]⟩
 ·cases h
abbrev xSW : List (String × DataW Unit) := Rows.topReturnsRow.laid
theorem xPL {W : World} (h : laidMetH Tryz.prog xSW W) : gOk W := by
 rw [MakeChecks.laidMetH_plain _ _ _ (by kernel_rfl)] at h;obtain ⟨ps, ⟨g2, t2, cs2, f2, p2, q2, hg2, ht2, hv2, hd2, ⟨g1, t1, cs1, f1, p1, q1, hg1, ht1, hv1, hd1, ⟨g0, t0, cs0, f0, p0, q0, hg0, ht0, hv0, hd0, _, _⟩, _⟩, _⟩, _, _⟩ := h;obtain rfl : g2 = 2 := Option.some.inj (hg2.symm.trans (by kernel_rfl));obtain rfl : g1 = 1 := Option.some.inj (hg1.symm.trans (by kernel_rfl));obtain rfl : g0 = 0 := Option.some.inj (hg0.symm.trans (by kernel_rfl));obtain rfl : t2 = 178 := Option.some.inj (ht2.symm.trans (by kernel_rfl));obtain rfl : t1 = 149 := Option.some.inj (ht1.symm.trans (by kernel_rfl));obtain rfl : t0 = 149 := Option.some.inj (ht0.symm.trans (by kernel_rfl));obtain ⟨cs2⟩ := cs2;obtain ⟨cs1⟩ := cs1;obtain ⟨cs0⟩ := cs0;have e2 : cs2 = xEf 2 := xQU hd2;have e1 : cs1 = xEf 1 := xJ6 hd1;have e0 : cs0 = xEf 0 := xJ6 hd0;intro b hb;simp only [xLw, List.mem_cons, List.not_mem_nil, or_false] at hb;rcases hb with rfl | rfl | rfl
 ·obtain ⟨T, f, hc⟩ := xHL hg0 hv0;exact ⟨T, f, by rw [hc, e0]⟩
 ·obtain ⟨T, f, hc⟩ := xHL hg1 hv1;exact ⟨T, f, by rw [hc, e1]⟩
 ·obtain ⟨T, f, hc⟩ := xHL hg2 hv2;exact ⟨T, f, by rw [hc, e2]⟩
theorem gBlk_lt {W : World} (h : gOk W) : ∀ b ∈ xLw, b < W.heap.size := fun b hb => by
 obtain ⟨c, T, f, hc⟩ := xMV h hb;exact lt_of_block hc
end Go.Proofs.YthmicafabimfkaaGreatDoor
