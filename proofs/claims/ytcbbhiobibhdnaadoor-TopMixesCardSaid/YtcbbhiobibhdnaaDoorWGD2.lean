/- What is laid in the package variables that this code reads: what melts may have, and two ways to choose. No condition. -/
import Derived.Test.YtcbbhiobibhdnaaDoorWVA
import Derived.Test.YtcbbhiobibhdnaaDoorWYR
import Derived.Test.YtcbbhiobibhdnaaDoorWPL10
import Derived.MakeChecks
import Derived.LaidMore
import Derived.OpenShut
import Derived.Handed
import Derived.Test.YtcbbhiobibhdnaaDoorRows
namespace Go.Proofs.YtcbbhiobibhdnaaDoor
open Go.RowKit Go.Proofs Go.Proofs.YtcbbhiobibhdnaaDoor
set_option maxRecDepth 100000
section
variable {H : Type} {enc : TypeId × Value → H} {w : World} {base : Nat} {sp : Nat → Bool} {held : Bool}
theorem xEn {xs : List (DataW H × List MemPlace)} {ds : List (DataW H)} (h : xs.map (·.1) = ds) {i : Nat} {d : DataW H} (hi : ds[i]? = some d) : ∃ q, xs[i]? = some (d, q) := by
 rw [← h, List.getElem?_map] at hi
 cases hx : xs[i]? with
 | none => rw [hx] at hi; cases hi
 | some x =>
  rw [hx] at hi
  cases hi
  exact ⟨x.2, rfl⟩
theorem xGY {fuel : Nat} {cs : List Value} {b : Bool} {q : List MemPlace} (h : DataW.trod enc Tryd.prog w base sp held fuel 4 cs = some (.lit (.bool b), q)) : cs = [.bool b] := by
 obtain ⟨b', e, e2⟩ := DataW.trod_bool Tryd.underlying4 h
 cases e2
 exact e
theorem det_int {fuel : Nat} {cs : List Value} {n : Int} {q : List MemPlace} (h : DataW.trod enc Tryd.prog w base sp held fuel 3 cs = some (.lit (.int .i64 n), q)) : cs = [.int .i64 n] := by
 obtain ⟨b', e, e2, _⟩ := DataW.trod_int Tryd.underlying3 h
 cases e2
 exact e
theorem xI6 {fuel : Nat} {cs : List Value} {a b c : Bool} {q : List MemPlace} (h : DataW.trod enc Tryd.prog w base sp held fuel 140 cs = some (.agg [.lit (.bool a), .lit (.bool b), .lit (.bool c)], q)) : cs = [.bool a, .bool b, .bool c] := by
 obtain ⟨xs, n, _, hx, hl, _, hg⟩ := DataW.trod_struct Tryd.underlying140 h
 have hm : xs.map (·.1) = [.lit (.bool a), .lit (.bool b), .lit (.bool c)] := by
  have := congrArg Prod.fst hx
  simpa using this.symm
 obtain ⟨q0, e0⟩ := xEn hm (i := 0) rfl
 obtain ⟨q1, e1⟩ := xEn hm (i := 1) rfl
 obtain ⟨q2, e2⟩ := xEn hm (i := 2) rfl
 have c0 : (cs.drop 0).take (Tryd.prog.cellsOf 4) = [.bool a] := xGY ((hg 0 _ rfl).trans e0)
 have c1 : (cs.drop 1).take (Tryd.prog.cellsOf 4) = [.bool b] := xGY ((hg 1 _ rfl).trans e1)
 have c2 : (cs.drop 2).take (Tryd.prog.cellsOf 4) = [.bool c] := xGY ((hg 2 _ rfl).trans e2)
 rw [show Tryd.prog.cellsOf 4 = 1 by kernel_rfl] at c0 c1 c2
 rw [show Tryd.prog.cellsOf 140 = 3 by kernel_rfl] at hl
 have q := parts [(0, 1), (1, 1), (2, 1)] (by decide) hl
 simp only [List.map_cons, List.map_nil, List.flatten_cons, List.flatten_nil] at q
 rw [q, c0, c1, c2]
 rfl
theorem xDW {fuel : Nat} {cs : List Value} {a : Int} {b : Bool} {q : List MemPlace} (h : DataW.trod enc Tryd.prog w base sp held fuel 170 cs = some (.agg [.lit (.int .i64 a), .lit (.bool b)], q)) : cs = [.int .i64 a, .bool b] := by
 obtain ⟨xs, n, _, hx, hl, _, hg⟩ := DataW.trod_struct Tryd.underlying170 h
 have hm : xs.map (·.1) = [.lit (.int .i64 a), .lit (.bool b)] := by
  have := congrArg Prod.fst hx
  simpa using this.symm
 obtain ⟨q0, e0⟩ := xEn hm (i := 0) rfl
 obtain ⟨q1, e1⟩ := xEn hm (i := 1) rfl
 have c0 : (cs.drop 0).take (Tryd.prog.cellsOf 3) = [.int .i64 a] := det_int ((hg 0 _ rfl).trans e0)
 have c1 : (cs.drop 1).take (Tryd.prog.cellsOf 4) = [.bool b] := xGY ((hg 1 _ rfl).trans e1)
 rw [show Tryd.prog.cellsOf 3 = 1 by kernel_rfl] at c0
 rw [show Tryd.prog.cellsOf 4 = 1 by kernel_rfl] at c1
 rw [show Tryd.prog.cellsOf 170 = 2 by kernel_rfl] at hl
 have q := parts [(0, 1), (1, 1)] (by decide) hl
 simp only [List.map_cons, List.map_nil, List.flatten_cons, List.flatten_nil] at q
 rw [q, c0, c1]
 rfl
theorem xOD {fuel : Nat} {cs : List Value} {q : List MemPlace} (h : DataW.trod enc Tryd.prog w base sp held fuel 171 cs = some (Rows.laid_boule_melt_limits, q)) : cs = xDT 2 := by
 obtain ⟨xs, n, _, hx, hl, _, hg⟩ := DataW.trod_array Tryd.underlying171 h
 have hm : xs.map (·.1) = [.agg [.lit (.int .i64 0), .lit (.bool false)], .agg [.lit (.int .i64 20000), .lit (.bool true)], .agg [.lit (.int .i64 1000000000000), .lit (.bool true)], .agg [.lit (.int .i64 1000000000000), .lit (.bool false)], .agg [.lit (.int .i64 10000), .lit (.bool false)]] := by
  have := congrArg Prod.fst hx
  simpa [Rows.laid_boule_melt_limits] using this.symm
 obtain ⟨q0, e0⟩ := xEn hm (i := 0) rfl
 obtain ⟨q1, e1⟩ := xEn hm (i := 1) rfl
 obtain ⟨q2, e2⟩ := xEn hm (i := 2) rfl
 obtain ⟨q3, e3⟩ := xEn hm (i := 3) rfl
 obtain ⟨q4, e4⟩ := xEn hm (i := 4) rfl
 have c0 := xDW ((hg 0 (by decide)).trans e0)
 have c1 := xDW ((hg 1 (by decide)).trans e1)
 have c2 := xDW ((hg 2 (by decide)).trans e2)
 have c3 := xDW ((hg 3 (by decide)).trans e3)
 have c4 := xDW ((hg 4 (by decide)).trans e4)
 rw [show Tryd.prog.cellsOf 170 = 2 by kernel_rfl] at c0 c1 c2 c3 c4
 have c0' : (cs.drop 0).take 2 = _ := c0
 have c1' : (cs.drop 2).take 2 = _ := c1
 have c2' : (cs.drop 4).take 2 = _ := c2
 have c3' : (cs.drop 6).take 2 = _ := c3
 have c4' : (cs.drop 8).take 2 = _ := c4
 rw [show Tryd.prog.cellsOf 171 = 10 by kernel_rfl] at hl
 have q := parts [(0, 2), (2, 2), (4, 2), (6, 2), (8, 2)] (by decide) hl
 simp only [List.map_cons, List.map_nil, List.flatten_cons, List.flatten_nil] at q
 rw [q, c0', c1', c2', c3', c4']
 rfl
end
theorem xG6 {P : Program} {w : World} {n : String} {g : Nat} {cs : Array Value} (hg : P.globalNamed n = some g) (h : w.var? P n = some cs) : ∃ T f, w.heap[g]? = some (.cells cs T f) := by
 unfold World.var? at h
 rw [hg] at h
 simp only [Option.bind_some] at h
 split at h
 ·rename_i c T f hc
  exact ⟨T, f, by rw [hc, Option.some.inj h]⟩
 ·cases h
abbrev xP6 : List (String × DataW Unit) := Rows.topMixesRow.laid
theorem xNU {W : World} (h : laidMetH Tryd.prog xP6 W) : gOk W := by
 rw [MakeChecks.laidMetH_plain _ _ _ (by kernel_rfl)] at h
 obtain ⟨ps, ⟨g2, t2, cs2, f2, p2, q2, hg2, ht2, hv2, hd2, ⟨g1, t1, cs1, f1, p1, q1, hg1, ht1, hv1, hd1, ⟨g0, t0, cs0, f0, p0, q0, hg0, ht0, hv0, hd0, _, _⟩, _⟩, _⟩, _, _⟩ := h
 obtain rfl : g2 = 2 := Option.some.inj (hg2.symm.trans (by kernel_rfl))
 obtain rfl : g1 = 1 := Option.some.inj (hg1.symm.trans (by kernel_rfl))
 obtain rfl : g0 = 0 := Option.some.inj (hg0.symm.trans (by kernel_rfl))
 obtain rfl : t2 = 171 := Option.some.inj (ht2.symm.trans (by kernel_rfl))
 obtain rfl : t1 = 140 := Option.some.inj (ht1.symm.trans (by kernel_rfl))
 obtain rfl : t0 = 140 := Option.some.inj (ht0.symm.trans (by kernel_rfl))
 obtain ⟨cs2⟩ := cs2
 obtain ⟨cs1⟩ := cs1
 obtain ⟨cs0⟩ := cs0
 have e2 : cs2 = xDT 2 := xOD hd2
 have e1 : cs1 = xDT 1 := xI6 hd1
 have e0 : cs0 = xDT 0 := xI6 hd0
 intro b hb
 simp only [xJ9, List.mem_cons, List.not_mem_nil, or_false] at hb
 rcases hb with rfl | rfl | rfl
 ·obtain ⟨T, f, hc⟩ := xG6 hg0 hv0
  exact ⟨T, f, by rw [hc, e0]⟩
 ·obtain ⟨T, f, hc⟩ := xG6 hg1 hv1
  exact ⟨T, f, by rw [hc, e1]⟩
 ·obtain ⟨T, f, hc⟩ := xG6 hg2 hv2
  exact ⟨T, f, by rw [hc, e2]⟩
theorem gBlk_lt {W : World} (h : gOk W) : ∀ b ∈ xJ9, b < W.heap.size := fun b hb => by
 obtain ⟨c, T, f, hc⟩ := xLh h hb
 exact lt_of_block hc
end Go.Proofs.YtcbbhiobibhdnaaDoor
