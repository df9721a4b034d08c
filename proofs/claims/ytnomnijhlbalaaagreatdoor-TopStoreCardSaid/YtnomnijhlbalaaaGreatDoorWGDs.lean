/- A part of the proof of the theorem of the last file. No condition. By an AI agent. -/
import Derived.Test.YtnomnijhlbalaaaGreatDoorWNS4
import Derived.MakeChecks
import Derived.LaidMore
import Derived.Handed
import Derived.Stop.LaidErr
import Derived.Shelf.Vars
import Derived.Test.YtnomnijhlbalaaaGreatDoorRows
set_option maxRecDepth 100000
namespace Go.Proofs.YtnomnijhlbalaaaGreatDoor
section
open Go.RowKit Go.Proofs Go.Proofs.YtnomnijhlbalaaaGreatDoor
section
variable {H : Type} {enc : TypeId × Value -> H} {w : World} {base : Nat} {sp : Nat -> Bool} {held : Bool}
theorem xE4 {xs : List (DataW H × List MemPlace)} {ds : List (DataW H)} (h : xs.map (·.1) = ds) {i : Nat} {d : DataW H} (hi : ds[i]? = some d) : ∃ q, xs[i]? = some (d, q) := by
 rw [<- h, List.getElem?_map] at hi
 cases hx : xs[i]? with
 | none => rw [hx] at hi; cases hi
 | some x =>
  rw [hx] at hi;cases hi;exact ⟨x.2, rfl⟩
theorem xHF {fuel : Nat} {cs : List Value} {b : Bool} {q : List MemPlace} (h : DataW.trod enc Tryz.prog w base sp held fuel 4 cs = some (.lit (.bool b), q)) : cs = [.bool b] := by
 obtain ⟨b', e, e2⟩ := DataW.trod_bool Tryz.underlying4 h;cases e2;exact e
theorem det_int {fuel : Nat} {cs : List Value} {n : Int} {q : List MemPlace} (h : DataW.trod enc Tryz.prog w base sp held fuel 3 cs = some (.lit (.int .i64 n), q)) : cs = [.int .i64 n] := by
 obtain ⟨b', e, e2, _⟩ := DataW.trod_int Tryz.underlying3 h;cases e2;exact e
theorem xKb {fuel : Nat} {cs : List Value} {a b c : Bool} {q : List MemPlace} (h : DataW.trod enc Tryz.prog w base sp held fuel 207 cs = some (.agg [.lit (.bool a), .lit (.bool b), .lit (.bool c)], q)) : cs = [.bool a, .bool b, .bool c] := by
 obtain ⟨xs, n, _, hx, hl, _, hg⟩ := DataW.trod_struct Tryz.underlying207 h;have hm : xs.map (·.1) = [.lit (.bool a), .lit (.bool b), .lit (.bool c)] := by
  have := congrArg Prod.fst hx;simpa using this.symm
 obtain ⟨q0, e0⟩ := xE4 hm (i := 0) rfl;obtain ⟨q1, e1⟩ := xE4 hm (i := 1) rfl;obtain ⟨q2, e2⟩ := xE4 hm (i := 2) rfl;have c0 : (cs.drop 0).take (Tryz.prog.cellsOf 4) = [.bool a] := xHF ((hg 0 _ rfl).trans e0);have c1 : (cs.drop 1).take (Tryz.prog.cellsOf 4) = [.bool b] := xHF ((hg 1 _ rfl).trans e1);have c2 : (cs.drop 2).take (Tryz.prog.cellsOf 4) = [.bool c] := xHF ((hg 2 _ rfl).trans e2);rw [show Tryz.prog.cellsOf 4 = 1 by kernel_rfl] at c0 c1 c2;rw [show Tryz.prog.cellsOf 207 = 3 by kernel_rfl] at hl;have q := parts [(0, 1), (1, 1), (2, 1)] (by decide) hl;simp only [List.map_cons, List.map_nil, List.flatten_cons, List.flatten_nil] at q;rw [q, c0, c1, c2];rfl
theorem xEu {fuel : Nat} {cs : List Value} {a : Int} {b : Bool} {q : List MemPlace} (h : DataW.trod enc Tryz.prog w base sp held fuel 201 cs = some (.agg [.lit (.int .i64 a), .lit (.bool b)], q)) : cs = [.int .i64 a, .bool b] := by
 obtain ⟨xs, n, _, hx, hl, _, hg⟩ := DataW.trod_struct Tryz.underlying201 h;have hm : xs.map (·.1) = [.lit (.int .i64 a), .lit (.bool b)] := by
  have := congrArg Prod.fst hx;simpa using this.symm
 obtain ⟨q0, e0⟩ := xE4 hm (i := 0) rfl;obtain ⟨q1, e1⟩ := xE4 hm (i := 1) rfl;have c0 : (cs.drop 0).take (Tryz.prog.cellsOf 3) = [.int .i64 a] := det_int ((hg 0 _ rfl).trans e0);have c1 : (cs.drop 1).take (Tryz.prog.cellsOf 4) = [.bool b] := xHF ((hg 1 _ rfl).trans e1);rw [show Tryz.prog.cellsOf 3 = 1 by kernel_rfl] at c0;rw [show Tryz.prog.cellsOf 4 = 1 by kernel_rfl] at c1;rw [show Tryz.prog.cellsOf 201 = 2 by kernel_rfl] at hl;have q := parts [(0, 1), (1, 1)] (by decide) hl;simp only [List.map_cons, List.map_nil, List.flatten_cons, List.flatten_nil] at q;rw [q, c0, c1];rfl
theorem xRM {fuel : Nat} {cs : List Value} {q : List MemPlace} (h : DataW.trod enc Tryz.prog w base sp held fuel 202 cs = some (Rows.laid_boule_melt_limits, q)) : cs = xG1 0 := by
 obtain ⟨xs, n, _, hx, hl, _, hg⟩ := DataW.trod_array Tryz.underlying202 h;have hm : xs.map (·.1) = [.agg [.lit (.int .i64 0), .lit (.bool false)], .agg [.lit (.int .i64 20000), .lit (.bool true)], .agg [.lit (.int .i64 1000000000000), .lit (.bool true)], .agg [.lit (.int .i64 1000000000000), .lit (.bool false)], .agg [.lit (.int .i64 10000), .lit (.bool false)]] := by
  have := congrArg Prod.fst hx;simpa [Rows.laid_boule_melt_limits] using this.symm
 obtain ⟨q0, e0⟩ := xE4 hm (i := 0) rfl;obtain ⟨q1, e1⟩ := xE4 hm (i := 1) rfl;obtain ⟨q2, e2⟩ := xE4 hm (i := 2) rfl;obtain ⟨q3, e3⟩ := xE4 hm (i := 3) rfl;obtain ⟨q4, e4⟩ := xE4 hm (i := 4) rfl;have c0 := xEu ((hg 0 (by decide)).trans e0);have c1 := xEu ((hg 1 (by decide)).trans e1);have c2 := xEu ((hg 2 (by decide)).trans e2);have c3 := xEu ((hg 3 (by decide)).trans e3);have c4 := xEu ((hg 4 (by decide)).trans e4);rw [show Tryz.prog.cellsOf 201 = 2 by kernel_rfl] at c0 c1 c2 c3 c4;have c0' : (cs.drop 0).take 2 = _ := c0;have c1' : (cs.drop 2).take 2 = _ := c1;have c2' : (cs.drop 4).take 2 = _ := c2;have c3' : (cs.drop 6).take 2 = _ := c3;have c4' : (cs.drop 8).take 2 = _ := c4;rw [show Tryz.prog.cellsOf 202 = 10 by kernel_rfl] at hl;have q := parts [(0, 2), (2, 2), (4, 2), (6, 2), (8, 2)] (by decide) hl;simp only [List.map_cons, List.map_nil, List.flatten_cons, List.flatten_nil] at q;rw [q, c0', c1', c2', c3', c4'];rfl
end
theorem xR7 {P : Program} {w : World} {n : String} {g : Nat} {cs : Array Value} (hg : P.globalNamed n = some g) (h : w.var? P n = some cs) : ∃ T f, w.heap[g]? = some (.cells cs T f) := by
 unfold World.var? at h;rw [hg] at h;simp only [Option.bind_some] at h;split at h
 ·rename_i c T f hc;exact ⟨T, f, by rw [hc, Option.some.inj h]⟩
 ·cases h
theorem iface_of_trod {H : Type} {enc : TypeId × Value -> H} {P : Program} {w : World} {base : Nat} {sp : Nat -> Bool} {held : Bool} {fuel : Nat} {t : TypeId} {cs : List Value} {ms : Array (String × TypeId)} {n : String} {d : DataW H} {p : List MemPlace} (hi : P.underlying t = some (.interface ms))
  (h : DataW.trod enc P w base sp held fuel t cs = some (.iface n d, p)) : ∃ u v, cs = [.iface u v] := by
 cases fuel with
 | zero => simp [DataW.trod] at h
 | succ f =>
  rcases cs with _ | ⟨c, _ | ⟨c2, r⟩⟩
  ·simp [DataW.trod, hi] at h
  ·cases c <;> first | exact ⟨_, _, rfl⟩ | (simp [DataW.trod, hi] at h; done)
  ·simp [DataW.trod, hi] at h
theorem xJ2 {P : Program} {w : World} {n nm : String} {d : DataW Unit} {r : List (String × DataW Unit)} {g : Nat} {ti : TypeId} {ms : Array (String × TypeId)} (h : laidMet P ((n, .iface nm d) :: r) w) (hg : P.globalNamed n = some g) (ht : (P.globals[g]?).map (·.type) = some ti) (hi : P.underlying ti = some (.interface ms)) :
  ∃ u v, w.cell? ⟨g, 0, none⟩ = some (.iface u v) := by
 obtain ⟨ps, ⟨g0, t0, cs0, f0, p0, q0, hg0, ht0, hv0, hd0, _, e0⟩, _, _⟩ := h;obtain rfl := Option.some.inj (hg.symm.trans hg0);obtain rfl := Option.some.inj (ht.symm.trans ht0);obtain ⟨u, v, e⟩ := iface_of_trod hi hd0;refine ⟨u, v, ?_⟩;have := World.var?_cell hg hv0 0;rw [this];obtain ⟨l⟩ := cs0;have e : l = [.iface u v] := e;rw [e]; rfl
theorem xGI {P : Program} {w : World} {n : String} {d : DataW Unit} {r : List (String × DataW Unit)} {g ti : Nat} {l : List Value} (h : laidMet P ((n, d) :: r) w) (hg : P.globalNamed n = some g) (ht : (P.globals[g]?).map (·.type) = some ti) (hd : ∀ {base : Nat} {sp : Nat -> Bool} {held : Bool} {fuel : Nat} {cs : List Value} {q : List MemPlace} {enc : TypeId × Value -> Unit}, DataW.trod enc P w base sp held fuel ti cs = some (d, q) -> cs = l) :
  ∃ T f, w.heap[g]? = some (.cells l.toArray T f) := by
 obtain ⟨ps, ⟨g0, t0, cs0, f0, p0, q0, hg0, ht0, hv0, hd0, _, e0⟩, _, _⟩ := h;obtain rfl := Option.some.inj (hg.symm.trans hg0);obtain rfl := Option.some.inj (ht.symm.trans ht0);obtain ⟨cs⟩ := cs0;have e : cs = l := hd hd0;obtain ⟨T, f, hc⟩ := xR7 hg0 hv0;exact ⟨T, f, by rw [hc, e]⟩
abbrev xUo : List (String × DataW Unit) := Rows.topStoreRow.laid
theorem xQj {W : World} (h : laidMetH Tryz.prog xUo W) (hs : W.ShapedOpen Tryz.prog) : gOk W := by
 rw [MakeChecks.laidMetH_plain _ _ _ (by kernel_rfl)] at h;have h2 := h.tail.tail;have h4 := h2.tail.tail;have h5 := h4.tail;have h6 := h5.tail;have h7 := h6.tail;have h8 := h7.tail;refine ⟨fun b hb => ?_, ?_, ?_, ?_, ?_⟩
 ·simp only [gT, List.mem_cons, List.not_mem_nil, or_false] at hb;rcases hb with rfl | rfl | rfl
  ·exact xGI (g := 0) (ti := 202) h4 (by kernel_rfl) (by kernel_rfl) (fun hd => xRM hd)
  ·exact xGI (g := 1) (ti := 207) h6 (by kernel_rfl) (by kernel_rfl) (fun hd => xKb hd)
  ·exact xGI (g := 2) (ti := 207) h5 (by kernel_rfl) (by kernel_rfl) (fun hd => xKb hd)
 ·exact cell_of_shapedOpen_int (g := 3) (t := 3) (zero := #[.int .i64 0]) hs (of_decide_eq_true (by kernel_rfl)) (by kernel_rfl) rfl (by kernel_rfl) (by kernel_rfl) Tryz.underlying3
 ·exact xJ2 (g := 9) (ti := 165) h8 (by kernel_rfl) (by kernel_rfl) Tryz.underlying165
 ·exact xJ2 (g := 10) (ti := 165) h7 (by kernel_rfl) (by kernel_rfl) Tryz.underlying165
 ·have ht := Lib.tabIs_of_head (P := Tryz.prog) (W := W) (name := "internal/strconv.uint64pow10") (k := .u64) (zs := Lib.pow10Tab) (g := 6) (show Tryz.prog.globalNamed "internal/strconv.uint64pow10" = some 6 by kernel_rfl) (t := 422) (by kernel_rfl) Tryz.underlying422 Tryz.underlying310 (by kernel_rfl) (by kernel_rfl) h2;unfold Lib.TabIs World.var? at ht;rw [show Tryz.prog.globalNamed "internal/strconv.uint64pow10" = some 6 by kernel_rfl] at ht;simp only [Option.bind_some] at ht;split at ht
  ·rename_i cs T f hc;exact ⟨T, f, by rw [hc, Option.some.inj ht]⟩
  ·cases ht
theorem gBlk_lt {W : World} (h : gOk W) : ∀ b ∈ xIJ, b < W.heap.size := fun b hb => by
 obtain ⟨c, T, f, hc⟩ := xNa h hb;exact lt_of_block hc
end
end Go.Proofs.YtnomnijhlbalaaaGreatDoor
