/- Arguments that come in are opened. No condition. -/
import Derived.Test.YtojnpaenpaobcaaC5
import Derived.Deep.Slices
import Derived.Deep.Fields
import Derived.ChangeSame
import Derived.OpenShut
namespace Go.Proofs.Ytojnpaenpaobcaa
open Go.RowKit
open Go.ChangeShapes Go.WideShapes Go.Deep

section
variable {H : Type} {enc : TypeId × Value → H} {W : World} {base : Nat} {spare : Nat → Bool} {held : Bool} {fuel : Nat} {cs : List Value} {x : DataW H × List MemPlace}
theorem cells_int : Try.prog.cellsOf 3 = 1 := by kernel_rfl
theorem cells_rng : Try.prog.cellsOf 24 = 2 := by kernel_rfl
theorem cells_bnds : Try.prog.cellsOf 26 = 6 := by kernel_rfl
theorem cells_lot : Try.prog.cellsOf 43 = 9 := by kernel_rfl
theorem cells_rec : Try.prog.cellsOf 28 = 9 := by kernel_rfl
theorem cells_slots : Try.prog.cellsOf 22 = 1 := by kernel_rfl
theorem addr_add (b off n : Nat) : (⟨b, off, none⟩ : Addr).add n = ⟨b, off + n, none⟩ := by unfold Addr.add; split <;> simp_all
theorem some_of {α : Type} {xs : List α} {i n : Nat} (hl : xs.length = n) (hi : i < n) : ∃ y, xs[i]? = some y := ⟨_, List.getElem?_eq_getElem (by omega)⟩
theorem open_i (h : DataW.trod enc Try.prog W base spare held fuel 3 cs = some x) : ∃ n, cs = [.int .i64 n] := by
  obtain ⟨n, hn, _⟩ := DataW.trod_int Try.underlying3 h
  exact ⟨n, hn⟩
set_option maxRecDepth 100000 in
theorem open_rng (h : DataW.trod enc Try.prog W base spare held fuel 24 cs = some x) : ∃ r : Rng, cs = r.cells := by
  obtain ⟨xs, n, _, _, hlen, hx, hg⟩ := DataW.trod_struct Try.underlying24 h
  rw [cells_rng] at hlen
  match cs, hlen with
  | [c0, c1], _ =>
    obtain ⟨y0, e0⟩ := some_of (i := 0) hx (by decide)
    obtain ⟨y1, e1⟩ := some_of (i := 1) hx (by decide)
    have h0 : DataW.trod enc Try.prog W base spare held n 3 (([c0, c1].drop 0).take (Try.prog.cellsOf 3)) = some y0 := (hg 0 _ rfl).trans e0
    have h1 : DataW.trod enc Try.prog W base spare held n 3 (([c0, c1].drop 1).take (Try.prog.cellsOf 3)) = some y1 := (hg 1 _ rfl).trans e1
    rw [cells_int] at h0 h1
    obtain ⟨a, ha⟩ := open_i h0
    obtain ⟨b, hb⟩ := open_i h1
    simp only [List.drop_zero, List.take_succ_cons, List.take_zero, List.drop_succ_cons, List.cons.injEq, and_true] at ha hb
    exact ⟨⟨a, b⟩, by rw [ha, hb]; rfl⟩
set_option maxRecDepth 100000 in
theorem open_bnds (h : DataW.trod enc Try.prog W base spare held fuel 26 cs = some x) : ∃ b : Bnds, cs = [.int .i64 b.a.lo, .int .i64 b.a.hi, .int .i64 b.b.lo, .int .i64 b.b.hi, .int .i64 b.c.lo, .int .i64 b.c.hi] := by
  obtain ⟨xs, n, _, _, hlen, hx, hg⟩ := DataW.trod_array Try.underlying26 h
  rw [cells_bnds] at hlen
  match cs, hlen with
  | [c0, c1, c2, c3, c4, c5], _ =>
    obtain ⟨y0, e0⟩ := some_of (i := 0) hx (by decide)
    obtain ⟨y1, e1⟩ := some_of (i := 1) hx (by decide)
    obtain ⟨y2, e2⟩ := some_of (i := 2) hx (by decide)
    have h0 := (hg 0 (by decide)).trans e0
    have h1 := (hg 1 (by decide)).trans e1
    have h2 := (hg 2 (by decide)).trans e2
    rw [cells_rng] at h0 h1 h2
    obtain ⟨a, ha⟩ := open_rng h0
    obtain ⟨b, hb⟩ := open_rng h1
    obtain ⟨c, hc⟩ := open_rng h2
    simp only [Nat.zero_mul, Nat.one_mul, Nat.reduceMul, List.drop_zero, List.take_succ_cons, List.take_zero, List.drop_succ_cons, Rng.cells, List.cons.injEq, and_true] at ha hb hc
    exact ⟨⟨a, b, c⟩, by rw [ha.1, ha.2, hb.1, hb.2, hc.1, hc.2]⟩
set_option maxRecDepth 100000 in
theorem open_lot (h : DataW.trod enc Try.prog W base spare held fuel 43 cs = some x) : ∃ l : Lot, cs = l.cells := by
  obtain ⟨xs, n, _, _, hlen, hx, hg⟩ := DataW.trod_struct Try.underlying43 h
  rw [cells_lot] at hlen
  match cs, hlen with
  | [c0, c1, c2, c3, c4, c5, c6, c7, c8], _ =>
    obtain ⟨y0, e0⟩ := some_of (i := 0) hx (by decide)
    obtain ⟨y1, e1⟩ := some_of (i := 1) hx (by decide)
    obtain ⟨y2, e2⟩ := some_of (i := 2) hx (by decide)
    obtain ⟨y3, e3⟩ := some_of (i := 3) hx (by decide)
    have h0 : DataW.trod enc Try.prog W base spare held n 3 (([c0, c1, c2, c3, c4, c5, c6, c7, c8].drop 0).take (Try.prog.cellsOf 3)) = some y0 := (hg 0 _ rfl).trans e0
    have h1 : DataW.trod enc Try.prog W base spare held n 3 (([c0, c1, c2, c3, c4, c5, c6, c7, c8].drop 1).take (Try.prog.cellsOf 3)) = some y1 := (hg 1 _ rfl).trans e1
    have h2 : DataW.trod enc Try.prog W base spare held n 26 (([c0, c1, c2, c3, c4, c5, c6, c7, c8].drop 2).take (Try.prog.cellsOf 26)) = some y2 := (hg 2 _ rfl).trans e2
    have h3 : DataW.trod enc Try.prog W base spare held n 3 (([c0, c1, c2, c3, c4, c5, c6, c7, c8].drop 8).take (Try.prog.cellsOf 3)) = some y3 := (hg 3 _ rfl).trans e3
    rw [cells_int] at h0 h1 h3
    rw [cells_bnds] at h2
    obtain ⟨a, ha⟩ := open_i h0
    obtain ⟨b, hb⟩ := open_i h1
    obtain ⟨c, hc⟩ := open_bnds h2
    obtain ⟨d, hd⟩ := open_i h3
    simp only [List.drop_zero, List.take_succ_cons, List.take_zero, List.drop_succ_cons, List.cons.injEq, and_true] at ha hb hc hd
    obtain ⟨q0, q1, q2, q3, q4, q5⟩ := hc
    exact ⟨⟨a, b, c, d⟩, by rw [ha, hb, q0, q1, q2, q3, q4, q5, hd]; rfl⟩
/-- A slice that came in, over elements that are opened. -/
theorem open_sl {α : Type} [Inhabited α] {f : α → List Value} {k : Nat} {t e : TypeId} (ht : Try.prog.underlying t = some (.slice e)) (hk : Try.prog.cellsOf e = k) (hpos : 0 < k) (hf : ∀ l : α, (f l).length = k)
    (hel : ∀ n cs x, DataW.trod enc Try.prog W base spare held n e cs = some x → ∃ l : α, cs = f l) (h : DataW.trod enc Try.prog W base spare held fuel t cs = some x) (hsp : spare = fun _ => true) :
    ∃ (a : Option Addr) (cap : Nat) (xs : List α), cs = [.slice a xs.length cap] ∧ Sl k f W a cap xs := by
  subst hsp
  rcases open_slice ht h with ⟨hcs, _⟩ | ⟨a, len, cap, m, n, D, Pl, hcs, hb, hl, hm, hmm, hx, hi⟩
  · exact ⟨none, 0, [], hcs, Sl.nil _ _ _⟩
  · simp only [if_true] at hmm
    have hex : ∀ i, ∃ l : α, i < m → W.cells? base (a.add (i * k)) k = some (f l) := fun i => by
      by_cases him : i < m
      · obtain ⟨cs', hc, ht'⟩ := hi i him
        obtain ⟨l, hl'⟩ := hel n cs' _ ht'
        rw [hk] at hc
        exact ⟨l, fun _ => by rw [hc, hl']⟩
      · exact ⟨default, fun h => absurd h him⟩
    obtain ⟨g, hg⟩ := Classical.axiomOfChoice hex
    refine ⟨some a, cap, (List.range len).map g, by rw [hcs, List.length_map, List.length_range], ⟨by simpa using hl, by unfold maxLen at hm; omega, fun h0 => ?_⟩⟩
    have h0' : 0 < len := by simpa using h0
    obtain ⟨b, off, spot⟩ := a
    have h00 := hg 0 (by omega)
    obtain ⟨_, _, hat0⟩ := World.cells?_some h00
    have hat := (hat0 0 hpos).trans (List.getElem?_eq_getElem (by rw [hf]; exact hpos))
    have hspot : spot = none := by simpa [Addr.add] using World.cell?_spot hat
    subst hspot
    have hlt : b < W.heap.size := by
      have h9 := cell_lt (by simpa [Addr.add] using hat : W.cell? ⟨b, off, none⟩ = some _)
      exact h9
    refine ⟨b, off, rfl, hlt, fun i hi' j v hv => ?_⟩
    have hi2 : i < len := by simpa using hi'
    have hgi := hg i (by omega)
    obtain ⟨_, hcl, hat1⟩ := World.cells?_some hgi
    simp only [List.getElem_map, List.getElem_range] at hv
    have hj : j < k := by have h9 := (List.getElem?_eq_some_iff.1 hv).1; rwa [hf] at h9
    have h1 := hat1 j hj
    rw [hv] at h1
    rw [addr_add, addr_add] at h1
    exact h1
end
end Go.Proofs.Ytojnpaenpaobcaa
