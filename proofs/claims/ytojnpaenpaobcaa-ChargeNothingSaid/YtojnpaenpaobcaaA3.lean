/- ChargeNothing answers true at every deed, and leaves it as it was. No condition. -/
import Derived.Test.YtojnpaenpaobcaaA1
import Derived.Test.YtojnpaenpaobcaaN2
import Derived.Test.YtojnpaenpaobcaaRows
import Derived.WalkKit
import Derived.ProofKit
import Derived.ShutString
import Derived.ChangeOld
import Derived.Below
namespace Go.Proofs.Ytojnpaenpaobcaa
open Go.RowKit Go.ChangeShapes Go.WideShapes Go.Deep Go.ChangeAt

instance : Inhabited Pick := ⟨⟨0, 0⟩⟩
theorem cells_u8 : Try.prog.cellsOf 5 = 1 := by kernel_rfl
theorem cells_pick : Try.prog.cellsOf 150 = 2 := by kernel_rfl
theorem cells_sints : Try.prog.cellsOf 29 = 1 := by kernel_rfl
theorem cells_spicks : Try.prog.cellsOf 80 = 1 := by kernel_rfl
theorem cells_deed : Try.prog.cellsOf 82 = 13 := by kernel_rfl
set_option maxRecDepth 100000 in
theorem open_pick {H : Type} {enc : TypeId × Value → H} {W : World} {base : Nat} {held : Bool} {fuel : Nat} {cs : List Value} {x : DataW H × List MemPlace} (h : DataW.trod enc Try.prog W base (fun _ => true) held fuel 150 cs = some x) : ∃ r : Pick, cs = r.cells := by
  obtain ⟨xs, n, _, _, hlen, hx, hg⟩ := DataW.trod_struct Try.underlying150 h
  rw [cells_pick] at hlen
  match cs, hlen with
  | [c0, c1], _ =>
    obtain ⟨y0, e0⟩ := some_of (i := 0) hx (by decide)
    obtain ⟨y1, e1⟩ := some_of (i := 1) hx (by decide)
    have h0 : DataW.trod enc Try.prog W base (fun _ => true) held n 3 (([c0, c1].drop 0).take (Try.prog.cellsOf 3)) = some y0 := (hg 0 _ rfl).trans e0
    have h1 : DataW.trod enc Try.prog W base (fun _ => true) held n 3 (([c0, c1].drop 1).take (Try.prog.cellsOf 3)) = some y1 := (hg 1 _ rfl).trans e1
    rw [cells_int] at h0 h1
    obtain ⟨a, ha⟩ := open_i h0
    obtain ⟨b, hb⟩ := open_i h1
    simp only [List.drop_zero, List.take_succ_cons, List.take_zero, List.drop_succ_cons, List.cons.injEq, and_true] at ha hb
    exact ⟨⟨a, b⟩, by rw [ha, hb]; rfl⟩
set_option maxRecDepth 100000 in
/-- A deed that came in. -/
theorem open_deed {H : Type} {enc : TypeId × Value → H} {W : World} {base : Nat} {held : Bool} {fuel : Nat} {cs : List Value} {x : DataW H × List MemPlace} (h : DataW.trod enc Try.prog W base (fun _ => true) held fuel 82 cs = some x) :
    ∃ (kind : Int) (l : Lot) (parents : List Int) (picks : List Pick) (number : Int) (pa ka : Option Addr) (pc kc : Nat), cs = [.int .u8 kind, .int .i64 l.count, .int .i64 l.mass, .int .i64 l.con.a.lo, .int .i64 l.con.a.hi, .int .i64 l.con.b.lo, .int .i64 l.con.b.hi, .int .i64 l.con.c.lo, .int .i64 l.con.c.hi, .int .i64 l.cost, .slice pa parents.length pc, .slice ka picks.length kc, .int .i64 number] ∧ SlI W pa pc parents ∧ Sl 2 Pick.cells W ka kc picks := by
  obtain ⟨xs, n, _, _, hlen, hx, hg⟩ := DataW.trod_struct Try.underlying82 h
  rw [cells_deed] at hlen
  match cs, hlen with
  | [c0, c1, c2, c3, c4, c5, c6, c7, c8, c9, c10, c11, c12], _ =>
    obtain ⟨y0, e0⟩ := some_of (i := 0) hx (by decide)
    obtain ⟨y1, e1⟩ := some_of (i := 1) hx (by decide)
    obtain ⟨y2, e2⟩ := some_of (i := 2) hx (by decide)
    obtain ⟨y3, e3⟩ := some_of (i := 3) hx (by decide)
    obtain ⟨y4, e4⟩ := some_of (i := 4) hx (by decide)
    have h0 : DataW.trod enc Try.prog W base (fun _ => true) held n 5 (([c0, c1, c2, c3, c4, c5, c6, c7, c8, c9, c10, c11, c12].drop 0).take (Try.prog.cellsOf 5)) = some y0 := (hg 0 _ rfl).trans e0
    have h1 : DataW.trod enc Try.prog W base (fun _ => true) held n 43 (([c0, c1, c2, c3, c4, c5, c6, c7, c8, c9, c10, c11, c12].drop 1).take (Try.prog.cellsOf 43)) = some y1 := (hg 1 _ rfl).trans e1
    have h2 : DataW.trod enc Try.prog W base (fun _ => true) held n 29 (([c0, c1, c2, c3, c4, c5, c6, c7, c8, c9, c10, c11, c12].drop 10).take (Try.prog.cellsOf 29)) = some y2 := (hg 2 _ rfl).trans e2
    have h3 : DataW.trod enc Try.prog W base (fun _ => true) held n 80 (([c0, c1, c2, c3, c4, c5, c6, c7, c8, c9, c10, c11, c12].drop 11).take (Try.prog.cellsOf 80)) = some y3 := (hg 3 _ rfl).trans e3
    have h4 : DataW.trod enc Try.prog W base (fun _ => true) held n 3 (([c0, c1, c2, c3, c4, c5, c6, c7, c8, c9, c10, c11, c12].drop 12).take (Try.prog.cellsOf 3)) = some y4 := (hg 4 _ rfl).trans e4
    rw [cells_u8] at h0
    rw [cells_lot] at h1
    rw [cells_sints] at h2
    rw [cells_spicks] at h3
    rw [cells_int] at h4
    obtain ⟨kind, ha, _⟩ := DataW.trod_int Try.underlying5 h0
    obtain ⟨l, hl⟩ := open_lot h1
    obtain ⟨pa, pc, ps, hp, hS⟩ := open_sl (f := intCells) Try.underlying29 cells_int (by decide) (fun _ => rfl) (fun n cs x h => open_i h) h2 rfl
    obtain ⟨ka, kc, ks, hk, hK⟩ := open_sl (f := Pick.cells) Try.underlying80 cells_pick (by decide) (fun _ => rfl) (fun n cs x h => open_pick h) h3 rfl
    obtain ⟨nr, hn⟩ := open_i h4
    simp only [List.drop_zero, List.take_succ_cons, List.take_zero, List.drop_succ_cons, Lot.cells, List.cons.injEq, and_true] at ha hl hp hk hn
    obtain ⟨q0, q1, q2, q3, q4, q5, q6, q7, q8⟩ := hl
    exact ⟨kind, l, ps, ks, nr, pa, ka, pc, kc, by rw [ha, q0, q1, q2, q3, q4, q5, q6, q7, q8, hp, hk, hn], hS, hK⟩

theorem own_knob : ownKnob Try.prog.godebug = none := by kernel_rfl
theorem laid_out : laidOutB Try.prog = true := by kernel_rfl
set_option maxRecDepth 100000 in
theorem nothing_lifted (os : Os) (started : os.Started) (H : Type) (enc : TypeId × Value → H) :
    ReturnsInHanded {} Try.checked os 10 .any (Rows.chargeNothingSpec.pre6 enc Try.prog Try.f10 Rows.chargeNothingRow.domain false) (Rows.chargeNothingSpec.post enc Try.prog Try.f10 false true false false) := by
  refine returnsInHanded_of_change (C := Try.checked) own_knob started (by kernel_rfl) Try.func10
    (ChangeSpec.witness6 (enc := enc) (C := Try.checked) false ⟨#[], #[.agg #[.int .u8 0, .int .i64 0, .int .i64 0, .int .i64 0, .int .i64 0, .int .i64 0, .int .i64 0, .int .i64 0, .int .i64 0, .int .i64 0, .slice none 0 0, .slice none 0 0, .int .i64 0]], []⟩ 8 (by kernel_rfl) (by kernel_rfl) (by kernel_rfl) (by kernel_rfl)) ?_
  intro W base args ds gs before hval0 hW hcnd _
  have hval : ∀ (j : Nat) t v, Try.f10.params[j]? = some t → args[j]? = some v → Value.okWide Try.prog W .any base t v := hval0
  have hW' := hW
  obtain ⟨p, q, hA0, hV, rfl, hfz, hnd⟩ := hW
  have hA : DataW.TrodAll enc Try.prog W 0 (fun _ => true) true Try.f10.params.toList args.toList ds p := hA0
  rw [Try.params10] at hA hval
  obtain ⟨v0, vs0, d0, ds0, p0, q0, hargs, rfl, rfl, h0, r0⟩ := trodAll_cons hA
  obtain ⟨rfl, rfl, rfl⟩ := trodAll_nil r0
  obtain rfl : args = #[v0] := by cases args; simp_all
  obtain ⟨rfl, rfl⟩ := trodVars_none hV
  have k0 := h0
  have lt0 : ∀ x ∈ p0, x.block < W.heap.size := by obtain ⟨m, hm⟩ := k0; exact DataW.trod_lt m _ _ _ hm
  obtain ⟨cs, rfl, hsz⟩ := okWide_struct Try.underlying82 (hval 0 82 v0 rfl rfl)
  obtain ⟨n0, hf0⟩ := h0
  obtain ⟨kind, l, parents, picks, number, pa, ka, pc, kc, hcs, hS, hK⟩ := open_deed hf0
  obtain ⟨cl⟩ := cs
  have hcs' : cl = [.int .u8 kind, .int .i64 l.count, .int .i64 l.mass, .int .i64 l.con.a.lo, .int .i64 l.con.a.hi, .int .i64 l.con.b.lo, .int .i64 l.con.b.hi, .int .i64 l.con.c.lo, .int .i64 l.con.c.hi, .int .i64 l.cost, .slice pa parents.length pc, .slice ka picks.length kc, .int .i64 number] := by simpa [Value.cells] using hcs
  subst hcs'
  clear hA0 hval0
  refine (nothing_c kind l parents picks number pa ka pc kc W hS hK).mono fun e W' ⟨he, hE⟩ => ?_
  have bel : Below W.heap.size W W' := Ex.below hE
  subst he
  exact ⟨_, rfl, _, _, _, [], _, [], hW', trodAll_mk1 (shut_bool Try.underlying4 _), (trodAll_cons_mk (Below.trod laid_out (by kernel_rfl) (of_decide_eq_true (by kernel_rfl)) k0 bel lt0) trodAll_mk0), rfl, bel.frame _, fun h => by cases h⟩

theorem nothing_over : Rows.chargeNothingRow.holds Try.pinned (OpenSpec.ofChange Rows.chargeNothingSpec) :=
  OpenClaim.holds_of_wide 10 Try.f10 rfl rfl rfl rfl rfl rfl rfl ⟨rfl, rfl, rfl, rfl, rfl⟩ rfl rfl rfl rfl rfl (by kernel_rfl) Try.func10 (by kernel_rfl)
    (of_decide_eq_true (by kernel_rfl)) (by unfold Func.isWrapper; first | (rw [if_pos (by decide +kernel)]; kernel_rfl) | (rw [if_neg (by decide +kernel)]; exact ⟨rfl, rfl⟩))
    (fun os started H enc _ => nothing_lifted os started H enc)

/-- The statement. -/
theorem chargeNothing_proved : Rows.ChargeNothingSaid := nothing_over
end Go.Proofs.Ytojnpaenpaobcaa
