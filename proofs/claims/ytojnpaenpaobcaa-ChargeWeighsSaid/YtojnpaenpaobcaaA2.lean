/- ChargeWeighs answers true at every recipe and every list of numbers, and leaves both as they were. No condition. -/
import Derived.Test.YtojnpaenpaobcaaA1
import Derived.Test.YtojnpaenpaobcaaE3
import Derived.Test.YtojnpaenpaobcaaRows
import Derived.WalkKit
import Derived.ProofKit
import Derived.ShutString
import Derived.ChangeOld
import Derived.Below
namespace Go.Proofs.Ytojnpaenpaobcaa
open Go.RowKit Go.ChangeShapes Go.WideShapes Go.Deep Go.ChangeAt

theorem weighs_c (p : Recipe) (counts : List Int) (a c : Option Addr) (cap cap' : Nat) (w : World) (hs : SlL w a cap p.lots) (hc : SlI w c cap' counts) :
    Calls Try.prog 3 #[.agg #[.slice a p.lots.length cap, .int .i64 p.mass.lo, .int .i64 p.mass.hi, .int .i64 p.target.a.lo, .int .i64 p.target.a.hi, .int .i64 p.target.b.lo, .int .i64 p.target.b.hi, .int .i64 p.target.c.lo, .int .i64 p.target.c.hi], .slice c counts.length cap'] w (Ret (.bool true) w) := by
  by_cases hb : 10 < p.lots.length ∨ 12 < counts.length
  · exact weighs_big_c p counts a c cap cap' w hs hc hb
  · by_cases hq : checkE p = 0
    · cases hq2 : isChargeB p.lots counts
      · exact weighs_b_c p counts a c cap cap' w hs hc (by omega) (by omega) hq hq2
      · exact weighs_c_c p counts a c cap cap' w hs hc (by omega) (by omega) hq hq2
    · exact weighs_a_c p counts a c cap cap' w hs hc (by omega) (by omega) hq
instance : Inhabited Lot := ⟨Lot.zero⟩

set_option maxRecDepth 100000 in
/-- A recipe that came in. -/
theorem open_recipe {H : Type} {enc : TypeId × Value → H} {W : World} {base : Nat} {held : Bool} {fuel : Nat} {cs : List Value} {x : DataW H × List MemPlace} (h : DataW.trod enc Try.prog W base (fun _ => true) held fuel 28 cs = some x) :
    ∃ (p : Recipe) (a : Option Addr) (cap : Nat), cs = [.slice a p.lots.length cap, .int .i64 p.mass.lo, .int .i64 p.mass.hi, .int .i64 p.target.a.lo, .int .i64 p.target.a.hi, .int .i64 p.target.b.lo, .int .i64 p.target.b.hi, .int .i64 p.target.c.lo, .int .i64 p.target.c.hi] ∧ SlL W a cap p.lots := by
  obtain ⟨xs, n, _, _, hlen, hx, hg⟩ := DataW.trod_struct Try.underlying28 h
  rw [cells_rec] at hlen
  match cs, hlen with
  | [c0, c1, c2, c3, c4, c5, c6, c7, c8], _ =>
    obtain ⟨y0, e0⟩ := some_of (i := 0) hx (by decide)
    obtain ⟨y1, e1⟩ := some_of (i := 1) hx (by decide)
    obtain ⟨y2, e2⟩ := some_of (i := 2) hx (by decide)
    have h0 : DataW.trod enc Try.prog W base (fun _ => true) held n 22 (([c0, c1, c2, c3, c4, c5, c6, c7, c8].drop 0).take (Try.prog.cellsOf 22)) = some y0 := (hg 0 _ rfl).trans e0
    have h1 : DataW.trod enc Try.prog W base (fun _ => true) held n 24 (([c0, c1, c2, c3, c4, c5, c6, c7, c8].drop 1).take (Try.prog.cellsOf 24)) = some y1 := (hg 1 _ rfl).trans e1
    have h2 : DataW.trod enc Try.prog W base (fun _ => true) held n 26 (([c0, c1, c2, c3, c4, c5, c6, c7, c8].drop 3).take (Try.prog.cellsOf 26)) = some y2 := (hg 2 _ rfl).trans e2
    rw [cells_slots] at h0
    rw [cells_rng] at h1
    rw [cells_bnds] at h2
    obtain ⟨a, cap, lots, ha, hS⟩ := open_sl (f := Lot.cells) Try.underlying22 cells_lot (by decide) (fun _ => rfl) (fun n cs x h => open_lot h) h0 rfl
    obtain ⟨r, hr⟩ := open_rng h1
    obtain ⟨b, hb⟩ := open_bnds h2
    simp only [List.drop_zero, List.take_succ_cons, List.take_zero, List.drop_succ_cons, Rng.cells, List.cons.injEq, and_true] at ha hr hb
    obtain ⟨q0, q1, q2, q3, q4, q5⟩ := hb
    exact ⟨⟨lots, r, b⟩, a, cap, by rw [ha, hr.1, hr.2, q0, q1, q2, q3, q4, q5], hS⟩

theorem own_knob : ownKnob Try.prog.godebug = none := by kernel_rfl
theorem laid_out : laidOutB Try.prog = true := by kernel_rfl
set_option maxRecDepth 100000 in
theorem weighs_lifted (os : Os) (started : os.Started) (H : Type) (enc : TypeId × Value → H) :
    ReturnsInHanded {} Try.checked os 3 .any (Rows.chargeWeighsSpec.pre6 enc Try.prog Try.f3 Rows.chargeWeighsRow.domain false) (Rows.chargeWeighsSpec.post enc Try.prog Try.f3 false true false false) := by
  refine returnsInHanded_of_change (C := Try.checked) own_knob started (by kernel_rfl) Try.func3
    (ChangeSpec.witness6 (enc := enc) (C := Try.checked) false ⟨#[], #[.agg #[.slice none 0 0, .int .i64 0, .int .i64 0, .int .i64 0, .int .i64 0, .int .i64 0, .int .i64 0, .int .i64 0, .int .i64 0], .slice none 0 0], []⟩ 8 (by kernel_rfl) (by kernel_rfl) (by kernel_rfl) (by kernel_rfl)) ?_
  intro W base args ds gs before hval0 hW hcnd _
  have hval : ∀ (j : Nat) t v, Try.f3.params[j]? = some t → args[j]? = some v → Value.okWide Try.prog W .any base t v := hval0
  have hW' := hW
  obtain ⟨p, q, hA0, hV, rfl, hfz, hnd⟩ := hW
  have hA : DataW.TrodAll enc Try.prog W 0 (fun _ => true) true Try.f3.params.toList args.toList ds p := hA0
  rw [Try.params3] at hA hval
  obtain ⟨v0, vs0, d0, ds0, p0, q0, hargs, rfl, rfl, h0, r0⟩ := trodAll_cons hA
  obtain ⟨v1, vs1, d1, ds1, p1, q1, rfl, rfl, rfl, h1, r1⟩ := trodAll_cons r0
  obtain ⟨rfl, rfl, rfl⟩ := trodAll_nil r1
  obtain rfl : args = #[v0, v1] := by cases args; simp_all
  obtain ⟨rfl, rfl⟩ := trodVars_none hV
  have k0 := h0
  have k1 := h1
  have lt0 : ∀ x ∈ p0, x.block < W.heap.size := by obtain ⟨m, hm⟩ := k0; exact DataW.trod_lt m _ _ _ hm
  have lt1 : ∀ x ∈ p1, x.block < W.heap.size := by obtain ⟨m, hm⟩ := k1; exact DataW.trod_lt m _ _ _ hm
  obtain ⟨cs, rfl, hsz⟩ := okWide_struct Try.underlying28 (hval 0 28 v0 rfl rfl)
  obtain ⟨a1, len1, cap1, rfl⟩ := okWide_slice Try.underlying29 (hval 1 29 v1 rfl rfl)
  obtain ⟨n0, hf0⟩ := h0
  obtain ⟨n1, hf1⟩ := h1
  obtain ⟨rec, a0, cap0, hcs, hs⟩ := open_recipe hf0
  obtain ⟨a2, cap2, xs, hxs, hc⟩ := open_sl (f := intCells) Try.underlying29 cells_int (by decide) (fun _ => rfl) (fun n cs x h => open_i h) hf1 rfl
  obtain ⟨l⟩ := cs
  have hcs' : l = [.slice a0 rec.lots.length cap0, .int .i64 rec.mass.lo, .int .i64 rec.mass.hi, .int .i64 rec.target.a.lo, .int .i64 rec.target.a.hi, .int .i64 rec.target.b.lo, .int .i64 rec.target.b.hi, .int .i64 rec.target.c.lo, .int .i64 rec.target.c.hi] := by simpa [Value.cells] using hcs
  have hxs' : a1 = a2 ∧ len1 = xs.length ∧ cap1 = cap2 := by simpa [Value.cells] using hxs
  obtain ⟨rfl, rfl, rfl⟩ := hxs'
  subst hcs'
  clear hA0 hval0
  refine (weighs_c rec xs a0 a1 cap0 cap1 W hs hc).mono fun e W' ⟨he, hE⟩ => ?_
  have bel : Below W.heap.size W W' := Ex.below hE
  subst he
  exact ⟨_, rfl, _, _, _, [], _, [], hW', trodAll_mk1 (shut_bool Try.underlying4 _), (trodAll_cons_mk (Below.trod laid_out (by kernel_rfl) (of_decide_eq_true (by kernel_rfl)) k0 bel lt0) (trodAll_cons_mk (Below.trod laid_out (by kernel_rfl) (of_decide_eq_true (by kernel_rfl)) k1 bel lt1) trodAll_mk0)), rfl, bel.frame _, fun h => by cases h⟩

theorem weighs_over : Rows.chargeWeighsRow.holds Try.pinned (OpenSpec.ofChange Rows.chargeWeighsSpec) :=
  OpenClaim.holds_of_wide 3 Try.f3 rfl rfl rfl rfl rfl rfl rfl ⟨rfl, rfl, rfl, rfl, rfl⟩ rfl rfl rfl rfl rfl (by kernel_rfl) Try.func3 (by kernel_rfl)
    (of_decide_eq_true (by kernel_rfl)) (by unfold Func.isWrapper; first | (rw [if_pos (by decide +kernel)]; kernel_rfl) | (rw [if_neg (by decide +kernel)]; exact ⟨rfl, rfl⟩))
    (fun os started H enc _ => weighs_lifted os started H enc)

/-- The statement. -/
theorem chargeWeighs_proved : Rows.ChargeWeighsSaid := weighs_over
end Go.Proofs.Ytojnpaenpaobcaa
