/- ChargeEither answers true at every recipe and every doubt, and leaves both as they were. No condition. -/
import Derived.Test.YtojnpaenpaobcaaA1
import Derived.Test.YtojnpaenpaobcaaF3a
import Derived.Test.YtojnpaenpaobcaaF3b
import Derived.Test.YtojnpaenpaobcaaF3c
import Derived.Test.YtojnpaenpaobcaaF3d
import Derived.Test.YtojnpaenpaobcaaRows
import Derived.WalkKit
import Derived.ProofKit
import Derived.ShutString
import Derived.ChangeOld
import Derived.Below
namespace Go.Proofs.Ytojnpaenpaobcaa
open Go.RowKit Go.ChangeShapes Go.WideShapes Go.Deep Go.ChangeAt

theorem either_c (p : Recipe) (a : Option Addr) (cap : Nat) (proof : List Split) (pa : Option Addr) (pc : Nat) (own : Bool) (at_ x0 x1 x2 : Int) (w : World) (hs : SlL w a cap p.lots) (hp : Sl 3 Split.cells w pa pc proof) :
    Calls Try.prog 7 #[.agg #[.slice a p.lots.length cap, .int .i64 p.mass.lo, .int .i64 p.mass.hi, .int .i64 p.target.a.lo, .int .i64 p.target.a.hi, .int .i64 p.target.b.lo, .int .i64 p.target.b.hi, .int .i64 p.target.c.lo, .int .i64 p.target.c.hi], .agg #[.slice pa proof.length pc, .bool own, .int .u8 at_, .int .i64 x0, .int .i64 x1, .int .i64 x2]] w (Ret (.bool true) w) := by
  by_cases hb : 10 < p.lots.length ∨ 60 < proof.length
  · exact either_big_c p a cap proof pa pc own at_ x0 x1 x2 w hs hp hb
  · rcases check_vals p with hq | hq | hq
    · cases hm : manyM p
      · cases hs2 : (bestOf p.lots (allCharges p)).isSome
        · exact either_d_c p a cap proof pa pc own at_ x0 x1 x2 w hs hp (by omega) (by omega) hq hm hs2
        · exact either_c_c p a cap proof pa pc own at_ x0 x1 x2 w hs hp (by omega) (by omega) hq hm hs2
      · exact either_b_c p a cap proof pa pc own at_ x0 x1 x2 w hs hp (by omega) (by omega) hq hm
    · exact either_a_c p a cap proof pa pc own at_ x0 x1 x2 w hs hp (by omega) (by omega) 2 hq (.inl rfl)
    · exact either_a_c p a cap proof pa pc own at_ x0 x1 x2 w hs hp (by omega) (by omega) 5 hq (.inr rfl)
instance : Inhabited Lot := ⟨Lot.zero⟩
instance : Inhabited Split := ⟨⟨0, 0, 0⟩⟩
theorem cells_u8 : Try.prog.cellsOf 5 = 1 := by kernel_rfl
theorem cells_bool : Try.prog.cellsOf 4 = 1 := by kernel_rfl
theorem cells_split : Try.prog.cellsOf 55 = 3 := by kernel_rfl
theorem cells_ssplits : Try.prog.cellsOf 53 = 1 := by kernel_rfl
theorem cells_doubt : Try.prog.cellsOf 57 = 6 := by kernel_rfl
set_option maxRecDepth 100000 in
theorem open_split {H : Type} {enc : TypeId × Value → H} {W : World} {base : Nat} {held : Bool} {fuel : Nat} {cs : List Value} {x : DataW H × List MemPlace} (h : DataW.trod enc Try.prog W base (fun _ => true) held fuel 55 cs = some x) : ∃ r : Split, cs = r.cells := by
  obtain ⟨xs, n, _, _, hlen, hx, hg⟩ := DataW.trod_struct Try.underlying55 h
  rw [cells_split] at hlen
  match cs, hlen with
  | [c0, c1, c2], _ =>
    obtain ⟨y0, e0⟩ := some_of (i := 0) hx (by decide)
    obtain ⟨y1, e1⟩ := some_of (i := 1) hx (by decide)
    obtain ⟨y2, e2⟩ := some_of (i := 2) hx (by decide)
    have h0 : DataW.trod enc Try.prog W base (fun _ => true) held n 3 (([c0, c1, c2].drop 0).take (Try.prog.cellsOf 3)) = some y0 := (hg 0 _ rfl).trans e0
    have h1 : DataW.trod enc Try.prog W base (fun _ => true) held n 3 (([c0, c1, c2].drop 1).take (Try.prog.cellsOf 3)) = some y1 := (hg 1 _ rfl).trans e1
    have h2 : DataW.trod enc Try.prog W base (fun _ => true) held n 3 (([c0, c1, c2].drop 2).take (Try.prog.cellsOf 3)) = some y2 := (hg 2 _ rfl).trans e2
    rw [cells_int] at h0 h1 h2
    obtain ⟨a, ha⟩ := open_i h0
    obtain ⟨b, hb⟩ := open_i h1
    obtain ⟨c, hc⟩ := open_i h2
    simp only [List.drop_zero, List.take_succ_cons, List.take_zero, List.drop_succ_cons, List.cons.injEq, and_true] at ha hb hc
    exact ⟨⟨a, b, c⟩, by rw [ha, hb, hc]; rfl⟩
set_option maxRecDepth 100000 in
/-- A doubt that came in. -/
theorem open_doubt {H : Type} {enc : TypeId × Value → H} {W : World} {base : Nat} {held : Bool} {fuel : Nat} {cs : List Value} {x : DataW H × List MemPlace} (h : DataW.trod enc Try.prog W base (fun _ => true) held fuel 57 cs = some x) :
    ∃ (proof : List Split) (pa : Option Addr) (pc : Nat) (own : Bool) (at_ x0 x1 x2 : Int), cs = [.slice pa proof.length pc, .bool own, .int .u8 at_, .int .i64 x0, .int .i64 x1, .int .i64 x2] ∧ Sl 3 Split.cells W pa pc proof := by
  obtain ⟨xs, n, _, _, hlen, hx, hg⟩ := DataW.trod_struct Try.underlying57 h
  rw [cells_doubt] at hlen
  match cs, hlen with
  | [c0, c1, c2, c3, c4, c5], _ =>
    obtain ⟨y0, e0⟩ := some_of (i := 0) hx (by decide)
    obtain ⟨y1, e1⟩ := some_of (i := 1) hx (by decide)
    obtain ⟨y2, e2⟩ := some_of (i := 2) hx (by decide)
    obtain ⟨y3, e3⟩ := some_of (i := 3) hx (by decide)
    have h0 : DataW.trod enc Try.prog W base (fun _ => true) held n 53 (([c0, c1, c2, c3, c4, c5].drop 0).take (Try.prog.cellsOf 53)) = some y0 := (hg 0 _ rfl).trans e0
    have h1 : DataW.trod enc Try.prog W base (fun _ => true) held n 4 (([c0, c1, c2, c3, c4, c5].drop 1).take (Try.prog.cellsOf 4)) = some y1 := (hg 1 _ rfl).trans e1
    have h2 : DataW.trod enc Try.prog W base (fun _ => true) held n 5 (([c0, c1, c2, c3, c4, c5].drop 2).take (Try.prog.cellsOf 5)) = some y2 := (hg 2 _ rfl).trans e2
    have h3 : DataW.trod enc Try.prog W base (fun _ => true) held n 55 (([c0, c1, c2, c3, c4, c5].drop 3).take (Try.prog.cellsOf 55)) = some y3 := (hg 3 _ rfl).trans e3
    rw [cells_ssplits] at h0
    rw [cells_bool] at h1
    rw [cells_u8] at h2
    rw [cells_split] at h3
    obtain ⟨pa, pc, ps, hp, hS⟩ := open_sl (f := Split.cells) Try.underlying53 cells_split (by decide) (fun _ => rfl) (fun n cs x h => open_split h) h0 rfl
    obtain ⟨o, ho, _⟩ := DataW.trod_bool Try.underlying4 h1
    obtain ⟨k, hk, _⟩ := DataW.trod_int Try.underlying5 h2
    obtain ⟨r, hr⟩ := open_split h3
    simp only [List.drop_zero, List.take_succ_cons, List.take_zero, List.drop_succ_cons, Split.cells, List.cons.injEq, and_true] at hp ho hk hr
    exact ⟨ps, pa, pc, o, k, r.lot, r.at_, r.reason, by rw [hp, ho, hk, hr.1, hr.2.1, hr.2.2], hS⟩
set_option maxRecDepth 100000 in
/-- A recipe that came in. -/
theorem open_recipe {H : Type} {enc : TypeId × Value → H} {W : World} {base : Nat} {held : Bool} {fuel : Nat} {cs : List Value} {x : DataW H × List MemPlace} (h : DataW.trod enc Try.prog W base (fun _ => true) held fuel 28 cs = some x) :
    ∃ (p : Recipe) (a : Option Addr) (cap : Nat), cs = [.slice a p.lots.length cap, .int .i64 p.mass.lo, .int .i64 p.mass.hi, .int .i64 p.target.a.lo, .int .i64 p.target.a.hi, .int .i64 p.target.b.lo, .int .i64 p.target.b.hi, .int .i64 p.target.c.lo, .int .i64 p.target.c.hi] ∧ SlL W a cap p.lots := by
  obtain ⟨xs, n, _, _, hlen, hx, hg⟩ := DataW.trod_struct Try.underlying28 h
  rw [cells_rec] at hlen
  match cs, hlen with
  | [c0, c1, c2, c3, c4, c5, c6, c7, c8], _ =>
    obtain ⟨y0, e0⟩ := some_of (i := 0) hx (by decide)
    obtain ⟨y1, e1⟩ := some_of (i := 1) hx (by decide)
    obtain ⟨y2, e2⟩ := some_of (i := 2) hx (by decide)
    have h0 : DataW.trod enc Try.prog W base (fun _ => true) held n 22 (([c0, c1, c2, c3, c4, c5, c6, c7, c8].drop 0).take (Try.prog.cellsOf 22)) = some y0 := (hg 0 _ rfl).trans e0
    have h1 : DataW.trod enc Try.prog W base (fun _ => true) held n 24 (([c0, c1, c2, c3, c4, c5, c6, c7, c8].drop 1).take (Try.prog.cellsOf 24)) = some y1 := (hg 1 _ rfl).trans e1
    have h2 : DataW.trod enc Try.prog W base (fun _ => true) held n 26 (([c0, c1, c2, c3, c4, c5, c6, c7, c8].drop 3).take (Try.prog.cellsOf 26)) = some y2 := (hg 2 _ rfl).trans e2
    rw [cells_slots] at h0
    rw [cells_rng] at h1
    rw [cells_bnds] at h2
    obtain ⟨a, cap, lots, ha, hS⟩ := open_sl (f := Lot.cells) Try.underlying22 cells_lot (by decide) (fun _ => rfl) (fun n cs x h => open_lot h) h0 rfl
    obtain ⟨r, hr⟩ := open_rng h1
    obtain ⟨b, hb⟩ := open_bnds h2
    simp only [List.drop_zero, List.take_succ_cons, List.take_zero, List.drop_succ_cons, Rng.cells, List.cons.injEq, and_true] at ha hr hb
    obtain ⟨q0, q1, q2, q3, q4, q5⟩ := hb
    exact ⟨⟨lots, r, b⟩, a, cap, by rw [ha, hr.1, hr.2, q0, q1, q2, q3, q4, q5], hS⟩

theorem own_knob : ownKnob Try.prog.godebug = none := by kernel_rfl
theorem laid_out : laidOutB Try.prog = true := by kernel_rfl
set_option maxRecDepth 100000 in
theorem either_lifted (os : Os) (started : os.Started) (H : Type) (enc : TypeId × Value → H) :
    ReturnsInHanded {} Try.checked os 7 .any (Rows.chargeEitherSpec.pre6 enc Try.prog Try.f7 Rows.chargeEitherRow.domain false) (Rows.chargeEitherSpec.post enc Try.prog Try.f7 false true false false) := by
  refine returnsInHanded_of_change (C := Try.checked) own_knob started (by kernel_rfl) Try.func7
    (ChangeSpec.witness6 (enc := enc) (C := Try.checked) false ⟨#[], #[.agg #[.slice none 0 0, .int .i64 0, .int .i64 0, .int .i64 0, .int .i64 0, .int .i64 0, .int .i64 0, .int .i64 0, .int .i64 0], .agg #[.slice none 0 0, .bool false, .int .u8 0, .int .i64 0, .int .i64 0, .int .i64 0]], []⟩ 8 (by kernel_rfl) (by kernel_rfl) (by kernel_rfl) (by kernel_rfl)) ?_
  intro W base args ds gs before hval0 hW hcnd _
  have hval : ∀ (j : Nat) t v, Try.f7.params[j]? = some t → args[j]? = some v → Value.okWide Try.prog W .any base t v := hval0
  have hW' := hW
  obtain ⟨p, q, hA0, hV, rfl, hfz, hnd⟩ := hW
  have hA : DataW.TrodAll enc Try.prog W 0 (fun _ => true) true Try.f7.params.toList args.toList ds p := hA0
  rw [Try.params7] at hA hval
  obtain ⟨v0, vs0, d0, ds0, p0, q0, hargs, rfl, rfl, h0, r0⟩ := trodAll_cons hA
  obtain ⟨v1, vs1, d1, ds1, p1, q1, rfl, rfl, rfl, h1, r1⟩ := trodAll_cons r0
  obtain ⟨rfl, rfl, rfl⟩ := trodAll_nil r1
  obtain rfl : args = #[v0, v1] := by cases args; simp_all
  obtain ⟨rfl, rfl⟩ := trodVars_none hV
  have k0 := h0
  have k1 := h1
  have lt0 : ∀ x ∈ p0, x.block < W.heap.size := by obtain ⟨m, hm⟩ := k0; exact DataW.trod_lt m _ _ _ hm
  have lt1 : ∀ x ∈ p1, x.block < W.heap.size := by obtain ⟨m, hm⟩ := k1; exact DataW.trod_lt m _ _ _ hm
  obtain ⟨cs, rfl, hsz⟩ := okWide_struct Try.underlying28 (hval 0 28 v0 rfl rfl)
  obtain ⟨cs2, rfl, hsz2⟩ := okWide_struct Try.underlying57 (hval 1 57 v1 rfl rfl)
  obtain ⟨n0, hf0⟩ := h0
  obtain ⟨n1, hf1⟩ := h1
  obtain ⟨rec, a0, cap0, hcs, hs⟩ := open_recipe hf0
  obtain ⟨proof, pa, pc, own, at_, x0, x1, x2, hds, hp⟩ := open_doubt hf1
  obtain ⟨l⟩ := cs
  obtain ⟨l2⟩ := cs2
  have hcs' : l = [.slice a0 rec.lots.length cap0, .int .i64 rec.mass.lo, .int .i64 rec.mass.hi, .int .i64 rec.target.a.lo, .int .i64 rec.target.a.hi, .int .i64 rec.target.b.lo, .int .i64 rec.target.b.hi, .int .i64 rec.target.c.lo, .int .i64 rec.target.c.hi] := by simpa [Value.cells] using hcs
  have hds' : l2 = [.slice pa proof.length pc, .bool own, .int .u8 at_, .int .i64 x0, .int .i64 x1, .int .i64 x2] := by simpa [Value.cells] using hds
  subst hcs' hds'
  clear hA0 hval0
  refine (either_c rec a0 cap0 proof pa pc own at_ x0 x1 x2 W hs hp).mono fun e W' ⟨he, hE⟩ => ?_
  have bel : Below W.heap.size W W' := Ex.below hE
  subst he
  exact ⟨_, rfl, _, _, _, [], _, [], hW', trodAll_mk1 (shut_bool Try.underlying4 _), (trodAll_cons_mk (Below.trod laid_out (by kernel_rfl) (of_decide_eq_true (by kernel_rfl)) k0 bel lt0) (trodAll_cons_mk (Below.trod laid_out (by kernel_rfl) (of_decide_eq_true (by kernel_rfl)) k1 bel lt1) trodAll_mk0)), rfl, bel.frame _, fun h => by cases h⟩

theorem either_over : Rows.chargeEitherRow.holds Try.pinned (OpenSpec.ofChange Rows.chargeEitherSpec) :=
  OpenClaim.holds_of_wide 7 Try.f7 rfl rfl rfl rfl rfl rfl rfl ⟨rfl, rfl, rfl, rfl, rfl⟩ rfl rfl rfl rfl rfl (by kernel_rfl) Try.func7 (by kernel_rfl)
    (of_decide_eq_true (by kernel_rfl)) (by unfold Func.isWrapper; first | (rw [if_pos (by decide +kernel)]; kernel_rfl) | (rw [if_neg (by decide +kernel)]; exact ⟨rfl, rfl⟩))
    (fun os started H enc _ => either_lifted os started H enc)

/-- The statement. -/
theorem chargeEither_proved : Rows.ChargeEitherSaid := either_over
end Go.Proofs.Ytojnpaenpaobcaa
