/- ChargeRefutes: the statement. No condition. -/
import Derived.Test.YtojnpaenpaobcaaS10
import Derived.Test.YtojnpaenpaobcaaV
import Derived.Test.YtojnpaenpaobcaaRows
import Derived.WalkKit
import Derived.ProofKit
import Derived.ShutString
import Derived.ChangeOld
import Derived.Below
namespace Go.Proofs.Ytojnpaenpaobcaa
open Go.RowKit
open Go.RowKit Go.ChangeShapes Go.WideShapes Go.Deep Go.ChangeAt
def Bnds.cells (b : Bnds) : List Value := [.int .i64 b.a.lo, .int .i64 b.a.hi, .int .i64 b.b.lo, .int .i64 b.b.hi, .int .i64 b.c.lo, .int .i64 b.c.hi]
theorem doubt_at {n : Int} (h : Fits (u8Cells n)) : 0 ≤ n ∧ n ≤ 255 := h (.int .u8 n) (by simp [u8Cells])
theorem fc_28 : Try.prog.cellsOf 28 = 9 := by kernel_rfl
theorem fc_22 : Try.prog.cellsOf 22 = 1 := by kernel_rfl
set_option maxRecDepth 100000 in
theorem fo_3 {H : Type} {enc : TypeId × Value → H} {W : World} {base : Nat} {spare : Nat → Bool} {held : Bool} {fuel : Nat} {cs : List Value} {x : DataW H × List MemPlace} (h : DataW.trod enc Try.prog W base spare held fuel 3 cs = some x) : ∃ r : Int, cs = intCells r ∧ Fits (intCells r) := fo_int Try.underlying3 h
theorem fc_24 : Try.prog.cellsOf 24 = 2 := by kernel_rfl
theorem fc_3 : Try.prog.cellsOf 3 = 1 := by kernel_rfl
set_option maxRecDepth 100000 in
theorem fo_24 {H : Type} {enc : TypeId × Value → H} {W : World} {base : Nat} {spare : Nat → Bool} {held : Bool} {fuel : Nat} {cs : List Value} {x : DataW H × List MemPlace} (h : DataW.trod enc Try.prog W base spare held fuel 24 cs = some x) : ∃ r : Rng, cs = Rng.cells r ∧ Fits (Rng.cells r) := by
  obtain ⟨xs, n, _, _, hlen, hx, hg⟩ := DataW.trod_struct Try.underlying24 h
  rw [fc_24] at hlen
  obtain ⟨y0, e0⟩ := someOf (i := 0) hx (by decide)
  have h0 : DataW.trod enc Try.prog W base spare held n 3 ((cs.drop 0).take (Try.prog.cellsOf 3)) = some y0 := (hg 0 _ rfl).trans e0
  rw [fc_3] at h0
  obtain ⟨a0, q0, f0⟩ := fo_3 h0
  obtain ⟨y1, e1⟩ := someOf (i := 1) hx (by decide)
  have h1 : DataW.trod enc Try.prog W base spare held n 3 ((cs.drop 1).take (Try.prog.cellsOf 3)) = some y1 := (hg 1 _ rfl).trans e1
  rw [fc_3] at h1
  obtain ⟨a1, q1, f1⟩ := fo_3 h1
  have hp := parts [(0, 1), (1, 1)] (by decide) hlen
  simp only [List.map_cons, List.map_nil, List.flatten_cons, List.flatten_nil] at hp
  rw [q0, q1] at hp
  exact ⟨⟨a0, a1⟩, hp.trans rfl, (Fits.app f0 (Fits.app f1 Fits.nil))⟩
theorem fc_26 : Try.prog.cellsOf 26 = 6 := by kernel_rfl
set_option maxRecDepth 100000 in
theorem fo_26 {H : Type} {enc : TypeId × Value → H} {W : World} {base : Nat} {spare : Nat → Bool} {held : Bool} {fuel : Nat} {cs : List Value} {x : DataW H × List MemPlace} (h : DataW.trod enc Try.prog W base spare held fuel 26 cs = some x) : ∃ r : Bnds, cs = Bnds.cells r ∧ Fits (Bnds.cells r) := by
  obtain ⟨xs, n, _, _, hlen, hx, hg⟩ := DataW.trod_array Try.underlying26 h
  rw [fc_26] at hlen
  obtain ⟨y0, e0⟩ := someOf (i := 0) hx (by decide)
  have h0 : DataW.trod enc Try.prog W base spare held n 24 ((cs.drop (0 * Try.prog.cellsOf 24)).take (Try.prog.cellsOf 24)) = some y0 := (hg 0 (by decide)).trans e0
  rw [fc_24] at h0
  obtain ⟨a0, q0, f0⟩ := fo_24 h0
  obtain ⟨y1, e1⟩ := someOf (i := 1) hx (by decide)
  have h1 : DataW.trod enc Try.prog W base spare held n 24 ((cs.drop (1 * Try.prog.cellsOf 24)).take (Try.prog.cellsOf 24)) = some y1 := (hg 1 (by decide)).trans e1
  rw [fc_24] at h1
  obtain ⟨a1, q1, f1⟩ := fo_24 h1
  obtain ⟨y2, e2⟩ := someOf (i := 2) hx (by decide)
  have h2 : DataW.trod enc Try.prog W base spare held n 24 ((cs.drop (2 * Try.prog.cellsOf 24)).take (Try.prog.cellsOf 24)) = some y2 := (hg 2 (by decide)).trans e2
  rw [fc_24] at h2
  obtain ⟨a2, q2, f2⟩ := fo_24 h2
  have hp := parts [(0, 2), (2, 2), (4, 2)] (by decide) hlen
  simp only [List.map_cons, List.map_nil, List.flatten_cons, List.flatten_nil] at hp
  simp only [Nat.reduceMul] at q0 q1 q2
  rw [q0, q1, q2] at hp
  exact ⟨⟨a0, a1, a2⟩, hp.trans rfl, (Fits.app f0 (Fits.app f1 (Fits.app f2 Fits.nil)))⟩
theorem fc_43 : Try.prog.cellsOf 43 = 9 := by kernel_rfl
set_option maxRecDepth 100000 in
theorem fo_43 {H : Type} {enc : TypeId × Value → H} {W : World} {base : Nat} {spare : Nat → Bool} {held : Bool} {fuel : Nat} {cs : List Value} {x : DataW H × List MemPlace} (h : DataW.trod enc Try.prog W base spare held fuel 43 cs = some x) : ∃ r : Lot, cs = Lot.cells r ∧ Fits (Lot.cells r) := by
  obtain ⟨xs, n, _, _, hlen, hx, hg⟩ := DataW.trod_struct Try.underlying43 h
  rw [fc_43] at hlen
  obtain ⟨y0, e0⟩ := someOf (i := 0) hx (by decide)
  have h0 : DataW.trod enc Try.prog W base spare held n 3 ((cs.drop 0).take (Try.prog.cellsOf 3)) = some y0 := (hg 0 _ rfl).trans e0
  rw [fc_3] at h0
  obtain ⟨a0, q0, f0⟩ := fo_3 h0
  obtain ⟨y1, e1⟩ := someOf (i := 1) hx (by decide)
  have h1 : DataW.trod enc Try.prog W base spare held n 3 ((cs.drop 1).take (Try.prog.cellsOf 3)) = some y1 := (hg 1 _ rfl).trans e1
  rw [fc_3] at h1
  obtain ⟨a1, q1, f1⟩ := fo_3 h1
  obtain ⟨y2, e2⟩ := someOf (i := 2) hx (by decide)
  have h2 : DataW.trod enc Try.prog W base spare held n 26 ((cs.drop 2).take (Try.prog.cellsOf 26)) = some y2 := (hg 2 _ rfl).trans e2
  rw [fc_26] at h2
  obtain ⟨a2, q2, f2⟩ := fo_26 h2
  obtain ⟨y3, e3⟩ := someOf (i := 3) hx (by decide)
  have h3 : DataW.trod enc Try.prog W base spare held n 3 ((cs.drop 8).take (Try.prog.cellsOf 3)) = some y3 := (hg 3 _ rfl).trans e3
  rw [fc_3] at h3
  obtain ⟨a3, q3, f3⟩ := fo_3 h3
  have hp := parts [(0, 1), (1, 1), (2, 6), (8, 1)] (by decide) hlen
  simp only [List.map_cons, List.map_nil, List.flatten_cons, List.flatten_nil] at hp
  rw [q0, q1, q2, q3] at hp
  exact ⟨⟨a0, a1, a2, a3⟩, hp.trans rfl, (Fits.app f0 (Fits.app f1 (Fits.app f2 (Fits.app f3 Fits.nil))))⟩
theorem fc_57 : Try.prog.cellsOf 57 = 6 := by kernel_rfl
theorem fc_53 : Try.prog.cellsOf 53 = 1 := by kernel_rfl
theorem fc_55 : Try.prog.cellsOf 55 = 3 := by kernel_rfl
set_option maxRecDepth 100000 in
theorem fo_55 {H : Type} {enc : TypeId × Value → H} {W : World} {base : Nat} {spare : Nat → Bool} {held : Bool} {fuel : Nat} {cs : List Value} {x : DataW H × List MemPlace} (h : DataW.trod enc Try.prog W base spare held fuel 55 cs = some x) : ∃ r : Split, cs = Split.cells r ∧ Fits (Split.cells r) := by
  obtain ⟨xs, n, _, _, hlen, hx, hg⟩ := DataW.trod_struct Try.underlying55 h
  rw [fc_55] at hlen
  obtain ⟨y0, e0⟩ := someOf (i := 0) hx (by decide)
  have h0 : DataW.trod enc Try.prog W base spare held n 3 ((cs.drop 0).take (Try.prog.cellsOf 3)) = some y0 := (hg 0 _ rfl).trans e0
  rw [fc_3] at h0
  obtain ⟨a0, q0, f0⟩ := fo_3 h0
  obtain ⟨y1, e1⟩ := someOf (i := 1) hx (by decide)
  have h1 : DataW.trod enc Try.prog W base spare held n 3 ((cs.drop 1).take (Try.prog.cellsOf 3)) = some y1 := (hg 1 _ rfl).trans e1
  rw [fc_3] at h1
  obtain ⟨a1, q1, f1⟩ := fo_3 h1
  obtain ⟨y2, e2⟩ := someOf (i := 2) hx (by decide)
  have h2 : DataW.trod enc Try.prog W base spare held n 3 ((cs.drop 2).take (Try.prog.cellsOf 3)) = some y2 := (hg 2 _ rfl).trans e2
  rw [fc_3] at h2
  obtain ⟨a2, q2, f2⟩ := fo_3 h2
  have hp := parts [(0, 1), (1, 1), (2, 1)] (by decide) hlen
  simp only [List.map_cons, List.map_nil, List.flatten_cons, List.flatten_nil] at hp
  rw [q0, q1, q2] at hp
  exact ⟨⟨a0, a1, a2⟩, hp.trans rfl, (Fits.app f0 (Fits.app f1 (Fits.app f2 Fits.nil)))⟩
theorem fc_4 : Try.prog.cellsOf 4 = 1 := by kernel_rfl
set_option maxRecDepth 100000 in
theorem fo_4 {H : Type} {enc : TypeId × Value → H} {W : World} {base : Nat} {spare : Nat → Bool} {held : Bool} {fuel : Nat} {cs : List Value} {x : DataW H × List MemPlace} (h : DataW.trod enc Try.prog W base spare held fuel 4 cs = some x) : ∃ r : Bool, cs = boolCells r ∧ Fits (boolCells r) := fo_bool Try.underlying4 h
theorem fc_5 : Try.prog.cellsOf 5 = 1 := by kernel_rfl
set_option maxRecDepth 100000 in
theorem fo_5 {H : Type} {enc : TypeId × Value → H} {W : World} {base : Nat} {spare : Nat → Bool} {held : Bool} {fuel : Nat} {cs : List Value} {x : DataW H × List MemPlace} (h : DataW.trod enc Try.prog W base spare held fuel 5 cs = some x) : ∃ r : Int, cs = u8Cells r ∧ Fits (u8Cells r) := fo_int Try.underlying5 h
theorem own_knob : ownKnob Try.prog.godebug = none := by kernel_rfl
theorem laid_out : laidOutB Try.prog = true := by kernel_rfl
set_option maxRecDepth 100000 in
set_option maxHeartbeats 1000000 in
theorem lrefutes_lifted (os : Os) (started : os.Started) (H : Type) (enc : TypeId × Value → H) :
    ReturnsInHanded {} Try.checked os 5 .any (Rows.chargeRefutesSpec.pre6 enc Try.prog Try.f5 Rows.chargeRefutesRow.domain false) (Rows.chargeRefutesSpec.post enc Try.prog Try.f5 false true false false) := by
  refine returnsInHanded_of_change (C := Try.checked) own_knob started (by kernel_rfl) Try.func5
    (ChangeSpec.witness6 (enc := enc) (C := Try.checked) false ⟨#[], #[.agg #[.slice none 0 0, .int .i64 0, .int .i64 0, .int .i64 0, .int .i64 0, .int .i64 0, .int .i64 0, .int .i64 0, .int .i64 0], .agg #[.slice none 0 0, .bool false, .int .u8 0, .int .i64 0, .int .i64 0, .int .i64 0]], []⟩ 8 (by kernel_rfl) (by kernel_rfl) (by kernel_rfl) (by kernel_rfl)) ?_
  intro W base args ds gs before hval0 hW hcnd _
  have hval : ∀ (j : Nat) t v, Try.f5.params[j]? = some t → args[j]? = some v → Value.okWide Try.prog W .any base t v := hval0
  have hW' := hW
  obtain ⟨p, q, hA0, hV, rfl, hfz, hnd⟩ := hW
  have hA : DataW.TrodAll enc Try.prog W 0 (fun _ => true) true Try.f5.params.toList args.toList ds p := hA0
  rw [Try.params5] at hA hval
  obtain ⟨v0, vs0, d0, ds0, p0, q0, hargs, rfl, rfl, h0, rest0⟩ := trodAll_cons hA
  obtain ⟨v1, vs1, d1, ds1, p1, q1, rfl, rfl, rfl, h1, rest1⟩ := trodAll_cons rest0
  obtain ⟨rfl, rfl, rfl⟩ := trodAll_nil rest1
  obtain rfl : args = #[v0, v1] := by cases args; simp_all
  obtain ⟨rfl, rfl⟩ := trodVars_none hV
  have k0 := h0
  have k1 := h1
  have lt0 : ∀ x ∈ p0, x.block < W.heap.size := by obtain ⟨m, hm⟩ := k0; exact DataW.trod_lt m _ _ _ hm
  have lt1 : ∀ x ∈ p1, x.block < W.heap.size := by obtain ⟨m, hm⟩ := k1; exact DataW.trod_lt m _ _ _ hm
  obtain ⟨⟨cs0⟩, rfl, hsz0⟩ := okWide_struct Try.underlying28 (hval 0 28 v0 rfl rfl)
  obtain ⟨m0, hf0⟩ := h0
  have hf0 : DataW.trod enc Try.prog W 0 (fun _ => true) true m0 28 cs0 = some (d0, p0) := hf0
  obtain ⟨xs0, n0, _, _, hlen0, hx0, hg0⟩ := DataW.trod_struct Try.underlying28 hf0
  rw [fc_28] at hlen0
  obtain ⟨y0_0, e0_0⟩ := someOf (i := 0) hx0 (by decide)
  have h0_0 := (hg0 0 _ rfl).trans e0_0
  have h0_0 : DataW.trod enc Try.prog W 0 (fun _ => true) true n0 22 ((cs0.drop 0).take 1) = some y0_0 := by rw [← fc_22]; exact h0_0
  obtain ⟨a0_0, c0_0, x0_0, q0_0, hs0_0, f0_0⟩ := fo_slice (f := Lot.cells) (Pr := fun y => Fits (Lot.cells y)) Lot.zero Try.underlying22 fc_43 (by decide) (fun _ => rfl) (fun n cs x h => fo_43 h) h0_0 rfl
  obtain ⟨y0_1, e0_1⟩ := someOf (i := 1) hx0 (by decide)
  have h0_1 := (hg0 1 _ rfl).trans e0_1
  have h0_1 : DataW.trod enc Try.prog W 0 (fun _ => true) true n0 24 ((cs0.drop 1).take 2) = some y0_1 := by rw [← fc_24]; exact h0_1
  obtain ⟨r0_1, q0_1, f0_1⟩ := fo_24 h0_1
  obtain ⟨y0_2, e0_2⟩ := someOf (i := 2) hx0 (by decide)
  have h0_2 := (hg0 2 _ rfl).trans e0_2
  have h0_2 : DataW.trod enc Try.prog W 0 (fun _ => true) true n0 26 ((cs0.drop 3).take 6) = some y0_2 := by rw [← fc_26]; exact h0_2
  obtain ⟨r0_2, q0_2, f0_2⟩ := fo_26 h0_2
  have q0 := parts [(0, 1), (1, 2), (3, 6)] (by decide) hlen0
  simp only [List.map_cons, List.map_nil, List.flatten_cons, List.flatten_nil] at q0
  rw [q0_0, q0_1, q0_2] at q0
  replace q0 : (cs0 : List Value) = [.slice a0_0 x0_0.length c0_0, .int .i64 r0_1.lo, .int .i64 r0_1.hi, .int .i64 r0_2.a.lo, .int .i64 r0_2.a.hi, .int .i64 r0_2.b.lo, .int .i64 r0_2.b.hi, .int .i64 r0_2.c.lo, .int .i64 r0_2.c.hi] := q0.trans rfl
  subst q0
  obtain ⟨⟨cs1⟩, rfl, hsz1⟩ := okWide_struct Try.underlying57 (hval 1 57 v1 rfl rfl)
  obtain ⟨m1, hf1⟩ := h1
  have hf1 : DataW.trod enc Try.prog W 0 (fun _ => true) true m1 57 cs1 = some (d1, p1) := hf1
  obtain ⟨xs1, n1, _, _, hlen1, hx1, hg1⟩ := DataW.trod_struct Try.underlying57 hf1
  rw [fc_57] at hlen1
  obtain ⟨y1_0, e1_0⟩ := someOf (i := 0) hx1 (by decide)
  have h1_0 := (hg1 0 _ rfl).trans e1_0
  have h1_0 : DataW.trod enc Try.prog W 0 (fun _ => true) true n1 53 ((cs1.drop 0).take 1) = some y1_0 := by rw [← fc_53]; exact h1_0
  obtain ⟨a1_0, c1_0, x1_0, q1_0, hs1_0, f1_0⟩ := fo_slice (f := Split.cells) (Pr := fun y => Fits (Split.cells y)) Split.zero Try.underlying53 fc_55 (by decide) (fun _ => rfl) (fun n cs x h => fo_55 h) h1_0 rfl
  obtain ⟨y1_1, e1_1⟩ := someOf (i := 1) hx1 (by decide)
  have h1_1 := (hg1 1 _ rfl).trans e1_1
  have h1_1 : DataW.trod enc Try.prog W 0 (fun _ => true) true n1 4 ((cs1.drop 1).take 1) = some y1_1 := by rw [← fc_4]; exact h1_1
  obtain ⟨r1_1, q1_1, f1_1⟩ := fo_4 h1_1
  obtain ⟨y1_2, e1_2⟩ := someOf (i := 2) hx1 (by decide)
  have h1_2 := (hg1 2 _ rfl).trans e1_2
  have h1_2 : DataW.trod enc Try.prog W 0 (fun _ => true) true n1 5 ((cs1.drop 2).take 1) = some y1_2 := by rw [← fc_5]; exact h1_2
  obtain ⟨r1_2, q1_2, f1_2⟩ := fo_5 h1_2
  obtain ⟨y1_3, e1_3⟩ := someOf (i := 3) hx1 (by decide)
  have h1_3 := (hg1 3 _ rfl).trans e1_3
  have h1_3 : DataW.trod enc Try.prog W 0 (fun _ => true) true n1 55 ((cs1.drop 3).take 3) = some y1_3 := by rw [← fc_55]; exact h1_3
  obtain ⟨r1_3, q1_3, f1_3⟩ := fo_55 h1_3
  have q1 := parts [(0, 1), (1, 1), (2, 1), (3, 3)] (by decide) hlen1
  simp only [List.map_cons, List.map_nil, List.flatten_cons, List.flatten_nil] at q1
  rw [q1_0, q1_1, q1_2, q1_3] at q1
  replace q1 : (cs1 : List Value) = [.slice a1_0 x1_0.length c1_0, .bool r1_1, .int .u8 r1_2, .int .i64 r1_3.lot, .int .i64 r1_3.at_, .int .i64 r1_3.reason] := q1.trans rfl
  subst q1
  clear hA0 hval0
  refine (lrefutes_w 50000 (⟨x0_0, r0_1, r0_2⟩ : Recipe) (⟨x1_0, r1_1, r1_2, r1_3⟩ : Doubt) a0_0 c0_0 a1_0 c1_0 W hs0_0 hs1_0 true (chargeRefutes_S (by decide) (doubt_at f1_2))).mono fun e W' ⟨he, hE⟩ => ?_
  have bel : Below W.heap.size W W' := Ex.below hE
  subst he
  exact ⟨_, rfl, _, _, _, [], _, [], hW', trodAll_mk1 (shut_bool Try.underlying4 _), (trodAll_cons_mk (Below.trod laid_out (by kernel_rfl) (of_decide_eq_true (by kernel_rfl)) k0 bel lt0) (trodAll_cons_mk (Below.trod laid_out (by kernel_rfl) (of_decide_eq_true (by kernel_rfl)) k1 bel lt1) trodAll_mk0)), rfl, bel.frame _, fun h => by cases h⟩
theorem lrefutes_over : Rows.chargeRefutesRow.holds Try.pinned (OpenSpec.ofChange Rows.chargeRefutesSpec) :=
  OpenClaim.holds_of_wide 5 Try.f5 rfl rfl rfl rfl rfl rfl rfl ⟨rfl, rfl, rfl, rfl, rfl⟩ rfl rfl rfl rfl rfl (by kernel_rfl) Try.func5 (by kernel_rfl)
    (of_decide_eq_true (by kernel_rfl)) (by unfold Func.isWrapper; first | (rw [if_pos (by decide +kernel)]; kernel_rfl) | (rw [if_neg (by decide +kernel)]; exact ⟨rfl, rfl⟩))
    (fun os started H enc _ => lrefutes_lifted os started H enc)
/-- The statement. -/
theorem chargeRefutes_proved : Rows.ChargeRefutesSaid := lrefutes_over
end Go.Proofs.Ytojnpaenpaobcaa
