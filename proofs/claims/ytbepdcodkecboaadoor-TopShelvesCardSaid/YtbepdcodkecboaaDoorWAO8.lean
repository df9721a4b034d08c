/- The statement of TopShelves: the law stands in the frame that is given. No condition. -/
import Derived.Test.YtbepdcodkecboaaDoorWMS5
import Derived.Test.YtbepdcodkecboaaDoorWYF
import Derived.Test.YtbepdcodkecboaaDoorWYR
import Derived.Test.YtbepdcodkecboaaDoorTie
import Derived.Test.YtbepdcodkecboaaDoorCards
import Derived.ProofKit
import Derived.LaidMore
import Derived.LaidHandle
import Derived.OpenShut
import Derived.Lay
import Derived.Stop.Joined
namespace Go.Proofs.YtbepdcodkecboaaDoor
open Go.RowKit Go.Proofs Go.Proofs.YtbepdcodkecboaaDoor
open Go.ChangeShapes Go.WideShapes Go.ChangeAt Go.WideMaps Go.WideElems Go.Deep
set_option maxRecDepth 100000
theorem own_knob : ownKnob Tryd.prog.godebug = none := by kernel_rfl
theorem laid_out : laidOutB Tryd.prog = true := by kernel_rfl
abbrev laidL : List (String × DataW Unit) := [("unicode/utf8.acceptRanges", Rows.laid_unicode_utf8_acceptRanges), ("unicode/utf8.first", Rows.laid_unicode_utf8_first)]
theorem fcR_25 : Tryd.prog.cellsOf 25 = 5 := by kernel_rfl
theorem fcR_27 : Tryd.prog.cellsOf 27 = 5 := by kernel_rfl
theorem fcR_29 : Tryd.prog.cellsOf 29 = 1 := by kernel_rfl
theorem fcR_31 : Tryd.prog.cellsOf 31 = 11 := by kernel_rfl
set_option maxHeartbeats 1000000 in
theorem tShelves_lifted (os : Os) (started : os.Started) (H : Type) (enc : TypeId × Value → H) :
    ReturnsInHanded {} Tryd.checked os 3 .any (fun w args => (Rows.topShelvesSpec.pre enc Tryd.prog Tryd.f3 [] false w args ∧ laidMetH Tryd.prog laidL w) ∧ sizedMet enc Tryd.prog Tryd.f3 (OpenSpec.ofChange Rows.topShelvesSpec) false w args) (Rows.topShelvesSpec.post enc Tryd.prog Tryd.f3 false true false false) := by
  refine returnsInHanded_of_change_and (C := Tryd.checked) (X := fun w _ => laidMetH Tryd.prog laidL w) (fun _ _ _ hh h => h.of_heap hh) own_knob started (by kernel_rfl) Tryd.func3
    (ChangeSpec.witness_shaped (enc := enc) (C := Tryd.checked) (os := os) (X := fun w _ => laidMetH Tryd.prog laidL w) false (World.laidAll Tryd.prog os laidL) #[.agg #[.int .i64 0, .int .i64 0, .int .i64 0, .int .i64 0, .int .i64 0, .int .i64 0, .int .i64 0, .int .i64 0, .int .i64 0, .int .i64 0, .slice none 0 0], .int .i64 0, .slice none 0 0] 64 (World.laidAll_os _ _ _) (World.shaped_of_ZipB (by kernel_rfl) (by kernel_rfl)) (by kernel_rfl) (by kernel_rfl) (by kernel_rfl) (by rw [MakeChecks.laidMetH_plain _ _ _ (by kernel_rfl)]; exact laidMet_laidAll _ (by kernel_rfl) (by kernel_rfl))) ?_
  intro W base args ds gs before hval0 hW _ _ _ _
  have hval : ∀ (j : Nat) t v, Tryd.f3.params[j]? = some t → args[j]? = some v → Value.okWide Tryd.prog W .any base t v := hval0
  have hW' := hW
  obtain ⟨p, q, hA0, hV, rfl, hfz, hnd⟩ := hW
  have hA : DataW.TrodAll enc Tryd.prog W 0 (fun _ => true) true Tryd.f3.params.toList args.toList ds p := hA0
  rw [Tryd.params3] at hA hval
  obtain ⟨v0, vs0, d0, ds0, p0, q0, hargs, rfl, rfl, h0, rest0⟩ := trodAll_cons hA
  obtain ⟨v1, vs1, d1, ds1, p1, q1, rfl, rfl, rfl, h1, rest1⟩ := trodAll_cons rest0
  obtain ⟨v2, vs2, d2, ds2, p2, q2, rfl, rfl, rfl, h2, rest2⟩ := trodAll_cons rest1
  obtain ⟨rfl, rfl, rfl⟩ := trodAll_nil rest2
  obtain rfl : args = #[v0, v1, v2] := by cases args; simp_all
  obtain ⟨rfl, rfl⟩ := trodVars_none hV
  have lt0 : ∀ x ∈ p0, x.block < W.heap.size := by obtain ⟨m, hm⟩ := h0; exact DataW.trod_lt m _ _ _ hm
  have k0 := h0
  obtain ⟨⟨cs0⟩, rfl, hsz0⟩ := okWide_struct Tryd.underlying31 (hval 0 31 v0 rfl rfl)
  obtain ⟨m0, hf0⟩ := h0
  have hf0 : DataW.trod enc Tryd.prog W 0 (fun _ => true) true m0 31 cs0 = some (d0, p0) := hf0
  obtain ⟨xs0, n0, _, _, hlen0, hx0, hg0⟩ := DataW.trod_struct Tryd.underlying31 hf0
  rw [fcR_31] at hlen0
  obtain ⟨z0_0, e0_0⟩ := someOf (i := 0) hx0 (by decide)
  have g0_0 := (hg0 0 _ rfl).trans e0_0
  have g0_0 : DataW.trod enc Tryd.prog W 0 (fun _ => true) true n0 25 ((cs0.drop 0).take 5) = some z0_0 := by rw [← fcR_25]; exact g0_0
  obtain ⟨y0_0, r0_0, f0_0⟩ := flat_part (d := 20) (τ := (.pair (.pair (.int .i64) (.int .i64)) (.pair (.pair (.int .i64) (.int .i64)) (.int .i64)))) (by kernel_rfl) (by kernel_rfl) g0_0
  obtain ⟨z0_1, e0_1⟩ := someOf (i := 1) hx0 (by decide)
  have g0_1 := (hg0 1 _ rfl).trans e0_1
  have g0_1 : DataW.trod enc Tryd.prog W 0 (fun _ => true) true n0 27 ((cs0.drop 5).take 5) = some z0_1 := by rw [← fcR_27]; exact g0_1
  obtain ⟨y0_1, r0_1, f0_1⟩ := flat_part (d := 20) (τ := (.pair (.int .i64) (.pair (.int .i64) (.pair (.int .i64) (.pair (.int .i64) (.int .i64)))))) (by kernel_rfl) (by kernel_rfl) g0_1
  obtain ⟨z0_2, e0_2⟩ := someOf (i := 2) hx0 (by decide)
  have g0_2 := (hg0 2 _ rfl).trans e0_2
  have g0_2 : DataW.trod enc Tryd.prog W 0 (fun _ => true) true n0 29 ((cs0.drop 10).take 1) = some z0_2 := by rw [← fcR_29]; exact g0_2
  obtain ⟨i0_2, x0_2, q0_2, s0_2⟩ := sl_in (d := 20) (τ := (.int .u8)) Tryd.underlying29 (by kernel_rfl) (by kernel_rfl) (by kernel_rfl) (by decide) (TC.dflt (.int .u8)) g0_2
  have q0 := parts [(0, 5), (5, 5), (10, 1)] (by decide) hlen0
  simp only [List.map_cons, List.map_nil, List.flatten_cons, List.flatten_nil] at q0
  rw [q0_2] at q0
  have lt1 : ∀ x ∈ p1, x.block < W.heap.size := by obtain ⟨m, hm⟩ := h1; exact DataW.trod_lt m _ _ _ hm
  have k1 := h1
  obtain ⟨y1, e1, f1⟩ := flat_value (d := 20) (τ := (.int .i64)) (by kernel_rfl) (by kernel_rfl) (hval 1 3 v1 rfl rfl) h1 Tryd.underlying3
  have lt2 : ∀ x ∈ p2, x.block < W.heap.size := by obtain ⟨m, hm⟩ := h2; exact DataW.trod_lt m _ _ _ hm
  have k2 := h2
  obtain ⟨va2, vl2, vc2, rfl⟩ := okWide_slice Tryd.underlying32 (hval 2 32 v2 rfl rfl)
  obtain ⟨m2, hf2⟩ := h2
  have hf2 : DataW.trod enc Tryd.prog W 0 (fun _ => true) true m2 32 [.slice va2 vl2 vc2] = some (d2, p2) := hf2
  obtain ⟨i2, x2, q2, s2⟩ := sl_in (d := 20) (τ := (.pair (.int .u8) (.pair (.int .u8) (.pair (.int .u8) (.int .u8))))) Tryd.underlying32 (by kernel_rfl) (by kernel_rfl) (by kernel_rfl) (by decide) (TC.dflt (.pair (.int .u8) (.pair (.int .u8) (.pair (.int .u8) (.int .u8))))) hf2
  simp only [List.cons.injEq, Value.slice.injEq, and_true] at q2
  obtain ⟨u2, w2, z2⟩ := q2
  subst va2 vl2 vc2
  clear hA0 hval0
  have E0 := (DenL.app (r0_0.mono (pre_nil _)) (DenL.app (r0_1.mono (pre_nil _)) (DenL.app (show DenL [i0_2, i2, nilI, nilI, nilI, nilI] [.sl 0 (TC.w (.int .u8)) 0 none none] _ from ⟨_, [], rfl, s0_2.den rfl, rfl⟩) (show DenL [i0_2, i2, nilI, nilI, nilI, nilI] [] [] from rfl))))
  rw [← q0] at E0
  obtain ⟨B, C, D, E, hlaw⟩ := tShel_law 5000 (by decide) (y0_0, y0_1) y1 x0_2 x2 (fun d h => s2.fit d h)
  refine (law_callsA (tShelves_ok 5000) (((y0_0, y0_1), y1), (x0_2, x2, [], [], [], [])) (true, B, C, D, E) hlaw rfl [.agg ⟨cs0⟩, v1, .slice i2.a x2.length i2.cap] rfl W (by kernel_rfl) [i0_2, i2, nilI, nilI, nilI, nilI] (⟨⟨.agg ⟨cs0⟩, ⟨cs0, E0, rfl⟩, rfl⟩, ⟨v1, (show Den [i0_2, i2, nilI, nilI, nilI, nilI] _ v1 from (den_sc e1).mono (pre_nil [i0_2, i2, nilI, nilI, nilI, nilI])), rfl⟩, ⟨.slice i2.a x2.length i2.cap, (show Den [i0_2, i2, nilI, nilI, nilI, nilI] (.sl 1 (TC.w (.pair (.int .u8) (.pair (.int .u8) (.pair (.int .u8) (.int .u8))))) 0 none none) _ from s2.den rfl), rfl⟩, trivial⟩) (⟨_, _, rfl, .inl ⟨_, _, rfl⟩, s0_2.root, s0_2.objs, ⟨_, _, rfl, .inl ⟨_, _, rfl⟩, s2.root, s2.objs, rosA_empty (h := [.ars 0 4 .bool [], .ars 1 3 (.int .i64) [], .aro 2 101 (.pair (.pair (.int .i64) (.pair (.int .i64) (.pair (.int .i64) (.int .i64)))) (.pair (.rf 2 3) .bool)) [], .arm 3 .i64 false .bool []]) (by simp [Root.tag, Root.obs])⟩⟩) ⟨trivial, fun b h => by simp [gBlk] at h⟩).mono fun e W' ⟨he, hE⟩ => ?_
  have bel : Below W.heap.size W W' := Ex.below hE
  subst he
  exact ⟨_, rfl, _, _, _, [], _, [], hW', trodAll_mk1 (shut_bool Tryd.underlying4 _), (trodAll_cons_mk (Below.trod laid_out (by kernel_rfl) (of_decide_eq_true (by kernel_rfl)) k0 bel lt0) (trodAll_cons_mk (Below.trod laid_out (by kernel_rfl) (of_decide_eq_true (by kernel_rfl)) k1 bel lt1) (trodAll_cons_mk (Below.trod laid_out (by kernel_rfl) (of_decide_eq_true (by kernel_rfl)) k2 bel lt2) trodAll_mk0))), rfl, bel.frame _, fun h => by cases h⟩
theorem tShelves_over : Rows.TopShelvesSaid :=
  OpenClaim.holds_of_wide 3 Tryd.f3 rfl rfl rfl rfl rfl rfl rfl ⟨rfl, rfl, rfl, rfl, rfl⟩ rfl rfl rfl rfl rfl (by kernel_rfl) Tryd.func3 (by kernel_rfl)
    (of_decide_eq_true (by kernel_rfl)) (by unfold Func.isWrapper; first | (rw [if_pos (by decide +kernel)]; kernel_rfl) | (rw [if_neg (by decide +kernel)]; exact ⟨rfl, rfl⟩))
    (fun os started H enc _ => tShelves_lifted os started H enc)
/-- The statement. -/
theorem tShelves_proved : Rows.TopShelvesCardSaid :=
  Claim7.holds_tied_plain_at .later [] [.data, .pinned] true (true, "98b673cd53f1f2f8a82c18039b5755af27f68d456d023f8707b4541c94ff1fe1") false
    tShelves_over (fun _ h => by cases h) (by kernel_rfl) (fun _ h => by cases h) topShelves_row_tie rfl ⟨rfl, rfl⟩ (by kernel_rfl) rfl
    (fun f fn hf hfn => by
      obtain rfl : f = 3 := Option.some.inj ((show Tryd.prog.funcNamed "boule/bouletop.TopShelves" = some 3 by kernel_rfl).symm.trans hf) |>.symm
      obtain rfl : fn = Tryd.f3 := (Option.some.inj (Tryd.func3.symm.trans hfn)).symm
      exact ⟨by kernel_rfl, fun j t ht => by
        rw [Tryd.params3] at ht
        have hm : t ∈ [31, 3, 32] := by simpa using Array.mem_of_getElem? ht
        have hall : ([31, 3, 32].all fun u => !Tryd.prog.wantsStandIn u) = true := by kernel_rfl
        exact (show Tryd.prog.wantsStandIn t = false by simpa using List.all_eq_true.1 hall t hm)⟩)
    (by kernel_rfl)
end Go.Proofs.YtbepdcodkecboaaDoor
