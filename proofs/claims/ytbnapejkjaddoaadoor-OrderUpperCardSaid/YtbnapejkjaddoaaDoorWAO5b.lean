/- The statement of OrderUpper: the law stands in the frame that is given. No condition. -/
import Derived.Test.YtbnapejkjaddoaaDoorWLO5b
import Derived.Test.YtbnapejkjaddoaaDoorWYF
import Derived.Test.YtbnapejkjaddoaaDoorWYR
import Derived.Test.YtbnapejkjaddoaaDoorTie
import Derived.Test.YtbnapejkjaddoaaDoorCards
import Derived.ProofKit
import Derived.LaidMore
import Derived.LaidHandle
import Derived.OpenShut
import Derived.Lay
import Derived.Stop.Joined
namespace Go.Proofs.YtbnapejkjaddoaaDoor
open Go.RowKit Go.Proofs Go.Proofs.YtbnapejkjaddoaaDoor
open Go.ChangeShapes Go.WideShapes Go.ChangeAt Go.WideMaps Go.WideElems Go.Deep
set_option maxRecDepth 100000
theorem own_knob : ownKnob Tryd.prog.godebug = none := by kernel_rfl
theorem laid_out : laidOutB Tryd.prog = true := by kernel_rfl
abbrev laidL : List (String × DataW Unit) := [("unicode/utf8.acceptRanges", Rows.laid_unicode_utf8_acceptRanges), ("unicode/utf8.first", Rows.laid_unicode_utf8_first)]
theorem fcR_22 : Tryd.prog.cellsOf 22 = 1 := by kernel_rfl
theorem fcR_23 : Tryd.prog.cellsOf 23 = 1 := by kernel_rfl
theorem fcR_24 : Tryd.prog.cellsOf 24 = 1 := by kernel_rfl
theorem fcR_26 : Tryd.prog.cellsOf 26 = 3 := by kernel_rfl
theorem fcR_32 : Tryd.prog.cellsOf 32 = 1 := by kernel_rfl
theorem fcR_72 : Tryd.prog.cellsOf 72 = 2 := by kernel_rfl
set_option maxHeartbeats 1000000 in
theorem oUpper_lifted (os : Os) (started : os.Started) (H : Type) (enc : TypeId × Value → H) :
    ReturnsInHanded {} Tryd.checked os 9 .any (fun w args => (Rows.orderUpperSpec.pre enc Tryd.prog Tryd.f9 [] false w args ∧ laidMetH Tryd.prog laidL w) ∧ sizedMet enc Tryd.prog Tryd.f9 (OpenSpec.ofChange Rows.orderUpperSpec) false w args) (Rows.orderUpperSpec.post enc Tryd.prog Tryd.f9 false true false false) := by
  refine returnsInHanded_of_change_and (C := Tryd.checked) (X := fun w _ => laidMetH Tryd.prog laidL w) (fun _ _ _ hh h => h.of_heap hh) own_knob started (by kernel_rfl) Tryd.func9
    (ChangeSpec.witness_shaped (enc := enc) (C := Tryd.checked) (os := os) (X := fun w _ => laidMetH Tryd.prog laidL w) false (World.laidAll Tryd.prog os laidL) #[.agg #[.slice none 0 0, .slice none 0 0, .slice none 0 0], .slice none 0 0, .agg #[.slice none 0 0, .slice none 0 0]] 64 (World.laidAll_os _ _ _) (World.shaped_of_ZipB (by kernel_rfl) (by kernel_rfl)) (by kernel_rfl) (by kernel_rfl) (by kernel_rfl) (by rw [MakeChecks.laidMetH_plain _ _ _ (by kernel_rfl)]; exact laidMet_laidAll _ (by kernel_rfl) (by kernel_rfl))) ?_
  intro W base args ds gs before hval0 hW _ _ _ _
  have hval : ∀ (j : Nat) t v, Tryd.f9.params[j]? = some t → args[j]? = some v → Value.okWide Tryd.prog W .any base t v := hval0
  have hW' := hW
  obtain ⟨p, q, hA0, hV, rfl, hfz, hnd⟩ := hW
  have hA : DataW.TrodAll enc Tryd.prog W 0 (fun _ => true) true Tryd.f9.params.toList args.toList ds p := hA0
  rw [Tryd.params9] at hA hval
  obtain ⟨v0, vs0, d0, ds0, p0, q0, hargs, rfl, rfl, h0, rest0⟩ := trodAll_cons hA
  obtain ⟨v1, vs1, d1, ds1, p1, q1, rfl, rfl, rfl, h1, rest1⟩ := trodAll_cons rest0
  obtain ⟨v2, vs2, d2, ds2, p2, q2, rfl, rfl, rfl, h2, rest2⟩ := trodAll_cons rest1
  obtain ⟨rfl, rfl, rfl⟩ := trodAll_nil rest2
  obtain rfl : args = #[v0, v1, v2] := by cases args; simp_all
  obtain ⟨rfl, rfl⟩ := trodVars_none hV
  have lt0 : ∀ x ∈ p0, x.block < W.heap.size := by obtain ⟨m, hm⟩ := h0; exact DataW.trod_lt m _ _ _ hm
  have k0 := h0
  obtain ⟨⟨cs0⟩, rfl, hsz0⟩ := okWide_struct Tryd.underlying26 (hval 0 26 v0 rfl rfl)
  obtain ⟨m0, hf0⟩ := h0
  have hf0 : DataW.trod enc Tryd.prog W 0 (fun _ => true) true m0 26 cs0 = some (d0, p0) := hf0
  obtain ⟨xs0, n0, _, _, hlen0, hx0, hg0⟩ := DataW.trod_struct Tryd.underlying26 hf0
  rw [fcR_26] at hlen0
  obtain ⟨z0_0, e0_0⟩ := someOf (i := 0) hx0 (by decide)
  have g0_0 := (hg0 0 _ rfl).trans e0_0
  have g0_0 : DataW.trod enc Tryd.prog W 0 (fun _ => true) true n0 22 ((cs0.drop 0).take 1) = some z0_0 := by rw [← fcR_22]; exact g0_0
  obtain ⟨i0_0, x0_0, q0_0, s0_0⟩ := sl_in (d := 20) (τ := (.pair (.pair (.pair (.int .i64) (.int .i64)) (.pair (.pair (.int .i64) (.int .i64)) (.pair (.pair (.int .i64) (.int .i64)) (.pair (.pair (.int .i64) (.int .i64)) (.pair (.pair (.int .i64) (.int .i64)) (.pair (.int .i64) (.int .i64))))))) (.int .u8))) Tryd.underlying22 (by kernel_rfl) (by kernel_rfl) (by kernel_rfl) (by decide) (TC.dflt (.pair (.pair (.pair (.int .i64) (.int .i64)) (.pair (.pair (.int .i64) (.int .i64)) (.pair (.pair (.int .i64) (.int .i64)) (.pair (.pair (.int .i64) (.int .i64)) (.pair (.pair (.int .i64) (.int .i64)) (.pair (.int .i64) (.int .i64))))))) (.int .u8))) g0_0
  obtain ⟨z0_1, e0_1⟩ := someOf (i := 1) hx0 (by decide)
  have g0_1 := (hg0 1 _ rfl).trans e0_1
  have g0_1 : DataW.trod enc Tryd.prog W 0 (fun _ => true) true n0 23 ((cs0.drop 1).take 1) = some z0_1 := by rw [← fcR_23]; exact g0_1
  obtain ⟨i0_1, x0_1, q0_1, s0_1⟩ := sl_in (d := 20) (τ := (.pair (.pair (.pair (.int .i64) (.int .i64)) (.pair (.pair (.int .i64) (.int .i64)) (.pair (.pair (.int .i64) (.int .i64)) (.pair (.pair (.int .i64) (.int .i64)) (.pair (.pair (.int .i64) (.int .i64)) (.pair (.int .i64) (.int .i64))))))) (.pair (.int .u8) (.pair .str (.pair .str (.pair .str (.pair .str (.pair .str .str)))))))) Tryd.underlying23 (by kernel_rfl) (by kernel_rfl) (by kernel_rfl) (by decide) (TC.dflt (.pair (.pair (.pair (.int .i64) (.int .i64)) (.pair (.pair (.int .i64) (.int .i64)) (.pair (.pair (.int .i64) (.int .i64)) (.pair (.pair (.int .i64) (.int .i64)) (.pair (.pair (.int .i64) (.int .i64)) (.pair (.int .i64) (.int .i64))))))) (.pair (.int .u8) (.pair .str (.pair .str (.pair .str (.pair .str (.pair .str .str)))))))) g0_1
  obtain ⟨z0_2, e0_2⟩ := someOf (i := 2) hx0 (by decide)
  have g0_2 := (hg0 2 _ rfl).trans e0_2
  have g0_2 : DataW.trod enc Tryd.prog W 0 (fun _ => true) true n0 24 ((cs0.drop 2).take 1) = some z0_2 := by rw [← fcR_24]; exact g0_2
  obtain ⟨i0_2, x0_2, q0_2, s0_2⟩ := sl_in (d := 20) (τ := (.pair (.int .i64) (.pair (.int .i64) (.pair (.int .i64) (.int .i64))))) Tryd.underlying24 (by kernel_rfl) (by kernel_rfl) (by kernel_rfl) (by decide) (TC.dflt (.pair (.int .i64) (.pair (.int .i64) (.pair (.int .i64) (.int .i64))))) g0_2
  have q0 := parts [(0, 1), (1, 1), (2, 1)] (by decide) hlen0
  simp only [List.map_cons, List.map_nil, List.flatten_cons, List.flatten_nil] at q0
  rw [q0_0, q0_1, q0_2] at q0
  have lt1 : ∀ x ∈ p1, x.block < W.heap.size := by obtain ⟨m, hm⟩ := h1; exact DataW.trod_lt m _ _ _ hm
  have k1 := h1
  obtain ⟨va1, vl1, vc1, rfl⟩ := okWide_slice Tryd.underlying32 (hval 1 32 v1 rfl rfl)
  obtain ⟨m1, hf1⟩ := h1
  have hf1 : DataW.trod enc Tryd.prog W 0 (fun _ => true) true m1 32 [.slice va1 vl1 vc1] = some (d1, p1) := hf1
  obtain ⟨i1, x1, q1, s1⟩ := sl_in (d := 20) (τ := (.int .i64)) Tryd.underlying32 (by kernel_rfl) (by kernel_rfl) (by kernel_rfl) (by decide) (TC.dflt (.int .i64)) hf1
  simp only [List.cons.injEq, Value.slice.injEq, and_true] at q1
  obtain ⟨u1, w1, z1⟩ := q1
  subst va1 vl1 vc1
  have lt2 : ∀ x ∈ p2, x.block < W.heap.size := by obtain ⟨m, hm⟩ := h2; exact DataW.trod_lt m _ _ _ hm
  have k2 := h2
  obtain ⟨⟨cs2⟩, rfl, hsz2⟩ := okWide_struct Tryd.underlying72 (hval 2 72 v2 rfl rfl)
  obtain ⟨m2, hf2⟩ := h2
  have hf2 : DataW.trod enc Tryd.prog W 0 (fun _ => true) true m2 72 cs2 = some (d2, p2) := hf2
  obtain ⟨xs2, n2, _, _, hlen2, hx2, hg2⟩ := DataW.trod_struct Tryd.underlying72 hf2
  rw [fcR_72] at hlen2
  obtain ⟨z2_0, e2_0⟩ := someOf (i := 0) hx2 (by decide)
  have g2_0 := (hg2 0 _ rfl).trans e2_0
  have g2_0 : DataW.trod enc Tryd.prog W 0 (fun _ => true) true n2 32 ((cs2.drop 0).take 1) = some z2_0 := by rw [← fcR_32]; exact g2_0
  obtain ⟨i2_0, x2_0, q2_0, s2_0⟩ := sl_in (d := 20) (τ := (.int .i64)) Tryd.underlying32 (by kernel_rfl) (by kernel_rfl) (by kernel_rfl) (by decide) (TC.dflt (.int .i64)) g2_0
  obtain ⟨z2_1, e2_1⟩ := someOf (i := 1) hx2 (by decide)
  have g2_1 := (hg2 1 _ rfl).trans e2_1
  have g2_1 : DataW.trod enc Tryd.prog W 0 (fun _ => true) true n2 32 ((cs2.drop 1).take 1) = some z2_1 := by rw [← fcR_32]; exact g2_1
  obtain ⟨i2_1, x2_1, q2_1, s2_1⟩ := sl_in (d := 20) (τ := (.int .i64)) Tryd.underlying32 (by kernel_rfl) (by kernel_rfl) (by kernel_rfl) (by decide) (TC.dflt (.int .i64)) g2_1
  have q2 := parts [(0, 1), (1, 1)] (by decide) hlen2
  simp only [List.map_cons, List.map_nil, List.flatten_cons, List.flatten_nil] at q2
  rw [q2_0, q2_1] at q2
  clear hA0 hval0
  have E0 := (DenL.app (show DenL [i0_0, i0_1, i0_2, i1, i2_0, i2_1, nilI, nilI] [.sl 0 (TC.w (.pair (.pair (.pair (.int .i64) (.int .i64)) (.pair (.pair (.int .i64) (.int .i64)) (.pair (.pair (.int .i64) (.int .i64)) (.pair (.pair (.int .i64) (.int .i64)) (.pair (.pair (.int .i64) (.int .i64)) (.pair (.int .i64) (.int .i64))))))) (.int .u8))) 0 none none] _ from ⟨_, [], rfl, s0_0.den rfl, rfl⟩) (DenL.app (show DenL [i0_0, i0_1, i0_2, i1, i2_0, i2_1, nilI, nilI] [.sl 1 (TC.w (.pair (.pair (.pair (.int .i64) (.int .i64)) (.pair (.pair (.int .i64) (.int .i64)) (.pair (.pair (.int .i64) (.int .i64)) (.pair (.pair (.int .i64) (.int .i64)) (.pair (.pair (.int .i64) (.int .i64)) (.pair (.int .i64) (.int .i64))))))) (.pair (.int .u8) (.pair .str (.pair .str (.pair .str (.pair .str (.pair .str .str)))))))) 0 none none] _ from ⟨_, [], rfl, s0_1.den rfl, rfl⟩) (DenL.app (show DenL [i0_0, i0_1, i0_2, i1, i2_0, i2_1, nilI, nilI] [.sl 2 (TC.w (.pair (.int .i64) (.pair (.int .i64) (.pair (.int .i64) (.int .i64))))) 0 none none] _ from ⟨_, [], rfl, s0_2.den rfl, rfl⟩) (show DenL [i0_0, i0_1, i0_2, i1, i2_0, i2_1, nilI, nilI] [] [] from rfl))))
  rw [← q0] at E0
  have E2 := (DenL.app (show DenL [i0_0, i0_1, i0_2, i1, i2_0, i2_1, nilI, nilI] [.sl 4 (TC.w (.int .i64)) 0 none none] _ from ⟨_, [], rfl, s2_0.den rfl, rfl⟩) (DenL.app (show DenL [i0_0, i0_1, i0_2, i1, i2_0, i2_1, nilI, nilI] [.sl 5 (TC.w (.int .i64)) 0 none none] _ from ⟨_, [], rfl, s2_1.den rfl, rfl⟩) (show DenL [i0_0, i0_1, i0_2, i1, i2_0, i2_1, nilI, nilI] [] [] from rfl)))
  rw [← q2] at E2
  obtain ⟨B, C, hlaw⟩ := oUpper_law0 3000 (by decide) x0_0 x0_1 x0_2 x1 x2_0 x2_1 (fun w h => (s0_1.fit w h).2.1)
  refine (law_callsA (oUpper_ok 3000) ((x0_0, x0_1, x0_2, x1, x2_0, x2_1, [], [])) (true, B, C) hlaw rfl [.agg ⟨cs0⟩, .slice i1.a x1.length i1.cap, .agg ⟨cs2⟩] rfl W (by kernel_rfl) [i0_0, i0_1, i0_2, i1, i2_0, i2_1, nilI, nilI] (⟨⟨.agg ⟨cs0⟩, ⟨cs0, E0, rfl⟩, rfl⟩, ⟨.slice i1.a x1.length i1.cap, (show Den [i0_0, i0_1, i0_2, i1, i2_0, i2_1, nilI, nilI] (.sl 3 (TC.w (.int .i64)) 0 none none) _ from s1.den rfl), rfl⟩, ⟨.agg ⟨cs2⟩, ⟨cs2, E2, rfl⟩, rfl⟩, trivial⟩) (⟨_, _, rfl, .inl ⟨_, _, rfl⟩, s0_0.root, s0_0.objs, ⟨_, _, rfl, .inl ⟨_, _, rfl⟩, s0_1.root, s0_1.objs, ⟨_, _, rfl, .inl ⟨_, _, rfl⟩, s0_2.root, s0_2.objs, ⟨_, _, rfl, .inl ⟨_, _, rfl⟩, s1.root, s1.objs, ⟨_, _, rfl, .inl ⟨_, _, rfl⟩, s2_0.root, s2_0.objs, ⟨_, _, rfl, .inl ⟨_, _, rfl⟩, s2_1.root, s2_1.objs, rosA_empty (h := [.ars 0 4 .bool [], .ars 1 3 (.int .i64) []]) (by simp [Root.tag, Root.obs])⟩⟩⟩⟩⟩⟩) ⟨trivial, fun b h => by simp [gBlk] at h⟩).mono fun e W' ⟨he, hE⟩ => ?_
  have bel : Below W.heap.size W W' := Ex.below hE
  subst he
  exact ⟨_, rfl, _, _, _, [], _, [], hW', trodAll_mk1 (shut_bool Tryd.underlying4 _), (trodAll_cons_mk (Below.trod laid_out (by kernel_rfl) (of_decide_eq_true (by kernel_rfl)) k0 bel lt0) (trodAll_cons_mk (Below.trod laid_out (by kernel_rfl) (of_decide_eq_true (by kernel_rfl)) k1 bel lt1) (trodAll_cons_mk (Below.trod laid_out (by kernel_rfl) (of_decide_eq_true (by kernel_rfl)) k2 bel lt2) trodAll_mk0))), rfl, bel.frame _, fun h => by cases h⟩
theorem oUpper_over : Rows.OrderUpperSaid :=
  OpenClaim.holds_of_wide 9 Tryd.f9 rfl rfl rfl rfl rfl rfl rfl ⟨rfl, rfl, rfl, rfl, rfl⟩ rfl rfl rfl rfl rfl (by kernel_rfl) Tryd.func9 (by kernel_rfl)
    (of_decide_eq_true (by kernel_rfl)) (by unfold Func.isWrapper; first | (rw [if_pos (by decide +kernel)]; kernel_rfl) | (rw [if_neg (by decide +kernel)]; exact ⟨rfl, rfl⟩))
    (fun os started H enc _ => oUpper_lifted os started H enc)
/-- The statement. -/
theorem oUpper_proved : Rows.OrderUpperCardSaid :=
  Claim7.holds_tied_plain_at .later [] [.data, .pinned] true (true, "f8ef24b362c8d09f225da00826547b8f132183328fc7b5640d8093846d71b29e") false
    oUpper_over (fun _ h => by cases h) (by kernel_rfl) (fun _ h => by cases h) orderUpper_row_tie rfl ⟨rfl, rfl⟩ (by kernel_rfl) rfl
    (fun f fn hf hfn => by
      obtain rfl : f = 9 := Option.some.inj ((show Tryd.prog.funcNamed "boule/boulelaw10.OrderUpper" = some 9 by kernel_rfl).symm.trans hf) |>.symm
      obtain rfl : fn = Tryd.f9 := (Option.some.inj (Tryd.func9.symm.trans hfn)).symm
      exact ⟨by kernel_rfl, fun j t ht => by
        rw [Tryd.params9] at ht
        have hm : t ∈ [26, 32, 72] := by simpa using Array.mem_of_getElem? ht
        have hall : ([26, 32, 72].all fun u => !Tryd.prog.wantsStandIn u) = true := by kernel_rfl
        exact (show Tryd.prog.wantsStandIn t = false by simpa using List.all_eq_true.1 hall t hm)⟩)
    (by kernel_rfl)


end Go.Proofs.YtbnapejkjaddoaaDoor
