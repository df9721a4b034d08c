/- The statement of OrderKeeps: the law stands in the frame that is given. No condition. -/
import Derived.Test.YtbnapejkjaddoaaDoorWMK20
import Derived.Test.YtbnapejkjaddoaaDoorWYF
import Derived.Test.YtbnapejkjaddoaaDoorWYR
import Derived.Test.YtbnapejkjaddoaaDoorTie
import Derived.Test.YtbnapejkjaddoaaDoorCards
import Derived.ProofKit
import Derived.LaidMore
import Derived.LaidHandle
import Derived.OpenShut
import Derived.Lay
import Derived.Stop.Joined
namespace Go.Proofs.YtbnapejkjaddoaaDoor
open Go.RowKit Go.Proofs Go.Proofs.YtbnapejkjaddoaaDoor
open Go.ChangeShapes Go.WideShapes Go.ChangeAt Go.WideMaps Go.WideElems Go.Deep
set_option maxRecDepth 100000
theorem own_knob : ownKnob Tryd.prog.godebug = none := by kernel_rfl
theorem laid_out : laidOutB Tryd.prog = true := by kernel_rfl
abbrev laidL : List (String × DataW Unit) := [("unicode/utf8.acceptRanges", Rows.laid_unicode_utf8_acceptRanges), ("unicode/utf8.first", Rows.laid_unicode_utf8_first)]
set_option maxHeartbeats 1000000 in
theorem oKeeps_lifted (os : Os) (started : os.Started) (H : Type) (enc : TypeId × Value → H) :
    ReturnsInHanded {} Tryd.checked os 12 .any (fun w args => (Rows.orderKeepsSpec.pre enc Tryd.prog Tryd.f12 [] false w args ∧ laidMetH Tryd.prog laidL w) ∧ sizedMet enc Tryd.prog Tryd.f12 (OpenSpec.ofChange Rows.orderKeepsSpec) false w args) (Rows.orderKeepsSpec.post enc Tryd.prog Tryd.f12 false true false false) := by
  refine returnsInHanded_of_change_and (C := Tryd.checked) (X := fun w _ => laidMetH Tryd.prog laidL w) (fun _ _ _ hh h => h.of_heap hh) own_knob started (by kernel_rfl) Tryd.func12
    (ChangeSpec.witness_shaped (enc := enc) (C := Tryd.checked) (os := os) (X := fun w _ => laidMetH Tryd.prog laidL w) false (World.laidAll Tryd.prog os laidL) #[.slice none 0 0, .slice none 0 0, .int .i64 0] 64 (World.laidAll_os _ _ _) (World.shaped_of_ZipB (by kernel_rfl) (by kernel_rfl)) (by kernel_rfl) (by kernel_rfl) (by kernel_rfl) (by rw [MakeChecks.laidMetH_plain _ _ _ (by kernel_rfl)]; exact laidMet_laidAll _ (by kernel_rfl) (by kernel_rfl))) ?_
  intro W base args ds gs before hval0 hW _ hwt _ _
  have hval : ∀ (j : Nat) t v, Tryd.f12.params[j]? = some t → args[j]? = some v → Value.okWide Tryd.prog W .any base t v := hval0
  have hW' := hW
  obtain ⟨p, q, hA0, hV, rfl, hfz, hnd⟩ := hW
  have hA : DataW.TrodAll enc Tryd.prog W 0 (fun _ => true) true Tryd.f12.params.toList args.toList ds p := hA0
  rw [Tryd.params12] at hA hval
  obtain ⟨v0, vs0, d0, ds0, p0, q0, hargs, rfl, rfl, h0, rest0⟩ := trodAll_cons hA
  obtain ⟨v1, vs1, d1, ds1, p1, q1, rfl, rfl, rfl, h1, rest1⟩ := trodAll_cons rest0
  obtain ⟨v2, vs2, d2, ds2, p2, q2, rfl, rfl, rfl, h2, rest2⟩ := trodAll_cons rest1
  obtain ⟨rfl, rfl, rfl⟩ := trodAll_nil rest2
  obtain rfl : args = #[v0, v1, v2] := by cases args; simp_all
  obtain ⟨rfl, rfl⟩ := trodVars_none hV
  have lt0 : ∀ x ∈ p0, x.block < W.heap.size := by obtain ⟨m, hm⟩ := h0; exact DataW.trod_lt m _ _ _ hm
  have k0 := h0
  obtain ⟨va0, vl0, vc0, rfl⟩ := okWide_slice Tryd.underlying22 (hval 0 22 v0 rfl rfl)
  obtain ⟨m0, hf0⟩ := h0
  have hf0 : DataW.trod enc Tryd.prog W 0 (fun _ => true) true m0 22 [.slice va0 vl0 vc0] = some (d0, p0) := hf0
  obtain ⟨i0, x0, q0, s0⟩ := sl_in (d := 20) (τ := (.pair (.pair (.pair (.int .i64) (.int .i64)) (.pair (.pair (.int .i64) (.int .i64)) (.pair (.pair (.int .i64) (.int .i64)) (.pair (.pair (.int .i64) (.int .i64)) (.pair (.pair (.int .i64) (.int .i64)) (.pair (.int .i64) (.int .i64))))))) (.int .u8))) Tryd.underlying22 (by kernel_rfl) (by kernel_rfl) (by kernel_rfl) (by decide) (TC.dflt (.pair (.pair (.pair (.int .i64) (.int .i64)) (.pair (.pair (.int .i64) (.int .i64)) (.pair (.pair (.int .i64) (.int .i64)) (.pair (.pair (.int .i64) (.int .i64)) (.pair (.pair (.int .i64) (.int .i64)) (.pair (.int .i64) (.int .i64))))))) (.int .u8))) hf0
  simp only [List.cons.injEq, Value.slice.injEq, and_true] at q0
  obtain ⟨u0, w0, z0⟩ := q0
  subst va0 vl0 vc0
  have lt1 : ∀ x ∈ p1, x.block < W.heap.size := by obtain ⟨m, hm⟩ := h1; exact DataW.trod_lt m _ _ _ hm
  have k1 := h1
  obtain ⟨va1, vl1, vc1, rfl⟩ := okWide_slice Tryd.underlying98 (hval 1 98 v1 rfl rfl)
  obtain ⟨m1, hf1⟩ := h1
  have hf1 : DataW.trod enc Tryd.prog W 0 (fun _ => true) true m1 98 [.slice va1 vl1 vc1] = some (d1, p1) := hf1
  obtain ⟨i1, x1, q1, s1⟩ := sl_in (d := 20) (τ := (.pair (.int .u8) (.pair (.pair (.int .i64) (.pair (.int .i64) (.pair (.int .i64) (.int .i64)))) (.pair (.pair (.pair (.pair (.int .i64) (.int .i64)) (.pair (.pair (.int .i64) (.int .i64)) (.pair (.pair (.int .i64) (.int .i64)) (.pair (.pair (.int .i64) (.int .i64)) (.pair (.pair (.int .i64) (.int .i64)) (.pair (.int .i64) (.int .i64))))))) (.pair (.int .u8) (.pair .str (.pair .str (.pair .str (.pair .str (.pair .str .str))))))) (.pair (.int .i64) (.int .i64)))))) Tryd.underlying98 (by kernel_rfl) (by kernel_rfl) (by kernel_rfl) (by decide) (TC.dflt (.pair (.int .u8) (.pair (.pair (.int .i64) (.pair (.int .i64) (.pair (.int .i64) (.int .i64)))) (.pair (.pair (.pair (.pair (.int .i64) (.int .i64)) (.pair (.pair (.int .i64) (.int .i64)) (.pair (.pair (.int .i64) (.int .i64)) (.pair (.pair (.int .i64) (.int .i64)) (.pair (.pair (.int .i64) (.int .i64)) (.pair (.int .i64) (.int .i64))))))) (.pair (.int .u8) (.pair .str (.pair .str (.pair .str (.pair .str (.pair .str .str))))))) (.pair (.int .i64) (.int .i64)))))) hf1
  simp only [List.cons.injEq, Value.slice.injEq, and_true] at q1
  obtain ⟨u1, w1, z1⟩ := q1
  subst va1 vl1 vc1
  have lt2 : ∀ x ∈ p2, x.block < W.heap.size := by obtain ⟨m, hm⟩ := h2; exact DataW.trod_lt m _ _ _ hm
  have k2 := h2
  obtain ⟨y2, e2, f2⟩ := flat_value (d := 20) (τ := (.int .i64)) (by kernel_rfl) (by kernel_rfl) (hval 2 3 v2 rfl rfl) h2 Tryd.underlying3
  rw [Tryd.params12] at hwt
  have hz0 : x0.length * Tryd.prog.bytesOf 53 ≤ reachBytes := trod_wt Tryd.underlying22 hf0 (weights_head hwt)
  rw [show Tryd.prog.bytesOf 53 = 104 by kernel_rfl] at hz0
  clear hA0 hval0
  have hC : Calls Tryd.prog 12 (List.toArray [.slice i0.a x0.length i0.cap, .slice i1.a x1.length i1.cap, v2]) W (fun e W' => e = .returned (.bool true) ∧ Ex [] W W') := by
    cases hsp : spsB x0 with
    | true =>
      obtain ⟨B, C, D, E, hlaw⟩ := oKeeps_good 5000 (by decide) hsp (fun s h => (s0.fit s h).2.1) x1 (fun d h => (s1.fit d h).2.2.1.2.1) y2
      exact law_callsA (oKeeps_ok 5000) (y2, (x0, x1, [], [], [], [])) (true, B, C, D, E) hlaw rfl [.slice i0.a x0.length i0.cap, .slice i1.a x1.length i1.cap, v2] rfl W (by kernel_rfl) [i0, i1, nilI, nilI, nilI, nilI] (⟨⟨.slice i0.a x0.length i0.cap, (show Den [i0, i1, nilI, nilI, nilI, nilI] (.sl 0 (TC.w (.pair (.pair (.pair (.int .i64) (.int .i64)) (.pair (.pair (.int .i64) (.int .i64)) (.pair (.pair (.int .i64) (.int .i64)) (.pair (.pair (.int .i64) (.int .i64)) (.pair (.pair (.int .i64) (.int .i64)) (.pair (.int .i64) (.int .i64))))))) (.int .u8))) 0 none none) _ from s0.den rfl), rfl⟩, ⟨.slice i1.a x1.length i1.cap, (show Den [i0, i1, nilI, nilI, nilI, nilI] (.sl 1 (TC.w (.pair (.int .u8) (.pair (.pair (.int .i64) (.pair (.int .i64) (.pair (.int .i64) (.int .i64)))) (.pair (.pair (.pair (.pair (.int .i64) (.int .i64)) (.pair (.pair (.int .i64) (.int .i64)) (.pair (.pair (.int .i64) (.int .i64)) (.pair (.pair (.int .i64) (.int .i64)) (.pair (.pair (.int .i64) (.int .i64)) (.pair (.int .i64) (.int .i64))))))) (.pair (.int .u8) (.pair .str (.pair .str (.pair .str (.pair .str (.pair .str .str))))))) (.pair (.int .i64) (.int .i64)))))) 0 none none) _ from s1.den rfl), rfl⟩, ⟨v2, (show Den [i0, i1, nilI, nilI, nilI, nilI] _ v2 from (den_sc e2).mono (pre_nil [i0, i1, nilI, nilI, nilI, nilI])), rfl⟩, trivial⟩) (⟨_, _, rfl, .inl ⟨_, _, rfl⟩, s0.root, s0.objs, ⟨_, _, rfl, .inl ⟨_, _, rfl⟩, s1.root, s1.objs, rosA_empty (h := [.ars 0 4 .bool [], .ars 1 3 (.int .i64) [], .aro 2 135 (.pair (.pair (.int .i64) (.pair (.int .i64) (.pair (.int .i64) (.int .i64)))) (.pair (.rf 2 3) .bool)) [], .arm 3 .i64 false .bool []]) (by simp [Root.tag, Root.obs])⟩⟩) ⟨trivial, fun b h => by simp [gBlk] at h⟩
    | false =>
      obtain ⟨B, C, D, E, hlaw⟩ := oKeeps_bad 5000 (by decide) hsp (Nat.le_trans hz0 (by decide)) x1 y2
      exact law_callsA (oKeeps2_ok 5000) (y2, (x0, x1, [], [], [], [])) (true, B, C, D, E) hlaw rfl [.slice i0.a x0.length i0.cap, .slice i1.a x1.length i1.cap, v2] rfl W (by kernel_rfl) [i0, i1, nilI, nilI, nilI, nilI] (⟨⟨.slice i0.a x0.length i0.cap, (show Den [i0, i1, nilI, nilI, nilI, nilI] (.sl 0 (TC.w (.pair (.pair (.pair (.int .i64) (.int .i64)) (.pair (.pair (.int .i64) (.int .i64)) (.pair (.pair (.int .i64) (.int .i64)) (.pair (.pair (.int .i64) (.int .i64)) (.pair (.pair (.int .i64) (.int .i64)) (.pair (.int .i64) (.int .i64))))))) (.int .u8))) 0 none none) _ from s0.den rfl), rfl⟩, ⟨.slice i1.a x1.length i1.cap, (show Den [i0, i1, nilI, nilI, nilI, nilI] (.sl 1 (TC.w (.pair (.int .u8) (.pair (.pair (.int .i64) (.pair (.int .i64) (.pair (.int .i64) (.int .i64)))) (.pair (.pair (.pair (.pair (.int .i64) (.int .i64)) (.pair (.pair (.int .i64) (.int .i64)) (.pair (.pair (.int .i64) (.int .i64)) (.pair (.pair (.int .i64) (.int .i64)) (.pair (.pair (.int .i64) (.int .i64)) (.pair (.int .i64) (.int .i64))))))) (.pair (.int .u8) (.pair .str (.pair .str (.pair .str (.pair .str (.pair .str .str))))))) (.pair (.int .i64) (.int .i64)))))) 0 none none) _ from s1.den rfl), rfl⟩, ⟨v2, (show Den [i0, i1, nilI, nilI, nilI, nilI] _ v2 from (den_sc e2).mono (pre_nil [i0, i1, nilI, nilI, nilI, nilI])), rfl⟩, trivial⟩) (⟨_, _, rfl, .inl ⟨_, _, rfl⟩, s0.root, s0.objs, ⟨_, _, rfl, .inl ⟨_, _, rfl⟩, s1.root, s1.objs, rosA_empty (h := [.ars 0 4 .bool [], .ars 1 3 (.int .i64) [], .aro 2 135 (.pair (.pair (.int .i64) (.pair (.int .i64) (.pair (.int .i64) (.int .i64)))) (.pair (.rf 2 3) .bool)) [], .arm 3 .i64 false .bool []]) (by simp [Root.tag, Root.obs])⟩⟩) ⟨trivial, fun b h => by simp [gBlk] at h⟩
  refine hC.mono fun e W' ⟨he, hE⟩ => ?_
  have bel : Below W.heap.size W W' := Ex.below hE
  subst he
  exact ⟨_, rfl, _, _, _, [], _, [], hW', trodAll_mk1 (shut_bool Tryd.underlying4 _), (trodAll_cons_mk (Below.trod laid_out (by kernel_rfl) (of_decide_eq_true (by kernel_rfl)) k0 bel lt0) (trodAll_cons_mk (Below.trod laid_out (by kernel_rfl) (of_decide_eq_true (by kernel_rfl)) k1 bel lt1) (trodAll_cons_mk (Below.trod laid_out (by kernel_rfl) (of_decide_eq_true (by kernel_rfl)) k2 bel lt2) trodAll_mk0))), rfl, bel.frame _, fun h => by cases h⟩
theorem oKeeps_over : Rows.OrderKeepsSaid :=
  OpenClaim.holds_of_wide 12 Tryd.f12 rfl rfl rfl rfl rfl rfl rfl ⟨rfl, rfl, rfl, rfl, rfl⟩ rfl rfl rfl rfl rfl (by kernel_rfl) Tryd.func12 (by kernel_rfl)
    (of_decide_eq_true (by kernel_rfl)) (by unfold Func.isWrapper; first | (rw [if_pos (by decide +kernel)]; kernel_rfl) | (rw [if_neg (by decide +kernel)]; exact ⟨rfl, rfl⟩))
    (fun os started H enc _ => oKeeps_lifted os started H enc)
/-- The statement. -/
theorem oKeeps_proved : Rows.OrderKeepsCardSaid :=
  Claim7.holds_tied_plain_at .later [] [.data, .pinned] true (true, "f8ef24b362c8d09f225da00826547b8f132183328fc7b5640d8093846d71b29e") false
    oKeeps_over (fun _ h => by cases h) (by kernel_rfl) (fun _ h => by cases h) orderKeeps_row_tie rfl ⟨rfl, rfl⟩ (by kernel_rfl) rfl
    (fun f fn hf hfn => by
      obtain rfl : f = 12 := Option.some.inj ((show Tryd.prog.funcNamed "boule/boulelaw10.OrderKeeps" = some 12 by kernel_rfl).symm.trans hf) |>.symm
      obtain rfl : fn = Tryd.f12 := (Option.some.inj (Tryd.func12.symm.trans hfn)).symm
      exact ⟨by kernel_rfl, fun j t ht => by
        rw [Tryd.params12] at ht
        have hm : t ∈ [22, 98, 3] := by simpa using Array.mem_of_getElem? ht
        have hall : ([22, 98, 3].all fun u => !Tryd.prog.wantsStandIn u) = true := by kernel_rfl
        exact (show Tryd.prog.wantsStandIn t = false by simpa using List.all_eq_true.1 hall t hm)⟩)
    (by kernel_rfl)
end Go.Proofs.YtbnapejkjaddoaaDoor
