/- By an AI agent. No person has read it. -/
import Derived.Test.YtdfgmfddkcmalaaDoorWLD9b
import Derived.Test.YtdfgmfddkcmalaaDoorWYR
import Derived.Test.YtdfgmfddkcmalaaDoorWYF
import Derived.Test.YtdfgmfddkcmalaaDoorTie
import Derived.Test.YtdfgmfddkcmalaaDoorCards
import Derived.ProofKit
import Derived.LaidMore
import Derived.LaidHandle
import Derived.OpenShut
import Derived.Lay
import Derived.Stop.Joined
namespace Go.Proofs.YtdfgmfddkcmalaaDoor
open Go.RowKit Go.Proofs Go.Proofs.YtdfgmfddkcmalaaDoor
open Go.ChangeShapes Go.WideShapes Go.ChangeAt Go.WideMaps Go.WideElems Go.Deep
theorem den_sc {ρ : List Info} {l : List CV} {v : Value} (h : DenB ρ false l v) : Den ρ (headC l) v := by
  obtain ⟨x, rfl, h⟩ := h
  exact h
set_option maxRecDepth 100000
theorem own_knob : ownKnob Tryd.prog.godebug = none := by kernel_rfl
theorem laid_out : laidOutB Tryd.prog = true := by kernel_rfl
abbrev laidL : List (String × DataW Unit) := [("math/bits.deBruijn32tab", Rows.laid_math_bits_deBruijn32tab), ("math/bits.deBruijn64tab", Rows.laid_math_bits_deBruijn64tab), ("internal/strconv.uint64pow10", Rows.laid_internal_strconv_uint64pow10), ("unicode/utf8.acceptRanges", Rows.laid_unicode_utf8_acceptRanges), ("unicode/utf8.first", Rows.laid_unicode_utf8_first)]
theorem fcR_3 : Tryd.prog.cellsOf 3 = 1 := by kernel_rfl
theorem fcR_32 : Tryd.prog.cellsOf 32 = 1 := by kernel_rfl
theorem fcR_65 : Tryd.prog.cellsOf 65 = 4 := by kernel_rfl
set_option maxHeartbeats 1000000 in
theorem sDivides_lifted (os : Os) (started : os.Started) (H : Type) (enc : TypeId × Value → H) :
    ReturnsInHanded {} Tryd.checked os 9 .any (fun w args => (Rows.sliceDividesSpec.pre enc Tryd.prog Tryd.f9 [] false w args ∧ laidMetH Tryd.prog laidL w) ∧ sizedMet enc Tryd.prog Tryd.f9 (OpenSpec.ofChange Rows.sliceDividesSpec) false w args) (Rows.sliceDividesSpec.post enc Tryd.prog Tryd.f9 false true false false) := by
  refine returnsInHanded_of_change_and (C := Tryd.checked) (X := fun w _ => laidMetH Tryd.prog laidL w) (fun _ _ _ hh h => h.of_heap hh) own_knob started (by kernel_rfl) Tryd.func9
    (ChangeSpec.witness_shaped (enc := enc) (C := Tryd.checked) (os := os) (X := fun w _ => laidMetH Tryd.prog laidL w) false (World.laidAll Tryd.prog os laidL) #[.int .i64 0, .agg #[.slice none 0 0, .slice none 0 0, .int .i64 0, .int .i64 0]] 64 (World.laidAll_os _ _ _) (World.shaped_of_ZipB (by kernel_rfl) (by kernel_rfl)) (by kernel_rfl) (by kernel_rfl) (by kernel_rfl) (by rw [MakeChecks.laidMetH_plain _ _ _ (by kernel_rfl)]; exact laidMet_laidAll _ (by kernel_rfl) (by kernel_rfl))) ?_
  intro W base args ds gs before hval0 hW _ _ _ _
  have hval : ∀ (j : Nat) t v, Tryd.f9.params[j]? = some t → args[j]? = some v → Value.okWide Tryd.prog W .any base t v := hval0
  have hW' := hW
  obtain ⟨p, q, hA0, hV, rfl, hfz, hnd⟩ := hW
  have hA : DataW.TrodAll enc Tryd.prog W 0 (fun _ => true) true Tryd.f9.params.toList args.toList ds p := hA0
  rw [Tryd.params9] at hA hval
  obtain ⟨v0, vs0, d0, ds0, p0, q0, hargs, rfl, rfl, h0, rest0⟩ := trodAll_cons hA
  obtain ⟨v1, vs1, d1, ds1, p1, q1, rfl, rfl, rfl, h1, rest1⟩ := trodAll_cons rest0
  obtain ⟨rfl, rfl, rfl⟩ := trodAll_nil rest1
  obtain rfl : args = #[v0, v1] := by cases args; simp_all
  obtain ⟨rfl, rfl⟩ := trodVars_none hV
  have lt0 : ∀ x ∈ p0, x.block < W.heap.size := by obtain ⟨m, hm⟩ := h0; exact DataW.trod_lt m _ _ _ hm
  have k0 := h0
  obtain ⟨y0, e0, f0⟩ := flat_value (d := 20) (τ := (.int .i64)) (by kernel_rfl) (by kernel_rfl) (hval 0 3 v0 rfl rfl) h0 Tryd.underlying3
  have lt1 : ∀ x ∈ p1, x.block < W.heap.size := by obtain ⟨m, hm⟩ := h1; exact DataW.trod_lt m _ _ _ hm
  have k1 := h1
  obtain ⟨⟨cs1⟩, rfl, hsz1⟩ := okWide_struct Tryd.underlying65 (hval 1 65 v1 rfl rfl)
  obtain ⟨m1, hf1⟩ := h1
  have hf1 : DataW.trod enc Tryd.prog W 0 (fun _ => true) true m1 65 cs1 = some (d1, p1) := hf1
  obtain ⟨xs1, n1, _, _, hlen1, hx1, hg1⟩ := DataW.trod_struct Tryd.underlying65 hf1
  rw [fcR_65] at hlen1
  obtain ⟨z1_0, e1_0⟩ := someOf (i := 0) hx1 (by decide)
  have g1_0 := (hg1 0 _ rfl).trans e1_0
  have g1_0 : DataW.trod enc Tryd.prog W 0 (fun _ => true) true n1 32 ((cs1.drop 0).take 1) = some z1_0 := by rw [← fcR_32]; exact g1_0
  obtain ⟨i1_0, x1_0, q1_0, s1_0⟩ := sl_in (d := 20) (τ := (.int .i64)) Tryd.underlying32 (by kernel_rfl) (by kernel_rfl) (by kernel_rfl) (by decide) (TC.dflt (.int .i64)) g1_0
  obtain ⟨z1_1, e1_1⟩ := someOf (i := 1) hx1 (by decide)
  have g1_1 := (hg1 1 _ rfl).trans e1_1
  have g1_1 : DataW.trod enc Tryd.prog W 0 (fun _ => true) true n1 32 ((cs1.drop 1).take 1) = some z1_1 := by rw [← fcR_32]; exact g1_1
  obtain ⟨i1_1, x1_1, q1_1, s1_1⟩ := sl_in (d := 20) (τ := (.int .i64)) Tryd.underlying32 (by kernel_rfl) (by kernel_rfl) (by kernel_rfl) (by decide) (TC.dflt (.int .i64)) g1_1
  obtain ⟨z1_2, e1_2⟩ := someOf (i := 2) hx1 (by decide)
  have g1_2 := (hg1 2 _ rfl).trans e1_2
  have g1_2 : DataW.trod enc Tryd.prog W 0 (fun _ => true) true n1 3 ((cs1.drop 2).take 1) = some z1_2 := by rw [← fcR_3]; exact g1_2
  obtain ⟨y1_2, r1_2, f1_2⟩ := flat_part (d := 20) (τ := (.int .i64)) (by kernel_rfl) (by kernel_rfl) g1_2
  obtain ⟨z1_3, e1_3⟩ := someOf (i := 3) hx1 (by decide)
  have g1_3 := (hg1 3 _ rfl).trans e1_3
  have g1_3 : DataW.trod enc Tryd.prog W 0 (fun _ => true) true n1 3 ((cs1.drop 3).take 1) = some z1_3 := by rw [← fcR_3]; exact g1_3
  obtain ⟨y1_3, r1_3, f1_3⟩ := flat_part (d := 20) (τ := (.int .i64)) (by kernel_rfl) (by kernel_rfl) g1_3
  have q1 := parts [(0, 1), (1, 1), (2, 1), (3, 1)] (by decide) hlen1
  simp only [List.map_cons, List.map_nil, List.flatten_cons, List.flatten_nil] at q1
  rw [q1_0, q1_1] at q1
  clear hA0 hval0
  have E1 := (DenL.app (show DenL [i1_0, i1_1] [.sl 0 (TC.w (.int .i64)) 0 none none] _ from ⟨_, [], rfl, s1_0.den rfl, rfl⟩) (DenL.app (show DenL [i1_0, i1_1] [.sl 1 (TC.w (.int .i64)) 0 none none] _ from ⟨_, [], rfl, s1_1.den rfl, rfl⟩) (DenL.app (r1_2.mono (pre_nil _)) (DenL.app (r1_3.mono (pre_nil _)) (show DenL [i1_0, i1_1] [] [] from rfl)))))
  rw [← q1] at E1
  refine (law_callsR (sDivides_ok 3000) ((y0, (y1_2, y1_3)), (x1_0, x1_1)) (true) (sDivides_law0 y0 (y1_2, y1_3) x1_0 x1_1) rfl [v0, .agg ⟨cs1⟩] rfl W (by kernel_rfl) [i1_0, i1_1] (⟨⟨v0, (show Den [i1_0, i1_1] _ v0 from (den_sc e0).mono (pre_nil [i1_0, i1_1])), rfl⟩, ⟨.agg ⟨cs1⟩, ⟨cs1, E1, rfl⟩, rfl⟩, trivial⟩) (⟨_, _, _, rfl, s1_0.root, ⟨_, _, _, rfl, s1_1.root, rfl⟩⟩)).mono fun e W' ⟨he, hE⟩ => ?_
  have bel : Below W.heap.size W W' := Ex.below hE
  subst he
  exact ⟨_, rfl, _, _, _, [], _, [], hW', trodAll_mk1 (shut_bool Tryd.underlying4 _), (trodAll_cons_mk (Below.trod laid_out (by kernel_rfl) (of_decide_eq_true (by kernel_rfl)) k0 bel lt0) (trodAll_cons_mk (Below.trod laid_out (by kernel_rfl) (of_decide_eq_true (by kernel_rfl)) k1 bel lt1) trodAll_mk0)), rfl, bel.frame _, fun h => by cases h⟩
theorem sDivides_over : Rows.SliceDividesSaid :=
  OpenClaim.holds_of_wide 9 Tryd.f9 rfl rfl rfl rfl rfl rfl rfl ⟨rfl, rfl, rfl, rfl, rfl⟩ rfl rfl rfl rfl rfl (by kernel_rfl) Tryd.func9 (by kernel_rfl)
    (of_decide_eq_true (by kernel_rfl)) (by unfold Func.isWrapper; first | (rw [if_pos (by decide +kernel)]; kernel_rfl) | (rw [if_neg (by decide +kernel)]; exact ⟨rfl, rfl⟩))
    (fun os started H enc _ => sDivides_lifted os started H enc)
/-- The statement. -/
theorem sDivides_proved : Rows.SliceDividesCardSaid :=
  Claim7.holds_tied_plain_at .later [] [.data, .data, .data, .data, .pinned] true (true, "949445da207ca9c69b0b73318c5d49bb8c837739b16b25a8508fc074439eeb8d") false
    sDivides_over (fun _ h => by cases h) (by kernel_rfl) (fun _ h => by cases h) sliceDivides_row_tie rfl ⟨rfl, rfl⟩ (by kernel_rfl) rfl
    (fun f fn hf hfn => by
      obtain rfl : f = 9 := Option.some.inj ((show Tryd.prog.funcNamed "boule/boulelaw08.SliceDivides" = some 9 by kernel_rfl).symm.trans hf) |>.symm
      obtain rfl : fn = Tryd.f9 := (Option.some.inj (Tryd.func9.symm.trans hfn)).symm
      exact ⟨by kernel_rfl, fun j t ht => by
        rw [Tryd.params9] at ht
        have hm : t ∈ [3, 65] := by simpa using Array.mem_of_getElem? ht
        have hall : ([3, 65].all fun u => !Tryd.prog.wantsStandIn u) = true := by kernel_rfl
        exact (show Tryd.prog.wantsStandIn t = false by simpa using List.all_eq_true.1 hall t hm)⟩)
    (by kernel_rfl)


end Go.Proofs.YtdfgmfddkcmalaaDoor
