/- By an AI agent. No person has read it. -/
import Derived.Test.YtdcekiigkplmgaaWLK6
import Derived.Test.YtdcekiigkplmgaaWYR
import Derived.Test.YtdcekiigkplmgaaWYF
import Derived.Test.YtdcekiigkplmgaaRows
import Derived.ProofKit
import Derived.WalkKit
import Derived.ShutString
import Derived.ChangeOld
import Derived.Below
import Derived.LaidHandle
import Derived.OpenShut
import Derived.Lay
import Derived.Stop.Joined
namespace Go.Proofs.Ytdcekiigkplmgaa
open Go.RowKit Go.Proofs Go.Proofs.Ytdcekiigkplmgaa
open Go.ChangeShapes Go.WideShapes Go.ChangeAt Go.WideMaps Go.WideElems Go.Deep
theorem den_sc {ρ : List Info} {l : List CV} {v : Value} (h : DenB ρ false l v) : Den ρ (headC l) v := by
  obtain ⟨x, rfl, h⟩ := h
  exact h
set_option maxRecDepth 100000
theorem own_knob : ownKnob Try.prog.godebug = none := by kernel_rfl
theorem laid_out : laidOutB Try.prog = true := by kernel_rfl
theorem fcR_42 : Try.prog.cellsOf 42 = 5 := by kernel_rfl
theorem fcR_44 : Try.prog.cellsOf 44 = 5 := by kernel_rfl
theorem fcR_46 : Try.prog.cellsOf 46 = 1 := by kernel_rfl
theorem fcR_48 : Try.prog.cellsOf 48 = 11 := by kernel_rfl
set_option maxRecDepth 100000 in
set_option maxHeartbeats 1000000 in
theorem lengths_lifted (os : Os) (started : os.Started) (H : Type) (enc : TypeId × Value → H) :
    ReturnsInHanded {} Try.checked os 4 .any (Rows.topLengthsSpec.pre6 enc Try.prog Try.f4 Rows.topLengthsRow.domain false) (Rows.topLengthsSpec.post enc Try.prog Try.f4 false true false false) := by
  refine returnsInHanded_of_change (C := Try.checked) own_knob started (by kernel_rfl) Try.func4
    (ChangeSpec.witness6 (enc := enc) (C := Try.checked) false ⟨#[], #[.slice none 0 0, .agg #[.int .i64 0, .int .i64 0, .int .i64 0], .agg #[.int .i64 0, .int .i64 0, .int .i64 0, .int .i64 0, .int .i64 0, .int .i64 0, .int .i64 0, .int .i64 0, .int .i64 0, .int .i64 0, .slice none 0 0]], []⟩ 8 (by kernel_rfl) (by kernel_rfl) (by kernel_rfl) (by kernel_rfl)) ?_
  intro W base args ds gs before hval0 hW hcnd _
  have hval : ∀ (j : Nat) t v, Try.f4.params[j]? = some t → args[j]? = some v → Value.okWide Try.prog W .any base t v := hval0
  have hW' := hW
  obtain ⟨p, q, hA0, hV, rfl, hfz, hnd⟩ := hW
  have hA : DataW.TrodAll enc Try.prog W 0 (fun _ => true) true Try.f4.params.toList args.toList ds p := hA0
  rw [Try.params4] at hA hval
  obtain ⟨v0, vs0, d0, ds0, p0, q0, hargs, rfl, rfl, h0, rest0⟩ := trodAll_cons hA
  obtain ⟨v1, vs1, d1, ds1, p1, q1, rfl, rfl, rfl, h1, rest1⟩ := trodAll_cons rest0
  obtain ⟨v2, vs2, d2, ds2, p2, q2, rfl, rfl, rfl, h2, rest2⟩ := trodAll_cons rest1
  obtain ⟨rfl, rfl, rfl⟩ := trodAll_nil rest2
  obtain rfl : args = #[v0, v1, v2] := by cases args; simp_all
  obtain ⟨rfl, rfl⟩ := trodVars_none hV
  have lt0 : ∀ x ∈ p0, x.block < W.heap.size := by obtain ⟨m, hm⟩ := h0; exact DataW.trod_lt m _ _ _ hm
  have k0 := h0
  obtain ⟨va0, vl0, vc0, rfl⟩ := okWide_slice Try.underlying38 (hval 0 38 v0 rfl rfl)
  obtain ⟨m0, hf0⟩ := h0
  have hf0 : DataW.trod enc Try.prog W 0 (fun _ => true) true m0 38 [.slice va0 vl0 vc0] = some (d0, p0) := hf0
  obtain ⟨i0, x0, q0, s0⟩ := sl_in (d := 20) (τ := (.pair (.int .i64) (.int .i64))) Try.underlying38 (by kernel_rfl) (by kernel_rfl) (by kernel_rfl) (by decide) (TC.dflt (.pair (.int .i64) (.int .i64))) hf0
  simp only [List.cons.injEq, Value.slice.injEq, and_true] at q0
  obtain ⟨u0, w0, z0⟩ := q0
  subst va0 vl0 vc0
  have lt1 : ∀ x ∈ p1, x.block < W.heap.size := by obtain ⟨m, hm⟩ := h1; exact DataW.trod_lt m _ _ _ hm
  have k1 := h1
  obtain ⟨y1, e1, f1⟩ := flat_value (d := 20) (τ := (.pair (.int .i64) (.pair (.int .i64) (.int .i64)))) (by kernel_rfl) (by kernel_rfl) (hval 1 40 v1 rfl rfl) h1 Try.underlying40
  have lt2 : ∀ x ∈ p2, x.block < W.heap.size := by obtain ⟨m, hm⟩ := h2; exact DataW.trod_lt m _ _ _ hm
  have k2 := h2
  obtain ⟨⟨cs2⟩, rfl, hsz2⟩ := okWide_struct Try.underlying48 (hval 2 48 v2 rfl rfl)
  obtain ⟨m2, hf2⟩ := h2
  have hf2 : DataW.trod enc Try.prog W 0 (fun _ => true) true m2 48 cs2 = some (d2, p2) := hf2
  obtain ⟨xs2, n2, _, _, hlen2, hx2, hg2⟩ := DataW.trod_struct Try.underlying48 hf2
  rw [fcR_48] at hlen2
  obtain ⟨z2_0, e2_0⟩ := someOf (i := 0) hx2 (by decide)
  have g2_0 := (hg2 0 _ rfl).trans e2_0
  have g2_0 : DataW.trod enc Try.prog W 0 (fun _ => true) true n2 42 ((cs2.drop 0).take 5) = some z2_0 := by rw [← fcR_42]; exact g2_0
  obtain ⟨y2_0, r2_0, f2_0⟩ := flat_part (d := 20) (τ := (.pair (.pair (.int .i64) (.int .i64)) (.pair (.pair (.int .i64) (.int .i64)) (.int .i64)))) (by kernel_rfl) (by kernel_rfl) g2_0
  obtain ⟨z2_1, e2_1⟩ := someOf (i := 1) hx2 (by decide)
  have g2_1 := (hg2 1 _ rfl).trans e2_1
  have g2_1 : DataW.trod enc Try.prog W 0 (fun _ => true) true n2 44 ((cs2.drop 5).take 5) = some z2_1 := by rw [← fcR_44]; exact g2_1
  obtain ⟨y2_1, r2_1, f2_1⟩ := flat_part (d := 20) (τ := (.pair (.int .i64) (.pair (.int .i64) (.pair (.int .i64) (.pair (.int .i64) (.int .i64)))))) (by kernel_rfl) (by kernel_rfl) g2_1
  obtain ⟨z2_2, e2_2⟩ := someOf (i := 2) hx2 (by decide)
  have g2_2 := (hg2 2 _ rfl).trans e2_2
  have g2_2 : DataW.trod enc Try.prog W 0 (fun _ => true) true n2 46 ((cs2.drop 10).take 1) = some z2_2 := by rw [← fcR_46]; exact g2_2
  obtain ⟨i2_2, x2_2, q2_2, s2_2⟩ := sl_in (d := 20) (τ := (.int .u8)) Try.underlying46 (by kernel_rfl) (by kernel_rfl) (by kernel_rfl) (by decide) (TC.dflt (.int .u8)) g2_2
  have q2 := parts [(0, 5), (5, 5), (10, 1)] (by decide) hlen2
  simp only [List.map_cons, List.map_nil, List.flatten_cons, List.flatten_nil] at q2
  rw [q2_2] at q2
  clear hA0 hval0
  have E2 := (DenL.app (r2_0.mono (pre_nil _)) (DenL.app (r2_1.mono (pre_nil _)) (DenL.app (show DenL [i0, i2_2] [.sl 1 (TC.w (.int .u8)) 0 none none] _ from ⟨_, [], rfl, s2_2.den rfl, rfl⟩) (show DenL [i0, i2_2] [] [] from rfl))))
  rw [← q2] at E2
  refine (law_callsR (lengths_ok 3000) ((y1, (y2_0, y2_1)), (x0, x2_2)) (true) (lengths_law0 y1 y2_0 y2_1 x0 x2_2 (fun x hx => s2_2.fit x hx)) rfl [.slice i0.a x0.length i0.cap, v1, .agg ⟨cs2⟩] rfl W (by kernel_rfl) [i0, i2_2] (⟨⟨.slice i0.a x0.length i0.cap, (show Den [i0, i2_2] (.sl 0 (TC.w (.pair (.int .i64) (.int .i64))) 0 none none) _ from s0.den rfl), rfl⟩, ⟨v1, DenB.mono (pre_nil _) e1, rfl⟩, ⟨.agg ⟨cs2⟩, ⟨cs2, E2, rfl⟩, rfl⟩, trivial⟩) (⟨_, _, _, rfl, s0.root, ⟨_, _, _, rfl, s2_2.root, rfl⟩⟩)).mono fun e W' ⟨he, hE⟩ => ?_
  have bel : Below W.heap.size W W' := Ex.below hE
  subst he
  exact ⟨_, rfl, _, _, _, [], _, [], hW', trodAll_mk1 (shut_bool Try.underlying4 _), (trodAll_cons_mk (Below.trod laid_out (by kernel_rfl) (of_decide_eq_true (by kernel_rfl)) k0 bel lt0) (trodAll_cons_mk (Below.trod laid_out (by kernel_rfl) (of_decide_eq_true (by kernel_rfl)) k1 bel lt1) (trodAll_cons_mk (Below.trod laid_out (by kernel_rfl) (of_decide_eq_true (by kernel_rfl)) k2 bel lt2) trodAll_mk0))), rfl, bel.frame _, fun h => by cases h⟩
theorem lengths_over : Rows.topLengthsRow.holds Try.pinned (OpenSpec.ofChange Rows.topLengthsSpec) :=
  OpenClaim.holds_of_wide 4 Try.f4 rfl rfl rfl rfl rfl rfl rfl ⟨rfl, rfl, rfl, rfl, rfl⟩ rfl rfl rfl rfl rfl (by kernel_rfl) Try.func4 (by kernel_rfl)
    (of_decide_eq_true (by kernel_rfl)) (by unfold Func.isWrapper; first | (rw [if_pos (by decide +kernel)]; kernel_rfl) | (rw [if_neg (by decide +kernel)]; exact ⟨rfl, rfl⟩))
    (fun os started H enc _ => lengths_lifted os started H enc)
/-- The statement. -/
theorem lengths_proved : Rows.TopLengthsSaid := lengths_over


end Go.Proofs.Ytdcekiigkplmgaa
