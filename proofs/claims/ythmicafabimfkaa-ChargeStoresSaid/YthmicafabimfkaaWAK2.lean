/- The statement of ChargeStores: the law stands in the frame that is given. No condition. -/
import Derived.Test.YthmicafabimfkaaWMR7
import Derived.Test.YthmicafabimfkaaWAKD
import Derived.Test.YthmicafabimfkaaRows
import Derived.ProofKit
import Derived.WalkKit
import Derived.ShutString
import Derived.ChangeOld
import Derived.Below
import Derived.LaidHandle
import Derived.OpenShut
import Derived.Lay
import Derived.Stop.Joined
namespace Go.Proofs.Ythmicafabimfkaa
open Go.RowKit Go.Proofs Go.Proofs.Ythmicafabimfkaa
open Go.ChangeShapes Go.WideShapes Go.ChangeAt Go.WideMaps Go.WideElems Go.Deep
set_option maxRecDepth 100000
theorem own_knob : ownKnob Try.prog.godebug = none := by kernel_rfl
theorem laid_out : laidOutB Try.prog = true := by kernel_rfl
theorem emR {ρ0 : List Info} {W : World} {r : Root} (h1 : r.tag ≠ none) (h2 : r.obs = []) : RootOk ρ0 W nilI r := by
  obtain ⟨t, ht⟩ := Option.ne_none_iff_exists'.1 h1
  refine (tag_iff ht).1.2 ?_
  rw [h2, nilI_objs]
  exact ⟨rfl, fun m v o h => by simp at h, fun m m' v v' o o' b _ h => by simp at h⟩
set_option maxHeartbeats 1000000 in
theorem lStores_lifted (os : Os) (started : os.Started) (H : Type) (enc : TypeId × Value → H) :
    ReturnsInHanded {} Try.checked os 4 .any (Rows.chargeStoresSpec.pre6 enc Try.prog Try.f4 Rows.chargeStoresRow.domain false) (Rows.chargeStoresSpec.post enc Try.prog Try.f4 false true false false) := by
  refine returnsInHanded_of_change (C := Try.checked) own_knob started (by kernel_rfl) Try.func4
    (ChangeSpec.witness6 (enc := enc) (C := Try.checked) false ⟨#[], #[.slice none 0 0], []⟩ 8 (by kernel_rfl) (by kernel_rfl) (by kernel_rfl) (by kernel_rfl)) ?_
  intro W base args ds gs before hval0 hW hcnd _
  have hval : ∀ (j : Nat) t v, Try.f4.params[j]? = some t → args[j]? = some v → Value.okWide Try.prog W .any base t v := hval0
  have hW' := hW
  obtain ⟨p, q, hA0, hV, rfl, hfz, hnd⟩ := hW
  have hA : DataW.TrodAll enc Try.prog W 0 (fun _ => true) true Try.f4.params.toList args.toList ds p := hA0
  rw [Try.params4] at hA hval
  obtain ⟨v0, vs0, d0, ds0, p0, q0, hargs, rfl, rfl, h0, rest0⟩ := trodAll_cons hA
  obtain ⟨rfl, rfl, rfl⟩ := trodAll_nil rest0
  obtain rfl : args = #[v0] := by cases args; simp_all
  obtain ⟨rfl, rfl⟩ := trodVars_none hV
  have lt0 : ∀ x ∈ p0, x.block < W.heap.size := by obtain ⟨m, hm⟩ := h0; exact DataW.trod_lt m _ _ _ hm
  have k0 := h0
  obtain ⟨va0, vl0, vc0, rfl⟩ := okWide_slice Try.underlying22 (hval 0 22 v0 rfl rfl)
  obtain ⟨m0, hf0⟩ := h0
  have hf0 : DataW.trod enc Try.prog W 0 (fun _ => true) true m0 22 [.slice va0 vl0 vc0] = some (d0, p0) := hf0
  obtain ⟨a0, c0, y0, q0, s0⟩ := deeds_in hf0
  simp only [List.cons.injEq, Value.slice.injEq, and_true] at q0
  obtain ⟨u0, w0, z0⟩ := q0
  subst va0 vl0 vc0
  clear hA0 hval0
  obtain ⟨x, hx⟩ := stores_law 5000 (by decide) (dnum 0 y0) (y0.map DE.x1) (y0.map DE.x2) (dnum_k y0 0 s0.ok)
  have hu : ∀ (t : Nat) (j : Info), j ∈ ([iD a0 c0 y0, nilI, nilI, nilI, i7 y0, i8 y0] : List Info) → t ≠ 7 → t ≠ 8 → j.objs t = [] := by
    intro t j hj h7 h8
    simp only [List.mem_cons, List.not_mem_nil, or_false] at hj
    rcases hj with rfl | rfl | rfl | rfl | rfl | rfl
    · rfl
    · exact nilI_objs t
    · exact nilI_objs t
    · exact nilI_objs t
    · exact i7_other y0 h7
    · exact i8_other y0 h8
  have hu7 : ∀ (j : Info), j ∈ ([iD a0 c0 y0, nilI, nilI, nilI, i7 y0, i8 y0] : List Info) → j.objs 7 = [] ∨ j = i7 y0 := by
    intro j hj
    simp only [List.mem_cons, List.not_mem_nil, or_false] at hj
    rcases hj with rfl | rfl | rfl | rfl | rfl | rfl
    · exact .inl rfl
    · exact .inl (nilI_objs 7)
    · exact .inl (nilI_objs 7)
    · exact .inl (nilI_objs 7)
    · exact .inr rfl
    · exact .inl (i8_other y0 (by decide))
  have hu8 : ∀ (j : Info), j ∈ ([iD a0 c0 y0, nilI, nilI, nilI, i7 y0, i8 y0] : List Info) → j.objs 8 = [] ∨ j = i8 y0 := by
    intro j hj
    simp only [List.mem_cons, List.not_mem_nil, or_false] at hj
    rcases hj with rfl | rfl | rfl | rfl | rfl | rfl
    · exact .inl rfl
    · exact .inl (nilI_objs 8)
    · exact .inl (nilI_objs 8)
    · exact .inl (nilI_objs 8)
    · exact .inl (i7_other y0 (by decide))
    · exact .inr rfl
  refine (law_callsB (lStores_ok 5000) ((dnum 0 y0, ([], ([], ([], (y0.map DE.x1, y0.map DE.x2)))))) (true, x) hx rfl [.slice a0 y0.length c0] rfl W (by kernel_rfl) [iD a0 c0 y0, nilI, nilI, nilI, i7 y0, i8 y0] (⟨⟨_, (show Den [iD a0 c0 y0, nilI, nilI, nilI, i7 y0, i8 y0] (.sl 0 13 0 none none) _ from s0.den rfl), rfl⟩, trivial⟩) (⟨_, _, rfl, .inl ⟨_, _, rfl⟩, s0.root (p := 4) (q := 5) rfl rfl, .inr (fun _ _ => rfl), (fun t ht => by cases ht), ⟨_, _, rfl, .inr (.inl ⟨by simp [Root.tag, RK.enc], rfl⟩), emR (by simp [Root.tag, RK.enc]) rfl, .inr (fun _ _ => nilI_objs _), (fun t ht j hj => .inl (hu t j hj (by cases ht; decide) (by cases ht; decide))), ⟨_, _, rfl, .inr (.inl ⟨by simp [Root.tag, RK.enc], rfl⟩), emR (by simp [Root.tag, RK.enc]) rfl, .inr (fun _ _ => nilI_objs _), (fun t ht j hj => .inl (hu t j hj (by cases ht; decide) (by cases ht; decide))), ⟨_, _, rfl, .inr (.inl ⟨by simp [Root.tag, RK.enc], rfl⟩), emR (by simp [Root.tag, RK.enc]) rfl, .inr (fun _ _ => nilI_objs _), (fun t ht j hj => .inl (hu t j hj (by cases ht; decide) (by cases ht; decide))), ⟨_, _, rfl, .inr (.inr ⟨_, _, _, rfl⟩), s0.arr7, .inr (fun t ht => i7_other y0 (fun e => ht (by rw [e]; rfl))), (fun t ht j hj => by cases ht; exact hu7 j hj), ⟨_, _, rfl, .inr (.inr ⟨_, _, _, rfl⟩), s0.arr8, .inr (fun t ht => i8_other y0 (fun e => ht (by rw [e]; rfl))), (fun t ht j hj => by cases ht; exact hu8 j hj), rfl⟩⟩⟩⟩⟩⟩) ⟨trivial, fun b hb => by cases hb⟩).mono fun e W' ⟨he, hE⟩ => ?_
  have bel : Below W.heap.size W W' := Ex.below hE
  subst he
  exact ⟨_, rfl, _, _, _, [], _, [], hW', trodAll_mk1 (shut_bool Try.underlying4 _), (trodAll_cons_mk (Below.trod laid_out (by kernel_rfl) (of_decide_eq_true (by kernel_rfl)) k0 bel lt0) trodAll_mk0), rfl, bel.frame _, fun h => by cases h⟩
theorem lStores_over : Rows.chargeStoresRow.holds Try.pinned (OpenSpec.ofChange Rows.chargeStoresSpec) :=
  OpenClaim.holds_of_wide 4 Try.f4 rfl rfl rfl rfl rfl rfl rfl ⟨rfl, rfl, rfl, rfl, rfl⟩ rfl rfl rfl rfl rfl (by kernel_rfl) Try.func4 (by kernel_rfl)
    (of_decide_eq_true (by kernel_rfl)) (by unfold Func.isWrapper; first | (rw [if_pos (by decide +kernel)]; kernel_rfl) | (rw [if_neg (by decide +kernel)]; exact ⟨rfl, rfl⟩))
    (fun os started H enc _ => lStores_lifted os started H enc)
/-- The statement. -/
theorem lStores_proved : Rows.ChargeStoresSaid := lStores_over
end Go.Proofs.Ythmicafabimfkaa
