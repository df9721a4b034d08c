/- The statement of TopMixes: the law stands in the frame that is given. No condition. -/
import Derived.Test.YtcbbhiobibhdnaaDoorWTM4
import Derived.Test.YtcbbhiobibhdnaaDoorWGD2
import Derived.Test.YtcbbhiobibhdnaaDoorWYF
import Derived.Test.YtcbbhiobibhdnaaDoorWYR
import Derived.Test.YtcbbhiobibhdnaaDoorTie
import Derived.Test.YtcbbhiobibhdnaaDoorCards
import Derived.ProofKit
import Derived.LaidMore
import Derived.LaidHandle
import Derived.OpenShut
import Derived.Lay
import Derived.Stop.Joined
namespace Go.Proofs.YtcbbhiobibhdnaaDoor
open Go.RowKit Go.Proofs Go.Proofs.YtcbbhiobibhdnaaDoor
open Go.ChangeShapes Go.WideShapes Go.ChangeAt Go.WideMaps Go.WideElems Go.Deep
/-- The plain wrap, with what is laid and with the world's shape. -/
theorem xE3 {H : Type} {enc : TypeId × Value → H} {a : Assume} {C : Checked} {os : Os} {f : FuncId} {fn : Func} {s : ChangeSpec} {conds : List PathCond} {apart fresh handsOn again : Bool} {X : World → Array Value → Prop}
  (hX : ∀ (w w' : World) (args : Array Value), w.heap = w'.heap → X w args → X w' args)
  (own : ownKnob C.prog.godebug = none) (started : os.Started) (noInit : C.prog.inits.idxOf? f = none) (hfn : C.prog.funcs[f]? = some fn)
  (witness : ∃ (w : World) (tape : Tape) (i : Input), w.os = os ∧ (w.forCall tape i).Shaped C.prog ∧ i.vars = [] ∧ Input.okWide C.prog (w.forCall tape i) .any w.heap.size f i ∧
   ((s.pre enc C.prog fn conds apart (w.forCall tape i).memory i.args ∧ X (w.forCall tape i).memory i.args) ∧ sizedMet enc C.prog fn (OpenSpec.ofChange s) apart (w.forCall tape i).memory i.args) ∧ a.holds C.prog (lone (Frame.enter C.prog f i.args .normal) [] (w.forCall tape i)))
  (contract : ∀ (W : World) (base : Nat) (args : Array Value) (ds gs : List (DataW H)) (before : List MemPlace),
   (∀ (j : Nat) t v, fn.params[j]? = some t → args[j]? = some v → Value.okWide C.prog W .any base t v) →
   DataW.Whole enc C.prog fn.params.toList s.vars apart W args.toList ds gs before →
   conds.all (PathCond.test C.prog ⟨fn.params.toList, ds, s.plain.varTypes C.prog, gs⟩) = true →
   (DataW.weightsEach C.prog (fn.params.toList ++ s.plain.varTypes C.prog) (ds ++ gs)).all (· ≤ reachBytes) = true → W.ShapedOpen C.prog → X W args →
   a.holds C.prog (lone (Frame.enter C.prog f args .normal) [] W) →
   Calls C.prog f args W fun e W' => ∃ v, e = .returned v ∧ s.post enc C.prog fn apart fresh handsOn again W args v W') :
  ReturnsInHanded a C os f .any (fun w args => (s.pre enc C.prog fn conds apart w args ∧ X w args) ∧ sizedMet enc C.prog fn (OpenSpec.ofChange s) apart w args) (s.post enc C.prog fn apart fresh handsOn again) := by
 refine returnsInHanded_of_calls own started noInit witness ?_
 intro w tape i _ hsh _ hok hpre hholds
 obtain ⟨_, _, _, fn', hfn', _, _, _, _, hval⟩ := hok
 have e : fn' = fn := Option.some.inj (hfn'.symm.trans hfn)
 subst e
 obtain ⟨⟨⟨ds, gs, before, hw, hc⟩, hx⟩, hz⟩ := hpre
 have hw' := DataW.Whole.of_heap (w' := w.forCall tape i) (by rfl) hw
 refine (contract (w.forCall tape i) w.heap.size i.args ds gs before hval hw' hc (hz.weights hw) hsh (hX _ _ _ (by rfl) hx) hholds).mono fun e W' ⟨v, he, hp⟩ => ?_
 subst he
 exact ChangeSpec.post_blind hp
set_option maxRecDepth 100000
theorem xSp : ownKnob Tryd.prog.godebug = none := by kernel_rfl
theorem xSH : laidOutB Tryd.prog = true := by kernel_rfl
theorem fcR_23 : Tryd.prog.cellsOf 23 = 2 := by kernel_rfl
theorem fcR_25 : Tryd.prog.cellsOf 25 = 6 := by kernel_rfl
theorem fcR_60 : Tryd.prog.cellsOf 60 = 1 := by kernel_rfl
theorem fcR_62 : Tryd.prog.cellsOf 62 = 9 := by kernel_rfl
set_option maxHeartbeats 1000000 in
theorem xJv (os : Os) (started : os.Started) (H : Type) (enc : TypeId × Value → H) :
  ReturnsInHanded {} Tryd.checked os 4 .any (fun w args => (Rows.topMixesSpec.pre enc Tryd.prog Tryd.f4 [] false w args ∧ laidMetH Tryd.prog xP6 w) ∧ sizedMet enc Tryd.prog Tryd.f4 (OpenSpec.ofChange Rows.topMixesSpec) false w args) (Rows.topMixesSpec.post enc Tryd.prog Tryd.f4 false true false false) := by
 refine xE3 (C := Tryd.checked) (X := fun w _ => laidMetH Tryd.prog xP6 w) (fun _ _ _ hh h => h.of_heap hh) xSp started (by kernel_rfl) Tryd.func4
  (ChangeSpec.witness_shaped (enc := enc) (C := Tryd.checked) (os := os) (X := fun w _ => laidMetH Tryd.prog xP6 w) false (World.laidAll Tryd.prog os xP6) #[.agg #[.slice none 0 0, .int .i64 0, .int .i64 0, .int .i64 0, .int .i64 0, .int .i64 0, .int .i64 0, .int .i64 0, .int .i64 0]] 64 (World.laidAll_os _ _ _) (World.shaped_of_ZipB (by kernel_rfl) (by kernel_rfl)) (by kernel_rfl) (by kernel_rfl) (by kernel_rfl) (by rw [MakeChecks.laidMetH_plain _ _ _ (by kernel_rfl)]; exact laidMet_laidAll _ (by kernel_rfl) (by kernel_rfl))) ?_
 intro W base args ds gs before hval0 hW _ _ _ hlaid _
 have hval : ∀ (j : Nat) t v, Tryd.f4.params[j]? = some t → args[j]? = some v → Value.okWide Tryd.prog W .any base t v := hval0
 have hW' := hW
 obtain ⟨p, q, hA0, hV, rfl, hfz, hnd⟩ := hW
 have hA : DataW.TrodAll enc Tryd.prog W 0 (fun _ => true) true Tryd.f4.params.toList args.toList ds p := hA0
 rw [Tryd.params4] at hA hval
 obtain ⟨v0, vs0, d0, ds0, p0, q0, hargs, rfl, rfl, h0, rest0⟩ := trodAll_cons hA
 obtain ⟨rfl, rfl, rfl⟩ := trodAll_nil rest0
 obtain rfl : args = #[v0] := by cases args; simp_all
 obtain ⟨rfl, rfl⟩ := trodVars_none hV
 have lt0 : ∀ x ∈ p0, x.block < W.heap.size := by obtain ⟨m, hm⟩ := h0; exact DataW.trod_lt m _ _ _ hm
 have k0 := h0
 obtain ⟨⟨cs0⟩, rfl, hsz0⟩ := okWide_struct Tryd.underlying62 (hval 0 62 v0 rfl rfl)
 obtain ⟨m0, hf0⟩ := h0
 have hf0 : DataW.trod enc Tryd.prog W 0 (fun _ => true) true m0 62 cs0 = some (d0, p0) := hf0
 obtain ⟨xs0, n0, _, _, hlen0, hx0, hg0⟩ := DataW.trod_struct Tryd.underlying62 hf0
 rw [fcR_62] at hlen0
 obtain ⟨z0_0, e0_0⟩ := xKH (i := 0) hx0 (by decide)
 have g0_0 := (hg0 0 _ rfl).trans e0_0
 have g0_0 : DataW.trod enc Tryd.prog W 0 (fun _ => true) true n0 60 ((cs0.drop 0).take 1) = some z0_0 := by rw [← fcR_60]; exact g0_0
 obtain ⟨i0_0, x0_0, q0_0, s0_0⟩ := sl_in (d := 20) (τ := (.pair (.int .i64) (.pair (.int .i64) (.pair (.pair (.pair (.int .i64) (.int .i64)) (.pair (.pair (.int .i64) (.int .i64)) (.pair (.int .i64) (.int .i64)))) (.int .i64))))) Tryd.underlying60 (by kernel_rfl) (by kernel_rfl) (by kernel_rfl) (by decide) (TC.dflt (.pair (.int .i64) (.pair (.int .i64) (.pair (.pair (.pair (.int .i64) (.int .i64)) (.pair (.pair (.int .i64) (.int .i64)) (.pair (.int .i64) (.int .i64)))) (.int .i64))))) g0_0
 obtain ⟨z0_1, e0_1⟩ := xKH (i := 1) hx0 (by decide)
 have g0_1 := (hg0 1 _ rfl).trans e0_1
 have g0_1 : DataW.trod enc Tryd.prog W 0 (fun _ => true) true n0 23 ((cs0.drop 1).take 2) = some z0_1 := by rw [← fcR_23]; exact g0_1
 obtain ⟨y0_1, r0_1, f0_1⟩ := xLj (d := 20) (τ := (.pair (.int .i64) (.int .i64))) (by kernel_rfl) (by kernel_rfl) g0_1
 obtain ⟨z0_2, e0_2⟩ := xKH (i := 2) hx0 (by decide)
 have g0_2 := (hg0 2 _ rfl).trans e0_2
 have g0_2 : DataW.trod enc Tryd.prog W 0 (fun _ => true) true n0 25 ((cs0.drop 3).take 6) = some z0_2 := by rw [← fcR_25]; exact g0_2
 obtain ⟨y0_2, r0_2, f0_2⟩ := xLj (d := 20) (τ := (.pair (.pair (.int .i64) (.int .i64)) (.pair (.pair (.int .i64) (.int .i64)) (.pair (.int .i64) (.int .i64))))) (by kernel_rfl) (by kernel_rfl) g0_2
 have q0 := parts [(0, 1), (1, 2), (3, 6)] (by decide) hlen0
 simp only [List.map_cons, List.map_nil, List.flatten_cons, List.flatten_nil] at q0
 rw [q0_0] at q0
 clear hA0 hval0
 have E0 := (DenL.app (show DenL [i0_0] [.sl 0 (TC.w (.pair (.int .i64) (.pair (.int .i64) (.pair (.pair (.pair (.int .i64) (.int .i64)) (.pair (.pair (.int .i64) (.int .i64)) (.pair (.int .i64) (.int .i64)))) (.int .i64))))) 0 none none] _ from ⟨_, [], rfl, s0_0.den rfl, rfl⟩) (DenL.app (r0_1.mono (pre_nil _)) (DenL.app (r0_2.mono (pre_nil _)) (show DenL [i0_0] [] [] from rfl))))
 rw [← q0] at E0
 have hlaw := M3.mixes_law 5000 (by decide) M3.poured_eq (y0_1, y0_2) x0_0
 refine (xOx (xKC 5000) ((y0_1, y0_2), x0_0) true hlaw rfl [.agg ⟨cs0⟩] rfl W (by kernel_rfl) [i0_0] (⟨⟨.agg ⟨cs0⟩, ⟨cs0, E0, rfl⟩, rfl⟩, trivial⟩) (⟨_, _, rfl, .inl ⟨_, _, rfl⟩, s0_0.root, s0_0.objs, rfl⟩) ⟨xNU hlaid, gBlk_lt (xNU hlaid)⟩).mono fun e W' ⟨he, hE⟩ => ?_
 have bel : Below W.heap.size W W' := Ex.below hE
 subst he
 exact ⟨_, rfl, _, _, _, [], _, [], hW', trodAll_mk1 (shut_bool Tryd.underlying4 _), (trodAll_cons_mk (Below.trod xSH (by kernel_rfl) (of_decide_eq_true (by kernel_rfl)) k0 bel lt0) trodAll_mk0), rfl, bel.frame _, fun h => by cases h⟩
theorem xLR : Rows.TopMixesSaid :=
 OpenClaim.holds_of_wide 4 Tryd.f4 rfl rfl rfl rfl rfl rfl rfl ⟨rfl, rfl, rfl, rfl, rfl⟩ rfl rfl rfl rfl rfl (by kernel_rfl) Tryd.func4 (by kernel_rfl)
  (of_decide_eq_true (by kernel_rfl)) (by unfold Func.isWrapper; first | (rw [if_pos (by decide +kernel)]; kernel_rfl) | (rw [if_neg (by decide +kernel)]; exact ⟨rfl, rfl⟩))
  (fun os started H enc _ => xJv os started H enc)
/-- The statement. -/
theorem tMixes_proved : Rows.TopMixesCardSaid :=
 Claim7.holds_tied_plain_at .later [] [.data, .wider, .wider] true (true, "2907253d00751d44b79c85d920e9336a55d4918efd28408b566d14b06bd966f7") false
  xLR (fun _ h => by cases h) (by kernel_rfl) (fun _ h => by cases h) topMixes_row_tie rfl ⟨rfl, rfl⟩ (by kernel_rfl) rfl
  (fun f fn hf hfn => by
   obtain rfl : f = 4 := Option.some.inj ((show Tryd.prog.funcNamed "boule/bouletop.TopMixes" = some 4 by kernel_rfl).symm.trans hf) |>.symm
   obtain rfl : fn = Tryd.f4 := (Option.some.inj (Tryd.func4.symm.trans hfn)).symm
   exact ⟨by kernel_rfl, fun j t ht => by
    rw [Tryd.params4] at ht
    have hm : t ∈ [62] := by simpa using Array.mem_of_getElem? ht
    have hall : ([62].all fun u => !Tryd.prog.wantsStandIn u) = true := by kernel_rfl
    exact (show Tryd.prog.wantsStandIn t = false by simpa using List.all_eq_true.1 hall t hm)⟩)
  (by kernel_rfl)
end Go.Proofs.YtcbbhiobibhdnaaDoor
