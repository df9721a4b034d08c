/- The statement of TopResists: the law stands in the frame that is given. No condition. -/
import Derived.Test.YtcbbhiobibhdnaaDoorWW4
import Derived.Test.YtcbbhiobibhdnaaDoorWGD1
import Derived.Test.YtcbbhiobibhdnaaDoorWYF
import Derived.Test.YtcbbhiobibhdnaaDoorWYR
import Derived.Test.YtcbbhiobibhdnaaDoorTie
import Derived.Test.YtcbbhiobibhdnaaDoorCards
import Derived.ProofKit
import Derived.LaidMore
import Derived.LaidHandle
import Derived.OpenShut
import Derived.Lay
import Derived.Stop.Joined
namespace Go.Proofs.YtcbbhiobibhdnaaDoor
open Go.RowKit Go.Proofs Go.Proofs.YtcbbhiobibhdnaaDoor
open Go.ChangeShapes Go.WideShapes Go.ChangeAt Go.WideMaps Go.WideElems Go.Deep
/-- The plain wrap, with what is laid and with the world's shape. -/
theorem returns_shaped_and {H : Type} {enc : TypeId × Value → H} {a : Assume} {C : Checked} {os : Os} {f : FuncId} {fn : Func} {s : ChangeSpec} {conds : List PathCond} {apart fresh handsOn again : Bool} {X : World → Array Value → Prop}
    (hX : ∀ (w w' : World) (args : Array Value), w.heap = w'.heap → X w args → X w' args)
    (own : ownKnob C.prog.godebug = none) (started : os.Started) (noInit : C.prog.inits.idxOf? f = none) (hfn : C.prog.funcs[f]? = some fn)
    (witness : ∃ (w : World) (tape : Tape) (i : Input), w.os = os ∧ (w.forCall tape i).Shaped C.prog ∧ i.vars = [] ∧ Input.okWide C.prog (w.forCall tape i) .any w.heap.size f i ∧
      ((s.pre enc C.prog fn conds apart (w.forCall tape i).memory i.args ∧ X (w.forCall tape i).memory i.args) ∧ sizedMet enc C.prog fn (OpenSpec.ofChange s) apart (w.forCall tape i).memory i.args) ∧ a.holds C.prog (lone (Frame.enter C.prog f i.args .normal) [] (w.forCall tape i)))
    (contract : ∀ (W : World) (base : Nat) (args : Array Value) (ds gs : List (DataW H)) (before : List MemPlace),
      (∀ (j : Nat) t v, fn.params[j]? = some t → args[j]? = some v → Value.okWide C.prog W .any base t v) →
      DataW.Whole enc C.prog fn.params.toList s.vars apart W args.toList ds gs before →
      conds.all (PathCond.test C.prog ⟨fn.params.toList, ds, s.plain.varTypes C.prog, gs⟩) = true →
      (DataW.weightsEach C.prog (fn.params.toList ++ s.plain.varTypes C.prog) (ds ++ gs)).all (· ≤ reachBytes) = true → W.ShapedOpen C.prog → X W args →
      a.holds C.prog (lone (Frame.enter C.prog f args .normal) [] W) →
      Calls C.prog f args W fun e W' => ∃ v, e = .returned v ∧ s.post enc C.prog fn apart fresh handsOn again W args v W') :
    ReturnsInHanded a C os f .any (fun w args => (s.pre enc C.prog fn conds apart w args ∧ X w args) ∧ sizedMet enc C.prog fn (OpenSpec.ofChange s) apart w args) (s.post enc C.prog fn apart fresh handsOn again) := by
  refine returnsInHanded_of_calls own started noInit witness ?_
  intro w tape i _ hsh _ hok hpre hholds
  obtain ⟨_, _, _, fn', hfn', _, _, _, _, hval⟩ := hok
  have e : fn' = fn := Option.some.inj (hfn'.symm.trans hfn)
  subst e
  obtain ⟨⟨⟨ds, gs, before, hw, hc⟩, hx⟩, hz⟩ := hpre
  have hw' := DataW.Whole.of_heap (w' := w.forCall tape i) (by rfl) hw
  refine (contract (w.forCall tape i) w.heap.size i.args ds gs before hval hw' hc (hz.weights hw) hsh (hX _ _ _ (by rfl) hx) hholds).mono fun e W' ⟨v, he, hp⟩ => ?_
  subst he
  exact ChangeSpec.post_blind hp
theorem u8_in {n : Int} (h : FitT (.int .u8) n) : 0 ≤ n ∧ n ≤ 255 := h
set_option maxRecDepth 100000
theorem own_knob : ownKnob Tryd.prog.godebug = none := by kernel_rfl
theorem laid_out : laidOutB Tryd.prog = true := by kernel_rfl
theorem fcR_28 : Tryd.prog.cellsOf 28 = 1 := by kernel_rfl
theorem fcR_30 : Tryd.prog.cellsOf 30 = 1 := by kernel_rfl
theorem fcR_32 : Tryd.prog.cellsOf 32 = 2 := by kernel_rfl
set_option maxHeartbeats 1000000 in
theorem tResists_lifted (os : Os) (started : os.Started) (H : Type) (enc : TypeId × Value → H) :
    ReturnsInHanded {} Tryd.checked os 3 .any (fun w args => (Rows.topResistsSpec.pre enc Tryd.prog Tryd.f3 [] false w args ∧ laidMetH Tryd.prog laidL w) ∧ sizedMet enc Tryd.prog Tryd.f3 (OpenSpec.ofChange Rows.topResistsSpec) false w args) (Rows.topResistsSpec.post enc Tryd.prog Tryd.f3 false true false false) := by
  refine returns_shaped_and (C := Tryd.checked) (X := fun w _ => laidMetH Tryd.prog laidL w) (fun _ _ _ hh h => h.of_heap hh) own_knob started (by kernel_rfl) Tryd.func3
    (ChangeSpec.witness_shaped (enc := enc) (C := Tryd.checked) (os := os) (X := fun w _ => laidMetH Tryd.prog laidL w) false (World.laidAll Tryd.prog os laidL) #[.agg #[.int .i64 0, .int .i64 0, .int .i64 0, .int .i64 0, .int .i64 0, .int .i64 0, .int .i64 0], .agg #[.slice none 0 0, .slice none 0 0], .slice none 0 0] 64 (World.laidAll_os _ _ _) (World.shaped_of_ZipB (by kernel_rfl) (by kernel_rfl)) (by kernel_rfl) (by kernel_rfl) (by kernel_rfl) (by rw [MakeChecks.laidMetH_plain _ _ _ (by kernel_rfl)]; exact laidMet_laidAll _ (by kernel_rfl) (by kernel_rfl))) ?_
  intro W base args ds gs before hval0 hW _ _ _ hlaid _
  have hval : ∀ (j : Nat) t v, Tryd.f3.params[j]? = some t → args[j]? = some v → Value.okWide Tryd.prog W .any base t v := hval0
  have hW' := hW
  obtain ⟨p, q, hA0, hV, rfl, hfz, hnd⟩ := hW
  have hA : DataW.TrodAll enc Tryd.prog W 0 (fun _ => true) true Tryd.f3.params.toList args.toList ds p := hA0
  rw [Tryd.params3] at hA hval
  obtain ⟨v0, vs0, d0, ds0, p0, q0, hargs, rfl, rfl, h0, rest0⟩ := trodAll_cons hA
  obtain ⟨v1, vs1, d1, ds1, p1, q1, rfl, rfl, rfl, h1, rest1⟩ := trodAll_cons rest0
  obtain ⟨v2, vs2, d2, ds2, p2, q2, rfl, rfl, rfl, h2, rest2⟩ := trodAll_cons rest1
  obtain ⟨rfl, rfl, rfl⟩ := trodAll_nil rest2
  obtain rfl : args = #[v0, v1, v2] := by cases args; simp_all
  obtain ⟨rfl, rfl⟩ := trodVars_none hV
  have lt0 : ∀ x ∈ p0, x.block < W.heap.size := by obtain ⟨m, hm⟩ := h0; exact DataW.trod_lt m _ _ _ hm
  have k0 := h0
  obtain ⟨y0, e0, f0⟩ := flat_value (d := 20) (τ := (.pair (.int .i64) (.pair (.pair (.int .i64) (.int .i64)) (.pair (.pair (.int .i64) (.int .i64)) (.pair (.int .i64) (.int .i64)))))) (by kernel_rfl) (by kernel_rfl) (hval 0 27 v0 rfl rfl) h0 Tryd.underlying27
  have lt1 : ∀ x ∈ p1, x.block < W.heap.size := by obtain ⟨m, hm⟩ := h1; exact DataW.trod_lt m _ _ _ hm
  have k1 := h1
  obtain ⟨⟨cs1⟩, rfl, hsz1⟩ := okWide_struct Tryd.underlying32 (hval 1 32 v1 rfl rfl)
  obtain ⟨m1, hf1⟩ := h1
  have hf1 : DataW.trod enc Tryd.prog W 0 (fun _ => true) true m1 32 cs1 = some (d1, p1) := hf1
  obtain ⟨xs1, n1, _, _, hlen1, hx1, hg1⟩ := DataW.trod_struct Tryd.underlying32 hf1
  rw [fcR_32] at hlen1
  obtain ⟨z1_0, e1_0⟩ := someOf (i := 0) hx1 (by decide)
  have g1_0 := (hg1 0 _ rfl).trans e1_0
  have g1_0 : DataW.trod enc Tryd.prog W 0 (fun _ => true) true n1 28 ((cs1.drop 0).take 1) = some z1_0 := by rw [← fcR_28]; exact g1_0
  obtain ⟨i1_0, x1_0, q1_0, s1_0⟩ := sl_in (d := 20) (τ := (.pair (.int .u8) (.pair (.int .i64) (.pair (.pair (.int .i64) (.int .i64)) (.pair (.pair (.int .i64) (.int .i64)) (.pair (.int .i64) (.int .i64))))))) Tryd.underlying28 (by kernel_rfl) (by kernel_rfl) (by kernel_rfl) (by decide) (TC.dflt (.pair (.int .u8) (.pair (.int .i64) (.pair (.pair (.int .i64) (.int .i64)) (.pair (.pair (.int .i64) (.int .i64)) (.pair (.int .i64) (.int .i64))))))) g1_0
  obtain ⟨z1_1, e1_1⟩ := someOf (i := 1) hx1 (by decide)
  have g1_1 := (hg1 1 _ rfl).trans e1_1
  have g1_1 : DataW.trod enc Tryd.prog W 0 (fun _ => true) true n1 30 ((cs1.drop 1).take 1) = some z1_1 := by rw [← fcR_30]; exact g1_1
  obtain ⟨i1_1, x1_1, q1_1, s1_1⟩ := sl_in (d := 20) (τ := (.int .u8)) Tryd.underlying30 (by kernel_rfl) (by kernel_rfl) (by kernel_rfl) (by decide) (TC.dflt (.int .u8)) g1_1
  have q1 := parts [(0, 1), (1, 1)] (by decide) hlen1
  simp only [List.map_cons, List.map_nil, List.flatten_cons, List.flatten_nil] at q1
  rw [q1_0, q1_1] at q1
  have lt2 : ∀ x ∈ p2, x.block < W.heap.size := by obtain ⟨m, hm⟩ := h2; exact DataW.trod_lt m _ _ _ hm
  have k2 := h2
  obtain ⟨va2, vl2, vc2, rfl⟩ := okWide_slice Tryd.underlying33 (hval 2 33 v2 rfl rfl)
  obtain ⟨m2, hf2⟩ := h2
  have hf2 : DataW.trod enc Tryd.prog W 0 (fun _ => true) true m2 33 [.slice va2 vl2 vc2] = some (d2, p2) := hf2
  obtain ⟨i2, x2, q2, s2⟩ := sl_in (d := 20) (τ := (.pair (.int .i64) (.int .i64))) Tryd.underlying33 (by kernel_rfl) (by kernel_rfl) (by kernel_rfl) (by decide) (TC.dflt (.pair (.int .i64) (.int .i64))) hf2
  simp only [List.cons.injEq, Value.slice.injEq, and_true] at q2
  obtain ⟨u2, w2, z2⟩ := q2
  subst va2 vl2 vc2
  clear hA0 hval0
  have E1 := (DenL.app (show DenL [i1_0, i1_1, i2] [.sl 0 (TC.w (.pair (.int .u8) (.pair (.int .i64) (.pair (.pair (.int .i64) (.int .i64)) (.pair (.pair (.int .i64) (.int .i64)) (.pair (.int .i64) (.int .i64))))))) 0 none none] _ from ⟨_, [], rfl, s1_0.den rfl, rfl⟩) (DenL.app (show DenL [i1_0, i1_1, i2] [.sl 1 (TC.w (.int .u8)) 0 none none] _ from ⟨_, [], rfl, s1_1.den rfl, rfl⟩) (show DenL [i1_0, i1_1, i2] [] [] from rfl)))
  rw [← q1] at E1
  have hlaw := M3.resists_law 5000 (by decide) M3.poured_eq y0 x1_0 x1_1 x2 (fun x h => u8_in (s1_0.fit x h).1) (fun v h => u8_in (s1_1.fit v h))
  refine (law_callsA (tResists_ok 5000) (y0, (x1_0, x1_1, x2)) true hlaw rfl [v0, .agg ⟨cs1⟩, .slice i2.a x2.length i2.cap] rfl W (by kernel_rfl) [i1_0, i1_1, i2] (⟨⟨v0, DenB.mono (pre_nil _) e0, rfl⟩, ⟨.agg ⟨cs1⟩, ⟨cs1, E1, rfl⟩, rfl⟩, ⟨.slice i2.a x2.length i2.cap, (show Den [i1_0, i1_1, i2] (.sl 2 (TC.w (.pair (.int .i64) (.int .i64))) 0 none none) _ from s2.den rfl), rfl⟩, trivial⟩) (⟨_, _, rfl, .inl ⟨_, _, rfl⟩, s1_0.root, s1_0.objs, ⟨_, _, rfl, .inl ⟨_, _, rfl⟩, s1_1.root, s1_1.objs, ⟨_, _, rfl, .inl ⟨_, _, rfl⟩, s2.root, s2.objs, rfl⟩⟩⟩) ⟨gOk_laid hlaid, gBlk_lt (gOk_laid hlaid)⟩).mono fun e W' ⟨he, hE⟩ => ?_
  have bel : Below W.heap.size W W' := Ex.below hE
  subst he
  exact ⟨_, rfl, _, _, _, [], _, [], hW', trodAll_mk1 (shut_bool Tryd.underlying4 _), (trodAll_cons_mk (Below.trod laid_out (by kernel_rfl) (of_decide_eq_true (by kernel_rfl)) k0 bel lt0) (trodAll_cons_mk (Below.trod laid_out (by kernel_rfl) (of_decide_eq_true (by kernel_rfl)) k1 bel lt1) (trodAll_cons_mk (Below.trod laid_out (by kernel_rfl) (of_decide_eq_true (by kernel_rfl)) k2 bel lt2) trodAll_mk0))), rfl, bel.frame _, fun h => by cases h⟩
theorem tResists_over : Rows.TopResistsSaid :=
  OpenClaim.holds_of_wide 3 Tryd.f3 rfl rfl rfl rfl rfl rfl rfl ⟨rfl, rfl, rfl, rfl, rfl⟩ rfl rfl rfl rfl rfl (by kernel_rfl) Tryd.func3 (by kernel_rfl)
    (of_decide_eq_true (by kernel_rfl)) (by unfold Func.isWrapper; first | (rw [if_pos (by decide +kernel)]; kernel_rfl) | (rw [if_neg (by decide +kernel)]; exact ⟨rfl, rfl⟩))
    (fun os started H enc _ => tResists_lifted os started H enc)
/-- The statement. -/
theorem tResists_proved : Rows.TopResistsCardSaid :=
  Claim7.holds_tied_plain_at .later [] [.data, .wider, .wider] true (true, "2907253d00751d44b79c85d920e9336a55d4918efd28408b566d14b06bd966f7") false
    tResists_over (fun _ h => by cases h) (by kernel_rfl) (fun _ h => by cases h) topResists_row_tie rfl ⟨rfl, rfl⟩ (by kernel_rfl) rfl
    (fun f fn hf hfn => by
      obtain rfl : f = 3 := Option.some.inj ((show Tryd.prog.funcNamed "boule/bouletop.TopResists" = some 3 by kernel_rfl).symm.trans hf) |>.symm
      obtain rfl : fn = Tryd.f3 := (Option.some.inj (Tryd.func3.symm.trans hfn)).symm
      exact ⟨by kernel_rfl, fun j t ht => by
        rw [Tryd.params3] at ht
        have hm : t ∈ [27, 32, 33] := by simpa using Array.mem_of_getElem? ht
        have hall : ([27, 32, 33].all fun u => !Tryd.prog.wantsStandIn u) = true := by kernel_rfl
        exact (show Tryd.prog.wantsStandIn t = false by simpa using List.all_eq_true.1 hall t hm)⟩)
    (by kernel_rfl)
end Go.Proofs.YtcbbhiobibhdnaaDoor
