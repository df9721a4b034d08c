/- The statement of TopReturns: the law stands in the frame that is given. No condition. -/
import Derived.Test.YthmicafabimfkaaGreatDoorWTR4
import Derived.Test.YthmicafabimfkaaGreatDoorWGDz
import Derived.Test.YthmicafabimfkaaGreatDoorWYR
import Derived.Test.YthmicafabimfkaaGreatDoorTie
import Derived.Test.YthmicafabimfkaaGreatDoorCards
import Derived.ProofKit
import Derived.LaidMore
import Derived.LaidHandle
import Derived.OpenShut
import Derived.Lay
import Derived.Stop.Joined
namespace Go.Proofs.YthmicafabimfkaaGreatDoor
open Go.RowKit Go.Proofs Go.Proofs.YthmicafabimfkaaGreatDoor
open Go.ChangeShapes Go.WideShapes Go.ChangeAt Go.WideMaps Go.WideElems Go.Deep
theorem den_sc {ρ : List Info} {l : List CV} {v : Value} (h : DenB ρ false l v) : Den ρ (xTe l) v := by
 obtain ⟨x, rfl, h⟩ := h;exact h
/-- The plain wrap, with what is laid and with the world's shape. -/
theorem xFt {H : Type} {enc : TypeId × Value -> H} {a : Assume} {C : Checked} {os : Os} {f : FuncId} {fn : Func} {s : ChangeSpec} {conds : List PathCond} {apart fresh handsOn again : Bool} {X : World -> Array Value -> Prop}
  (hX : ∀ (w w' : World) (args : Array Value), w.heap = w'.heap -> X w args -> X w' args)
  (own : ownKnob C.prog.godebug = none) (started : os.Started) (noInit : C.prog.inits.idxOf? f = none) (hfn : C.prog.funcs[f]? = some fn)
  (witness : ∃ (w : World) (tape : Tape) (i : Input), w.os = os /\ (w.forCall tape i).Shaped C.prog /\ i.vars = [] /\ Input.okWide C.prog (w.forCall tape i) .any w.heap.size f i /\
   ((s.pre enc C.prog fn conds apart (w.forCall tape i).memory i.args /\ X (w.forCall tape i).memory i.args) /\ sizedMet enc C.prog fn (OpenSpec.ofChange s) apart (w.forCall tape i).memory i.args) /\ a.holds C.prog (lone (Frame.enter C.prog f i.args .normal) [] (w.forCall tape i)))
  (contract : ∀ (W : World) (base : Nat) (args : Array Value) (ds gs : List (DataW H)) (before : List MemPlace),
   (∀ (j : Nat) t v, fn.params[j]? = some t -> args[j]? = some v -> Value.okWide C.prog W .any base t v) ->
   DataW.Whole enc C.prog fn.params.toList s.vars apart W args.toList ds gs before ->
   conds.all (PathCond.test C.prog ⟨fn.params.toList, ds, s.plain.varTypes C.prog, gs⟩) = true ->
   (DataW.weightsEach C.prog (fn.params.toList ++ s.plain.varTypes C.prog) (ds ++ gs)).all (· <= reachBytes) = true -> W.ShapedOpen C.prog -> X W args ->
   a.holds C.prog (lone (Frame.enter C.prog f args .normal) [] W) ->
   Calls C.prog f args W fun e W' => ∃ v, e = .returned v /\ s.post enc C.prog fn apart fresh handsOn again W args v W') :
  ReturnsInHanded a C os f .any (fun w args => (s.pre enc C.prog fn conds apart w args /\ X w args) /\ sizedMet enc C.prog fn (OpenSpec.ofChange s) apart w args) (s.post enc C.prog fn apart fresh handsOn again) := by
 refine returnsInHanded_of_calls own started noInit witness ?_;intro w tape i _ hsh _ hok hpre hholds;obtain ⟨_, _, _, fn', hfn', _, _, _, _, hval⟩ := hok;have e : fn' = fn := Option.some.inj (hfn'.symm.trans hfn);subst e;obtain ⟨⟨⟨ds, gs, before, hw, hc⟩, hx⟩, hz⟩ := hpre;have hw' := DataW.Whole.of_heap (w' := w.forCall tape i) (by rfl) hw;refine (contract (w.forCall tape i) w.heap.size i.args ds gs before hval hw' hc (hz.weights hw) hsh (hX _ _ _ (by rfl) hx) hholds).mono fun e W' ⟨v, he, hp⟩ => ?_;subst he;exact ChangeSpec.post_blind hp
theorem u8_in {n : Int} (h : xRb (.int .u8) n) : 0 <= n /\ n <= 255 := h
theorem u16_in {n : Int} (h : xRb (.int .u16) n) : 0 <= n /\ n <= 65535 := h
set_option maxRecDepth 100000
theorem xVE : ownKnob Tryz.prog.godebug = none := by kernel_rfl
theorem xLb : laidOutB Tryz.prog = true := by kernel_rfl
theorem fcR_26 : Tryz.prog.cellsOf 26 = 5 := by kernel_rfl
theorem fcR_28 : Tryz.prog.cellsOf 28 = 5 := by kernel_rfl
theorem fcR_30 : Tryz.prog.cellsOf 30 = 1 := by kernel_rfl
theorem fcR_32 : Tryz.prog.cellsOf 32 = 11 := by kernel_rfl
set_option maxHeartbeats 1000000 in
theorem xHS (os : Os) (started : os.Started) (H : Type) (enc : TypeId × Value -> H) :
  ReturnsInHanded {} Tryz.checked os 3 .any (fun w args => (Rows.topReturnsSpec.pre enc Tryz.prog Tryz.f3 [] false w args /\ laidMetH Tryz.prog xSW w) /\ sizedMet enc Tryz.prog Tryz.f3 (OpenSpec.ofChange Rows.topReturnsSpec) false w args) (Rows.topReturnsSpec.post enc Tryz.prog Tryz.f3 false true false false) := by
 refine xFt (C := Tryz.checked) (X := fun w _ => laidMetH Tryz.prog xSW w) (fun _ _ _ hh h => h.of_heap hh) xVE started (by kernel_rfl) Tryz.func3
  (ChangeSpec.witness_shaped (enc := enc) (C := Tryz.checked) (os := os) (X := fun w _ => laidMetH Tryz.prog xSW w) false (World.laidAll Tryz.prog os xSW) #[.slice none 0 0, .int .i64 0, .agg #[.int .i64 0, .int .i64 0, .int .i64 0, .int .i64 0, .int .i64 0, .int .i64 0, .int .i64 0, .int .i64 0, .int .i64 0, .int .i64 0, .slice none 0 0]] 64 (World.laidAll_os _ _ _) (World.shaped_of_ZipB (by kernel_rfl) (by kernel_rfl)) (by kernel_rfl) (by kernel_rfl) (by kernel_rfl) (by rw [MakeChecks.laidMetH_plain _ _ _ (by kernel_rfl)]; exact laidMet_laidAll _ (by kernel_rfl) (by kernel_rfl))) ?_
 intro W base args ds gs before hval0 hW _ _ _ hlaid _;have hval : ∀ (j : Nat) t v, Tryz.f3.params[j]? = some t -> args[j]? = some v -> Value.okWide Tryz.prog W .any base t v := hval0;have hW' := hW;obtain ⟨p, q, hA0, hV, rfl, hfz, hnd⟩ := hW;have hA : DataW.TrodAll enc Tryz.prog W 0 (fun _ => true) true Tryz.f3.params.toList args.toList ds p := hA0;rw [Tryz.params3] at hA hval;obtain ⟨v0, vs0, d0, ds0, p0, q0, hargs, rfl, rfl, h0, rest0⟩ := trodAll_cons hA;obtain ⟨v1, vs1, d1, ds1, p1, q1, rfl, rfl, rfl, h1, rest1⟩ := trodAll_cons rest0;obtain ⟨v2, vs2, d2, ds2, p2, q2, rfl, rfl, rfl, h2, rest2⟩ := trodAll_cons rest1;obtain ⟨rfl, rfl, rfl⟩ := trodAll_nil rest2;obtain rfl : args = #[v0, v1, v2] := by cases args; simp_all
 obtain ⟨rfl, rfl⟩ := trodVars_none hV;have lt0 : ∀ x ∈ p0, x.block < W.heap.size := by obtain ⟨m, hm⟩ := h0; exact DataW.trod_lt m _ _ _ hm
 have k0 := h0;obtain ⟨va0, vl0, vc0, rfl⟩ := okWide_slice Tryz.underlying22 (hval 0 22 v0 rfl rfl);obtain ⟨m0, hf0⟩ := h0;have hf0 : DataW.trod enc Tryz.prog W 0 (fun _ => true) true m0 22 [.slice va0 vl0 vc0] = some (d0, p0) := hf0;obtain ⟨i0, x0, q0, s0⟩ := sl_in (d := 20) (τ := (.pair (.int .u8) (.pair (.int .u16) (.int .u8)))) Tryz.underlying22 (by kernel_rfl) (by kernel_rfl) (by kernel_rfl) (by decide) (TC.dflt (.pair (.int .u8) (.pair (.int .u16) (.int .u8)))) hf0;simp only [List.cons.injEq, Value.slice.injEq, and_true] at q0;obtain ⟨u0, w0, z0⟩ := q0;subst va0 vl0 vc0;have lt1 : ∀ x ∈ p1, x.block < W.heap.size := by obtain ⟨m, hm⟩ := h1; exact DataW.trod_lt m _ _ _ hm
 have k1 := h1;obtain ⟨y1, e1, f1⟩ := xQS (d := 20) (τ := (.int .i64)) (by kernel_rfl) (by kernel_rfl) (hval 1 3 v1 rfl rfl) h1 Tryz.underlying3;have lt2 : ∀ x ∈ p2, x.block < W.heap.size := by obtain ⟨m, hm⟩ := h2; exact DataW.trod_lt m _ _ _ hm
 have k2 := h2;obtain ⟨⟨cs2⟩, rfl, hsz2⟩ := okWide_struct Tryz.underlying32 (hval 2 32 v2 rfl rfl);obtain ⟨m2, hf2⟩ := h2;have hf2 : DataW.trod enc Tryz.prog W 0 (fun _ => true) true m2 32 cs2 = some (d2, p2) := hf2;obtain ⟨xs2, n2, _, _, hlen2, hx2, hg2⟩ := DataW.trod_struct Tryz.underlying32 hf2;rw [fcR_32] at hlen2;obtain ⟨z2_0, e2_0⟩ := xL6 (i := 0) hx2 (by decide);have g2_0 := (hg2 0 _ rfl).trans e2_0;have g2_0 : DataW.trod enc Tryz.prog W 0 (fun _ => true) true n2 26 ((cs2.drop 0).take 5) = some z2_0 := by rw [<- fcR_26]; exact g2_0
 obtain ⟨y2_0, r2_0, f2_0⟩ := xMY (d := 20) (τ := (.pair (.pair (.int .i64) (.int .i64)) (.pair (.pair (.int .i64) (.int .i64)) (.int .i64)))) (by kernel_rfl) (by kernel_rfl) g2_0;obtain ⟨z2_1, e2_1⟩ := xL6 (i := 1) hx2 (by decide);have g2_1 := (hg2 1 _ rfl).trans e2_1;have g2_1 : DataW.trod enc Tryz.prog W 0 (fun _ => true) true n2 28 ((cs2.drop 5).take 5) = some z2_1 := by rw [<- fcR_28]; exact g2_1
 obtain ⟨y2_1, r2_1, f2_1⟩ := xMY (d := 20) (τ := (.pair (.int .i64) (.pair (.int .i64) (.pair (.int .i64) (.pair (.int .i64) (.int .i64)))))) (by kernel_rfl) (by kernel_rfl) g2_1;obtain ⟨z2_2, e2_2⟩ := xL6 (i := 2) hx2 (by decide);have g2_2 := (hg2 2 _ rfl).trans e2_2;have g2_2 : DataW.trod enc Tryz.prog W 0 (fun _ => true) true n2 30 ((cs2.drop 10).take 1) = some z2_2 := by rw [<- fcR_30]; exact g2_2
 obtain ⟨i2_2, x2_2, q2_2, s2_2⟩ := sl_in (d := 20) (τ := (.int .u8)) Tryz.underlying30 (by kernel_rfl) (by kernel_rfl) (by kernel_rfl) (by decide) (TC.dflt (.int .u8)) g2_2;have q2 := parts [(0, 5), (5, 5), (10, 1)] (by decide) hlen2;simp only [List.map_cons, List.map_nil, List.flatten_cons, List.flatten_nil] at q2;rw [q2_2] at q2;clear hA0 hval0;have E2 := (DenL.app (r2_0.mono (pre_nil _)) (DenL.app (r2_1.mono (pre_nil _)) (DenL.app (show DenL [i0, i2_2, nilI, nilI] [.sl 1 (TC.w (.int .u8)) 0 none none] _ from ⟨_, [], rfl, s2_2.den rfl, rfl⟩) (show DenL [i0, i2_2, nilI, nilI] [] [] from rfl))));rw [<- q2] at E2;obtain ⟨B, hlaw⟩ := TR.returns_law 5000 (by decide) y1 (y2_0, y2_1) x0 (fun b h => ⟨u8_in (s0.fit b h).1, u16_in (s0.fit b h).2.1, u8_in (s0.fit b h).2.2⟩) x2_2 (fun v h => u8_in (s2_2.fit v h));refine (xQI (xHR 5000) ((y1, (y2_0, y2_1)), (x0, x2_2, [], [])) (true, B) hlaw rfl [.slice i0.a x0.length i0.cap, v1, .agg ⟨cs2⟩] rfl W (by kernel_rfl) [i0, i2_2, nilI, nilI] (⟨⟨.slice i0.a x0.length i0.cap, (show Den [i0, i2_2, nilI, nilI] (.sl 0 (TC.w (.pair (.int .u8) (.pair (.int .u16) (.int .u8)))) 0 none none) _ from s0.den rfl), rfl⟩, ⟨v1, (show Den [i0, i2_2, nilI, nilI] _ v1 from (den_sc e1).mono (pre_nil [i0, i2_2, nilI, nilI])), rfl⟩, ⟨.agg ⟨cs2⟩, ⟨cs2, E2, rfl⟩, rfl⟩, trivial⟩) (⟨_, _, rfl, .inl ⟨_, _, rfl⟩, s0.root, s0.objs, ⟨_, _, rfl, .inl ⟨_, _, rfl⟩, s2_2.root, s2_2.objs, xJC (h := [.aro 0 94 (.pair (.pair (.int .i64) (.pair (.int .i64) (.pair (.pair (.pair (.int .i64) (.int .i64)) (.pair (.pair (.int .i64) (.int .i64)) (.pair (.int .i64) (.int .i64)))) (.int .i64)))) (.rf 2 1)) [], .arm 1 (.i .i64) false .bool []]) (by simp [Root.tag, Root.obs])⟩⟩) ⟨xPL hlaid, gBlk_lt (xPL hlaid)⟩).mono fun e W' ⟨he, hE⟩ => ?_;have bel : Below W.heap.size W W' := Ex.below hE;subst he;exact ⟨_, rfl, _, _, _, [], _, [], hW', trodAll_mk1 (shut_bool Tryz.underlying4 _), (trodAll_cons_mk (Below.trod xLb (by kernel_rfl) (of_decide_eq_true (by kernel_rfl)) k0 bel lt0) (trodAll_cons_mk (Below.trod xLb (by kernel_rfl) (of_decide_eq_true (by kernel_rfl)) k1 bel lt1) (trodAll_cons_mk (Below.trod xLb (by kernel_rfl) (of_decide_eq_true (by kernel_rfl)) k2 bel lt2) trodAll_mk0))), rfl, bel.frame _, fun h => by cases h⟩
theorem xKu : Rows.TopReturnsSaid :=
 OpenClaim.holds_of_wide 3 Tryz.f3 rfl rfl rfl rfl rfl rfl rfl ⟨rfl, rfl, rfl, rfl, rfl⟩ rfl rfl rfl rfl rfl (by kernel_rfl) Tryz.func3 (by kernel_rfl)
  (of_decide_eq_true (by kernel_rfl)) (by unfold Func.isWrapper; first | (rw [if_pos (by decide +kernel)]; kernel_rfl) | (rw [if_neg (by decide +kernel)]; exact ⟨rfl, rfl⟩))
  (fun os started H enc _ => xHS os started H enc)
/-- The statement. -/
theorem tReturns_proved : Rows.TopReturnsCardSaid :=
 Claim7.holds_tied_plain_at .later [] [.data, .wider, .wider] true (true, "d412a91ec9edf6cd4934b201df9d3af24664bc808aa58db64d0ed8cb55554e26") false
  xKu (fun _ h => by cases h) (by kernel_rfl) (fun _ h => by cases h) topReturns_row_tie rfl ⟨rfl, rfl⟩ (by kernel_rfl) rfl
  (fun f fn hf hfn => by
   obtain rfl : f = 3 := Option.some.inj ((show Tryz.prog.funcNamed "boule/bouletop.TopReturns" = some 3 by kernel_rfl).symm.trans hf) |>.symm;obtain rfl : fn = Tryz.f3 := (Option.some.inj (Tryz.func3.symm.trans hfn)).symm;exact ⟨by kernel_rfl, fun j t ht => by
    rw [Tryz.params3] at ht;have hm : t ∈ [22, 3, 32] := by simpa using Array.mem_of_getElem? ht
    have hall : ([22, 3, 32].all fun u => !Tryz.prog.wantsStandIn u) = true := by kernel_rfl
    exact (show Tryz.prog.wantsStandIn t = false by simpa using List.all_eq_true.1 hall t hm)⟩)
  (by kernel_rfl)
end Go.Proofs.YthmicafabimfkaaGreatDoor
