/- A part of the proof of the theorem of the last file. No condition. By an AI agent. -/
import Derived.Test.YtnomnijhlbalaaaGreatDoorWPPD
set_option maxRecDepth 100000
namespace Go.Proofs.YtnomnijhlbalaaaGreatDoor
section
open Go.RowKit Go.Proofs Go.Proofs.YtnomnijhlbalaaaGreatDoor Go.ChangeShapes Go.WideShapes Go.ChangeAt Go.WideMaps Go.WideElems Go.Deep
theorem xFF {H : Type} {enc : TypeId × Value -> H} {a : Assume} {C : Checked} {os : Os} {f : FuncId} {fn : Func} {s : ChangeSpec} {conds : List PathCond} {apart fresh handsOn again : Bool} {X : World -> Array Value -> Prop}
  (hX : ∀ (w w' : World) (args : Array Value), w.heap = w'.heap -> X w args -> X w' args)
  (own : ownKnob C.prog.godebug = none) (started : os.Started) (noInit : C.prog.inits.idxOf? f = none) (hfn : C.prog.funcs[f]? = some fn)
  (witness : ∃ (w : World) (tape : Tape) (i : Input), w.os = os /\ (w.forCall tape i).Shaped C.prog /\ i.vars = [] /\ Input.okWide C.prog (w.forCall tape i) .any w.heap.size f i /\
   ((s.pre enc C.prog fn conds apart (w.forCall tape i).memory i.args /\ X (w.forCall tape i).memory i.args) /\ sizedMet enc C.prog fn (OpenSpec.ofChange s) apart (w.forCall tape i).memory i.args) /\ a.holds C.prog (lone (Frame.enter C.prog f i.args .normal) [] (w.forCall tape i)))
  (contract : ∀ (W : World) (base : Nat) (args : Array Value) (ds gs : List (DataW H)) (before : List MemPlace),
   (∀ (j : Nat) t v, fn.params[j]? = some t -> args[j]? = some v -> Value.okWide C.prog W .any base t v) ->
   DataW.Whole enc C.prog fn.params.toList s.vars apart W args.toList ds gs before ->
   conds.all (PathCond.test C.prog ⟨fn.params.toList, ds, s.plain.varTypes C.prog, gs⟩) = true ->
   (DataW.weightsEach C.prog (fn.params.toList ++ s.plain.varTypes C.prog) (ds ++ gs)).all (· <= reachBytes) = true -> W.ShapedOpen C.prog -> X W args ->
   a.holds C.prog (lone (Frame.enter C.prog f args .normal) [] W) ->
   Calls C.prog f args W fun e W' => ∃ v, e = .returned v /\ s.post enc C.prog fn apart fresh handsOn again W args v W') :
  ReturnsInHanded a C os f .any (fun w args => (s.pre enc C.prog fn conds apart w args /\ X w args) /\ sizedMet enc C.prog fn (OpenSpec.ofChange s) apart w args) (s.post enc C.prog fn apart fresh handsOn again) := by
 refine returnsInHanded_of_calls own started noInit witness ?_;intro w tape i _ hsh _ hok hpre hholds;obtain ⟨_, _, _, fn', hfn', _, _, _, _, hval⟩ := hok;have e : fn' = fn := Option.some.inj (hfn'.symm.trans hfn);subst e;obtain ⟨⟨⟨ds, gs, before, hw, hc⟩, hx⟩, hz⟩ := hpre;have hw' := DataW.Whole.of_heap (w' := w.forCall tape i) (by rfl) hw;refine (contract (w.forCall tape i) w.heap.size i.args ds gs before hval hw' hc (hz.weights hw) hsh (hX _ _ _ (by rfl) hx) hholds).mono fun e W' ⟨v, he, hp⟩ => ?_;subst he;exact ChangeSpec.post_blind hp
theorem xWY : ownKnob Tryz.prog.godebug = none := by kernel_rfl
theorem xP5 : laidOutB Tryz.prog = true := by kernel_rfl
theorem fcR_22 : Tryz.prog.cellsOf 22 = 1 := by kernel_rfl
theorem fcR_23 : Tryz.prog.cellsOf 23 = 1 := by kernel_rfl
theorem fcR_24 : Tryz.prog.cellsOf 24 = 1 := by kernel_rfl
theorem fcR_26 : Tryz.prog.cellsOf 26 = 3 := by kernel_rfl
theorem fcR_28 : Tryz.prog.cellsOf 28 = 2 := by kernel_rfl
theorem fcR_30 : Tryz.prog.cellsOf 30 = 6 := by kernel_rfl
theorem fcR_32 : Tryz.prog.cellsOf 32 = 9 := by kernel_rfl
set_option maxHeartbeats 1000000 in
theorem xKq (os : Os) (started : os.Started) (H : Type) (enc : TypeId × Value -> H) :
  ReturnsInHanded {} Tryz.checked os 3 .any (fun w args => (Rows.topStoreSpec.pre enc Tryz.prog Tryz.f3 [] false w args /\ laidMetH Tryz.prog xUo w) /\ sizedMet enc Tryz.prog Tryz.f3 (OpenSpec.ofChange Rows.topStoreSpec) false w args) (Rows.topStoreSpec.post enc Tryz.prog Tryz.f3 false true false false) := by
 refine xFF (C := Tryz.checked) (X := fun w _ => laidMetH Tryz.prog xUo w) (fun _ _ _ hh h => h.of_heap hh) xWY started (by kernel_rfl) Tryz.func3
  (ChangeSpec.witness_shaped (enc := enc) (C := Tryz.checked) (os := os) (X := fun w _ => laidMetH Tryz.prog xUo w) false (World.laidAll Tryz.prog os xUo) #[.agg #[.slice none 0 0, .slice none 0 0, .slice none 0 0], .agg #[.slice none 0 0, .int .i64 0, .int .i64 0, .int .i64 0, .int .i64 0, .int .i64 0, .int .i64 0, .int .i64 0, .int .i64 0]] 64 (World.laidAll_os _ _ _) (World.shaped_of_ZipB (by kernel_rfl) (by kernel_rfl)) (by kernel_rfl) (by kernel_rfl) (by kernel_rfl) (by rw [MakeChecks.laidMetH_plain _ _ _ (by kernel_rfl)]; exact laidMet_laidAll _ (by kernel_rfl) (by kernel_rfl))) ?_
 intro W base args ds gs before hval0 hW _ _ hso hlaid _;have hval : ∀ (j : Nat) t v, Tryz.f3.params[j]? = some t -> args[j]? = some v -> Value.okWide Tryz.prog W .any base t v := hval0;have hW' := hW;obtain ⟨p, q, hA0, hV, rfl, hfz, hnd⟩ := hW;have hA : DataW.TrodAll enc Tryz.prog W 0 (fun _ => true) true Tryz.f3.params.toList args.toList ds p := hA0;rw [Tryz.params3] at hA hval;obtain ⟨v0, vs0, d0, ds0, p0, q0, hargs, rfl, rfl, h0, rest0⟩ := trodAll_cons hA;obtain ⟨v1, vs1, d1, ds1, p1, q1, rfl, rfl, rfl, h1, rest1⟩ := trodAll_cons rest0;obtain ⟨rfl, rfl, rfl⟩ := trodAll_nil rest1;obtain rfl : args = #[v0, v1] := by cases args; simp_all
 obtain ⟨rfl, rfl⟩ := trodVars_none hV;have lt0 : ∀ x ∈ p0, x.block < W.heap.size := by obtain ⟨m, hm⟩ := h0; exact DataW.trod_lt m _ _ _ hm
 have k0 := h0;obtain ⟨⟨cs0⟩, rfl, hsz0⟩ := okWide_struct Tryz.underlying26 (hval 0 26 v0 rfl rfl);obtain ⟨m0, hf0⟩ := h0;have hf0 : DataW.trod enc Tryz.prog W 0 (fun _ => true) true m0 26 cs0 = some (d0, p0) := hf0;obtain ⟨xs0, n0, _, _, hlen0, hx0, hg0⟩ := DataW.trod_struct Tryz.underlying26 hf0;rw [fcR_26] at hlen0;obtain ⟨z0_0, e0_0⟩ := xGQ (i := 0) hx0 (by decide);have g0_0 := (hg0 0 _ rfl).trans e0_0;have g0_0 : DataW.trod enc Tryz.prog W 0 (fun _ => true) true n0 22 ((cs0.drop 0).take 1) = some z0_0 := by rw [<- fcR_22]; exact g0_0
 obtain ⟨iL, xL, qL, sL⟩ := xWx (d := 20) (U := C_1) Tryz.underlying22 (by kernel_rfl) (by kernel_rfl) (by kernel_rfl) (by decide) (TC.dflt C_1) g0_0;obtain ⟨z0_1, e0_1⟩ := xGQ (i := 1) hx0 (by decide);have g0_1 := (hg0 1 _ rfl).trans e0_1;have g0_1 : DataW.trod enc Tryz.prog W 0 (fun _ => true) true n0 23 ((cs0.drop 1).take 1) = some z0_1 := by rw [<- fcR_23]; exact g0_1
 obtain ⟨aP, cP, yP, qP, sP⟩ := xRp g0_1;obtain ⟨z0_2, e0_2⟩ := xGQ (i := 2) hx0 (by decide);have g0_2 := (hg0 2 _ rfl).trans e0_2;have g0_2 : DataW.trod enc Tryz.prog W 0 (fun _ => true) true n0 24 ((cs0.drop 2).take 1) = some z0_2 := by rw [<- fcR_24]; exact g0_2
 obtain ⟨iK, xK, qK, sK⟩ := xWx (d := 20) (U := (.pair .i .i)) Tryz.underlying24 (by kernel_rfl) (by kernel_rfl) (by kernel_rfl) (by decide) D_1 g0_2;have q0 := parts [(0, 1), (1, 1), (2, 1)] (by decide) hlen0;simp only [List.map_cons, List.map_nil, List.flatten_cons, List.flatten_nil] at q0;rw [qL, qP, qK] at q0;have lt1 : ∀ x ∈ p1, x.block < W.heap.size := by obtain ⟨m, hm⟩ := h1; exact DataW.trod_lt m _ _ _ hm
 have k1 := h1;obtain ⟨⟨cs1⟩, rfl, hsz1⟩ := okWide_struct Tryz.underlying32 (hval 1 32 v1 rfl rfl);obtain ⟨m1, hf1⟩ := h1;have hf1 : DataW.trod enc Tryz.prog W 0 (fun _ => true) true m1 32 cs1 = some (d1, p1) := hf1;obtain ⟨xs1, n1, _, _, hlen1, hx1, hg1⟩ := DataW.trod_struct Tryz.underlying32 hf1;rw [fcR_32] at hlen1;obtain ⟨z1_0, e1_0⟩ := xGQ (i := 0) hx1 (by decide);have g1_0 := (hg1 0 _ rfl).trans e1_0;have g1_0 : DataW.trod enc Tryz.prog W 0 (fun _ => true) true n1 22 ((cs1.drop 0).take 1) = some z1_0 := by rw [<- fcR_22]; exact g1_0
 obtain ⟨iR, xR, qR, sR⟩ := xWx (d := 20) (U := C_1) Tryz.underlying22 (by kernel_rfl) (by kernel_rfl) (by kernel_rfl) (by decide) (TC.dflt C_1) g1_0;obtain ⟨z1_1, e1_1⟩ := xGQ (i := 1) hx1 (by decide);have g1_1 := (hg1 1 _ rfl).trans e1_1;have g1_1 : DataW.trod enc Tryz.prog W 0 (fun _ => true) true n1 28 ((cs1.drop 1).take 2) = some z1_1 := by rw [<- fcR_28]; exact g1_1
 obtain ⟨y1_1, r1_1, f1_1⟩ := xNc (d := 20) (U := (.pair .i .i)) (by kernel_rfl) (by kernel_rfl) g1_1;obtain ⟨z1_2, e1_2⟩ := xGQ (i := 2) hx1 (by decide);have g1_2 := (hg1 2 _ rfl).trans e1_2;have g1_2 : DataW.trod enc Tryz.prog W 0 (fun _ => true) true n1 30 ((cs1.drop 3).take 6) = some z1_2 := by rw [<- fcR_30]; exact g1_2
 obtain ⟨y1_2, r1_2, f1_2⟩ := xNc (d := 20) (U := C_0) (by kernel_rfl) (by kernel_rfl) g1_2;have q1 := parts [(0, 1), (1, 2), (3, 6)] (by decide) hlen1;simp only [List.map_cons, List.map_nil, List.flatten_cons, List.flatten_nil] at q1;rw [qR] at q1;clear hA0 hval0;have E0 := (DenL.app (show DenL [iL, iP aP cP yP, iK, iR, nilI, nilI, nilI, nilI, nilI, i7 yP] [.sl 0 9 0 none none] _ from ⟨_, [], rfl, sL.den rfl, rfl⟩) (DenL.app (show DenL [iL, iP aP cP yP, iK, iR, nilI, nilI, nilI, nilI, nilI, i7 yP] [.sl 1 1 0 none none] _ from ⟨_, [], rfl, sP.den rfl, rfl⟩) (DenL.app (show DenL [iL, iP aP cP yP, iK, iR, nilI, nilI, nilI, nilI, nilI, i7 yP] [.sl 2 2 0 none none] _ from ⟨_, [], rfl, sK.den rfl, rfl⟩) (show DenL [iL, iP aP cP yP, iK, iR, nilI, nilI, nilI, nilI, nilI, i7 yP] [] [] from rfl))));rw [<- q0] at E0;have E1 := (DenL.app (show DenL [iL, iP aP cP yP, iK, iR, nilI, nilI, nilI, nilI, nilI, i7 yP] [.sl 3 9 0 none none] _ from ⟨_, [], rfl, sR.den rfl, rfl⟩) (DenL.app (r1_1.mono (pre_nil [iL, iP aP cP yP, iK, iR, nilI, nilI, nilI, nilI, nilI, i7 yP])) (DenL.app (r1_2.mono (pre_nil [iL, iP aP cP yP, iK, iR, nilI, nilI, nilI, nilI, nilI, i7 yP])) (show DenL [iL, iP aP cP yP, iK, iR, nilI, nilI, nilI, nilI, nilI, i7 yP] [] [] from rfl))));rw [<- q1] at E1;obtain ⟨B, hlaw⟩ := xSB 5000 (by decide) (y1_1, y1_2) xL (pnum 0 yP) xK xR (yP.map PE.x1);have hu : ∀ (t : Nat) (j : Info), j ∈ ([iL, iP aP cP yP, iK, iR, nilI, nilI, nilI, nilI, nilI, i7 yP] : List Info) -> t ≠ 7 -> j.objs t = [] := by
  intro t j hj h7;simp only [List.mem_cons, List.not_mem_nil, or_false] at hj;rcases hj with rfl | rfl | rfl | rfl | rfl | rfl | rfl | rfl | rfl | rfl
  ·exact sL.objs t
  ·rfl
  ·exact sK.objs t
  ·exact sR.objs t
  ·exact xAx t
  ·exact xAx t
  ·exact xAx t
  ·exact xAx t
  ·exact xAx t
  ·exact xQg yP h7
 have hu7 : ∀ (j : Info), j ∈ ([iL, iP aP cP yP, iK, iR, nilI, nilI, nilI, nilI, nilI, i7 yP] : List Info) -> j.objs 7 = [] \/ j = i7 yP := by
  intro j hj;simp only [List.mem_cons, List.not_mem_nil, or_false] at hj;rcases hj with rfl | rfl | rfl | rfl | rfl | rfl | rfl | rfl | rfl | rfl
  ·exact .inl (sL.objs 7)
  ·exact .inl rfl
  ·exact .inl (sK.objs 7)
  ·exact .inl (sR.objs 7)
  ·exact .inl (xAx 7)
  ·exact .inl (xAx 7)
  ·exact .inl (xAx 7)
  ·exact .inl (xAx 7)
  ·exact .inl (xAx 7)
  ·exact .inr rfl
 refine (xRB (xSs 5000) ((y1_1, y1_2), (xL, (pnum 0 yP, (xK, (xR, ([], ([], ([], ([], ([], yP.map PE.x1)))))))))) (true, B) hlaw rfl [.agg ⟨cs0⟩, .agg ⟨cs1⟩] rfl W (by kernel_rfl) [iL, iP aP cP yP, iK, iR, nilI, nilI, nilI, nilI, nilI, i7 yP] (⟨⟨.agg ⟨cs0⟩, ⟨cs0, E0, rfl⟩, rfl⟩, ⟨.agg ⟨cs1⟩, ⟨cs1, E1, rfl⟩, rfl⟩, trivial⟩) (⟨_, _, rfl, .inl ⟨_, _, rfl⟩, sL.rootR, .inr (fun t _ => sL.objs t), (fun t ht => by cases ht), ⟨_, _, rfl, .inl ⟨_, _, rfl⟩, sP.root (p := 9) rfl, .inr (fun _ _ => rfl), (fun t ht => by cases ht), ⟨_, _, rfl, .inl ⟨_, _, rfl⟩, sK.rootR, .inr (fun t _ => sK.objs t), (fun t ht => by cases ht), ⟨_, _, rfl, .inl ⟨_, _, rfl⟩, sR.rootR, .inr (fun t _ => sR.objs t), (fun t ht => by cases ht), ⟨_, _, rfl, .inr (.inl ⟨by simp [Root.tag, RK.enc], rfl⟩), emR (by simp [Root.tag, RK.enc]) rfl, .inr (fun _ _ => xAx _), (fun t ht j hj => .inl (hu t j hj (by cases ht; decide))), ⟨_, _, rfl, .inr (.inl ⟨by simp [Root.tag, RK.enc], rfl⟩), emR (by simp [Root.tag, RK.enc]) rfl, .inr (fun _ _ => xAx _), (fun t ht j hj => .inl (hu t j hj (by cases ht; decide))), ⟨_, _, rfl, .inr (.inl ⟨by simp [Root.tag, RK.enc], rfl⟩), emR (by simp [Root.tag, RK.enc]) rfl, .inr (fun _ _ => xAx _), (fun t ht j hj => .inl (hu t j hj (by cases ht; decide))), ⟨_, _, rfl, .inr (.inl ⟨by simp [Root.tag, RK.enc], rfl⟩), emR (by simp [Root.tag, RK.enc]) rfl, .inr (fun _ _ => xAx _), (fun t ht j hj => .inl (hu t j hj (by cases ht; decide))), ⟨_, _, rfl, .inr (.inl ⟨by simp [Root.tag, RK.enc], rfl⟩), emR (by simp [Root.tag, RK.enc]) rfl, .inr (fun _ _ => xAx _), (fun t ht j hj => .inl (hu t j hj (by cases ht; decide))), ⟨_, _, rfl, .inr (.inr ⟨_, _, _, rfl⟩), sP.arr7, .inr (fun t ht => xQg yP (fun e => ht (by rw [e]; rfl))), (fun t ht j hj => by cases ht; exact hu7 j hj), rfl⟩⟩⟩⟩⟩⟩⟩⟩⟩⟩) ⟨xQj hlaid hso, gBlk_lt (xQj hlaid hso)⟩).mono fun e W' ⟨he, hE⟩ => ?_;have bel : Below W.heap.size W W' := Ex.below hE;subst he;exact ⟨_, rfl, _, _, _, [], _, [], hW', trodAll_mk1 (shut_bool Tryz.underlying4 _), (trodAll_cons_mk (Below.trod xP5 (by kernel_rfl) (of_decide_eq_true (by kernel_rfl)) k0 bel lt0) (trodAll_cons_mk (Below.trod xP5 (by kernel_rfl) (of_decide_eq_true (by kernel_rfl)) k1 bel lt1) trodAll_mk0)), rfl, bel.frame _, fun h => by cases h⟩
theorem xNQ : Rows.TopStoreSaid :=
 OpenClaim.holds_of_wide 3 Tryz.f3 rfl rfl rfl rfl rfl rfl rfl ⟨rfl, rfl, rfl, rfl, rfl⟩ rfl rfl rfl rfl rfl (by kernel_rfl) Tryz.func3 jclosed
  (of_decide_eq_true (by kernel_rfl)) (by unfold Func.isWrapper; first | (rw [if_pos (by decide +kernel)]; kernel_rfl) | (rw [if_neg (by decide +kernel)]; exact ⟨rfl, rfl⟩))
  (fun os started H enc _ => xKq os started H enc)
end
end Go.Proofs.YtnomnijhlbalaaaGreatDoor
