/- One of the texts behind TopMelts: an interpreter of the code on data, what the functions compute by it, and plain laws about that. No condition. -/
import Derived.Test.YtnomnijhlbalaaaGreatDoorWJF
set_option maxRecDepth 100000
namespace Go.Proofs.YtnomnijhlbalaaaGreatDoor
section
open Go.RowKit Go.Proofs Go.Proofs.YtnomnijhlbalaaaGreatDoor Go.ChangeShapes Go.WideShapes Go.ChangeAt Go.WideMaps Go.WideElems Go.Deep
theorem xFH {H : Type} {enc : TypeId × Value -> H} {a : Assume} {C : Checked} {os : Os} {f : FuncId} {fn : Func} {s : ChangeSpec} {conds : List PathCond} {apart fresh handsOn again : Bool} {X : World -> Array Value -> Prop}
  (hX : ∀ (w w' : World) (args : Array Value), w.heap = w'.heap -> X w args -> X w' args)
  (own : ownKnob C.prog.godebug = none) (started : os.Started) (noInit : C.prog.inits.idxOf? f = none) (hfn : C.prog.funcs[f]? = some fn)
  (witness : ∃ (w : World) (tape : Tape) (i : Input), w.os = os /\ (w.forCall tape i).Shaped C.prog /\ i.vars = [] /\ Input.okWide C.prog (w.forCall tape i) .any w.heap.size f i /\
   ((s.pre enc C.prog fn conds apart (w.forCall tape i).memory i.args /\ X (w.forCall tape i).memory i.args) /\ sizedMet enc C.prog fn (OpenSpec.ofChange s) apart (w.forCall tape i).memory i.args) /\ a.holds C.prog (lone (Frame.enter C.prog f i.args .normal) [] (w.forCall tape i)))
  (contract : ∀ (W : World) (base : Nat) (args : Array Value) (ds gs : List (DataW H)) (before : List MemPlace),
   (∀ (j : Nat) t v, fn.params[j]? = some t -> args[j]? = some v -> Value.okWide C.prog W .any base t v) ->
   DataW.Whole enc C.prog fn.params.toList s.vars apart W args.toList ds gs before ->
   conds.all (PathCond.test C.prog ⟨fn.params.toList, ds, s.plain.varTypes C.prog, gs⟩) = true ->
   (DataW.weightsEach C.prog (fn.params.toList ++ s.plain.varTypes C.prog) (ds ++ gs)).all (· <= reachBytes) = true -> W.ShapedOpen C.prog -> X W args ->
   a.holds C.prog (lone (Frame.enter C.prog f args .normal) [] W) ->
   Calls C.prog f args W fun e W' => ∃ v, e = .returned v /\ s.post enc C.prog fn apart fresh handsOn again W args v W') :
  ReturnsInHanded a C os f .any (fun w args => (s.pre enc C.prog fn conds apart w args /\ X w args) /\ sizedMet enc C.prog fn (OpenSpec.ofChange s) apart w args) (s.post enc C.prog fn apart fresh handsOn again) := by
 refine returnsInHanded_of_calls own started noInit witness ?_;intro w tape i _ hsh _ hok hpre hholds;obtain ⟨_, _, _, fn', hfn', _, _, _, _, hval⟩ := hok;have e : fn' = fn := Option.some.inj (hfn'.symm.trans hfn);subst e;obtain ⟨⟨⟨ds, gs, before, hw, hc⟩, hx⟩, hz⟩ := hpre;have hw' := DataW.Whole.of_heap (w' := w.forCall tape i) (by rfl) hw;refine (contract (w.forCall tape i) w.heap.size i.args ds gs before hval hw' hc (hz.weights hw) hsh (hX _ _ _ (by rfl) hx) hholds).mono fun e W' ⟨v, he, hp⟩ => ?_;subst he;exact ChangeSpec.post_blind hp
theorem u8_in {n : Int} (h : xX7 (.int .u8) n) : 0 <= n /\ n <= 255 := h
theorem u16_in {n : Int} (h : xX7 (.int .u16) n) : 0 <= n /\ n <= 65535 := h
theorem xZa : ownKnob Tryz.prog.godebug = none := by kernel_rfl
theorem xQ9 : laidOutB Tryz.prog = true := by kernel_rfl
set_option maxHeartbeats 1000000 in
theorem xLC (os : Os) (started : os.Started) (H : Type) (enc : TypeId × Value -> H) :
  ReturnsInHanded {} Tryz.checked os 4 .any (fun w args => (Rows.topMeltsSpec.pre enc Tryz.prog Tryz.f4 [] false w args /\ laidMetH Tryz.prog xVU w) /\ sizedMet enc Tryz.prog Tryz.f4 (OpenSpec.ofChange Rows.topMeltsSpec) false w args) (Rows.topMeltsSpec.post enc Tryz.prog Tryz.f4 false true false false) := by
 refine xFH (C := Tryz.checked) (X := fun w _ => laidMetH Tryz.prog xVU w) (fun _ _ _ hh h => h.of_heap hh) xZa started (by kernel_rfl) Tryz.func4
  (ChangeSpec.witness_shaped (enc := enc) (C := Tryz.checked) (os := os) (X := fun w _ => laidMetH Tryz.prog xVU w) false (World.laidAll Tryz.prog os xVU) #[.slice none 0 0, .agg #[.int .u8 0, .int .u16 0, .int .u8 0, .int .u8 0, .int .u8 0, .int .u8 0, .int .u8 0, .int .u8 0, .int .i64 0, .int .i64 0]] 64 (World.laidAll_os _ _ _) (World.shaped_of_ZipB (by kernel_rfl) (by kernel_rfl)) (by kernel_rfl) (by kernel_rfl) (by kernel_rfl) (by rw [MakeChecks.laidMetH_plain _ _ _ (by kernel_rfl)]; exact laidMet_laidAll _ (by kernel_rfl) (by kernel_rfl))) ?_
 intro W base args ds gs before hval0 hW _ _ hso hlaid _;have hval : ∀ (j : Nat) t v, Tryz.f4.params[j]? = some t -> args[j]? = some v -> Value.okWide Tryz.prog W .any base t v := hval0;have hW' := hW;obtain ⟨p, q, hA0, hV, rfl, hfz, hnd⟩ := hW;have hA : DataW.TrodAll enc Tryz.prog W 0 (fun _ => true) true Tryz.f4.params.toList args.toList ds p := hA0;rw [Tryz.params4] at hA hval;obtain ⟨v0, vs0, d0, ds0, p0, q0, hargs, rfl, rfl, h0, rest0⟩ := trodAll_cons hA;obtain ⟨v1, vs1, d1, ds1, p1, q1, rfl, rfl, rfl, h1, rest1⟩ := trodAll_cons rest0;obtain ⟨rfl, rfl, rfl⟩ := trodAll_nil rest1;obtain rfl : args = #[v0, v1] := by cases args; simp_all
 obtain ⟨rfl, rfl⟩ := trodVars_none hV;have lt0 : ∀ x ∈ p0, x.block < W.heap.size := by obtain ⟨m, hm⟩ := h0; exact DataW.trod_lt m _ _ _ hm
 have k0 := h0;obtain ⟨va0, vl0, vc0, rfl⟩ := okWide_slice Tryz.underlying69 (hval 0 69 v0 rfl rfl);obtain ⟨m0, hf0⟩ := h0;have hf0 : DataW.trod enc Tryz.prog W 0 (fun _ => true) true m0 69 [.slice va0 vl0 vc0] = some (d0, p0) := hf0;obtain ⟨i0, x0, q0, s0⟩ := sl_in (d := 20) (τ := C_2) Tryz.underlying69 (by kernel_rfl) (by kernel_rfl) (by kernel_rfl) (by decide) D_2 hf0;simp only [List.cons.injEq, Value.slice.injEq, and_true] at q0;obtain ⟨u0, w0, z0⟩ := q0;subst va0 vl0 vc0;have lt1 : ∀ x ∈ p1, x.block < W.heap.size := by obtain ⟨m, hm⟩ := h1; exact DataW.trod_lt m _ _ _ hm
 have k1 := h1;obtain ⟨y1, e1, f1⟩ := xSZ (d := 20) (τ := C_5) (by kernel_rfl) (by kernel_rfl) (hval 1 73 v1 rfl rfl) h1 Tryz.underlying73;clear hA0 hval0;obtain ⟨B, hlaw⟩ := xVd 4995 (by decide) y1 (u8_in f1.1) (u16_in f1.2.1) (u8_in f1.2.2.1.1) (u8_in f1.2.2.1.2.1) (u8_in f1.2.2.1.2.2) (u8_in f1.2.2.2.1.1) (u8_in f1.2.2.2.1.2.1) (u8_in f1.2.2.2.1.2.2) x0;refine (xST (xTR 5000) (y1, (x0, [], [], [], [], [])) (true, B) hlaw rfl [.slice i0.a x0.length i0.cap, v1] rfl W (by kernel_rfl) [i0, nilI, nilI, nilI, nilI, nilI] (⟨⟨.slice i0.a x0.length i0.cap, (show Den [i0, nilI, nilI, nilI, nilI, nilI] (.sl 0 (TC.w C_2) 0 none none) _ from s0.den rfl), rfl⟩, ⟨v1, DenB.mono (pre_nil _) e1, rfl⟩, trivial⟩) (⟨_, _, rfl, .inl ⟨_, _, rfl⟩, s0.root, s0.objs, xGq (h := [.aro 0 123 C_3 [], .arm 1 (.i .i64) false .bool [], .aro 2 236 C_1 [], .ars 3 77 C_2 [], .ars 4 244 C_4 []]) (by simp [Root.tag, Root.obs])⟩) ⟨xRG hlaid hso, gBlk_lt (xRG hlaid hso)⟩).mono fun e W' ⟨he, hE⟩ => ?_;have bel : Below W.heap.size W W' := Ex.below hE;subst he;exact ⟨_, rfl, _, _, _, [], _, [], hW', trodAll_mk1 (shut_bool Tryz.underlying4 _), (trodAll_cons_mk (Below.trod xQ9 (by kernel_rfl) (of_decide_eq_true (by kernel_rfl)) k0 bel lt0) (trodAll_cons_mk (Below.trod xQ9 (by kernel_rfl) (of_decide_eq_true (by kernel_rfl)) k1 bel lt1) trodAll_mk0)), rfl, bel.frame _, fun h => by cases h⟩
theorem xOY : Rows.TopMeltsSaid :=
 OpenClaim.holds_of_wide 4 Tryz.f4 rfl rfl rfl rfl rfl rfl rfl ⟨rfl, rfl, rfl, rfl, rfl⟩ rfl rfl rfl rfl rfl (by kernel_rfl) Tryz.func4 jclosed
  (of_decide_eq_true (by kernel_rfl)) (by unfold Func.isWrapper; first | (rw [if_pos (by decide +kernel)]; kernel_rfl) | (rw [if_neg (by decide +kernel)]; exact ⟨rfl, rfl⟩))
  (fun os started H enc _ => xLC os started H enc)
theorem tMelts_proved : Rows.TopMeltsCardSaid :=
 Claim7.holds_tied_plain_at .later [] [.data, .data, .data, .data, .data, .wider, .wider, .sentinel, .sentinel, .pinned] true (true, "371f034fdc29a5d40bdf42ad8ecd2e197e8946506dbeed1556088dd5c17a05e1") true
  xOY (fun _ h => by cases h) (by kernel_rfl) (fun _ h => by cases h) topMelts_row_tie rfl ⟨rfl, rfl⟩ (by kernel_rfl) rfl
  (fun f fn hf hfn => by
   obtain rfl : f = 4 := Option.some.inj ((show Tryz.prog.funcNamed "boule/bouletop.TopMelts" = some 4 by kernel_rfl).symm.trans hf) |>.symm;obtain rfl : fn = Tryz.f4 := (Option.some.inj (Tryz.func4.symm.trans hfn)).symm;exact ⟨by kernel_rfl, fun j t ht => by
    rw [Tryz.params4] at ht;have hm : t ∈ [69, 73] := by simpa using Array.mem_of_getElem? ht
    have hall : ([69, 73].all fun u => !Tryz.prog.wantsStandIn u) = true := by kernel_rfl
    exact (show Tryz.prog.wantsStandIn t = false by simpa using List.all_eq_true.1 hall t hm)⟩)
  (by kernel_rfl)
end
end Go.Proofs.YtnomnijhlbalaaaGreatDoor
