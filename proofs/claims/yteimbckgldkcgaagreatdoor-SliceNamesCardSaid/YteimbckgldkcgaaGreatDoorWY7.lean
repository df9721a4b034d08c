/- Code run on data inside a round of a range over a function. No condition. -/
import Derived.Test.YteimbckgldkcgaaGreatDoorWY3
import Derived.RangeFuncNested
import Derived.RangeFuncBound
import Derived.RangeFuncCalls
import Derived.RangeFuncLeaves
import Derived.LoopNIn
import Derived.TacticsIn
import Derived.OrdersIn
namespace Go.Proofs.YteimbckgldkcgaaGreatDoor
noncomputable section
open Go.RowKit
abbrev RFo (ro : Option Nat) : Fence := { Fence.wide with round := ro }
theorem calls_in {P : Program} {n : Nat} {f : FuncId} {args : Array Value} {w : World} {R : Ending → World → Prop} (ro : Option Nat) (h : Calls P f args w R) : CallsIn (RFo ro) n P f args w R := (callsIn_wide.2 h : CallsIn Fence.wide n P f args w R)
section
variable {P : Program} {N : Nat} {D : List Deferred} {S F : List Nat} {W0 : World} {ρ : List Info} {K : Slo} {h : List Root} {w : World} {a : Act} {o : Oper} {β : Type} {r : β} {call : CallF β} {ops : Array Oper} {ro : Option Nat} {n : Nat}
theorem semAt_val {ro : Option Nat} {e : Operand → Value} {x : Next} {w w' : World} (hx : ∀ d, x ≠ .defer d) (he : (execOp e o).run P w = .ok x w') : (o.semAt ro e).run P w = .ok x w' := by
  by_cases hd : ∃ c, o.op = .defer c
  · obtain ⟨c, hc⟩ := hd
    unfold execOp at he
    rw [hc] at he
    simp only [Sem.run_bind] at he
    cases hq : (resolve e c o.type).run P w with
    | ok d w2 =>
      rw [hq] at he
      simp only [Result.andThen_ok, Sem.run_pure] at he
      cases he
      exact absurd rfl (hx _)
    | halt _ _ => rw [hq] at he; cases he
  · rw [Oper.semAt_eq ro e o (fun c hc => hd ⟨c, hc⟩)]; exact he
theorem opGo_okIn (hcall : CallOk P call) (hK : KOk N D ρ K a) (hh : HOk S F W0 ρ h w) {k : Slo → List Root → Option β} (hr : opGo P N call K h o k = some r) {Q : Exit → Act → World → Prop} {next : Act → World → Prop} (hn : ∀ a' w', Behind P N D S F W0 ρ k r a' w' → next a' w') : o.wpIn (RFo ro) n P a w next Q := by
  refine ⟨fun _ _ => trivial, ?_⟩
  unfold opGo at hr
  have hv := stepV_ok (P := P) (o := o) hK hh
  split at hr
  · rename_i g v hs
    rw [hs] at hv
    obtain ⟨h1, h2⟩ := gds_some hr
    obtain ⟨u, h3, h4⟩ := hv h1
    rw [semAt_val (fun d hd => by cases hd) (h4 w (Agree.refl _ _ _ _)), Oper.uponIn_value]
    exact hn _ _ (opSet_ok hK hh h3 h2)
  · rename_i b x y hs
    rw [hs] at hv
    obtain ⟨u, h3, h4⟩ := hv
    rw [semAt_val (fun d hd => by cases hd) (h4 w (Agree.refl _ _ _ _)), Oper.uponIn_value]
    cases b with
    | true => exact hn _ _ (opSet_ok hK hh h3 hr)
    | false => exact hn _ _ (opSet_ok hK hh h3 hr)
  · have hm := stepM_ok (P := P) (o := o) hK hh
    split at hr
    · rename_i g v h' t hs
      rw [hs] at hm
      obtain ⟨h1, h2⟩ := gds_some hr
      obtain ⟨ρ', u, nx, w', B, q1, q2, q3, q4, q5, q6, q7, _, _⟩ := hm h1
      have := opSet_ok (P := P) (o := o) (hK.mono q1) q5 q2 h2
      rcases q3 with rfl | ⟨rfl, rfl⟩
      · rw [semAt_val (fun d hd => by cases hd) q4, Oper.uponIn_value]; exact hn _ _ (this.pre q1)
      · rw [semAt_val (fun d hd => by cases hd) q4, Oper.uponIn_skip]; exact hn _ _ (this.pre q1)
    · rename_i f args hs
      rw [hs] at hm
      obtain ⟨vs, q1, q2, q3⟩ := hm
      rw [semAt_val (fun d hd => by cases hd) q1, Oper.uponIn_enter]
      refine ⟨fun hd => by simp [RFo, Fence.wide] at hd, ?_⟩
      refine calls_in ro ((hcall f args h _ r hr S F W0 ρ w vs q3 hh q2).mono fun e w' he => ?_)
      obtain ⟨ρ', h', v, u, B, t, rfl, e1, e2, e3, e4, _⟩ := he
      exact hn _ _ ((opSet_ok (P := P) (o := o) (hK.mono e1) e3 e2 e4).pre e1)
    · cases hr
  · cases hr
theorem opStep_okIn (hcall : CallOk P call) (hK : KOk N D ρ K a) (hh : HOk S F W0 ρ h w) {k : Slo → List Root → Option β} (hr : opStep P N ops call K h o k = some r) {Q : Exit → Act → World → Prop} {next : Act → World → Prop} (hn : ∀ a' w', Behind P N D S F W0 ρ k r a' w' → next a' w') :
    if Region.wanted o (yielded ops a.tmps) then o.wpIn (RFo ro) n P a w next Q else (∀ f, o.about P w a.eval = some f → (RFo ro).fn f) ∧ next (a.put o.dst undef) w := by
  unfold opStep at hr
  split at hr
  · rename_i hg
    rw [if_pos (gdOf_go hK hg)]
    exact opGo_okIn hcall hK hh hr hn
  · rename_i hg
    rw [if_neg (by rw [gdOf_no hK hg]; simp)]
    exact ⟨fun _ _ => trivial, hn _ _ (opSet_ok (v := .un) (u := undef) hK hh rfl hr)⟩
  · rename_i t b want hg
    obtain ⟨h1, h2⟩ := gdOf_test hK hg
    cases b with
    | true =>
      simp only [cond_true] at hr
      have hK' := hK.bool h2 true rfl
      cases want with
      | true => rw [if_pos (by rw [h1]; rfl)]; exact opGo_okIn hcall hK' hh hr hn
      | false => rw [if_neg (by rw [h1]; simp)]; exact ⟨fun _ _ => trivial, hn _ _ (opSet_ok (v := .un) (u := undef) hK' hh rfl hr)⟩
    | false =>
      simp only [cond_false] at hr
      have hK' := hK.bool h2 false rfl
      cases want with
      | true => rw [if_neg (by rw [h1]; simp)]; exact ⟨fun _ _ => trivial, hn _ _ (opSet_ok (v := .un) (u := undef) hK' hh rfl hr)⟩
      | false => rw [if_pos (by rw [h1]; rfl)]; exact opGo_okIn hcall hK' hh hr hn
  · cases hr
theorem evOps_okIn (hcall : CallOk P call) {Q : Exit → Act → World → Prop} (rest : List Oper) : ∀ (os : List Oper) (ρ : List Info) (K : Slo) (h : List Root) (a : Act) (w : World) (k : Slo → List Root → Option β), evOps P N ops call os K h k = some r → KOk N D ρ K a → HOk S F W0 ρ h w →
    (∀ a' w', Behind P N D S F W0 ρ k r a' w' → wpListIn (RFo ro) n P ops Q rest a' w') → wpListIn (RFo ro) n P ops Q (os ++ rest) a w
  | [], ρ, K, h, a, w, k, hr, hK, hh, hn => hn a w ⟨ρ, K, h, Pre.refl _, hK, hh, hr⟩
  | o :: os, ρ, K, h, a, w, k, hr, hK, hh, hn => by
    have step := opStep_okIn (ops := ops) (o := o) (ro := ro) (n := n) hcall hK hh hr (Q := Q) (next := wpListIn (RFo ro) n P ops Q (os ++ rest)) (fun a' w' hb => by
      obtain ⟨ρ', K', h', h1, h2, h3, h4⟩ := hb
      exact evOps_okIn hcall rest os ρ' K' h' a' w' k h4 h2 h3 (fun a2 w2 hb2 => hn a2 w2 (hb2.pre h1)))
    show wpListIn (RFo ro) n P ops Q (o :: (os ++ rest)) a w
    unfold wpListIn
    exact step
end
/-! Regions that draw, within a round -/
def noDef (ops : Array Oper) : Bool := ops.toList.all fun o => match o.op with
  | .defer _ => false
  | _ => true
theorem noDef_ok {ops : Array Oper} (h : noDef ops = true) {i : Nat} {o : Oper} (ho : ops[i]? = some o) : ∀ c, o.op ≠ .defer c := fun c hc => by
  have := List.all_eq_true.1 h o (by simpa using Array.mem_of_getElem? ho)
  rw [hc] at this
  cases this
theorem wp_in {P : Program} {n : Nat} {ro : Option Nat} {o : Oper} {a : Act} {w : World} {next : Act → World → Prop} {Q : Exit → Act → World → Prop} (hd : ∀ c, o.op ≠ .defer c) (h : o.wp P a w next Q) : o.wpIn (RFo ro) n P a w next Q := by
  refine ⟨fun _ _ => trivial, ?_⟩
  show o.uponIn (RFo ro) n P a next Q ((o.semAt ro a.eval).run P w)
  rw [Oper.semAt_eq ro a.eval o (fun c hc => absurd hc (hd c))]
  unfold Oper.wp at h
  revert h
  cases (execOp a.eval o).run P w with
  | ok x w' =>
    cases x with
    | enter f args =>
      intro h
      exact ⟨(fun x => by cases x), calls_in ro h⟩
    | row r args =>
      intro h
      refine ⟨(fun x => by cases x), fun c cs _ => ?_⟩
      obtain ⟨v, w'', h1, h2⟩ := h c cs
      exact ⟨v, w'', h1, (stepsIn_wide.2 h2 : StepsIn (Machine.fenced P Fence.wide) P _ _)⟩
    | round l f tmps assign body => exact fun h => h.elim
    | value v => exact id
    | skip => exact id
    | defer d => exact id
    | _ => exact fun h => h.elim
  | halt x w' => cases x <;> exact id
theorem any_in {P : Program} {n : Nat} {ro : Option Nat} {md : Region.Mode} {ops : Array Oper} {Q : Exit → Act → World → Prop} (hQ : ¬ LetsOut Q) (hd : noDef ops = true) : ∀ (fuel : Nat) (listed : Array Bool) (a : Act) (w : World), wpAny P md ops Q fuel listed a w → wpAnyIn (RFo ro) n P md ops Q fuel listed a w
  | 0, _, _, _, h => h
  | fuel + 1, listed, a, w, h => by
    refine ⟨h.1, fun i hi => ?_⟩
    have h1 := h.2 i hi
    have ih := any_in (P := P) (n := n) (ro := ro) (md := md) hQ hd fuel (listed.setIfInBounds i true)
    unfold wpOp at h1
    unfold wpOpIn
    cases ho : ops[i]? with
    | none => rw [ho] at h1; exact ih _ _ h1
    | some o =>
      rw [ho] at h1
      dsimp only at h1 ⊢
      split
      · rename_i hw
        rw [if_pos hw] at h1
        rcases h1 with h1 | h1
        · exact Oper.wpIn_mono ih (wp_in (noDef_ok hd ho) h1)
        · exact absurd h1.2 hQ
      · rename_i hw
        rw [if_neg hw] at h1
        exact ⟨fun _ _ => trivial, ih _ _ h1⟩
theorem evDraw_okIn {P : Program} {N : Nat} {D : List Deferred} {S F : List Nat} {W0 : World} {β : Type} {r : β} {call : CallF β} {ops : Array Oper} {ro : Option Nat} {n : Nat} {k : Slo → List Root → Option β} {Q : Exit → Act → World → Prop} (hcall : CallOk P call) (hm : P.follows .mixedOrders = true) {t : PT} (hp : ptOk ops t = true) (hd : noDef ops = true) {ρ : List Info} {K : Slo} {h : List Root} {a : Act} {w : World} {id : Nat} (hr : evDraw P N ops call t K h k = some r) (hK : KOk N D ρ K a) (hh : HOk S F W0 ρ h w)
    (hn : ∀ (ρ' : List Info) (K' : Slo) (h' : List Root) (a' : Act) (w' : World), Pre ρ ρ' → k K' h' = some r → KOk N D ρ' K' a' → HOk S F W0 ρ' h' w' → Q .normal a' w') : (Code.region id ops true).wpIn (RFo ro) n P Q a w := by
  simp only [ptOk, Bool.and_eq_true] at hp
  obtain ⟨⟨hns, hu⟩, hp⟩ := hp
  refine Code.wpIn_mono (Q := Calm Q) (fun e a w q => by cases e <;> first | exact q | exact q.elim) ?_
  refine wpIn_region_any hm (any_in (fun ⟨_, _, h⟩ => h) hd _ _ _ _ (wpAny_of_G (G := []) _ _ _ _ ?_))
  have := tree_all (N := N) (S := S) (F := F) (W0 := W0) (Q := Q) (k := k) (r := r) hcall (Region.noSelect_spec hns) hu t (Array.replicate ops.size false) (Array.replicate ops.size false) [] [] [] ρ _ h a w.drew
    ⟨⟨by simp, by simp, fun j _ => by simp [inE]⟩, (fun j oj _ hl => by rw [getD_replicate_false] at hl; cases hl), (fun p hp => by cases hp), List.Pairwise.nil, hK.drop _, hh.drew, rfl, (fun p hp => by cases hp), fun j oj d hj hal hd _ => ?_⟩ hr hp hn
  · rw [Array.toList_replicate, cf_rep] at this
    exact this
  · rw [lkP_dropK, if_pos]
    exact List.mem_filterMap.2 ⟨oj, List.mem_filter.2 ⟨by simpa using Array.mem_of_getElem? hj, hal⟩, hd⟩
/-! Code without loops, without regions that draw -/
def evR (P : Program) (call : (β : Type) → CallF β) (N : Nat) : Nat → Code → (β : Type) → Slo → List Root → Kont β → Option β
  | 0, _, _, _, _, _ => none
  | d + 1, c, β, K, h, k => match c with
    | .skip => k .normal K h
    | .exit id => k (.exit id) K h
    | .ret => k .ret K h
    | .region _ ops false => evOps P N ops (call β) ops.toList K h (k .normal)
    | .region _ ops true => match planOf ops with
      | some t => bif noDef ops && ptOk ops t then evDraw P N ops (call β) t K h (k .normal) else none
      | none => none
    | .seq x y => evR P call N d x β K h (fun e K' h' => match e with
      | .normal => evR P call N d y β K' h' k
      | e => k e K' h')
    | .cond c x y => match evalP K c with
      | some (.c (.sc (.bool b))) => bif b then evR P call N d x β K h k else evR P call N d y β K h k
      | _ => none
    | .block id x => evR P call N d x β K h (fun e K' h' => match e with
      | .exit id' => bif Nat.beq id' id then k .normal K' h' else k (.exit id') K' h'
      | e => k e K' h')
    | .loop x => evLoop (fun K h k => evR P call N d x β K h k) 64 K h k
    | _ => none
abbrev EvOkIn (P : Program) (N n : Nat) (D : List Deferred) (ro : Option Nat) (β : Type) (body : Slo → List Root → Kont β → Option β) (c : Code) : Prop :=
  ∀ (K : Slo) (h : List Root) (k : Kont β) (r : β), body K h k = some r →
    ∀ (S F : List Nat) (W0 : World) (ρ : List Info) (a : Act) (w : World), KOk N D ρ K a → HOk S F W0 ρ h w → ∀ Q : Exit → Act → World → Prop,
    (∀ (e : XT) (ρ' : List Info) (K' : Slo) (h' : List Root) (a' : Act) (w' : World), Pre ρ ρ' → k e K' h' = some r → KOk N D ρ' K' a' → HOk S F W0 ρ' h' w' → Q e.out a' w') → c.wpIn (RFo ro) n P Q a w
theorem evLoop_okIn {P : Program} {N n : Nat} {D : List Deferred} {ro : Option Nat} {β : Type} {x : Code} {body : Slo → List Root → Kont β → Option β} (hb : EvOkIn P N n D ro β body x) : ∀ (i : Nat) (K : Slo) (h : List Root) (k : Kont β) (r : β), evLoop body i K h k = some r →
    ∀ (S F : List Nat) (W0 : World) (ρ : List Info) (a : Act) (w : World), KOk N D ρ K a → HOk S F W0 ρ h w → ∀ Q : Exit → Act → World → Prop,
    (∀ (e : XT) (ρ' : List Info) (K' : Slo) (h' : List Root) (a' : Act) (w' : World), Pre ρ ρ' → k e K' h' = some r → KOk N D ρ' K' a' → HOk S F W0 ρ' h' w' → Q e.out a' w') → Code.roundsIn (RFo ro) n P x Q i a w
  | 0, K, h, k, r, hr => by cases hr
  | i + 1, K, h, k, r, hr => fun S F W0 ρ a w hK hh Q hn => by
    refine hb K h _ r hr S F W0 ρ a w hK hh _ (fun e ρ' K' h' a' w' hp he hK' hh' => ?_)
    cases e with
    | normal => exact evLoop_okIn hb i K' h' k r he S F W0 ρ' a' w' hK' hh' Q (fun e ρ2 K2 h2 a2 w2 hp2 => hn e ρ2 K2 h2 a2 w2 (hp.trans hp2))
    | exit id => exact hn _ ρ' K' h' a' w' hp he hK' hh'
    | ret => exact hn _ ρ' K' h' a' w' hp he hK' hh'
theorem evR_ok {P : Program} {N n : Nat} {D : List Deferred} {ro : Option Nat} {call : (β : Type) → CallF β} (hcall : ∀ β, CallOk P (call β)) (hmx : P.follows .mixedOrders = true) : ∀ (d : Nat) (c : Code) (β : Type) (K : Slo) (h : List Root) (k : Kont β) (r : β), evR P call N d c β K h k = some r →
    ∀ (S F : List Nat) (W0 : World) (ρ : List Info) (a : Act) (w : World), KOk N D ρ K a → HOk S F W0 ρ h w → ∀ Q : Exit → Act → World → Prop,
    (∀ (e : XT) (ρ' : List Info) (K' : Slo) (h' : List Root) (a' : Act) (w' : World), Pre ρ ρ' → k e K' h' = some r → KOk N D ρ' K' a' → HOk S F W0 ρ' h' w' → Q e.out a' w') → c.wpIn (RFo ro) n P Q a w
  | 0, _, _, _, _, _, _, hr => by cases hr
  | d + 1, c, β, K, h, k, r, hr => fun S F W0 ρ a w hK hh Q hn => by
    cases c with
    | skip => exact wpIn_skip (hn .normal ρ K h a w (Pre.refl _) hr hK hh)
    | exit id => exact wpIn_exit (hn (.exit id) ρ K h a w (Pre.refl _) hr hK hh)
    | ret => exact wpIn_ret (hn .ret ρ K h a w (Pre.refl _) hr hK hh)
    | region id ops draw =>
      cases draw with
      | false =>
        refine wpIn_region_list ?_
        have := evOps_okIn (P := P) (N := N) (ops := ops) (S := S) (F := F) (W0 := W0) (r := r) (ro := ro) (n := n) (hcall β) (Q := Q) [] ops.toList ρ K h a w (k .normal) hr hK hh (fun a' w' hb => by
          obtain ⟨ρ', K', h', h1, h2, h3, h4⟩ := hb
          exact wpListIn_nil (hn .normal ρ' K' h' a' w' h1 h4 h2 h3))
        simpa using this
      | true =>
        simp only [evR] at hr
        split at hr
        · rename_i t ht
          cases hc : noDef ops && ptOk ops t with
          | false => rw [hc] at hr; cases hr
          | true =>
            rw [hc] at hr
            rw [Bool.and_eq_true] at hc
            exact evDraw_okIn (hcall β) hmx hc.2 hc.1 hr hK hh (fun ρ' K' h' a' w' h1 h2 h3 h4 => hn .normal ρ' K' h' a' w' h1 h2 h3 h4)
        · cases hr
    | seq x y =>
      refine wpIn_seq (evR_ok hcall hmx d x β K h _ r hr S F W0 ρ a w hK hh _ (fun e ρ' K' h' a' w' hp he hK' hh' => ?_))
      cases e with
      | normal => exact evR_ok hcall hmx d y β K' h' k r he S F W0 ρ' a' w' hK' hh' Q (fun e ρ2 K2 h2 a2 w2 hp2 => hn e ρ2 K2 h2 a2 w2 (hp.trans hp2))
      | exit id => exact hn _ ρ' K' h' a' w' hp he hK' hh'
      | ret => exact hn _ ρ' K' h' a' w' hp he hK' hh'
    | cond c x y =>
      simp only [evR] at hr
      split at hr
      · rename_i b hc
        have hb : a.eval c = .bool b := (evalP_ok hK hc).1
        cases b with
        | true => exact wpIn_cond_true hb (evR_ok hcall hmx d x β K h k r hr S F W0 ρ a w hK hh Q hn)
        | false => exact wpIn_cond_false hb (evR_ok hcall hmx d y β K h k r hr S F W0 ρ a w hK hh Q hn)
      · cases hr
    | block id x =>
      refine wpIn_block (evR_ok hcall hmx d x β K h _ r hr S F W0 ρ a w hK hh _ (fun e ρ' K' h' a' w' hp he hK' hh' => ?_))
      cases e with
      | normal => exact hn .normal ρ' K' h' a' w' hp he hK' hh'
      | exit id' =>
        show Exit.inBlock id Q (.exit id') a' w'
        dsimp only at he
        cases hb : Nat.beq id' id with
        | true =>
          rw [hb] at he
          have := Nat.eq_of_beq_eq_true hb
          subst this
          show (if id' = id' then Q .normal a' w' else Q (.exit id') a' w')
          rw [if_pos rfl]
          exact hn .normal ρ' K' h' a' w' hp he hK' hh'
        | false =>
          rw [hb] at he
          have hne := Nat.ne_of_beq_eq_false hb
          show (if id' = id then Q .normal a' w' else Q (.exit id') a' w')
          rw [if_neg hne]
          exact hn (.exit id') ρ' K' h' a' w' hp he hK' hh'
      | ret => exact hn .ret ρ' K' h' a' w' hp he hK' hh'
    | loop x => exact wpIn_loop_rounds 64 (evLoop_okIn (fun K h k r hr => evR_ok hcall hmx d x β K h k r hr) 64 K h k r hr S F W0 ρ a w hK hh Q hn)
    | rangeFunc f p x y => cases hr
    | scope x => cases hr
    | label l => cases hr
    | goto l => cases hr
    | refuse s => cases hr
end
end Go.Proofs.YteimbckgldkcgaaGreatDoor
