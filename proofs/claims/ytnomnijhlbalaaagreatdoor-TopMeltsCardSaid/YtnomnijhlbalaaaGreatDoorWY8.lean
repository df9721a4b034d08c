/- A part of the proof of the theorem of the last file. No condition. By an AI agent. -/
import Derived.Test.YtnomnijhlbalaaaGreatDoorWPLw
import Derived.RangeFuncNested
import Derived.RangeFuncBound
import Derived.RangeFuncCalls
import Derived.RangeFuncLeaves
import Derived.LoopNIn
import Derived.TacticsIn
import Derived.OrdersIn
namespace Go.Proofs.YtnomnijhlbalaaaGreatDoor
noncomputable section
open Go.RowKit
abbrev RFo (ro : Option Nat) : Fence := { Fence.wide with round := ro }
theorem xMw {P : Program} {n : Nat} {f : FuncId} {args : Array Value} {w : World} {R : Ending -> World -> Prop} (ro : Option Nat) (h : Calls P f args w R) : CallsIn (RFo ro) n P f args w R := (callsIn_wide.2 h : CallsIn Fence.wide n P f args w R)
section
variable {P : Program} {N : Nat} {D : List Deferred} {S F : List Nat} {W0 : World} {ρ : List Info} {K : Slo} {h : List Root} {w : World} {a : Act} {o : Oper} {β : Type} {r : β} {call : xAT β} {ops : Array Oper} {ro : Option Nat} {n : Nat}
theorem xDf {ro : Option Nat} {e : Operand -> Value} {x : Next} {w w' : World} (hx : ∀ d, x ≠ .defer d) (he : (execOp e o).run P w = .ok x w') : (o.semAt ro e).run P w = .ok x w' := by
 by_cases hd : ∃ c, o.op = .defer c
 ·obtain ⟨c, hc⟩ := hd;unfold execOp at he;rw [hc] at he;simp only [Sem.run_bind] at he
  cases hq : (resolve e c o.type).run P w with
  | ok d w2 =>
   rw [hq] at he;simp only [Result.andThen_ok, Sem.run_pure] at he;cases he;exact absurd rfl (hx _)
  | halt _ _ => rw [hq] at he; cases he
 ·rw [Oper.semAt_eq ro e o (fun c hc => hd ⟨c, hc⟩)]; exact he
theorem xIR (hcall : xAS P call) (hK : KOk N D ρ K a) (hh : HOk S F W0 ρ h w) {k : Slo -> List Root -> Option β} (hr : opGo P N call K h o k = some r) {Q : Exit -> Act -> World -> Prop} {next : Act -> World -> Prop} (hn : ∀ a' w', Behind P N D S F W0 ρ k r a' w' -> next a' w') : o.wpIn (RFo ro) n P a w next Q := by
 refine ⟨fun _ _ => trivial, ?_⟩;unfold opGo at hr;have hv := xHQ (P := P) (o := o) hK hh;split at hr
 ·rename_i g v hs;rw [hs] at hv;obtain ⟨h1, h2⟩ := xBH hr;obtain ⟨u, h3, h4⟩ := hv h1;rw [xDf (fun d hd => by cases hd) (h4 w (Agree.refl _ _ _ _)), Oper.uponIn_value];exact hn _ _ (xA9 hK hh h3 h2)
 ·rename_i b x y hs;rw [hs] at hv;obtain ⟨u, h3, h4⟩ := hv;rw [xDf (fun d hd => by cases hd) (h4 w (Agree.refl _ _ _ _)), Oper.uponIn_value]
  cases b with
  | true => exact hn _ _ (xA9 hK hh h3 hr)
  | false => exact hn _ _ (xA9 hK hh h3 hr)
 ·have hm := xLH (P := P) (o := o) hK hh;split at hr
  ·rename_i g v h' t hs;rw [hs] at hm;obtain ⟨h1, h2⟩ := xBH hr;obtain ⟨ρ', u, nx, w', B, q1, q2, q3, q4, q5, q6, q7, _, _⟩ := hm h1;have := xA9 (P := P) (o := o) (hK.mono q1) q5 q2 h2;rcases q3 with rfl | ⟨rfl, rfl⟩
   ·rw [xDf (fun d hd => by cases hd) q4, Oper.uponIn_value]; exact hn _ _ (this.pre q1)
   ·rw [xDf (fun d hd => by cases hd) q4, Oper.uponIn_skip]; exact hn _ _ (this.pre q1)
  ·rename_i f args hs;rw [hs] at hm;obtain ⟨vs, q1, q2, q3⟩ := hm;rw [xDf (fun d hd => by cases hd) q1, Oper.uponIn_enter];refine ⟨fun hd => by simp [RFo, Fence.wide] at hd, ?_⟩;refine xMw ro ((hcall f args h _ r hr S F W0 ρ w vs q3 hh q2).mono fun e w' he => ?_);obtain ⟨ρ', h', v, u, B, t, rfl, e1, e2, e3, e4, _⟩ := he;exact hn _ _ ((xA9 (P := P) (o := o) (hK.mono e1) e3 e2 e4).pre e1)
  ·cases hr
 ·cases hr
theorem xPn (hcall : xAS P call) (hK : KOk N D ρ K a) (hh : HOk S F W0 ρ h w) {k : Slo -> List Root -> Option β} (hr : xNB P N ops call K h o k = some r) {Q : Exit -> Act -> World -> Prop} {next : Act -> World -> Prop} (hn : ∀ a' w', Behind P N D S F W0 ρ k r a' w' -> next a' w') :
  if Region.wanted o (yielded ops a.tmps) then o.wpIn (RFo ro) n P a w next Q else (∀ f, o.about P w a.eval = some f -> (RFo ro).fn f) /\ next (a.put o.dst undef) w := by
 unfold xNB at hr;split at hr
 ·rename_i hg;rw [if_pos (xMj hK hg)];exact xIR hcall hK hh hr hn
 ·rename_i hg;rw [if_neg (by rw [xMi hK hg]; simp)];exact ⟨fun _ _ => trivial, hn _ _ (xA9 (v := .un) (u := undef) hK hh rfl hr)⟩
 ·rename_i t b want hg;obtain ⟨h1, h2⟩ := xF5 hK hg
  cases b with
  | true =>
   simp only [cond_true] at hr;have hK' := hK.bool h2 true rfl
   cases want with
   | true => rw [if_pos (by rw [h1]; rfl)]; exact xIR hcall hK' hh hr hn
   | false => rw [if_neg (by rw [h1]; simp)]; exact ⟨fun _ _ => trivial, hn _ _ (xA9 (v := .un) (u := undef) hK' hh rfl hr)⟩
  | false =>
   simp only [cond_false] at hr;have hK' := hK.bool h2 false rfl
   cases want with
   | true => rw [if_neg (by rw [h1]; simp)]; exact ⟨fun _ _ => trivial, hn _ _ (xA9 (v := .un) (u := undef) hK' hh rfl hr)⟩
   | false => rw [if_pos (by rw [h1]; rfl)]; exact xIR hcall hK' hh hr hn
 ·cases hr
theorem xDp (hcall : xAS P call) {Q : Exit -> Act -> World -> Prop} (rest : List Oper) : ∀ (os : List Oper) (ρ : List Info) (K : Slo) (h : List Root) (a : Act) (w : World) (k : Slo -> List Root -> Option β), xFe P N ops call os K h k = some r -> KOk N D ρ K a -> HOk S F W0 ρ h w ->
  (∀ a' w', Behind P N D S F W0 ρ k r a' w' -> wpListIn (RFo ro) n P ops Q rest a' w') -> wpListIn (RFo ro) n P ops Q (os ++ rest) a w
 | [], ρ, K, h, a, w, k, hr, hK, hh, hn => hn a w ⟨ρ, K, h, Pre.refl _, hK, hh, hr⟩
 | o :: os, ρ, K, h, a, w, k, hr, hK, hh, hn => by
  have step := xPn (ops := ops) (o := o) (ro := ro) (n := n) hcall hK hh hr (Q := Q) (next := wpListIn (RFo ro) n P ops Q (os ++ rest)) (fun a' w' hb => by
   obtain ⟨ρ', K', h', h1, h2, h3, h4⟩ := hb;exact xDp hcall rest os ρ' K' h' a' w' k h4 h2 h3 (fun a2 w2 hb2 => hn a2 w2 (hb2.pre h1)))
  show wpListIn (RFo ro) n P ops Q (o :: (os ++ rest)) a w;unfold wpListIn;exact step
end
def xU0 (ops : Array Oper) : Bool := ops.toList.all fun o => match o.op with
 | .defer _ => false
 | _ => true
theorem xZe {ops : Array Oper} (h : xU0 ops = true) {i : Nat} {o : Oper} (ho : ops[i]? = some o) : ∀ c, o.op ≠ .defer c := fun c hc => by
 have := List.all_eq_true.1 h o (by simpa using Array.mem_of_getElem? ho);rw [hc] at this;cases this
theorem wp_in {P : Program} {n : Nat} {ro : Option Nat} {o : Oper} {a : Act} {w : World} {next : Act -> World -> Prop} {Q : Exit -> Act -> World -> Prop} (hd : ∀ c, o.op ≠ .defer c) (h : o.wp P a w next Q) : o.wpIn (RFo ro) n P a w next Q := by
 refine ⟨fun _ _ => trivial, ?_⟩;show o.uponIn (RFo ro) n P a next Q ((o.semAt ro a.eval).run P w)
 rw [Oper.semAt_eq ro a.eval o (fun c hc => absurd hc (hd c))];unfold Oper.wp at h;revert h
 cases (execOp a.eval o).run P w with
 | ok x w' =>
  cases x with
  | enter f args =>
   intro h;exact ⟨(fun x => by cases x), xMw ro h⟩
  | row r args =>
   intro h;refine ⟨(fun x => by cases x), fun c cs _ => ?_⟩;obtain ⟨v, w'', h1, h2⟩ := h c cs;exact ⟨v, w'', h1, (stepsIn_wide.2 h2 : StepsIn (Machine.fenced P Fence.wide) P _ _)⟩
  | round l f tmps assign body => exact fun h => h.elim
  | value v => exact id
  | skip => exact id
  | defer d => exact id
  | _ => exact fun h => h.elim
 | halt x w' => cases x <;> exact id
theorem any_in {P : Program} {n : Nat} {ro : Option Nat} {md : Region.Mode} {ops : Array Oper} {Q : Exit -> Act -> World -> Prop} (hQ : ¬ LetsOut Q) (hd : xU0 ops = true) : ∀ (fuel : Nat) (listed : Array Bool) (a : Act) (w : World), wpAny P md ops Q fuel listed a w -> wpAnyIn (RFo ro) n P md ops Q fuel listed a w
 | 0, _, _, _, h => h
 | fuel + 1, listed, a, w, h => by
  refine ⟨h.1, fun i hi => ?_⟩;have h1 := h.2 i hi;have ih := any_in (P := P) (n := n) (ro := ro) (md := md) hQ hd fuel (listed.setIfInBounds i true);unfold wpOp at h1;unfold wpOpIn
  cases ho : ops[i]? with
  | none => rw [ho] at h1; exact ih _ _ h1
  | some o =>
   rw [ho] at h1;dsimp only at h1 ⊢;split
   ·rename_i hw;rw [if_pos hw] at h1;rcases h1 with h1 | h1
    ·exact Oper.wpIn_mono ih (wp_in (xZe hd ho) h1)
    ·exact absurd h1.2 hQ
   ·rename_i hw;rw [if_neg hw] at h1;exact ⟨fun _ _ => trivial, ih _ _ h1⟩
theorem xPM {P : Program} {N : Nat} {D : List Deferred} {S F : List Nat} {W0 : World} {β : Type} {r : β} {call : xAT β} {ops : Array Oper} {ro : Option Nat} {n : Nat} {k : Slo -> List Root -> Option β} {Q : Exit -> Act -> World -> Prop} (hcall : xAS P call) (hm : P.follows .mixedOrders = true) {t : PT} (hp : xKh ops t = true) (hd : xU0 ops = true) {ρ : List Info} {K : Slo} {h : List Root} {a : Act} {w : World} {id : Nat} (hr : xFg P N ops call t K h k = some r) (hK : KOk N D ρ K a) (hh : HOk S F W0 ρ h w)
  (hn : ∀ (ρ' : List Info) (K' : Slo) (h' : List Root) (a' : Act) (w' : World), Pre ρ ρ' -> k K' h' = some r -> KOk N D ρ' K' a' -> HOk S F W0 ρ' h' w' -> Q .normal a' w') : (Code.region id ops true).wpIn (RFo ro) n P Q a w := by
 simp only [xKh, Bool.and_eq_true] at hp;obtain ⟨⟨hns, hu⟩, hp⟩ := hp;refine Code.wpIn_mono (Q := Calm Q) (fun e a w q => by cases e <;> first | exact q | exact q.elim) ?_
 refine wpIn_region_any hm (any_in (fun ⟨_, _, h⟩ => h) hd _ _ _ _ (xGi (G := []) _ _ _ _ ?_));have := xHM (N := N) (S := S) (F := F) (W0 := W0) (Q := Q) (k := k) (r := r) hcall (Region.noSelect_spec hns) hu t (Array.replicate ops.size false) (Array.replicate ops.size false) [] [] [] ρ _ h a w.drew
  ⟨⟨by simp, by simp, fun j _ => by simp [inE]⟩, (fun j oj _ hl => by rw [getD_replicate_false] at hl; cases hl), (fun p hp => by cases hp), List.Pairwise.nil, hK.drop _, hh.drew, rfl, (fun p hp => by cases hp), fun j oj d hj hal hd _ => ?_⟩ hr hp hn
 ·rw [Array.toList_replicate, xXt] at this;exact this
 ·rw [xFQ, if_pos];exact List.mem_filterMap.2 ⟨oj, List.mem_filter.2 ⟨by simpa using Array.mem_of_getElem? hj, hal⟩, hd⟩
def evR (P : Program) (call : (β : Type) -> xAT β) (N : Nat) : Nat -> Code -> (β : Type) -> Slo -> List Root -> xFn β -> Option β
 | 0, _, _, _, _, _ => none
 | d + 1, c, β, K, h, k => match c with
  | .skip => k .normal K h
  | .exit id => k (.exit id) K h
  | .ret => k .ret K h
  | .region _ ops false => xFe P N ops (call β) ops.toList K h (k .normal)
  | .region _ ops true => match planOf ops with
   | some t => bif xU0 ops && xKh ops t then xFg P N ops (call β) t K h (k .normal) else none
   | none => none
  | .seq x y => evR P call N d x β K h (fun e K' h' => match e with
   | .normal => evR P call N d y β K' h' k
   | e => k e K' h')
  | .cond c x y => match xAv K c with
   | some (.c (.sc (.bool b))) => bif b then evR P call N d x β K h k else evR P call N d y β K h k
   | _ => none
  | .block id x => evR P call N d x β K h (fun e K' h' => match e with
   | .exit id' => bif Nat.beq id' id then k .normal K' h' else k (.exit id') K' h'
   | e => k e K' h')
  | .loop x => xOw (fun K h k => evR P call N d x β K h k) 64 K h k
  | _ => none
abbrev EvOkIn (P : Program) (N n : Nat) (D : List Deferred) (ro : Option Nat) (β : Type) (body : Slo -> List Root -> xFn β -> Option β) (c : Code) : Prop :=
 ∀ (K : Slo) (h : List Root) (k : xFn β) (r : β), body K h k = some r ->
  ∀ (S F : List Nat) (W0 : World) (ρ : List Info) (a : Act) (w : World), KOk N D ρ K a -> HOk S F W0 ρ h w -> ∀ Q : Exit -> Act -> World -> Prop,
  (∀ (e : XT) (ρ' : List Info) (K' : Slo) (h' : List Root) (a' : Act) (w' : World), Pre ρ ρ' -> k e K' h' = some r -> KOk N D ρ' K' a' -> HOk S F W0 ρ' h' w' -> Q e.out a' w') -> c.wpIn (RFo ro) n P Q a w
theorem xJN {P : Program} {N n : Nat} {D : List Deferred} {ro : Option Nat} {β : Type} {x : Code} {body : Slo -> List Root -> xFn β -> Option β} (hb : EvOkIn P N n D ro β body x) : ∀ (i : Nat) (K : Slo) (h : List Root) (k : xFn β) (r : β), xOw body i K h k = some r ->
  ∀ (S F : List Nat) (W0 : World) (ρ : List Info) (a : Act) (w : World), KOk N D ρ K a -> HOk S F W0 ρ h w -> ∀ Q : Exit -> Act -> World -> Prop,
  (∀ (e : XT) (ρ' : List Info) (K' : Slo) (h' : List Root) (a' : Act) (w' : World), Pre ρ ρ' -> k e K' h' = some r -> KOk N D ρ' K' a' -> HOk S F W0 ρ' h' w' -> Q e.out a' w') -> Code.roundsIn (RFo ro) n P x Q i a w
 | 0, K, h, k, r, hr => by cases hr
 | i + 1, K, h, k, r, hr => fun S F W0 ρ a w hK hh Q hn => by
  refine hb K h _ r hr S F W0 ρ a w hK hh _ (fun e ρ' K' h' a' w' hp he hK' hh' => ?_)
  cases e with
  | normal => exact xJN hb i K' h' k r he S F W0 ρ' a' w' hK' hh' Q (fun e ρ2 K2 h2 a2 w2 hp2 => hn e ρ2 K2 h2 a2 w2 (hp.trans hp2))
  | exit id => exact hn _ ρ' K' h' a' w' hp he hK' hh'
  | ret => exact hn _ ρ' K' h' a' w' hp he hK' hh'
theorem xHq {P : Program} {N n : Nat} {D : List Deferred} {ro : Option Nat} {call : (β : Type) -> xAT β} (hcall : ∀ β, xAS P (call β)) (hmx : P.follows .mixedOrders = true) : ∀ (d : Nat) (c : Code) (β : Type) (K : Slo) (h : List Root) (k : xFn β) (r : β), evR P call N d c β K h k = some r ->
  ∀ (S F : List Nat) (W0 : World) (ρ : List Info) (a : Act) (w : World), KOk N D ρ K a -> HOk S F W0 ρ h w -> ∀ Q : Exit -> Act -> World -> Prop,
  (∀ (e : XT) (ρ' : List Info) (K' : Slo) (h' : List Root) (a' : Act) (w' : World), Pre ρ ρ' -> k e K' h' = some r -> KOk N D ρ' K' a' -> HOk S F W0 ρ' h' w' -> Q e.out a' w') -> c.wpIn (RFo ro) n P Q a w
 | 0, _, _, _, _, _, _, hr => by cases hr
 | d + 1, c, β, K, h, k, r, hr => fun S F W0 ρ a w hK hh Q hn => by
  cases c with
  | skip => exact wpIn_skip (hn .normal ρ K h a w (Pre.refl _) hr hK hh)
  | exit id => exact wpIn_exit (hn (.exit id) ρ K h a w (Pre.refl _) hr hK hh)
  | ret => exact wpIn_ret (hn .ret ρ K h a w (Pre.refl _) hr hK hh)
  | region id ops draw =>
   cases draw with
   | false =>
    refine wpIn_region_list ?_;have := xDp (P := P) (N := N) (ops := ops) (S := S) (F := F) (W0 := W0) (r := r) (ro := ro) (n := n) (hcall β) (Q := Q) [] ops.toList ρ K h a w (k .normal) hr hK hh (fun a' w' hb => by
     obtain ⟨ρ', K', h', h1, h2, h3, h4⟩ := hb;exact wpListIn_nil (hn .normal ρ' K' h' a' w' h1 h4 h2 h3))
    simpa using this
   | true =>
    simp only [evR] at hr;split at hr
    ·rename_i t ht
     cases hc : xU0 ops && xKh ops t with
     | false => rw [hc] at hr; cases hr
     | true =>
      rw [hc] at hr;rw [Bool.and_eq_true] at hc;exact xPM (hcall β) hmx hc.2 hc.1 hr hK hh (fun ρ' K' h' a' w' h1 h2 h3 h4 => hn .normal ρ' K' h' a' w' h1 h2 h3 h4)
    ·cases hr
  | seq x y =>
   refine wpIn_seq (xHq hcall hmx d x β K h _ r hr S F W0 ρ a w hK hh _ (fun e ρ' K' h' a' w' hp he hK' hh' => ?_))
   cases e with
   | normal => exact xHq hcall hmx d y β K' h' k r he S F W0 ρ' a' w' hK' hh' Q (fun e ρ2 K2 h2 a2 w2 hp2 => hn e ρ2 K2 h2 a2 w2 (hp.trans hp2))
   | exit id => exact hn _ ρ' K' h' a' w' hp he hK' hh'
   | ret => exact hn _ ρ' K' h' a' w' hp he hK' hh'
  | cond c x y =>
   simp only [evR] at hr;split at hr
   ·rename_i b hc;have hb : a.eval c = .bool b := (xAa hK hc).1
    cases b with
    | true => exact wpIn_cond_true hb (xHq hcall hmx d x β K h k r hr S F W0 ρ a w hK hh Q hn)
    | false => exact wpIn_cond_false hb (xHq hcall hmx d y β K h k r hr S F W0 ρ a w hK hh Q hn)
   ·cases hr
  | block id x =>
   refine wpIn_block (xHq hcall hmx d x β K h _ r hr S F W0 ρ a w hK hh _ (fun e ρ' K' h' a' w' hp he hK' hh' => ?_))
   cases e with
   | normal => exact hn .normal ρ' K' h' a' w' hp he hK' hh'
   | exit id' =>
    show Exit.inBlock id Q (.exit id') a' w';dsimp only at he
    cases hb : Nat.beq id' id with
    | true =>
     rw [hb] at he;have := nbT hb;subst this;show (if id' = id' then Q .normal a' w' else Q (.exit id') a' w');rw [if_pos rfl];exact hn .normal ρ' K' h' a' w' hp he hK' hh'
    | false =>
     rw [hb] at he;have hne := Nat.ne_of_beq_eq_false hb;show (if id' = id then Q .normal a' w' else Q (.exit id') a' w');rw [if_neg hne];exact hn (.exit id') ρ' K' h' a' w' hp he hK' hh'
   | ret => exact hn .ret ρ' K' h' a' w' hp he hK' hh'
  | loop x => exact wpIn_loop_rounds 64 (xJN (fun K h k r hr => xHq hcall hmx d x β K h k r hr) 64 K h k r hr S F W0 ρ a w hK hh Q hn)
  | rangeFunc f p x y => cases hr
  | scope x => cases hr
  | label l => cases hr
  | goto l => cases hr
  | refuse s => cases hr
end
noncomputable section
open Go.RowKit
section
variable {P : Program} {N n : Nat} {D : List Deferred} {S F : List Nat} {W0 B : World} {ρ ρ' : List Info} {K : Slo} {h h' : List Root} {w w' : World} {a : Act}
theorem HOk.base (hh : HOk S F B ρ h w) (hE : Ext W0 B) (hl : gOk W0) (ho : ∀ b ∈ xJw, b < W0.heap.size /\ b ∉ S) : HOk S F W0 ρ h w :=
 ⟨(hE.ex S).trans hh.ext, hh.len, hh.ok, hh.sep, fun p r i b x y z => (hh.mine p r i b x y z).imp (fun h => Nat.le_trans hE.size h) id, fun p r i b x y z => (hh.near p r i b x y z).imp (fun h => Nat.le_trans hE.size h) id, hl, ho, hh.cov, hh.cln⟩
theorem HOk.kept (hh : HOk S F W0 ρ h w) {l : Nat} {o : Obj} (hl : W0.heap[l]? = some o) (hs : l ∉ S) : w.heap[l]? = some o := hh.ext.heap hs hl
theorem KOk.setIf (hK : KOk N D ρ K a) {t : Nat} {p : PV} {v : Value} (hv : DenP ρ p v) {K' : Slo} (hs : xHT N K (some t) p = some K') : KOk N D ρ K' { a with tmps := a.tmps.setIfInBounds t v } := xFI hK hv hs
def xNg (N : Nat) : List (Nat × PV) -> Slo -> Option Slo
 | [], K => some K
 | (t, p) :: l, K => match xHT N K (some t) p with
  | some K' => xNg N l K'
  | none => none
theorem xNf : ∀ {ps : List Nat} {args : List PV} {vs : List Value} {K K' : Slo} {a : Act}, xNg N (ps.zip args) K = some K' -> DenArgs ρ args vs -> ps.length = args.length -> KOk N D ρ K a -> KOk N D ρ K' { a with tmps := (ps.zip vs).foldl (fun t (p : Nat × Value) => t.setIfInBounds p.1 p.2) a.tmps }
 | [], args, vs, K, K', a, hs, ha, _, hK => by
  simp only [List.zip_nil_left, xNg, Option.some.injEq] at hs;subst hs;simpa using hK
 | t :: ps, [], _, _, _, _, _, _, hl, _ => by simp at hl
 | t :: ps, p :: args, vs, K, K', a, hs, ⟨v, r, e, h1, h2⟩, hl, hK => by
  subst e;simp only [List.zip_cons_cons, xNg] at hs;split at hs
  ·rename_i K1 hK1;have := xNf (ps := ps) hs h2 (by simpa using hl) (hK.setIf h1 hK1);simpa using this
  ·cases hs
end
def rnd (P : Program) (call : (β : Type) -> xAT β) (N : Nat) (ps : List Nat) (as1 bd : Code) (Kc : Slo) (β : Type) (args : List PV) (h : List Root) (k : Option XT -> List Root -> Option β) : Option β :=
 bif Nat.beq ps.length args.length then match xNg N (ps.zip args) Kc with
  | some K => evR P call N 300 as1 β K h (fun e K' h' => match e with
   | .normal => evR P call N 300 bd β K' h' (fun e2 _ h2 => match e2 with
    | .normal => k none h2
    | e2 => k (some e2) h2)
   | _ => none)
  | none => none
 else none
def XT.code : XT -> Code
 | .normal => .skip
 | .exit id => .exit id
 | .ret => .ret
def xE3 (r : Loop) (p : Option XT) : Loop := { r with state := if p.isNone then .ready else .done, pending := p.map XT.code }
structure Recs (l : Nat) (r : Loop) (B : Option XT -> World) : Prop where
 ready : r.state = .ready
 pend : r.pending = none
 at' : ∀ p, (B p).heap[l]? = some (.loop (xE3 r p))
 ex : ∀ p q, Ex [l] (B p) (B q)
 size : ∀ p q, (B p).heap.size = (B q).heap.size
theorem xEq {r : Loop} (h1 : r.state = .ready) (h2 : r.pending = none) : xE3 r none = r := by
 obtain ⟨⟩ := r;simp only at h1 h2;subst h1; subst h2;rfl
section
variable {P : Program} {n : Nat} {S F : List Nat}
theorem rnd_ok {call : (β : Type) -> xAT β} (hcall : ∀ β, xAS P (call β)) (hmx : P.follows .mixedOrders = true) {N l : Nat} {r : Loop} {B : Option XT -> World} (hR : Recs l r B) (hS : l ∉ S) {ps : List Nat} {as1 bd : Code} {Kc : Slo} (hps : r.params = ps.toArray) (has : r.assign = as1) (hbd : r.body = bd) {ρ0 : List Info} (hKc : KOk N [] ρ0 Kc { tmps := r.tmps, defers := [] })
  {β : Type} {args : List PV} {h : List Root} {k : Option XT -> List Root -> Option β} {x : β} (hr : rnd P call N ps as1 bd Kc β args h k = some x) {ρ : List Info} (hρ : Pre ρ0 ρ) {vs : List Value} (hvs : DenArgs ρ args vs) {W : World} (hh : HOk S F (B none) ρ h W) :
  YieldAt Fence.wide n P l vs.toArray W (fun e w' => ∃ p ρ' h', e = .returned (.bool p.isNone) /\ Pre ρ ρ' /\ HOk S F (B p) ρ' h' w' /\ k p h' = some x) := by
 unfold rnd at hr
 cases hb : Nat.beq ps.length args.length with
 | false => rw [hb] at hr; cases hr
 | true =>
  rw [hb] at hr;simp only [cond_true] at hr;have hlen := nbT hb;split at hr
  ·rename_i K1 hK1;have hl : W.heap[l]? = some (.loop r) := by
    have := hh.kept (hR.at' none) hS;rwa [xEq hR.ready hR.pend] at this
   have hvl : vs.length = args.length := hvs.len;have hy := run_yield (P := P) (args := vs.toArray) hl (by rw [hps]; simpa using (hvl.trans hlen.symm));rw [has, hbd] at hy;refine ⟨_, _, as1, bd, hy, roundIn_of_wpIn trivial ?_⟩;have hK2 : KOk N [] ρ K1 { tmps := (r.params.zip vs.toArray).foldl (fun t (p : Nat × Value) => t.setIfInBounds p.1 p.2) r.tmps, defers := [] } := by
    have := xNf hK1 hvs hlen (hKc.mono hρ);rw [hps];simpa using this
   refine xHq (ro := some l) (n := n) hcall hmx 300 as1 β K1 h _ x hr S F (B none) ρ _ W hK2 hh _ (fun e ρ' K' h' a' w' hp he hK' hh' => ?_)
   cases e with
   | normal =>
    dsimp only at he;have hl1 : w'.heap[l]? = some (.loop r) := by
     have := hh'.kept (hR.at' none) hS;rwa [xEq hR.ready hR.pend] at this
    refine ⟨_, run_beginRound hl1 hR.ready, ?_⟩
    have hBn := hR.at' none;rw [xEq hR.ready hR.pend] at hBn;have hBlt := lt_of_block hBn;have hh2 : HOk S F ((B none).putObj l (.loop { r with state := .busy })) ρ' h' (w'.putObj l (.loop { r with state := .busy })) :=
     hh'.putObj hl1 rfl ⟨rfl, rfl, rfl, by simp, fun k _ hk => World.putObj_heap_other (by simpa using hk)⟩ (by simp) (World.putObj_heap_same hBlt)
    refine xHq (ro := some l) (n := n) hcall hmx 300 bd β K' h' _ x he S F _ ρ' a' _ hK' hh2 _ (fun e2 ρ2 K2 h2 a2 w2 hp2 he2 _ hh3 => ?_);have hl3 : w2.heap[l]? = some (.loop { r with state := .busy }) := hh3.kept (World.putObj_heap_same hBlt) hS;have fin : ∀ p : Option XT, HOk S F (B p) ρ2 h2 (w2.putObj l (.loop (xE3 r p))) := fun p =>
     hh3.putObj hl3 rfl (by
      have hx := hR.ex none p;refine ⟨hx.os, hx.tape, hx.output, by rw [World.putObj_size]; exact hx.size, fun k hk hkl => ?_⟩;rw [World.putObj_heap_other (by simpa using hkl)];exact hx.block k (by simpa using hk) hkl) (by rw [World.putObj_size]; exact hR.size p none) (hR.at' p)
    cases e2 with
    | normal =>
     have hend := run_endRound (P := P) none hl3;refine ⟨_, _, hend, none, ρ2, h2, rfl, hp.trans hp2, ?_, he2⟩;have := fin none;simpa [xE3] using this
    | exit id =>
     have hend := run_endRound (P := P) (some (.exit id)) hl3;refine ⟨_, _, hend, some (.exit id), ρ2, h2, rfl, hp.trans hp2, ?_, he2⟩;have := fin (some (.exit id));simpa [xE3, XT.code] using this
    | ret =>
     have hend := run_endRound (P := P) (some .ret) hl3;refine ⟨_, _, hend, some .ret, ρ2, h2, rfl, hp.trans hp2, ?_, he2⟩;have := fin (some .ret);simpa [xE3, XT.code] using this
   | exit id => cases he
   | ret => cases he
  ·cases hr
end
end
end Go.Proofs.YtnomnijhlbalaaaGreatDoor
