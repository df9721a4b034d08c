/- Code run on data inside a round of a range over a function. No condition. -/
import Derived.Test.YthmicafabimfkaaGreatDoorWY3
import Derived.RangeFuncNested
import Derived.RangeFuncBound
import Derived.RangeFuncCalls
import Derived.RangeFuncLeaves
import Derived.LoopNIn
import Derived.TacticsIn
import Derived.OrdersIn
import Derived.Test.YthmicafabimfkaaGreatDoorWZP
import Derived.Test.YthmicafabimfkaaGreatDoorWY6

namespace Go.Proofs.YthmicafabimfkaaGreatDoor
noncomputable section
open Go.RowKit
abbrev RFo (ro : Option Nat) : Fence := { Fence.wide with round := ro }
theorem xLN {P : Program} {n : Nat} {f : FuncId} {args : Array Value} {w : World} {R : Ending -> World -> Prop} (ro : Option Nat) (h : Calls P f args w R) : CallsIn (RFo ro) n P f args w R := (callsIn_wide.2 h : CallsIn Fence.wide n P f args w R)
section
variable {P : Program} {N : Nat} {D : List Deferred} {S F : List Nat} {W0 : World} {ρ : List Info} {K : Slo} {h : List Root} {w : World} {a : Act} {o : Oper} {β : Type} {r : β} {call : xAT β} {ops : Array Oper} {ro : Option Nat} {n : Nat}
theorem xC6 {ro : Option Nat} {e : Operand -> Value} {x : Next} {w w' : World} (hx : ∀ d, x ≠ .defer d) (he : (execOp e o).run P w = .ok x w') : (o.semAt ro e).run P w = .ok x w' := by
 by_cases hd : ∃ c, o.op = .defer c
 ·obtain ⟨c, hc⟩ := hd;unfold execOp at he;rw [hc] at he;simp only [Sem.run_bind] at he
  cases hq : (resolve e c o.type).run P w with
  | ok d w2 =>
   rw [hq] at he;simp only [Result.andThen_ok, Sem.run_pure] at he;cases he;exact absurd rfl (hx _)
  | halt _ _ => rw [hq] at he; cases he
 ·rw [Oper.semAt_eq ro e o (fun c hc => hd ⟨c, hc⟩)]; exact he
theorem xIf (hcall : xAW P call) (hK : KOk N D ρ K a) (hh : HOk S F W0 ρ h w) {k : Slo -> List Root -> Option β} (hr : opGo P N call K h o k = some r) {Q : Exit -> Act -> World -> Prop} {next : Act -> World -> Prop} (hn : ∀ a' w', Behind P N D S F W0 ρ k r a' w' -> next a' w') : o.wpIn (RFo ro) n P a w next Q := by
 refine ⟨fun _ _ => trivial, ?_⟩;unfold opGo at hr;have hv := xHq (P := P) (o := o) hK hh;split at hr
 ·rename_i g v hs;rw [hs] at hv;obtain ⟨h1, h2⟩ := xBH hr;obtain ⟨u, h3, h4⟩ := hv h1;rw [xC6 (fun d hd => by cases hd) (h4 w (Agree.refl _ _ _ _)), Oper.uponIn_value];exact hn _ _ (xA2 hK hh h3 h2)
 ·rename_i b x y hs;rw [hs] at hv;obtain ⟨u, h3, h4⟩ := hv;rw [xC6 (fun d hd => by cases hd) (h4 w (Agree.refl _ _ _ _)), Oper.uponIn_value]
  cases b with
  | true => exact hn _ _ (xA2 hK hh h3 hr)
  | false => exact hn _ _ (xA2 hK hh h3 hr)
 ·have hm := xKy (P := P) (o := o) hK hh;split at hr
  ·rename_i g v h' t hs;rw [hs] at hm;obtain ⟨h1, h2⟩ := xBH hr;obtain ⟨ρ', u, nx, w', B, q1, q2, q3, q4, q5, q6, q7, _, _⟩ := hm h1;have := xA2 (P := P) (o := o) (hK.mono q1) q5 q2 h2;rcases q3 with rfl | ⟨rfl, rfl⟩
   ·rw [xC6 (fun d hd => by cases hd) q4, Oper.uponIn_value]; exact hn _ _ (this.pre q1)
   ·rw [xC6 (fun d hd => by cases hd) q4, Oper.uponIn_skip]; exact hn _ _ (this.pre q1)
  ·rename_i f args hs;rw [hs] at hm;obtain ⟨vs, q1, q2, q3⟩ := hm;rw [xC6 (fun d hd => by cases hd) q1, Oper.uponIn_enter];refine ⟨fun hd => by simp [RFo, Fence.wide] at hd, ?_⟩;refine xLN ro ((hcall f args h _ r hr S F W0 ρ w vs q3 hh q2).mono fun e w' he => ?_);obtain ⟨ρ', h', v, u, B, t, rfl, e1, e2, e3, e4, _⟩ := he;exact hn _ _ ((xA2 (P := P) (o := o) (hK.mono e1) e3 e2 e4).pre e1)
  ·cases hr
 ·cases hr
theorem xNJ (hcall : xAW P call) (hK : KOk N D ρ K a) (hh : HOk S F W0 ρ h w) {k : Slo -> List Root -> Option β} (hr : xMw P N ops call K h o k = some r) {Q : Exit -> Act -> World -> Prop} {next : Act -> World -> Prop} (hn : ∀ a' w', Behind P N D S F W0 ρ k r a' w' -> next a' w') :
  if Region.wanted o (yielded ops a.tmps) then o.wpIn (RFo ro) n P a w next Q else (∀ f, o.about P w a.eval = some f -> (RFo ro).fn f) /\ next (a.put o.dst undef) w := by
 unfold xMw at hr;split at hr
 ·rename_i hg;rw [if_pos (xLv hK hg)];exact xIf hcall hK hh hr hn
 ·rename_i hg;rw [if_neg (by rw [xLu hK hg]; simp)];exact ⟨fun _ _ => trivial, hn _ _ (xA2 (v := .un) (u := undef) hK hh rfl hr)⟩
 ·rename_i t b want hg;obtain ⟨h1, h2⟩ := xFO hK hg
  cases b with
  | true =>
   simp only [cond_true] at hr;have hK' := hK.bool h2 true rfl
   cases want with
   | true => rw [if_pos (by rw [h1]; rfl)]; exact xIf hcall hK' hh hr hn
   | false => rw [if_neg (by rw [h1]; simp)]; exact ⟨fun _ _ => trivial, hn _ _ (xA2 (v := .un) (u := undef) hK' hh rfl hr)⟩
  | false =>
   simp only [cond_false] at hr;have hK' := hK.bool h2 false rfl
   cases want with
   | true => rw [if_neg (by rw [h1]; simp)]; exact ⟨fun _ _ => trivial, hn _ _ (xA2 (v := .un) (u := undef) hK' hh rfl hr)⟩
   | false => rw [if_pos (by rw [h1]; rfl)]; exact xIf hcall hK' hh hr hn
 ·cases hr
theorem xDf (hcall : xAW P call) {Q : Exit -> Act -> World -> Prop} (rest : List Oper) : ∀ (os : List Oper) (ρ : List Info) (K : Slo) (h : List Root) (a : Act) (w : World) (k : Slo -> List Root -> Option β), xE5 P N ops call os K h k = some r -> KOk N D ρ K a -> HOk S F W0 ρ h w ->
  (∀ a' w', Behind P N D S F W0 ρ k r a' w' -> wpListIn (RFo ro) n P ops Q rest a' w') -> wpListIn (RFo ro) n P ops Q (os ++ rest) a w
 | [], ρ, K, h, a, w, k, hr, hK, hh, hn => hn a w ⟨ρ, K, h, Pre.refl _, hK, hh, hr⟩
 | o :: os, ρ, K, h, a, w, k, hr, hK, hh, hn => by
  have step := xNJ (ops := ops) (o := o) (ro := ro) (n := n) hcall hK hh hr (Q := Q) (next := wpListIn (RFo ro) n P ops Q (os ++ rest)) (fun a' w' hb => by
   obtain ⟨ρ', K', h', h1, h2, h3, h4⟩ := hb;exact xDf hcall rest os ρ' K' h' a' w' k h4 h2 h3 (fun a2 w2 hb2 => hn a2 w2 (hb2.pre h1)))
  show wpListIn (RFo ro) n P ops Q (o :: (os ++ rest)) a w;unfold wpListIn;exact step
end
/-! Regions that draw, within a round -/
def xSu (ops : Array Oper) : Bool := ops.toList.all fun o => match o.op with
 | .defer _ => false
 | _ => true
theorem xVH {ops : Array Oper} (h : xSu ops = true) {i : Nat} {o : Oper} (ho : ops[i]? = some o) : ∀ c, o.op ≠ .defer c := fun c hc => by
 have := List.all_eq_true.1 h o (by simpa using Array.mem_of_getElem? ho);rw [hc] at this;cases this
theorem wp_in {P : Program} {n : Nat} {ro : Option Nat} {o : Oper} {a : Act} {w : World} {next : Act -> World -> Prop} {Q : Exit -> Act -> World -> Prop} (hd : ∀ c, o.op ≠ .defer c) (h : o.wp P a w next Q) : o.wpIn (RFo ro) n P a w next Q := by
 refine ⟨fun _ _ => trivial, ?_⟩;show o.uponIn (RFo ro) n P a next Q ((o.semAt ro a.eval).run P w)
 rw [Oper.semAt_eq ro a.eval o (fun c hc => absurd hc (hd c))];unfold Oper.wp at h;revert h
 cases (execOp a.eval o).run P w with
 | ok x w' =>
  cases x with
  | enter f args =>
   intro h;exact ⟨(fun x => by cases x), xLN ro h⟩
  | row r args =>
   intro h;refine ⟨(fun x => by cases x), fun c cs _ => ?_⟩;obtain ⟨v, w'', h1, h2⟩ := h c cs;exact ⟨v, w'', h1, (stepsIn_wide.2 h2 : StepsIn (Machine.fenced P Fence.wide) P _ _)⟩
  | round l f tmps assign body => exact fun h => h.elim
  | value v => exact id
  | skip => exact id
  | defer d => exact id
  | _ => exact fun h => h.elim
 | halt x w' => cases x <;> exact id
theorem any_in {P : Program} {n : Nat} {ro : Option Nat} {md : Region.Mode} {ops : Array Oper} {Q : Exit -> Act -> World -> Prop} (hQ : ¬ LetsOut Q) (hd : xSu ops = true) : ∀ (fuel : Nat) (listed : Array Bool) (a : Act) (w : World), wpAny P md ops Q fuel listed a w -> wpAnyIn (RFo ro) n P md ops Q fuel listed a w
 | 0, _, _, _, h => h
 | fuel + 1, listed, a, w, h => by
  refine ⟨h.1, fun i hi => ?_⟩;have h1 := h.2 i hi;have ih := any_in (P := P) (n := n) (ro := ro) (md := md) hQ hd fuel (listed.setIfInBounds i true);unfold wpOp at h1;unfold wpOpIn
  cases ho : ops[i]? with
  | none => rw [ho] at h1; exact ih _ _ h1
  | some o =>
   rw [ho] at h1;dsimp only at h1 ⊢;split
   ·rename_i hw;rw [if_pos hw] at h1;rcases h1 with h1 | h1
    ·exact Oper.wpIn_mono ih (wp_in (xVH hd ho) h1)
    ·exact absurd h1.2 hQ
   ·rename_i hw;rw [if_neg hw] at h1;exact ⟨fun _ _ => trivial, ih _ _ h1⟩
theorem xN9 {P : Program} {N : Nat} {D : List Deferred} {S F : List Nat} {W0 : World} {β : Type} {r : β} {call : xAT β} {ops : Array Oper} {ro : Option Nat} {n : Nat} {k : Slo -> List Root -> Option β} {Q : Exit -> Act -> World -> Prop} (hcall : xAW P call) (hm : P.follows .mixedOrders = true) {t : PT} (hp : ptOk ops t = true) (hd : xSu ops = true) {ρ : List Info} {K : Slo} {h : List Root} {a : Act} {w : World} {id : Nat} (hr : xIV P N ops call t K h k = some r) (hK : KOk N D ρ K a) (hh : HOk S F W0 ρ h w)
  (hn : ∀ (ρ' : List Info) (K' : Slo) (h' : List Root) (a' : Act) (w' : World), Pre ρ ρ' -> k K' h' = some r -> KOk N D ρ' K' a' -> HOk S F W0 ρ' h' w' -> Q .normal a' w') : (Code.region id ops true).wpIn (RFo ro) n P Q a w := by
 simp only [ptOk, Bool.and_eq_true] at hp;obtain ⟨⟨hns, hu⟩, hp⟩ := hp;refine Code.wpIn_mono (Q := Calm Q) (fun e a w q => by cases e <;> first | exact q | exact q.elim) ?_
 refine wpIn_region_any hm (any_in (fun ⟨_, _, h⟩ => h) hd _ _ _ _ (xF4 (G := []) _ _ _ _ ?_));have := xHn (N := N) (S := S) (F := F) (W0 := W0) (Q := Q) (k := k) (r := r) hcall (Region.noSelect_spec hns) hu t (Array.replicate ops.size false) (Array.replicate ops.size false) [] [] [] ρ _ h a w.drew
  ⟨⟨by simp, by simp, fun j _ => by simp [inE]⟩, (fun j oj _ hl => by rw [getD_replicate_false] at hl; cases hl), (fun p hp => by cases hp), List.Pairwise.nil, hK.drop _, hh.drew, rfl, (fun p hp => by cases hp), fun j oj d hj hal hd _ => ?_⟩ hr hp hn
 ·rw [Array.toList_replicate, xUg] at this;exact this
 ·rw [xFG, if_pos];exact List.mem_filterMap.2 ⟨oj, List.mem_filter.2 ⟨by simpa using Array.mem_of_getElem? hj, hal⟩, hd⟩
/-! Code without loops, without regions that draw -/
def evR (P : Program) (call : (β : Type) -> xAT β) (N : Nat) : Nat -> Code -> (β : Type) -> Slo -> List Root -> xFd β -> Option β
 | 0, _, _, _, _, _ => none
 | d + 1, c, β, K, h, k => match c with
  | .skip => k .normal K h
  | .exit id => k (.exit id) K h
  | .ret => k .ret K h
  | .region _ ops false => xE5 P N ops (call β) ops.toList K h (k .normal)
  | .region _ ops true => match planOf ops with
   | some t => bif xSu ops && ptOk ops t then xIV P N ops (call β) t K h (k .normal) else none
   | none => none
  | .seq x y => evR P call N d x β K h (fun e K' h' => match e with
   | .normal => evR P call N d y β K' h' k
   | e => k e K' h')
  | .cond c x y => match xAt K c with
   | some (.c (.sc (.bool b))) => bif b then evR P call N d x β K h k else evR P call N d y β K h k
   | _ => none
  | .block id x => evR P call N d x β K h (fun e K' h' => match e with
   | .exit id' => bif Nat.beq id' id then k .normal K' h' else k (.exit id') K' h'
   | e => k e K' h')
  | .loop x => xM8 (fun K h k => evR P call N d x β K h k) 64 K h k
  | _ => none
abbrev EvOkIn (P : Program) (N n : Nat) (D : List Deferred) (ro : Option Nat) (β : Type) (body : Slo -> List Root -> xFd β -> Option β) (c : Code) : Prop :=
 ∀ (K : Slo) (h : List Root) (k : xFd β) (r : β), body K h k = some r ->
  ∀ (S F : List Nat) (W0 : World) (ρ : List Info) (a : Act) (w : World), KOk N D ρ K a -> HOk S F W0 ρ h w -> ∀ Q : Exit -> Act -> World -> Prop,
  (∀ (e : XT) (ρ' : List Info) (K' : Slo) (h' : List Root) (a' : Act) (w' : World), Pre ρ ρ' -> k e K' h' = some r -> KOk N D ρ' K' a' -> HOk S F W0 ρ' h' w' -> Q e.out a' w') -> c.wpIn (RFo ro) n P Q a w
theorem xIT {P : Program} {N n : Nat} {D : List Deferred} {ro : Option Nat} {β : Type} {x : Code} {body : Slo -> List Root -> xFd β -> Option β} (hb : EvOkIn P N n D ro β body x) : ∀ (i : Nat) (K : Slo) (h : List Root) (k : xFd β) (r : β), xM8 body i K h k = some r ->
  ∀ (S F : List Nat) (W0 : World) (ρ : List Info) (a : Act) (w : World), KOk N D ρ K a -> HOk S F W0 ρ h w -> ∀ Q : Exit -> Act -> World -> Prop,
  (∀ (e : XT) (ρ' : List Info) (K' : Slo) (h' : List Root) (a' : Act) (w' : World), Pre ρ ρ' -> k e K' h' = some r -> KOk N D ρ' K' a' -> HOk S F W0 ρ' h' w' -> Q e.out a' w') -> Code.roundsIn (RFo ro) n P x Q i a w
 | 0, K, h, k, r, hr => by cases hr
 | i + 1, K, h, k, r, hr => fun S F W0 ρ a w hK hh Q hn => by
  refine hb K h _ r hr S F W0 ρ a w hK hh _ (fun e ρ' K' h' a' w' hp he hK' hh' => ?_)
  cases e with
  | normal => exact xIT hb i K' h' k r he S F W0 ρ' a' w' hK' hh' Q (fun e ρ2 K2 h2 a2 w2 hp2 => hn e ρ2 K2 h2 a2 w2 (hp.trans hp2))
  | exit id => exact hn _ ρ' K' h' a' w' hp he hK' hh'
  | ret => exact hn _ ρ' K' h' a' w' hp he hK' hh'
theorem xHd {P : Program} {N n : Nat} {D : List Deferred} {ro : Option Nat} {call : (β : Type) -> xAT β} (hcall : ∀ β, xAW P (call β)) (hmx : P.follows .mixedOrders = true) : ∀ (d : Nat) (c : Code) (β : Type) (K : Slo) (h : List Root) (k : xFd β) (r : β), evR P call N d c β K h k = some r ->
  ∀ (S F : List Nat) (W0 : World) (ρ : List Info) (a : Act) (w : World), KOk N D ρ K a -> HOk S F W0 ρ h w -> ∀ Q : Exit -> Act -> World -> Prop,
  (∀ (e : XT) (ρ' : List Info) (K' : Slo) (h' : List Root) (a' : Act) (w' : World), Pre ρ ρ' -> k e K' h' = some r -> KOk N D ρ' K' a' -> HOk S F W0 ρ' h' w' -> Q e.out a' w') -> c.wpIn (RFo ro) n P Q a w
 | 0, _, _, _, _, _, _, hr => by cases hr
 | d + 1, c, β, K, h, k, r, hr => fun S F W0 ρ a w hK hh Q hn => by
  cases c with
  | skip => exact wpIn_skip (hn .normal ρ K h a w (Pre.refl _) hr hK hh)
  | exit id => exact wpIn_exit (hn (.exit id) ρ K h a w (Pre.refl _) hr hK hh)
  | ret => exact wpIn_ret (hn .ret ρ K h a w (Pre.refl _) hr hK hh)
  | region id ops draw =>
   cases draw with
   | false =>
    refine wpIn_region_list ?_;have := xDf (P := P) (N := N) (ops := ops) (S := S) (F := F) (W0 := W0) (r := r) (ro := ro) (n := n) (hcall β) (Q := Q) [] ops.toList ρ K h a w (k .normal) hr hK hh (fun a' w' hb => by
     obtain ⟨ρ', K', h', h1, h2, h3, h4⟩ := hb;exact wpListIn_nil (hn .normal ρ' K' h' a' w' h1 h4 h2 h3))
    simpa using this
   | true =>
    simp only [evR] at hr;split at hr
    ·rename_i t ht
     cases hc : xSu ops && ptOk ops t with
     | false => rw [hc] at hr; cases hr
     | true =>
      rw [hc] at hr;rw [Bool.and_eq_true] at hc;exact xN9 (hcall β) hmx hc.2 hc.1 hr hK hh (fun ρ' K' h' a' w' h1 h2 h3 h4 => hn .normal ρ' K' h' a' w' h1 h2 h3 h4)
    ·cases hr
  | seq x y =>
   refine wpIn_seq (xHd hcall hmx d x β K h _ r hr S F W0 ρ a w hK hh _ (fun e ρ' K' h' a' w' hp he hK' hh' => ?_))
   cases e with
   | normal => exact xHd hcall hmx d y β K' h' k r he S F W0 ρ' a' w' hK' hh' Q (fun e ρ2 K2 h2 a2 w2 hp2 => hn e ρ2 K2 h2 a2 w2 (hp.trans hp2))
   | exit id => exact hn _ ρ' K' h' a' w' hp he hK' hh'
   | ret => exact hn _ ρ' K' h' a' w' hp he hK' hh'
  | cond c x y =>
   simp only [evR] at hr;split at hr
   ·rename_i b hc;have hb : a.eval c = .bool b := (xAb hK hc).1
    cases b with
    | true => exact wpIn_cond_true hb (xHd hcall hmx d x β K h k r hr S F W0 ρ a w hK hh Q hn)
    | false => exact wpIn_cond_false hb (xHd hcall hmx d y β K h k r hr S F W0 ρ a w hK hh Q hn)
   ·cases hr
  | block id x =>
   refine wpIn_block (xHd hcall hmx d x β K h _ r hr S F W0 ρ a w hK hh _ (fun e ρ' K' h' a' w' hp he hK' hh' => ?_))
   cases e with
   | normal => exact hn .normal ρ' K' h' a' w' hp he hK' hh'
   | exit id' =>
    show Exit.inBlock id Q (.exit id') a' w';dsimp only at he
    cases hb : Nat.beq id' id with
    | true =>
     rw [hb] at he;have := nbT hb;subst this;show (if id' = id' then Q .normal a' w' else Q (.exit id') a' w');rw [if_pos rfl];exact hn .normal ρ' K' h' a' w' hp he hK' hh'
    | false =>
     rw [hb] at he;have hne := Nat.ne_of_beq_eq_false hb;show (if id' = id then Q .normal a' w' else Q (.exit id') a' w');rw [if_neg hne];exact hn (.exit id') ρ' K' h' a' w' hp he hK' hh'
   | ret => exact hn .ret ρ' K' h' a' w' hp he hK' hh'
  | loop x => exact wpIn_loop_rounds 64 (xIT (fun K h k r hr => xHd hcall hmx d x β K h k r hr) 64 K h k r hr S F W0 ρ a w hK hh Q hn)
  | rangeFunc f p x y => cases hr
  | scope x => cases hr
  | label l => cases hr
  | goto l => cases hr
  | refuse s => cases hr
end
end Go.Proofs.YthmicafabimfkaaGreatDoor


namespace Go.Proofs.YthmicafabimfkaaGreatDoor
noncomputable section
open Go.RowKit
section
variable {P : Program} {N n : Nat} {D : List Deferred} {S F : List Nat} {W0 B : World} {ρ ρ' : List Info} {K : Slo} {h h' : List Root} {w w' : World} {a : Act}
theorem HOk.base (hh : HOk S F B ρ h w) (hE : Ext W0 B) (hl : gOk W0) (ho : ∀ b ∈ xLw, b < W0.heap.size /\ b ∉ S) : HOk S F W0 ρ h w :=
 ⟨(hE.ex S).trans hh.ext, hh.len, hh.ok, hh.sep, fun p r i b x y z => (hh.mine p r i b x y z).imp (fun h => Nat.le_trans hE.size h) id, fun p r i b x y z => (hh.near p r i b x y z).imp (fun h => Nat.le_trans hE.size h) id, hl, ho, hh.cov, hh.cln⟩
theorem HOk.kept (hh : HOk S F W0 ρ h w) {l : Nat} {o : Obj} (hl : W0.heap[l]? = some o) (hs : l ∉ S) : w.heap[l]? = some o := hh.ext.heap hs hl
theorem KOk.setIf (hK : KOk N D ρ K a) {t : Nat} {p : PV} {v : Value} (hv : DenP ρ p v) {K' : Slo} (hs : xHr N K (some t) p = some K') : KOk N D ρ K' { a with tmps := a.tmps.setIfInBounds t v } := xFv hK hv hs
/-- Parameters are set. -/
def xMd (N : Nat) : List (Nat × PV) -> Slo -> Option Slo
 | [], K => some K
 | (t, p) :: l, K => match xHr N K (some t) p with
  | some K' => xMd N l K'
  | none => none
theorem xMc : ∀ {ps : List Nat} {args : List PV} {vs : List Value} {K K' : Slo} {a : Act}, xMd N (ps.zip args) K = some K' -> DenArgs ρ args vs -> ps.length = args.length -> KOk N D ρ K a -> KOk N D ρ K' { a with tmps := (ps.zip vs).foldl (fun t (p : Nat × Value) => t.setIfInBounds p.1 p.2) a.tmps }
 | [], args, vs, K, K', a, hs, ha, _, hK => by
  simp only [List.zip_nil_left, xMd, Option.some.injEq] at hs;subst hs;simpa using hK
 | t :: ps, [], _, _, _, _, _, _, hl, _ => by simp at hl
 | t :: ps, p :: args, vs, K, K', a, hs, ⟨v, r, e, h1, h2⟩, hl, hK => by
  subst e;simp only [List.zip_cons_cons, xMd] at hs;split at hs
  ·rename_i K1 hK1;have := xMc (ps := ps) hs h2 (by simpa using hl) (hK.setIf h1 hK1);simpa using this
  ·cases hs
end
/-! A round -/
def rnd (P : Program) (call : (β : Type) -> xAT β) (N : Nat) (ps : List Nat) (as bd : Code) (Kc : Slo) (β : Type) (args : List PV) (h : List Root) (k : Option XT -> List Root -> Option β) : Option β :=
 bif Nat.beq ps.length args.length then match xMd N (ps.zip args) Kc with
  | some K => evR P call N 300 as β K h (fun e K' h' => match e with
   | .normal => evR P call N 300 bd β K' h' (fun e2 _ h2 => match e2 with
    | .normal => k none h2
    | e2 => k (some e2) h2)
   | _ => none)
  | none => none
 else none
def XT.code : XT -> Code
 | .normal => .skip
 | .exit id => .exit id
 | .ret => .ret
/-- The record of a loop at rest: no jump, or one. -/
def xET (r : Loop) (p : Option XT) : Loop := { r with state := if p.isNone then .ready else .done, pending := p.map XT.code }
/-- A world with such a record. -/
structure Recs (l : Nat) (r : Loop) (B : Option XT -> World) : Prop where
 ready : r.state = .ready
 pend : r.pending = none
 at' : ∀ p, (B p).heap[l]? = some (.loop (xET r p))
 ex : ∀ p q, Ex [l] (B p) (B q)
 size : ∀ p q, (B p).heap.size = (B q).heap.size
theorem xEq {r : Loop} (h1 : r.state = .ready) (h2 : r.pending = none) : xET r none = r := by
 obtain ⟨⟩ := r;simp only at h1 h2;subst h1; subst h2;rfl
section
variable {P : Program} {n : Nat} {S F : List Nat}
theorem rnd_ok {call : (β : Type) -> xAT β} (hcall : ∀ β, xAW P (call β)) (hmx : P.follows .mixedOrders = true) {N l : Nat} {r : Loop} {B : Option XT -> World} (hR : Recs l r B) (hS : l ∉ S) {ps : List Nat} {as bd : Code} {Kc : Slo} (hps : r.params = ps.toArray) (has : r.assign = as) (hbd : r.body = bd) {ρ0 : List Info} (hKc : KOk N [] ρ0 Kc { tmps := r.tmps, defers := [] })
  {β : Type} {args : List PV} {h : List Root} {k : Option XT -> List Root -> Option β} {x : β} (hr : rnd P call N ps as bd Kc β args h k = some x) {ρ : List Info} (hρ : Pre ρ0 ρ) {vs : List Value} (hvs : DenArgs ρ args vs) {W : World} (hh : HOk S F (B none) ρ h W) :
  YieldAt Fence.wide n P l vs.toArray W (fun e w' => ∃ p ρ' h', e = .returned (.bool p.isNone) /\ Pre ρ ρ' /\ HOk S F (B p) ρ' h' w' /\ k p h' = some x) := by
 unfold rnd at hr
 cases hb : Nat.beq ps.length args.length with
 | false => rw [hb] at hr; cases hr
 | true =>
  rw [hb] at hr;simp only [cond_true] at hr;have hlen := nbT hb;split at hr
  ·rename_i K1 hK1;have hl : W.heap[l]? = some (.loop r) := by
    have := hh.kept (hR.at' none) hS;rwa [xEq hR.ready hR.pend] at this
   have hvl : vs.length = args.length := hvs.len;have hy := run_yield (P := P) (args := vs.toArray) hl (by rw [hps]; simpa using (hvl.trans hlen.symm));rw [has, hbd] at hy;refine ⟨_, _, as, bd, hy, roundIn_of_wpIn trivial ?_⟩;have hK2 : KOk N [] ρ K1 { tmps := (r.params.zip vs.toArray).foldl (fun t (p : Nat × Value) => t.setIfInBounds p.1 p.2) r.tmps, defers := [] } := by
    have := xMc hK1 hvs hlen (hKc.mono hρ);rw [hps];simpa using this
   refine xHd (ro := some l) (n := n) hcall hmx 300 as β K1 h _ x hr S F (B none) ρ _ W hK2 hh _ (fun e ρ' K' h' a' w' hp he hK' hh' => ?_)
   cases e with
   | normal =>
    dsimp only at he;have hl1 : w'.heap[l]? = some (.loop r) := by
     have := hh'.kept (hR.at' none) hS;rwa [xEq hR.ready hR.pend] at this
    refine ⟨_, run_beginRound hl1 hR.ready, ?_⟩
    -- the world in which the record is busy
    have hBn := hR.at' none;rw [xEq hR.ready hR.pend] at hBn;have hBlt := lt_of_block hBn;have hh2 : HOk S F ((B none).putObj l (.loop { r with state := .busy })) ρ' h' (w'.putObj l (.loop { r with state := .busy })) :=
     hh'.putObj hl1 rfl ⟨rfl, rfl, rfl, by simp, fun k _ hk => World.putObj_heap_other (by simpa using hk)⟩ (by simp) (World.putObj_heap_same hBlt)
    refine xHd (ro := some l) (n := n) hcall hmx 300 bd β K' h' _ x he S F _ ρ' a' _ hK' hh2 _ (fun e2 ρ2 K2 h2 a2 w2 hp2 he2 _ hh3 => ?_);have hl3 : w2.heap[l]? = some (.loop { r with state := .busy }) := hh3.kept (World.putObj_heap_same hBlt) hS;have fin : ∀ p : Option XT, HOk S F (B p) ρ2 h2 (w2.putObj l (.loop (xET r p))) := fun p =>
     hh3.putObj hl3 rfl (by
      have hx := hR.ex none p;refine ⟨hx.os, hx.tape, hx.output, by rw [World.putObj_size]; exact hx.size, fun k hk hkl => ?_⟩;rw [World.putObj_heap_other (by simpa using hkl)];exact hx.block k (by simpa using hk) hkl) (by rw [World.putObj_size]; exact hR.size p none) (hR.at' p)
    cases e2 with
    | normal =>
     have hend := run_endRound (P := P) none hl3;refine ⟨_, _, hend, none, ρ2, h2, rfl, hp.trans hp2, ?_, he2⟩;have := fin none;simpa [xET] using this
    | exit id =>
     have hend := run_endRound (P := P) (some (.exit id)) hl3;refine ⟨_, _, hend, some (.exit id), ρ2, h2, rfl, hp.trans hp2, ?_, he2⟩;have := fin (some (.exit id));simpa [xET, XT.code] using this
    | ret =>
     have hend := run_endRound (P := P) (some .ret) hl3;refine ⟨_, _, hend, some .ret, ρ2, h2, rfl, hp.trans hp2, ?_, he2⟩;have := fin (some .ret);simpa [xET, XT.code] using this
   | exit id => cases he
   | ret => cases he
  ·cases hr
end
end
end Go.Proofs.YthmicafabimfkaaGreatDoor


namespace Go.Proofs.YthmicafabimfkaaGreatDoor
noncomputable section
open Go.RowKit
/-! Where the loop is -/
inductive AY where
 | no
 | two (a b : AY)
 | one (a : AY)
 | lp
def AY.l : AY -> AY
 | .two a _ => a
 | .one a => a
 | _ => .no
def AY.r : AY -> AY
 | .two _ b => b
 | _ => .no
def AYok (L : Code -> Prop) : AY -> Code -> Prop
 | .no, _ => True
 | .two a b, c => match c with
  | .seq x y => AYok L a x /\ AYok L b y
  | .cond _ x y => AYok L a x /\ AYok L b y
  | .block _ x => AYok L a x
  | _ => True
 | .one a, c => match c with
  | .seq x _ => AYok L a x
  | .cond _ x _ => AYok L a x
  | .block _ x => AYok L a x
  | _ => True
 | .lp, c => match c with
  | .loop x => L x
  | _ => True
theorem AYok.seq {L : Code -> Prop} {an : AY} {x y : Code} (h : AYok L an (.seq x y)) : AYok L an.l x /\ AYok L an.r y := by
 cases an with
 | no => exact ⟨trivial, trivial⟩
 | two a b => exact h
 | one a => exact ⟨h, trivial⟩
 | lp => exact ⟨trivial, trivial⟩
theorem AYok.cond {L : Code -> Prop} {an : AY} {c : Operand} {x y : Code} (h : AYok L an (.cond c x y)) : AYok L an.l x /\ AYok L an.r y := by
 cases an with
 | no => exact ⟨trivial, trivial⟩
 | two a b => exact h
 | one a => exact ⟨h, trivial⟩
 | lp => exact ⟨trivial, trivial⟩
theorem AYok.block {L : Code -> Prop} {an : AY} {id : Nat} {x : Code} (h : AYok L an (.block id x)) : AYok L an.l x := by
 cases an with
 | no => trivial
 | two a b => exact h
 | one a => exact h
 | lp => trivial
def AYP (L : Code -> Prop) (c : Code) : AY -> List Nat -> Prop
 | .no, _ => True
 | .two a b, p => AYP L c a (p ++ [0]) /\ AYP L c b (p ++ [1])
 | .one a, p => AYP L c a (p ++ [0])
 | .lp, p => L (xAv c (p ++ [0]))
theorem xCK {L : Code -> Prop} {c : Code} : ∀ {an : AY} {p : List Nat}, AYP L c an p -> AYok L an (xAv c p)
 | .no, p, _ => trivial
 | .two a b, p, h => by
  have h1 := xCK (an := a) h.1;have h2 := xCK (an := b) h.2;rw [xBe] at h1 h2;cases hc : xAv c p <;> rw [hc] at h1 h2 <;> first | exact ⟨h1, h2⟩ | exact h1 | trivial
 | .one a, p, h => by
  have h1 := xCK (an := a) (p := p ++ [0]) h;rw [xBe] at h1;cases hc : xAv c p <;> rw [hc] at h1 <;> first | exact h1 | trivial
 | .lp, p, h => by
  have h1 : L (xAv c (p ++ [0])) := h;rw [xBe] at h1;cases hc : xAv c p <;> rw [hc] at h1 <;> first | exact h1 | trivial
abbrev sch0 : Sch := ⟨[], []⟩
def lm0 : sch0.ty -> Option (xAL []) := fun _ => none
/-! The evaluation -/
abbrev xOx (β : Type) := XT -> Slo -> List Root -> Option XT -> Option β
abbrev YlF := (β : Type) -> List PV -> List Root -> (Option XT -> List Root -> Option β) -> Option β
def yldGo (jy N : Nat) (yl : YlF) (β : Type) (o : Oper) (K : Slo) (h : List Root) (p : Option XT) (k : Slo -> List Root -> Option XT -> Option β) : Option β :=
 match o.op with
 | .call ⟨.value f, ⟨args⟩, _⟩ => match xAt K f, xQ2 K args with
  | some (.c (.hv i)), some q => bif Nat.beq i jy then (match p with
   | none => yl β q h (fun p' h2 => match xHr N K o.dst (.c (.sc (.bool p'.isNone))) with
    | some K2 => k K2 h2 p'
    | none => none)
   | some _ => none) else none
  | _, _ => none
 | _ => none
def yldOp (ops : Array Oper) (jy N : Nat) (yl : YlF) (β : Type) (o : Oper) (K : Slo) (h : List Root) (p : Option XT) (k : Slo -> List Root -> Option XT -> Option β) : Option β :=
 xJw ops K o (fun K => yldGo jy N yl β o K h p k) (fun K => match xHr N K o.dst .un with
  | some K2 => k K2 h p
  | none => none)
def evRdY {β : Type} (body : Slo -> List Root -> Option XT -> xOx β -> Option β) : Nat -> Slo -> List Root -> Option XT -> xOx β -> Option β
 | 0, _, _, _, _ => none
 | i + 1, K, h, p, k => body K h p (fun e K' h' p' => match e with
  | .normal => evRdY body i K' h' p' k
  | e => k e K' h' p')
def evY (P : Program) (pl : Nat -> Option PT) (call : (β : Type) -> xAT β) (m N jy : Nat) (yl : YlF) (ysp : Nat -> Option Nat) (LS : Sch) (oo : xBy) (LM : LS.ty -> Option (xAL oo)) : Nat -> AY -> Code -> (β : Type) -> Slo -> List Root -> Option XT -> xOx β -> Option β
 | 0, _, _, _, _, _, _, _ => none
 | d + 1, an, c, β, K, h, p, k => match c with
  | .skip => k .normal K h p
  | .exit id => k (.exit id) K h p
  | .ret => k .ret K h p
  | .region id ops false => match ysp id with
   | some j => xE5 P N ops (call β) (ops.toList.take j) K h (fun K1 h1 => match ops.toList.drop j with
    | o :: os => yldOp ops jy N yl β o K1 h1 p (fun K2 h2 p' => xE5 P N ops (call β) os K2 h2 (fun K3 h3 => k .normal K3 h3 p'))
    | [] => none)
   | none => xE5 P N ops (call β) ops.toList K h (fun K1 h1 => k .normal K1 h1 p)
  | .region id ops true => match pl id with
   | some t => xIV P N ops (call β) t K h (fun K1 h1 => k .normal K1 h1 p)
   | none => none
  | .seq x y => evY P pl call m N jy yl ysp LS oo LM d an.l x β K h p (fun e K' h' p' => match e with
   | .normal => evY P pl call m N jy yl ysp LS oo LM d an.r y β K' h' p' k
   | e => k e K' h' p')
  | .cond c x y => match xAt K c with
   | some (.c (.sc (.bool b))) => bif b then evY P pl call m N jy yl ysp LS oo LM d an.l x β K h p k else evY P pl call m N jy yl ysp LS oo LM d an.r y β K h p k
   | _ => none
  | .block id x => evY P pl call m N jy yl ysp LS oo LM d an.l x β K h p (fun e K' h' p' => match e with
   | .exit id' => bif Nat.beq id' id then k .normal K' h' p' else k (.exit id') K' h' p'
   | e => k e K' h' p')
  | .loop x => match an, p with
   | .lp, none => match LS.dec m K h with
    | some s => ob (LM s) (fun t => xUM (fun e K h => k e K h none) oo t)
    | none => none
   | _, _ => evRdY (fun K h p k => evY P pl call m N jy yl ysp LS oo LM d .no x β K h p k) 64 K h p k
  | _ => none
section
variable {P : Program} {m N jy l n : Nat} {S F : List Nat} {B : Option XT -> World} {ρ0 : List Info}
/-- What is asked of yield. -/
def YlOk (P : Program) (n l : Nat) (S F : List Nat) (B : Option XT -> World) (ρ0 : List Info) (yl : YlF) : Prop :=
 ∀ (β : Type) (args : List PV) (h : List Root) (k : Option XT -> List Root -> Option β) (x : β), yl β args h k = some x -> ∀ (ρ : List Info) (vs : List Value) (W : World), Pre ρ0 ρ -> DenArgs ρ args vs -> HOk S F (B none) ρ h W ->
  YieldAt Fence.wide n P l vs.toArray W (fun e w' => ∃ p ρ' h', e = .returned (.bool p.isNone) /\ Pre ρ ρ' /\ HOk S F (B p) ρ' h' w' /\ k p h' = some x)
def xWI (P : Program) (n N : Nat) (S F : List Nat) (B : Option XT -> World) (ρ0 : List Info) (LS : Sch) (oo : xBy) (LM : LS.ty -> Option (xAL oo)) (x : Code) : Prop :=
 ∀ (s : LS.ty) (t : xAL oo), LM s = some t -> ∀ (ρ : List Info) (a : Act) (W : World), Pre ρ0 ρ -> KOk N [] ρ (xAX same LS.slots (LS.a s)) a -> HOk S F (B none) ρ (xAm same LS.roots (LS.b s)) W -> ∀ Q : Exit -> Act -> World -> Prop,
  (∀ (ρ' : List Info) (a' : Act) (W' : World), Pre ρ0 ρ' -> KOk N [] ρ' (xAS oo t).2.1 a' -> HOk S F (B none) ρ' (xAS oo t).2.2 W' -> Q (xAS oo t).1.out a' W') -> ∃ i, Code.roundsIn (RFo none) n P x Q i a W
theorem xHv {ρ ρ' : List Info} (h : Pre ρ0 ρ) (hm : ρ0.length <= m) (h' : PreM m ρ ρ') : Pre ρ0 ρ' := fun j i e => h' j (Nat.lt_of_lt_of_le (List.getElem?_eq_some_iff.1 e).1 hm) i (h j i e)
theorem xUR {yl : YlF} (hY : YlOk P (n - 1) l S F B ρ0 yl) (hy : ∃ i, ρ0[jy]? = some i /\ i.val = .func (.yield l) #[] #[]) {β : Type} {o : Oper} {K : Slo} {h : List Root} {p : Option XT} {k : Slo -> List Root -> Option XT -> Option β} {x : β}
  (hr : yldGo jy N yl β o K h p k = some x) {ρ : List Info} {a : Act} {W : World} (hρ : Pre ρ0 ρ) (hK : KOk N [] ρ K a) (hh : HOk S F (B p) ρ h W) {Q : Exit -> Act -> World -> Prop} {next : Act -> World -> Prop}
  (hn : ∀ p' ρ' K' h' a' W', Pre ρ ρ' -> KOk N [] ρ' K' a' -> HOk S F (B p') ρ' h' W' -> k K' h' p' = some x -> next a' W') : o.wpIn (RFo none) n P a W next Q := by
 unfold yldGo at hr;split at hr
 ·rename_i f args ts ho;split at hr
  ·rename_i i q hf hq
   cases hb : Nat.beq i jy with
   | false => rw [hb] at hr; cases hr
   | true =>
    rw [hb] at hr;simp only [cond_true] at hr;have hi := nbT hb;subst hi;split at hr
    ·obtain ⟨iy, h1, h2⟩ := hy;obtain ⟨i2, h3, h4⟩ := xAb hK hf;have h5 := hρ _ _ h1;rw [h5] at h3;cases h3;have hv : a.eval f = .func (.yield l) #[] #[] := by rw [<- h2]; exact h4.1
     obtain ⟨fn, tmps, as, bd, h6, h7⟩ := hY β q h _ x hr ρ (args.map a.eval) W hρ (xF0 hK hq) hh;refine ⟨fun _ _ => trivial, ?_⟩;have hrun : (execOp a.eval o).run P W = .ok (.round l fn tmps as bd) W := by
      unfold execOp;simp only [ho];simp [resolve, Deferred.ofValue, hv, invoke, Sem.run_bind, Result.andThen, h6]
     rw [xC6 (fun d hd => by cases hd) hrun, Oper.uponIn_round];refine ⟨fun hd => by simp [RFo, Fence.wide] at hd, RoundIn.mono h7 ?_⟩
     rintro e w' ⟨p', ρ', h', rfl, e1, e2, e3⟩
     split at e3
     ·rename_i K2 hK2;exact hn p' ρ' K2 h' _ w' e1 (xFv (hK.mono e1) (v := .c (.sc (.bool p'.isNone))) (u := .bool p'.isNone) ⟨rfl, rfl⟩ hK2) e2 e3
     ·cases e3
    ·cases hr
  ·cases hr
 ·cases hr
theorem xUQ {yl : YlF} (hY : YlOk P (n - 1) l S F B ρ0 yl) (hy : ∃ i, ρ0[jy]? = some i /\ i.val = .func (.yield l) #[] #[]) {β : Type} {ops : Array Oper} {o : Oper} {K : Slo} {h : List Root} {p : Option XT} {k : Slo -> List Root -> Option XT -> Option β} {x : β}
  (hr : yldOp ops jy N yl β o K h p k = some x) {ρ : List Info} {a : Act} {W : World} (hρ : Pre ρ0 ρ) (hK : KOk N [] ρ K a) (hh : HOk S F (B p) ρ h W) {Q : Exit -> Act -> World -> Prop} {next : Act -> World -> Prop}
  (hn : ∀ p' ρ' K' h' a' W', Pre ρ ρ' -> KOk N [] ρ' K' a' -> HOk S F (B p') ρ' h' W' -> k K' h' p' = some x -> next a' W') :
  if Region.wanted o (yielded ops a.tmps) then o.wpIn (RFo none) n P a W next Q else (∀ f, o.about P W a.eval = some f -> (RFo none).fn f) /\ next (a.put o.dst undef) W := by
 unfold yldOp at hr;rcases xCB hK hr with ⟨hw, K1, h1, h2, _, _⟩ | ⟨hw, K1, h1, h2, _, _⟩
 ·rw [if_pos hw];exact xUR hY hy h1 hρ h2 hh hn
 ·rw [if_neg (by rw [hw]; simp)];refine ⟨fun _ _ => trivial, ?_⟩;split at h1
  ·rename_i K2 hK2;exact hn p ρ K2 h _ W (Pre.refl ρ) (xFv (v := .un) h2 rfl hK2) hh h1
  ·cases h1
theorem xLS {ops : Array Oper} {Q : Exit -> Act -> World -> Prop} {o : Oper} {os : List Oper} {a : Act} {W : World} (h : if Region.wanted o (yielded ops a.tmps) then o.wpIn (RFo none) n P a W (wpListIn (RFo none) n P ops Q os) Q else (∀ f, o.about P W a.eval = some f -> (RFo none).fn f) /\ wpListIn (RFo none) n P ops Q os (a.put o.dst undef) W) : wpListIn (RFo none) n P ops Q (o :: os) a W := by
 unfold wpListIn;exact h
theorem xPU {β : Type} {u : Code} {body : Slo -> List Root -> Option XT -> xOx β -> Option β}
  (hb : ∀ (K : Slo) (h : List Root) (p : Option XT) (k : xOx β) (x : β), body K h p k = some x -> ∀ (ρ : List Info) (a : Act) (W : World), Pre ρ0 ρ -> KOk N [] ρ K a -> HOk S F (B p) ρ h W -> ∀ Q : Exit -> Act -> World -> Prop,
   (∀ (e : XT) (ρ' : List Info) (K' : Slo) (h' : List Root) (p' : Option XT) (a' : Act) (W' : World), Pre ρ0 ρ' -> k e K' h' p' = some x -> KOk N [] ρ' K' a' -> HOk S F (B p') ρ' h' W' -> Q e.out a' W') -> u.wpIn (RFo none) n P Q a W) :
  ∀ (i : Nat) (K : Slo) (h : List Root) (p : Option XT) (k : xOx β) (x : β), evRdY body i K h p k = some x -> ∀ (ρ : List Info) (a : Act) (W : World), Pre ρ0 ρ -> KOk N [] ρ K a -> HOk S F (B p) ρ h W -> ∀ Q : Exit -> Act -> World -> Prop,
   (∀ (e : XT) (ρ' : List Info) (K' : Slo) (h' : List Root) (p' : Option XT) (a' : Act) (W' : World), Pre ρ0 ρ' -> k e K' h' p' = some x -> KOk N [] ρ' K' a' -> HOk S F (B p') ρ' h' W' -> Q e.out a' W') -> Code.roundsIn (RFo none) n P u Q i a W
 | 0, _, _, _, _, _, hr => by cases hr
 | i + 1, K, h, p, k, x, hr => fun ρ a W hρ hK hh Q hn => by
  refine hb K h p _ x hr ρ a W hρ hK hh _ (fun e ρ' K' h' p' a' W' hp he hK' hh' => ?_)
  cases e with
  | normal => exact xPU hb i K' h' p' k x he ρ' a' W' hp hK' hh' Q hn
  | exit id => exact hn _ ρ' K' h' p' a' W' hp he hK' hh'
  | ret => exact hn _ ρ' K' h' p' a' W' hp he hK' hh'
theorem xHb {call : (β : Type) -> xAT β} (hcall : ∀ β, xAW P (call β)) (hmx : P.follows .mixedOrders = true) {pl : Nat -> Option PT} {yl : YlF} (hY : YlOk P (n - 1) l S F B ρ0 yl) (hy : ∃ i, ρ0[jy]? = some i /\ i.val = .func (.yield l) #[] #[]) (hm : ρ0.length <= m) {ysp : Nat -> Option Nat} {LS : Sch} {oo : xBy} {LM : LS.ty -> Option (xAL oo)} :
  ∀ (d : Nat) (an : AY) (c : Code), AYok (xWI P n N S F B ρ0 LS oo LM) an c -> xAV pl c = true -> ∀ (β : Type) (K : Slo) (h : List Root) (p : Option XT) (k : xOx β) (x : β), evY P pl call m N jy yl ysp LS oo LM d an c β K h p k = some x ->
  ∀ (ρ : List Info) (a : Act) (W : World), Pre ρ0 ρ -> KOk N [] ρ K a -> HOk S F (B p) ρ h W -> ∀ Q : Exit -> Act -> World -> Prop,
  (∀ (e : XT) (ρ' : List Info) (K' : Slo) (h' : List Root) (p' : Option XT) (a' : Act) (W' : World), Pre ρ0 ρ' -> k e K' h' p' = some x -> KOk N [] ρ' K' a' -> HOk S F (B p') ρ' h' W' -> Q e.out a' W') -> c.wpIn (RFo none) n P Q a W
 | 0, _, _, _, _, _, _, _, _, _, _, hr => by cases hr
 | d + 1, an, c, hA, hreg, β, K, h, p, k, x, hr => fun ρ a W hρ hK hh Q hn => by
  cases c with
  | skip => exact wpIn_skip (hn .normal ρ K h p a W hρ hr hK hh)
  | exit id => exact wpIn_exit (hn (.exit id) ρ K h p a W hρ hr hK hh)
  | ret => exact wpIn_ret (hn .ret ρ K h p a W hρ hr hK hh)
  | region id ops draw =>
   cases draw with
   | false =>
    refine wpIn_region_list ?_;simp only [evY] at hr;split at hr
    ·rename_i j hj;have := xDf (P := P) (N := N) (ops := ops) (S := S) (F := F) (W0 := B p) (r := x) (ro := none) (n := n) (hcall β) (Q := Q) (ops.toList.drop j) (ops.toList.take j) ρ K h a W _ hr hK hh (fun a' w' hb => by
      obtain ⟨ρ', K', h', h1, h2, h3, h4⟩ := hb;dsimp only at h4;split at h4
      ·rename_i o os hos;rw [hos];have hw := xUQ (ops := ops) (n := n) hY hy h4 (hρ.trans h1) h2 h3 (Q := Q) (next := wpListIn (RFo none) n P ops Q os) (fun p' ρ2 K2 h2' a2 w2 e1 e2 e3 e4 => by
        have := xDf (P := P) (N := N) (ops := ops) (S := S) (F := F) (W0 := B p') (r := x) (ro := none) (n := n) (hcall β) (Q := Q) [] os ρ2 K2 h2' a2 w2 _ e4 e2 e3 (fun a3 w3 hb3 => by
         obtain ⟨ρ3, K3, h3', q1, q2, q3, q4⟩ := hb3;exact wpListIn_nil (hn .normal ρ3 K3 h3' p' a3 w3 (((hρ.trans h1).trans e1).trans q1) q4 q2 q3))
        simpa using this)
       exact xLS hw
      ·cases h4)
     simpa using this
    ·have := xDf (P := P) (N := N) (ops := ops) (S := S) (F := F) (W0 := B p) (r := x) (ro := none) (n := n) (hcall β) (Q := Q) [] ops.toList ρ K h a W _ hr hK hh (fun a' w' hb => by
      obtain ⟨ρ', K', h', h1, h2, h3, h4⟩ := hb;exact wpListIn_nil (hn .normal ρ' K' h' p a' w' (hρ.trans h1) h4 h2 h3))
     simpa using this
   | true =>
    simp only [evY] at hr;simp only [xAV] at hreg;split at hr
    ·rename_i t ht;rw [ht] at hreg;exact wpIn_wide.2 (xIU (hcall β) hmx hreg hr hK hh (fun ρ' K' h' a' w' h1 h2 h3 h4 => hn .normal ρ' K' h' p a' w' (hρ.trans h1) h2 h3 h4))
    ·cases hr
  | seq u v =>
   simp only [xAV, Bool.and_eq_true] at hreg;obtain ⟨hA1, hA2⟩ := hA.seq;refine wpIn_seq (xHb hcall hmx hY hy hm d an.l u hA1 hreg.1 β K h p _ x hr ρ a W hρ hK hh _ (fun e ρ' K' h' p' a' w' hp he hK' hh' => ?_))
   cases e with
   | normal => exact xHb hcall hmx hY hy hm d an.r v hA2 hreg.2 β K' h' p' k x he ρ' a' w' hp hK' hh' Q hn
   | exit id => exact hn _ ρ' K' h' p' a' w' hp he hK' hh'
   | ret => exact hn _ ρ' K' h' p' a' w' hp he hK' hh'
  | cond c u v =>
   simp only [xAV, Bool.and_eq_true] at hreg;obtain ⟨hA1, hA2⟩ := hA.cond;simp only [evY] at hr;split at hr
   ·rename_i b hc;have hb : a.eval c = .bool b := (xAb hK hc).1
    cases b with
    | true => exact wpIn_cond_true hb (xHb hcall hmx hY hy hm d an.l u hA1 hreg.1 β K h p k x hr ρ a W hρ hK hh Q hn)
    | false => exact wpIn_cond_false hb (xHb hcall hmx hY hy hm d an.r v hA2 hreg.2 β K h p k x hr ρ a W hρ hK hh Q hn)
   ·cases hr
  | block id u =>
   refine wpIn_block (xHb hcall hmx hY hy hm d an.l u hA.block hreg β K h p _ x hr ρ a W hρ hK hh _ (fun e ρ' K' h' p' a' w' hp he hK' hh' => ?_))
   cases e with
   | normal => exact hn .normal ρ' K' h' p' a' w' hp he hK' hh'
   | exit id' =>
    show Exit.inBlock id Q (.exit id') a' w';dsimp only at he
    cases hb : Nat.beq id' id with
    | true =>
     rw [hb] at he;have := nbT hb;subst this;show (if id' = id' then Q .normal a' w' else Q (.exit id') a' w');rw [if_pos rfl];exact hn .normal ρ' K' h' p' a' w' hp he hK' hh'
    | false =>
     rw [hb] at he;have hne := Nat.ne_of_beq_eq_false hb;show (if id' = id then Q .normal a' w' else Q (.exit id') a' w');rw [if_neg hne];exact hn (.exit id') ρ' K' h' p' a' w' hp he hK' hh'
   | ret => exact hn .ret ρ' K' h' p' a' w' hp he hK' hh'
  | loop u =>
   simp only [evY] at hr;split at hr
   ·split at hr
    ·rename_i s hs;obtain ⟨t, ht, hk⟩ := xDN hr;rw [xEb] at hk;obtain ⟨ι, h2, h3, h4⟩ := Sch.dec_ok hs hK hh;obtain ⟨i, h5⟩ := hA s t ht ι a W (xHv hρ hm h2) h3 h4 Q (fun ρ' a' W' hp hK' hh' => hn _ ρ' _ _ none a' W' hp hk hK' hh');exact wpIn_loop_rounds i h5
    ·cases hr
   ·exact wpIn_loop_rounds 64 (xPU (fun K h p k x hr => xHb hcall hmx hY hy hm d .no u trivial hreg β K h p k x hr) 64 K h p k x hr ρ a W hρ hK hh Q hn)
  | rangeFunc f q u v => cases hr
  | scope u => cases hr
  | label q => cases hr
  | goto q => cases hr
  | refuse s => cases hr
/-- The loop of the function that is ranged over, by its round. -/
theorem xBG {call : (β : Type) -> xAT β} (hcall : ∀ β, xAW P (call β)) (hmx : P.follows .mixedOrders = true) {pl : Nat -> Option PT} {yl : YlF} (hY : YlOk P (n - 1) l S F B ρ0 yl) (hy : ∃ i, ρ0[jy]? = some i /\ i.val = .func (.yield l) #[] #[]) (hm : ρ0.length <= m) {ysp : Nat -> Option Nat} {LS : Sch} {oo : xBy} {M : Nat -> LS.ty -> Option (xAL oo)} {c : Code} (hreg : xAV pl c = true) (h0 : ∀ s, M 0 s = none)
  (hs : ∀ (i : Nat) (s : LS.ty), M (i + 1) s = evY P pl call m N jy yl ysp sch0 [] lm0 300 .no c (xAL oo) (xAX same LS.slots (LS.a s)) (xAm same LS.roots (LS.b s)) none (fun e K h p => match p with
   | none => match e with
    | .normal => ob (LS.dec m K h) (fun s' => M i s')
    | e => xBv m oo e K h
   | some _ => none)) : ∀ i, xWI P n N S F B ρ0 LS oo (M i) c := by
 have main : ∀ (i : Nat) (s : LS.ty) (t : xAL oo), M i s = some t -> ∀ (ρ : List Info) (a : Act) (W : World), Pre ρ0 ρ -> KOk N [] ρ (xAX same LS.slots (LS.a s)) a -> HOk S F (B none) ρ (xAm same LS.roots (LS.b s)) W -> ∀ Q : Exit -> Act -> World -> Prop,
   (∀ (ρ' : List Info) (a' : Act) (W' : World), Pre ρ0 ρ' -> KOk N [] ρ' (xAS oo t).2.1 a' -> HOk S F (B none) ρ' (xAS oo t).2.2 W' -> Q (xAS oo t).1.out a' W') -> Code.roundsIn (RFo none) n P c Q i a W := by
  intro i
  induction i with
  | zero => intro s t ht; rw [h0] at ht; cases ht
  | succ i ih =>
   intro s t ht ρ a W hρ hK hh Q hn;rw [hs] at ht;refine xHb hcall hmx hY hy hm 300 .no c trivial hreg (xAL oo) _ _ none _ t ht ρ a W hρ hK hh _ (fun e ρ' K' h' p' a' w' hp he hK' hh' => ?_)
   cases p' with
   | some _ => cases he
   | none =>
    cases e with
    | normal =>
     obtain ⟨s', h1, h2⟩ := xDN he;obtain ⟨ι', h3, h4, h5⟩ := Sch.dec_ok h1 hK' hh';exact ih s' t h2 ι' a' w' (xHv hp hm h3) h4 h5 Q hn
    | exit id =>
     obtain ⟨h1, ι', h3, h4, h5⟩ := xBD he hK' hh';have := hn ι' a' w' (xHv hp hm h3) h4 h5;rw [h1] at this;exact this
    | ret =>
     obtain ⟨h1, ι', h3, h4, h5⟩ := xBD he hK' hh';have := hn ι' a' w' (xHv hp hm h3) h4 h5;rw [h1] at this;exact this
 exact fun i s t ht ρ a W hρ hK hh Q hn => ⟨i, main i s t ht ρ a W hρ hK hh Q hn⟩
end
end
end Go.Proofs.YthmicafabimfkaaGreatDoor


namespace Go.Proofs.YthmicafabimfkaaGreatDoor
noncomputable section
open Go.RowKit
section
variable {P : Program} {S F S0 F0 : List Nat} {W0 B : World} {ρ ρ' : List Info} {h h' : List Root} {w w' : World}
theorem HOk.start (hh : HOk S F w ρ h w) (hE : Ext w B) : HOk S F B ρ h B := by
 have h1 := hh.ext' hE;refine ⟨Ex.refl _ _, h1.len, h1.ok, h1.sep, fun p r i b hr hi ho => ?_, fun p r i b hr hi ho => ?_, h1.layW, fun b hb => ⟨h1.outW hb, (hh.out b hb).2⟩, h1.cov, h1.cln⟩
 ·have := (hh.ok p r i hr hi).lt (xAs ho);rcases hh.mine p r i b hr hi ho with h2 | h2
  ·omega
  ·exact .inr h2
 ·have := (hh.ok p r i hr hi).lt ho;rcases hh.near p r i b hr hi ho with h2 | h2
  ·omega
  ·exact .inr h2
theorem own_lt (hh : HOk S0 F0 W0 ρ h w) {b : Nat} (hb : b ∈ xAo .own ρ h (List.range h.length)) : b < w.heap.size := by
 obtain ⟨p, _, r, i, hr, hi, ho⟩ := xAg.1 hb;exact (hh.ok p r i hr hi).lt (xAs ho)
theorem xSA (hl : h.length <= h'.length) : xEW (List.range h.length) h h' 0 = h' := by
 apply List.ext_getElem?;intro q;have hl2 := xIi (List.range h.length) h h' 0 hl
 cases e : (xEW (List.range h.length) h h' 0)[q]? with
 | none =>
  have := List.getElem?_eq_none_iff.1 e;rw [hl2] at this;exact (List.getElem?_eq_none_iff.2 this).symm
 | some r =>
  rcases xBp (List.range h.length) h h' 0 q r hl e with ⟨h1, _⟩ | ⟨h1, h2⟩
  ·exact h1.symm
  ·have h3 := (List.getElem?_eq_some_iff.1 h1).1;have : (List.range h.length).any (Nat.beq (0 + q)) = true := xDL.2 (List.mem_range.2 (by omega));rw [h2] at this; cases this
/-- Back in the frame around. -/
theorem HOk.back (hh : HOk S0 F0 W0 ρ h w) (hp : Pre ρ ρ') (hE : Ext w B) (hc : HOk (xAo .own ρ h (List.range h.length)) (xAo .foot ρ h (List.range h.length)) B ρ' h' w') : HOk S0 F0 W0 ρ' h' w' := by
 have := hh.merged (List.range h.length) (fun q r h1 _ => List.mem_range.2 (List.getElem?_eq_some_iff.1 h1).1) hp (hc.base hE hh.layW fun b hb => ⟨hh.outW hb, (hc.out b hb).2⟩);rwa [xSA (by rw [<- hh.len, <- hc.len]; exact hp.len)] at this
end
abbrev mark (b : Nat) : Deferred := { target := .collected b, args := #[] }
/-- The function that is ranged over, run. -/
def rfEv (P : Program) (pl : Nat -> Nat -> Option PT) (call : (β : Type) -> xAT β) (N : Nat) (ysp : Nat -> Option Nat) (LS : Sch) (oo : xBy) (LM : LS.ty -> Option (xAL oo)) (an : AY) (gf na : Nat) (ps : List Nat) (as bd : Code) (β : Type) (j : Nat) (K : Slo) (h : List Root) (kk : Option XT -> List Root -> Option β) : Option β :=
 match h[j]? with
 | some (.clo g fs cs) => bif Nat.beq g gf && xBc P gf && Nat.beq (fs.length + 1 + cs.length) na then match P.funcs[gf]? with
  | some fn => match fn.body with
   | some c => evY P (pl gf) call (h.length + 1) (xAk P gf na) h.length (fun γ args h' k => rnd P call N ps as bd K γ args h' k) ysp LS oo LM 300 an c β
     (xUL 0 (fs.map .c ++ [.c (.hv h.length)] ++ cs.map .c)) (h ++ [.dead]) none (fun e K' h' p => match e with
      | .exit _ => none
      | _ => match xRZ P K' h' fn.results.toList with
       | some _ => kk p h'
       | none => none)
   | none => none
  | none => none
  else none
 | _ => none
section
variable {P : Program} {S0 F0 : List Nat} {W0 : World}
theorem DenArgs.one {ρ : List Info} {p : PV} {v : Value} (h : DenP ρ p v) : DenArgs ρ [p] [v] := ⟨v, [], rfl, h, rfl⟩
theorem xVw {call : (β : Type) -> xAT β} (hcall : ∀ β, xAW P (call β)) (hmx : P.follows .mixedOrders = true) {A : xF2} (hA : xFc P A) {N na : Nat} {ysp : Nat -> Option Nat} {LS : Sch} {oo : xBy} {LM : LS.ty -> Option (xAL oo)} {an : AY} {gf : Nat} {gop : Operand} {ps : List Nat} {as bd : Code} {K : Slo} {j : Nat} {h : List Root}
  (hL : ∀ (n l : Nat) (S F : List Nat) (B : Option XT -> World) (ρ0 : List Info), ρ0.length = h.length + 1 -> (∃ i, ρ0[h.length]? = some i /\ i.val = .func (.yield l) #[] #[]) -> YlOk P (n - 1) l S F B ρ0 (fun γ args h' k => rnd P call N ps as bd K γ args h' k) -> AYok (xWI P n (xAk P gf na) S F B ρ0 LS oo LM) an (xAd P gf))
  {β : Type} {kk : Option XT -> List Root -> Option β} {x : β} {D : List Deferred} (hr : rfEv P (xAQ A) call N ysp LS oo LM an gf na ps as bd β j K h kk = some x) {ρ : List Info} {a : Act} {w : World} (hK : KOk N D ρ K a) (hh : HOk S0 F0 W0 ρ h w) (hg : xAt K gop = some (.c (.hv j))) {Q : Exit -> Act -> World -> Prop}
  (hn : ∀ (p : Option XT) (ρ' : List Info) (h' : List Root) (B w' : World) (a' : Act), Pre ρ ρ' -> kk p h' = some x -> Ext w B -> B.heap[w.heap.size]? = some (.deferred (some [])) -> HOk (xAo .own ρ h (List.range h.length)) (xAo .foot ρ h (List.range h.length)) B ρ' h' w' -> KOk N (mark w.heap.size :: D) ρ' K a' -> Q (p.getD .normal).out a' w') :
  (Code.rangeFunc gop ps.toArray as bd).wpIn (RFo none) 6 P Q a w := by
 unfold rfEv at hr;split at hr
 ·rename_i g fs cs hclo
  cases hb : (Nat.beq g gf && xBc P gf && Nat.beq (fs.length + 1 + cs.length) na) with
  | false => rw [hb] at hr; cases hr
  | true =>
   rw [hb] at hr;simp only [cond_true] at hr;simp only [Bool.and_eq_true] at hb;have hgf := nbT hb.1.1;have hna := nbT hb.2;subst hgf;split at hr
   ·rename_i fn hfn;split at hr
    ·rename_i c hc;refine wpIn_rangeFunc ?_;intro fid hfid;obtain ⟨i0, hi0, hv0, _⟩ := xAb hK hg;obtain ⟨us, vs, hus, hvs, hval⟩ := hh.ok j _ i0 hclo hi0;rw [hval] at hv0;obtain ⟨rec, hrec⟩ : ∃ rec : Loop, rec = { state := .ready, pending := none, fn := fid, tmps := a.tmps, params := ps.toArray, assign := as, body := bd, defers := w.heap.size } := ⟨_, rfl⟩;obtain ⟨W1, hW1⟩ : ∃ W1, (w.alloc (.deferred (some []))).alloc (.loop rec) = W1 := ⟨_, rfl⟩;have hE1 : Ext w W1 := by rw [<- hW1]; exact ((Ex.refl _ _).alloc _).alloc _
     have hs1 : W1.heap.size = w.heap.size + 2 := by rw [<- hW1]; simp
     have hL1 : W1.heap[w.heap.size + 1]? = some (.loop rec) := by
      rw [<- hW1]; have := World.alloc_heap_new (w.alloc (.deferred (some []))) (.loop rec); rwa [World.size_alloc] at this
     have hD1 : W1.heap[w.heap.size]? = some (.deferred (some [])) := by
      rw [<- hW1]; exact xUo (xEk _ _)
     obtain ⟨S, hSd⟩ : ∃ S, S = xAo .own ρ h (List.range h.length) := ⟨_, rfl⟩;obtain ⟨F, hFd⟩ : ∃ F, F = xAo .foot ρ h (List.range h.length) := ⟨_, rfl⟩;have hSlt : ∀ b ∈ S, b < w.heap.size := fun b hb => own_lt hh (by rw [<- hSd]; exact hb);have hh0 : HOk S F W1 ρ h W1 := by
      have := hh.enterAll;rw [<- hSd, <- hFd] at this;exact this.start hE1
     have hlS : w.heap.size + 1 ∉ S := fun hm => by have := hSlt _ hm; omega
     have hdS : w.heap.size ∉ S := fun hm => by have := hSlt _ hm; omega
     obtain ⟨B, hB⟩ : ∃ B : Option XT -> World, B = fun p => match p with
      | none => W1
      | some e => W1.putObj (w.heap.size + 1) (.loop (xET rec (some e))) := ⟨_, rfl⟩
     have hl1 : w.heap.size + 1 < W1.heap.size := by omega
     have hR : Recs (w.heap.size + 1) rec B := by
      have hto : ∀ p, Ex [w.heap.size + 1] W1 (B p) := fun p => by
       rw [hB]
       cases p with
       | none => exact Ex.refl _ _
       | some e => exact ⟨rfl, rfl, rfl, by simp, fun k _ hk => World.putObj_heap_other (by simpa using hk)⟩
      have hsz : ∀ p, (B p).heap.size = W1.heap.size := fun p => by rw [hB]; cases p <;> simp
      refine ⟨by rw [hrec], by rw [hrec], fun p => ?_, fun p q => ?_, fun p q => by rw [hsz, hsz]⟩
      ·rw [hB]
       cases p with
       | none => rw [xEq (by rw [hrec]) (by rw [hrec])]; exact hL1
       | some e => exact World.putObj_heap_same hl1
      ·have h1 := hto p;have h2 := hto q;exact ⟨h2.os.trans h1.os.symm, h2.tape.trans h1.tape.symm, h2.output.trans h1.output.symm, by rw [hsz, hsz]; exact Nat.le_refl _, fun k hk hkl => by
        rw [h1.block k (by rw [<- hsz p]; exact hk) hkl, h2.block k (by rw [<- hsz p]; exact hk) hkl]⟩
     have hBn : B none = W1 := by rw [hB]
     obtain ⟨iy, hiy⟩ : ∃ iy : Info, iy = ⟨none, 0, none, .func (.yield (w.heap.size + 1)) #[] #[]⟩ := ⟨_, rfl⟩;have hh1 : HOk S F (B none) (ρ ++ [iy]) (h ++ [.dead]) W1 := by
      rw [hBn];exact hh0.add (Ex.refl _ _) iy .dead trivial (fun b hb => by cases hb) (fun _ => by rw [hiy]; rfl) rfl
     have hlen : (ρ ++ [iy]).length = h.length + 1 := by simp [hh.len]
     have hyj : (ρ ++ [iy])[h.length]? = some iy := by rw [<- hh.len]; simp
     have hyy : ∃ i, (ρ ++ [iy])[h.length]? = some i /\ i.val = .func (.yield (w.heap.size + 1)) #[] #[] := ⟨iy, hyj, by rw [hiy]⟩;have hK0 : KOk N [] (ρ ++ [iy]) K { tmps := rec.tmps, defers := [] } := by
      have : KOk N [] ρ K { tmps := rec.tmps, defers := [] } := ⟨by rw [hrec]; exact hK.1, rfl, fun t p e => by rw [hrec]; exact hK.2.2 t p e⟩;exact this.mono (Pre.app _ _)
     have hY : ∀ n, YlOk P n (w.heap.size + 1) S F B (ρ ++ [iy]) (fun γ args h' k => rnd P call N ps as bd K γ args h' k) := fun n γ args h' k y hy ρ' vs' W hp ha hW =>
      rnd_ok hcall hmx hR hlS (by rw [hrec]) (by rw [hrec]) (by rw [hrec]) hK0 hy hp ha hW
     obtain ⟨yv, hyv⟩ : ∃ yv : Value, yv = .func (.yield (w.heap.size + 1)) #[] #[] := ⟨_, rfl⟩;refine ⟨w.heap.size + 1, [mark w.heap.size], W1, { target := .fn (.func g) vs.toArray, args := us.toArray.push yv }, W1, g,
      us.toArray.push yv ++ vs.toArray, W1, ?_, ?_, fun _ _ => trivial, ?_, fun hd => by simp [RFo, Fence.wide] at hd, ?_⟩
     ·rw [<- hW1, hrec]; exact run_enterLoop_outer _ _ _ _ _
     ·simp only [resolve, hv0];rw [hyv];simp [Deferred.ofValue, Act.eval]
     ·simp [invoke, xEj hb.1.2]
     ·refine xLN none ?_;have hargs : us.toArray.push yv ++ vs.toArray = (us ++ [yv] ++ vs).toArray := by simp
      rw [hargs];have hden : DenArgs (ρ ++ [iy]) (fs.map .c ++ [.c (.hv h.length)] ++ cs.map .c) (us ++ [yv] ++ vs) := by
       refine DenArgs.app (DenArgs.app (DenArgs.cvs (hus.mono (Pre.app _ _))) (DenArgs.one ?_)) (DenArgs.cvs (hvs.mono (Pre.app _ _)));exact ⟨iy, hyj, by rw [hiy, hyv], by rw [hiy]; rfl⟩
      have hsz : (us ++ [yv] ++ vs).length = fs.length + 1 + cs.length := by
       have h1 := hus.len;have h2 := hvs.len;simp only [List.length_append, List.length_singleton];omega
      have hreg : xAV (xAQ A g) c = true := xSe hA hfn hc;have hbody : xAd P g = c := by simp [xAd, hfn, hc]
      have hNit : xAk P g na = na + (fn.ntmps - na) := by simp [xAk, hfn]
      have hAY := hL 6 (w.heap.size + 1) S F B (ρ ++ [iy]) hlen hyy (hY 5);rw [hbody] at hAY;refine (calls_of_wp (R := fun e w' => ∃ v, e = .returned v /\ ∃ p ρ' h', Pre (ρ ++ [iy]) ρ' /\ HOk S F (B p) ρ' h' w' /\ kk p h' = some x) hfn hc (wpIn_wide.1 (xHb (n := 6) (m := h.length + 1) (N := xAk P g na) hcall hmx (hY 5) hyy (by rw [hlen]; exact Nat.le_refl _) 300 an c hAY hreg β _ _ none _ x hr (ρ ++ [iy]) _ W1 (Pre.refl _) ⟨by rw [hNit, <- hna, <- hsz]; simp, rfl, fun t p hp => ?_⟩ hh1 _ (fun e ρ' K' h' p' a' w' hp he hK' hh' => ?_)))).mono ?_
      ·obtain ⟨_, h2⟩ := xFy _ _ _ _ hp;rw [Nat.sub_zero] at h2;obtain ⟨v, h3, h4⟩ := hden.get h2;refine ⟨v, h4, ?_⟩;have hlt := (List.getElem?_eq_some_iff.1 h3).1;show ((us ++ [yv] ++ vs).toArray ++ Array.replicate _ undef)[t]? = some v;rw [Array.getElem?_append_left (by simpa using hlt)];simpa using h3
      ·have fin : (match xRZ P K' h' fn.results.toList with
        | some _ => kk p' h'
        | none => none) = some x -> a'.defers = [] /\ ∃ v, (results fn a'.tmps).run P w' = .ok v w' /\ ∃ v', Ending.returned v = .returned v' /\ ∃ p ρ' h', Pre (ρ ++ [iy]) ρ' /\ HOk S F (B p) ρ' h' w' /\ kk p h' = some x := by
        intro hm2;split at hm2
        ·rename_i v hv;obtain ⟨u, _, h2⟩ := xKI hK' hh' hv;exact ⟨hK'.2.1, u, h2, u, rfl, p', ρ', h', hp, hh', hm2⟩
        ·cases hm2
       cases e with
       | normal => exact fin he
       | exit id => cases he
       | ret => exact fin he
      ·rintro e w' ⟨v, rfl, p, ρ', h', hp, hh', hk⟩
       have hl2 : w'.heap[w.heap.size + 1]? = some (.loop (xET rec p)) := hh'.kept (hR.at' p) hlS;have hnb : (xET rec p).state ≠ .busy := by unfold xET; cases p <;> simp
       have hpend : (xET rec p).pending = p.map XT.code := rfl;have hend := run_endLoop (P := P) hl2 hnb;rw [hpend] at hend;have hszB : (B p).heap.size = W1.heap.size := by rw [<- hBn]; exact hR.size p none
       have hxB : Ex [w.heap.size + 1] W1 (B p) := by rw [<- hBn]; exact hR.ex none p
       have hE4 : Ext w ((B p).putObj (w.heap.size + 1) (.loop { xET rec p with state := .exhausted })) := by
        refine ⟨hxB.os.trans hE1.os, hxB.tape.trans hE1.tape, hxB.output.trans hE1.output, by simp; omega, fun k hk _ => ?_⟩;rw [World.putObj_heap_other (by omega), hxB.block k (by omega) (by simp; omega), hE1.block k hk (by simp)]
       have hh4 : HOk S F ((B p).putObj (w.heap.size + 1) (.loop { xET rec p with state := .exhausted })) ρ' h' (w'.putObj (w.heap.size + 1) (.loop { xET rec p with state := .exhausted })) :=
        hh'.putObj hl2 rfl ⟨rfl, rfl, rfl, by simp, fun k _ hk => World.putObj_heap_other (by simpa using hk)⟩ (by simp) (World.putObj_heap_same (by omega))
       have hD4 : ((B p).putObj (w.heap.size + 1) (.loop { xET rec p with state := .exhausted })).heap[w.heap.size]? = some (.deferred (some [])) := by
        rw [World.putObj_heap_other (by omega), hxB.block _ (by omega) (by simp)];exact hD1
       have hpp : Pre ρ ρ' := (Pre.app ρ [iy]).trans hp;have hKa : KOk N (mark w.heap.size :: D) ρ' K { a with defers := [mark w.heap.size] ++ a.defers } := by
        have := hK.mono hpp;exact ⟨this.1, by rw [this.2.1]; rfl, this.2.2⟩
       rw [hSd, hFd] at hh4;have hQ := hn p ρ' h' _ _ _ hpp hk hE4 hD4 hh4 hKa;refine ⟨p.map XT.code, _, hend, ?_⟩
       cases p with
       | none => exact hQ
       | some e =>
        cases e with
        | normal => exact wpIn_skip hQ
        | exit id => exact wpIn_exit hQ
        | ret => exact wpIn_ret hQ
    ·cases hr
   ·cases hr
 ·cases hr
end
end
end Go.Proofs.YthmicafabimfkaaGreatDoor


namespace Go.Proofs.YthmicafabimfkaaGreatDoor
noncomputable section
open Go.RowKit
def rfPs : Code -> List Nat
 | .rangeFunc _ ps _ _ => ps.toList
 | _ => []
def rfAs : Code -> Code
 | .rangeFunc _ _ as _ => as
 | _ => .skip
def rfBd : Code -> Code
 | .rangeFunc _ _ _ bd => bd
 | _ => .skip
/-! Where the statement is -/
def NodeOk (L : Code -> Prop) : AY -> Code -> Prop
 | .no, _ => True
 | .two a b, c => match c with
  | .seq x y => NodeOk L a x /\ NodeOk L b y
  | .block _ x => NodeOk L a x
  | _ => True
 | .one a, c => match c with
  | .seq x _ => NodeOk L a x
  | .block _ x => NodeOk L a x
  | _ => True
 | .lp, c => L c
theorem NodeOk.seq {L : Code -> Prop} {an : AY} {x y : Code} (h : NodeOk L an (.seq x y)) : NodeOk L an.l x /\ NodeOk L an.r y := by
 cases an with
 | no => exact ⟨trivial, trivial⟩
 | two a b => exact h
 | one a => exact ⟨h, trivial⟩
 | lp => exact ⟨trivial, trivial⟩
theorem NodeOk.block {L : Code -> Prop} {an : AY} {id : Nat} {x : Code} (h : NodeOk L an (.block id x)) : NodeOk L an.l x := by
 cases an with
 | no => trivial
 | two a b => exact h
 | one a => exact h
 | lp => trivial
/-- What is known of the function that is ranged over. -/
structure RgA where
 (SC LS : Sch) (oo : xBy) (LM : SC.ty -> LS.ty -> Option (xAL oo)) (an : AY) (gf na : Nat) (ysp : Nat -> Option Nat)
section
variable {P : Program} {m N : Nat} {S0 F0 : List Nat} {W0 : World}
/-- What is asked of the loop at the statement. -/
def xOw (P : Program) (call : (β : Type) -> xAT β) (N : Nat) (R : RgA) (node : Code) : Prop :=
 ∀ (xc : R.SC.ty) (n l : Nat) (S F : List Nat) (B : Option XT -> World) (ρ0 : List Info), ρ0.length = (xAm same R.SC.roots (R.SC.b xc)).length + 1 -> (∃ i, ρ0[(xAm same R.SC.roots (R.SC.b xc)).length]? = some i /\ i.val = .func (.yield l) #[] #[]) ->
  YlOk P (n - 1) l S F B ρ0 (fun γ args h' k => rnd P call N (rfPs node) (rfAs node) (rfBd node) (xAX same R.SC.slots (R.SC.a xc)) γ args h' k) -> AYok (xWI P n (xAk P R.gf R.na) S F B ρ0 R.LS R.oo (R.LM xc)) R.an (xAd P R.gf)
end
end
end Go.Proofs.YthmicafabimfkaaGreatDoor
