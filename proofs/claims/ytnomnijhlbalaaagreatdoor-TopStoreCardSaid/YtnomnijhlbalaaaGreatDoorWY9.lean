/- A part of the proof of the theorem of the last file. No condition. By an AI agent. -/
import Derived.Test.YtnomnijhlbalaaaGreatDoorWPLw
import Derived.RangeFuncNested
import Derived.RangeFuncBound
import Derived.RangeFuncCalls
import Derived.RangeFuncLeaves
import Derived.LoopNIn
import Derived.TacticsIn
import Derived.OrdersIn
namespace Go.Proofs.YtnomnijhlbalaaaGreatDoor
noncomputable section
open Go.RowKit
abbrev RFo (ro : Option Nat) : Fence := { Fence.wide with round := ro }
theorem xLz {P : Program} {n : Nat} {f : FuncId} {args : Array Value} {w : World} {R : Ending -> World -> Prop} (ro : Option Nat) (h : Calls P f args w R) : CallsIn (RFo ro) n P f args w R := (callsIn_wide.2 h : CallsIn Fence.wide n P f args w R)
section
variable {P : Program} {N : Nat} {D : List Deferred} {S F : List Nat} {W0 : World} {O : List Info} {K : Slo} {h : List Root} {w : World} {a : Act} {o : Oper} {β : Type} {r : β} {call : xAK β} {ops : Array Oper} {ro : Option Nat} {n : Nat}
theorem xDq {ro : Option Nat} {e : Operand -> Value} {x : Next} {w w' : World} (hx : ∀ d, x ≠ .defer d) (he : (execOp e o).run P w = .ok x w') : (o.semAt ro e).run P w = .ok x w' := by
 by_cases hd : ∃ c, o.op = .defer c
 ·obtain ⟨c, hc⟩ := hd;unfold execOp at he;rw [hc] at he;simp only [Sem.run_bind] at he
  cases hq : (resolve e c o.type).run P w with
  | ok d w2 =>
   rw [hq] at he;simp only [Result.andThen_ok, Sem.run_pure] at he;cases he;exact absurd rfl (hx _)
  | halt _ _ => rw [hq] at he; cases he
 ·rw [Oper.semAt_eq ro e o (fun c hc => hd ⟨c, hc⟩)]; exact he
theorem xIn (hcall : xAJ P call) (hK : KOk N D O K a) (hh : HOk S F W0 O h w) {k : Slo -> List Root -> Option β} (hr : opGo P N call K h o k = some r) {Q : Exit -> Act -> World -> Prop} {next : Act -> World -> Prop} (hn : ∀ a' w', Behind P N D S F W0 O k r a' w' -> next a' w') : o.wpIn (RFo ro) n P a w next Q := by
 refine ⟨fun _ _ => trivial, ?_⟩;unfold opGo at hr;have hv := xHt (P := P) (o := o) hK hh;split at hr
 ·rename_i g v hs;rw [hs] at hv;obtain ⟨h1, h2⟩ := xBE hr;obtain ⟨u, h3, h4⟩ := hv h1;rw [xDq (fun d hd => by cases hd) (h4 w (Agree.refl _ _ _ _)), Oper.uponIn_value];exact hn _ _ (xA1 hK hh h3 h2)
 ·rename_i b x y hs;rw [hs] at hv;obtain ⟨u, h3, h4⟩ := hv;rw [xDq (fun d hd => by cases hd) (h4 w (Agree.refl _ _ _ _)), Oper.uponIn_value]
  cases b with
  | true => exact hn _ _ (xA1 hK hh h3 hr)
  | false => exact hn _ _ (xA1 hK hh h3 hr)
 ·have hm := xKv (P := P) (o := o) hK hh;split at hr
  ·rename_i g v h' t hs;rw [hs] at hm;obtain ⟨h1, h2⟩ := xBE hr;obtain ⟨O', u, nx, w', B, q1, q2, q3, q4, q5, q6, q7, _, _⟩ := hm h1;have := xA1 (P := P) (o := o) (hK.mono q1) q5 q2 h2;rcases q3 with rfl | ⟨rfl, rfl⟩
   ·rw [xDq (fun d hd => by cases hd) q4, Oper.uponIn_value]; exact hn _ _ (this.pre q1)
   ·rw [xDq (fun d hd => by cases hd) q4, Oper.uponIn_skip]; exact hn _ _ (this.pre q1)
  ·rename_i f args hs;rw [hs] at hm;obtain ⟨vs, q1, q2, q3⟩ := hm;rw [xDq (fun d hd => by cases hd) q1, Oper.uponIn_enter];refine ⟨fun hd => by simp [RFo, Fence.wide] at hd, ?_⟩;refine xLz ro ((hcall f args h _ r hr S F W0 O w vs q3 hh q2).mono fun e w' he => ?_);obtain ⟨O', h', v, u, B, t, rfl, e1, e2, e3, e4, _⟩ := he;exact hn _ _ ((xA1 (P := P) (o := o) (hK.mono e1) e3 e2 e4).pre e1)
  ·cases hr
 ·cases hr
theorem xOh (hcall : xAJ P call) (hK : KOk N D O K a) (hh : HOk S F W0 O h w) {k : Slo -> List Root -> Option β} (hr : xMG P N ops call K h o k = some r) {Q : Exit -> Act -> World -> Prop} {next : Act -> World -> Prop} (hn : ∀ a' w', Behind P N D S F W0 O k r a' w' -> next a' w') :
  if Region.wanted o (yielded ops a.tmps) then o.wpIn (RFo ro) n P a w next Q else (∀ f, o.about P w a.eval = some f -> (RFo ro).fn f) /\ next (a.put o.dst undef) w := by
 unfold xMG at hr;split at hr
 ·rename_i hg;rw [if_pos (xLf hK hg)];exact xIn hcall hK hh hr hn
 ·rename_i hg;rw [if_neg (by rw [xLe hK hg]; simp)];exact ⟨fun _ _ => trivial, hn _ _ (xA1 (v := .un) (u := undef) hK hh rfl hr)⟩
 ·rename_i t b want hg;obtain ⟨h1, h2⟩ := xFW hK hg
  cases b with
  | true =>
   simp only [cond_true] at hr;have hK' := hK.bool h2 true rfl
   cases want with
   | true => rw [if_pos (by rw [h1]; rfl)]; exact xIn hcall hK' hh hr hn
   | false => rw [if_neg (by rw [h1]; simp)]; exact ⟨fun _ _ => trivial, hn _ _ (xA1 (v := .un) (u := undef) hK' hh rfl hr)⟩
  | false =>
   simp only [cond_false] at hr;have hK' := hK.bool h2 false rfl
   cases want with
   | true => rw [if_neg (by rw [h1]; simp)]; exact ⟨fun _ _ => trivial, hn _ _ (xA1 (v := .un) (u := undef) hK' hh rfl hr)⟩
   | false => rw [if_pos (by rw [h1]; rfl)]; exact xIn hcall hK' hh hr hn
 ·cases hr
theorem xDB (hcall : xAJ P call) {Q : Exit -> Act -> World -> Prop} (rest : List Oper) : ∀ (os : List Oper) (O : List Info) (K : Slo) (h : List Root) (a : Act) (w : World) (k : Slo -> List Root -> Option β), xFj P N ops call os K h k = some r -> KOk N D O K a -> HOk S F W0 O h w ->
  (∀ a' w', Behind P N D S F W0 O k r a' w' -> wpListIn (RFo ro) n P ops Q rest a' w') -> wpListIn (RFo ro) n P ops Q (os ++ rest) a w
 | [], O, K, h, a, w, k, hr, hK, hh, hn => hn a w ⟨O, K, h, Pre.refl _, hK, hh, hr⟩
 | o :: os, O, K, h, a, w, k, hr, hK, hh, hn => by
  have step := xOh (ops := ops) (o := o) (ro := ro) (n := n) hcall hK hh hr (Q := Q) (next := wpListIn (RFo ro) n P ops Q (os ++ rest)) (fun a' w' hb => by
   obtain ⟨O', K', h', h1, h2, h3, h4⟩ := hb;exact xDB hcall rest os O' K' h' a' w' k h4 h2 h3 (fun a2 w2 hb2 => hn a2 w2 (hb2.pre h1)))
  show wpListIn (RFo ro) n P ops Q (o :: (os ++ rest)) a w;unfold wpListIn;exact step
end
def xTL (ops : Array Oper) : Bool := ops.toList.all fun o => match o.op with
 | .defer _ => false
 | _ => true
theorem xW0 {ops : Array Oper} (h : xTL ops = true) {i : Nat} {o : Oper} (ho : ops[i]? = some o) : ∀ c, o.op ≠ .defer c := fun c hc => by
 have := List.all_eq_true.1 h o (by simpa using Array.mem_of_getElem? ho);rw [hc] at this;cases this
theorem wp_in {P : Program} {n : Nat} {ro : Option Nat} {o : Oper} {a : Act} {w : World} {next : Act -> World -> Prop} {Q : Exit -> Act -> World -> Prop} (hd : ∀ c, o.op ≠ .defer c) (h : o.wp P a w next Q) : o.wpIn (RFo ro) n P a w next Q := by
 refine ⟨fun _ _ => trivial, ?_⟩;show o.uponIn (RFo ro) n P a next Q ((o.semAt ro a.eval).run P w)
 rw [Oper.semAt_eq ro a.eval o (fun c hc => absurd hc (hd c))];unfold Oper.wp at h;revert h
 cases (execOp a.eval o).run P w with
 | ok x w' =>
  cases x with
  | enter f args =>
   intro h;exact ⟨(fun x => by cases x), xLz ro h⟩
  | row r args =>
   intro h;refine ⟨(fun x => by cases x), fun c cs _ => ?_⟩;obtain ⟨v, w'', h1, h2⟩ := h c cs;exact ⟨v, w'', h1, (stepsIn_wide.2 h2 : StepsIn (Machine.fenced P Fence.wide) P _ _)⟩
  | round l f tmps assign body => exact fun h => h.elim
  | value v => exact id
  | skip => exact id
  | defer d => exact id
  | _ => exact fun h => h.elim
 | halt x w' => cases x <;> exact id
theorem any_in {P : Program} {n : Nat} {ro : Option Nat} {md : Region.Mode} {ops : Array Oper} {Q : Exit -> Act -> World -> Prop} (hQ : ¬ LetsOut Q) (hd : xTL ops = true) : ∀ (fuel : Nat) (listed : Array Bool) (a : Act) (w : World), wpAny P md ops Q fuel listed a w -> wpAnyIn (RFo ro) n P md ops Q fuel listed a w
 | 0, _, _, _, h => h
 | fuel + 1, listed, a, w, h => by
  refine ⟨h.1, fun i hi => ?_⟩;have h1 := h.2 i hi;have ih := any_in (P := P) (n := n) (ro := ro) (md := md) hQ hd fuel (listed.setIfInBounds i true);unfold wpOp at h1;unfold wpOpIn
  cases ho : ops[i]? with
  | none => rw [ho] at h1; exact ih _ _ h1
  | some o =>
   rw [ho] at h1;dsimp only at h1 ⊢;split
   ·rename_i hw;rw [if_pos hw] at h1;rcases h1 with h1 | h1
    ·exact Oper.wpIn_mono ih (wp_in (xW0 hd ho) h1)
    ·exact absurd h1.2 hQ
   ·rename_i hw;rw [if_neg hw] at h1;exact ⟨fun _ _ => trivial, ih _ _ h1⟩
theorem xOE {P : Program} {N : Nat} {D : List Deferred} {S F : List Nat} {W0 : World} {β : Type} {r : β} {call : xAK β} {ops : Array Oper} {ro : Option Nat} {n : Nat} {k : Slo -> List Root -> Option β} {Q : Exit -> Act -> World -> Prop} (hcall : xAJ P call) (hm : P.follows .mixedOrders = true) {t : PT} (hp : xJh ops t = true) (hd : xTL ops = true) {O : List Info} {K : Slo} {h : List Root} {a : Act} {w : World} {id : Nat} (hr : xFl P N ops call t K h k = some r) (hK : KOk N D O K a) (hh : HOk S F W0 O h w)
  (hn : ∀ (O' : List Info) (K' : Slo) (h' : List Root) (a' : Act) (w' : World), Pre O O' -> k K' h' = some r -> KOk N D O' K' a' -> HOk S F W0 O' h' w' -> Q .normal a' w') : (Code.region id ops true).wpIn (RFo ro) n P Q a w := by
 simp only [xJh, Bool.and_eq_true] at hp;obtain ⟨⟨hns, hu⟩, hp⟩ := hp;refine Code.wpIn_mono (Q := Calm Q) (fun e a w q => by cases e <;> first | exact q | exact q.elim) ?_
 refine wpIn_region_any hm (any_in (fun ⟨_, _, h⟩ => h) hd _ _ _ _ (xGa (G := []) _ _ _ _ ?_));have := xHn (N := N) (S := S) (F := F) (W0 := W0) (Q := Q) (k := k) (r := r) hcall (Region.noSelect_spec hns) hu t (Array.replicate ops.size false) (Array.replicate ops.size false) [] [] [] O _ h a w.drew
  ⟨⟨by simp, by simp, fun j _ => by simp [inE]⟩, (fun j oj _ hl => by rw [getD_replicate_false] at hl; cases hl), (fun p hp => by cases hp), List.Pairwise.nil, hK.drop _, hh.drew, rfl, (fun p hp => by cases hp), fun j oj d hj hal hd _ => ?_⟩ hr hp hn
 ·rw [Array.toList_replicate, xVk] at this;exact this
 ·rw [xFO, if_pos];exact List.mem_filterMap.2 ⟨oj, List.mem_filter.2 ⟨by simpa using Array.mem_of_getElem? hj, hal⟩, hd⟩
def evR (P : Program) (call : (β : Type) -> xAK β) (N : Nat) : Nat -> Code -> (β : Type) -> Slo -> List Root -> xFq β -> Option β
 | 0, _, _, _, _, _ => none
 | d + 1, c, β, K, h, k => match c with
  | .skip => k .normal K h
  | .exit id => k (.exit id) K h
  | .ret => k .ret K h
  | .region _ ops false => xFj P N ops (call β) ops.toList K h (k .normal)
  | .region _ ops true => match planOf ops with
   | some t => bif xTL ops && xJh ops t then xFl P N ops (call β) t K h (k .normal) else none
   | none => none
  | .seq x y => evR P call N d x β K h (fun e K' h' => match e with
   | .normal => evR P call N d y β K' h' k
   | e => k e K' h')
  | .cond c x y => match xAo K c with
   | some (.c (.sc (.bool b))) => bif b then evR P call N d x β K h k else evR P call N d y β K h k
   | _ => none
  | .block id x => evR P call N d x β K h (fun e K' h' => match e with
   | .exit id' => bif Nat.beq id' id then k .normal K' h' else k (.exit id') K' h'
   | e => k e K' h')
  | .loop x => xNj (fun K h k => evR P call N d x β K h k) 64 K h k
  | _ => none
abbrev EvOkIn (P : Program) (N n : Nat) (D : List Deferred) (ro : Option Nat) (β : Type) (body : Slo -> List Root -> xFq β -> Option β) (c : Code) : Prop :=
 ∀ (K : Slo) (h : List Root) (k : xFq β) (r : β), body K h k = some r ->
  ∀ (S F : List Nat) (W0 : World) (O : List Info) (a : Act) (w : World), KOk N D O K a -> HOk S F W0 O h w -> ∀ Q : Exit -> Act -> World -> Prop,
  (∀ (e : XT) (O' : List Info) (K' : Slo) (h' : List Root) (a' : Act) (w' : World), Pre O O' -> k e K' h' = some r -> KOk N D O' K' a' -> HOk S F W0 O' h' w' -> Q e.out a' w') -> c.wpIn (RFo ro) n P Q a w
theorem xIP {P : Program} {N n : Nat} {D : List Deferred} {ro : Option Nat} {β : Type} {x : Code} {body : Slo -> List Root -> xFq β -> Option β} (hb : EvOkIn P N n D ro β body x) : ∀ (i : Nat) (K : Slo) (h : List Root) (k : xFq β) (r : β), xNj body i K h k = some r ->
  ∀ (S F : List Nat) (W0 : World) (O : List Info) (a : Act) (w : World), KOk N D O K a -> HOk S F W0 O h w -> ∀ Q : Exit -> Act -> World -> Prop,
  (∀ (e : XT) (O' : List Info) (K' : Slo) (h' : List Root) (a' : Act) (w' : World), Pre O O' -> k e K' h' = some r -> KOk N D O' K' a' -> HOk S F W0 O' h' w' -> Q e.out a' w') -> Code.roundsIn (RFo ro) n P x Q i a w
 | 0, K, h, k, r, hr => by cases hr
 | i + 1, K, h, k, r, hr => fun S F W0 O a w hK hh Q hn => by
  refine hb K h _ r hr S F W0 O a w hK hh _ (fun e O' K' h' a' w' hp he hK' hh' => ?_)
  cases e with
  | normal => exact xIP hb i K' h' k r he S F W0 O' a' w' hK' hh' Q (fun e O2 K2 h2 a2 w2 hp2 => hn e O2 K2 h2 a2 w2 (hp.trans hp2))
  | exit id => exact hn _ O' K' h' a' w' hp he hK' hh'
  | ret => exact hn _ O' K' h' a' w' hp he hK' hh'
theorem xG4 {P : Program} {N n : Nat} {D : List Deferred} {ro : Option Nat} {call : (β : Type) -> xAK β} (hcall : ∀ β, xAJ P (call β)) (hmx : P.follows .mixedOrders = true) : ∀ (d : Nat) (c : Code) (β : Type) (K : Slo) (h : List Root) (k : xFq β) (r : β), evR P call N d c β K h k = some r ->
  ∀ (S F : List Nat) (W0 : World) (O : List Info) (a : Act) (w : World), KOk N D O K a -> HOk S F W0 O h w -> ∀ Q : Exit -> Act -> World -> Prop,
  (∀ (e : XT) (O' : List Info) (K' : Slo) (h' : List Root) (a' : Act) (w' : World), Pre O O' -> k e K' h' = some r -> KOk N D O' K' a' -> HOk S F W0 O' h' w' -> Q e.out a' w') -> c.wpIn (RFo ro) n P Q a w
 | 0, _, _, _, _, _, _, hr => by cases hr
 | d + 1, c, β, K, h, k, r, hr => fun S F W0 O a w hK hh Q hn => by
  cases c with
  | skip => exact wpIn_skip (hn .normal O K h a w (Pre.refl _) hr hK hh)
  | exit id => exact wpIn_exit (hn (.exit id) O K h a w (Pre.refl _) hr hK hh)
  | ret => exact wpIn_ret (hn .ret O K h a w (Pre.refl _) hr hK hh)
  | region id ops draw =>
   cases draw with
   | false =>
    refine wpIn_region_list ?_;have := xDB (P := P) (N := N) (ops := ops) (S := S) (F := F) (W0 := W0) (r := r) (ro := ro) (n := n) (hcall β) (Q := Q) [] ops.toList O K h a w (k .normal) hr hK hh (fun a' w' hb => by
     obtain ⟨O', K', h', h1, h2, h3, h4⟩ := hb;exact wpListIn_nil (hn .normal O' K' h' a' w' h1 h4 h2 h3))
    simpa using this
   | true =>
    simp only [evR] at hr;split at hr
    ·rename_i t ht
     cases hc : xTL ops && xJh ops t with
     | false => rw [hc] at hr; cases hr
     | true =>
      rw [hc] at hr;rw [Bool.and_eq_true] at hc;exact xOE (hcall β) hmx hc.2 hc.1 hr hK hh (fun O' K' h' a' w' h1 h2 h3 h4 => hn .normal O' K' h' a' w' h1 h2 h3 h4)
    ·cases hr
  | seq x y =>
   refine wpIn_seq (xG4 hcall hmx d x β K h _ r hr S F W0 O a w hK hh _ (fun e O' K' h' a' w' hp he hK' hh' => ?_))
   cases e with
   | normal => exact xG4 hcall hmx d y β K' h' k r he S F W0 O' a' w' hK' hh' Q (fun e O2 K2 h2 a2 w2 hp2 => hn e O2 K2 h2 a2 w2 (hp.trans hp2))
   | exit id => exact hn _ O' K' h' a' w' hp he hK' hh'
   | ret => exact hn _ O' K' h' a' w' hp he hK' hh'
  | cond c x y =>
   simp only [evR] at hr;split at hr
   ·rename_i b hc;have hb : a.eval c = .bool b := (xAa hK hc).1
    cases b with
    | true => exact wpIn_cond_true hb (xG4 hcall hmx d x β K h k r hr S F W0 O a w hK hh Q hn)
    | false => exact wpIn_cond_false hb (xG4 hcall hmx d y β K h k r hr S F W0 O a w hK hh Q hn)
   ·cases hr
  | block id x =>
   refine wpIn_block (xG4 hcall hmx d x β K h _ r hr S F W0 O a w hK hh _ (fun e O' K' h' a' w' hp he hK' hh' => ?_))
   cases e with
   | normal => exact hn .normal O' K' h' a' w' hp he hK' hh'
   | exit id' =>
    show Exit.inBlock id Q (.exit id') a' w';dsimp only at he
    cases hb : Nat.beq id' id with
    | true =>
     rw [hb] at he;have := nbT hb;subst this;show (if id' = id' then Q .normal a' w' else Q (.exit id') a' w');rw [if_pos rfl];exact hn .normal O' K' h' a' w' hp he hK' hh'
    | false =>
     rw [hb] at he;have hne := Nat.ne_of_beq_eq_false hb;show (if id' = id then Q .normal a' w' else Q (.exit id') a' w');rw [if_neg hne];exact hn (.exit id') O' K' h' a' w' hp he hK' hh'
   | ret => exact hn .ret O' K' h' a' w' hp he hK' hh'
  | loop x => exact wpIn_loop_rounds 64 (xIP (fun K h k r hr => xG4 hcall hmx d x β K h k r hr) 64 K h k r hr S F W0 O a w hK hh Q hn)
  | rangeFunc f p x y => cases hr
  | scope x => cases hr
  | label l => cases hr
  | goto l => cases hr
  | refuse s => cases hr
end
noncomputable section
open Go.RowKit
section
variable {P : Program} {N n : Nat} {D : List Deferred} {S F : List Nat} {W0 B : World} {O O' : List Info} {K : Slo} {h h' : List Root} {w w' : World} {a : Act}
theorem HOk.kept (hh : HOk S F W0 O h w) {l : Nat} {o : Obj} (hl : W0.heap[l]? = some o) (hs : l ∉ S) : w.heap[l]? = some o := hh.ext.heap hs hl
theorem KOk.setIf (hK : KOk N D O K a) {t : Nat} {p : PV} {v : Value} (hv : DenP O p v) {K' : Slo} (hs : xHu N K (some t) p = some K') : KOk N D O K' { a with tmps := a.tmps.setIfInBounds t v } := xFG hK hv hs
def xMh (N : Nat) : List (Nat × PV) -> Slo -> Option Slo
 | [], K => some K
 | (t, p) :: l, K => match xHu N K (some t) p with
  | some K' => xMh N l K'
  | none => none
theorem xMg : ∀ {ps : List Nat} {args : List PV} {vs : List Value} {K K' : Slo} {a : Act}, xMh N (ps.zip args) K = some K' -> DenArgs O args vs -> ps.length = args.length -> KOk N D O K a -> KOk N D O K' { a with tmps := (ps.zip vs).foldl (fun t (p : Nat × Value) => t.setIfInBounds p.1 p.2) a.tmps }
 | [], args, vs, K, K', a, hs, ha, _, hK => by
  simp only [List.zip_nil_left, xMh, Option.some.injEq] at hs;subst hs;simpa using hK
 | t :: ps, [], _, _, _, _, _, _, hl, _ => by simp at hl
 | t :: ps, p :: args, vs, K, K', a, hs, ⟨v, r, e, h1, h2⟩, hl, hK => by
  subst e;simp only [List.zip_cons_cons, xMh] at hs;split at hs
  ·rename_i K1 hK1;have := xMg (ps := ps) hs h2 (by simpa using hl) (hK.setIf h1 hK1);simpa using this
  ·cases hs
end
def rnd (P : Program) (call : (β : Type) -> xAK β) (N : Nat) (ps : List Nat) (as1 bd : Code) (Kc : Slo) (β : Type) (args : List PV) (h : List Root) (k : Option XT -> List Root -> Option β) : Option β :=
 bif Nat.beq ps.length args.length then match xMh N (ps.zip args) Kc with
  | some K => evR P call N 300 as1 β K h (fun e K' h' => match e with
   | .normal => evR P call N 300 bd β K' h' (fun e2 _ h2 => match e2 with
    | .normal => k none h2
    | e2 => k (some e2) h2)
   | _ => none)
  | none => none
 else none
def XT.code : XT -> Code
 | .normal => .skip
 | .exit id => .exit id
 | .ret => .ret
def xFa (r : Loop) (p : Option XT) : Loop := { r with state := if p.isNone then .ready else .done, pending := p.map XT.code }
structure Recs (l : Nat) (r : Loop) (B : Option XT -> World) : Prop where
 ready : r.state = .ready
 pend : r.pending = none
 at' : ∀ p, (B p).heap[l]? = some (.loop (xFa r p))
 ex : ∀ p q, Ex [l] (B p) (B q)
 size : ∀ p q, (B p).heap.size = (B q).heap.size
theorem xEE {r : Loop} (h1 : r.state = .ready) (h2 : r.pending = none) : xFa r none = r := by
 obtain ⟨⟩ := r;simp only at h1 h2;subst h1; subst h2;rfl
section
variable {P : Program} {n : Nat} {S F : List Nat}
theorem rnd_ok {call : (β : Type) -> xAK β} (hcall : ∀ β, xAJ P (call β)) (hmx : P.follows .mixedOrders = true) {N l : Nat} {r : Loop} {B : Option XT -> World} (hR : Recs l r B) (hS : l ∉ S) {ps : List Nat} {as1 bd : Code} {Kc : Slo} (hps : r.params = ps.toArray) (has : r.assign = as1) (hbd : r.body = bd) {O0 : List Info} (hKc : KOk N [] O0 Kc { tmps := r.tmps, defers := [] })
  {β : Type} {args : List PV} {h : List Root} {k : Option XT -> List Root -> Option β} {x : β} (hr : rnd P call N ps as1 bd Kc β args h k = some x) {O : List Info} (hρ : Pre O0 O) {vs : List Value} (hvs : DenArgs O args vs) {W : World} (hh : HOk S F (B none) O h W) :
  YieldAt Fence.wide n P l vs.toArray W (fun e w' => ∃ p O' h', e = .returned (.bool p.isNone) /\ Pre O O' /\ HOk S F (B p) O' h' w' /\ k p h' = some x) := by
 unfold rnd at hr
 cases hb : Nat.beq ps.length args.length with
 | false => rw [hb] at hr; cases hr
 | true =>
  rw [hb] at hr;simp only [cond_true] at hr;have hlen := nbT hb;split at hr
  ·rename_i K1 hK1;have hl : W.heap[l]? = some (.loop r) := by
    have := hh.kept (hR.at' none) hS;rwa [xEE hR.ready hR.pend] at this
   have hvl : vs.length = args.length := hvs.len;have hy := run_yield (P := P) (args := vs.toArray) hl (by rw [hps]; simpa using (hvl.trans hlen.symm));rw [has, hbd] at hy;refine ⟨_, _, as1, bd, hy, roundIn_of_wpIn trivial ?_⟩;have hK2 : KOk N [] O K1 { tmps := (r.params.zip vs.toArray).foldl (fun t (p : Nat × Value) => t.setIfInBounds p.1 p.2) r.tmps, defers := [] } := by
    have := xMg hK1 hvs hlen (hKc.mono hρ);rw [hps];simpa using this
   refine xG4 (ro := some l) (n := n) hcall hmx 300 as1 β K1 h _ x hr S F (B none) O _ W hK2 hh _ (fun e O' K' h' a' w' hp he hK' hh' => ?_)
   cases e with
   | normal =>
    dsimp only at he;have hl1 : w'.heap[l]? = some (.loop r) := by
     have := hh'.kept (hR.at' none) hS;rwa [xEE hR.ready hR.pend] at this
    refine ⟨_, run_beginRound hl1 hR.ready, ?_⟩
    have hBn := hR.at' none;rw [xEE hR.ready hR.pend] at hBn;have hBlt := lt_of_block hBn;have hh2 : HOk S F ((B none).putObj l (.loop { r with state := .busy })) O' h' (w'.putObj l (.loop { r with state := .busy })) :=
     hh'.putObj hl1 rfl ⟨rfl, rfl, rfl, by simp, fun k _ hk => World.putObj_heap_other (by simpa using hk)⟩ (by simp) (World.putObj_heap_same hBlt)
    refine xG4 (ro := some l) (n := n) hcall hmx 300 bd β K' h' _ x he S F _ O' a' _ hK' hh2 _ (fun e2 O2 K2 h2 a2 w2 hp2 he2 _ hh3 => ?_);have hl3 : w2.heap[l]? = some (.loop { r with state := .busy }) := hh3.kept (World.putObj_heap_same hBlt) hS;have fin : ∀ p : Option XT, HOk S F (B p) O2 h2 (w2.putObj l (.loop (xFa r p))) := fun p =>
     hh3.putObj hl3 rfl (by
      have hx := hR.ex none p;refine ⟨hx.os, hx.tape, hx.output, by rw [World.putObj_size]; exact hx.size, fun k hk hkl => ?_⟩;rw [World.putObj_heap_other (by simpa using hkl)];exact hx.block k (by simpa using hk) hkl) (by rw [World.putObj_size]; exact hR.size p none) (hR.at' p)
    cases e2 with
    | normal =>
     have hend := run_endRound (P := P) none hl3;refine ⟨_, _, hend, none, O2, h2, rfl, hp.trans hp2, ?_, he2⟩;have := fin none;simpa [xFa] using this
    | exit id =>
     have hend := run_endRound (P := P) (some (.exit id)) hl3;refine ⟨_, _, hend, some (.exit id), O2, h2, rfl, hp.trans hp2, ?_, he2⟩;have := fin (some (.exit id));simpa [xFa, XT.code] using this
    | ret =>
     have hend := run_endRound (P := P) (some .ret) hl3;refine ⟨_, _, hend, some .ret, O2, h2, rfl, hp.trans hp2, ?_, he2⟩;have := fin (some .ret);simpa [xFa, XT.code] using this
   | exit id => cases he
   | ret => cases he
  ·cases hr
end
end
noncomputable section
open Go.RowKit
inductive AY where
 | no
 | two (a b : AY)
 | one (a : AY)
 | lp
def AY.l : AY -> AY
 | .two a _ => a
 | .one a => a
 | _ => .no
def AY.r : AY -> AY
 | .two _ b => b
 | _ => .no
def AYok (L : Code -> Prop) : AY -> Code -> Prop
 | .no, _ => True
 | .two a b, c => match c with
  | .seq x y => AYok L a x /\ AYok L b y
  | .cond _ x y => AYok L a x /\ AYok L b y
  | .block _ x => AYok L a x
  | _ => True
 | .one a, c => match c with
  | .seq x _ => AYok L a x
  | .cond _ x _ => AYok L a x
  | .block _ x => AYok L a x
  | _ => True
 | .lp, c => match c with
  | .loop x => L x
  | _ => True
theorem AYok.seq {L : Code -> Prop} {an : AY} {x y : Code} (h : AYok L an (.seq x y)) : AYok L an.l x /\ AYok L an.r y := by
 cases an with
 | no => exact ⟨trivial, trivial⟩
 | two a b => exact h
 | one a => exact ⟨h, trivial⟩
 | lp => exact ⟨trivial, trivial⟩
theorem AYok.cond {L : Code -> Prop} {an : AY} {c : Operand} {x y : Code} (h : AYok L an (.cond c x y)) : AYok L an.l x /\ AYok L an.r y := by
 cases an with
 | no => exact ⟨trivial, trivial⟩
 | two a b => exact h
 | one a => exact ⟨h, trivial⟩
 | lp => exact ⟨trivial, trivial⟩
theorem AYok.block {L : Code -> Prop} {an : AY} {id : Nat} {x : Code} (h : AYok L an (.block id x)) : AYok L an.l x := by
 cases an with
 | no => trivial
 | two a b => exact h
 | one a => exact h
 | lp => trivial
def AYP (L : Code -> Prop) (c : Code) : AY -> List Nat -> Prop
 | .no, _ => True
 | .two a b, p => AYP L c a (p ++ [0]) /\ AYP L c b (p ++ [1])
 | .one a, p => AYP L c a (p ++ [0])
 | .lp, p => L (xAt c (p ++ [0]))
theorem xKh {L : Code -> Prop} {c : Code} : ∀ {an : AY} {p : List Nat}, AYP L c an p -> AYok L an (xAt c p)
 | .no, p, _ => trivial
 | .two a b, p, h => by
  have h1 := xKh (an := a) h.1;have h2 := xKh (an := b) h.2;rw [xA8] at h1 h2;cases hc : xAt c p <;> rw [hc] at h1 h2 <;> first | exact ⟨h1, h2⟩ | exact h1 | trivial
 | .one a, p, h => by
  have h1 := xKh (an := a) (p := p ++ [0]) h;rw [xA8] at h1;cases hc : xAt c p <;> rw [hc] at h1 <;> first | exact h1 | trivial
 | .lp, p, h => by
  have h1 : L (xAt c (p ++ [0])) := h;rw [xA8] at h1;cases hc : xAt c p <;> rw [hc] at h1 <;> first | exact h1 | trivial
abbrev sch0 : Sch := ⟨[], []⟩
def lm0 : sch0.ty -> Option (xAB []) := fun _ => none
abbrev xOY (β : Type) := XT -> Slo -> List Root -> Option XT -> Option β
abbrev YlF := (β : Type) -> List PV -> List Root -> (Option XT -> List Root -> Option β) -> Option β
def yldGo (jy N : Nat) (yl : YlF) (β : Type) (o : Oper) (K : Slo) (h : List Root) (p : Option XT) (k : Slo -> List Root -> Option XT -> Option β) : Option β :=
 match o.op with
 | .call ⟨.value f, ⟨args⟩, _⟩ => match xAo K f, xRT K args with
  | some (.c (.hv i)), some q => bif Nat.beq i jy then (match p with
   | none => yl β q h (fun p' h2 => match xHu N K o.dst (.c (.sc (.bool p'.isNone))) with
    | some K2 => k K2 h2 p'
    | none => none)
   | some _ => none) else none
  | _, _ => none
 | _ => none
def yldOp (ops : Array Oper) (jy N : Nat) (yl : YlF) (β : Type) (o : Oper) (K : Slo) (h : List Root) (p : Option XT) (k : Slo -> List Root -> Option XT -> Option β) : Option β :=
 xJn ops K o (fun K => yldGo jy N yl β o K h p k) (fun K => match xHu N K o.dst .un with
  | some K2 => k K2 h p
  | none => none)
def evRdY {β : Type} (body : Slo -> List Root -> Option XT -> xOY β -> Option β) : Nat -> Slo -> List Root -> Option XT -> xOY β -> Option β
 | 0, _, _, _, _ => none
 | i + 1, K, h, p, k => body K h p (fun e K' h' p' => match e with
  | .normal => evRdY body i K' h' p' k
  | e => k e K' h' p')
def evY (P : Program) (pl : Nat -> Option PT) (call : (β : Type) -> xAK β) (m N jy : Nat) (yl : YlF) (ysp : Nat -> Option Nat) (LS : Sch) (oo : xBY) (LM : LS.ty -> Option (xAB oo)) : Nat -> AY -> Code -> (β : Type) -> Slo -> List Root -> Option XT -> xOY β -> Option β
 | 0, _, _, _, _, _, _, _ => none
 | d + 1, an, c, β, K, h, p, k => match c with
  | .skip => k .normal K h p
  | .exit id => k (.exit id) K h p
  | .ret => k .ret K h p
  | .region id ops false => match ysp id with
   | some j => xFj P N ops (call β) (ops.toList.take j) K h (fun K1 h1 => match ops.toList.drop j with
    | o :: os => yldOp ops jy N yl β o K1 h1 p (fun K2 h2 p' => xFj P N ops (call β) os K2 h2 (fun K3 h3 => k .normal K3 h3 p'))
    | [] => none)
   | none => xFj P N ops (call β) ops.toList K h (fun K1 h1 => k .normal K1 h1 p)
  | .region id ops true => match pl id with
   | some t => xJ7 P N ops (call β) t K h (fun K1 h1 => k .normal K1 h1 p)
   | none => none
  | .seq x y => evY P pl call m N jy yl ysp LS oo LM d an.l x β K h p (fun e K' h' p' => match e with
   | .normal => evY P pl call m N jy yl ysp LS oo LM d an.r y β K' h' p' k
   | e => k e K' h' p')
  | .cond c x y => match xAo K c with
   | some (.c (.sc (.bool b))) => bif b then evY P pl call m N jy yl ysp LS oo LM d an.l x β K h p k else evY P pl call m N jy yl ysp LS oo LM d an.r y β K h p k
   | _ => none
  | .block id x => evY P pl call m N jy yl ysp LS oo LM d an.l x β K h p (fun e K' h' p' => match e with
   | .exit id' => bif Nat.beq id' id then k .normal K' h' p' else k (.exit id') K' h' p'
   | e => k e K' h' p')
  | .loop x => match an, p with
   | .lp, none => match LS.dec m K h with
    | some s => ob (LM s) (fun t => xV2 (fun e K h => k e K h none) oo t)
    | none => none
   | _, _ => evRdY (fun K h p k => evY P pl call m N jy yl ysp LS oo LM d .no x β K h p k) 64 K h p k
  | _ => none
section
variable {P : Program} {m N jy l n : Nat} {S F : List Nat} {B : Option XT -> World} {O0 : List Info}
def YlOk (P : Program) (n l : Nat) (S F : List Nat) (B : Option XT -> World) (O0 : List Info) (yl : YlF) : Prop :=
 ∀ (β : Type) (args : List PV) (h : List Root) (k : Option XT -> List Root -> Option β) (x : β), yl β args h k = some x -> ∀ (O : List Info) (vs : List Value) (W : World), Pre O0 O -> DenArgs O args vs -> HOk S F (B none) O h W ->
  YieldAt Fence.wide n P l vs.toArray W (fun e w' => ∃ p O' h', e = .returned (.bool p.isNone) /\ Pre O O' /\ HOk S F (B p) O' h' w' /\ k p h' = some x)
def xXV (P : Program) (n N : Nat) (S F : List Nat) (B : Option XT -> World) (O0 : List Info) (LS : Sch) (oo : xBY) (LM : LS.ty -> Option (xAB oo)) (x : Code) : Prop :=
 ∀ (s : LS.ty) (t : xAB oo), LM s = some t -> ∀ (O : List Info) (a : Act) (W : World), Pre O0 O -> KOk N [] O (xAM same LS.slots (LS.a s)) a -> HOk S F (B none) O (xAe same LS.roots (LS.b s)) W -> ∀ Q : Exit -> Act -> World -> Prop,
  (∀ (O' : List Info) (a' : Act) (W' : World), Pre O0 O' -> KOk N [] O' (xAN oo t).2.1 a' -> HOk S F (B none) O' (xAN oo t).2.2 W' -> Q (xAN oo t).1.out a' W') -> ∃ i, Code.roundsIn (RFo none) n P x Q i a W
theorem xHy {O O' : List Info} (h : Pre O0 O) (hm : O0.length <= m) (h' : PreM m O O') : Pre O0 O' := fun j i e => h' j (Nat.lt_of_lt_of_le (List.getElem?_eq_some_iff.1 e).1 hm) i (h j i e)
theorem xV9 {yl : YlF} (hY : YlOk P (n - 1) l S F B O0 yl) (hy : ∃ i, O0[jy]? = some i /\ i.val = .func (.yield l) #[] #[]) {β : Type} {o : Oper} {K : Slo} {h : List Root} {p : Option XT} {k : Slo -> List Root -> Option XT -> Option β} {x : β}
  (hr : yldGo jy N yl β o K h p k = some x) {O : List Info} {a : Act} {W : World} (hρ : Pre O0 O) (hK : KOk N [] O K a) (hh : HOk S F (B p) O h W) {Q : Exit -> Act -> World -> Prop} {next : Act -> World -> Prop}
  (hn : ∀ p' O' K' h' a' W', Pre O O' -> KOk N [] O' K' a' -> HOk S F (B p') O' h' W' -> k K' h' p' = some x -> next a' W') : o.wpIn (RFo none) n P a W next Q := by
 unfold yldGo at hr;split at hr
 ·rename_i f args ts ho;split at hr
  ·rename_i i q hf hq
   cases hb : Nat.beq i jy with
   | false => rw [hb] at hr; cases hr
   | true =>
    rw [hb] at hr;simp only [cond_true] at hr;have hi := nbT hb;subst hi;split at hr
    ·obtain ⟨iy, h1, h2⟩ := hy;obtain ⟨i2, h3, h4⟩ := xAa hK hf;have h5 := hρ _ _ h1;rw [h5] at h3;cases h3;have hv : a.eval f = .func (.yield l) #[] #[] := by rw [<- h2]; exact h4.1
     obtain ⟨fn, tmps, as1, bd, h6, h7⟩ := hY β q h _ x hr O (args.map a.eval) W hρ (xF5 hK hq) hh;refine ⟨fun _ _ => trivial, ?_⟩;have hrun : (execOp a.eval o).run P W = .ok (.round l fn tmps as1 bd) W := by
      unfold execOp;simp only [ho];simp [resolve, Deferred.ofValue, hv, invoke, Sem.run_bind, Result.andThen, h6]
     rw [xDq (fun d hd => by cases hd) hrun, Oper.uponIn_round];refine ⟨fun hd => by simp [RFo, Fence.wide] at hd, RoundIn.mono h7 ?_⟩
     rintro e w' ⟨p', O', h', rfl, e1, e2, e3⟩
     split at e3
     ·rename_i K2 hK2;exact hn p' O' K2 h' _ w' e1 (xFG (hK.mono e1) (v := .c (.sc (.bool p'.isNone))) (u := .bool p'.isNone) ⟨rfl, rfl⟩ hK2) e2 e3
     ·cases e3
    ·cases hr
  ·cases hr
 ·cases hr
theorem xV8 {yl : YlF} (hY : YlOk P (n - 1) l S F B O0 yl) (hy : ∃ i, O0[jy]? = some i /\ i.val = .func (.yield l) #[] #[]) {β : Type} {ops : Array Oper} {o : Oper} {K : Slo} {h : List Root} {p : Option XT} {k : Slo -> List Root -> Option XT -> Option β} {x : β}
  (hr : yldOp ops jy N yl β o K h p k = some x) {O : List Info} {a : Act} {W : World} (hρ : Pre O0 O) (hK : KOk N [] O K a) (hh : HOk S F (B p) O h W) {Q : Exit -> Act -> World -> Prop} {next : Act -> World -> Prop}
  (hn : ∀ p' O' K' h' a' W', Pre O O' -> KOk N [] O' K' a' -> HOk S F (B p') O' h' W' -> k K' h' p' = some x -> next a' W') :
  if Region.wanted o (yielded ops a.tmps) then o.wpIn (RFo none) n P a W next Q else (∀ f, o.about P W a.eval = some f -> (RFo none).fn f) /\ next (a.put o.dst undef) W := by
 unfold yldOp at hr;rcases xCI hK hr with ⟨hw, K1, h1, h2, _, _⟩ | ⟨hw, K1, h1, h2, _, _⟩
 ·rw [if_pos hw];exact xV9 hY hy h1 hρ h2 hh hn
 ·rw [if_neg (by rw [hw]; simp)];refine ⟨fun _ _ => trivial, ?_⟩;split at h1
  ·rename_i K2 hK2;exact hn p O K2 h _ W (Pre.refl O) (xFG (v := .un) h2 rfl hK2) hh h1
  ·cases h1
theorem xLK {ops : Array Oper} {Q : Exit -> Act -> World -> Prop} {o : Oper} {os : List Oper} {a : Act} {W : World} (h : if Region.wanted o (yielded ops a.tmps) then o.wpIn (RFo none) n P a W (wpListIn (RFo none) n P ops Q os) Q else (∀ f, o.about P W a.eval = some f -> (RFo none).fn f) /\ wpListIn (RFo none) n P ops Q os (a.put o.dst undef) W) : wpListIn (RFo none) n P ops Q (o :: os) a W := by
 unfold wpListIn;exact h
theorem xQv {β : Type} {u : Code} {body : Slo -> List Root -> Option XT -> xOY β -> Option β}
  (hb : ∀ (K : Slo) (h : List Root) (p : Option XT) (k : xOY β) (x : β), body K h p k = some x -> ∀ (O : List Info) (a : Act) (W : World), Pre O0 O -> KOk N [] O K a -> HOk S F (B p) O h W -> ∀ Q : Exit -> Act -> World -> Prop,
   (∀ (e : XT) (O' : List Info) (K' : Slo) (h' : List Root) (p' : Option XT) (a' : Act) (W' : World), Pre O0 O' -> k e K' h' p' = some x -> KOk N [] O' K' a' -> HOk S F (B p') O' h' W' -> Q e.out a' W') -> u.wpIn (RFo none) n P Q a W) :
  ∀ (i : Nat) (K : Slo) (h : List Root) (p : Option XT) (k : xOY β) (x : β), evRdY body i K h p k = some x -> ∀ (O : List Info) (a : Act) (W : World), Pre O0 O -> KOk N [] O K a -> HOk S F (B p) O h W -> ∀ Q : Exit -> Act -> World -> Prop,
   (∀ (e : XT) (O' : List Info) (K' : Slo) (h' : List Root) (p' : Option XT) (a' : Act) (W' : World), Pre O0 O' -> k e K' h' p' = some x -> KOk N [] O' K' a' -> HOk S F (B p') O' h' W' -> Q e.out a' W') -> Code.roundsIn (RFo none) n P u Q i a W
 | 0, _, _, _, _, _, hr => by cases hr
 | i + 1, K, h, p, k, x, hr => fun O a W hρ hK hh Q hn => by
  refine hb K h p _ x hr O a W hρ hK hh _ (fun e O' K' h' p' a' W' hp he hK' hh' => ?_)
  cases e with
  | normal => exact xQv hb i K' h' p' k x he O' a' W' hp hK' hh' Q hn
  | exit id => exact hn _ O' K' h' p' a' W' hp he hK' hh'
  | ret => exact hn _ O' K' h' p' a' W' hp he hK' hh'
theorem xG2 {call : (β : Type) -> xAK β} (hcall : ∀ β, xAJ P (call β)) (hmx : P.follows .mixedOrders = true) {pl : Nat -> Option PT} {yl : YlF} (hY : YlOk P (n - 1) l S F B O0 yl) (hy : ∃ i, O0[jy]? = some i /\ i.val = .func (.yield l) #[] #[]) (hm : O0.length <= m) {ysp : Nat -> Option Nat} {LS : Sch} {oo : xBY} {LM : LS.ty -> Option (xAB oo)} :
  ∀ (d : Nat) (an : AY) (c : Code), AYok (xXV P n N S F B O0 LS oo LM) an c -> xAL pl c = true -> ∀ (β : Type) (K : Slo) (h : List Root) (p : Option XT) (k : xOY β) (x : β), evY P pl call m N jy yl ysp LS oo LM d an c β K h p k = some x ->
  ∀ (O : List Info) (a : Act) (W : World), Pre O0 O -> KOk N [] O K a -> HOk S F (B p) O h W -> ∀ Q : Exit -> Act -> World -> Prop,
  (∀ (e : XT) (O' : List Info) (K' : Slo) (h' : List Root) (p' : Option XT) (a' : Act) (W' : World), Pre O0 O' -> k e K' h' p' = some x -> KOk N [] O' K' a' -> HOk S F (B p') O' h' W' -> Q e.out a' W') -> c.wpIn (RFo none) n P Q a W
 | 0, _, _, _, _, _, _, _, _, _, _, hr => by cases hr
 | d + 1, an, c, hA, hreg, β, K, h, p, k, x, hr => fun O a W hρ hK hh Q hn => by
  cases c with
  | skip => exact wpIn_skip (hn .normal O K h p a W hρ hr hK hh)
  | exit id => exact wpIn_exit (hn (.exit id) O K h p a W hρ hr hK hh)
  | ret => exact wpIn_ret (hn .ret O K h p a W hρ hr hK hh)
  | region id ops draw =>
   cases draw with
   | false =>
    refine wpIn_region_list ?_;simp only [evY] at hr;split at hr
    ·rename_i j hj;have := xDB (P := P) (N := N) (ops := ops) (S := S) (F := F) (W0 := B p) (r := x) (ro := none) (n := n) (hcall β) (Q := Q) (ops.toList.drop j) (ops.toList.take j) O K h a W _ hr hK hh (fun a' w' hb => by
      obtain ⟨O', K', h', h1, h2, h3, h4⟩ := hb;dsimp only at h4;split at h4
      ·rename_i o os hos;rw [hos];have hw := xV8 (ops := ops) (n := n) hY hy h4 (hρ.trans h1) h2 h3 (Q := Q) (next := wpListIn (RFo none) n P ops Q os) (fun p' O2 K2 h2' a2 w2 e1 e2 e3 e4 => by
        have := xDB (P := P) (N := N) (ops := ops) (S := S) (F := F) (W0 := B p') (r := x) (ro := none) (n := n) (hcall β) (Q := Q) [] os O2 K2 h2' a2 w2 _ e4 e2 e3 (fun a3 w3 hb3 => by
         obtain ⟨O3, K3, h3', q1, q2, q3, q4⟩ := hb3;exact wpListIn_nil (hn .normal O3 K3 h3' p' a3 w3 (((hρ.trans h1).trans e1).trans q1) q4 q2 q3))
        simpa using this)
       exact xLK hw
      ·cases h4)
     simpa using this
    ·have := xDB (P := P) (N := N) (ops := ops) (S := S) (F := F) (W0 := B p) (r := x) (ro := none) (n := n) (hcall β) (Q := Q) [] ops.toList O K h a W _ hr hK hh (fun a' w' hb => by
      obtain ⟨O', K', h', h1, h2, h3, h4⟩ := hb;exact wpListIn_nil (hn .normal O' K' h' p a' w' (hρ.trans h1) h4 h2 h3))
     simpa using this
   | true =>
    simp only [evY] at hr;simp only [xAL] at hreg;split at hr
    ·rename_i t ht;rw [ht] at hreg;exact wpIn_wide.2 (xIQ (hcall β) hmx hreg hr hK hh (fun O' K' h' a' w' h1 h2 h3 h4 => hn .normal O' K' h' p a' w' (hρ.trans h1) h2 h3 h4))
    ·cases hr
  | seq u v =>
   simp only [xAL, Bool.and_eq_true] at hreg;obtain ⟨hA1, hA2⟩ := hA.seq;refine wpIn_seq (xG2 hcall hmx hY hy hm d an.l u hA1 hreg.1 β K h p _ x hr O a W hρ hK hh _ (fun e O' K' h' p' a' w' hp he hK' hh' => ?_))
   cases e with
   | normal => exact xG2 hcall hmx hY hy hm d an.r v hA2 hreg.2 β K' h' p' k x he O' a' w' hp hK' hh' Q hn
   | exit id => exact hn _ O' K' h' p' a' w' hp he hK' hh'
   | ret => exact hn _ O' K' h' p' a' w' hp he hK' hh'
  | cond c u v =>
   simp only [xAL, Bool.and_eq_true] at hreg;obtain ⟨hA1, hA2⟩ := hA.cond;simp only [evY] at hr;split at hr
   ·rename_i b hc;have hb : a.eval c = .bool b := (xAa hK hc).1
    cases b with
    | true => exact wpIn_cond_true hb (xG2 hcall hmx hY hy hm d an.l u hA1 hreg.1 β K h p k x hr O a W hρ hK hh Q hn)
    | false => exact wpIn_cond_false hb (xG2 hcall hmx hY hy hm d an.r v hA2 hreg.2 β K h p k x hr O a W hρ hK hh Q hn)
   ·cases hr
  | block id u =>
   refine wpIn_block (xG2 hcall hmx hY hy hm d an.l u hA.block hreg β K h p _ x hr O a W hρ hK hh _ (fun e O' K' h' p' a' w' hp he hK' hh' => ?_))
   cases e with
   | normal => exact hn .normal O' K' h' p' a' w' hp he hK' hh'
   | exit id' =>
    show Exit.inBlock id Q (.exit id') a' w';dsimp only at he
    cases hb : Nat.beq id' id with
    | true =>
     rw [hb] at he;have := nbT hb;subst this;show (if id' = id' then Q .normal a' w' else Q (.exit id') a' w');rw [if_pos rfl];exact hn .normal O' K' h' p' a' w' hp he hK' hh'
    | false =>
     rw [hb] at he;have hne := Nat.ne_of_beq_eq_false hb;show (if id' = id then Q .normal a' w' else Q (.exit id') a' w');rw [if_neg hne];exact hn (.exit id') O' K' h' p' a' w' hp he hK' hh'
   | ret => exact hn .ret O' K' h' p' a' w' hp he hK' hh'
  | loop u =>
   simp only [evY] at hr;split at hr
   ·split at hr
    ·rename_i s hs;obtain ⟨t, ht, hk⟩ := xDt hr;rw [xEm] at hk;obtain ⟨Z, h2, h3, h4⟩ := Sch.dec_ok hs hK hh;obtain ⟨i, h5⟩ := hA s t ht Z a W (xHy hρ hm h2) h3 h4 Q (fun O' a' W' hp hK' hh' => hn _ O' _ _ none a' W' hp hk hK' hh');exact wpIn_loop_rounds i h5
    ·cases hr
   ·exact wpIn_loop_rounds 64 (xQv (fun K h p k x hr => xG2 hcall hmx hY hy hm d .no u trivial hreg β K h p k x hr) 64 K h p k x hr O a W hρ hK hh Q hn)
  | rangeFunc f q u v => cases hr
  | scope u => cases hr
  | label q => cases hr
  | goto q => cases hr
  | refuse s => cases hr
theorem xKZ {call : (β : Type) -> xAK β} (hcall : ∀ β, xAJ P (call β)) (hmx : P.follows .mixedOrders = true) {pl : Nat -> Option PT} {yl : YlF} (hY : YlOk P (n - 1) l S F B O0 yl) (hy : ∃ i, O0[jy]? = some i /\ i.val = .func (.yield l) #[] #[]) (hm : O0.length <= m) {ysp : Nat -> Option Nat} {LS : Sch} {oo : xBY} {M : Nat -> LS.ty -> Option (xAB oo)} {c : Code} (hreg : xAL pl c = true) (h0 : ∀ s, M 0 s = none)
  (hs : ∀ (i : Nat) (s : LS.ty), M (i + 1) s = evY P pl call m N jy yl ysp sch0 [] lm0 300 .no c (xAB oo) (xAM same LS.slots (LS.a s)) (xAe same LS.roots (LS.b s)) none (fun e K h p => match p with
   | none => match e with
    | .normal => ob (LS.dec m K h) (fun s' => M i s')
    | e => xBk m oo e K h
   | some _ => none)) : ∀ i, xXV P n N S F B O0 LS oo (M i) c := by
 have main : ∀ (i : Nat) (s : LS.ty) (t : xAB oo), M i s = some t -> ∀ (O : List Info) (a : Act) (W : World), Pre O0 O -> KOk N [] O (xAM same LS.slots (LS.a s)) a -> HOk S F (B none) O (xAe same LS.roots (LS.b s)) W -> ∀ Q : Exit -> Act -> World -> Prop,
   (∀ (O' : List Info) (a' : Act) (W' : World), Pre O0 O' -> KOk N [] O' (xAN oo t).2.1 a' -> HOk S F (B none) O' (xAN oo t).2.2 W' -> Q (xAN oo t).1.out a' W') -> Code.roundsIn (RFo none) n P c Q i a W := by
  intro i
  induction i with
  | zero => intro s t ht; rw [h0] at ht; cases ht
  | succ i ih =>
   intro s t ht O a W hρ hK hh Q hn;rw [hs] at ht;refine xG2 hcall hmx hY hy hm 300 .no c trivial hreg (xAB oo) _ _ none _ t ht O a W hρ hK hh _ (fun e O' K' h' p' a' w' hp he hK' hh' => ?_)
   cases p' with
   | some _ => cases he
   | none =>
    cases e with
    | normal =>
     obtain ⟨s', h1, h2⟩ := xDt he;obtain ⟨Z', h3, h4, h5⟩ := Sch.dec_ok h1 hK' hh';exact ih s' t h2 Z' a' w' (xHy hp hm h3) h4 h5 Q hn
    | exit id =>
     obtain ⟨h1, Z', h3, h4, h5⟩ := xBz he hK' hh';have := hn Z' a' w' (xHy hp hm h3) h4 h5;rw [h1] at this;exact this
    | ret =>
     obtain ⟨h1, Z', h3, h4, h5⟩ := xBz he hK' hh';have := hn Z' a' w' (xHy hp hm h3) h4 h5;rw [h1] at this;exact this
 exact fun i s t ht O a W hρ hK hh Q hn => ⟨i, main i s t ht O a W hρ hK hh Q hn⟩
end
end
end Go.Proofs.YtnomnijhlbalaaaGreatDoor
