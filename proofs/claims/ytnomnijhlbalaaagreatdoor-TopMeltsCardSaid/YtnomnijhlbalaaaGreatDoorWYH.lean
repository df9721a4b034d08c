/- A part of the proof of the theorem of the last file. No condition. By an AI agent. -/
import Derived.Test.YtnomnijhlbalaaaGreatDoorWY8
namespace Go.Proofs.YtnomnijhlbalaaaGreatDoor
noncomputable section
open Go.RowKit
inductive AY where
 | no
 | two (a b : AY)
 | one (a : AY)
 | lp
def AY.l : AY -> AY
 | .two a _ => a
 | .one a => a
 | _ => .no
def AY.r : AY -> AY
 | .two _ b => b
 | _ => .no
def AYok (L : Code -> Prop) : AY -> Code -> Prop
 | .no, _ => True
 | .two a b, c => match c with
  | .seq x y => AYok L a x /\ AYok L b y
  | .cond _ x y => AYok L a x /\ AYok L b y
  | .block _ x => AYok L a x
  | _ => True
 | .one a, c => match c with
  | .seq x _ => AYok L a x
  | .cond _ x _ => AYok L a x
  | .block _ x => AYok L a x
  | _ => True
 | .lp, c => match c with
  | .loop x => L x
  | _ => True
theorem AYok.seq {L : Code -> Prop} {an : AY} {x y : Code} (h : AYok L an (.seq x y)) : AYok L an.l x /\ AYok L an.r y := by
 cases an with
 | no => exact ⟨trivial, trivial⟩
 | two a b => exact h
 | one a => exact ⟨h, trivial⟩
 | lp => exact ⟨trivial, trivial⟩
theorem AYok.cond {L : Code -> Prop} {an : AY} {c : Operand} {x y : Code} (h : AYok L an (.cond c x y)) : AYok L an.l x /\ AYok L an.r y := by
 cases an with
 | no => exact ⟨trivial, trivial⟩
 | two a b => exact h
 | one a => exact ⟨h, trivial⟩
 | lp => exact ⟨trivial, trivial⟩
theorem AYok.block {L : Code -> Prop} {an : AY} {id : Nat} {x : Code} (h : AYok L an (.block id x)) : AYok L an.l x := by
 cases an with
 | no => trivial
 | two a b => exact h
 | one a => exact h
 | lp => trivial
def AYP (L : Code -> Prop) (c : Code) : AY -> List Nat -> Prop
 | .no, _ => True
 | .two a b, p => AYP L c a (p ++ [0]) /\ AYP L c b (p ++ [1])
 | .one a, p => AYP L c a (p ++ [0])
 | .lp, p => L (xAw c (p ++ [0]))
theorem xDU {L : Code -> Prop} {c : Code} : ∀ {an : AY} {p : List Nat}, AYP L c an p -> AYok L an (xAw c p)
 | .no, p, _ => trivial
 | .two a b, p, h => by
  have h1 := xDU (an := a) h.1;have h2 := xDU (an := b) h.2;rw [xBi] at h1 h2;cases hc : xAw c p <;> rw [hc] at h1 h2 <;> first | exact ⟨h1, h2⟩ | exact h1 | trivial
 | .one a, p, h => by
  have h1 := xDU (an := a) (p := p ++ [0]) h;rw [xBi] at h1;cases hc : xAw c p <;> rw [hc] at h1 <;> first | exact h1 | trivial
 | .lp, p, h => by
  have h1 : L (xAw c (p ++ [0])) := h;rw [xBi] at h1;cases hc : xAw c p <;> rw [hc] at h1 <;> first | exact h1 | trivial
abbrev sch0 : Sch := ⟨[], []⟩
def lm0 : sch0.ty -> Option (xAK []) := fun _ => none
abbrev xP5 (β : Type) := XT -> Slo -> List Root -> Option XT -> Option β
abbrev YlF := (β : Type) -> List PV -> List Root -> (Option XT -> List Root -> Option β) -> Option β
def yldGo (jy N : Nat) (yl : YlF) (β : Type) (o : Oper) (K : Slo) (h : List Root) (p : Option XT) (k : Slo -> List Root -> Option XT -> Option β) : Option β :=
 match o.op with
 | .call ⟨.value f, ⟨args⟩, _⟩ => match xAv K f, xTb K args with
  | some (.c (.hv i)), some q => bif Nat.beq i jy then (match p with
   | none => yl β q h (fun p' h2 => match xHT N K o.dst (.c (.sc (.bool p'.isNone))) with
    | some K2 => k K2 h2 p'
    | none => none)
   | some _ => none) else none
  | _, _ => none
 | _ => none
def yldOp (ops : Array Oper) (jy N : Nat) (yl : YlF) (β : Type) (o : Oper) (K : Slo) (h : List Root) (p : Option XT) (k : Slo -> List Root -> Option XT -> Option β) : Option β :=
 xKl ops K o (fun K => yldGo jy N yl β o K h p k) (fun K => match xHT N K o.dst .un with
  | some K2 => k K2 h p
  | none => none)
def evRdY {β : Type} (body : Slo -> List Root -> Option XT -> xP5 β -> Option β) : Nat -> Slo -> List Root -> Option XT -> xP5 β -> Option β
 | 0, _, _, _, _ => none
 | i + 1, K, h, p, k => body K h p (fun e K' h' p' => match e with
  | .normal => evRdY body i K' h' p' k
  | e => k e K' h' p')
def evY (P : Program) (pl : Nat -> Option PT) (call : (β : Type) -> xAT β) (m N jy : Nat) (yl : YlF) (ysp : Nat -> Option Nat) (LS : Sch) (oo : xBO) (LM : LS.ty -> Option (xAK oo)) : Nat -> AY -> Code -> (β : Type) -> Slo -> List Root -> Option XT -> xP5 β -> Option β
 | 0, _, _, _, _, _, _, _ => none
 | d + 1, an, c, β, K, h, p, k => match c with
  | .skip => k .normal K h p
  | .exit id => k (.exit id) K h p
  | .ret => k .ret K h p
  | .region id ops false => match ysp id with
   | some j => xFe P N ops (call β) (ops.toList.take j) K h (fun K1 h1 => match ops.toList.drop j with
    | o :: os => yldOp ops jy N yl β o K1 h1 p (fun K2 h2 p' => xFe P N ops (call β) os K2 h2 (fun K3 h3 => k .normal K3 h3 p'))
    | [] => none)
   | none => xFe P N ops (call β) ops.toList K h (fun K1 h1 => k .normal K1 h1 p)
  | .region id ops true => match pl id with
   | some t => xK8 P N ops (call β) t K h (fun K1 h1 => k .normal K1 h1 p)
   | none => none
  | .seq x y => evY P pl call m N jy yl ysp LS oo LM d an.l x β K h p (fun e K' h' p' => match e with
   | .normal => evY P pl call m N jy yl ysp LS oo LM d an.r y β K' h' p' k
   | e => k e K' h' p')
  | .cond c x y => match xAv K c with
   | some (.c (.sc (.bool b))) => bif b then evY P pl call m N jy yl ysp LS oo LM d an.l x β K h p k else evY P pl call m N jy yl ysp LS oo LM d an.r y β K h p k
   | _ => none
  | .block id x => evY P pl call m N jy yl ysp LS oo LM d an.l x β K h p (fun e K' h' p' => match e with
   | .exit id' => bif Nat.beq id' id then k .normal K' h' p' else k (.exit id') K' h' p'
   | e => k e K' h' p')
  | .loop x => match an, p with
   | .lp, none => match LS.dec m K h with
    | some s => ob (LM s) (fun t => xX9 (fun e K h => k e K h none) oo t)
    | none => none
   | _, _ => evRdY (fun K h p k => evY P pl call m N jy yl ysp LS oo LM d .no x β K h p k) 64 K h p k
  | _ => none
section
variable {P : Program} {m N jy l n : Nat} {S F : List Nat} {B : Option XT -> World} {ρ0 : List Info}
def YlOk (P : Program) (n l : Nat) (S F : List Nat) (B : Option XT -> World) (ρ0 : List Info) (yl : YlF) : Prop :=
 ∀ (β : Type) (args : List PV) (h : List Root) (k : Option XT -> List Root -> Option β) (x : β), yl β args h k = some x -> ∀ (ρ : List Info) (vs : List Value) (W : World), Pre ρ0 ρ -> DenArgs ρ args vs -> HOk S F (B none) ρ h W ->
  YieldAt Fence.wide n P l vs.toArray W (fun e w' => ∃ p ρ' h', e = .returned (.bool p.isNone) /\ Pre ρ ρ' /\ HOk S F (B p) ρ' h' w' /\ k p h' = some x)
def yAn (P : Program) (n N : Nat) (S F : List Nat) (B : Option XT -> World) (ρ0 : List Info) (LS : Sch) (oo : xBO) (LM : LS.ty -> Option (xAK oo)) (x : Code) : Prop :=
 ∀ (s : LS.ty) (t : xAK oo), LM s = some t -> ∀ (ρ : List Info) (a : Act) (W : World), Pre ρ0 ρ -> KOk N [] ρ (xA2 same LS.slots (LS.a s)) a -> HOk S F (B none) ρ (xAn same LS.roots (LS.b s)) W -> ∀ Q : Exit -> Act -> World -> Prop,
  (∀ (ρ' : List Info) (a' : Act) (W' : World), Pre ρ0 ρ' -> KOk N [] ρ' (xAY oo t).2.1 a' -> HOk S F (B none) ρ' (xAY oo t).2.2 W' -> Q (xAY oo t).1.out a' W') -> ∃ i, Code.roundsIn (RFo none) n P x Q i a W
theorem xH0 {ρ ρ' : List Info} (h : Pre ρ0 ρ) (hm : ρ0.length <= m) (h' : PreM m ρ ρ') : Pre ρ0 ρ' := fun j i e => h' j (Nat.lt_of_lt_of_le (List.getElem?_eq_some_iff.1 e).1 hm) i (h j i e)
theorem xYf {yl : YlF} (hY : YlOk P (n - 1) l S F B ρ0 yl) (hy : ∃ i, ρ0[jy]? = some i /\ i.val = .func (.yield l) #[] #[]) {β : Type} {o : Oper} {K : Slo} {h : List Root} {p : Option XT} {k : Slo -> List Root -> Option XT -> Option β} {x : β}
  (hr : yldGo jy N yl β o K h p k = some x) {ρ : List Info} {a : Act} {W : World} (hρ : Pre ρ0 ρ) (hK : KOk N [] ρ K a) (hh : HOk S F (B p) ρ h W) {Q : Exit -> Act -> World -> Prop} {next : Act -> World -> Prop}
  (hn : ∀ p' ρ' K' h' a' W', Pre ρ ρ' -> KOk N [] ρ' K' a' -> HOk S F (B p') ρ' h' W' -> k K' h' p' = some x -> next a' W') : o.wpIn (RFo none) n P a W next Q := by
 unfold yldGo at hr;split at hr
 ·rename_i f args ts ho;split at hr
  ·rename_i i q hf hq
   cases hb : Nat.beq i jy with
   | false => rw [hb] at hr; cases hr
   | true =>
    rw [hb] at hr;simp only [cond_true] at hr;have hi := nbT hb;subst hi;split at hr
    ·obtain ⟨iy, h1, h2⟩ := hy;obtain ⟨i2, h3, h4⟩ := xAa hK hf;have h5 := hρ _ _ h1;rw [h5] at h3;cases h3;have hv : a.eval f = .func (.yield l) #[] #[] := by rw [<- h2]; exact h4.1
     obtain ⟨fn, tmps, as1, bd, h6, h7⟩ := hY β q h _ x hr ρ (args.map a.eval) W hρ (xGg hK hq) hh;refine ⟨fun _ _ => trivial, ?_⟩;have hrun : (execOp a.eval o).run P W = .ok (.round l fn tmps as1 bd) W := by
      unfold execOp;simp only [ho];simp [resolve, Deferred.ofValue, hv, invoke, Sem.run_bind, Result.andThen, h6]
     rw [xDf (fun d hd => by cases hd) hrun, Oper.uponIn_round];refine ⟨fun hd => by simp [RFo, Fence.wide] at hd, RoundIn.mono h7 ?_⟩
     rintro e w' ⟨p', ρ', h', rfl, e1, e2, e3⟩
     split at e3
     ·rename_i K2 hK2;exact hn p' ρ' K2 h' _ w' e1 (xFI (hK.mono e1) (v := .c (.sc (.bool p'.isNone))) (u := .bool p'.isNone) ⟨rfl, rfl⟩ hK2) e2 e3
     ·cases e3
    ·cases hr
  ·cases hr
 ·cases hr
theorem xYe {yl : YlF} (hY : YlOk P (n - 1) l S F B ρ0 yl) (hy : ∃ i, ρ0[jy]? = some i /\ i.val = .func (.yield l) #[] #[]) {β : Type} {ops : Array Oper} {o : Oper} {K : Slo} {h : List Root} {p : Option XT} {k : Slo -> List Root -> Option XT -> Option β} {x : β}
  (hr : yldOp ops jy N yl β o K h p k = some x) {ρ : List Info} {a : Act} {W : World} (hρ : Pre ρ0 ρ) (hK : KOk N [] ρ K a) (hh : HOk S F (B p) ρ h W) {Q : Exit -> Act -> World -> Prop} {next : Act -> World -> Prop}
  (hn : ∀ p' ρ' K' h' a' W', Pre ρ ρ' -> KOk N [] ρ' K' a' -> HOk S F (B p') ρ' h' W' -> k K' h' p' = some x -> next a' W') :
  if Region.wanted o (yielded ops a.tmps) then o.wpIn (RFo none) n P a W next Q else (∀ f, o.about P W a.eval = some f -> (RFo none).fn f) /\ next (a.put o.dst undef) W := by
 unfold yldOp at hr;rcases xCz hK hr with ⟨hw, K1, h1, h2, _, _⟩ | ⟨hw, K1, h1, h2, _, _⟩
 ·rw [if_pos hw];exact xYf hY hy h1 hρ h2 hh hn
 ·rw [if_neg (by rw [hw]; simp)];refine ⟨fun _ _ => trivial, ?_⟩;split at h1
  ·rename_i K2 hK2;exact hn p ρ K2 h _ W (Pre.refl ρ) (xFI (v := .un) h2 rfl hK2) hh h1
  ·cases h1
theorem xMG {ops : Array Oper} {Q : Exit -> Act -> World -> Prop} {o : Oper} {os : List Oper} {a : Act} {W : World} (h : if Region.wanted o (yielded ops a.tmps) then o.wpIn (RFo none) n P a W (wpListIn (RFo none) n P ops Q os) Q else (∀ f, o.about P W a.eval = some f -> (RFo none).fn f) /\ wpListIn (RFo none) n P ops Q os (a.put o.dst undef) W) : wpListIn (RFo none) n P ops Q (o :: os) a W := by
 unfold wpListIn;exact h
theorem xRQ {β : Type} {u : Code} {body : Slo -> List Root -> Option XT -> xP5 β -> Option β}
  (hb : ∀ (K : Slo) (h : List Root) (p : Option XT) (k : xP5 β) (x : β), body K h p k = some x -> ∀ (ρ : List Info) (a : Act) (W : World), Pre ρ0 ρ -> KOk N [] ρ K a -> HOk S F (B p) ρ h W -> ∀ Q : Exit -> Act -> World -> Prop,
   (∀ (e : XT) (ρ' : List Info) (K' : Slo) (h' : List Root) (p' : Option XT) (a' : Act) (W' : World), Pre ρ0 ρ' -> k e K' h' p' = some x -> KOk N [] ρ' K' a' -> HOk S F (B p') ρ' h' W' -> Q e.out a' W') -> u.wpIn (RFo none) n P Q a W) :
  ∀ (i : Nat) (K : Slo) (h : List Root) (p : Option XT) (k : xP5 β) (x : β), evRdY body i K h p k = some x -> ∀ (ρ : List Info) (a : Act) (W : World), Pre ρ0 ρ -> KOk N [] ρ K a -> HOk S F (B p) ρ h W -> ∀ Q : Exit -> Act -> World -> Prop,
   (∀ (e : XT) (ρ' : List Info) (K' : Slo) (h' : List Root) (p' : Option XT) (a' : Act) (W' : World), Pre ρ0 ρ' -> k e K' h' p' = some x -> KOk N [] ρ' K' a' -> HOk S F (B p') ρ' h' W' -> Q e.out a' W') -> Code.roundsIn (RFo none) n P u Q i a W
 | 0, _, _, _, _, _, hr => by cases hr
 | i + 1, K, h, p, k, x, hr => fun ρ a W hρ hK hh Q hn => by
  refine hb K h p _ x hr ρ a W hρ hK hh _ (fun e ρ' K' h' p' a' W' hp he hK' hh' => ?_)
  cases e with
  | normal => exact xRQ hb i K' h' p' k x he ρ' a' W' hp hK' hh' Q hn
  | exit id => exact hn _ ρ' K' h' p' a' W' hp he hK' hh'
  | ret => exact hn _ ρ' K' h' p' a' W' hp he hK' hh'
theorem xHo {call : (β : Type) -> xAT β} (hcall : ∀ β, xAS P (call β)) (hmx : P.follows .mixedOrders = true) {pl : Nat -> Option PT} {yl : YlF} (hY : YlOk P (n - 1) l S F B ρ0 yl) (hy : ∃ i, ρ0[jy]? = some i /\ i.val = .func (.yield l) #[] #[]) (hm : ρ0.length <= m) {ysp : Nat -> Option Nat} {LS : Sch} {oo : xBO} {LM : LS.ty -> Option (xAK oo)} :
  ∀ (d : Nat) (an : AY) (c : Code), AYok (yAn P n N S F B ρ0 LS oo LM) an c -> xAU pl c = true -> ∀ (β : Type) (K : Slo) (h : List Root) (p : Option XT) (k : xP5 β) (x : β), evY P pl call m N jy yl ysp LS oo LM d an c β K h p k = some x ->
  ∀ (ρ : List Info) (a : Act) (W : World), Pre ρ0 ρ -> KOk N [] ρ K a -> HOk S F (B p) ρ h W -> ∀ Q : Exit -> Act -> World -> Prop,
  (∀ (e : XT) (ρ' : List Info) (K' : Slo) (h' : List Root) (p' : Option XT) (a' : Act) (W' : World), Pre ρ0 ρ' -> k e K' h' p' = some x -> KOk N [] ρ' K' a' -> HOk S F (B p') ρ' h' W' -> Q e.out a' W') -> c.wpIn (RFo none) n P Q a W
 | 0, _, _, _, _, _, _, _, _, _, _, hr => by cases hr
 | d + 1, an, c, hA, hreg, β, K, h, p, k, x, hr => fun ρ a W hρ hK hh Q hn => by
  cases c with
  | skip => exact wpIn_skip (hn .normal ρ K h p a W hρ hr hK hh)
  | exit id => exact wpIn_exit (hn (.exit id) ρ K h p a W hρ hr hK hh)
  | ret => exact wpIn_ret (hn .ret ρ K h p a W hρ hr hK hh)
  | region id ops draw =>
   cases draw with
   | false =>
    refine wpIn_region_list ?_;simp only [evY] at hr;split at hr
    ·rename_i j hj;have := xDp (P := P) (N := N) (ops := ops) (S := S) (F := F) (W0 := B p) (r := x) (ro := none) (n := n) (hcall β) (Q := Q) (ops.toList.drop j) (ops.toList.take j) ρ K h a W _ hr hK hh (fun a' w' hb => by
      obtain ⟨ρ', K', h', h1, h2, h3, h4⟩ := hb;dsimp only at h4;split at h4
      ·rename_i o os hos;rw [hos];have hw := xYe (ops := ops) (n := n) hY hy h4 (hρ.trans h1) h2 h3 (Q := Q) (next := wpListIn (RFo none) n P ops Q os) (fun p' ρ2 K2 h2' a2 w2 e1 e2 e3 e4 => by
        have := xDp (P := P) (N := N) (ops := ops) (S := S) (F := F) (W0 := B p') (r := x) (ro := none) (n := n) (hcall β) (Q := Q) [] os ρ2 K2 h2' a2 w2 _ e4 e2 e3 (fun a3 w3 hb3 => by
         obtain ⟨ρ3, K3, h3', q1, q2, q3, q4⟩ := hb3;exact wpListIn_nil (hn .normal ρ3 K3 h3' p' a3 w3 (((hρ.trans h1).trans e1).trans q1) q4 q2 q3))
        simpa using this)
       exact xMG hw
      ·cases h4)
     simpa using this
    ·have := xDp (P := P) (N := N) (ops := ops) (S := S) (F := F) (W0 := B p) (r := x) (ro := none) (n := n) (hcall β) (Q := Q) [] ops.toList ρ K h a W _ hr hK hh (fun a' w' hb => by
      obtain ⟨ρ', K', h', h1, h2, h3, h4⟩ := hb;exact wpListIn_nil (hn .normal ρ' K' h' p a' w' (hρ.trans h1) h4 h2 h3))
     simpa using this
   | true =>
    simp only [evY] at hr;simp only [xAU] at hreg;split at hr
    ·rename_i t ht;rw [ht] at hreg;exact wpIn_wide.2 (xJO (hcall β) hmx hreg hr hK hh (fun ρ' K' h' a' w' h1 h2 h3 h4 => hn .normal ρ' K' h' p a' w' (hρ.trans h1) h2 h3 h4))
    ·cases hr
  | seq u v =>
   simp only [xAU, Bool.and_eq_true] at hreg;obtain ⟨hA1, hA2⟩ := hA.seq;refine wpIn_seq (xHo hcall hmx hY hy hm d an.l u hA1 hreg.1 β K h p _ x hr ρ a W hρ hK hh _ (fun e ρ' K' h' p' a' w' hp he hK' hh' => ?_))
   cases e with
   | normal => exact xHo hcall hmx hY hy hm d an.r v hA2 hreg.2 β K' h' p' k x he ρ' a' w' hp hK' hh' Q hn
   | exit id => exact hn _ ρ' K' h' p' a' w' hp he hK' hh'
   | ret => exact hn _ ρ' K' h' p' a' w' hp he hK' hh'
  | cond c u v =>
   simp only [xAU, Bool.and_eq_true] at hreg;obtain ⟨hA1, hA2⟩ := hA.cond;simp only [evY] at hr;split at hr
   ·rename_i b hc;have hb : a.eval c = .bool b := (xAa hK hc).1
    cases b with
    | true => exact wpIn_cond_true hb (xHo hcall hmx hY hy hm d an.l u hA1 hreg.1 β K h p k x hr ρ a W hρ hK hh Q hn)
    | false => exact wpIn_cond_false hb (xHo hcall hmx hY hy hm d an.r v hA2 hreg.2 β K h p k x hr ρ a W hρ hK hh Q hn)
   ·cases hr
  | block id u =>
   refine wpIn_block (xHo hcall hmx hY hy hm d an.l u hA.block hreg β K h p _ x hr ρ a W hρ hK hh _ (fun e ρ' K' h' p' a' w' hp he hK' hh' => ?_))
   cases e with
   | normal => exact hn .normal ρ' K' h' p' a' w' hp he hK' hh'
   | exit id' =>
    show Exit.inBlock id Q (.exit id') a' w';dsimp only at he
    cases hb : Nat.beq id' id with
    | true =>
     rw [hb] at he;have := nbT hb;subst this;show (if id' = id' then Q .normal a' w' else Q (.exit id') a' w');rw [if_pos rfl];exact hn .normal ρ' K' h' p' a' w' hp he hK' hh'
    | false =>
     rw [hb] at he;have hne := Nat.ne_of_beq_eq_false hb;show (if id' = id then Q .normal a' w' else Q (.exit id') a' w');rw [if_neg hne];exact hn (.exit id') ρ' K' h' p' a' w' hp he hK' hh'
   | ret => exact hn .ret ρ' K' h' p' a' w' hp he hK' hh'
  | loop u =>
   simp only [evY] at hr;split at hr
   ·split at hr
    ·rename_i s hs;obtain ⟨t, ht, hk⟩ := xDh hr;rw [xD9] at hk;obtain ⟨ι, h2, h3, h4⟩ := Sch.dec_ok hs hK hh;obtain ⟨i, h5⟩ := hA s t ht ι a W (xH0 hρ hm h2) h3 h4 Q (fun ρ' a' W' hp hK' hh' => hn _ ρ' _ _ none a' W' hp hk hK' hh');exact wpIn_loop_rounds i h5
    ·cases hr
   ·exact wpIn_loop_rounds 64 (xRQ (fun K h p k x hr => xHo hcall hmx hY hy hm d .no u trivial hreg β K h p k x hr) 64 K h p k x hr ρ a W hρ hK hh Q hn)
  | rangeFunc f q u v => cases hr
  | scope u => cases hr
  | label q => cases hr
  | goto q => cases hr
  | refuse s => cases hr
theorem xCo {call : (β : Type) -> xAT β} (hcall : ∀ β, xAS P (call β)) (hmx : P.follows .mixedOrders = true) {pl : Nat -> Option PT} {yl : YlF} (hY : YlOk P (n - 1) l S F B ρ0 yl) (hy : ∃ i, ρ0[jy]? = some i /\ i.val = .func (.yield l) #[] #[]) (hm : ρ0.length <= m) {ysp : Nat -> Option Nat} {LS : Sch} {oo : xBO} {M : Nat -> LS.ty -> Option (xAK oo)} {c : Code} (hreg : xAU pl c = true) (h0 : ∀ s, M 0 s = none)
  (hs : ∀ (i : Nat) (s : LS.ty), M (i + 1) s = evY P pl call m N jy yl ysp sch0 [] lm0 300 .no c (xAK oo) (xA2 same LS.slots (LS.a s)) (xAn same LS.roots (LS.b s)) none (fun e K h p => match p with
   | none => match e with
    | .normal => ob (LS.dec m K h) (fun s' => M i s')
    | e => xBt m oo e K h
   | some _ => none)) : ∀ i, yAn P n N S F B ρ0 LS oo (M i) c := by
 have main : ∀ (i : Nat) (s : LS.ty) (t : xAK oo), M i s = some t -> ∀ (ρ : List Info) (a : Act) (W : World), Pre ρ0 ρ -> KOk N [] ρ (xA2 same LS.slots (LS.a s)) a -> HOk S F (B none) ρ (xAn same LS.roots (LS.b s)) W -> ∀ Q : Exit -> Act -> World -> Prop,
   (∀ (ρ' : List Info) (a' : Act) (W' : World), Pre ρ0 ρ' -> KOk N [] ρ' (xAY oo t).2.1 a' -> HOk S F (B none) ρ' (xAY oo t).2.2 W' -> Q (xAY oo t).1.out a' W') -> Code.roundsIn (RFo none) n P c Q i a W := by
  intro i
  induction i with
  | zero => intro s t ht; rw [h0] at ht; cases ht
  | succ i ih =>
   intro s t ht ρ a W hρ hK hh Q hn;rw [hs] at ht;refine xHo hcall hmx hY hy hm 300 .no c trivial hreg (xAK oo) _ _ none _ t ht ρ a W hρ hK hh _ (fun e ρ' K' h' p' a' w' hp he hK' hh' => ?_)
   cases p' with
   | some _ => cases he
   | none =>
    cases e with
    | normal =>
     obtain ⟨s', h1, h2⟩ := xDh he;obtain ⟨ι', h3, h4, h5⟩ := Sch.dec_ok h1 hK' hh';exact ih s' t h2 ι' a' w' (xH0 hp hm h3) h4 h5 Q hn
    | exit id =>
     obtain ⟨h1, ι', h3, h4, h5⟩ := xBF he hK' hh';have := hn ι' a' w' (xH0 hp hm h3) h4 h5;rw [h1] at this;exact this
    | ret =>
     obtain ⟨h1, ι', h3, h4, h5⟩ := xBF he hK' hh';have := hn ι' a' w' (xH0 hp hm h3) h4 h5;rw [h1] at this;exact this
 exact fun i s t ht ρ a W hρ hK hh Q hn => ⟨i, main i s t ht ρ a W hρ hK hh Q hn⟩
end
end
noncomputable section
open Go.RowKit
section
variable {P : Program} {S F S0 F0 : List Nat} {W0 B : World} {ρ ρ' : List Info} {h h' : List Root} {w w' : World}
theorem HOk.start (hh : HOk S F w ρ h w) (hE : Ext w B) : HOk S F B ρ h B := by
 have h1 := hh.ext' hE;refine ⟨Ex.refl _ _, h1.len, h1.ok, h1.sep, fun p r i b hr hi ho => ?_, fun p r i b hr hi ho => ?_, h1.layW, fun b hb => ⟨h1.outW hb, (hh.out b hb).2⟩, h1.cov, h1.cln⟩
 ·have := (hh.ok p r i hr hi).lt (xAu ho);rcases hh.mine p r i b hr hi ho with h2 | h2
  ·omega
  ·exact .inr h2
 ·have := (hh.ok p r i hr hi).lt ho;rcases hh.near p r i b hr hi ho with h2 | h2
  ·omega
  ·exact .inr h2
theorem own_lt (hh : HOk S0 F0 W0 ρ h w) {b : Nat} (hb : b ∈ xAp .own ρ h (List.range h.length)) : b < w.heap.size := by
 obtain ⟨p, _, r, i, hr, hi, ho⟩ := xAe.1 hb;exact (hh.ok p r i hr hi).lt (xAu ho)
theorem xVb (hl : h.length <= h'.length) : xEL (List.range h.length) h h' 0 = h' := by
 apply List.ext_getElem?;intro q;have hl2 := xIW (List.range h.length) h h' 0 hl
 cases e : (xEL (List.range h.length) h h' 0)[q]? with
 | none =>
  have := List.getElem?_eq_none_iff.1 e;rw [hl2] at this;exact (List.getElem?_eq_none_iff.2 this).symm
 | some r =>
  rcases xBj (List.range h.length) h h' 0 q r hl e with ⟨h1, _⟩ | ⟨h1, h2⟩
  ·exact h1.symm
  ·have h3 := (List.getElem?_eq_some_iff.1 h1).1;have : (List.range h.length).any (Nat.beq (0 + q)) = true := xC7.2 (List.mem_range.2 (by omega));rw [h2] at this; cases this
theorem HOk.back (hh : HOk S0 F0 W0 ρ h w) (hp : Pre ρ ρ') (hE : Ext w B) (hc : HOk (xAp .own ρ h (List.range h.length)) (xAp .foot ρ h (List.range h.length)) B ρ' h' w') : HOk S0 F0 W0 ρ' h' w' := by
 have := hh.merged (List.range h.length) (fun q r h1 _ => List.mem_range.2 (List.getElem?_eq_some_iff.1 h1).1) hp (hc.base hE hh.layW fun b hb => ⟨hh.outW hb, (hc.out b hb).2⟩);rwa [xVb (by rw [<- hh.len, <- hc.len]; exact hp.len)] at this
end
abbrev mark (b : Nat) : Deferred := { target := .collected b, args := #[] }
def rfEv (P : Program) (pl : Nat -> Nat -> Option PT) (call : (β : Type) -> xAT β) (N : Nat) (ysp : Nat -> Option Nat) (LS : Sch) (oo : xBO) (LM : LS.ty -> Option (xAK oo)) (an : AY) (gf na : Nat) (ps : List Nat) (as1 bd : Code) (β : Type) (j : Nat) (K : Slo) (h : List Root) (kk : Option XT -> List Root -> Option β) : Option β :=
 match h[j]? with
 | some (.clo g fs cs) => bif Nat.beq g gf && xBa P gf && Nat.beq (fs.length + 1 + cs.length) na then match P.funcs[gf]? with
  | some fn => match fn.body with
   | some c => evY P (pl gf) call (h.length + 1) (xAA P gf na) h.length (fun γ args h' k => rnd P call N ps as1 bd K γ args h' k) ysp LS oo LM 300 an c β
     (xX8 0 (fs.map .c ++ [.c (.hv h.length)] ++ cs.map .c)) (h ++ [.dead]) none (fun e K' h' p => match e with
      | .exit _ => none
      | _ => match xTj P K' h' fn.results.toList with
       | some _ => kk p h'
       | none => none)
   | none => none
  | none => none
  else none
 | _ => none
section
variable {P : Program} {S0 F0 : List Nat} {W0 : World}
theorem DenArgs.one {ρ : List Info} {p : PV} {v : Value} (h : DenP ρ p v) : DenArgs ρ [p] [v] := ⟨v, [], rfl, h, rfl⟩
theorem xYS {call : (β : Type) -> xAT β} (hcall : ∀ β, xAS P (call β)) (hmx : P.follows .mixedOrders = true) {A : xFm} (hA : xEl P A) {N na : Nat} {ysp : Nat -> Option Nat} {LS : Sch} {oo : xBO} {LM : LS.ty -> Option (xAK oo)} {an : AY} {gf : Nat} {gop : Operand} {ps : List Nat} {as1 bd : Code} {K : Slo} {j : Nat} {h : List Root}
  (hL : ∀ (n l : Nat) (S F : List Nat) (B : Option XT -> World) (ρ0 : List Info), ρ0.length = h.length + 1 -> (∃ i, ρ0[h.length]? = some i /\ i.val = .func (.yield l) #[] #[]) -> YlOk P (n - 1) l S F B ρ0 (fun γ args h' k => rnd P call N ps as1 bd K γ args h' k) -> AYok (yAn P n (xAA P gf na) S F B ρ0 LS oo LM) an (xAj P gf))
  {β : Type} {kk : Option XT -> List Root -> Option β} {x : β} {D : List Deferred} (hr : rfEv P (xE4 A) call N ysp LS oo LM an gf na ps as1 bd β j K h kk = some x) {ρ : List Info} {a : Act} {w : World} (hK : KOk N D ρ K a) (hh : HOk S0 F0 W0 ρ h w) (hg : xAv K gop = some (.c (.hv j))) {Q : Exit -> Act -> World -> Prop}
  (hn : ∀ (p : Option XT) (ρ' : List Info) (h' : List Root) (B w' : World) (a' : Act), Pre ρ ρ' -> kk p h' = some x -> Ext w B -> B.heap[w.heap.size]? = some (.deferred (some [])) -> HOk (xAp .own ρ h (List.range h.length)) (xAp .foot ρ h (List.range h.length)) B ρ' h' w' -> KOk N (mark w.heap.size :: D) ρ' K a' -> Q (p.getD .normal).out a' w') :
  (Code.rangeFunc gop ps.toArray as1 bd).wpIn (RFo none) 6 P Q a w := by
 unfold rfEv at hr;split at hr
 ·rename_i g fs cs hclo
  cases hb : (Nat.beq g gf && xBa P gf && Nat.beq (fs.length + 1 + cs.length) na) with
  | false => rw [hb] at hr; cases hr
  | true =>
   rw [hb] at hr;simp only [cond_true] at hr;simp only [Bool.and_eq_true] at hb;have hgf := nbT hb.1.1;have hna := nbT hb.2;subst hgf;split at hr
   ·rename_i fn hfn;split at hr
    ·rename_i c hc;refine wpIn_rangeFunc ?_;intro fid hfid;obtain ⟨i0, hi0, hv0, _⟩ := xAa hK hg;obtain ⟨us, vs, hus, hvs, hval⟩ := hh.ok j _ i0 hclo hi0;rw [hval] at hv0;obtain ⟨rec, hrec⟩ : ∃ rec : Loop, rec = { state := .ready, pending := none, fn := fid, tmps := a.tmps, params := ps.toArray, assign := as1, body := bd, defers := w.heap.size } := ⟨_, rfl⟩;obtain ⟨W1, hW1⟩ : ∃ W1, (w.alloc (.deferred (some []))).alloc (.loop rec) = W1 := ⟨_, rfl⟩;have hE1 : Ext w W1 := by rw [<- hW1]; exact ((Ex.refl _ _).alloc _).alloc _
     have hs1 : W1.heap.size = w.heap.size + 2 := by rw [<- hW1]; simp
     have hL1 : W1.heap[w.heap.size + 1]? = some (.loop rec) := by
      rw [<- hW1]; have := World.alloc_heap_new (w.alloc (.deferred (some []))) (.loop rec); rwa [World.size_alloc] at this
     have hD1 : W1.heap[w.heap.size]? = some (.deferred (some [])) := by
      rw [<- hW1]; exact xXG (xCN _ _)
     obtain ⟨S, hSd⟩ : ∃ S, S = xAp .own ρ h (List.range h.length) := ⟨_, rfl⟩;obtain ⟨F, hFd⟩ : ∃ F, F = xAp .foot ρ h (List.range h.length) := ⟨_, rfl⟩;have hSlt : ∀ b ∈ S, b < w.heap.size := fun b hb => own_lt hh (by rw [<- hSd]; exact hb);have hh0 : HOk S F W1 ρ h W1 := by
      have := hh.enterAll;rw [<- hSd, <- hFd] at this;exact this.start hE1
     have hlS : w.heap.size + 1 ∉ S := fun hm => by have := hSlt _ hm; omega
     have hdS : w.heap.size ∉ S := fun hm => by have := hSlt _ hm; omega
     obtain ⟨B, hB⟩ : ∃ B : Option XT -> World, B = fun p => match p with
      | none => W1
      | some e => W1.putObj (w.heap.size + 1) (.loop (xE3 rec (some e))) := ⟨_, rfl⟩
     have hl1 : w.heap.size + 1 < W1.heap.size := by omega
     have hR : Recs (w.heap.size + 1) rec B := by
      have hto : ∀ p, Ex [w.heap.size + 1] W1 (B p) := fun p => by
       rw [hB]
       cases p with
       | none => exact Ex.refl _ _
       | some e => exact ⟨rfl, rfl, rfl, by simp, fun k _ hk => World.putObj_heap_other (by simpa using hk)⟩
      have hsz : ∀ p, (B p).heap.size = W1.heap.size := fun p => by rw [hB]; cases p <;> simp
      refine ⟨by rw [hrec], by rw [hrec], fun p => ?_, fun p q => ?_, fun p q => by rw [hsz, hsz]⟩
      ·rw [hB]
       cases p with
       | none => rw [xEq (by rw [hrec]) (by rw [hrec])]; exact hL1
       | some e => exact World.putObj_heap_same hl1
      ·have h1 := hto p;have h2 := hto q;exact ⟨h2.os.trans h1.os.symm, h2.tape.trans h1.tape.symm, h2.output.trans h1.output.symm, by rw [hsz, hsz]; exact Nat.le_refl _, fun k hk hkl => by
        rw [h1.block k (by rw [<- hsz p]; exact hk) hkl, h2.block k (by rw [<- hsz p]; exact hk) hkl]⟩
     have hBn : B none = W1 := by rw [hB]
     obtain ⟨iy, hiy⟩ : ∃ iy : Info, iy = ⟨none, 0, none, .func (.yield (w.heap.size + 1)) #[] #[]⟩ := ⟨_, rfl⟩;have hh1 : HOk S F (B none) (ρ ++ [iy]) (h ++ [.dead]) W1 := by
      rw [hBn];exact hh0.add (Ex.refl _ _) iy .dead trivial (fun b hb => by cases hb) (fun _ => by rw [hiy]; rfl) rfl
     have hlen : (ρ ++ [iy]).length = h.length + 1 := by simp [hh.len]
     have hyj : (ρ ++ [iy])[h.length]? = some iy := by rw [<- hh.len]; simp
     have hyy : ∃ i, (ρ ++ [iy])[h.length]? = some i /\ i.val = .func (.yield (w.heap.size + 1)) #[] #[] := ⟨iy, hyj, by rw [hiy]⟩;have hK0 : KOk N [] (ρ ++ [iy]) K { tmps := rec.tmps, defers := [] } := by
      have : KOk N [] ρ K { tmps := rec.tmps, defers := [] } := ⟨by rw [hrec]; exact hK.1, rfl, fun t p e => by rw [hrec]; exact hK.2.2 t p e⟩;exact this.mono (Pre.app _ _)
     have hY : ∀ n, YlOk P n (w.heap.size + 1) S F B (ρ ++ [iy]) (fun γ args h' k => rnd P call N ps as1 bd K γ args h' k) := fun n γ args h' k y hy ρ' vs' W hp ha hW =>
      rnd_ok hcall hmx hR hlS (by rw [hrec]) (by rw [hrec]) (by rw [hrec]) hK0 hy hp ha hW
     obtain ⟨yv, hyv⟩ : ∃ yv : Value, yv = .func (.yield (w.heap.size + 1)) #[] #[] := ⟨_, rfl⟩;refine ⟨w.heap.size + 1, [mark w.heap.size], W1, { target := .fn (.func g) vs.toArray, args := us.toArray.push yv }, W1, g,
      us.toArray.push yv ++ vs.toArray, W1, ?_, ?_, fun _ _ => trivial, ?_, fun hd => by simp [RFo, Fence.wide] at hd, ?_⟩
     ·rw [<- hW1, hrec]; exact run_enterLoop_outer _ _ _ _ _
     ·simp only [resolve, hv0];rw [hyv];simp [Deferred.ofValue, Act.eval]
     ·simp [invoke, xEi hb.1.2]
     ·refine xMw none ?_;have hargs : us.toArray.push yv ++ vs.toArray = (us ++ [yv] ++ vs).toArray := by simp
      rw [hargs];have hden : DenArgs (ρ ++ [iy]) (fs.map .c ++ [.c (.hv h.length)] ++ cs.map .c) (us ++ [yv] ++ vs) := by
       refine DenArgs.app (DenArgs.app (DenArgs.cvs (hus.mono (Pre.app _ _))) (DenArgs.one ?_)) (DenArgs.cvs (hvs.mono (Pre.app _ _)));exact ⟨iy, hyj, by rw [hiy, hyv], by rw [hiy]; rfl⟩
      have hsz : (us ++ [yv] ++ vs).length = fs.length + 1 + cs.length := by
       have h1 := hus.len;have h2 := hvs.len;simp only [List.length_append, List.length_singleton];omega
      have hreg : xAU (xE4 A g) c = true := xPl hA hfn hc;have hbody : xAj P g = c := by simp [xAj, hfn, hc]
      have hNit : xAA P g na = na + (fn.ntmps - na) := by simp [xAA, hfn]
      have hAY := hL 6 (w.heap.size + 1) S F B (ρ ++ [iy]) hlen hyy (hY 5);rw [hbody] at hAY;refine (calls_of_wp (R := fun e w' => ∃ v, e = .returned v /\ ∃ p ρ' h', Pre (ρ ++ [iy]) ρ' /\ HOk S F (B p) ρ' h' w' /\ kk p h' = some x) hfn hc (wpIn_wide.1 (xHo (n := 6) (m := h.length + 1) (N := xAA P g na) hcall hmx (hY 5) hyy (by rw [hlen]; exact Nat.le_refl _) 300 an c hAY hreg β _ _ none _ x hr (ρ ++ [iy]) _ W1 (Pre.refl _) ⟨by rw [hNit, <- hna, <- hsz]; simp, rfl, fun t p hp => ?_⟩ hh1 _ (fun e ρ' K' h' p' a' w' hp he hK' hh' => ?_)))).mono ?_
      ·obtain ⟨_, h2⟩ := xEs _ _ _ _ hp;rw [Nat.sub_zero] at h2;obtain ⟨v, h3, h4⟩ := hden.get h2;refine ⟨v, h4, ?_⟩;have hlt := (List.getElem?_eq_some_iff.1 h3).1;show ((us ++ [yv] ++ vs).toArray ++ Array.replicate _ undef)[t]? = some v;rw [Array.getElem?_append_left (by simpa using hlt)];simpa using h3
      ·have fin : (match xTj P K' h' fn.results.toList with
        | some _ => kk p' h'
        | none => none) = some x -> a'.defers = [] /\ ∃ v, (results fn a'.tmps).run P w' = .ok v w' /\ ∃ v', Ending.returned v = .returned v' /\ ∃ p ρ' h', Pre (ρ ++ [iy]) ρ' /\ HOk S F (B p) ρ' h' w' /\ kk p h' = some x := by
        intro hm2;split at hm2
        ·rename_i v hv;obtain ⟨u, _, h2⟩ := xIH hK' hh' hv;exact ⟨hK'.2.1, u, h2, u, rfl, p', ρ', h', hp, hh', hm2⟩
        ·cases hm2
       cases e with
       | normal => exact fin he
       | exit id => cases he
       | ret => exact fin he
      ·rintro e w' ⟨v, rfl, p, ρ', h', hp, hh', hk⟩
       have hl2 : w'.heap[w.heap.size + 1]? = some (.loop (xE3 rec p)) := hh'.kept (hR.at' p) hlS;have hnb : (xE3 rec p).state ≠ .busy := by unfold xE3; cases p <;> simp
       have hpend : (xE3 rec p).pending = p.map XT.code := rfl;have hend := run_endLoop (P := P) hl2 hnb;rw [hpend] at hend;have hszB : (B p).heap.size = W1.heap.size := by rw [<- hBn]; exact hR.size p none
       have hxB : Ex [w.heap.size + 1] W1 (B p) := by rw [<- hBn]; exact hR.ex none p
       have hE4 : Ext w ((B p).putObj (w.heap.size + 1) (.loop { xE3 rec p with state := .exhausted })) := by
        refine ⟨hxB.os.trans hE1.os, hxB.tape.trans hE1.tape, hxB.output.trans hE1.output, by simp; omega, fun k hk _ => ?_⟩;rw [World.putObj_heap_other (by omega), hxB.block k (by omega) (by simp; omega), hE1.block k hk (by simp)]
       have hh4 : HOk S F ((B p).putObj (w.heap.size + 1) (.loop { xE3 rec p with state := .exhausted })) ρ' h' (w'.putObj (w.heap.size + 1) (.loop { xE3 rec p with state := .exhausted })) :=
        hh'.putObj hl2 rfl ⟨rfl, rfl, rfl, by simp, fun k _ hk => World.putObj_heap_other (by simpa using hk)⟩ (by simp) (World.putObj_heap_same (by omega))
       have hD4 : ((B p).putObj (w.heap.size + 1) (.loop { xE3 rec p with state := .exhausted })).heap[w.heap.size]? = some (.deferred (some [])) := by
        rw [World.putObj_heap_other (by omega), hxB.block _ (by omega) (by simp)];exact hD1
       have hpp : Pre ρ ρ' := (Pre.app ρ [iy]).trans hp;have hKa : KOk N (mark w.heap.size :: D) ρ' K { a with defers := [mark w.heap.size] ++ a.defers } := by
        have := hK.mono hpp;exact ⟨this.1, by rw [this.2.1]; rfl, this.2.2⟩
       rw [hSd, hFd] at hh4;have hQ := hn p ρ' h' _ _ _ hpp hk hE4 hD4 hh4 hKa;refine ⟨p.map XT.code, _, hend, ?_⟩
       cases p with
       | none => exact hQ
       | some e =>
        cases e with
        | normal => exact wpIn_skip hQ
        | exit id => exact wpIn_exit hQ
        | ret => exact wpIn_ret hQ
    ·cases hr
   ·cases hr
 ·cases hr
end
end
noncomputable section
open Go.RowKit
def rfPs : Code -> List Nat
 | .rangeFunc _ ps _ _ => ps.toList
 | _ => []
def rfAs : Code -> Code
 | .rangeFunc _ _ as1 _ => as1
 | _ => .skip
def rfBd : Code -> Code
 | .rangeFunc _ _ _ bd => bd
 | _ => .skip
def NodeOk (L : Code -> Prop) : AY -> Code -> Prop
 | .no, _ => True
 | .two a b, c => match c with
  | .seq x y => NodeOk L a x /\ NodeOk L b y
  | .block _ x => NodeOk L a x
  | _ => True
 | .one a, c => match c with
  | .seq x _ => NodeOk L a x
  | .block _ x => NodeOk L a x
  | _ => True
 | .lp, c => L c
theorem NodeOk.seq {L : Code -> Prop} {an : AY} {x y : Code} (h : NodeOk L an (.seq x y)) : NodeOk L an.l x /\ NodeOk L an.r y := by
 cases an with
 | no => exact ⟨trivial, trivial⟩
 | two a b => exact h
 | one a => exact ⟨h, trivial⟩
 | lp => exact ⟨trivial, trivial⟩
theorem NodeOk.block {L : Code -> Prop} {an : AY} {id : Nat} {x : Code} (h : NodeOk L an (.block id x)) : NodeOk L an.l x := by
 cases an with
 | no => trivial
 | two a b => exact h
 | one a => exact h
 | lp => trivial
structure RgA where
 (SC LS : Sch) (oo : xBO) (LM : SC.ty -> LS.ty -> Option (xAK oo)) (an : AY) (gf na : Nat) (ysp : Nat -> Option Nat)
section
variable {P : Program} {m N : Nat} {S0 F0 : List Nat} {W0 : World}
def xTn (P : Program) (call : (β : Type) -> xAT β) (N : Nat) (R : RgA) (node : Code) : Prop :=
 ∀ (xc : R.SC.ty) (n l : Nat) (S F : List Nat) (B : Option XT -> World) (ρ0 : List Info), ρ0.length = (xAn same R.SC.roots (R.SC.b xc)).length + 1 -> (∃ i, ρ0[(xAn same R.SC.roots (R.SC.b xc)).length]? = some i /\ i.val = .func (.yield l) #[] #[]) ->
  YlOk P (n - 1) l S F B ρ0 (fun γ args h' k => rnd P call N (rfPs node) (rfAs node) (rfBd node) (xA2 same R.SC.slots (R.SC.a xc)) γ args h' k) -> AYok (yAn P n (xAA P R.gf R.na) S F B ρ0 R.LS R.oo (R.LM xc)) R.an (xAj P R.gf)
end
end
end Go.Proofs.YtnomnijhlbalaaaGreatDoor
