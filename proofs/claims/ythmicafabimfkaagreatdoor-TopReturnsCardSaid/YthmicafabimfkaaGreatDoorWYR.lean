/- Functions with loops and ranges over functions, also within loops, run on data. No condition. -/
import Derived.Test.YthmicafabimfkaaGreatDoorWYH
import Derived.Test.YthmicafabimfkaaGreatDoorWZ0
import Derived.Deep.Slices
import Derived.Deep.Fields
import Derived.ChangeSame
import Derived.OpenShut
import Derived.ShutString
import Derived.ChangeOld
import Derived.ProofKit
import Derived.Test.YthmicafabimfkaaGreatDoorWY6

namespace Go.Proofs.YthmicafabimfkaaGreatDoor
noncomputable section
open Go.RowKit
inductive AW where
 | an (a : An)
 | two (a b : AW)
 | one (a : AW)
 | rf (R : RgA)
 | rnd (a b : AW)
 | join (o : xBy) (a : AW)
 | loop (S : Sch) (o : xBy) (M : S.ty -> Option (xAL o))
def AW.l : AW -> AW
 | .an a => .an a.l
 | .two a _ => a
 | .one a => a
 | _ => .an .no
def AW.r : AW -> AW
 | .an a => .an a.r
 | .two _ b => b
 | _ => .an .no
/-- The note of a round of a loop. -/
def AW.rd : AW -> Nat -> AW
 | .rnd a b, i => match i with
  | 0 => a
  | i + 1 => b.rd i
 | _, _ => .an .no
def evW (P : Program) (A : xF2) (Fu f : Nat) (call : (β : Type) -> xAT β) (m N : Nat) : Nat -> AW -> Code -> (β : Type) -> Slo -> List Root -> xFd β -> Option β
 | 0, _, _, _, _, _, _ => none
 | d + 1, an, c, β, K, h, k => match an with
  | .an a => evA P Fu (xAQ A f) call m N 300 a c β K h k
  | .join o a => ob (evW P A Fu f call m N d a c (xAL o) K h (xBv m o)) (fun x => xUM k o x)
  | .loop S o M => match c with
   | .loop _ => match S.dec m K h with
    | some s => ob (M s) (fun x => xUM k o x)
    | none => none
   | _ => none
  | .rf R => match c with
   | .rangeFunc g ps as bd => match R.SC.dec m K h with
    | some xc => match xAt (xAX same R.SC.slots (R.SC.a xc)) g with
     | some (.c (.hv j)) => rfEv P (xAQ A) call N R.ysp R.LS R.oo (R.LM xc) R.an R.gf R.na ps.toList as bd β j (xAX same R.SC.slots (R.SC.a xc)) (xAm same R.SC.roots (R.SC.b xc)) (fun p h' => k (p.getD .normal) (xAX same R.SC.slots (R.SC.a xc)) h')
     | _ => none
    | none => none
   | _ => none
  | an => match c with
   | .seq x y => evW P A Fu f call m N d an.l x β K h (fun e K' h' => match e with
    | .normal => evW P A Fu f call m N d an.r y β K' h' k
    | e => k e K' h')
   | .cond c x y => match xAt K c with
    | some (.c (.sc (.bool b))) => bif b then evW P A Fu f call m N d an.l x β K h k else evW P A Fu f call m N d an.r y β K h k
    | _ => none
   | .block id x => evW P A Fu f call m N d an.l x β K h (fun e K' h' => match e with
    | .exit id' => bif Nat.beq id' id then k .normal K' h' else k (.exit id') K' h'
    | e => k e K' h')
   | .loop x => xDJ (fun n K h k => evW P A Fu f call m N d (an.rd (Fu - 1 - n)) x β K h k) Fu K h k
   | _ => none
section
variable {P : Program} {m N : Nat} {S0 F0 S F : List Nat} {W0 B : World} {ρ ρ' : List Info} {h h' : List Root} {w w' : World}
/-- Back in the frame around, whatever is known since. -/
theorem HOk.back2 (hh : HOk S0 F0 W0 ρ h w) (hE : Ext w B) (hc : HOk (xAo .own ρ h (List.range h.length)) (xAo .foot ρ h (List.range h.length)) B ρ' h' w') : HOk S0 F0 W0 ρ' h' w' := by
 have hsz : W0.heap.size <= B.heap.size := Nat.le_trans hh.ext.size hE.size;have ho : ∀ b ∈ xAo .own ρ h (List.range h.length), W0.heap.size <= b \/ b ∈ S0 := fun b hb => by
  obtain ⟨p, _, r, i, hr, hi, e⟩ := xAg.1 hb;exact hh.mine p r i b hr hi e
 have hf : ∀ b ∈ xAo .foot ρ h (List.range h.length), W0.heap.size <= b \/ b ∈ S0 \/ b ∈ F0 := fun b hb => by
  obtain ⟨p, _, r, i, hr, hi, e⟩ := xAg.1 hb;exact hh.near p r i b hr hi e
 refine ⟨?_, hc.len, hc.ok, hc.sep, fun p r i b hr hi e => ?_, fun p r i b hr hi e => ?_, hh.lay, hh.out, hc.cov, hc.cln⟩
 ·have h1 : Ex S0 W0 B := hh.ext.trans (hE.ex S0);exact h1.trans_fresh hc.ext (fun b hb => (ho b hb).symm)
 ·rcases hc.mine p r i b hr hi e with h1 | h1
  ·exact .inl (Nat.le_trans hsz h1)
  ·exact ho b h1
 ·rcases hc.near p r i b hr hi e with h1 | h1 | h1
  ·exact .inl (Nat.le_trans hsz h1)
  ·rcases ho b h1 with h2 | h2
   ·exact .inl h2
   ·exact .inr (.inl h2)
  ·exact hf b h1
/-- Memory as data behind ranges over functions, whose marks lie in the frame. -/
def StM (S0 F0 : List Nat) (W0 : World) : List Nat -> List Info -> List Root -> World -> Prop
 | [], ρ, h, W => HOk S0 F0 W0 ρ h W
 | l :: Ls, ρ, h, W => ∃ ρ1 h1 w1 B, StM S0 F0 W0 Ls ρ1 h1 w1 /\ l = w1.heap.size /\ Ext w1 B /\ B.heap[l]? = some (.deferred (some [])) /\ HOk (xAo .own ρ1 h1 (List.range h1.length)) (xAo .foot ρ1 h1 (List.range h1.length)) B ρ h W
theorem xKz : ∀ {Ls : List Nat} {ρ : List Info} {h : List Root} {W : World}, StM S0 F0 W0 Ls ρ h W -> ∃ S F W1, HOk S F W1 ρ h W /\ ∀ ρ' h' W', HOk S F W1 ρ' h' W' -> StM S0 F0 W0 Ls ρ' h' W'
 | [], ρ, h, W, hs => ⟨S0, F0, W0, hs, fun _ _ _ h => h⟩
 | l :: Ls, ρ, h, W, ⟨ρ1, h1, w1, B, e1, e2, e3, e4, e5⟩ => ⟨_, _, B, e5, fun _ _ _ h => ⟨ρ1, h1, w1, B, e1, e2, e3, e4, h⟩⟩
theorem xSV {fn : Func} {tmps : Array Value} {R : Ending -> World -> Prop} : ∀ {Ls : List Nat} {ρ : List Info} {h : List Root} {W : World}, StM S0 F0 W0 Ls ρ h W -> (∀ W', HOk S0 F0 W0 ρ h W' -> LeavesInM (RFo none) 6 P fn tmps R [] .returning W') ->
  LeavesInM (RFo none) 6 P fn tmps R (Ls.map mark) .returning W
 | [], ρ, h, W, hs, hR => hR W hs
 | l :: Ls, ρ, h, W, ⟨ρ1, h1, w1, B, e1, e2, e3, e4, e5⟩, hR => by
  have hS : l ∉ xAo .own ρ1 h1 (List.range h1.length) := fun hm => by
   obtain ⟨S, F, W1, q1, _⟩ := xKz e1;have := own_lt q1 hm;omega
  have hk := e5.kept e4 hS;have hBl := lt_of_block e4;have hh5 : HOk (xAo .own ρ1 h1 (List.range h1.length)) (xAo .foot ρ1 h1 (List.range h1.length)) (B.putObj l (.deferred none)) ρ h (W.putObj l (.deferred none)) :=
   e5.putObj hk rfl ⟨rfl, rfl, rfl, by simp, fun k _ hk => World.putObj_heap_other (by simpa using hk)⟩ (by simp) (World.putObj_heap_same hBl)
  have hE5 : Ext w1 (B.putObj l (.deferred none)) := by
   refine ⟨e3.os, e3.tape, e3.output, by simp; exact e3.size, fun k hk _ => ?_⟩;rw [World.putObj_heap_other (by omega), e3.block k hk (by simp)]
  have h6 : StM S0 F0 W0 Ls ρ h (W.putObj l (.deferred none)) := by
   obtain ⟨S, F, W1, q1, q2⟩ := xKz e1;exact q2 _ _ _ (q1.back2 hE5 hh5)
  exact ⟨by simp, .inl ⟨l, _, rfl, run_takeDeferred hk, xSV h6 hR⟩⟩
def xLR (P : Program) (m N : Nat) (x : Code) (S : Sch) (o : xBy) (M : S.ty -> Option (xAL o)) : Prop :=
 ∀ (s : S.ty) (y : xAL o), M s = some y -> ∀ (S' F : List Nat) (W0 : World) (Ls : List Nat) (ι : List Info) (a : Act) (w : World), KOk N (Ls.map mark) ι (xAX same S.slots (S.a s)) a -> StM S' F W0 Ls ι (xAm same S.roots (S.b s)) w -> ∀ Q : Exit -> Act -> World -> Prop,
  (∀ (Ls' : List Nat) (ι' : List Info) (a' : Act) (w' : World), PreM m ι ι' -> KOk N (Ls'.map mark) ι' (xAS o y).2.1 a' -> StM S' F W0 Ls' ι' (xAS o y).2.2 w' -> Q (xAS o y).1.out a' w') -> ∃ n, Code.roundsIn (RFo none) 6 P x Q n a w
def AwOk (P : Program) (call : (β : Type) -> xAT β) (m N : Nat) : AW -> Code -> Prop
 | .an a, c => AnOk P m N a c
 | .two a b, c => match c with
  | .seq x y => AwOk P call m N a x /\ AwOk P call m N b y
  | .cond _ x y => AwOk P call m N a x /\ AwOk P call m N b y
  | .block _ x => AwOk P call m N a x
  | _ => True
 | .one a, c => match c with
  | .seq x _ => AwOk P call m N a x
  | .cond _ x _ => AwOk P call m N a x
  | .block _ x => AwOk P call m N a x
  | _ => True
 | .rf R, c => xOw P call N R c
 | .rnd a b, c => match c with
  | .loop x => AwOk P call m N a x /\ AwOk P call m N b (.loop x)
  | _ => True
 | .join _ a, c => AwOk P call m N a c
 | .loop S o M, c => match c with
  | .loop x => xLR P m N x S o M
  | _ => True
variable {call : (β : Type) -> xAT β}
theorem AwOk.seq {an : AW} {x y : Code} (h : AwOk P call m N an (.seq x y)) : AwOk P call m N an.l x /\ AwOk P call m N an.r y := by
 cases an with
 | an a => exact AnOk.seq h
 | two a b => exact h
 | one a => exact ⟨h, trivial⟩
 | rf R => exact ⟨trivial, trivial⟩
 | rnd a b => exact ⟨trivial, trivial⟩
 | join o a => exact ⟨trivial, trivial⟩
 | loop S o M => exact ⟨trivial, trivial⟩
theorem AwOk.cond {an : AW} {c : Operand} {x y : Code} (h : AwOk P call m N an (.cond c x y)) : AwOk P call m N an.l x /\ AwOk P call m N an.r y := by
 cases an with
 | an a => exact AnOk.cond h
 | two a b => exact h
 | one a => exact ⟨h, trivial⟩
 | rf R => exact ⟨trivial, trivial⟩
 | rnd a b => exact ⟨trivial, trivial⟩
 | join o a => exact ⟨trivial, trivial⟩
 | loop S o M => exact ⟨trivial, trivial⟩
theorem AwOk.block {an : AW} {id : Nat} {x : Code} (h : AwOk P call m N an (.block id x)) : AwOk P call m N an.l x := by
 cases an with
 | an a => exact AnOk.block h
 | two a b => exact h
 | one a => exact h
 | rf R => trivial
 | rnd a b => trivial
 | join o a => trivial
 | loop S o M => trivial
theorem AwOk.loop {x : Code} : ∀ {an : AW}, AwOk P call m N an (.loop x) -> ∀ i, AwOk P call m N (an.rd i) x
 | .an a, _, _ => trivial
 | .two a b, _, _ => trivial
 | .one a, _, _ => trivial
 | .rf R, _, _ => trivial
 | .rnd a b, h, i => by
  cases i with
  | zero => exact h.1
  | succ i => exact AwOk.loop h.2 i
 | .join o a, _, _ => trivial
 | .loop S o M, _, _ => trivial
theorem xJ2 {β : Type} {x : Code} {body : Nat -> Slo -> List Root -> xFd β -> Option β} (hb : ∀ (n : Nat) (K : Slo) (h : List Root) (k : xFd β) (r : β), body n K h k = some r -> ∀ (Ls : List Nat) (ρ : List Info) (a : Act) (W : World), KOk N (Ls.map mark) ρ K a -> StM S0 F0 W0 Ls ρ h W -> ∀ Q : Exit -> Act -> World -> Prop,
  (∀ (e : XT) (Ls' : List Nat) (ρ' : List Info) (K' : Slo) (h' : List Root) (a' : Act) (W' : World), PreM m ρ ρ' -> k e K' h' = some r -> KOk N (Ls'.map mark) ρ' K' a' -> StM S0 F0 W0 Ls' ρ' h' W' -> Q e.out a' W') -> x.wpIn (RFo none) 6 P Q a W) : ∀ (n : Nat) (K : Slo) (h : List Root) (k : xFd β) (r : β), xDJ body n K h k = some r -> ∀ (Ls : List Nat) (ρ : List Info) (a : Act) (W : World), KOk N (Ls.map mark) ρ K a -> StM S0 F0 W0 Ls ρ h W -> ∀ Q : Exit -> Act -> World -> Prop,
  (∀ (e : XT) (Ls' : List Nat) (ρ' : List Info) (K' : Slo) (h' : List Root) (a' : Act) (W' : World), PreM m ρ ρ' -> k e K' h' = some r -> KOk N (Ls'.map mark) ρ' K' a' -> StM S0 F0 W0 Ls' ρ' h' W' -> Q e.out a' W') -> Code.roundsIn (RFo none) 6 P x Q n a W
 | 0, K, h, k, r, hr => by cases hr
 | n + 1, K, h, k, r, hr => fun Ls ρ a w hK hh Q hn => by
  refine hb n K h _ r hr Ls ρ a w hK hh _ (fun e Ls' ρ' K' h' a' w' hp he hK' hh' => ?_)
  cases e with
  | normal => exact xJ2 hb n K' h' k r he Ls' ρ' a' w' hK' hh' Q (fun e L2 ρ2 K2 h2 a2 w2 hp2 => hn e L2 ρ2 K2 h2 a2 w2 (hp.trans hp2))
  | exit id => exact hn _ Ls' ρ' K' h' a' w' hp he hK' hh'
  | ret => exact hn _ Ls' ρ' K' h' a' w' hp he hK' hh'
def AwP (P : Program) (call : (β : Type) -> xAT β) (m N : Nat) (c : Code) : AW -> List Nat -> Prop
 | .an a, p => AnP P m N c a p
 | .two a b, p => AwP P call m N c a (p ++ [0]) /\ AwP P call m N c b (p ++ [1])
 | .one a, p => AwP P call m N c a (p ++ [0])
 | .rf R, p => xOw P call N R (xAv c p)
 | .rnd a b, p => AwP P call m N c a (p ++ [0]) /\ AwP P call m N c b p
 | .join _ a, p => AwP P call m N c a p
 | .loop S o M, p => xLR P m N (xAv c (p ++ [0])) S o M
theorem xCL {c : Code} : ∀ {an : AW} {p : List Nat}, AwP P call m N c an p -> AwOk P call m N an (xAv c p)
 | .an a, p, h => xAf h
 | .two a b, p, h => by
  have h1 := xCL (an := a) h.1;have h2 := xCL (an := b) h.2;rw [xBe] at h1 h2;cases hc : xAv c p <;> rw [hc] at h1 h2 <;> first | exact ⟨h1, h2⟩ | exact h1 | trivial
 | .one a, p, h => by
  have h1 := xCL (an := a) (p := p ++ [0]) h;rw [xBe] at h1;cases hc : xAv c p <;> rw [hc] at h1 <;> first | exact h1 | trivial
 | .rf R, p, h => h
 | .rnd a b, p, h => by
  have h1 := xCL (an := a) h.1;have h2 := xCL (an := b) h.2;rw [xBe] at h1;cases hc : xAv c p <;> rw [hc] at h1 h2 <;> first | exact ⟨h1, h2⟩ | trivial
 | .join o a, p, h => xCL (an := a) h
 | .loop S o M, p, h => by
  have h1 : xLR P m N (xAv c (p ++ [0])) S o M := h;rw [xBe] at h1;cases hc : xAv c p <;> rw [hc] at h1 <;> first | exact h1 | trivial
theorem xHc (hcall : ∀ β, xAW P (call β)) (hmx : P.follows .mixedOrders = true) {A : xF2} (hA : xFc P A) {Fu f : Nat} : ∀ (d : Nat) (an : AW) (c : Code), AwOk P call m N an c -> xAV (xAQ A f) c = true -> ∀ (β : Type) (K : Slo) (h : List Root) (k : xFd β) (x : β), evW P A Fu f call m N d an c β K h k = some x ->
  ∀ (Ls : List Nat) (ρ : List Info) (a : Act) (W : World), KOk N (Ls.map mark) ρ K a -> StM S0 F0 W0 Ls ρ h W -> ∀ Q : Exit -> Act -> World -> Prop,
  (∀ (e : XT) (Ls' : List Nat) (ρ' : List Info) (K' : Slo) (h' : List Root) (a' : Act) (W' : World), PreM m ρ ρ' -> k e K' h' = some x -> KOk N (Ls'.map mark) ρ' K' a' -> StM S0 F0 W0 Ls' ρ' h' W' -> Q e.out a' W') -> c.wpIn (RFo none) 6 P Q a W
 | 0, _, _, _, _, _, _, _, _, _, hr => by cases hr
 | d + 1, an, c, hAn, hreg, β, K, h, k, x, hr => fun Ls ρ a W hK hst Q hn => by
  have plain : (match (generalizing := false) c with
   | .seq x y => evW P A Fu f call m N d an.l x β K h (fun e K' h' => match e with
    | .normal => evW P A Fu f call m N d an.r y β K' h' k
    | e => k e K' h')
   | .cond c x y => match xAt K c with
    | some (.c (.sc (.bool b))) => bif b then evW P A Fu f call m N d an.l x β K h k else evW P A Fu f call m N d an.r y β K h k
    | _ => none
   | .block id x => evW P A Fu f call m N d an.l x β K h (fun e K' h' => match e with
    | .exit id' => bif Nat.beq id' id then k .normal K' h' else k (.exit id') K' h'
    | e => k e K' h')
   | .loop x => xDJ (fun n K h k => evW P A Fu f call m N d (an.rd (Fu - 1 - n)) x β K h k) Fu K h k
   | _ => none) = some x -> c.wpIn (RFo none) 6 P Q a W := by
   intro hr
   cases c with
   | seq u v =>
    simp only [xAV, Bool.and_eq_true] at hreg;obtain ⟨hA1, hA2⟩ := hAn.seq;refine wpIn_seq (xHc hcall hmx hA d an.l u hA1 hreg.1 β K h _ x hr Ls ρ a W hK hst _ (fun e Ls' ρ' K' h' a' W' hp he hK' hst' => ?_))
    cases e with
    | normal => exact xHc hcall hmx hA d an.r v hA2 hreg.2 β K' h' k x he Ls' ρ' a' W' hK' hst' Q (fun e L2 ρ2 K2 h2 a2 w2 hp2 => hn e L2 ρ2 K2 h2 a2 w2 (hp.trans hp2))
    | exit id => exact hn _ Ls' ρ' K' h' a' W' hp he hK' hst'
    | ret => exact hn _ Ls' ρ' K' h' a' W' hp he hK' hst'
   | cond c u v =>
    simp only [xAV, Bool.and_eq_true] at hreg;obtain ⟨hA1, hA2⟩ := hAn.cond;dsimp only at hr;split at hr
    ·rename_i b hc;have hb : a.eval c = .bool b := (xAb hK hc).1
     cases b with
     | true => exact wpIn_cond_true hb (xHc hcall hmx hA d an.l u hA1 hreg.1 β K h k x hr Ls ρ a W hK hst Q hn)
     | false => exact wpIn_cond_false hb (xHc hcall hmx hA d an.r v hA2 hreg.2 β K h k x hr Ls ρ a W hK hst Q hn)
    ·cases hr
   | block id u =>
    refine wpIn_block (xHc hcall hmx hA d an.l u hAn.block hreg β K h _ x hr Ls ρ a W hK hst _ (fun e Ls' ρ' K' h' a' W' hp he hK' hst' => ?_))
    cases e with
    | normal => exact hn .normal Ls' ρ' K' h' a' W' hp he hK' hst'
    | exit id' =>
     show Exit.inBlock id Q (.exit id') a' W';dsimp only at he
     cases hb : Nat.beq id' id with
     | true =>
      rw [hb] at he;have := nbT hb;subst this;show (if id' = id' then Q .normal a' W' else Q (.exit id') a' W');rw [if_pos rfl];exact hn .normal Ls' ρ' K' h' a' W' hp he hK' hst'
     | false =>
      rw [hb] at he;have hne := Nat.ne_of_beq_eq_false hb;show (if id' = id then Q .normal a' W' else Q (.exit id') a' W');rw [if_neg hne];exact hn (.exit id') Ls' ρ' K' h' a' W' hp he hK' hst'
    | ret => exact hn .ret Ls' ρ' K' h' a' W' hp he hK' hst'
   | loop u => exact wpIn_loop_rounds Fu (xJ2 (fun n K h k r hr => xHc hcall hmx hA d (an.rd (Fu - 1 - n)) u (AwOk.loop hAn (Fu - 1 - n)) hreg β K h k r hr) Fu K h k x hr Ls ρ a W hK hst Q hn)
   | _ => cases hr
  obtain ⟨S, F, W1, hh, hre⟩ := xKz hst
  cases an with
  | an an =>
   simp only [evW] at hr;exact wpIn_wide.2 (xEL (D := Ls.map mark) hcall hmx Fu (xAQ A f) 300 an c hAn hreg β K h k x hr S F W1 ρ a W hK hh Q (fun e ρ' K' h' a' w' hp he hK' hh' => hn e Ls ρ' K' h' a' w' hp he hK' (hre _ _ _ hh')))
  | two u v =>
   simp only [evW] at hr;exact plain hr
  | one u =>
   simp only [evW] at hr;exact plain hr
  | rnd u v =>
   simp only [evW] at hr;exact plain hr
  | join o u =>
   simp only [evW] at hr;obtain ⟨y, hy, hk⟩ := xDN hr;rw [xEb] at hk;refine xHc hcall hmx hA d u c hAn hreg (xAL o) K h (xBv m o) y hy Ls ρ a W hK hst Q (fun e Ls' ρ' K' h' a' W' hp he hK' hst' => ?_);obtain ⟨S2, F2, W2, hh2, hre2⟩ := xKz hst';obtain ⟨h1, ι, h2, h3, h4⟩ := xBD he hK' hh2;rw [<- h1];exact hn _ Ls' ι _ _ a' W' (hp.trans h2) hk h3 (hre2 _ _ _ h4)
  | loop T o M =>
   cases c with
   | loop u =>
    simp only [evW] at hr;split at hr
    ·rename_i s hs;obtain ⟨y, hy, hk⟩ := xDN hr;rw [xEb] at hk;obtain ⟨ι, h2, h3, h4⟩ := Sch.dec_ok hs hK hh;obtain ⟨n, h5⟩ := hAn s y hy S0 F0 W0 Ls ι a W h3 (hre _ _ _ h4) Q (fun Ls' ι' a' w' hp hK' hst' => hn _ Ls' ι' _ _ a' w' (h2.trans hp) hk hK' hst');exact wpIn_loop_rounds n h5
    ·cases hr
   | _ => cases hr
  | rf R =>
   cases c with
   | rangeFunc g ps as bd =>
    simp only [evW] at hr;split at hr
    ·rename_i xc hxc;split at hr
     ·rename_i j hj;obtain ⟨ι, h2, h3, h4⟩ := Sch.dec_ok hxc hK hh;have hL2 : xOw P call N R (.rangeFunc g ps as bd) := hAn;have := xVw (N := N) (na := R.na) (gop := g) (ps := ps.toList) (as := as) (bd := bd) hcall hmx hA (hL2 xc) hr h3 h4 hj (Q := Q) (fun p ρ' h' B w' a' e1 e2 e3 e4 e5 e6 =>
       hn _ (W.heap.size :: Ls) ρ' _ h' a' w' (h2.trans e1.m) e2 e6 ⟨ι, _, W, B, hre _ _ _ h4, rfl, e3, e4, e5⟩)
      simpa using this
     ·cases hr
    ·cases hr
   | _ => cases hr
/-- The body of a function, run on data. -/
def fnEvW (P : Program) (A : xF2) (Fu : Nat) (call : (β : Type) -> xAT β) (nargs : Nat) (an : AW) (f : Nat) (In : Sch) (Out : FSch) (s : In.ty) : Option Out.ty :=
 match P.funcs[f]? with
 | some fn => match fn.body with
  | some c => evW P A Fu f call In.roots.length (nargs + (fn.ntmps - nargs)) 300 an c Out.ty (xAX same In.slots (In.a s)) (mvArs (xAm same In.roots (In.b s))) (fun e K' h' => match e with
   | .exit _ => none
   | _ => match xRZ P K' h' fn.results.toList with
    | some v => Out.dec In.roots.length v h'
    | none => none)
  | none => none
 | none => none
theorem xFP (hcall : ∀ β, xAW P (call β)) (hmx : P.follows .mixedOrders = true) {A : xF2} (hA : xFc P A) {Fu nargs f : Nat} {an : AW} {In : Sch} {Out : FSch} {spec : In.ty -> Option Out.ty}
  (hreg : xAV (xAQ A f) (xAd P f) = true) (hAn : AwOk P call In.roots.length (xAk P f nargs) an (xAd P f)) (hs : ∀ s, spec s = fnEvW P A Fu call nargs an f In Out s) : xAu P f nargs In Out spec := by
 intro s t hst S F W0 ι w vs hlen hden hh hcl;rw [hs] at hst;unfold fnEvW at hst;split at hst
 ·rename_i fn hfn;split at hst
  ·rename_i c hc;have hb : xAd P f = c := by simp [xAd, hfn, hc]
   have ht : xAk P f nargs = nargs + (fn.ntmps - nargs) := by simp [xAk, hfn]
   rw [hb] at hreg hAn;rw [ht] at hAn;have hsz : vs.toArray.size = nargs := by simpa using hlen
   refine callsIn_wide.1 (callsIn_of_wp_marks (n := 6) hfn hc trivial ?_);obtain ⟨ι0, hp0, hh0⟩ := hh.mvArs;refine xHc (S0 := S) (F0 := F) (W0 := W0) hcall hmx hA 300 an c hAn hreg Out.ty _ _ _ t hst [] ι0 _ w ⟨by simp [hsz], rfl, fun q p hp => ?_⟩ hh0 _ (fun e Ls ρ' K' h' a' w' hp he hK' hst' => ?_)
   ·obtain ⟨v, h3, h4⟩ := hden q p hp;refine ⟨v, h3.mono hp0, ?_⟩;have hlt := (List.getElem?_eq_some_iff.1 h4).1;show (vs.toArray ++ Array.replicate (fn.ntmps - vs.toArray.size) undef)[q]? = some v;rw [Array.getElem?_append_left (by simpa using hlt)];simpa using h4
   ·have fin : (match xRZ P K' h' fn.results.toList with
      | some v => Out.dec In.roots.length v h'
      | none => none) = some t -> LeavesInM (RFo none) 6 P fn a'.tmps (fun e w' => ∃ ι' u, e = .returned u /\ PreM In.roots.length ι ι' /\ DenP ι' (Out.res.enc same (Out.a t)) u /\ HOk S F W0 ι' (xAm same Out.roots (Out.b t)) w' /\ In.roots.length <= Out.roots.length) a'.defers .returning w' := by
     intro hm2;split at hm2
     ·rename_i v hv;rw [hK'.2.1];refine xSV hst' (fun W' hW' => ?_);obtain ⟨u, q1, q2⟩ := xKI hK' hW' hv;obtain ⟨h3, ι', h4, h5, h6⟩ := FSch.dec_ok hm2 q1 hW';exact ⟨u, q2, ι', u, rfl, (fun j hj i e => (hp.trans h4) j hj i (hp0 j i e)), h5, h6, h3⟩
     ·cases hm2
    cases e with
    | normal => exact fin he
    | exit id => cases he
    | ret => exact fin he
  ·cases hst
 ·cases hst
end
end
end Go.Proofs.YthmicafabimfkaaGreatDoor


namespace Go.Proofs.YthmicafabimfkaaGreatDoor
open Go.RowKit
open Go.ChangeShapes Go.WideShapes Go.Deep
/-- A number is one of its kind. -/
def fit : Value -> Prop
 | .int k n => k.min <= n /\ n <= k.max
 | .string s => s.size <= maxLen
 | _ => True
def Fits (l : List Value) : Prop := ∀ v ∈ l, fit v
theorem Fits.nil : Fits [] := fun _ h => by cases h
theorem Fits.app {l r : List Value} (h : Fits l) (h2 : Fits r) : Fits (l ++ r) := fun v hv => (List.mem_append.1 hv).elim (h v) (h2 v)
theorem Fits.one {v : Value} (h : fit v) : Fits [v] := fun u hu => by simp only [List.mem_singleton] at hu; subst hu; exact h
theorem xL6 {α : Type} {xs : List α} {i n : Nat} (hl : xs.length = n) (hi : i < n) : ∃ y, xs[i]? = some y := ⟨_, List.getElem?_eq_getElem (by omega)⟩
/-- A row of cells is its parts, one behind the other. -/
def xJ9 : Nat -> List (Nat × Nat) -> Nat -> Bool
 | o, [], t => o == t
 | o, (p, n) :: r, t => p == o && xJ9 (o + n) r t
theorem parts_ : ∀ (l : List (Nat × Nat)) (o t : Nat) (cs : List Value), xJ9 o l t = true -> cs.length = t -> cs.drop o = (l.map fun x => (cs.drop x.1).take x.2).flatten
 | [], o, t, cs, h, hl => by
  simp only [xJ9, beq_iff_eq] at h;simp [List.drop_eq_nil_of_le (show cs.length <= o by omega)]
 | (p, n) :: r, o, t, cs, h, hl => by
  simp only [xJ9, Bool.and_eq_true, beq_iff_eq] at h;obtain ⟨rfl, h⟩ := h;have ih := parts_ r (p + n) t cs h hl;simp only [List.map_cons, List.flatten_cons, <- ih];rw [<- List.drop_drop];exact (List.take_append_drop n (cs.drop p)).symm
theorem parts {cs : List Value} {t : Nat} (l : List (Nat × Nat)) (h : xJ9 0 l t = true) (hl : cs.length = t) : cs = (l.map fun x => (cs.drop x.1).take x.2).flatten := by
 have := parts_ l 0 t cs h hl;rwa [List.drop_zero] at this
section
variable {P : Program} {H : Type} {enc : TypeId × Value -> H} {W : World} {base : Nat} {spare : Nat -> Bool} {held : Bool} {fuel : Nat} {cs : List Value} {x : DataW H × List MemPlace} {t : TypeId}
theorem xUT {r : Reach} {v : Value} {k : IntKind} (ht : P.underlying t = some (.int k)) (h : Value.okWide P W r base t v) (hx : DataW.trod enc P W 0 (fun _ => true) true fuel t v.cells.toList = some x) : ∃ n, v = .int k n := by
 obtain ⟨n, hn, _⟩ := DataW.trod_int ht hx
 cases v with
 | agg c => simp [Value.okWide, ht, Cell.okWide, Cell.ok] at h
 | _ => simp_all [Value.cells]
theorem xRe {r : Reach} {v : Value} (ht : P.underlying t = some .bool) (h : Value.okWide P W r base t v) (hx : DataW.trod enc P W 0 (fun _ => true) true fuel t v.cells.toList = some x) : ∃ n, v = .bool n := by
 obtain ⟨n, hn, _⟩ := DataW.trod_bool ht hx
 cases v with
 | agg c => simp [Value.okWide, ht, Cell.okWide, Cell.ok] at h
 | _ => simp_all [Value.cells]
theorem xUJ (b off n : Nat) : (⟨b, off, none⟩ : Addr).add n = ⟨b, off + n, none⟩ := by unfold Addr.add; split <;> simp_all
/-- A slice that came in, over elements that are opened. -/
theorem xWf {α : Type} {f : α -> List Value} {Pr : α -> Prop} (d : α) {k : Nat} {e : TypeId} (ht : P.underlying t = some (.slice e)) (hk : P.cellsOf e = k) (hpos : 0 < k) (hf : ∀ l : α, (f l).length = k)
  (hel : ∀ n cs x, DataW.trod enc P W base spare held n e cs = some x -> ∃ l : α, cs = f l /\ Pr l) (h : DataW.trod enc P W base spare held fuel t cs = some x) (hsp : spare = fun _ => true) :
  ∃ (a : Option Addr) (cap : Nat) (xs : List α), cs = [.slice a xs.length cap] /\ Sl k f W a cap xs /\ ∀ y ∈ xs, Pr y := by
 subst hsp;rcases open_slice ht h with ⟨hcs, _⟩ | ⟨a, len, cap, m, n, D, Pl, hcs, hb, hl, hm, hmm, hx, hi⟩
 ·exact ⟨none, 0, [], hcs, Sl.nil _ _ _, by simp⟩
 ·simp only [if_true] at hmm;have hex : ∀ i, ∃ l : α, i < m -> W.cells? base (a.add (i * k)) k = some (f l) /\ Pr l := fun i => by
   by_cases him : i < m
   ·obtain ⟨cs', hc, ht'⟩ := hi i him;obtain ⟨l, hl', hp⟩ := hel n cs' _ ht';rw [hk] at hc;exact ⟨l, fun _ => ⟨by rw [hc, hl'], hp⟩⟩
   ·exact ⟨d, fun h => absurd h him⟩
  obtain ⟨g, hg⟩ := Classical.axiomOfChoice hex;refine ⟨some a, cap, (List.range len).map g, by rw [hcs, List.length_map, List.length_range], ⟨by simpa using hl, by unfold maxLen at hm; omega, fun h0 => ?_⟩, fun y hy => ?_⟩
  ·have h0' : 0 < len := by simpa using h0
   obtain ⟨b, off, spot⟩ := a;have h00 := (hg 0 (by omega)).1;obtain ⟨_, _, hat0⟩ := World.cells?_some h00;have hat := (hat0 0 hpos).trans (List.getElem?_eq_getElem (by rw [hf]; exact hpos));have hspot : spot = none := by simpa [Addr.add] using World.cell?_spot hat
   subst hspot;have hlt : b < W.heap.size := by
    have h9 := cell_lt (by simpa [Addr.add] using hat : W.cell? ⟨b, off, none⟩ = some _);exact h9
   refine ⟨b, off, rfl, hlt, fun i hi' j v hv => ?_⟩;have hi2 : i < len := by simpa using hi'
   have hgi := (hg i (by omega)).1;obtain ⟨_, hcl, hat1⟩ := World.cells?_some hgi;simp only [List.getElem_map, List.getElem_range] at hv;have hj : j < k := by have h9 := (List.getElem?_eq_some_iff.1 hv).1; rwa [hf] at h9
   have h1 := hat1 j hj;rw [hv] at h1;rw [xUJ, xUJ] at h1;exact h1
  ·obtain ⟨i, hi', rfl⟩ := List.mem_map.1 hy;exact (hg i (by have := List.mem_range.1 hi'; omega)).2
end
end Go.Proofs.YthmicafabimfkaaGreatDoor


namespace Go.Proofs.YthmicafabimfkaaGreatDoor
open Go.RowKit
open Go.ChangeShapes Go.WideShapes Go.Deep
/-- Numbers are of their kinds, texts not too long. -/
def xRb : (τ : TC) -> τ.ty -> Prop
 | .int k, n => k.min <= n /\ n <= k.max
 | .str, s => s.size <= maxLen
 | .pair a b, x => xRb a x.1 /\ xRb b x.2
 | .bool, _ => True
 | .er, _ => False
 | .rf _ _, _ => False
 | .cv, _ => False
 | .nil, _ => True
/-- Where the parts of a type lie. -/
def chkT (P : Program) : Nat -> TypeId -> Bool
 | 0, _ => false
 | d + 1, t => match P.underlying t with
  | some (.int _) => true
  | some .bool => true
  | some .string => true
  | some (.struct fs) => xJ9 0 (fs.toList.map fun f => (f.offset, P.cellsOf f.type)) (P.cellsOf t) && fs.toList.all (fun f => chkT P d f.type)
  | some (.array n e) => Nat.beq (P.cellsOf t) (n * P.cellsOf e) && chkT P d e
  | _ => false
theorem xIa : ∀ {l : List TC} {css : List (List Value)}, l.length = css.length -> (∀ (i : Nat) (τ : TC) (cs : List Value), l[i]? = some τ -> css[i]? = some cs -> ∃ v : τ.ty, DenL [] (τ.enc v) cs /\ xRb τ v) -> ∃ v : (xDY l).ty, DenL [] ((xDY l).enc v) css.flatten /\ xRb (xDY l) v
 | [], [], _, _ => ⟨(), rfl, trivial⟩
 | [], _ :: _, h, _ => by simp at h
 | _ :: _, [], h, _ => by simp at h
 | [a], [c], _, h => by
  obtain ⟨v, h1, h2⟩ := h 0 a c rfl rfl;exact ⟨v, by rw [List.flatten_cons, List.flatten_nil, List.append_nil]; exact h1, h2⟩
 | [_], _ :: _ :: _, h, _ => by simp at h
 | _ :: _ :: _, [_], h, _ => by simp at h
 | a :: b :: l, c :: d :: css, hl, h => by
  obtain ⟨v, h1, h2⟩ := h 0 a c rfl rfl;obtain ⟨u, h3, h4⟩ := xIa (l := b :: l) (css := d :: css) (by simpa using hl) (fun i τ cs e1 e2 => h (i + 1) τ cs (by simpa using e1) (by simpa using e2));refine ⟨(v, u), ?_, h2, h4⟩;rw [List.flatten_cons];exact DenL.app h1 h3
theorem xU6 {P : Program} {d : Nat} {t : TypeId} {k} (h : P.underlying t = some (.int k)) : xBo P (d + 1) t = .int k := by simp only [xBo, h]
theorem xRw {P : Program} {d : Nat} {t : TypeId} (h : P.underlying t = some .bool) : xBo P (d + 1) t = .bool := by simp only [xBo, h]
theorem xU5 {P : Program} {d : Nat} {t : TypeId} (h : P.underlying t = some .string) : xBo P (d + 1) t = .str := by simp only [xBo, h]
theorem tcOf_st {P : Program} {d : Nat} {t : TypeId} {fs} (h : P.underlying t = some (.struct fs)) : xBo P (d + 1) t = xDY (fs.toList.map (fun f => xBo P d f.type)) := by simp only [xBo, h]
theorem xU7 {P : Program} {d : Nat} {t : TypeId} {n e} (h : P.underlying t = some (.array n e)) : xBo P (d + 1) t = xDY (List.replicate n (xBo P d e)) := by simp only [xBo, h]
section
variable {P : Program} {H : Type} {enc : TypeId × Value -> H} {W : World} {base : Nat} {spare : Nat -> Bool} {held : Bool}
theorem xDX : ∀ (d : Nat) (t : TypeId) (fuel : Nat) (cs : List Value) (x : DataW H × List MemPlace), chkT P d t = true -> DataW.trod enc P W base spare held fuel t cs = some x -> ∃ v : (xBo P d t).ty, DenL [] ((xBo P d t).enc v) cs /\ xRb (xBo P d t) v
 | 0, t, _, _, _, hc, _ => by cases hc
 | d + 1, t, fuel, cs, x, hc, h => by
  unfold chkT at hc;split at hc
  ·rename_i k hu;rw [xU6 hu];obtain ⟨n, hn, _, hw⟩ := DataW.trod_int hu h;simp only [Lit.wf, Bool.and_eq_true, decide_eq_true_eq] at hw;exact ⟨n, ⟨_, [], hn, ⟨rfl, rfl⟩, rfl⟩, hw⟩
  ·rename_i hu;rw [xRw hu];obtain ⟨n, hn, _⟩ := DataW.trod_bool hu h;exact ⟨n, ⟨_, [], hn, ⟨rfl, rfl⟩, rfl⟩, trivial⟩
  ·rename_i hu;rw [xU5 hu];obtain ⟨n, hn, _, hs⟩ := DataW.trod_string hu h;exact ⟨n, ⟨_, [], hn, ⟨rfl, rfl⟩, rfl⟩, hs⟩
  ·rename_i fs hu;rw [tcOf_st hu];simp only [Bool.and_eq_true, List.all_eq_true] at hc;obtain ⟨xs, n, _, _, hlen, hxl, hg⟩ := DataW.trod_struct hu h;have hp := parts _ hc.1 hlen;rw [List.map_map] at hp;rw [hp];refine xIa (by simp) (fun i τ cs' e1 e2 => ?_);rw [List.getElem?_map] at e1 e2
   cases hf : fs.toList[i]? with
   | none => rw [hf] at e1; cases e1
   | some f =>
    rw [hf] at e1 e2;cases e1; cases e2;have hfa : fs[i]? = some f := by simpa using hf
    have hi := (Array.getElem?_eq_some_iff.1 hfa).1;obtain ⟨y, hy⟩ := xL6 (i := i) hxl hi;have := (hg i f hfa).trans hy;exact xDX d f.type n _ y (hc.2 f (List.mem_of_getElem? hf)) this
  ·rename_i n e hu;rw [xU7 hu];simp only [Bool.and_eq_true] at hc;obtain ⟨xs, m, _, _, hlen, hxl, hg⟩ := DataW.trod_array hu h;have hcell := nbT hc.1;have hp : cs = ((List.range n).map fun i => (cs.drop (i * P.cellsOf e)).take (P.cellsOf e)).flatten := by
    have key : ∀ (k : Nat) (o : Nat) (l : List Value), l.length = k * P.cellsOf e -> l = ((List.range k).map fun i => (l.drop (i * P.cellsOf e)).take (P.cellsOf e)).flatten := by
     intro k
     induction k with
     | zero => intro o l hl; rw [Nat.zero_mul] at hl; simp [List.eq_nil_of_length_eq_zero hl]
     | succ k ih =>
      intro o l hl;rw [List.range_succ_eq_map, List.map_cons, List.flatten_cons, List.map_map];have := ih o (l.drop (P.cellsOf e)) (by rw [List.length_drop, hl, Nat.add_mul]; omega)
      conv => lhs; rw [<- List.take_append_drop (P.cellsOf e) l, this]
      simp only [Nat.zero_mul, List.drop_zero];congr 3;funext i;simp only [Function.comp, List.drop_drop, Nat.add_mul, Nat.one_mul, Nat.succ_eq_add_one];rw [Nat.add_comm]
    exact key n 0 cs (by rw [hlen, hcell])
   rw [hp];refine xIa (by simp) (fun i τ cs' e1 e2 => ?_);rw [List.getElem?_replicate] at e1;split at e1
   ·rename_i hi;cases e1;rw [List.getElem?_map, List.getElem?_range hi] at e2;cases e2;obtain ⟨y, hy⟩ := xL6 (i := i) hxl hi;exact xDX d e m _ y hc.2 ((hg i hi).trans hy)
   ·cases e1
  ·cases hc
end
theorem DenL.one {ρ : List Info} {L : List CV} {a : Value} (h : DenL ρ L [a]) : DenB ρ false L a := by
 cases L with
 | nil => cases h
 | cons c r =>
  obtain ⟨v, r', e, h1, h2⟩ := h;cases e
  cases r with
  | nil => exact ⟨c, rfl, h1⟩
  | cons c' r =>
   obtain ⟨v, r', e, h1, h2⟩ := h2;cases e
/-- A value of a type without references. -/
theorem xQS {P : Program} {H : Type} {enc : TypeId × Value -> H} {W : World} {base d : Nat} {t : TypeId} {v : Value} {x : DataW H × List MemPlace} {r : Reach} {τ : TC} {dd : TypeDesc} (hτ : xBo P d t = τ) (hc : chkT P d t = true) (hv : Value.okWide P W r base t v) (h : ∃ fuel, DataW.trod enc P W 0 (fun _ => true) true fuel t v.cells.toList = some x) (hu : P.underlying t = some dd) :
  ∃ y : τ.ty, DenB [] (xBL dd) (τ.enc y) v /\ xRb τ y := by
 subst hτ;obtain ⟨fuel, h⟩ := h;obtain ⟨y, h1, h2⟩ := xDX d t fuel _ x hc h;refine ⟨y, ?_, h2⟩;generalize (xBo P d t).enc y = L at h1
 cases d with
 | zero => cases hc
 | succ d =>
  unfold chkT at hc;rw [hu] at hc
  cases dd with
  | int k =>
   obtain ⟨n, rfl⟩ := xUT hu hv h;exact h1.one
  | bool =>
   obtain ⟨n, rfl⟩ := xRe hu hv h;exact h1.one
  | string =>
   obtain ⟨n, hn, _⟩ := DataW.trod_string hu h;have hvs : v = .string n := by
    cases v with
    | agg c => simp [Value.okWide, hu, Cell.okWide, Cell.ok] at hv
    | _ => simp_all [Value.cells]
   subst hvs;exact h1.one
  | struct fs =>
   obtain ⟨⟨cs⟩, rfl, _⟩ := okWide_struct hu hv;exact ⟨cs, h1, rfl⟩
  | array n e =>
   have : ∃ cs : Array Value, v = .agg cs := by
    simp only [Value.okWide, hu] at hv;obtain ⟨cs, h1, _⟩ := hv;exact ⟨cs, h1⟩
   obtain ⟨⟨cs⟩, rfl⟩ := this;exact ⟨cs, h1, rfl⟩
  | _ => cases hc
/-! A law's call -/
def ArgsD (vs : List Value) : (l : List (Nat × PK)) -> xNu l -> Prop
 | [], _ => True
 | p :: l, x => (∃ v, DenP [] (p.2.enc same (pf p.2.dflt p.2.hasD (slD l) x)) v /\ vs[p.1]? = some v) /\ ArgsD vs l (ps (xVj l) p.2.hasD (slD l) x)
theorem ArgsD.den {vs : List Value} : ∀ {l : List (Nat × PK)} {x : xNu l}, ArgsD vs l x -> ∀ q p, lkP (xAX same l x) q = some p -> ∃ v, DenP [] p v /\ vs[q]? = some v
 | [], _, _, q, p, h => by
  have h : lkP .nil q = some p := h;rw [xEY] at h;cases h
 | a :: l, x, ⟨h1, h2⟩, q, p, h => by
  have g : lkP (xDj (xAX same l (ps (xVj l) a.2.hasD (slD l) x)) a.1 (a.2.enc same (pf a.2.dflt a.2.hasD (slD l) x))) q = some p := h;rw [xBn] at g;by_cases e : q = a.1
  ·rw [if_pos e] at g;subst e;rw [<- Option.some.inj g];exact h1
  ·rw [if_neg e] at g;exact ArgsD.den h2 q p g
end Go.Proofs.YthmicafabimfkaaGreatDoor


namespace Go.Proofs.YthmicafabimfkaaGreatDoor
open Go.RowKit
open Go.ChangeShapes Go.WideShapes Go.Deep
def scV : CV -> Value
 | .sc v => v
 | _ => undef
theorem xTt : ∀ {τ : TC} {y : τ.ty}, xRb τ y -> ∀ c ∈ τ.enc y, ∃ v, c = CV.sc v
 | .int _, _, _, c, h => ⟨_, by simpa [TC.enc] using h⟩
 | .bool, _, _, c, h => ⟨_, by simpa [TC.enc] using h⟩
 | .str, _, _, c, h => ⟨_, by simpa [TC.enc] using h⟩
 | .nil, _, _, c, h => by simp [TC.enc] at h
 | .cv, _, hf, _, _ => hf.elim
 | .er, _, hf, _, _ => hf.elim
 | .rf _ _, _, hf, _, _ => hf.elim
 | .pair a c, x, hf, b, h => by
  simp only [TC.enc, List.mem_append] at h;rcases h with h | h
  ·exact xTt hf.1 b h
  ·exact xTt hf.2 b h
theorem xNd : ∀ {l : List CV} {vs : List Value}, (∀ c ∈ l, ∃ v, c = CV.sc v) -> DenL [] l vs -> vs = l.map scV
 | [], _, _, h => h
 | c :: l, _, hn, ⟨v, r, e, h1, h2⟩ => by
  rw [e, List.map_cons, <- xNd (fun b hb => hn b (by simp [hb])) h2];obtain ⟨u, rfl⟩ := hn c (by simp);congr 1;exact h1.1
theorem xMX {α : Type} {f : α -> List Value} {k : Nat} (hk : ∀ y, (f y).length = k) : ∀ (xs : List α) (j : Nat) (v : Value), (xs.flatMap f)[j]? = some v -> ∃ i, ∃ hi : i < xs.length, ∃ j', j = i * k + j' /\ (f xs[i])[j']? = some v
 | [], j, v, h => by simp at h
 | x :: xs, j, v, h => by
  rw [List.flatMap_cons] at h;by_cases hj : j < (f x).length
  ·rw [List.getElem?_append_left hj] at h;exact ⟨0, by simp, j, by omega, h⟩
  ·rw [List.getElem?_append_right (by omega)] at h;obtain ⟨i, hi, j', e, h'⟩ := xMX hk xs _ v h;refine ⟨i + 1, by simp only [List.length_cons]; omega, j', ?_, h'⟩;have := hk x;rw [Nat.add_mul];omega
theorem xTs (τ : TC) (xs : List τ.ty) (h : ∀ y ∈ xs, DenL [] (τ.enc y) ((τ.enc y).map scV)) : DenL [] (flat τ xs) (xs.flatMap fun y => (τ.enc y).map scV) := by
 unfold flat
 induction xs with
 | nil => exact rfl
 | cons x xs ih =>
  rw [List.flatMap_cons, List.flatMap_cons];exact DenL.app (h x (by simp)) (ih fun y hy => h y (by simp [hy]))
/-- A slice that comes in, of what has no references. -/
structure SlIn (W : World) (τ : TC) (i : Info) (xs : List τ.ty) : Prop where
 len : i.len = some xs.length
 root : RootOk [] W i (.ro τ xs)
 le : xs.length <= i.cap
 big : i.cap <= maxLen
 fit : ∀ y ∈ xs, xRb τ y
 objs : ∀ t, i.objs t = []
theorem sl_in {P : Program} {H : Type} {enc : TypeId × Value -> H} {W : World} {base : Nat} {held : Bool} {fuel d : Nat} {cs : List Value} {x : DataW H × List MemPlace} {t e : TypeId} {τ : TC} (ht : P.underlying t = some (.slice e)) (hτ : xBo P d e = τ) (hc : chkT P d e = true) (hw : P.cellsOf e = τ.w) (hpos : 0 < τ.w)
  (y0 : τ.ty) (h : DataW.trod enc P W base (fun _ => true) held fuel t cs = some x) : ∃ (i : Info) (xs : List τ.ty), cs = [.slice i.a xs.length i.cap] /\ SlIn W τ i xs := by
 subst hτ;obtain ⟨a, cap, xs, e1, e2, e3⟩ := xWf (f := fun y => ((xBo P d e).enc y).map scV) (Pr := fun y => DenL [] ((xBo P d e).enc y) (((xBo P d e).enc y).map scV) /\ xRb (xBo P d e) y) y0 ht hw hpos (fun l => by rw [List.length_map, TC.enc_len])
  (fun n cs x h => by
   obtain ⟨y, h1, h2⟩ := xDX d e n cs x hc h;have h3 := xNd (xTt h2) h1;exact ⟨y, h3, h3 ▸ h1, h2⟩) h rfl
 refine ⟨⟨a, cap, some xs.length, undef⟩, xs, e1, rfl, ⟨rfl, _, xTs _ xs fun y hy => (e3 y hy).1, fun h0 => ?_⟩, e2.le, e2.big, fun y hy => (e3 y hy).2, fun _ => rfl⟩;obtain ⟨b, off, ha, hb, hcl⟩ := e2.cells h0;refine ⟨b, off, ha, hb, fun j v hv => ?_⟩;obtain ⟨i, hi, j', e4, e5⟩ := xMX (f := fun y => ((xBo P d e).enc y).map scV) (fun y => by rw [List.length_map, TC.enc_len]) xs j v hv;rw [e4, <- Nat.add_assoc];exact hcl i hi j' v e5
theorem SlIn.den {ρ : List Info} {W : World} {τ : TC} {i : Info} {xs : List τ.ty} (h : SlIn W τ i xs) {id k : Nat} (hi : ρ[id]? = some i) : Den ρ (.sl id k 0 none none) (.slice i.a xs.length i.cap) := by
 obtain ⟨_, _, _, h3⟩ := h.root;refine ⟨i, i.a, i.cap, xs.length, hi, rfl, h.le, h.big, fun h0 => ?_, ⟨_, h.len, by rw [Nat.sub_zero]⟩, ⟨_, h.len, by omega⟩, by rw [Nat.sub_zero], rfl, fun _ => rfl, fun _ => ?_⟩
 ·obtain ⟨b, o, ha, _⟩ := h3 h0;exact ⟨b, o, ha⟩
 ·rw [Nat.zero_mul]
  cases i.a with
  | none => rfl
  | some a => show some a = some (a.add 0); unfold Addr.add; rw [if_pos rfl]
theorem xMY {P : Program} {H : Type} {enc : TypeId × Value -> H} {W : World} {base d : Nat} {spare : Nat -> Bool} {held : Bool} {fuel : Nat} {cs : List Value} {x : DataW H × List MemPlace} {t : TypeId} {τ : TC} (hτ : xBo P d t = τ) (hc : chkT P d t = true) (h : DataW.trod enc P W base spare held fuel t cs = some x) : ∃ y : τ.ty, DenL [] (τ.enc y) cs /\ xRb τ y := by
 subst hτ;exact xDX d t fuel cs x hc h
theorem pre_nil (ρ : List Info) : Pre [] ρ := fun _ _ h => by simp at h
def ArgsR (ρ : List Info) (vs : List Value) : (l : List (Nat × PK)) -> xNu l -> Prop
 | [], _ => True
 | p :: l, x => (∃ v, DenP ρ (p.2.enc same (pf p.2.dflt p.2.hasD (slD l) x)) v /\ vs[p.1]? = some v) /\ ArgsR ρ vs l (ps (xVj l) p.2.hasD (slD l) x)
theorem ArgsR.den {ρ : List Info} {vs : List Value} : ∀ {l : List (Nat × PK)} {x : xNu l}, ArgsR ρ vs l x -> ∀ q p, lkP (xAX same l x) q = some p -> ∃ v, DenP ρ p v /\ vs[q]? = some v
 | [], _, _, q, p, h => by
  have h : lkP .nil q = some p := h;rw [xEY] at h;cases h
 | a :: l, x, ⟨h1, h2⟩, q, p, h => by
  have g : lkP (xDj (xAX same l (ps (xVj l) a.2.hasD (slD l) x)) a.1 (a.2.enc same (pf a.2.dflt a.2.hasD (slD l) x))) q = some p := h;rw [xBn] at g;by_cases e : q = a.1
  ·rw [if_pos e] at g;subst e;rw [<- Option.some.inj g];exact h1
  ·rw [if_neg e] at g;exact ArgsR.den h2 q p g
/-- What is only read. -/
def RosOk (W : World) : List Info -> List Root -> Prop
 | [], hs => hs = []
 | i :: ρ, hs => ∃ τ xs l, hs = .ro τ xs :: l /\ RootOk [] W i (.ro τ xs) /\ (∀ t, i.objs t = []) /\ RosOk W ρ l
theorem RosOk.get {W : World} : ∀ {ρ : List Info} {h : List Root}, RosOk W ρ h -> ρ.length = h.length /\ ∀ (id : Nat) (r : Root) (i : Info), h[id]? = some r -> ρ[id]? = some i -> (∃ τ xs, r = .ro τ xs) /\ RootOk [] W i r /\ ∀ t, i.objs t = []
 | [], _, h => by
  rw [show _ = [] from h];exact ⟨rfl, fun id r i e => by simp at e⟩
 | i :: ρ, _, ⟨τ, xs, l, e, h1, h3, h2⟩ => by
  subst e;obtain ⟨g1, g2⟩ := RosOk.get h2;refine ⟨by simp [g1], fun id r j e1 e2 => ?_⟩
  cases id with
  | zero => cases e1; cases e2; exact ⟨⟨τ, xs, rfl⟩, h1, h3⟩
  | succ id => exact g2 id r j (by simpa using e1) (by simpa using e2)
/-- What is only read, and arenas without objects. -/
def RosA (W : World) : List Info -> List Root -> Prop
 | [], hs => hs = []
 | i :: ρ, hs => ∃ r l, hs = r :: l /\ ((∃ τ xs, r = .ro τ xs) \/ (r.tag ≠ none /\ r.obs = [])) /\ RootOk [] W i r /\ (∀ t, i.objs t = []) /\ RosA W ρ l
theorem RosA.get {W : World} : ∀ {ρ : List Info} {h : List Root}, RosA W ρ h -> ρ.length = h.length /\ (∀ (id : Nat) (i : Info) (t : Nat), ρ[id]? = some i -> i.objs t = []) /\ ∀ (id : Nat) (r : Root) (i : Info), h[id]? = some r -> ρ[id]? = some i -> ((∃ τ xs, r = .ro τ xs) \/ (r.tag ≠ none /\ r.obs = [])) /\ RootOk [] W i r
 | [], _, h => by
  rw [show _ = [] from h];exact ⟨rfl, fun id i t e => by simp at e, fun id r i e => by simp at e⟩
 | i :: ρ, _, ⟨r0, l, e, h1, h2, h3, h4⟩ => by
  subst e;obtain ⟨g1, g2, g3⟩ := RosA.get h4;refine ⟨by simp [g1], fun id j t e => ?_, fun id r j e1 e2 => ?_⟩
  ·cases id with
   | zero => cases e; exact h3 t
   | succ id => exact g2 id j t (by simpa using e)
  ·cases id with
   | zero => cases e1; cases e2; exact ⟨h1, h2⟩
   | succ id => exact g3 id r j (by simpa using e1) (by simpa using e2)
theorem xFz {i : Info} {r : Root} (h : (∃ τ xs, r = .ro τ xs) \/ (r.tag ≠ none /\ r.obs = [])) (b : Nat) : ¬ own i r b := by
 rcases h with ⟨τ, xs, rfl⟩ | ⟨h1, h2⟩
 ·exact fun h => h
 ·obtain ⟨t, ht⟩ := Option.ne_none_iff_exists'.1 h1;intro h;obtain ⟨m, v, o, _, h3, _⟩ := ((xER (ρ := []) (w := default) ht).2 b).1 h;rw [h2] at h3;simp at h3
theorem xMW {i : Info} {r : Root} (h1 : r.tag ≠ none) (h2 : r.obs = []) (b : Nat) : ¬ foot i r b := by
 have ho := xFz (i := i) (.inr ⟨h1, h2⟩) b
 cases r with
 | arr t τ os =>
  rintro ⟨m, v, o, _, h3, _⟩
  rw [h2] at h3;simp at h3
 | dead => exact absurd rfl h1
 | blk cs T => exact absurd rfl h1
 | rows T τ xs => exact absurd rfl h1
 | ro τ xs => exact absurd rfl h1
 | clo f a c => exact absurd rfl h1
 | mp κ agg τ ts => exact absurd rfl h1
 | _ => exact ho
theorem xQI {P : Program} {f n : Nat} {l : List (Nat × PK)} {rs os : List RK} {spec : Sch.ty ⟨l, rs⟩ -> Option (FSch.ty ⟨.one (.c (.t .bool)), os⟩)} (h : xAu P f n ⟨l, rs⟩ ⟨.one (.c (.t .bool)), os⟩ spec) (s : Sch.ty ⟨l, rs⟩) (t : FSch.ty ⟨.one (.c (.t .bool)), os⟩) (hs : spec s = some t) (ht : FSch.a ⟨.one (.c (.t .bool)), os⟩ t = true) (vs : List Value) (hn : vs.length = n) (W : World) (hcl : xBc P f = true) (ρ : List Info) (ha : ArgsR ρ vs l (Sch.a ⟨l, rs⟩ s)) (hr : RosA W ρ (xAm same rs (Sch.b ⟨l, rs⟩ s))) (hg : gOk W /\ ∀ b ∈ xLw, b < W.heap.size) :
  Calls P f vs.toArray W (fun e W' => e = .returned (.bool true) /\ Ex [] W W') := by
 obtain ⟨g1, g0, g2⟩ := hr.get;have hO : HOk [] (ρ.filterMap fun i => i.a.map (·.block)) W ρ (xAm same rs (Sch.b ⟨l, rs⟩ s)) W := by
  refine ⟨Ex.refl _ _, g1, fun id r i e1 e2 => ?_, fun p q r s i j b hne e1 e2 e3 e4 ho => absurd ho (xFz (g2 p r i e1 e3).1 b), fun p r i b e1 e2 ho => absurd ho (xFz (g2 p r i e1 e2).1 b), fun p r i b e1 e2 ho => ?_, hg.1, fun b hb => ⟨hg.2 b hb, by simp⟩, fun p t r i e1 e2 ht id j m v hj hv => (by rw [g0 id j t hj] at hv; simp at hv), fun p r i e1 e2 => .inr fun t _ => g0 p i t e2⟩
  ·exact (g2 id r i e1 e2).2.mono (fun id i h => by simp at h)
  ·rcases (g2 p r i e1 e2).1 with ⟨τ, xs, rfl⟩ | h3
   ·refine .inr (.inr (List.mem_filterMap.2 ⟨i, List.mem_of_getElem? e2, ?_⟩))
    cases xs with
    | nil => cases ho
    | cons x xs => exact ho
   ·exact absurd ho (xMW h3.1 h3.2 b)
 refine (h s t hs [] _ W ρ W vs hn ha.den hO hcl).mono ?_
 rintro e w' ⟨ι', u, rfl, _, hu, hh, _⟩
 have hu' : u = .bool (FSch.a ⟨.one (.c (.t .bool)), os⟩ t) := hu.1;rw [ht] at hu';exact ⟨congrArg _ hu', hh.ext⟩
theorem RosA.hok {W : World} {ρ : List Info} {h : List Root} (hr : RosA W ρ h) (hg : gOk W /\ ∀ b ∈ xLw, b < W.heap.size) : HOk [] (ρ.filterMap fun i => i.a.map (·.block)) W ρ h W := by
 obtain ⟨g1, g0, g2⟩ := hr.get;refine ⟨Ex.refl _ _, g1, fun id r i e1 e2 => ?_, fun p q r s i j b hne e1 e2 e3 e4 ho => absurd ho (xFz (g2 p r i e1 e3).1 b), fun p r i b e1 e2 ho => absurd ho (xFz (g2 p r i e1 e2).1 b), fun p r i b e1 e2 ho => ?_, hg.1, fun b hb => ⟨hg.2 b hb, by simp⟩, fun p t r i e1 e2 ht id j m v hj hv => (by rw [g0 id j t hj] at hv; simp at hv), fun p r i e1 e2 => .inr fun t _ => g0 p i t e2⟩
 ·exact (g2 id r i e1 e2).2.mono (fun id i h => by simp at h)
 ·rcases (g2 p r i e1 e2).1 with ⟨τ, xs, rfl⟩ | h3
  ·refine .inr (.inr (List.mem_filterMap.2 ⟨i, List.mem_of_getElem? e2, ?_⟩))
   cases xs with
   | nil => cases ho
   | cons x xs => exact ho
  ·exact absurd ho (xMW h3.1 h3.2 b)
/-- Arenas without objects. -/
theorem xJC {W : World} : ∀ {h : List Root}, (∀ r ∈ h, r.tag ≠ none /\ r.obs = []) -> RosA W (List.replicate h.length nilI) h
 | [], _ => rfl
 | r :: h, hr => by
  obtain ⟨h1, h2⟩ := hr r (by simp);refine ⟨r, h, rfl, .inr ⟨h1, h2⟩, ?_, xDa, xJC (fun r hm => hr r (by simp [hm]))⟩;obtain ⟨t, ht⟩ := Option.ne_none_iff_exists'.1 h1;refine (xER ht).1.2 ?_;rw [h2, xDa];exact ⟨rfl, fun m v o h => by simp at h, fun m m' v v' o o' b _ h => by simp at h⟩
end Go.Proofs.YthmicafabimfkaaGreatDoor
