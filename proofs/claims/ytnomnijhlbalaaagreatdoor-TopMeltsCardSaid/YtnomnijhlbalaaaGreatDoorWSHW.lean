/- A part of the proof of the theorem of the last file. No condition. By an AI agent. -/
import Derived.Test.YtnomnijhlbalaaaGreatDoorWYH
import Derived.Ground.NamesProg
import Derived.Shelf.Strings.SlTrimAscii
import Derived.Shelf.Strings.Split
import Derived.Shelf.Strings.OnBuilder
import Derived.Shelf.Strconv.Itoa3
import Derived.Shelf.Strings.Cut
import Derived.Shelf.Strconv.AtoiAll
set_option maxRecDepth 100000
namespace Go.Proofs.YtnomnijhlbalaaaGreatDoor
noncomputable section
open Go.RowKit
inductive AW where
 | an (a : An)
 | two (a b : AW)
 | one (a : AW)
 | rf (R : RgA)
 | rnd (a b : AW)
 | join (o : xBO) (a : AW)
 | loop (S : Sch) (o : xBO) (M : S.ty -> Option (xAK o))
def AW.l : AW -> AW
 | .an a => .an a.l
 | .two a _ => a
 | .one a => a
 | _ => .an .no
def AW.r : AW -> AW
 | .an a => .an a.r
 | .two _ b => b
 | _ => .an .no
def AW.rd : AW -> Nat -> AW
 | .rnd a b, i => match i with
  | 0 => a
  | i + 1 => b.rd i
 | _, _ => .an .no
def evW (P : Program) (A : xFm) (Fu f : Nat) (call : (β : Type) -> xAT β) (m N : Nat) : Nat -> AW -> Code -> (β : Type) -> Slo -> List Root -> xFn β -> Option β
 | 0, _, _, _, _, _, _ => none
 | d + 1, an, c, β, K, h, k => match an with
  | .an a => evA P Fu (xE4 A f) call m N 300 a c β K h k
  | .join o a => ob (evW P A Fu f call m N d a c (xAK o) K h (xBt m o)) (fun x => xX9 k o x)
  | .loop S o M => match c with
   | .loop _ => match S.dec m K h with
    | some s => ob (M s) (fun x => xX9 k o x)
    | none => none
   | _ => none
  | .rf R => match c with
   | .rangeFunc g ps as1 bd => match R.SC.dec m K h with
    | some xc => match xAv (xA2 same R.SC.slots (R.SC.a xc)) g with
     | some (.c (.hv j)) => rfEv P (xE4 A) call N R.ysp R.LS R.oo (R.LM xc) R.an R.gf R.na ps.toList as1 bd β j (xA2 same R.SC.slots (R.SC.a xc)) (xAn same R.SC.roots (R.SC.b xc)) (fun p h' => k (p.getD .normal) (xA2 same R.SC.slots (R.SC.a xc)) h')
     | _ => none
    | none => none
   | _ => none
  | an => match c with
   | .seq x y => evW P A Fu f call m N d an.l x β K h (fun e K' h' => match e with
    | .normal => evW P A Fu f call m N d an.r y β K' h' k
    | e => k e K' h')
   | .cond c x y => match xAv K c with
    | some (.c (.sc (.bool b))) => bif b then evW P A Fu f call m N d an.l x β K h k else evW P A Fu f call m N d an.r y β K h k
    | _ => none
   | .block id x => evW P A Fu f call m N d an.l x β K h (fun e K' h' => match e with
    | .exit id' => bif Nat.beq id' id then k .normal K' h' else k (.exit id') K' h'
    | e => k e K' h')
   | .loop x => xDL (fun n K h k => evW P A Fu f call m N d (an.rd (Fu - 1 - n)) x β K h k) Fu K h k
   | _ => none
section
variable {P : Program} {m N : Nat} {S0 F0 S F : List Nat} {W0 B : World} {ρ ρ' : List Info} {h h' : List Root} {w w' : World}
theorem HOk.back2 (hh : HOk S0 F0 W0 ρ h w) (hE : Ext w B) (hc : HOk (xAp .own ρ h (List.range h.length)) (xAp .foot ρ h (List.range h.length)) B ρ' h' w') : HOk S0 F0 W0 ρ' h' w' := by
 have hsz : W0.heap.size <= B.heap.size := Nat.le_trans hh.ext.size hE.size;have ho : ∀ b ∈ xAp .own ρ h (List.range h.length), W0.heap.size <= b \/ b ∈ S0 := fun b hb => by
  obtain ⟨p, _, r, i, hr, hi, e⟩ := xAe.1 hb;exact hh.mine p r i b hr hi e
 have hf : ∀ b ∈ xAp .foot ρ h (List.range h.length), W0.heap.size <= b \/ b ∈ S0 \/ b ∈ F0 := fun b hb => by
  obtain ⟨p, _, r, i, hr, hi, e⟩ := xAe.1 hb;exact hh.near p r i b hr hi e
 refine ⟨?_, hc.len, hc.ok, hc.sep, fun p r i b hr hi e => ?_, fun p r i b hr hi e => ?_, hh.lay, hh.out, hc.cov, hc.cln⟩
 ·have h1 : Ex S0 W0 B := hh.ext.trans (hE.ex S0);exact h1.trans_fresh hc.ext (fun b hb => (ho b hb).symm)
 ·rcases hc.mine p r i b hr hi e with h1 | h1
  ·exact .inl (Nat.le_trans hsz h1)
  ·exact ho b h1
 ·rcases hc.near p r i b hr hi e with h1 | h1 | h1
  ·exact .inl (Nat.le_trans hsz h1)
  ·rcases ho b h1 with h2 | h2
   ·exact .inl h2
   ·exact .inr (.inl h2)
  ·exact hf b h1
def StM (S0 F0 : List Nat) (W0 : World) : List Nat -> List Info -> List Root -> World -> Prop
 | [], ρ, h, W => HOk S0 F0 W0 ρ h W
 | l :: Ls, ρ, h, W => ∃ ρ1 h1 w1 B, StM S0 F0 W0 Ls ρ1 h1 w1 /\ l = w1.heap.size /\ Ext w1 B /\ B.heap[l]? = some (.deferred (some [])) /\ HOk (xAp .own ρ1 h1 (List.range h1.length)) (xAp .foot ρ1 h1 (List.range h1.length)) B ρ h W
theorem xLI : ∀ {Ls : List Nat} {ρ : List Info} {h : List Root} {W : World}, StM S0 F0 W0 Ls ρ h W -> ∃ S F W1, HOk S F W1 ρ h W /\ ∀ ρ' h' W', HOk S F W1 ρ' h' W' -> StM S0 F0 W0 Ls ρ' h' W'
 | [], ρ, h, W, hs => ⟨S0, F0, W0, hs, fun _ _ _ h => h⟩
 | l :: Ls, ρ, h, W, ⟨ρ1, h1, w1, B, e1, e2, e3, e4, e5⟩ => ⟨_, _, B, e5, fun _ _ _ h => ⟨ρ1, h1, w1, B, e1, e2, e3, e4, h⟩⟩
theorem xVS {fn : Func} {tmps : Array Value} {R : Ending -> World -> Prop} : ∀ {Ls : List Nat} {ρ : List Info} {h : List Root} {W : World}, StM S0 F0 W0 Ls ρ h W -> (∀ W', HOk S0 F0 W0 ρ h W' -> LeavesInM (RFo none) 6 P fn tmps R [] .returning W') ->
  LeavesInM (RFo none) 6 P fn tmps R (Ls.map mark) .returning W
 | [], ρ, h, W, hs, hR => hR W hs
 | l :: Ls, ρ, h, W, ⟨ρ1, h1, w1, B, e1, e2, e3, e4, e5⟩, hR => by
  have hS : l ∉ xAp .own ρ1 h1 (List.range h1.length) := fun hm => by
   obtain ⟨S, F, W1, q1, _⟩ := xLI e1;have := own_lt q1 hm;omega
  have hk := e5.kept e4 hS;have hBl := lt_of_block e4;have hh5 : HOk (xAp .own ρ1 h1 (List.range h1.length)) (xAp .foot ρ1 h1 (List.range h1.length)) (B.putObj l (.deferred none)) ρ h (W.putObj l (.deferred none)) :=
   e5.putObj hk rfl ⟨rfl, rfl, rfl, by simp, fun k _ hk => World.putObj_heap_other (by simpa using hk)⟩ (by simp) (World.putObj_heap_same hBl)
  have hE5 : Ext w1 (B.putObj l (.deferred none)) := by
   refine ⟨e3.os, e3.tape, e3.output, by simp; exact e3.size, fun k hk _ => ?_⟩;rw [World.putObj_heap_other (by omega), e3.block k hk (by simp)]
  have h6 : StM S0 F0 W0 Ls ρ h (W.putObj l (.deferred none)) := by
   obtain ⟨S, F, W1, q1, q2⟩ := xLI e1;exact q2 _ _ _ (q1.back2 hE5 hh5)
  exact ⟨by simp, .inl ⟨l, _, rfl, run_takeDeferred hk, xVS h6 hR⟩⟩
def xMz (P : Program) (m N : Nat) (x : Code) (S : Sch) (o : xBO) (M : S.ty -> Option (xAK o)) : Prop :=
 ∀ (s : S.ty) (y : xAK o), M s = some y -> ∀ (S' F : List Nat) (W0 : World) (Ls : List Nat) (ι : List Info) (a : Act) (w : World), KOk N (Ls.map mark) ι (xA2 same S.slots (S.a s)) a -> StM S' F W0 Ls ι (xAn same S.roots (S.b s)) w -> ∀ Q : Exit -> Act -> World -> Prop,
  (∀ (Ls' : List Nat) (ι' : List Info) (a' : Act) (w' : World), PreM m ι ι' -> KOk N (Ls'.map mark) ι' (xAY o y).2.1 a' -> StM S' F W0 Ls' ι' (xAY o y).2.2 w' -> Q (xAY o y).1.out a' w') -> ∃ n, Code.roundsIn (RFo none) 6 P x Q n a w
def AwOk (P : Program) (call : (β : Type) -> xAT β) (m N : Nat) : AW -> Code -> Prop
 | .an a, c => AnOk P m N a c
 | .two a b, c => match c with
  | .seq x y => AwOk P call m N a x /\ AwOk P call m N b y
  | .cond _ x y => AwOk P call m N a x /\ AwOk P call m N b y
  | .block _ x => AwOk P call m N a x
  | _ => True
 | .one a, c => match c with
  | .seq x _ => AwOk P call m N a x
  | .cond _ x _ => AwOk P call m N a x
  | .block _ x => AwOk P call m N a x
  | _ => True
 | .rf R, c => xTn P call N R c
 | .rnd a b, c => match c with
  | .loop x => AwOk P call m N a x /\ AwOk P call m N b (.loop x)
  | _ => True
 | .join _ a, c => AwOk P call m N a c
 | .loop S o M, c => match c with
  | .loop x => xMz P m N x S o M
  | _ => True
variable {call : (β : Type) -> xAT β}
theorem AwOk.seq {an : AW} {x y : Code} (h : AwOk P call m N an (.seq x y)) : AwOk P call m N an.l x /\ AwOk P call m N an.r y := by
 cases an with
 | an a => exact AnOk.seq h
 | two a b => exact h
 | one a => exact ⟨h, trivial⟩
 | rf R => exact ⟨trivial, trivial⟩
 | rnd a b => exact ⟨trivial, trivial⟩
 | join o a => exact ⟨trivial, trivial⟩
 | loop S o M => exact ⟨trivial, trivial⟩
theorem AwOk.cond {an : AW} {c : Operand} {x y : Code} (h : AwOk P call m N an (.cond c x y)) : AwOk P call m N an.l x /\ AwOk P call m N an.r y := by
 cases an with
 | an a => exact AnOk.cond h
 | two a b => exact h
 | one a => exact ⟨h, trivial⟩
 | rf R => exact ⟨trivial, trivial⟩
 | rnd a b => exact ⟨trivial, trivial⟩
 | join o a => exact ⟨trivial, trivial⟩
 | loop S o M => exact ⟨trivial, trivial⟩
theorem AwOk.block {an : AW} {id : Nat} {x : Code} (h : AwOk P call m N an (.block id x)) : AwOk P call m N an.l x := by
 cases an with
 | an a => exact AnOk.block h
 | two a b => exact h
 | one a => exact h
 | rf R => trivial
 | rnd a b => trivial
 | join o a => trivial
 | loop S o M => trivial
theorem AwOk.loop {x : Code} : ∀ {an : AW}, AwOk P call m N an (.loop x) -> ∀ i, AwOk P call m N (an.rd i) x
 | .an a, _, _ => trivial
 | .two a b, _, _ => trivial
 | .one a, _, _ => trivial
 | .rf R, _, _ => trivial
 | .rnd a b, h, i => by
  cases i with
  | zero => exact h.1
  | succ i => exact AwOk.loop h.2 i
 | .join o a, _, _ => trivial
 | .loop S o M, _, _ => trivial
theorem xK7 {β : Type} {x : Code} {body : Nat -> Slo -> List Root -> xFn β -> Option β} (hb : ∀ (n : Nat) (K : Slo) (h : List Root) (k : xFn β) (r : β), body n K h k = some r -> ∀ (Ls : List Nat) (ρ : List Info) (a : Act) (W : World), KOk N (Ls.map mark) ρ K a -> StM S0 F0 W0 Ls ρ h W -> ∀ Q : Exit -> Act -> World -> Prop,
  (∀ (e : XT) (Ls' : List Nat) (ρ' : List Info) (K' : Slo) (h' : List Root) (a' : Act) (W' : World), PreM m ρ ρ' -> k e K' h' = some r -> KOk N (Ls'.map mark) ρ' K' a' -> StM S0 F0 W0 Ls' ρ' h' W' -> Q e.out a' W') -> x.wpIn (RFo none) 6 P Q a W) : ∀ (n : Nat) (K : Slo) (h : List Root) (k : xFn β) (r : β), xDL body n K h k = some r -> ∀ (Ls : List Nat) (ρ : List Info) (a : Act) (W : World), KOk N (Ls.map mark) ρ K a -> StM S0 F0 W0 Ls ρ h W -> ∀ Q : Exit -> Act -> World -> Prop,
  (∀ (e : XT) (Ls' : List Nat) (ρ' : List Info) (K' : Slo) (h' : List Root) (a' : Act) (W' : World), PreM m ρ ρ' -> k e K' h' = some r -> KOk N (Ls'.map mark) ρ' K' a' -> StM S0 F0 W0 Ls' ρ' h' W' -> Q e.out a' W') -> Code.roundsIn (RFo none) 6 P x Q n a W
 | 0, K, h, k, r, hr => by cases hr
 | n + 1, K, h, k, r, hr => fun Ls ρ a w hK hh Q hn => by
  refine hb n K h _ r hr Ls ρ a w hK hh _ (fun e Ls' ρ' K' h' a' w' hp he hK' hh' => ?_)
  cases e with
  | normal => exact xK7 hb n K' h' k r he Ls' ρ' a' w' hK' hh' Q (fun e L2 ρ2 K2 h2 a2 w2 hp2 => hn e L2 ρ2 K2 h2 a2 w2 (hp.trans hp2))
  | exit id => exact hn _ Ls' ρ' K' h' a' w' hp he hK' hh'
  | ret => exact hn _ Ls' ρ' K' h' a' w' hp he hK' hh'
def AwP (P : Program) (call : (β : Type) -> xAT β) (m N : Nat) (c : Code) : AW -> List Nat -> Prop
 | .an a, p => AnP P m N c a p
 | .two a b, p => AwP P call m N c a (p ++ [0]) /\ AwP P call m N c b (p ++ [1])
 | .one a, p => AwP P call m N c a (p ++ [0])
 | .rf R, p => xTn P call N R (xAw c p)
 | .rnd a b, p => AwP P call m N c a (p ++ [0]) /\ AwP P call m N c b p
 | .join _ a, p => AwP P call m N c a p
 | .loop S o M, p => xMz P m N (xAw c (p ++ [0])) S o M
theorem xDV {c : Code} : ∀ {an : AW} {p : List Nat}, AwP P call m N c an p -> AwOk P call m N an (xAw c p)
 | .an a, p, h => xDW h
 | .two a b, p, h => by
  have h1 := xDV (an := a) h.1;have h2 := xDV (an := b) h.2;rw [xBi] at h1 h2;cases hc : xAw c p <;> rw [hc] at h1 h2 <;> first | exact ⟨h1, h2⟩ | exact h1 | trivial
 | .one a, p, h => by
  have h1 := xDV (an := a) (p := p ++ [0]) h;rw [xBi] at h1;cases hc : xAw c p <;> rw [hc] at h1 <;> first | exact h1 | trivial
 | .rf R, p, h => h
 | .rnd a b, p, h => by
  have h1 := xDV (an := a) h.1;have h2 := xDV (an := b) h.2;rw [xBi] at h1;cases hc : xAw c p <;> rw [hc] at h1 h2 <;> first | exact ⟨h1, h2⟩ | trivial
 | .join o a, p, h => xDV (an := a) h
 | .loop S o M, p, h => by
  have h1 : xMz P m N (xAw c (p ++ [0])) S o M := h;rw [xBi] at h1;cases hc : xAw c p <;> rw [hc] at h1 <;> first | exact h1 | trivial
theorem xHp (hcall : ∀ β, xAS P (call β)) (hmx : P.follows .mixedOrders = true) {A : xFm} (hA : xEl P A) {Fu f : Nat} : ∀ (d : Nat) (an : AW) (c : Code), AwOk P call m N an c -> xAU (xE4 A f) c = true -> ∀ (β : Type) (K : Slo) (h : List Root) (k : xFn β) (x : β), evW P A Fu f call m N d an c β K h k = some x ->
  ∀ (Ls : List Nat) (ρ : List Info) (a : Act) (W : World), KOk N (Ls.map mark) ρ K a -> StM S0 F0 W0 Ls ρ h W -> ∀ Q : Exit -> Act -> World -> Prop,
  (∀ (e : XT) (Ls' : List Nat) (ρ' : List Info) (K' : Slo) (h' : List Root) (a' : Act) (W' : World), PreM m ρ ρ' -> k e K' h' = some x -> KOk N (Ls'.map mark) ρ' K' a' -> StM S0 F0 W0 Ls' ρ' h' W' -> Q e.out a' W') -> c.wpIn (RFo none) 6 P Q a W
 | 0, _, _, _, _, _, _, _, _, _, hr => by cases hr
 | d + 1, an, c, hAn, hreg, β, K, h, k, x, hr => fun Ls ρ a W hK hst Q hn => by
  have plain : (match (generalizing := false) c with
   | .seq x y => evW P A Fu f call m N d an.l x β K h (fun e K' h' => match e with
    | .normal => evW P A Fu f call m N d an.r y β K' h' k
    | e => k e K' h')
   | .cond c x y => match xAv K c with
    | some (.c (.sc (.bool b))) => bif b then evW P A Fu f call m N d an.l x β K h k else evW P A Fu f call m N d an.r y β K h k
    | _ => none
   | .block id x => evW P A Fu f call m N d an.l x β K h (fun e K' h' => match e with
    | .exit id' => bif Nat.beq id' id then k .normal K' h' else k (.exit id') K' h'
    | e => k e K' h')
   | .loop x => xDL (fun n K h k => evW P A Fu f call m N d (an.rd (Fu - 1 - n)) x β K h k) Fu K h k
   | _ => none) = some x -> c.wpIn (RFo none) 6 P Q a W := by
   intro hr
   cases c with
   | seq u v =>
    simp only [xAU, Bool.and_eq_true] at hreg;obtain ⟨hA1, hA2⟩ := hAn.seq;refine wpIn_seq (xHp hcall hmx hA d an.l u hA1 hreg.1 β K h _ x hr Ls ρ a W hK hst _ (fun e Ls' ρ' K' h' a' W' hp he hK' hst' => ?_))
    cases e with
    | normal => exact xHp hcall hmx hA d an.r v hA2 hreg.2 β K' h' k x he Ls' ρ' a' W' hK' hst' Q (fun e L2 ρ2 K2 h2 a2 w2 hp2 => hn e L2 ρ2 K2 h2 a2 w2 (hp.trans hp2))
    | exit id => exact hn _ Ls' ρ' K' h' a' W' hp he hK' hst'
    | ret => exact hn _ Ls' ρ' K' h' a' W' hp he hK' hst'
   | cond c u v =>
    simp only [xAU, Bool.and_eq_true] at hreg;obtain ⟨hA1, hA2⟩ := hAn.cond;dsimp only at hr;split at hr
    ·rename_i b hc;have hb : a.eval c = .bool b := (xAa hK hc).1
     cases b with
     | true => exact wpIn_cond_true hb (xHp hcall hmx hA d an.l u hA1 hreg.1 β K h k x hr Ls ρ a W hK hst Q hn)
     | false => exact wpIn_cond_false hb (xHp hcall hmx hA d an.r v hA2 hreg.2 β K h k x hr Ls ρ a W hK hst Q hn)
    ·cases hr
   | block id u =>
    refine wpIn_block (xHp hcall hmx hA d an.l u hAn.block hreg β K h _ x hr Ls ρ a W hK hst _ (fun e Ls' ρ' K' h' a' W' hp he hK' hst' => ?_))
    cases e with
    | normal => exact hn .normal Ls' ρ' K' h' a' W' hp he hK' hst'
    | exit id' =>
     show Exit.inBlock id Q (.exit id') a' W';dsimp only at he
     cases hb : Nat.beq id' id with
     | true =>
      rw [hb] at he;have := nbT hb;subst this;show (if id' = id' then Q .normal a' W' else Q (.exit id') a' W');rw [if_pos rfl];exact hn .normal Ls' ρ' K' h' a' W' hp he hK' hst'
     | false =>
      rw [hb] at he;have hne := Nat.ne_of_beq_eq_false hb;show (if id' = id then Q .normal a' W' else Q (.exit id') a' W');rw [if_neg hne];exact hn (.exit id') Ls' ρ' K' h' a' W' hp he hK' hst'
    | ret => exact hn .ret Ls' ρ' K' h' a' W' hp he hK' hst'
   | loop u => exact wpIn_loop_rounds Fu (xK7 (fun n K h k r hr => xHp hcall hmx hA d (an.rd (Fu - 1 - n)) u (AwOk.loop hAn (Fu - 1 - n)) hreg β K h k r hr) Fu K h k x hr Ls ρ a W hK hst Q hn)
   | _ => cases hr
  obtain ⟨S, F, W1, hh, hre⟩ := xLI hst
  cases an with
  | an an =>
   simp only [evW] at hr;exact wpIn_wide.2 (xES (D := Ls.map mark) hcall hmx Fu (xE4 A f) 300 an c hAn hreg β K h k x hr S F W1 ρ a W hK hh Q (fun e ρ' K' h' a' w' hp he hK' hh' => hn e Ls ρ' K' h' a' w' hp he hK' (hre _ _ _ hh')))
  | two u v =>
   simp only [evW] at hr;exact plain hr
  | one u =>
   simp only [evW] at hr;exact plain hr
  | rnd u v =>
   simp only [evW] at hr;exact plain hr
  | join o u =>
   simp only [evW] at hr;obtain ⟨y, hy, hk⟩ := xDh hr;rw [xD9] at hk;refine xHp hcall hmx hA d u c hAn hreg (xAK o) K h (xBt m o) y hy Ls ρ a W hK hst Q (fun e Ls' ρ' K' h' a' W' hp he hK' hst' => ?_);obtain ⟨S2, F2, W2, hh2, hre2⟩ := xLI hst';obtain ⟨h1, ι, h2, h3, h4⟩ := xBF he hK' hh2;rw [<- h1];exact hn _ Ls' ι _ _ a' W' (hp.trans h2) hk h3 (hre2 _ _ _ h4)
  | loop T o M =>
   cases c with
   | loop u =>
    simp only [evW] at hr;split at hr
    ·rename_i s hs;obtain ⟨y, hy, hk⟩ := xDh hr;rw [xD9] at hk;obtain ⟨ι, h2, h3, h4⟩ := Sch.dec_ok hs hK hh;obtain ⟨n, h5⟩ := hAn s y hy S0 F0 W0 Ls ι a W h3 (hre _ _ _ h4) Q (fun Ls' ι' a' w' hp hK' hst' => hn _ Ls' ι' _ _ a' w' (h2.trans hp) hk hK' hst');exact wpIn_loop_rounds n h5
    ·cases hr
   | _ => cases hr
  | rf R =>
   cases c with
   | rangeFunc g ps as1 bd =>
    simp only [evW] at hr;split at hr
    ·rename_i xc hxc;split at hr
     ·rename_i j hj;obtain ⟨ι, h2, h3, h4⟩ := Sch.dec_ok hxc hK hh;have hL2 : xTn P call N R (.rangeFunc g ps as1 bd) := hAn;have := xYS (N := N) (na := R.na) (gop := g) (ps := ps.toList) (as1 := as1) (bd := bd) hcall hmx hA (hL2 xc) hr h3 h4 hj (Q := Q) (fun p ρ' h' B w' a' e1 e2 e3 e4 e5 e6 =>
       hn _ (W.heap.size :: Ls) ρ' _ h' a' w' (h2.trans e1.m) e2 e6 ⟨ι, _, W, B, hre _ _ _ h4, rfl, e3, e4, e5⟩)
      simpa using this
     ·cases hr
    ·cases hr
   | _ => cases hr
def fnEvW (P : Program) (A : xFm) (Fu : Nat) (call : (β : Type) -> xAT β) (nargs : Nat) (an : AW) (f : Nat) (In : Sch) (Out : FSch) (s : In.ty) : Option Out.ty :=
 match P.funcs[f]? with
 | some fn => match fn.body with
  | some c => evW P A Fu f call In.roots.length (nargs + (fn.ntmps - nargs)) 300 an c Out.ty (xA2 same In.slots (In.a s)) (mvArs (xAn same In.roots (In.b s))) (fun e K' h' => match e with
   | .exit _ => none
   | _ => match xTj P K' h' fn.results.toList with
    | some v => Out.dec In.roots.length v h'
    | none => none)
  | none => none
 | none => none
theorem xK4 (hcall : ∀ β, xAS P (call β)) (hmx : P.follows .mixedOrders = true) {A : xFm} (hA : xEl P A) {Fu nargs f : Nat} {an : AW} {In : Sch} {Out : FSch} {spec : In.ty -> Option Out.ty}
  (hreg : xAU (xE4 A f) (xAj P f) = true) (hAn : AwOk P call In.roots.length (xAA P f nargs) an (xAj P f)) (hs : ∀ s, spec s = fnEvW P A Fu call nargs an f In Out s) : FnSem P f nargs In Out spec := by
 intro s t hst S F W0 ι w vs hlen hden hh hcl;rw [hs] at hst;unfold fnEvW at hst;split at hst
 ·rename_i fn hfn;split at hst
  ·rename_i c hc;have hb : xAj P f = c := by simp [xAj, hfn, hc]
   have ht : xAA P f nargs = nargs + (fn.ntmps - nargs) := by simp [xAA, hfn]
   rw [hb] at hreg hAn;rw [ht] at hAn;have hsz : vs.toArray.size = nargs := by simpa using hlen
   refine callsIn_wide.1 (callsIn_of_wp_marks (n := 6) hfn hc trivial ?_);obtain ⟨ι0, hp0, hh0⟩ := hh.mvArs;refine xHp (S0 := S) (F0 := F) (W0 := W0) hcall hmx hA 300 an c hAn hreg Out.ty _ _ _ t hst [] ι0 _ w ⟨by simp [hsz], rfl, fun q p hp => ?_⟩ hh0 _ (fun e Ls ρ' K' h' a' w' hp he hK' hst' => ?_)
   ·obtain ⟨v, h3, h4⟩ := hden q p hp;refine ⟨v, h3.mono hp0, ?_⟩;have hlt := (List.getElem?_eq_some_iff.1 h4).1;show (vs.toArray ++ Array.replicate (fn.ntmps - vs.toArray.size) undef)[q]? = some v;rw [Array.getElem?_append_left (by simpa using hlt)];simpa using h4
   ·have fin : (match xTj P K' h' fn.results.toList with
      | some v => Out.dec In.roots.length v h'
      | none => none) = some t -> LeavesInM (RFo none) 6 P fn a'.tmps (fun e w' => ∃ ι' u, e = .returned u /\ PreM In.roots.length ι ι' /\ DenP ι' (Out.res.enc same (Out.a t)) u /\ HOk S F W0 ι' (xAn same Out.roots (Out.b t)) w' /\ In.roots.length <= Out.roots.length) a'.defers .returning w' := by
     intro hm2;split at hm2
     ·rename_i v hv;rw [hK'.2.1];refine xVS hst' (fun W' hW' => ?_);obtain ⟨u, q1, q2⟩ := xIH hK' hW' hv;obtain ⟨h3, ι', h4, h5, h6⟩ := FSch.dec_ok hm2 q1 hW';exact ⟨u, q2, ι', u, rfl, (fun j hj i e => (hp.trans h4) j hj i (hp0 j i e)), h5, h6, h3⟩
     ·cases hm2
    cases e with
    | normal => exact fin he
    | exit id => cases he
    | ret => exact fin he
  ·cases hst
 ·cases hst
end
end
end Go.Proofs.YtnomnijhlbalaaaGreatDoor
namespace Go.Proofs
open Go.Shelf
def Tryz.lays160_ren : Go.Shelf.Ren := ⟨fun | 160 => 202 | 232 => 251 | 231 => 250 | 227 => 252 | 234 => 254 | 233 => 253 | 236 => 256 | 235 => 255 | 228 => 290 | 271 => 292 | 151 => 291 | 197 => 209 | 120 => 320 | 152 => 319 | 260 => 261 | 137 => 331 | 119 => 332 | 224 => 264 | 225 => 263 | 217 => 262 | 266 => 297 | n => n, fun | 9 => 9 | 4 => 4 | 3 => 3 | 5 => 5 | 117 => 388 | 116 => 387 | 0 => 0 | 124 => 391 | 21 => 21 | 105 => 340 | 46 => 220 | 119 => 424 | 139 => 427 | 138 => 426 | n => n, fun | 3 => 7 | 4 => 8 | n => n⟩
theorem Tryz.lays160 : Go.Proofs.Lays.n160 Tryz.prog Tryz.lays160_ren := by repeat' first | kernel_rfl | decide | intro _ | constructor
def Tryz.lays146_ren : Go.Shelf.Ren := ⟨fun | 146 => 34 | 221 => 66 | 268 => 137 | 138 => 138 | 143 => 139 | 195 => 208 | 197 => 209 | 218 => 210 | 219 => 211 | 260 => 261 | 217 => 262 | 225 => 263 | 224 => 264 | 267 => 265 | 266 => 297 | 314 => 298 | n => n, fun | 9 => 9 | 31 => 59 | 3 => 3 | 4 => 4 | 0 => 0 | 105 => 340 | 21 => 21 | 5 => 5 | 46 => 220 | 119 => 424 | 139 => 427 | 138 => 426 | 146 => 334 | 51 => 330 | n => n, fun | 1 => 3 | 3 => 7 | 4 => 8 | n => n⟩
theorem Tryz.lays146 : Go.Proofs.Lays.n146 Tryz.prog Tryz.lays146_ren := by repeat' first | kernel_rfl | decide | intro _ | constructor
def Tryz.lays156_ren : Go.Shelf.Ren := ⟨fun | 156 => 20 | 165 => 47 | 166 => 48 | 169 => 49 | 240 => 116 | 241 => 117 | 276 => 180 | 277 => 181 | n => n, fun | 31 => 59 | 9 => 9 | 3 => 3 | 4 => 4 | 0 => 0 | 20 => 20 | 72 => 162 | 76 => 166 | 70 => 160 | 37 => 44 | 75 => 165 | 127 => 199 | 164 => 305 | 5 => 5 | 80 => 168 | n => n, fun | n => n⟩
theorem Tryz.lays156 : Go.Proofs.Lays.n156 Tryz.prog Tryz.lays156_ren := by repeat' first | kernel_rfl | decide | intro _ | constructor
def Tryz.laysM171_ren : Go.Shelf.Ren := ⟨fun | 171 => 61 | 243 => 131 | 246 => 203 | 283 => 257 | 284 => 258 | 285 => 259 | 286 => 260 | 129 => 201 | 317 => 293 | 318 => 294 | 319 => 295 | 320 => 296 | 337 => 321 | 338 => 322 | n => n, fun | 3 => 3 | 9 => 9 | 2 => 2 | 4 => 4 | 171 => 392 | 0 => 0 | 53 => 310 | 37 => 44 | 5 => 5 | 173 => 394 | 212 => 422 | 51 => 330 | 20 => 20 | 213 => 423 | 46 => 220 | 232 => 467 | 233 => 468 | n => n, fun | 17 => 6 | 18 => 11 | 19 => 12 | n => n⟩
theorem Tryz.laysM171 : Go.Proofs.LaysM.n171 Tryz.prog Tryz.laysM171_ren := by repeat' first | kernel_rfl | decide | intro _ | constructor
def Tryz.lays145_ren : Go.Shelf.Ren := ⟨fun | 145 => 175 | 220 => 237 | 219 => 211 | 217 => 262 | 225 => 263 | 224 => 264 | 267 => 265 | 266 => 297 | 314 => 298 | n => n, fun | 9 => 9 | 4 => 4 | 59 => 297 | 3 => 3 | 5 => 5 | 46 => 220 | 146 => 334 | 51 => 330 | n => n, fun | 1 => 3 | n => n⟩
theorem Tryz.lays145 : Go.Proofs.Lays.n145 Tryz.prog Tryz.lays145_ren := by repeat' first | kernel_rfl | decide | intro _ | constructor
def Tryz.laysC172_ren : Go.Shelf.Ren := ⟨fun | 172 => 236 | 244 => 286 | 245 => 287 | 247 => 314 | 279 => 315 | 280 => 316 | 281 => 317 | 282 => 318 | 287 => 328 | 316 => 329 | 171 => 61 | 205 => 330 | 321 => 333 | 322 => 334 | 243 => 131 | 246 => 203 | 283 => 257 | 284 => 258 | 285 => 259 | 286 => 260 | 129 => 201 | 317 => 293 | 318 => 294 | 319 => 295 | 320 => 296 | 337 => 321 | 338 => 322 | n => n, fun | 9 => 9 | 3 => 3 | 75 => 165 | 76 => 166 | 4 => 4 | 5 => 5 | 167 => 445 | 37 => 44 | 0 => 0 | 85 => 446 | 2 => 2 | 168 => 448 | 53 => 310 | 175 => 460 | 46 => 220 | 210 => 464 | 127 => 199 | 145 => 472 | 143 => 470 | 21 => 21 | 171 => 392 | 173 => 394 | 212 => 422 | 51 => 330 | 20 => 20 | 213 => 423 | 232 => 467 | 233 => 468 | 80 => 168 | n => n, fun | 15 => 9 | 16 => 10 | 17 => 6 | 18 => 11 | 19 => 12 | n => n⟩
theorem Tryz.laysC172 : Go.Proofs.LaysC.n172 Tryz.prog Tryz.laysC172_ren := by repeat' first | kernel_rfl | decide | intro _ | constructor
theorem Tryz.Builder_Extra_156 : Builder.Extra Tryz.prog Tryz.lays156_ren := by repeat' first | kernel_rfl | decide | intro _ | constructor
end Go.Proofs
namespace Go.Proofs.YtnomnijhlbalaaaGreatDoor
open Go.RowKit Go.Proofs
noncomputable section
theorem xWK (w : World) (e : TypeId) (s : ByteArray) : Ext w (Lib.bytesWorld w e s) :=
 ⟨rfl, rfl, rfl, by rw [Lib.bytesWorld_size]; omega, fun k hk _ => Lib.bytesWorld_at_old w e s k hk⟩
def xXN (c : ByteArray) : Bool := c.data.toList.all (fun b => decide (b.toNat < 128))
def xId (_ : Nat) (s c : ByteArray) : Option ByteArray := bif xXN c && (decide (s.size <= 1000000) && decide (c.size <= 1000000)) then some ⟨(Lib.trimS s.data.toList c.data.toList).toArray⟩ else none
abbrev trim_I : Sch := ⟨[(0, .c (.t .str)), (1, .c (.t .str))], []⟩
abbrev trim_O : FSch := ⟨.one (.c (.t .str)), []⟩
def trim_E (F : Nat) : Ent := ⟨202, 2, trim_I, trim_O, fun s => xId F s.1 s.2, []⟩
theorem trim_ok (F : Nat) : FnSem Tryz.prog 202 2 trim_I trim_O (fun s => xId F s.1 s.2) := by
 intro s t hst S F' W0 ι w vs hlen hden hh hcl;obtain ⟨x, y⟩ := s;obtain ⟨v0, h0, g0⟩ := hden 0 (.c (.sc (.string x))) rfl;obtain ⟨v1, h1, g1⟩ := hden 1 (.c (.sc (.string y))) rfl;have e0 : v0 = .string x := h0.1;have e1 : v1 = .string y := h1.1;subst e0; subst e1;have hvs : vs = [.string x, .string y] := by
  match vs, hlen with
  | [a, b], _ => simp at g0 g1; rw [g0, g1]
 subst hvs;simp only [xId] at hst
 cases hc : (xXN y && (decide (x.size <= 1000000) && decide (y.size <= 1000000))) with
 | false => rw [hc] at hst; cases hst
 | true =>
  rw [hc] at hst;cases hst;simp only [Bool.and_eq_true, decide_eq_true_eq] at hc;have hcon := Any.strings_Trim_laid Tryz.lays160 (by kernel_rfl) x y w (by omega) (by omega) (ascii_of_all hc.1);refine hcon.mono ?_
  rintro e w' ⟨rfl, hb⟩
  exact ⟨ι, _, rfl, PreM.refl _ _, ⟨rfl, rfl⟩, hh.ext' (Ex.of_below hb), Nat.le_refl _⟩
theorem xZ1 (w : World) (os : Array Obj) : Ext w (Go.Sort.grow w os) :=
 ⟨rfl, rfl, rfl, by simp [Go.Sort.grow], fun k hk _ => by simp only [Go.Sort.grow]; rw [Array.getElem?_append_left hk]⟩
theorem xOt (w : World) (n : Nat) : Ext w (w.drewN n) := ⟨rfl, rfl, rfl, Nat.le_refl _, fun _ _ _ => rfl⟩
theorem tab_is {w : World} (h : gOk w) : Lib.TabIs Tryz.prog w "internal/strconv.uint64pow10" .u64 Lib.pow10Tab := by
 obtain ⟨_, _, _, _, T, f, h4⟩ := h;unfold Lib.TabIs World.var?;have hn : Tryz.prog.globalNamed "internal/strconv.uint64pow10" = some 6 := by kernel_rfl
 rw [hn];simp only [Option.bind_some, h4]
def xA6 (_ : Nat) (c : Int) : Option ByteArray := bif decide (-9223372036854775808 <= c) && decide (c <= 9223372036854775807) then some ⟨(Lib.itoa c).toArray⟩ else none
abbrev itoa_I : Sch := ⟨[(0, .c .i)], []⟩
abbrev itoa_O : FSch := ⟨.one (.c (.t .str)), []⟩
def itoa_E (F : Nat) : Ent := ⟨61, 1, itoa_I, itoa_O, fun s => xA6 F s, []⟩
theorem itoa_ok (F : Nat) : FnSem Tryz.prog 61 1 itoa_I itoa_O (fun s => xA6 F s) := by
 intro c t hst S F' W0 ι w vs hlen hden hh hcl;change Int at c;obtain ⟨v1, h1, g1⟩ := hden 0 (.c (.sc (.int .i64 c))) rfl;have e1 : v1 = .int .i64 c := h1.1;subst e1;have hvs : vs = [.int .i64 c] := by
  match vs, hlen with
  | [a], _ => simp at g1; rw [g1]
 subst hvs;simp only [xA6] at hst
 cases hc : (decide (-9223372036854775808 <= c) && decide (c <= 9223372036854775807)) with
 | true =>
  rw [hc] at hst;cases hst;simp only [Bool.and_eq_true, decide_eq_true_eq] at hc;have hcon := Any.strconv_Itoa Tryz.laysM171 c hc.1 hc.2 w (tab_is hh.layW);refine hcon.mono ?_
  rintro e w' ⟨rfl, k, os, rfl⟩
  exact ⟨ι, _, rfl, PreM.refl _ _, ⟨rfl, rfl⟩, hh.ext' ((xOt w k).trans (xZ1 _ os)), Nat.le_refl _⟩
 | false => rw [hc] at hst; cases hst
def xMr (_ : Nat) (s c : ByteArray) : Option (ByteArray × (ByteArray × Bool)) := bif decide (s.size < 4294967281) then some (⟨(Lib.cut s.data.toList c.data.toList).1.toArray⟩, (⟨(Lib.cut s.data.toList c.data.toList).2.1.toArray⟩, (Lib.cut s.data.toList c.data.toList).2.2)) else none
abbrev cut_I : Sch := ⟨[(0, .c (.t .str)), (1, .c (.t .str))], []⟩
abbrev cut_O : FSch := ⟨.tu [(false, [.t .str]), (false, [.t .str]), (false, [.t .bool])], []⟩
def cut_E (F : Nat) : Ent := ⟨175, 2, cut_I, cut_O, fun s => xMr F s.1 s.2, []⟩
theorem cut_ok (F : Nat) : FnSem Tryz.prog 175 2 cut_I cut_O (fun s => xMr F s.1 s.2) := by
 intro s t hst S F' W0 ι w vs hlen hden hh hcl;obtain ⟨x, y⟩ := s;obtain ⟨v0, h0, g0⟩ := hden 0 (.c (.sc (.string x))) rfl;obtain ⟨v1, h1, g1⟩ := hden 1 (.c (.sc (.string y))) rfl;have e0 : v0 = .string x := h0.1;have e1 : v1 = .string y := h1.1;subst e0; subst e1;have hvs : vs = [.string x, .string y] := by
  match vs, hlen with
  | [a, b], _ => simp at g0 g1; rw [g0, g1]
 subst hvs;simp only [xMr] at hst
 cases hc : decide (x.size < 4294967281) with
 | false => rw [hc] at hst; cases hst
 | true =>
  rw [hc] at hst;cases hst;simp only [decide_eq_true_eq] at hc;obtain ⟨m, hm⟩ := hh.layW.2.1;refine (Any.strings_Cut Tryz.lays145 x y m w hc hm).mono ?_
  rintro e w' ⟨rfl, n, rfl⟩
  exact ⟨ι, _, rfl, PreM.refl _ _, ⟨_, ⟨_, _, rfl, ⟨_, rfl, ⟨rfl, rfl⟩⟩, ⟨_, _, rfl, ⟨_, rfl, ⟨rfl, rfl⟩⟩, ⟨_, _, rfl, ⟨_, rfl, ⟨rfl, rfl⟩⟩, rfl⟩⟩⟩, rfl⟩, hh.ext' (xOt w n), Nat.le_refl _⟩
def xHt (_ : Nat) (s : ByteArray) : Option (Int × Bool) := bif decide (s.size <= 281474976710656) then some (match Lib.atoiAll s.data.toList with
 | .ok v => (v, true)
 | .range => (Lib.atoiSat s.data.toList, false)
 | _ => (0, false)) else none
abbrev atoi_I : Sch := ⟨[(0, .c (.t .str))], []⟩
abbrev atoi_O : FSch := ⟨.tu [(false, [.i]), (false, [.t .er])], []⟩
def atoi_E (F : Nat) : Ent := ⟨236, 1, atoi_I, atoi_O, fun s => xHt F s, []⟩
theorem atoi_ok (F : Nat) : FnSem Tryz.prog 236 1 atoi_I atoi_O (fun s => xHt F s) := by
 intro x t hst S F' W0 ι w vs hlen hden hh hcl;change ByteArray at x;obtain ⟨v0, h0, g0⟩ := hden 0 (.c (.sc (.string x))) rfl;have e0 : v0 = .string x := h0.1;subst e0;have hvs : vs = [.string x] := by
  match vs, hlen with
  | [a], _ => simp at g0; rw [g0]
 subst hvs;simp only [xHt] at hst
 cases hc : decide (x.size <= 281474976710656) with
 | false => rw [hc] at hst; cases hst
 | true =>
  rw [hc] at hst;simp only [cond_true] at hst;have ht := Option.some.inj hst;subst ht;simp only [decide_eq_true_eq] at hc;obtain ⟨_, _, ⟨t1, p1, l1⟩, ⟨t2, p2, l2⟩, _⟩ := hh.layW;rcases ha : Lib.atoiAll x.data.toList with v | _ | _
  ·refine (Any.strconv_Atoi_ok Tryz.laysC172 x (by omega) v ha w).mono ?_
   rintro e w' ⟨rfl, hw⟩
   have hE : Ext w w' := by
    rcases hw with rfl | ⟨t, rfl⟩
    ·exact Ex.refl _ _
    ·exact xWK w _ t
   exact ⟨ι, _, rfl, PreM.refl _ _, ⟨_, ⟨_, _, rfl, ⟨_, rfl, ⟨rfl, rfl⟩⟩, ⟨_, _, rfl, ⟨_, rfl, .inl ⟨rfl, rfl⟩⟩, rfl⟩⟩, rfl⟩, hh.ext' hE, Nat.le_refl _⟩
  ·refine (Any.strconv_Atoi_syntax Tryz.laysC172 x hc ha _ w l1 (.inr ⟨_, _, rfl⟩)).mono ?_
   rintro e w' ⟨N, rfl, _, _, hb⟩
   exact ⟨ι, _, rfl, PreM.refl _ _, ⟨_, ⟨_, _, rfl, ⟨_, rfl, ⟨rfl, rfl⟩⟩, ⟨_, _, rfl, ⟨_, rfl, .inr ⟨rfl, _, _, rfl⟩⟩, rfl⟩⟩, rfl⟩, hh.ext' (Ex.of_below hb), Nat.le_refl _⟩
  ·refine (Any.strconv_Atoi_range Tryz.laysC172 x hc ha _ w l2 (.inr ⟨_, _, rfl⟩)).mono ?_
   rintro e w' ⟨N, rfl, _, _, hb⟩
   exact ⟨ι, _, rfl, PreM.refl _ _, ⟨_, ⟨_, _, rfl, ⟨_, rfl, ⟨rfl, rfl⟩⟩, ⟨_, _, rfl, ⟨_, rfl, .inr ⟨rfl, _, _, rfl⟩⟩, rfl⟩⟩, rfl⟩, hh.ext' (Ex.of_below hb), Nat.le_refl _⟩
def xCi (_ : Nat) (s c : ByteArray) : Option (List ByteArray) := bif decide (s.size <= 1000000) && decide (1 <= c.size) then some (Lib.splitB c 0 (Lib.countB s c) s) else none
abbrev split_I : Sch := ⟨[(0, .c (.t .str)), (1, .c (.t .str))], []⟩
abbrev split_O : FSch := ⟨.one (.c (.k (.sl 0 1))), [.rows 9 .str]⟩
def xT4 (F : Nat) : Ent := ⟨34, 2, split_I, split_O, fun s => xCi F s.1 s.2, []⟩
theorem xRK : ∀ l : List ByteArray, flat .str l = l.map (fun s => CV.sc (.string s))
 | [] => rfl
 | x :: l => congrArg (CV.sc (.string x) :: ·) (xRK l)
theorem xRX {ρ : List Info} : ∀ l : List ByteArray, DenL ρ (l.map (fun s => CV.sc (.string s))) (l.map Value.string)
 | [] => rfl
 | x :: l => ⟨_, _, rfl, ⟨rfl, rfl⟩, xRX l⟩
theorem xT3 {S F' : List Nat} {W0 w : World} {ι : List Info} {x y : ByteArray} (hh : HOk S F' W0 ι [] w) (hx : x.size <= 1000000) (hy : 1 <= y.size) :
  ∃ ι' u, Ending.returned (.slice (some ⟨w.heap.size, 0, none⟩) (Lib.countB x y + 1) (Lib.countB x y + 1)) = .returned u /\ PreM split_I.roots.length ι ι' /\ DenP ι' (split_O.res.enc same (split_O.a (Lib.splitB y 0 (Lib.countB x y) x))) u /\ HOk S F' W0 ι' (xAn same split_O.roots (split_O.b (Lib.splitB y 0 (Lib.countB x y) x))) (w.alloc (.cells ((Lib.splitB y 0 (Lib.countB x y) x).map Value.string).toArray 9)) /\ split_I.roots.length <= split_O.roots.length := by
 have hle := Lib.countB_le y hy x.size x (Nat.le_refl _);have hlen := Lib.splitB_all y hy 0 _ x rfl;generalize Lib.splitB y 0 (Lib.countB x y) x = L at *;generalize Lib.countB x y = n at *;rw [<- hlen];have hL : L.length <= 1000001 := by omega
 clear hlen hle;have hl' : ι.length = 0 := hh.len;have hg : (ι ++ [⟨some ⟨w.heap.size, 0, none⟩, L.length, some L.length, .nilFunc⟩])[0]? = some ⟨some ⟨w.heap.size, 0, none⟩, L.length, some L.length, .nilFunc⟩ := by
  rw [List.getElem?_append_right (by omega), hl']; rfl
 have hE : Ext w (w.alloc (.cells (L.map Value.string).toArray 9)) := Ex.allocs w _;refine ⟨ι ++ [⟨some ⟨w.heap.size, 0, none⟩, L.length, some L.length, .nilFunc⟩], _, rfl, (Pre.app _ _).m, ⟨_, some ⟨w.heap.size, 0, none⟩, L.length, L.length, hg, rfl, Nat.le_refl _, by unfold maxLen; omega, fun _ => ⟨_, 0, rfl⟩, ⟨_, rfl, (Nat.sub_zero _).symm⟩, ⟨_, rfl, by omega⟩, (Nat.sub_zero _).symm, rfl, fun _ => rfl, fun _ => ?_⟩, ?_, by decide⟩
 ·simp [Addr.add]
 ·refine hh.add hE ⟨some ⟨w.heap.size, 0, none⟩, L.length, some L.length, .nilFunc⟩ (.rows 9 .str L) ⟨rfl, Nat.lt_succ_self 0, L.map Value.string, by rw [xRK]; exact xRX L, ?_⟩ (fun b hb => ?_)
  ·refine ⟨by simp [TC.w], Nat.le_refl _, by show L.length <= maxLen; unfold maxLen; omega, .inr ⟨w.heap.size, 0, (L.map Value.string).toArray, rfl, ?_, by simp [TC.w], ?_⟩⟩
   ·exact xCN w _
   ·show List.take (L.length * 1) (List.drop 0 (L.map Value.string).toArray.toList) = _;rw [Nat.mul_one, List.drop_zero, List.take_of_length_le (by simp)]
  ·have hb' : some w.heap.size = some b := hb;simp only [Option.some.injEq] at hb';omega
theorem split_ok (F : Nat) : FnSem Tryz.prog 34 2 split_I split_O (fun s => xCi F s.1 s.2) := by
 intro s t hst S F' W0 ι w vs hlen hden hh hcl;obtain ⟨x, y⟩ := s;obtain ⟨v0, h0, g0⟩ := hden 0 (.c (.sc (.string x))) rfl;obtain ⟨v1, h1, g1⟩ := hden 1 (.c (.sc (.string y))) rfl;have e0 : v0 = .string x := h0.1;have e1 : v1 = .string y := h1.1;subst e0; subst e1;have hvs : vs = [.string x, .string y] := by
  match vs, hlen with
  | [a, b], _ => simp at g0 g1; rw [g0, g1]
 subst hvs;simp only [xCi] at hst
 cases hc : (decide (x.size <= 1000000) && decide (1 <= y.size)) with
 | false => rw [hc] at hst; cases hst
 | true =>
  rw [hc] at hst;cases hst;simp only [Bool.and_eq_true, decide_eq_true_eq] at hc;obtain ⟨m, hm⟩ := hh.layW.2.1;refine (Any.strings_Split Tryz.lays146 (by kernel_rfl) x y m w (by omega) hm hc.2).mono ?_
  rintro e w' ⟨rfl, rfl⟩
  exact xT3 hh hc.1 hc.2
def sh_T (F : Nat) : List Ent := trim_E F :: itoa_E F :: cut_E F :: atoi_E F :: xT4 F :: tab0 F
theorem xGn (F : Nat) : xAf Tryz.prog (sh_T F) := ⟨⟨by kernel_rfl, trim_ok F⟩, ⟨by kernel_rfl, itoa_ok F⟩, ⟨by kernel_rfl, cut_ok F⟩, ⟨by kernel_rfl, atoi_ok F⟩, ⟨by kernel_rfl, split_ok F⟩, tab0_ok F⟩
end
end Go.Proofs.YtnomnijhlbalaaaGreatDoor
