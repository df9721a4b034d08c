/- A part of the proof of the theorem of the last file. No condition. By an AI agent. -/
import Derived.Test.YtnomnijhlbalaaaGreatDoorWY3b
namespace Go.Proofs.YtnomnijhlbalaaaGreatDoor
noncomputable section
open Go.RowKit
inductive An where
 | no
 | two (a b : An)
 | one (a : An)
 | rnd (a b : An)
 | join (o : xBY) (a : An)
 | loop (S : Sch) (o : xBY) (M : S.ty -> Option (xAB o))
 | rng (S : Sch) (o : xBY) (V : KK) (agg : Bool) (U : TC) (B : S.ty -> V.ty × U.ty -> Option (S.ty ⊕ xAB o)) (E : S.ty -> Option (xAB o))
def An.l : An -> An
 | .two a _ => a
 | .one a => a
 | _ => .no
def An.r : An -> An
 | .two _ b => b
 | _ => .no
def An.rd : An -> Nat -> An
 | .rnd a b, i => match i with
  | 0 => a
  | i + 1 => b.rd i
 | an, _ => an.l
def xD1 {β : Type} (body : Nat -> Slo -> List Root -> xFq β -> Option β) : Nat -> Slo -> List Root -> xFq β -> Option β
 | 0, _, _, _ => none
 | n + 1, K, h, k => body n K h (fun e K' h' => match e with
  | .normal => xD1 body n K' h' k
  | e => k e K' h')
def evA (P : Program) (Fu : Nat) (pl : Nat -> Option PT) (call : (β : Type) -> xAK β) (m N : Nat) : Nat -> An -> Code -> (β : Type) -> Slo -> List Root -> xFq β -> Option β
 | 0, _, _, _, _, _, _ => none
 | d + 1, an, c, β, K, h, k => match an with
  | .join o a => ob (evA P Fu pl call m N d a c (xAB o) K h (xBk m o)) (fun x => xV2 k o x)
  | .loop S o M => match c with
   | .loop _ => match S.dec m K h with
    | some s => ob (M s) (fun x => xV2 k o x)
    | none => none
   | _ => none
  | .rng S o V agg U B E => match xBC c with
   | some R => bif Nat.ble (R.ti + 1) N then xFj P N R.ops0 (call β) R.pre K h (fun K h => match xN8 P m S.roots K h R V agg U with
    | some (g, pl, rp, ts) => gds g (match S.dec m (xDF K R.ti (.c (.hv h.length))) (xGt h pl ++ [.dead]) with
     | some s => xDj (fun π => ob (xLH B E s π) (fun y => xV2 (fun e K' h' => match xTa h' rp V agg U ts with
      | some h2 => k e K' h2
      | none => none) o y)) ts
     | none => none)
    | none => none) else none
   | none => none
  | an => match c with
   | .skip => k .normal K h
   | .exit id => k (.exit id) K h
   | .ret => k .ret K h
   | .region _ ops false => xFj P N ops (call β) ops.toList K h (k .normal)
   | .region id ops true => match pl id with
    | some t => xJ7 P N ops (call β) t K h (k .normal)
    | none => none
   | .seq x y => evA P Fu pl call m N d an.l x β K h (fun e K' h' => match e with
    | .normal => evA P Fu pl call m N d an.r y β K' h' k
    | e => k e K' h')
   | .cond c x y => match xAo K c with
    | some (.c (.sc (.bool b))) => bif b then evA P Fu pl call m N d an.l x β K h k else evA P Fu pl call m N d an.r y β K h k
    | _ => none
   | .block id x => evA P Fu pl call m N d an.l x β K h (fun e K' h' => match e with
    | .exit id' => bif Nat.beq id' id then k .normal K' h' else k (.exit id') K' h'
    | e => k e K' h')
   | .loop x => xD1 (fun n K h k => evA P Fu pl call m N d (an.rd (Fu - 1 - n)) x β K h k) Fu K h k
   | _ => none
def xAS (P : Program) (m N : Nat) (x : Code) (S : Sch) (o : xBY) (M : S.ty -> Option (xAB o)) : Prop :=
 ∀ (s : S.ty) (y : xAB o), M s = some y -> ∀ (D : List Deferred) (S' F : List Nat) (W0 : World) (Z : List Info) (a : Act) (w : World), KOk N D Z (xAM same S.slots (S.a s)) a -> HOk S' F W0 Z (xAe same S.roots (S.b s)) w -> ∀ Q : Exit -> Act -> World -> Prop,
  (∀ (Z' : List Info) (a' : Act) (w' : World), PreM m Z Z' -> KOk N D Z' (xAN o y).2.1 a' -> HOk S' F W0 Z' (xAN o y).2.2 w' -> Q (xAN o y).1.out a' w') -> ∃ n, Code.rounds P x Q n a w
def AnOk (P : Program) (m N : Nat) : An -> Code -> Prop
 | .no, _ => True
 | .two a b, c => match c with
  | .seq x y => AnOk P m N a x /\ AnOk P m N b y
  | .cond _ x y => AnOk P m N a x /\ AnOk P m N b y
  | .block _ x => AnOk P m N a x
  | .loop x => AnOk P m N a x
  | _ => True
 | .one a, c => match c with
  | .seq x _ => AnOk P m N a x
  | .cond _ x _ => AnOk P m N a x
  | .block _ x => AnOk P m N a x
  | .loop x => AnOk P m N a x
  | _ => True
 | .rnd a b, c => match c with
  | .loop x => AnOk P m N a x /\ AnOk P m N b (.loop x)
  | _ => True
 | .join _ a, c => AnOk P m N a c
 | .loop S o M, c => match c with
  | .loop x => xAS P m N x S o M
  | _ => True
 | .rng S o V agg U B E, c => match xBC c with
  | some R => xF7 P m N R S o V agg U B E
  | none => True
section
variable {P : Program} {m N : Nat} {D : List Deferred}
theorem AnOk.seq {an : An} {x y : Code} (h : AnOk P m N an (.seq x y)) : AnOk P m N an.l x /\ AnOk P m N an.r y := by
 cases an with
 | no => exact ⟨trivial, trivial⟩
 | two a b => exact h
 | one a => exact ⟨h, trivial⟩
 | rnd a b => exact ⟨trivial, trivial⟩
 | join o a => exact ⟨trivial, trivial⟩
 | loop S o M => exact ⟨trivial, trivial⟩
 | rng _ _ _ _ _ _ _ => exact ⟨trivial, trivial⟩
theorem AnOk.cond {an : An} {c : Operand} {x y : Code} (h : AnOk P m N an (.cond c x y)) : AnOk P m N an.l x /\ AnOk P m N an.r y := by
 cases an with
 | no => exact ⟨trivial, trivial⟩
 | two a b => exact h
 | one a => exact ⟨h, trivial⟩
 | rnd a b => exact ⟨trivial, trivial⟩
 | join o a => exact ⟨trivial, trivial⟩
 | loop S o M => exact ⟨trivial, trivial⟩
 | rng _ _ _ _ _ _ _ => exact ⟨trivial, trivial⟩
theorem AnOk.block {an : An} {id : Nat} {x : Code} (h : AnOk P m N an (.block id x)) : AnOk P m N an.l x := by
 cases an with
 | no => trivial
 | two a b => exact h
 | one a => exact h
 | rnd a b => trivial
 | join o a => trivial
 | loop S o M => trivial
 | rng _ _ _ _ _ _ _ => trivial
theorem AnOk.loop {x : Code} : ∀ {an : An}, AnOk P m N an (.loop x) -> (∀ S o M, an ≠ .loop S o M) -> ∀ i, AnOk P m N (an.rd i) x
 | .no, _, _, _ => trivial
 | .two a b, h, _, _ => h
 | .one a, h, _, _ => h
 | .rnd a b, h, hn, i => by
  cases i with
  | zero => exact h.1
  | succ i =>
   cases b with
   | loop S o M => exact trivial
   | rng _ _ _ _ _ _ _ => exact trivial
   | no => exact AnOk.loop h.2 (fun _ _ _ e => by cases e) i
   | two a b => exact AnOk.loop h.2 (fun _ _ _ e => by cases e) i
   | one a => exact AnOk.loop h.2 (fun _ _ _ e => by cases e) i
   | rnd a b => exact AnOk.loop h.2 (fun _ _ _ e => by cases e) i
   | join o a => exact trivial
 | .join o a, _, _, _ => trivial
 | .loop S o M, _, hn, _ => absurd rfl (hn S o M)
 | .rng _ _ _ _ _ _ _, _, _, _ => trivial
def EvOkM (P : Program) (m N : Nat) (D : List Deferred) (β : Type) (run : Slo -> List Root -> xFq β -> Option β) (c : Code) : Prop :=
 ∀ (K : Slo) (h : List Root) (k : xFq β) (r : β), run K h k = some r -> ∀ (S F : List Nat) (W0 : World) (O : List Info) (a : Act) (w : World), KOk N D O K a -> HOk S F W0 O h w -> ∀ Q : Exit -> Act -> World -> Prop,
  (∀ (e : XT) (O' : List Info) (K' : Slo) (h' : List Root) (a' : Act) (w' : World), PreM m O O' -> k e K' h' = some r -> KOk N D O' K' a' -> HOk S F W0 O' h' w' -> Q e.out a' w') -> c.wp P Q a w
theorem xJ5 {β : Type} {x : Code} {body : Nat -> Slo -> List Root -> xFq β -> Option β} (hb : ∀ n, EvOkM P m N D β (body n) x) : ∀ (n : Nat) (K : Slo) (h : List Root) (k : xFq β) (r : β), xD1 body n K h k = some r -> ∀ (S F : List Nat) (W0 : World) (O : List Info) (a : Act) (w : World), KOk N D O K a -> HOk S F W0 O h w -> ∀ Q : Exit -> Act -> World -> Prop,
  (∀ (e : XT) (O' : List Info) (K' : Slo) (h' : List Root) (a' : Act) (w' : World), PreM m O O' -> k e K' h' = some r -> KOk N D O' K' a' -> HOk S F W0 O' h' w' -> Q e.out a' w') -> Code.rounds P x Q n a w
 | 0, K, h, k, r, hr => by cases hr
 | n + 1, K, h, k, r, hr => fun S F W0 O a w hK hh Q hn => by
  refine hb n K h _ r hr S F W0 O a w hK hh _ (fun e O' K' h' a' w' hp he hK' hh' => ?_)
  cases e with
  | normal => exact xJ5 hb n K' h' k r he S F W0 O' a' w' hK' hh' Q (fun e O2 K2 h2 a2 w2 hp2 => hn e O2 K2 h2 a2 w2 (hp.trans hp2))
  | exit id => exact hn _ O' K' h' a' w' hp he hK' hh'
  | ret => exact hn _ O' K' h' a' w' hp he hK' hh'
theorem xE1 {call : (β : Type) -> xAK β} (hcall : ∀ β, xAJ P (call β)) (hm : P.follows .mixedOrders = true) (Fu : Nat) (pl : Nat -> Option PT) : ∀ (d : Nat) (an : An) (c : Code), AnOk P m N an c -> xAL pl c = true -> ∀ β : Type, EvOkM P m N D β (fun K h k => evA P Fu pl call m N d an c β K h k) c
 | 0, an, c, _, _, β => fun K h k r hr => by cases hr
 | d + 1, an, c, hA, hreg, β => fun K h k r hr S F W0 O a w hK hh Q hn => by
  have plain : (∀ S o M, an ≠ .loop S o M) -> (match (generalizing := false) c with
   | .skip => k .normal K h
   | .exit id => k (.exit id) K h
   | .ret => k .ret K h
   | .region _ ops false => xFj P N ops (call β) ops.toList K h (k .normal)
   | .region id ops true => match pl id with
    | some t => xJ7 P N ops (call β) t K h (k .normal)
    | none => none
   | .seq x y => evA P Fu pl call m N d an.l x β K h (fun e K' h' => match e with
    | .normal => evA P Fu pl call m N d an.r y β K' h' k
    | e => k e K' h')
   | .cond c x y => match xAo K c with
    | some (.c (.sc (.bool b))) => bif b then evA P Fu pl call m N d an.l x β K h k else evA P Fu pl call m N d an.r y β K h k
    | _ => none
   | .block id x => evA P Fu pl call m N d an.l x β K h (fun e K' h' => match e with
    | .exit id' => bif Nat.beq id' id then k .normal K' h' else k (.exit id') K' h'
    | e => k e K' h')
   | .loop x => xD1 (fun n K h k => evA P Fu pl call m N d (an.rd (Fu - 1 - n)) x β K h k) Fu K h k
   | _ => none) = some r -> c.wp P Q a w := by
   intro hno hr
   cases c with
   | skip => exact wp_skip (hn .normal O K h a w (PreM.refl _ _) hr hK hh)
   | exit id => exact wp_exit (hn (.exit id) O K h a w (PreM.refl _ _) hr hK hh)
   | ret => exact wp_ret (hn .ret O K h a w (PreM.refl _ _) hr hK hh)
   | region id ops draw =>
    cases draw with
    | false =>
     refine wp_region_list ?_;have := xD2 (P := P) (N := N) (ops := ops) (S := S) (F := F) (W0 := W0) (r := r) (hcall β) (Q := Q) [] ops.toList O K h a w (k .normal) hr hK hh (fun a' w' hb => by
      obtain ⟨O', K', h', h1, h2, h3, h4⟩ := hb;exact wpList_nil (hn .normal O' K' h' a' w' h1.m h4 h2 h3))
     simpa using this
    | true =>
     dsimp only at hr;simp only [xAL] at hreg;split at hr
     ·rename_i t ht;rw [ht] at hreg;exact xIQ (hcall β) hm hreg hr hK hh (fun O' K' h' a' w' h1 h2 h3 h4 => hn .normal O' K' h' a' w' h1.m h2 h3 h4)
     ·cases hr
   | seq x y =>
    simp only [xAL, Bool.and_eq_true] at hreg;obtain ⟨hA1, hA2⟩ := hA.seq;refine wp_seq (xE1 hcall hm Fu pl d an.l x hA1 hreg.1 β K h _ r hr S F W0 O a w hK hh _ (fun e O' K' h' a' w' hp he hK' hh' => ?_))
    cases e with
    | normal => exact xE1 hcall hm Fu pl d an.r y hA2 hreg.2 β K' h' k r he S F W0 O' a' w' hK' hh' Q (fun e O2 K2 h2 a2 w2 hp2 => hn e O2 K2 h2 a2 w2 (hp.trans hp2))
    | exit id => exact hn _ O' K' h' a' w' hp he hK' hh'
    | ret => exact hn _ O' K' h' a' w' hp he hK' hh'
   | cond c x y =>
    simp only [xAL, Bool.and_eq_true] at hreg;obtain ⟨hA1, hA2⟩ := hA.cond;dsimp only at hr;split at hr
    ·rename_i b hc;have hb : a.eval c = .bool b := (xAa hK hc).1
     cases b with
     | true => exact wp_cond_true hb (xE1 hcall hm Fu pl d an.l x hA1 hreg.1 β K h k r hr S F W0 O a w hK hh Q hn)
     | false => exact wp_cond_false hb (xE1 hcall hm Fu pl d an.r y hA2 hreg.2 β K h k r hr S F W0 O a w hK hh Q hn)
    ·cases hr
   | block id x =>
    refine wp_block (xE1 hcall hm Fu pl d an.l x hA.block hreg β K h _ r hr S F W0 O a w hK hh _ (fun e O' K' h' a' w' hp he hK' hh' => ?_))
    cases e with
    | normal => exact hn .normal O' K' h' a' w' hp he hK' hh'
    | exit id' =>
     show Exit.inBlock id Q (.exit id') a' w';dsimp only at he
     cases hb : Nat.beq id' id with
     | true =>
      rw [hb] at he;have := nbT hb;subst this;show (if id' = id' then Q .normal a' w' else Q (.exit id') a' w');rw [if_pos rfl];exact hn .normal O' K' h' a' w' hp he hK' hh'
     | false =>
      rw [hb] at he;have hne := Nat.ne_of_beq_eq_false hb;show (if id' = id then Q .normal a' w' else Q (.exit id') a' w');rw [if_neg hne];exact hn (.exit id') O' K' h' a' w' hp he hK' hh'
    | ret => exact hn .ret O' K' h' a' w' hp he hK' hh'
   | loop x =>
    exact wp_loop_rounds Fu (xJ5 (fun n => xE1 hcall hm Fu pl d (an.rd (Fu - 1 - n)) x (hA.loop hno (Fu - 1 - n)) hreg β) Fu K h k r hr S F W0 O a w hK hh Q hn)
   | rangeFunc f p x y => cases hr
   | scope x => cases hr
   | label l => cases hr
   | goto l => cases hr
   | refuse s => cases hr
  dsimp only [evA] at hr
  cases an with
  | no =>
   dsimp only at hr;exact plain (fun _ _ _ e => by cases e) hr
  | two x y =>
   dsimp only at hr;exact plain (fun _ _ _ e => by cases e) hr
  | one x =>
   dsimp only at hr;exact plain (fun _ _ _ e => by cases e) hr
  | rnd x y =>
   dsimp only at hr;exact plain (fun _ _ _ e => by cases e) hr
  | join o x =>
   obtain ⟨y, hy, hk⟩ := xDt hr;rw [xEm] at hk;refine xE1 hcall hm Fu pl d x c hA hreg (xAB o) K h (xBk m o) y hy S F W0 O a w hK hh Q (fun e O' K' h' a' w' hp he hK' hh' => ?_);obtain ⟨h1, Z, h2, h3, h4⟩ := xBz he hK' hh';rw [<- h1];exact hn _ Z _ _ a' w' (hp.trans h2) hk h3 h4
  | loop T o M =>
   cases c with
   | loop x =>
    dsimp only at hr;split at hr
    ·rename_i s hs;obtain ⟨y, hy, hk⟩ := xDt hr;rw [xEm] at hk;obtain ⟨Z, h2, h3, h4⟩ := Sch.dec_ok hs hK hh;obtain ⟨n, h5⟩ := hA s y hy D S F W0 Z a w h3 h4 Q (fun Z' a' w' hp hK' hh' => hn _ Z' _ _ a' w' (h2.trans hp) hk hK' hh');exact wp_loop_rounds n h5
    ·cases hr
   | _ => cases hr
  | rng T o V agg U B E =>
   dsimp only at hr;simp only [AnOk] at hA;split at hr
   ·rename_i R hR;rw [hR] at hA
    cases hN : Nat.ble (R.ti + 1) N with
    | false => rw [hN] at hr; cases hr
    | true =>
     rw [hN] at hr;exact rng_use hR hN (hcall β) hA hr hK hh hn
   ·cases hr
theorem loop_ok {call : (β : Type) -> xAK β} (hcall : ∀ β, xAJ P (call β)) (hm : P.follows .mixedOrders = true) {Fu : Nat} {pl : Nat -> Option PT} {d : Nat} {an : An} {x : Code} (hA : AnOk P m N an x) (hreg : xAL pl x = true) {S : Sch} {o : xBY} {M : Nat -> S.ty -> Option (xAB o)} (h0 : ∀ s, M 0 s = none)
  (hs : ∀ (n : Nat) (s : S.ty), M (n + 1) s = evA P Fu pl call m N d an x (xAB o) (xAM same S.slots (S.a s)) (xAe same S.roots (S.b s)) (fun e K h => match e with
   | .normal => ob (S.dec m K h) (fun s' => M n s')
   | e => xBk m o e K h)) : ∀ n, xAS P m N x S o (M n) := by
 have main : ∀ (n : Nat) (s : S.ty) (y : xAB o), M n s = some y -> ∀ (D : List Deferred) (S' F : List Nat) (W0 : World) (Z : List Info) (a : Act) (w : World), KOk N D Z (xAM same S.slots (S.a s)) a -> HOk S' F W0 Z (xAe same S.roots (S.b s)) w -> ∀ Q : Exit -> Act -> World -> Prop,
  (∀ (Z' : List Info) (a' : Act) (w' : World), PreM m Z Z' -> KOk N D Z' (xAN o y).2.1 a' -> HOk S' F W0 Z' (xAN o y).2.2 w' -> Q (xAN o y).1.out a' w') -> Code.rounds P x Q n a w := by
  intro n
  induction n with
  | zero => intro s y hy; rw [h0] at hy; cases hy
  | succ n ih =>
   intro s y hy D S' F W0 Z a w hK hh Q hn;rw [hs] at hy;refine xE1 hcall hm Fu pl d an x hA hreg (xAB o) _ _ _ y hy S' F W0 Z a w hK hh _ (fun e O' K' h' a' w' hp he hK' hh' => ?_)
   cases e with
   | normal =>
    obtain ⟨s', h1, h2⟩ := xDt he;obtain ⟨Z', h3, h4, h5⟩ := Sch.dec_ok h1 hK' hh';exact ih s' y h2 D S' F W0 Z' a' w' h4 h5 Q (fun Z2 a2 w2 hp2 => hn Z2 a2 w2 (hp.trans (h3.trans hp2)))
   | exit id =>
    obtain ⟨h1, Z', h2, h3, h4⟩ := xBz he hK' hh';have := hn Z' a' w' (hp.trans h2) h3 h4;rw [h1] at this;exact this
   | ret =>
    obtain ⟨h1, Z', h2, h3, h4⟩ := xBz he hK' hh';have := hn Z' a' w' (hp.trans h2) h3 h4;rw [h1] at this;exact this
 exact fun n s y hy D S' F W0 Z a w hK hh Q hn => ⟨n, main n s y hy D S' F W0 Z a w hK hh Q hn⟩
end
end
noncomputable section
open Go.RowKit
def Sh (ids : Nat -> Nat) (Z O : List Info) : Prop := ∀ (j : Nat) (i : Info), Z[j]? = some i -> O[ids j]? = some i
section
variable {ids : Nat -> Nat} {Z O : List Info}
theorem Sh.covs (h : Sh ids Z O) (ts : List Nat) : Covs Z O ts := fun _ _ id i _ _ hi hv => ⟨ids id, i, h id i hi, hv⟩
theorem Kd.move (h : Sh ids Z O) {V : Kd} {x : V.ty} {v : Value} (hd : Den Z (V.enc same x) v) : Den O (V.enc ids x) v := by
 cases V with
 | sl j k => obtain ⟨i, a', c', nn, h1, h2⟩ := hd; exact ⟨i, a', c', nn, h _ _ h1, h2⟩
 | so j k => obtain ⟨i, a', c', nn, h1, h2⟩ := hd; exact ⟨i, a', c', nn, h _ _ h1, h2⟩
 | sf j k n => obtain ⟨i, a', c', nn, h1, h2⟩ := hd; exact ⟨i, a', c', nn, h _ _ h1, h2⟩
 | sp j k => obtain ⟨i, a', c', nn, h1, h2⟩ := hd; exact ⟨i, a', c', nn, h _ _ h1, h2⟩
 | pt j k row c => obtain ⟨i, b, o, h1, h2⟩ := hd; exact ⟨i, b, o, h _ _ h1, h2⟩
 | pr j k c => obtain ⟨i, b, o, h1, h2⟩ := hd; exact ⟨i, b, o, h _ _ h1, h2⟩
 | hv j => obtain ⟨i, h1, h2⟩ := hd; exact ⟨i, h _ _ h1, h2⟩
 | lit u => exact hd
 | any => exact hd
def Sg.plain : Sg -> Bool
 | .t U => !xAy U
 | .k _ => true
def PK.plain : PK -> Bool
 | .c g => g.plain
 | .ag l => l.all Sg.plain
def RK.plain : RK -> Bool
 | .dead => true
 | .ro U => !xAy U
 | .rows _ U => !xAy U
 | .blk _ l => l.all Sg.plain
 | .clo _ a b => a.all Sg.plain && b.all Sg.plain
 | .mp _ _ U => !xAy U
 | .ars _ _ U => !xAy U
 | .aro _ _ U => !xAy U
 | .arm _ _ _ U => !xAy U
 | .arr _ U => !xAy U
theorem Sg.move (h : Sh ids Z O) {g : Sg} (hp : g.plain = true) {x : g.ty} {vs : List Value} (hd : DenL Z (g.enc same x) vs) : DenL O (g.enc ids x) vs := by
 cases g with
 | t U =>
  have : xAy U = false := by simpa [Sg.plain] using hp
  exact DenL.enc this (h.covs _) hd
 | k V => obtain ⟨v, r, e, h1, h2⟩ := hd; exact ⟨v, r, e, Kd.move h h1, h2⟩
theorem xEt (h : Sh ids Z O) : ∀ {l : List Sg} (_ : l.all Sg.plain = true) {x : xNL l} {vs : List Value}, DenL Z (xBW same l x) vs -> DenL O (xBW ids l x) vs
 | [], _, _, _, hd => hd
 | g :: l, hp, x, vs, hd => by
  simp only [List.all_cons, Bool.and_eq_true] at hp;obtain ⟨a, b, e, h1, h2⟩ := DenL.split hd;rw [e];exact (Sg.move h hp.1 h1).app (xEt h hp.2 h2)
theorem PK.move (h : Sh ids Z O) {p : PK} (hp : p.plain = true) {x : p.ty} {v : Value} (hd : DenP Z (p.enc same x) v) : DenP O (p.enc ids x) v := by
 cases p with
 | c g =>
  cases g with
  | k V => exact Kd.move h hd
  | t U =>
   have hp' : xAy U = false := by simpa [PK.plain, Sg.plain] using hp
   have hd' : Den Z (xXn (U.enc x)) v := hd;show Den O (xXn (U.enc x)) v
   cases U with
   | pair a b =>
    cases hq : (TC.pair a b).enc x with
    | nil => rw [hq] at hd'; exact hd'
    | cons c l =>
     rw [hq] at hd';have : ∀ (U : TC) (x : U.ty) (c : CV) (l : List CV), xAy U = false -> U.enc x = c :: l -> ∀ v, Den Z c v -> Den O c v := by
      intro U
      induction U with
      | cv => intro _ _ _ hh; cases hh
      | nil => intro x c l _ e; cases e
      | rf q t => intro x c l hh e v hv; cases e; exact (DenL.enc (U := .rf q t) hh (h.covs _) (x := x) (vs := [v]) ⟨v, [], rfl, hv, rfl⟩).elim fun u hu => by obtain ⟨r, e, h1, _⟩ := hu; cases e; exact h1
      | pair a b iha ihb =>
       intro x c l hh e v hv;simp only [xAy, Bool.or_eq_false_iff] at hh;simp only [TC.enc] at e
       cases ha : a.enc x.1 with
       | nil => rw [ha] at e; exact ihb x.2 c l hh.2 e v hv
       | cons c' l' => rw [ha] at e; cases e; exact iha x.1 c l' hh.1 ha v hv
      | _ => intro x c l hh e v hv; cases e; exact hv
     exact this _ x c l hp' hq v hd'
   | nil => exact hd'
   | cv => cases hp'
   | rf q t => exact (DenL.enc (U := .rf q t) hp' (h.covs _) (x := x) (vs := [v]) ⟨v, [], rfl, hd', rfl⟩).elim fun u hu => by obtain ⟨r, e, h1, _⟩ := hu; cases e; exact h1
   | _ => exact hd'
 | ag l =>
  obtain ⟨vs, h2, h3⟩ := hd;exact ⟨vs, xEt h hp h2, h3⟩
theorem RK.move (h : Sh ids Z O) {r : RK} (hp : r.plain = true) {x : r.ty} {w : World} {i : Info} (hd : RootOk Z w i (r.enc same x)) : RootOk O w i (r.enc ids x) := by
 cases r with
 | dead => trivial
 | ro U =>
  have hp' : xAy U = false := by simpa [RK.plain] using hp
  obtain ⟨h0, vs, h1, h2⟩ := hd;exact ⟨h0, vs, DenL.flat hp' (h.covs _) h1, h2⟩
 | rows T U =>
  have hp' : xAy U = false := by simpa [RK.plain] using hp
  obtain ⟨h0, h9, vs, h1, h2⟩ := hd;exact ⟨h0, h9, vs, DenL.flat hp' (h.covs _) h1, h2⟩
 | blk T l =>
  obtain ⟨h0, b, vs, h1, h2, h3⟩ := hd;exact ⟨⟨h0.1, by rw [h0.2, <- h2.len, (xEt h hp h2).len]⟩, b, vs, h1, xEt h hp h2, h3⟩
 | clo f a b =>
  simp only [RK.plain, Bool.and_eq_true] at hp;obtain ⟨fs, cs, h1, h2, h3⟩ := hd;exact ⟨fs, cs, xEt h hp.1 h1, xEt h hp.2 h2, h3⟩
 | mp k agg U =>
  have hp' : xAy U = false := by simpa [RK.plain] using hp
  obtain ⟨r, ents, clock, g1, g2, g3, g4⟩ := hd;exact ⟨r, ents, clock, g1, g2, g3, xEp hp' (h.covs _) g4⟩
 | ars t T U =>
  have hp' : xAy U = false := by simpa [RK.plain] using hp
  have hA : ArOk Z w (i.objs t) (Root.ars t T U x).obs := hd;refine ⟨hA.1, fun m v ob h1 h2 => ?_, hA.2.2⟩;have h3 := hA.2.1 m v ob h1 h2;have h2' : (Root.ars t T U x).obs[m]? = some ob := h2;simp only [Root.obs, List.getElem?_map] at h2';obtain ⟨y, hy, e⟩ := Option.map_eq_some_iff.1 h2'
  cases y with
  | none => subst e; trivial
  | some xs => subst e; obtain ⟨a, c, k1, k2, vs, k3, k4⟩ := h3; exact ⟨a, c, k1, k2, vs, DenL.flat hp' (h.covs _) k3, k4⟩
 | aro t T U =>
  have hp' : xAy U = false := by simpa [RK.plain] using hp
  have hA : ArOk Z w (i.objs t) (Root.aro t T U x).obs := hd;refine ⟨hA.1, fun m v ob h1 h2 => ?_, hA.2.2⟩;have h3 := hA.2.1 m v ob h1 h2;have h2' : (Root.aro t T U x).obs[m]? = some ob := h2;simp only [Root.obs, List.getElem?_map] at h2';obtain ⟨y, hy, e⟩ := Option.map_eq_some_iff.1 h2';subst e; obtain ⟨a, c, k1, k2, vs, k3, k4⟩ := h3; exact ⟨a, c, k1, k2, vs, DenL.flat hp' (h.covs _) k3, k4⟩
 | arm t k agg U =>
  have hp' : xAy U = false := by simpa [RK.plain] using hp
  have hA : ArOk Z w (i.objs t) (Root.arm t k agg U x).obs := hd;refine ⟨hA.1, fun m v ob h1 h2 => ?_, hA.2.2⟩;have h3 := hA.2.1 m v ob h1 h2;have h2' : (Root.arm t k agg U x).obs[m]? = some ob := h2;simp only [Root.obs, List.getElem?_map] at h2';obtain ⟨y, hy, e⟩ := Option.map_eq_some_iff.1 h2'
  cases y with
  | none => subst e; trivial
  | some ts => subst e; obtain ⟨r, ents, cl, k1, k2, k3⟩ := h3; exact ⟨r, ents, cl, k1, k2, xEp hp' (h.covs _) k3⟩
 | arr t U =>
  have hp' : xAy U = false := by simpa [RK.plain] using hp
  have hA : ArOk Z w (i.objs t) (Root.arr t U x).obs := hd;refine ⟨hA.1, fun m v ob h1 h2 => ?_, hA.2.2⟩;have h3 := hA.2.1 m v ob h1 h2;have h2' : (Root.arr t U x).obs[m]? = some ob := h2;simp only [Root.obs, List.getElem?_map] at h2';obtain ⟨y, hy, e⟩ := Option.map_eq_some_iff.1 h2';subst e; obtain ⟨a, c, k1, k2, k3, vs, k4, k5⟩ := h3; exact ⟨a, c, k1, k2, k3, vs, DenL.flat hp' (h.covs _) k4, k5⟩
theorem RK.own_ids (ids ids' : Nat -> Nat) {r : RK} {x : r.ty} {i : Info} : own i (r.enc ids x) = own i (r.enc ids' x) := by cases r <;> rfl
end
inductive RP where
 | one (p : PK)
 | tu (l : List (Bool × List Sg))
def tuD : List (Bool × List Sg) -> Bool
 | [] => false
 | p :: l => gsD p.2 || tuD l
@[reducible] def xWd : List (Bool × List Sg) -> Type
 | [] => Unit
 | p :: l => pTy (gsD p.2) (tuD l) (xNL p.2) (xWd l)
def tuDf : (l : List (Bool × List Sg)) -> xWd l
 | [] => ()
 | p :: l => pm (gsD p.2) (tuD l) (xJc p.2) (tuDf l)
@[reducible] def RP.ty : RP -> Type
 | .one p => p.ty
 | .tu l => xWd l
def xHc (ids : Nat -> Nat) : (l : List (Bool × List Sg)) -> xWd l -> List (Bool × List CV)
 | [], _ => []
 | p :: l, x => (p.1, xBW ids p.2 (pf (xJc p.2) (gsD p.2) (tuD l) x)) :: xHc ids l (ps (tuDf l) (gsD p.2) (tuD l) x)
theorem xHO {ids : Nat -> Nat} : ∀ {l : List (Bool × List Sg)} (_ : tuD l = false) (x y : xWd l), xHc ids l x = xHc ids l y
 | [], _, _, _ => rfl
 | p :: l, h, x, y => by
  simp only [tuD, Bool.or_eq_false_iff] at h;simp only [xHc];rw [xBy h.1 (pf (xJc p.2) (gsD p.2) (tuD l) x) (pf (xJc p.2) (gsD p.2) (tuD l) y), xHO h.2 (ps (tuDf l) (gsD p.2) (tuD l) x) (ps (tuDf l) (gsD p.2) (tuD l) y)]
theorem xQW {ids : Nat -> Nat} {p : Bool × List Sg} {l : List (Bool × List Sg)} (x : xNL p.2) (y : xWd l) : xHc ids (p :: l) (pm (gsD p.2) (tuD l) x y) = (p.1, xBW ids p.2 x) :: xHc ids l y := by
 simp only [xHc];rw [xIS (fun z => xBW ids p.2 z) (gsD p.2) (tuD l) (fun h => xBy h), xIR (fun z => xHc ids l z) (gsD p.2) (tuD l) (fun h => xHO h)]
def RP.hasD : RP -> Bool
 | .one p => p.hasD
 | .tu l => tuD l
def RP.dflt : (r : RP) -> r.ty
 | .one p => p.dflt
 | .tu l => tuDf l
def RP.enc (ids : Nat -> Nat) : (r : RP) -> r.ty -> PV
 | .one p, x => p.enc ids x
 | .tu l, x => .tu (xHc ids l x)
def xSd (rn : Rn) : (l : List (Bool × List Sg)) -> List (Bool × List CV) -> Option (xWd l × Rn)
 | [], cs => match cs with
  | [] => some ((), rn)
  | _ :: _ => none
 | p :: l, cs => match cs with
  | [] => none
  | (b, c) :: cs => bif (p.1 == b) then (match xLc rn p.2 c with
   | some (x, rn') => match xSd rn' l cs with
    | some (y, rn2) => some (pm (gsD p.2) (tuD l) x y, rn2)
    | none => none
   | none => none) else none
def RP.dec (rn : Rn) : (r : RP) -> PV -> Option (r.ty × Rn)
 | .one p, v => p.dec rn v
 | .tu l, v => match v with
  | .tu cs => xSd rn l cs
  | _ => none
structure FSch where
 res : RP
 roots : List RK
@[reducible] def FSch.ty (s : FSch) : Type := pTy s.res.hasD (rsD s.roots) s.res.ty (xF8 s.roots)
def FSch.a (s : FSch) (x : s.ty) : s.res.ty := pf s.res.dflt s.res.hasD (rsD s.roots) x
def FSch.b (s : FSch) (x : s.ty) : xF8 s.roots := ps (rsDf s.roots) s.res.hasD (rsD s.roots) x
theorem RP.enc_inv {ids : Nat -> Nat} {p : RP} (h : p.hasD = false) (x y : p.ty) : p.enc ids x = p.enc ids y := by
 cases p with
 | one p => exact PK.enc_inv h x y
 | tu l => exact congrArg PV.tu (xHO h x y)
theorem FSch.enc_a {ids : Nat -> Nat} {s : FSch} (x : s.res.ty) (y : xF8 s.roots) : s.res.enc ids (s.a (pm s.res.hasD (rsD s.roots) x y)) = s.res.enc ids x := xIS (fun z => s.res.enc ids z) _ _ (fun h => RP.enc_inv h) _ _ _
theorem FSch.enc_b {ids : Nat -> Nat} {s : FSch} (x : s.res.ty) (y : xF8 s.roots) : xAe ids s.roots (s.b (pm s.res.hasD (rsD s.roots) x y)) = xAe ids s.roots y := xIR (fun z => xAe ids s.roots z) _ _ (fun h => xFC h) _ _ _
def xSc (l : List (Bool × List Sg)) : List Nat := l.flatMap (fun p => xG0 p.2)
def RP.tags : RP -> List Nat
 | .one p => p.tags
 | .tu l => xSc l
def FSch.dec (s : FSch) (m : Nat) (v : PV) (h : List Root) : Option s.ty :=
 bif Nat.ble m s.roots.length then match xFn h s.roots 0 (rn0 m s.roots.length 0) with
  | some rn => match s.res.dec rn v with
   | some (x, rn') => match xGg rn' h s.roots 0 with
    | some (y, rn2) => bif xEY (xIw s.roots rn2) && Nat.beq rn2.length s.roots.length && xAI (s.res.tags ++ xC6 s.roots) s.roots then some (pm s.res.hasD (rsD s.roots) x y) else none
    | none => none
   | none => none
  | none => none
 else none
def RP.plain : RP -> Bool
 | .one p => p.plain
 | .tu l => l.all (fun p => p.2.all Sg.plain)
theorem xSb {ids : Nat -> Nat} {Z O : List Info} (h : Sh ids Z O) : ∀ {l : List (Bool × List Sg)} (_ : l.all (fun p => p.2.all Sg.plain) = true) {x : xWd l} {vs : List Value}, DenT Z (xHc same l x) vs -> DenT O (xHc ids l x) vs
 | [], _, _, _, hd => hd
 | p :: l, hp, x, vs, ⟨v, r, e, h1, h2⟩ => by
  simp only [List.all_cons, Bool.and_eq_true] at hp;refine ⟨v, r, e, ?_, xSb h hp.2 h2⟩;obtain ⟨b, gs⟩ := p
  cases b with
  | true => obtain ⟨us, h3, h4⟩ := h1; exact ⟨us, xEt h hp.1 h3, h4⟩
  | false =>
   obtain ⟨c, h3, h4⟩ := h1;have h3' : xBW same gs (pf (xJc gs) (gsD gs) (tuD l) x) = [c] := h3;have h5 : DenL Z (xBW same gs (pf (xJc gs) (gsD gs) (tuD l) x)) [v] := by rw [h3']; exact ⟨v, [], rfl, h4, rfl⟩
   have h6 := xEt h hp.1 h5;show ∃ c, xBW ids gs (pf (xJc gs) (gsD gs) (tuD l) x) = [c] /\ Den O c v;have h7 := h6.len
   match hg : xBW ids gs (pf (xJc gs) (gsD gs) (tuD l) x), h7 with
   | [c'], _ =>
    rw [hg] at h6;obtain ⟨u', r', e', h8, _⟩ := h6;cases e';exact ⟨c', rfl, h8⟩
theorem RP.move {ids : Nat -> Nat} {Z O : List Info} (h : Sh ids Z O) {p : RP} (hp : p.plain = true) {x : p.ty} {v : Value} (hd : DenP Z (p.enc same x) v) : DenP O (p.enc ids x) v := by
 cases p with
 | one p => exact PK.move h hp hd
 | tu l => obtain ⟨vs, h1, h2⟩ := hd; exact ⟨vs, xSb h hp h1, h2⟩
theorem xO6 : ∀ {l : List (Bool × List Sg)} {rn rn' : Rn} {cs : List (Bool × List CV)} {x : xWd l}, xSd rn l cs = some (x, rn') -> Le rn rn' /\ ∀ (O Z : List Info) (vs : List Value), Agr rn' O Z -> Covs O Z (xSc l) -> DenT O cs vs -> DenT Z (xHc same l x) vs
 | [], rn, rn', cs, x, h => by
  simp only [xSd] at h;split at h
  ·cases h; exact ⟨Le.refl _, fun O Z vs _ _ hd => hd⟩
  ·cases h
 | p :: l, rn, rn', cs, x, h => by
  simp only [xSd] at h;split at h
  ·cases h
  ·rename_i b c cs'
   cases hb : (p.1 == b) with
   | false => rw [hb] at h; cases h
   | true =>
    rw [hb] at h;have hb' := eq_of_beq hb;simp only [cond_true] at h;split at h
    ·rename_i y rn1 hy;split at h
     ·rename_i z rn2 hz;cases h;obtain ⟨h1, h2⟩ := xEN hy;obtain ⟨h3, h4⟩ := xO6 hz;refine ⟨h1.trans h3, fun O Z vs ha hcv ⟨v, r, e, h5, h6⟩ => ?_⟩;have hcv' : Covs O Z (xG0 p.2 ++ xSc l) := hcv;rw [xQW];refine ⟨v, r, e, ?_, h4 O Z r ha hcv'.right h6⟩;replace hcv' := hcv'.left;obtain ⟨pb, gs⟩ := p;simp only at hb';subst hb'
      cases pb with
      | true => obtain ⟨us, h7, h8⟩ := h5; exact ⟨us, h2 O Z us (ha.of_le h3) hcv' h7, h8⟩
      | false =>
       obtain ⟨c', h7, h8⟩ := h5;have h7' : c = [c'] := h7;subst h7';have h9 := h2 O Z [v] (ha.of_le h3) hcv' ⟨v, [], rfl, h8, rfl⟩;show ∃ c, xBW same gs y = [c] /\ Den Z c v;have h10 := h9.len
       match hg : xBW same gs y, h10 with
       | [c2], _ =>
        rw [hg] at h9;obtain ⟨u', r', e', h11, _⟩ := h9;cases e';exact ⟨c2, rfl, h11⟩
     ·cases h
    ·cases h
theorem RP.dec_ok {p : RP} {rn rn' : Rn} {v : PV} {x : p.ty} (h : p.dec rn v = some (x, rn')) : Le rn rn' /\ ∀ (O Z : List Info) (u : Value), Agr rn' O Z -> Covs O Z p.tags -> DenP O v u -> DenP Z (p.enc same x) u := by
 cases p with
 | one p => exact PK.dec_ok h
 | tu l =>
  simp only [RP.dec] at h;split at h
  ·obtain ⟨h1, h2⟩ := xO6 h;exact ⟨h1, fun O Z u ha hcv ⟨vs, h3, h4⟩ => ⟨vs, h2 O Z vs ha hcv h3, h4⟩⟩
  ·cases h
theorem FSch.dec_ok {s : FSch} {m : Nat} {v : PV} {h : List Root} {x : s.ty} (hd : s.dec m v h = some x) : ∀ {S F : List Nat} {W0 : World} {O : List Info} {u : Value} {w : World}, DenP O v u -> HOk S F W0 O h w ->
  m <= s.roots.length /\ ∃ Z, PreM m O Z /\ DenP Z (s.res.enc same (s.a x)) u /\ HOk S F W0 Z (xAe same s.roots (s.b x)) w := by
 intro S F W0 O u w hu hh;unfold FSch.dec at hd
 cases hb : Nat.ble m s.roots.length with
 | false => rw [hb] at hd; cases hd
 | true =>
  rw [hb] at hd;simp only [cond_true] at hd;split at hd
  ·rename_i rn00 hb0;have hle0 := xDC hb0;split at hd
   ·rename_i y rn1 hy;split at hd
    ·rename_i z rn2 hz
     cases hc : (xEY (xIw s.roots rn2) && Nat.beq rn2.length s.roots.length && xAI (s.res.tags ++ xC6 s.roots) s.roots) with
     | false => rw [hc] at hd; cases hd
     | true =>
      rw [hc] at hd;cases hd;simp only [Bool.and_eq_true] at hc;rw [FSch.enc_a, FSch.enc_b];obtain ⟨h1, h2⟩ := RP.dec_ok hy;have h3 := (xDO hz).1;have htg2 : xAI (xC6 s.roots) s.roots = true := by
       have := hc.2;unfold xAI at this ⊢;rw [List.all_append, Bool.and_eq_true] at this;exact this.2
      refine ⟨Nat.le_of_ble_eq_true hb, _, fun j hj i e => ?_, h2 O _ u ((Agr.mk rn2 O).of_le h3) (xMr hz hc.2 hh).left hu, rs_hok hz hc.1.1 (nbT hc.1.2) htg2 hh⟩;have := (hle0.trans (h1.trans h3)).2 j _ (xKF m _ 0 j hj (Nat.le_of_ble_eq_true hb));rw [((Agr.mk rn2 O) j).1 _ this, Nat.zero_add, e];rfl
    ·cases hd
   ·cases hd
  ·cases hd
def Root.grows : Root -> Bool
 | .ars _ _ _ _ => true
 | .aro _ _ _ _ => true
 | .arm _ _ _ _ _ => true
 | _ => false
theorem xRH {i : Info} {r : Root} (h : r.grows = true) {b : Nat} : foot i r b ↔ own i r b := by
 cases r <;> first | exact Iff.rfl | (cases h; done)
def xQk : List Root -> Nat -> List Nat
 | [], _ => []
 | r :: h, p => bif r.grows then p :: xQk h (p + 1) else xQk h (p + 1)
def mvArs (h : List Root) : List Root := (xQk h 0).foldl (fun h p => h.set p .dead) h ++ (xQk h 0).filterMap (fun p => h[p]?)
theorem xI8 : ∀ {h : List Root} {p q : Nat}, q ∈ xQk h p -> p <= q /\ ∃ r, h[q - p]? = some r /\ r.grows = true
 | [], p, q, h => by simp [xQk] at h
 | r :: h, p, q, hq => by
  have next : q ∈ xQk h (p + 1) -> p <= q /\ ∃ r', (r :: h)[q - p]? = some r' /\ r'.grows = true := fun hq => by
   obtain ⟨h1, r', h2, h3⟩ := xI8 hq;exact ⟨by omega, r', by rw [show q - p = (q - (p + 1)) + 1 by omega]; simpa using h2, h3⟩
  simp only [xQk] at hq
  cases ht : r.grows with
  | true =>
   rw [ht] at hq;rcases List.mem_cons.1 hq with rfl | hq
   ·exact ⟨Nat.le_refl _, r, by simp, ht⟩
   ·exact next hq
  | false => rw [ht] at hq; exact next hq
theorem xDd : ∀ {h : List Root} {p : Nat}, (xQk h p).Pairwise (· < ·)
 | [], _ => by simp [xQk]
 | r :: h, p => by
  simp only [xQk]
  cases r.grows with
  | true =>
   refine List.pairwise_cons.2 ⟨fun q hq => ?_, xDd⟩;have := (xI8 hq).1;omega
  | false => exact xDd
theorem HOk.mvArs {S F : List Nat} {W0 : World} {O : List Info} {h : List Root} {w : World} (hh : HOk S F W0 O h w) : ∃ O', Pre O O' /\ HOk S F W0 O' (mvArs h) w := by
 have hsome : ∀ p ∈ xQk h 0, ∃ r i, h[p]? = some r /\ O[p]? = some i /\ r.grows = true := fun p hp => by
  obtain ⟨_, r, h1, h2⟩ := xI8 hp;rw [Nat.sub_zero] at h1;obtain ⟨i, hi⟩ := hh.info h1;exact ⟨r, i, h1, hi, h2⟩
 obtain ⟨N, hNd⟩ : ∃ N : List (Info × Root), N = (xQk h 0).filterMap (fun p => match O[p]?, h[p]? with
  | some i, some r => some (i, r)
  | _, _ => none) := ⟨_, rfl⟩
 have hlist : ∀ l : List Nat, (∀ p ∈ l, ∃ r i, h[p]? = some r /\ O[p]? = some i /\ r.grows = true) -> ∀ (j : Nat) (x : Info × Root), (l.filterMap (fun p => match O[p]?, h[p]? with
   | some i, some r => some (i, r)
   | _, _ => none))[j]? = some x -> ∃ p, l[j]? = some p /\ h[p]? = some x.2 /\ O[p]? = some x.1 /\ x.2.grows = true := by
  intro l
  induction l with
  | nil => intro _ j x hx; simp at hx
  | cons p l ih =>
   intro hl j x hx;obtain ⟨r, i, h1, h2, h3⟩ := hl p (by simp);simp only [List.filterMap_cons, h1, h2] at hx
   cases j with
   | zero => simp only [List.getElem?_cons_zero, Option.some.injEq] at hx; subst hx; exact ⟨p, rfl, h1, h2, h3⟩
   | succ j =>
    obtain ⟨p', g1, g2⟩ := ih (fun q hq => hl q (by simp [hq])) j x (by simpa using hx);exact ⟨p', by simpa using g1, g2⟩
 have hsnd : ∀ l : List Nat, (∀ p ∈ l, ∃ r i, h[p]? = some r /\ O[p]? = some i /\ r.grows = true) -> (l.filterMap (fun p => match O[p]?, h[p]? with
   | some i, some r => some (i, r)
   | _, _ => none)).map Prod.snd = l.filterMap (fun p => h[p]?) := by
  intro l
  induction l with
  | nil => intro _; rfl
  | cons p l ih =>
   intro hl;obtain ⟨r, i, h1, h2, h3⟩ := hl p (by simp);have := ih (fun q hq => hl q (by simp [hq]));simp only [List.filterMap_cons, h1, h2, List.map_cons, this]
 have hN := hlist _ hsome;rw [<- hNd] at hN;have hreg := hh.regroup (xQk h 0) N (fun j x hx => by
  obtain ⟨p, g1, g2, g3, g4⟩ := hN j x hx;refine ⟨(hh.ok p _ _ g2 g3).mono (Pre.app _ _), fun b hb => ⟨p, List.mem_of_getElem? g1, _, _, g2, g3, ?_⟩⟩;exact (xRH g4).1 hb) (fun j k x y b hjk hx hy h1 h2 => by
  obtain ⟨p, g1, g2, g3, _⟩ := hN j x hx;obtain ⟨q, k1, k2, k3, _⟩ := hN k y hy;refine hh.sep p q _ _ _ _ b (fun e => hjk ?_) g2 k2 g3 k3 h1 h2;subst e;obtain ⟨l1, e1⟩ := List.getElem?_eq_some_iff.1 g1;obtain ⟨l2, e2⟩ := List.getElem?_eq_some_iff.1 k1;rcases Nat.lt_trichotomy j k with hlt | he | hlt
  ·have := List.pairwise_iff_getElem.1 (xDd (h := h) (p := 0)) j k l1 l2 hlt;omega
  ·exact he
  ·have := List.pairwise_iff_getElem.1 (xDd (h := h) (p := 0)) k j l2 l1 hlt;omega) (fun j t x hx ht id i m v hi hv => by
  obtain ⟨p, g1, g2, g3, _⟩ := hN j x hx;rcases Nat.lt_or_ge id O.length with hlt | hge
  ·rw [List.getElem?_append_left hlt] at hi;exact hh.cov p t _ _ g2 g3 ht id i m v hi hv
  ·rw [List.getElem?_append_right hge, List.getElem?_map] at hi;obtain ⟨y, hy, e⟩ := Option.map_eq_some_iff.1 hi;obtain ⟨q, _, _, k3, _⟩ := hN _ y hy;subst e;exact hh.cov p t _ _ g2 g3 ht q _ m v k3 hv) (fun p t r i hp hi hL ht j x m v hx hv => by
  obtain ⟨q, _, _, k3, _⟩ := hN j x hx;exact hh.cov p t _ _ hp hi ht q _ m v k3 hv) (fun j x hx => by
  obtain ⟨p, _, g2, g3, _⟩ := hN j x hx;exact hh.cln p _ _ g2 g3)
 have e := hsnd _ hsome;rw [<- hNd] at e;rw [e] at hreg;exact ⟨O ++ N.map Prod.fst, Pre.app _ _, hreg⟩
def FnSem (P : Program) (f nargs : Nat) (In : Sch) (Out : FSch) (spec : In.ty -> Option Out.ty) : Prop :=
 ∀ (s : In.ty) (t : Out.ty), spec s = some t -> ∀ (S F : List Nat) (W0 : World) (Z : List Info) (w : World) (vs : List Value), vs.length = nargs -> (∀ q p, lkP (xAM same In.slots (In.a s)) q = some p -> ∃ v, DenP Z p v /\ vs[q]? = some v) -> HOk S F W0 Z (xAe same In.roots (In.b s)) w -> xA3 P f = true ->
  Calls P f vs.toArray w (fun e w' => ∃ Z' u, e = .returned u /\ PreM In.roots.length Z Z' /\ DenP Z' (Out.res.enc same (Out.a t)) u /\ HOk S F W0 Z' (xAe same Out.roots (Out.b t)) w' /\ In.roots.length <= Out.roots.length)
def fnEv (P : Program) (Fu : Nat) (pl : Nat -> Option PT) (call : (β : Type) -> xAK β) (d nargs : Nat) (an : An) (f : Nat) (In : Sch) (Out : FSch) (s : In.ty) : Option Out.ty :=
 match P.funcs[f]? with
 | some fn => match fn.body with
  | some c => match unpL (unpFn f) (xAM same In.slots (In.a s)) (mvArs (xAe same In.roots (In.b s))) with
   | some (g, K0, h0, _) => gds g (evA P Fu pl call In.roots.length (nargs + (fn.ntmps - nargs)) d an c Out.ty K0 h0 (fun e K' h' => match e with
    | .exit _ => none
    | _ => match xR2 P K' h' fn.results.toList with
     | some v => Out.dec In.roots.length v h'
     | none => none))
   | none => none
  | none => none
 | none => none
def xAi (P : Program) (f : Nat) : Code :=
 match P.funcs[f]? with
 | some fn => match fn.body with
  | some c => c
  | none => .skip
 | none => .skip
def xAv (P : Program) (f nargs : Nat) : Nat :=
 match P.funcs[f]? with
 | some fn => nargs + (fn.ntmps - nargs)
 | none => 0
theorem xXr {P : Program} {call : (β : Type) -> xAK β} (hcall : ∀ β, xAJ P (call β)) (hm : P.follows .mixedOrders = true) {Fu : Nat} {pl : Nat -> Option PT} {d nargs f : Nat} {an : An} {In : Sch} {Out : FSch} {spec : In.ty -> Option Out.ty}
  (hreg : xAL pl (xAi P f) = true) (hA : AnOk P In.roots.length (xAv P f nargs) an (xAi P f)) (hs : ∀ s, spec s = fnEv P Fu pl call d nargs an f In Out s) : FnSem P f nargs In Out spec := by
 intro s t hst S F W0 Z w vs hlen hden hh hcl;rw [hs] at hst;unfold fnEv at hst;split at hst
 ·rename_i fn hfn;split at hst
  ·rename_i c hc;have hb : xAi P f = c := by simp [xAi, hfn, hc]
   have ht : xAv P f nargs = nargs + (fn.ntmps - nargs) := by simp [xAv, hfn]
   rw [hb] at hreg hA;rw [ht] at hA;have hsz : vs.toArray.size = nargs := by simpa using hlen
   obtain ⟨Z0, hp0, hh0⟩ := hh.mvArs;split at hst
   rotate_right
   ·cases hst
   rename_i g K0 h0 T0 hun;obtain ⟨hg, hst⟩ := xBE hst;have hKK : KOk (nargs + (fn.ntmps - nargs)) [] Z0 (xAM same In.slots (In.a s)) { tmps := vs.toArray ++ Array.replicate (fn.ntmps - vs.toArray.size) undef, defers := [] } := ⟨by simp [hsz], rfl, fun q p hp => ?_⟩;have hgh := xR9 (unpFn f) _ _ _ hKK hh0;rw [hun] at hgh;obtain ⟨Z1, hG1, hK1, hh1⟩ := hgh hg;have hp1 : Pre Z Z1 := hp0.trans hG1.pre;refine calls_of_wp hfn hc (xE1 hcall hm Fu pl d an c hA hreg Out.ty _ _ _ t hst S F W0 Z1 _ w hK1 hh1 _ (fun e O' K' h' a' w' hp he hK' hh' => ?_))
   rotate_right
   ·obtain ⟨v, h3, h4⟩ := hden q p hp;refine ⟨v, h3.mono hp0, ?_⟩;have hlt := (List.getElem?_eq_some_iff.1 h4).1;show (vs.toArray ++ Array.replicate (fn.ntmps - vs.toArray.size) undef)[q]? = some v;rw [Array.getElem?_append_left (by simpa using hlt)];simpa using h4
   ·have fin : (match xR2 P K' h' fn.results.toList with
      | some v => Out.dec In.roots.length v h'
      | none => none) = some t -> a'.defers = [] /\ ∃ v, (results fn a'.tmps).run P w' = .ok v w' /\ ∃ Z' u, Ending.returned v = .returned u /\ PreM In.roots.length Z Z' /\ DenP Z' (Out.res.enc same (Out.a t)) u /\ HOk S F W0 Z' (xAe same Out.roots (Out.b t)) w' /\ In.roots.length <= Out.roots.length := by
     intro hm2;split at hm2
     ·rename_i v hv;obtain ⟨u, h1, h2⟩ := xId hK' hh' hv;obtain ⟨h3, Z', h4, h5, h6⟩ := FSch.dec_ok hm2 h1 hh';exact ⟨hK'.2.1, u, h2, Z', u, rfl, (fun j hj i e => (hp.trans h4) j hj i (hp1 j i e)), h5, h6, h3⟩
     ·cases hm2
    cases e with
    | normal => exact fin he
    | exit id => cases he
    | ret => exact fin he
  ·cases hst
 ·cases hst
end
end Go.Proofs.YtnomnijhlbalaaaGreatDoor
