/- A part of the proof of the theorem of the last file. No condition. By an AI agent. -/
import Derived.Test.YtnomnijhlbalaaaGreatDoorWY3b
namespace Go.Proofs.YtnomnijhlbalaaaGreatDoor
noncomputable section
open Go.RowKit
inductive An where
 | no
 | two (a b : An)
 | one (a : An)
 | rnd (a b : An)
 | join (o : xBO) (a : An)
 | loop (S : Sch) (o : xBO) (M : S.ty -> Option (xAK o))
 | rng (S : Sch) (o : xBO) (κ : KK) (agg : Bool) (τ : TC) (B : S.ty -> κ.ty × τ.ty -> Option (S.ty ⊕ xAK o)) (E : S.ty -> Option (xAK o))
def An.l : An -> An
 | .two a _ => a
 | .one a => a
 | _ => .no
def An.r : An -> An
 | .two _ b => b
 | _ => .no
def An.rd : An -> Nat -> An
 | .rnd a b, i => match i with
  | 0 => a
  | i + 1 => b.rd i
 | an, _ => an.l
def xDL {β : Type} (body : Nat -> Slo -> List Root -> xFn β -> Option β) : Nat -> Slo -> List Root -> xFn β -> Option β
 | 0, _, _, _ => none
 | n + 1, K, h, k => body n K h (fun e K' h' => match e with
  | .normal => xDL body n K' h' k
  | e => k e K' h')
def evA (P : Program) (Fu : Nat) (pl : Nat -> Option PT) (call : (β : Type) -> xAT β) (m N : Nat) : Nat -> An -> Code -> (β : Type) -> Slo -> List Root -> xFn β -> Option β
 | 0, _, _, _, _, _, _ => none
 | d + 1, an, c, β, K, h, k => match an with
  | .join o a => ob (evA P Fu pl call m N d a c (xAK o) K h (xBt m o)) (fun x => xX9 k o x)
  | .loop S o M => match c with
   | .loop _ => match S.dec m K h with
    | some s => ob (M s) (fun x => xX9 k o x)
    | none => none
   | _ => none
  | .rng S o κ agg τ B E => match xBS c with
   | some R => bif Nat.ble (R.ti + 1) N then xFe P N R.ops0 (call β) R.pre K h (fun K h => match xPf P m S.roots K h R κ agg τ with
    | some (g, pl, rp, ts) => gds g (match S.dec m (xDr K R.ti (.c (.hv h.length))) (xGz h pl ++ [.dead]) with
     | some s => xDO (fun π => ob (xUu B E s π) (fun y => xX9 (fun e K' h' => match xUw h' rp κ agg τ ts with
      | some h2 => k e K' h2
      | none => none) o y)) ts
     | none => none)
    | none => none) else none
   | none => none
  | an => match c with
   | .skip => k .normal K h
   | .exit id => k (.exit id) K h
   | .ret => k .ret K h
   | .region _ ops false => xFe P N ops (call β) ops.toList K h (k .normal)
   | .region id ops true => match pl id with
    | some t => xK8 P N ops (call β) t K h (k .normal)
    | none => none
   | .seq x y => evA P Fu pl call m N d an.l x β K h (fun e K' h' => match e with
    | .normal => evA P Fu pl call m N d an.r y β K' h' k
    | e => k e K' h')
   | .cond c x y => match xAv K c with
    | some (.c (.sc (.bool b))) => bif b then evA P Fu pl call m N d an.l x β K h k else evA P Fu pl call m N d an.r y β K h k
    | _ => none
   | .block id x => evA P Fu pl call m N d an.l x β K h (fun e K' h' => match e with
    | .exit id' => bif Nat.beq id' id then k .normal K' h' else k (.exit id') K' h'
    | e => k e K' h')
   | .loop x => xDL (fun n K h k => evA P Fu pl call m N d (an.rd (Fu - 1 - n)) x β K h k) Fu K h k
   | _ => none
def xAW (P : Program) (m N : Nat) (x : Code) (S : Sch) (o : xBO) (M : S.ty -> Option (xAK o)) : Prop :=
 ∀ (s : S.ty) (y : xAK o), M s = some y -> ∀ (D : List Deferred) (S' F : List Nat) (W0 : World) (ι : List Info) (a : Act) (w : World), KOk N D ι (xA2 same S.slots (S.a s)) a -> HOk S' F W0 ι (xAn same S.roots (S.b s)) w -> ∀ Q : Exit -> Act -> World -> Prop,
  (∀ (ι' : List Info) (a' : Act) (w' : World), PreM m ι ι' -> KOk N D ι' (xAY o y).2.1 a' -> HOk S' F W0 ι' (xAY o y).2.2 w' -> Q (xAY o y).1.out a' w') -> ∃ n, Code.rounds P x Q n a w
def AnOk (P : Program) (m N : Nat) : An -> Code -> Prop
 | .no, _ => True
 | .two a b, c => match c with
  | .seq x y => AnOk P m N a x /\ AnOk P m N b y
  | .cond _ x y => AnOk P m N a x /\ AnOk P m N b y
  | .block _ x => AnOk P m N a x
  | .loop x => AnOk P m N a x
  | _ => True
 | .one a, c => match c with
  | .seq x _ => AnOk P m N a x
  | .cond _ x _ => AnOk P m N a x
  | .block _ x => AnOk P m N a x
  | .loop x => AnOk P m N a x
  | _ => True
 | .rnd a b, c => match c with
  | .loop x => AnOk P m N a x /\ AnOk P m N b (.loop x)
  | _ => True
 | .join _ a, c => AnOk P m N a c
 | .loop S o M, c => match c with
  | .loop x => xAW P m N x S o M
  | _ => True
 | .rng S o κ agg τ B E, c => match xBS c with
  | some R => xHx P m N R S o κ agg τ B E
  | none => True
section
variable {P : Program} {m N : Nat} {D : List Deferred}
theorem AnOk.seq {an : An} {x y : Code} (h : AnOk P m N an (.seq x y)) : AnOk P m N an.l x /\ AnOk P m N an.r y := by
 cases an with
 | no => exact ⟨trivial, trivial⟩
 | two a b => exact h
 | one a => exact ⟨h, trivial⟩
 | rnd a b => exact ⟨trivial, trivial⟩
 | join o a => exact ⟨trivial, trivial⟩
 | loop S o M => exact ⟨trivial, trivial⟩
 | rng _ _ _ _ _ _ _ => exact ⟨trivial, trivial⟩
theorem AnOk.cond {an : An} {c : Operand} {x y : Code} (h : AnOk P m N an (.cond c x y)) : AnOk P m N an.l x /\ AnOk P m N an.r y := by
 cases an with
 | no => exact ⟨trivial, trivial⟩
 | two a b => exact h
 | one a => exact ⟨h, trivial⟩
 | rnd a b => exact ⟨trivial, trivial⟩
 | join o a => exact ⟨trivial, trivial⟩
 | loop S o M => exact ⟨trivial, trivial⟩
 | rng _ _ _ _ _ _ _ => exact ⟨trivial, trivial⟩
theorem AnOk.block {an : An} {id : Nat} {x : Code} (h : AnOk P m N an (.block id x)) : AnOk P m N an.l x := by
 cases an with
 | no => trivial
 | two a b => exact h
 | one a => exact h
 | rnd a b => trivial
 | join o a => trivial
 | loop S o M => trivial
 | rng _ _ _ _ _ _ _ => trivial
theorem AnOk.loop {x : Code} : ∀ {an : An}, AnOk P m N an (.loop x) -> (∀ S o M, an ≠ .loop S o M) -> ∀ i, AnOk P m N (an.rd i) x
 | .no, _, _, _ => trivial
 | .two a b, h, _, _ => h
 | .one a, h, _, _ => h
 | .rnd a b, h, hn, i => by
  cases i with
  | zero => exact h.1
  | succ i =>
   cases b with
   | loop S o M => exact trivial
   | rng _ _ _ _ _ _ _ => exact trivial
   | no => exact AnOk.loop h.2 (fun _ _ _ e => by cases e) i
   | two a b => exact AnOk.loop h.2 (fun _ _ _ e => by cases e) i
   | one a => exact AnOk.loop h.2 (fun _ _ _ e => by cases e) i
   | rnd a b => exact AnOk.loop h.2 (fun _ _ _ e => by cases e) i
   | join o a => exact trivial
 | .join o a, _, _, _ => trivial
 | .loop S o M, _, hn, _ => absurd rfl (hn S o M)
 | .rng _ _ _ _ _ _ _, _, _, _ => trivial
def EvOkM (P : Program) (m N : Nat) (D : List Deferred) (β : Type) (run : Slo -> List Root -> xFn β -> Option β) (c : Code) : Prop :=
 ∀ (K : Slo) (h : List Root) (k : xFn β) (r : β), run K h k = some r -> ∀ (S F : List Nat) (W0 : World) (ρ : List Info) (a : Act) (w : World), KOk N D ρ K a -> HOk S F W0 ρ h w -> ∀ Q : Exit -> Act -> World -> Prop,
  (∀ (e : XT) (ρ' : List Info) (K' : Slo) (h' : List Root) (a' : Act) (w' : World), PreM m ρ ρ' -> k e K' h' = some r -> KOk N D ρ' K' a' -> HOk S F W0 ρ' h' w' -> Q e.out a' w') -> c.wp P Q a w
theorem xK6 {β : Type} {x : Code} {body : Nat -> Slo -> List Root -> xFn β -> Option β} (hb : ∀ n, EvOkM P m N D β (body n) x) : ∀ (n : Nat) (K : Slo) (h : List Root) (k : xFn β) (r : β), xDL body n K h k = some r -> ∀ (S F : List Nat) (W0 : World) (ρ : List Info) (a : Act) (w : World), KOk N D ρ K a -> HOk S F W0 ρ h w -> ∀ Q : Exit -> Act -> World -> Prop,
  (∀ (e : XT) (ρ' : List Info) (K' : Slo) (h' : List Root) (a' : Act) (w' : World), PreM m ρ ρ' -> k e K' h' = some r -> KOk N D ρ' K' a' -> HOk S F W0 ρ' h' w' -> Q e.out a' w') -> Code.rounds P x Q n a w
 | 0, K, h, k, r, hr => by cases hr
 | n + 1, K, h, k, r, hr => fun S F W0 ρ a w hK hh Q hn => by
  refine hb n K h _ r hr S F W0 ρ a w hK hh _ (fun e ρ' K' h' a' w' hp he hK' hh' => ?_)
  cases e with
  | normal => exact xK6 hb n K' h' k r he S F W0 ρ' a' w' hK' hh' Q (fun e ρ2 K2 h2 a2 w2 hp2 => hn e ρ2 K2 h2 a2 w2 (hp.trans hp2))
  | exit id => exact hn _ ρ' K' h' a' w' hp he hK' hh'
  | ret => exact hn _ ρ' K' h' a' w' hp he hK' hh'
theorem xES {call : (β : Type) -> xAT β} (hcall : ∀ β, xAS P (call β)) (hm : P.follows .mixedOrders = true) (Fu : Nat) (pl : Nat -> Option PT) : ∀ (d : Nat) (an : An) (c : Code), AnOk P m N an c -> xAU pl c = true -> ∀ β : Type, EvOkM P m N D β (fun K h k => evA P Fu pl call m N d an c β K h k) c
 | 0, an, c, _, _, β => fun K h k r hr => by cases hr
 | d + 1, an, c, hA, hreg, β => fun K h k r hr S F W0 ρ a w hK hh Q hn => by
  have plain : (∀ S o M, an ≠ .loop S o M) -> (match (generalizing := false) c with
   | .skip => k .normal K h
   | .exit id => k (.exit id) K h
   | .ret => k .ret K h
   | .region _ ops false => xFe P N ops (call β) ops.toList K h (k .normal)
   | .region id ops true => match pl id with
    | some t => xK8 P N ops (call β) t K h (k .normal)
    | none => none
   | .seq x y => evA P Fu pl call m N d an.l x β K h (fun e K' h' => match e with
    | .normal => evA P Fu pl call m N d an.r y β K' h' k
    | e => k e K' h')
   | .cond c x y => match xAv K c with
    | some (.c (.sc (.bool b))) => bif b then evA P Fu pl call m N d an.l x β K h k else evA P Fu pl call m N d an.r y β K h k
    | _ => none
   | .block id x => evA P Fu pl call m N d an.l x β K h (fun e K' h' => match e with
    | .exit id' => bif Nat.beq id' id then k .normal K' h' else k (.exit id') K' h'
    | e => k e K' h')
   | .loop x => xDL (fun n K h k => evA P Fu pl call m N d (an.rd (Fu - 1 - n)) x β K h k) Fu K h k
   | _ => none) = some r -> c.wp P Q a w := by
   intro hno hr
   cases c with
   | skip => exact wp_skip (hn .normal ρ K h a w (PreM.refl _ _) hr hK hh)
   | exit id => exact wp_exit (hn (.exit id) ρ K h a w (PreM.refl _ _) hr hK hh)
   | ret => exact wp_ret (hn .ret ρ K h a w (PreM.refl _ _) hr hK hh)
   | region id ops draw =>
    cases draw with
    | false =>
     refine wp_region_list ?_;have := xDM (P := P) (N := N) (ops := ops) (S := S) (F := F) (W0 := W0) (r := r) (hcall β) (Q := Q) [] ops.toList ρ K h a w (k .normal) hr hK hh (fun a' w' hb => by
      obtain ⟨ρ', K', h', h1, h2, h3, h4⟩ := hb;exact wpList_nil (hn .normal ρ' K' h' a' w' h1.m h4 h2 h3))
     simpa using this
    | true =>
     dsimp only at hr;simp only [xAU] at hreg;split at hr
     ·rename_i t ht;rw [ht] at hreg;exact xJO (hcall β) hm hreg hr hK hh (fun ρ' K' h' a' w' h1 h2 h3 h4 => hn .normal ρ' K' h' a' w' h1.m h2 h3 h4)
     ·cases hr
   | seq x y =>
    simp only [xAU, Bool.and_eq_true] at hreg;obtain ⟨hA1, hA2⟩ := hA.seq;refine wp_seq (xES hcall hm Fu pl d an.l x hA1 hreg.1 β K h _ r hr S F W0 ρ a w hK hh _ (fun e ρ' K' h' a' w' hp he hK' hh' => ?_))
    cases e with
    | normal => exact xES hcall hm Fu pl d an.r y hA2 hreg.2 β K' h' k r he S F W0 ρ' a' w' hK' hh' Q (fun e ρ2 K2 h2 a2 w2 hp2 => hn e ρ2 K2 h2 a2 w2 (hp.trans hp2))
    | exit id => exact hn _ ρ' K' h' a' w' hp he hK' hh'
    | ret => exact hn _ ρ' K' h' a' w' hp he hK' hh'
   | cond c x y =>
    simp only [xAU, Bool.and_eq_true] at hreg;obtain ⟨hA1, hA2⟩ := hA.cond;dsimp only at hr;split at hr
    ·rename_i b hc;have hb : a.eval c = .bool b := (xAa hK hc).1
     cases b with
     | true => exact wp_cond_true hb (xES hcall hm Fu pl d an.l x hA1 hreg.1 β K h k r hr S F W0 ρ a w hK hh Q hn)
     | false => exact wp_cond_false hb (xES hcall hm Fu pl d an.r y hA2 hreg.2 β K h k r hr S F W0 ρ a w hK hh Q hn)
    ·cases hr
   | block id x =>
    refine wp_block (xES hcall hm Fu pl d an.l x hA.block hreg β K h _ r hr S F W0 ρ a w hK hh _ (fun e ρ' K' h' a' w' hp he hK' hh' => ?_))
    cases e with
    | normal => exact hn .normal ρ' K' h' a' w' hp he hK' hh'
    | exit id' =>
     show Exit.inBlock id Q (.exit id') a' w';dsimp only at he
     cases hb : Nat.beq id' id with
     | true =>
      rw [hb] at he;have := nbT hb;subst this;show (if id' = id' then Q .normal a' w' else Q (.exit id') a' w');rw [if_pos rfl];exact hn .normal ρ' K' h' a' w' hp he hK' hh'
     | false =>
      rw [hb] at he;have hne := Nat.ne_of_beq_eq_false hb;show (if id' = id then Q .normal a' w' else Q (.exit id') a' w');rw [if_neg hne];exact hn (.exit id') ρ' K' h' a' w' hp he hK' hh'
    | ret => exact hn .ret ρ' K' h' a' w' hp he hK' hh'
   | loop x =>
    exact wp_loop_rounds Fu (xK6 (fun n => xES hcall hm Fu pl d (an.rd (Fu - 1 - n)) x (hA.loop hno (Fu - 1 - n)) hreg β) Fu K h k r hr S F W0 ρ a w hK hh Q hn)
   | rangeFunc f p x y => cases hr
   | scope x => cases hr
   | label l => cases hr
   | goto l => cases hr
   | refuse s => cases hr
  dsimp only [evA] at hr
  cases an with
  | no =>
   dsimp only at hr;exact plain (fun _ _ _ e => by cases e) hr
  | two x y =>
   dsimp only at hr;exact plain (fun _ _ _ e => by cases e) hr
  | one x =>
   dsimp only at hr;exact plain (fun _ _ _ e => by cases e) hr
  | rnd x y =>
   dsimp only at hr;exact plain (fun _ _ _ e => by cases e) hr
  | join o x =>
   obtain ⟨y, hy, hk⟩ := xDh hr;rw [xD9] at hk;refine xES hcall hm Fu pl d x c hA hreg (xAK o) K h (xBt m o) y hy S F W0 ρ a w hK hh Q (fun e ρ' K' h' a' w' hp he hK' hh' => ?_);obtain ⟨h1, ι, h2, h3, h4⟩ := xBF he hK' hh';rw [<- h1];exact hn _ ι _ _ a' w' (hp.trans h2) hk h3 h4
  | loop T o M =>
   cases c with
   | loop x =>
    dsimp only at hr;split at hr
    ·rename_i s hs;obtain ⟨y, hy, hk⟩ := xDh hr;rw [xD9] at hk;obtain ⟨ι, h2, h3, h4⟩ := Sch.dec_ok hs hK hh;obtain ⟨n, h5⟩ := hA s y hy D S F W0 ι a w h3 h4 Q (fun ι' a' w' hp hK' hh' => hn _ ι' _ _ a' w' (h2.trans hp) hk hK' hh');exact wp_loop_rounds n h5
    ·cases hr
   | _ => cases hr
  | rng T o κ agg τ B E =>
   dsimp only at hr;simp only [AnOk] at hA;split at hr
   ·rename_i R hR;rw [hR] at hA
    cases hN : Nat.ble (R.ti + 1) N with
    | false => rw [hN] at hr; cases hr
    | true =>
     rw [hN] at hr;exact rng_use hR hN (hcall β) hA hr hK hh hn
   ·cases hr
theorem loop_ok {call : (β : Type) -> xAT β} (hcall : ∀ β, xAS P (call β)) (hm : P.follows .mixedOrders = true) {Fu : Nat} {pl : Nat -> Option PT} {d : Nat} {an : An} {x : Code} (hA : AnOk P m N an x) (hreg : xAU pl x = true) {S : Sch} {o : xBO} {M : Nat -> S.ty -> Option (xAK o)} (h0 : ∀ s, M 0 s = none)
  (hs : ∀ (n : Nat) (s : S.ty), M (n + 1) s = evA P Fu pl call m N d an x (xAK o) (xA2 same S.slots (S.a s)) (xAn same S.roots (S.b s)) (fun e K h => match e with
   | .normal => ob (S.dec m K h) (fun s' => M n s')
   | e => xBt m o e K h)) : ∀ n, xAW P m N x S o (M n) := by
 have main : ∀ (n : Nat) (s : S.ty) (y : xAK o), M n s = some y -> ∀ (D : List Deferred) (S' F : List Nat) (W0 : World) (ι : List Info) (a : Act) (w : World), KOk N D ι (xA2 same S.slots (S.a s)) a -> HOk S' F W0 ι (xAn same S.roots (S.b s)) w -> ∀ Q : Exit -> Act -> World -> Prop,
  (∀ (ι' : List Info) (a' : Act) (w' : World), PreM m ι ι' -> KOk N D ι' (xAY o y).2.1 a' -> HOk S' F W0 ι' (xAY o y).2.2 w' -> Q (xAY o y).1.out a' w') -> Code.rounds P x Q n a w := by
  intro n
  induction n with
  | zero => intro s y hy; rw [h0] at hy; cases hy
  | succ n ih =>
   intro s y hy D S' F W0 ι a w hK hh Q hn;rw [hs] at hy;refine xES hcall hm Fu pl d an x hA hreg (xAK o) _ _ _ y hy S' F W0 ι a w hK hh _ (fun e ρ' K' h' a' w' hp he hK' hh' => ?_)
   cases e with
   | normal =>
    obtain ⟨s', h1, h2⟩ := xDh he;obtain ⟨ι', h3, h4, h5⟩ := Sch.dec_ok h1 hK' hh';exact ih s' y h2 D S' F W0 ι' a' w' h4 h5 Q (fun ι2 a2 w2 hp2 => hn ι2 a2 w2 (hp.trans (h3.trans hp2)))
   | exit id =>
    obtain ⟨h1, ι', h2, h3, h4⟩ := xBF he hK' hh';have := hn ι' a' w' (hp.trans h2) h3 h4;rw [h1] at this;exact this
   | ret =>
    obtain ⟨h1, ι', h2, h3, h4⟩ := xBF he hK' hh';have := hn ι' a' w' (hp.trans h2) h3 h4;rw [h1] at this;exact this
 exact fun n s y hy D S' F W0 ι a w hK hh Q hn => ⟨n, main n s y hy D S' F W0 ι a w hK hh Q hn⟩
end
end
end Go.Proofs.YtnomnijhlbalaaaGreatDoor
