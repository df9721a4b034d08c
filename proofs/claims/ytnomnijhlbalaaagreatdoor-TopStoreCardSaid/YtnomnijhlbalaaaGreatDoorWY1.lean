/- A part of the proof of the theorem of the last file. No condition. By an AI agent. -/
import Derived.Test.YtnomnijhlbalaaaGreatDoorWZX
namespace Go.Proofs.YtnomnijhlbalaaaGreatDoor
noncomputable section
open Go.RowKit
inductive Kd where
 | sl (j k : Nat)
 | so (j k : Nat)
 | sp (j k : Nat)
 | sf (j k n : Nat)
 | pt (j k row c : Nat)
 | pr (j k c : Nat)
 | hv (j : Nat)
 | lit (v : Value)
 | any
@[reducible] def Kd.ty : Kd -> Type
 | .so _ _ => Nat
 | .sp _ _ => Nat × Nat
 | .pr _ _ _ => Nat
 | _ => Unit
def Kd.hasD : Kd -> Bool
 | .so _ _ => true
 | .sp _ _ => true
 | .pr _ _ _ => true
 | _ => false
def Kd.dflt : (V : Kd) -> V.ty
 | .so _ _ => (0 : Nat)
 | .sp _ _ => ((0, 0) : Nat × Nat)
 | .pr _ _ _ => (0 : Nat)
 | .sl _ _ => ()
 | .sf _ _ _ => ()
 | .pt _ _ _ _ => ()
 | .hv _ => ()
 | .lit _ => ()
 | .any => ()
@[reducible] def pTy (a b : Bool) (A B : Type) : Type :=
 match a, b with
 | false, _ => B
 | true, false => A
 | true, true => A × B
def pf {A B : Type} (d : A) : (a b : Bool) -> pTy a b A B -> A
 | false, _, _ => d
 | true, false, x => x
 | true, true, x => x.1
def ps {A B : Type} (d : B) : (a b : Bool) -> pTy a b A B -> B
 | false, _, x => x
 | true, false, _ => d
 | true, true, x => x.2
def pm {A B : Type} : (a b : Bool) -> A -> B -> pTy a b A B
 | false, _, _, y => y
 | true, false, x, _ => x
 | true, true, x, y => (x, y)
inductive Sg where
 | t (U : TC)
 | k (V : Kd)
@[reducible] def Sg.ty : Sg -> Type
 | .t U => U.ty
 | .k V => V.ty
def Sg.hasD : Sg -> Bool
 | .t _ => true
 | .k V => V.hasD
def Sg.dflt : (g : Sg) -> g.ty
 | .t U => U.dflt
 | .k V => V.dflt
def gsD : List Sg -> Bool
 | [] => false
 | g :: l => g.hasD || gsD l
@[reducible] def xNL : List Sg -> Type
 | [] => Unit
 | g :: l => pTy g.hasD (gsD l) g.ty (xNL l)
def xJc : (l : List Sg) -> xNL l
 | [] => ()
 | g :: l => pm g.hasD (gsD l) g.dflt (xJc l)
inductive PK where
 | c (g : Sg)
 | ag (l : List Sg)
@[reducible] def PK.ty : PK -> Type
 | .c g => g.ty
 | .ag l => xNL l
def PK.hasD : PK -> Bool
 | .c g => g.hasD
 | .ag l => gsD l
def PK.dflt : (p : PK) -> p.ty
 | .c g => g.dflt
 | .ag l => xJc l
def slD : List (Nat × PK) -> Bool
 | [] => false
 | p :: l => p.2.hasD || slD l
@[reducible] def xNZ : List (Nat × PK) -> Type
 | [] => Unit
 | p :: l => pTy p.2.hasD (slD l) p.2.ty (xNZ l)
def xWy : (l : List (Nat × PK)) -> xNZ l
 | [] => ()
 | p :: l => pm p.2.hasD (slD l) p.2.dflt (xWy l)
inductive RK where
 | dead
 | ro (U : TC)
 | rows (T : TypeId) (U : TC)
 | blk (T : TypeId) (l : List Sg)
 | clo (f : FuncId) (a b : List Sg)
 | mp (V : KK) (agg : Bool) (U : TC)
 | ars (t : Nat) (T : TypeId) (U : TC)
 | aro (t : Nat) (T : TypeId) (U : TC)
 | arm (t : Nat) (V : KK) (agg : Bool) (U : TC)
 | arr (t : Nat) (U : TC)
@[reducible] def RK.ty : RK -> Type
 | .dead => Unit
 | .ro U => List U.ty
 | .rows _ U => List U.ty
 | .blk _ l => xNL l
 | .clo _ a b => pTy (gsD a) (gsD b) (xNL a) (xNL b)
 | .mp V _ U => List (V.ty × U.ty)
 | .ars _ _ U => List (Option (List U.ty))
 | .aro _ _ U => List U.ty
 | .arm _ V _ U => List (Option (List (V.ty × U.ty)))
 | .arr _ U => List (List U.ty)
def RK.hasD : RK -> Bool
 | .dead => false
 | .ro _ => true
 | .rows _ _ => true
 | .blk _ l => gsD l
 | .clo _ a b => gsD a || gsD b
 | _ => true
def RK.dflt : (r : RK) -> r.ty
 | .dead => ()
 | .ro _ => []
 | .rows _ _ => []
 | .blk _ l => xJc l
 | .clo _ a b => pm (gsD a) (gsD b) (xJc a) (xJc b)
 | .mp _ _ _ => ([] : List _)
 | .ars _ _ _ => ([] : List _)
 | .aro _ _ _ => ([] : List _)
 | .arm _ _ _ _ => ([] : List _)
 | .arr _ _ => ([] : List _)
def TC.tags : TC -> List Nat
 | .rf _ t => [t]
 | .pair a b => a.tags ++ b.tags
 | _ => []
def Sg.tags : Sg -> List Nat
 | .t U => U.tags
 | .k _ => []
def xG0 (l : List Sg) : List Nat := l.flatMap Sg.tags
def PK.tags : PK -> List Nat
 | .c g => g.tags
 | .ag l => xG0 l
def RK.tags : RK -> List Nat
 | .dead => []
 | .ro U => U.tags
 | .rows _ U => U.tags
 | .blk _ l => xG0 l
 | .clo _ a b => xG0 a ++ xG0 b
 | .mp _ _ U => U.tags
 | .ars _ _ U => U.tags
 | .aro _ _ U => U.tags
 | .arm _ _ _ U => U.tags
 | .arr _ U => U.tags
def RK.tag : RK -> Option Nat
 | .ars t _ _ => some t
 | .aro t _ _ => some t
 | .arm t _ _ _ => some t
 | .arr t _ => some t
 | _ => none
def xH7 (l : List (Nat × PK)) : List Nat := l.flatMap (fun p => p.2.tags)
def xC6 (l : List RK) : List Nat := l.flatMap RK.tags
def xAI (ts : List Nat) (l : List RK) : Bool := ts.all (fun t => l.any (fun r => match r.tag with
 | some t' => Nat.beq t t'
 | none => false))
def rsD : List RK -> Bool
 | [] => false
 | r :: l => r.hasD || rsD l
@[reducible] def xF8 : List RK -> Type
 | [] => Unit
 | r :: l => pTy r.hasD (rsD l) r.ty (xF8 l)
def rsDf : (l : List RK) -> xF8 l
 | [] => ()
 | r :: l => pm r.hasD (rsD l) r.dflt (rsDf l)
structure Sch where
 slots : List (Nat × PK)
 roots : List RK
@[reducible] def Sch.ty (s : Sch) : Type := pTy (slD s.slots) (rsD s.roots) (xNZ s.slots) (xF8 s.roots)
def Sch.a (s : Sch) (x : s.ty) : xNZ s.slots := pf (xWy s.slots) (slD s.slots) (rsD s.roots) x
def Sch.b (s : Sch) (x : s.ty) : xF8 s.roots := ps (rsDf s.roots) (slD s.slots) (rsD s.roots) x
def Kd.enc (ids : Nat -> Nat) : (V : Kd) -> V.ty -> CV
 | .sl j k, _ => .sl (ids j) k 0 none none
 | .so j k, off => .sl (ids j) k off none none
 | .sf j k n, _ => .sl (ids j) k 0 (some n) (some n)
 | .sp j k, (off, n) => .sl (ids j) k off (some n) none
 | .pt j k row c, _ => .pt (ids j) k row c
 | .pr j k c, row => .pt (ids j) k row c
 | .hv j, _ => .hv (ids j)
 | .lit v, _ => .sc v
 | .any, _ => .any
def Sg.enc (ids : Nat -> Nat) : (g : Sg) -> g.ty -> List CV
 | .t U, x => U.enc x
 | .k V, x => [V.enc ids x]
def xBW (ids : Nat -> Nat) : (l : List Sg) -> xNL l -> List CV
 | [], _ => []
 | g :: l, x => g.enc ids (pf g.dflt g.hasD (gsD l) x) ++ xBW ids l (ps (xJc l) g.hasD (gsD l) x)
def xXn : List CV -> CV
 | [] => .sc (.bool false)
 | c :: _ => c
def PK.enc (ids : Nat -> Nat) : (p : PK) -> p.ty -> PV
 | .c (.t U), x => .c (xXn (U.enc x))
 | .c (.k V), x => .c (V.enc ids x)
 | .ag l, x => .ag (xBW ids l x)
def xAM (ids : Nat -> Nat) : (l : List (Nat × PK)) -> xNZ l -> Slo
 | [], _ => .nil
 | p :: l, x => xDF (xAM ids l (ps (xWy l) p.2.hasD (slD l) x)) p.1 (p.2.enc ids (pf p.2.dflt p.2.hasD (slD l) x))
def RK.enc (ids : Nat -> Nat) : (r : RK) -> r.ty -> Root
 | .dead, _ => .dead
 | .ro U, xs => .ro U xs
 | .rows T U, xs => .rows T U xs
 | .blk T l, x => .blk (xBW ids l x) T
 | .clo f a b, x => .clo f (xBW ids a (pf (xJc a) (gsD a) (gsD b) x)) (xBW ids b (ps (xJc b) (gsD a) (gsD b) x))
 | .mp V agg U, ts => .mp V agg U ts
 | .ars t T U, os => .ars t T U os
 | .aro t T U, os => .aro t T U os
 | .arm t V agg U, os => .arm t V agg U os
 | .arr t U, os => .arr t U os
def xAe (ids : Nat -> Nat) : (l : List RK) -> xF8 l -> List Root
 | [], _ => []
 | r :: l, x => r.enc ids (pf r.dflt r.hasD (rsD l) x) :: xAe ids l (ps (rsDf l) r.hasD (rsD l) x)
@[reducible] def same (j : Nat) : Nat := j
abbrev Rn := List (Option (Option Nat))
def castMO {V V' : KK} {U U' : TC} (e1 : V = V') (e2 : U = U') (os : List (Option (List (V.ty × U.ty)))) : List (Option (List (V'.ty × U'.ty))) := e1 ▸ e2 ▸ os
def xHj (rn : Rn) (j : Nat) (x : Option Nat) : Option Rn :=
 match rn[j]? with
 | some none => some (rn.set j (some x))
 | some (some y) => match x, y with
  | none, none => some rn
  | some a, some b => bif Nat.beq a b then some rn else none
  | _, _ => none
 | none => none
def xXb : Value -> Value -> Bool
 | .pointer none, .pointer none => true
 | .slice none 0 0, .slice none 0 0 => true
 | .map none, .map none => true
 | .func (.func f) ⟨[]⟩ ⟨[]⟩, .func (.func g) ⟨[]⟩ ⟨[]⟩ => Nat.beq f g
 | .int k a, .int k' b => Nat.beq (kix k) (kix k') && (a == b)
 | .bool a, .bool b => a == b
 | .string a, .string b => a.data.toList == b.data.toList
 | _, _ => false
def Kd.dec (rn : Rn) : (V : Kd) -> CV -> Option (V.ty × Rn)
 | .sl j k, x => match x with
  | .sl id k' off n c => match off, n, c with
   | 0, none, none => bif Nat.beq k k' then (match xHj rn j (some id) with
    | some rn' => some ((), rn')
    | none => none) else none
   | _, _, _ => none
  | .sc (.slice none 0 0) => match xHj rn j none with
   | some rn' => some ((), rn')
   | none => none
  | _ => none
 | .sf j k n, x => match x with
  | .sl id k' off m c => match off, m, c with
   | 0, some m, some c => bif Nat.beq k k' && Nat.beq n m && Nat.beq n c then (match xHj rn j (some id) with
    | some rn' => some ((), rn')
    | none => none) else none
   | _, _, _ => none
  | _ => none
 | .so j k, x => match x with
  | .sl id k' off n c => match n, c with
   | none, none => bif Nat.beq k k' then (match xHj rn j (some id) with
    | some rn' => some (off, rn')
    | none => none) else none
   | _, _ => none
  | .sc (.slice none 0 0) => match xHj rn j none with
   | some rn' => some (0, rn')
   | none => none
  | _ => none
 | .sp j k, x => match x with
  | .sl id k' off n c => match n, c with
   | some n, none => bif Nat.beq k k' then (match xHj rn j (some id) with
    | some rn' => some ((off, n), rn')
    | none => none) else none
   | _, _ => none
  | _ => none
 | .pt j k row c, x => match x with
  | .pt id k' row' c' => bif Nat.beq k k' && Nat.beq row row' && Nat.beq c c' then (match xHj rn j (some id) with
   | some rn' => some ((), rn')
   | none => none) else none
  | _ => none
 | .pr j k c, x => match x with
  | .pt id k' row c' => bif Nat.beq k k' && Nat.beq c c' then (match xHj rn j (some id) with
   | some rn' => some (row, rn')
   | none => none) else none
  | _ => none
 | .hv j, x => match x with
  | .hv id => match xHj rn j (some id) with
   | some rn' => some ((), rn')
   | none => none
  | _ => none
 | .lit v, x => match x with
  | .sc u => bif xXb v u then some ((), rn) else none
  | _ => none
 | .any, x => match x with
  | .sc _ => some ((), rn)
  | .any => some ((), rn)
  | _ => none
def Sg.dec (rn : Rn) : (g : Sg) -> List CV -> Option (g.ty × Rn × List CV)
 | .t U, l => match U.dec l with
  | some (x, r) => bif xAy U then none else some (x, rn, r)
  | none => none
 | .k V, l => match l with
  | c :: r => match V.dec rn c with
   | some (x, rn') => some (x, rn', r)
   | none => none
  | [] => none
def xLc (rn : Rn) : (l : List Sg) -> List CV -> Option (xNL l × Rn)
 | [], cs => match cs with
  | [] => some ((), rn)
  | _ :: _ => none
 | g :: l, cs => match g.dec rn cs with
  | some (x, rn', r) => match xLc rn' l r with
   | some (y, rn2) => some (pm g.hasD (gsD l) x y, rn2)
   | none => none
  | none => none
def PK.dec (rn : Rn) : (p : PK) -> PV -> Option (p.ty × Rn)
 | .c g, v => match v with
  | .c x => match g.dec rn [x] with
   | some (y, rn', []) => some (y, rn')
   | _ => none
  | _ => none
 | .ag l, v => match v with
  | .ag cs => xLc rn l cs
  | _ => none
def xSW (rn : Rn) (K : Slo) : (l : List (Nat × PK)) -> Option (xNZ l × Rn)
 | [] => some ((), rn)
 | p :: l => match xSW rn K l with
  | some (y, rn') => match lkP K p.1 with
   | some v => match p.2.dec rn' v with
    | some (x, rn2) => some (pm p.2.hasD (slD l) x y, rn2)
    | none => none
   | none => none
  | none => none
def xXJ {U' U : TC} (e : xFv U' U = true) (xs : List U'.ty) : List U.ty := xAz e ▸ xs
def castG {U' U : TC} (F : TC -> Type) (e : xFv U' U = true) (x : F U') : F U := xAz e ▸ x
def RK.dec (rn : Rn) : (r : RK) -> Root -> Option (r.ty × Rn)
 | .dead, _ => some ((), rn)
 | .ro U, x => bif xAy U then none else match x with
  | .rows _ U' xs => if e : xFv U' U = true then some (xXJ e xs, rn) else none
  | .ro U' xs => if e : xFv U' U = true then some (xXJ e xs, rn) else none
  | _ => none
 | .rows T U, x => bif xAy U then none else match x with
  | .rows T' U' xs => bif Nat.beq T T' then (if e : xFv U' U = true then some (xXJ e xs, rn) else none) else none
  | _ => none
 | .blk T l, x => match x with
  | .blk cs T' => bif Nat.beq T T' then xLc rn l cs else none
  | _ => none
 | .clo f a b, x => match x with
  | .clo f' as1 bs => bif Nat.beq f f' then (match xLc rn a as1 with
   | some (y, rn') => match xLc rn' b bs with
    | some (z, rn2) => some (pm (gsD a) (gsD b) y z, rn2)
    | none => none
   | none => none) else none
  | _ => none
 | .mp V agg U, x => bif xAy U then none else match x with
  | .mp V' agg' U' ts => bif agg == agg' then (if e0 : kkEq V' V = true then (if e : xFv U' U = true then some (xRQ (xCq e0) (xAz e) ts, rn) else none) else none) else none
  | _ => none
 | .ars t T U, x => bif xAy U then none else match x with
  | .ars t' T' U' os => bif Nat.beq t t' && Nat.beq T T' then (if e : xFv U' U = true then some (castG (fun U => List (Option (List U.ty))) e os, rn) else none) else none
  | _ => none
 | .aro t T U, x => bif xAy U then none else match x with
  | .aro t' T' U' os => bif Nat.beq t t' && Nat.beq T T' then (if e : xFv U' U = true then some (xXJ e os, rn) else none) else none
  | _ => none
 | .arm t V agg U, x => bif xAy U then none else match x with
  | .arm t' V' agg' U' os => bif Nat.beq t t' && (agg == agg') then (if e0 : kkEq V' V = true then (if e : xFv U' U = true then some (castMO (xCq e0) (xAz e) os, rn) else none) else none) else none
  | _ => none
 | .arr t U, x => bif xAy U then none else match x with
  | .arr t' U' os => bif Nat.beq t t' then (if e : xFv U' U = true then some (castG (fun U => List (List U.ty)) e os, rn) else none) else none
  | _ => none
def RK.nil : (r : RK) -> Option r.ty
 | .dead => some ()
 | .ro U => bif xAy U then none else some []
 | .rows _ U => bif xAy U then none else bif Nat.beq U.w 0 then none else some []
 | _ => none
def RK.gone : (r : RK) -> Option r.ty
 | .dead => some ()
 | _ => none
def xGg (rn : Rn) (h : List Root) : (l : List RK) -> Nat -> Option (xF8 l × Rn)
 | [], _ => some ((), rn)
 | r :: l, j => match (match rn[j]? with
   | some (some (some id)) => (match h[id]? with
    | some x => r.dec rn x
    | none => none)
   | some (some none) => (match r.nil with
    | some x => some (x, rn)
    | none => none)
   | _ => (match r.gone with
    | some x => some (x, rn)
    | none => none)) with
  | some (x, rn') => match xGg rn' h l (j + 1) with
   | some (y, rn2) => some (pm r.hasD (rsD l) x y, rn2)
   | none => none
  | none => none
def rn0 : (m len j : Nat) -> Rn
 | _, 0, _ => []
 | 0, len + 1, j => none :: rn0 0 len (j + 1)
 | m + 1, len + 1, j => some (some j) :: rn0 m len (j + 1)
def idIn (id : Nat) : Rn -> Bool
 | [] => false
 | x :: rn => (match x with
  | some (some id') => Nat.beq id id'
  | _ => false) || idIn id rn
def xEY : Rn -> Bool
 | [] => true
 | x :: rn => (match x with
  | some (some id) => !idIn id rn
  | _ => true) && xEY rn
def xIw : List RK -> Rn -> Rn
 | k :: l, x :: rn => (match k with
  | .dead => none
  | _ => x) :: xIw l rn
 | _, _ => []
def xFn (h : List Root) : List RK -> Nat -> Rn -> Option Rn
 | [], _, rn => some rn
 | r :: l, j, rn => match r.tag with
  | none => xFn h l (j + 1) rn
  | some t => match rn[j]? with
   | some none => match xAZ t h 0 with
    | some (id, _) => match xHj rn j (some id) with
     | some rn' => xFn h l (j + 1) rn'
     | none => none
    | none => none
   | some (some _) => xFn h l (j + 1) rn
   | none => none
def Sch.decR (s : Sch) (rn : Rn) (K : Slo) (h : List Root) : Option (s.ty × Rn) :=
 match xFn h s.roots 0 rn with
 | some rn => match xSW rn K s.slots with
  | some (x, rn') => match xGg rn' h s.roots 0 with
   | some (y, rn2) => bif xEY (xIw s.roots rn2) && Nat.beq rn2.length s.roots.length && xAI (xH7 s.slots ++ xC6 s.roots) s.roots then some (pm (slD s.slots) (rsD s.roots) x y, rn2) else none
   | none => none
  | none => none
 | none => none
end
end Go.Proofs.YtnomnijhlbalaaaGreatDoor
