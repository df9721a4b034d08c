/- What is known at a place of a code, as data of a fixed form: read off slots and memory, and laid again. No condition. -/
import Derived.Test.YthmicafabimfkaaGreatDoorWZX

namespace Go.Proofs.YthmicafabimfkaaGreatDoor
noncomputable section
open Go.RowKit
/-! Forms -/
/-- One cell that refers to a root, or is fixed. -/
inductive Kd where
 | sl (j k : Nat)
 | so (j k : Nat)
 | sp (j k : Nat)
 | pt (j k row c : Nat)
 | pr (j k c : Nat)
 | hv (j : Nat)
 | lit (v : Value)
@[reducible] def Kd.ty : Kd -> Type
 | .so _ _ => Nat
 | .sp _ _ => Nat × Nat
 | .pr _ _ _ => Nat
 | _ => Unit
def Kd.hasD : Kd -> Bool
 | .so _ _ => true
 | .sp _ _ => true
 | .pr _ _ _ => true
 | _ => false
def Kd.dflt : (κ : Kd) -> κ.ty
 | .so _ _ => (0 : Nat)
 | .sp _ _ => ((0, 0) : Nat × Nat)
 | .pr _ _ _ => (0 : Nat)
 | .sl _ _ => ()
 | .pt _ _ _ _ => ()
 | .hv _ => ()
 | .lit _ => ()
/-! Pairs of which a side without data is left out -/
@[reducible] def pTy (a b : Bool) (A B : Type) : Type :=
 match a, b with
 | false, _ => B
 | true, false => A
 | true, true => A × B
def pf {A B : Type} (d : A) : (a b : Bool) -> pTy a b A B -> A
 | false, _, _ => d
 | true, false, x => x
 | true, true, x => x.1
def ps {A B : Type} (d : B) : (a b : Bool) -> pTy a b A B -> B
 | false, _, x => x
 | true, false, _ => d
 | true, true, x => x.2
def pm {A B : Type} : (a b : Bool) -> A -> B -> pTy a b A B
 | false, _, _, y => y
 | true, false, x, _ => x
 | true, true, x, y => (x, y)
/-- Cells of a type, or one cell that refers. -/
inductive Sg where
 | t (τ : TC)
 | k (κ : Kd)
@[reducible] def Sg.ty : Sg -> Type
 | .t τ => τ.ty
 | .k κ => κ.ty
def Sg.hasD : Sg -> Bool
 | .t _ => true
 | .k κ => κ.hasD
def Sg.dflt : (g : Sg) -> g.ty
 | .t τ => τ.dflt
 | .k κ => κ.dflt
def gsD : List Sg -> Bool
 | [] => false
 | g :: l => g.hasD || gsD l
@[reducible] def xNk : List Sg -> Type
 | [] => Unit
 | g :: l => pTy g.hasD (gsD l) g.ty (xNk l)
def xJi : (l : List Sg) -> xNk l
 | [] => ()
 | g :: l => pm g.hasD (gsD l) g.dflt (xJi l)
/-- A slot. -/
inductive PK where
 | c (g : Sg)
 | ag (l : List Sg)
@[reducible] def PK.ty : PK -> Type
 | .c g => g.ty
 | .ag l => xNk l
def PK.hasD : PK -> Bool
 | .c g => g.hasD
 | .ag l => gsD l
def PK.dflt : (p : PK) -> p.ty
 | .c g => g.dflt
 | .ag l => xJi l
def slD : List (Nat × PK) -> Bool
 | [] => false
 | p :: l => p.2.hasD || slD l
@[reducible] def xNu : List (Nat × PK) -> Type
 | [] => Unit
 | p :: l => pTy p.2.hasD (slD l) p.2.ty (xNu l)
def xVj : (l : List (Nat × PK)) -> xNu l
 | [] => ()
 | p :: l => pm p.2.hasD (slD l) p.2.dflt (xVj l)
/-- A root. -/
inductive RK where
 | dead
 | ro (τ : TC)
 | rows (T : TypeId) (τ : TC)
 | blk (T : TypeId) (l : List Sg)
 | clo (f : FuncId) (a b : List Sg)
 | mp (κ : KK) (agg : Bool) (τ : TC)
 | ars (t : Nat) (T : TypeId) (τ : TC)
 | aro (t : Nat) (T : TypeId) (τ : TC)
 | arm (t : Nat) (κ : KK) (agg : Bool) (τ : TC)
 | arr (t : Nat) (τ : TC)
@[reducible] def RK.ty : RK -> Type
 | .dead => Unit
 | .ro τ => List τ.ty
 | .rows _ τ => List τ.ty
 | .blk _ l => xNk l
 | .clo _ a b => pTy (gsD a) (gsD b) (xNk a) (xNk b)
 | .mp κ _ τ => List (κ.ty × τ.ty)
 | .ars _ _ τ => List (Option (List τ.ty))
 | .aro _ _ τ => List τ.ty
 | .arm _ κ _ τ => List (Option (List (κ.ty × τ.ty)))
 | .arr _ τ => List (List τ.ty)
def RK.hasD : RK -> Bool
 | .dead => false
 | .ro _ => true
 | .rows _ _ => true
 | .blk _ l => gsD l
 | .clo _ a b => gsD a || gsD b
 | _ => true
def RK.dflt : (r : RK) -> r.ty
 | .dead => ()
 | .ro _ => []
 | .rows _ _ => []
 | .blk _ l => xJi l
 | .clo _ a b => pm (gsD a) (gsD b) (xJi a) (xJi b)
 | .mp _ _ _ => ([] : List _)
 | .ars _ _ _ => ([] : List _)
 | .aro _ _ _ => ([] : List _)
 | .arm _ _ _ _ => ([] : List _)
 | .arr _ _ => ([] : List _)
/-- The arenas that are named. -/
def TC.tags : TC -> List Nat
 | .rf _ t => [t]
 | .pair a b => a.tags ++ b.tags
 | _ => []
def Sg.tags : Sg -> List Nat
 | .t τ => τ.tags
 | .k _ => []
def xGY (l : List Sg) : List Nat := l.flatMap Sg.tags
def PK.tags : PK -> List Nat
 | .c g => g.tags
 | .ag l => xGY l
def RK.tags : RK -> List Nat
 | .dead => []
 | .ro τ => τ.tags
 | .rows _ τ => τ.tags
 | .blk _ l => xGY l
 | .clo _ a b => xGY a ++ xGY b
 | .mp _ _ τ => τ.tags
 | .ars _ _ τ => τ.tags
 | .aro _ _ τ => τ.tags
 | .arm _ _ _ τ => τ.tags
 | .arr _ τ => τ.tags
def RK.tag : RK -> Option Nat
 | .ars t _ _ => some t
 | .aro t _ _ => some t
 | .arm t _ _ _ => some t
 | .arr t _ => some t
 | _ => none
def xHV (l : List (Nat × PK)) : List Nat := l.flatMap (fun p => p.2.tags)
def xCT (l : List RK) : List Nat := l.flatMap RK.tags
/-- Each arena that is named is there. -/
def xAP (ts : List Nat) (l : List RK) : Bool := ts.all (fun t => l.any (fun r => match r.tag with
 | some t' => Nat.beq t t'
 | none => false))
def rsD : List RK -> Bool
 | [] => false
 | r :: l => r.hasD || rsD l
@[reducible] def xF3 : List RK -> Type
 | [] => Unit
 | r :: l => pTy r.hasD (rsD l) r.ty (xF3 l)
def rsDf : (l : List RK) -> xF3 l
 | [] => ()
 | r :: l => pm r.hasD (rsD l) r.dflt (rsDf l)
structure Sch where
 slots : List (Nat × PK)
 roots : List RK
@[reducible] def Sch.ty (s : Sch) : Type := pTy (slD s.slots) (rsD s.roots) (xNu s.slots) (xF3 s.roots)
def Sch.a (s : Sch) (x : s.ty) : xNu s.slots := pf (xVj s.slots) (slD s.slots) (rsD s.roots) x
def Sch.b (s : Sch) (x : s.ty) : xF3 s.roots := ps (rsDf s.roots) (slD s.slots) (rsD s.roots) x
/-! Laying -/
def Kd.enc (ids : Nat -> Nat) : (κ : Kd) -> κ.ty -> CV
 | .sl j k, _ => .sl (ids j) k 0 none none
 | .so j k, off => .sl (ids j) k off none none
 | .sp j k, (off, n) => .sl (ids j) k off (some n) none
 | .pt j k row c, _ => .pt (ids j) k row c
 | .pr j k c, row => .pt (ids j) k row c
 | .hv j, _ => .hv (ids j)
 | .lit v, _ => .sc v
def Sg.enc (ids : Nat -> Nat) : (g : Sg) -> g.ty -> List CV
 | .t τ, x => τ.enc x
 | .k κ, x => [κ.enc ids x]
def xBX (ids : Nat -> Nat) : (l : List Sg) -> xNk l -> List CV
 | [], _ => []
 | g :: l, x => g.enc ids (pf g.dflt g.hasD (gsD l) x) ++ xBX ids l (ps (xJi l) g.hasD (gsD l) x)
def xTe : List CV -> CV
 | [] => .sc (.bool false)
 | c :: _ => c
def PK.enc (ids : Nat -> Nat) : (p : PK) -> p.ty -> PV
 | .c (.t τ), x => .c (xTe (τ.enc x))
 | .c (.k κ), x => .c (κ.enc ids x)
 | .ag l, x => .ag (xBX ids l x)
def xAX (ids : Nat -> Nat) : (l : List (Nat × PK)) -> xNu l -> Slo
 | [], _ => .nil
 | p :: l, x => xDj (xAX ids l (ps (xVj l) p.2.hasD (slD l) x)) p.1 (p.2.enc ids (pf p.2.dflt p.2.hasD (slD l) x))
def RK.enc (ids : Nat -> Nat) : (r : RK) -> r.ty -> Root
 | .dead, _ => .dead
 | .ro τ, xs => .ro τ xs
 | .rows T τ, xs => .rows T τ xs
 | .blk T l, x => .blk (xBX ids l x) T
 | .clo f a b, x => .clo f (xBX ids a (pf (xJi a) (gsD a) (gsD b) x)) (xBX ids b (ps (xJi b) (gsD a) (gsD b) x))
 | .mp κ agg τ, ts => .mp κ agg τ ts
 | .ars t T τ, os => .ars t T τ os
 | .aro t T τ, os => .aro t T τ os
 | .arm t κ agg τ, os => .arm t κ agg τ os
 | .arr t τ, os => .arr t τ os
def xAm (ids : Nat -> Nat) : (l : List RK) -> xF3 l -> List Root
 | [], _ => []
 | r :: l, x => r.enc ids (pf r.dflt r.hasD (rsD l) x) :: xAm ids l (ps (rsDf l) r.hasD (rsD l) x)
@[reducible] def same (j : Nat) : Nat := j
/-! Reading off: which root is which is found on the way -/
abbrev Rn := List (Option (Option Nat))
def castMO {κ κ' : KK} {τ τ' : TC} (e1 : κ = κ') (e2 : τ = τ') (os : List (Option (List (κ.ty × τ.ty)))) : List (Option (List (κ'.ty × τ'.ty))) := e1 ▸ e2 ▸ os
def xI8 (rn : Rn) (j : Nat) (x : Option Nat) : Option Rn :=
 match rn[j]? with
 | some none => some (rn.set j (some x))
 | some (some y) => match x, y with
  | none, none => some rn
  | some a, some b => bif Nat.beq a b then some rn else none
  | _, _ => none
 | none => none
def xVW : Value -> Value -> Bool
 | .pointer none, .pointer none => true
 | .slice none 0 0, .slice none 0 0 => true
 | .map none, .map none => true
 | .func (.func f) ⟨[]⟩ ⟨[]⟩, .func (.func g) ⟨[]⟩ ⟨[]⟩ => Nat.beq f g
 | .int k a, .int k' b => Nat.beq (kix k) (kix k') && (a == b)
 | .bool a, .bool b => a == b
 | _, _ => false
def Kd.dec (rn : Rn) : (κ : Kd) -> CV -> Option (κ.ty × Rn)
 | .sl j k, x => match x with
  | .sl id k' off n c => match off, n, c with
   | 0, none, none => bif Nat.beq k k' then (match xI8 rn j (some id) with
    | some rn' => some ((), rn')
    | none => none) else none
   | _, _, _ => none
  | .sc (.slice none 0 0) => match xI8 rn j none with
   | some rn' => some ((), rn')
   | none => none
  | _ => none
 | .so j k, x => match x with
  | .sl id k' off n c => match n, c with
   | none, none => bif Nat.beq k k' then (match xI8 rn j (some id) with
    | some rn' => some (off, rn')
    | none => none) else none
   | _, _ => none
  | .sc (.slice none 0 0) => match xI8 rn j none with
   | some rn' => some (0, rn')
   | none => none
  | _ => none
 | .sp j k, x => match x with
  | .sl id k' off n c => match n, c with
   | some n, none => bif Nat.beq k k' then (match xI8 rn j (some id) with
    | some rn' => some ((off, n), rn')
    | none => none) else none
   | _, _ => none
  | _ => none
 | .pt j k row c, x => match x with
  | .pt id k' row' c' => bif Nat.beq k k' && Nat.beq row row' && Nat.beq c c' then (match xI8 rn j (some id) with
   | some rn' => some ((), rn')
   | none => none) else none
  | _ => none
 | .pr j k c, x => match x with
  | .pt id k' row c' => bif Nat.beq k k' && Nat.beq c c' then (match xI8 rn j (some id) with
   | some rn' => some (row, rn')
   | none => none) else none
  | _ => none
 | .hv j, x => match x with
  | .hv id => match xI8 rn j (some id) with
   | some rn' => some ((), rn')
   | none => none
  | _ => none
 | .lit v, x => match x with
  | .sc u => bif xVW v u then some ((), rn) else none
  | _ => none
def Sg.dec (rn : Rn) : (g : Sg) -> List CV -> Option (g.ty × Rn × List CV)
 | .t τ, l => match τ.dec l with
  | some (x, r) => bif xAE τ then none else some (x, rn, r)
  | none => none
 | .k κ, l => match l with
  | c :: r => match κ.dec rn c with
   | some (x, rn') => some (x, rn', r)
   | none => none
  | [] => none
def xLr (rn : Rn) : (l : List Sg) -> List CV -> Option (xNk l × Rn)
 | [], cs => match cs with
  | [] => some ((), rn)
  | _ :: _ => none
 | g :: l, cs => match g.dec rn cs with
  | some (x, rn', r) => match xLr rn' l r with
   | some (y, rn2) => some (pm g.hasD (gsD l) x y, rn2)
   | none => none
  | none => none
def PK.dec (rn : Rn) : (p : PK) -> PV -> Option (p.ty × Rn)
 | .c g, v => match v with
  | .c x => match g.dec rn [x] with
   | some (y, rn', []) => some (y, rn')
   | _ => none
  | _ => none
 | .ag l, v => match v with
  | .ag cs => xLr rn l cs
  | _ => none
def xRN (rn : Rn) (K : Slo) : (l : List (Nat × PK)) -> Option (xNu l × Rn)
 | [] => some ((), rn)
 | p :: l => match xRN rn K l with
  | some (y, rn') => match lkP K p.1 with
   | some v => match p.2.dec rn' v with
    | some (x, rn2) => some (pm p.2.hasD (slD l) x y, rn2)
    | none => none
   | none => none
  | none => none
def xWv {τ' τ : TC} (e : xGP τ' τ = true) (xs : List τ'.ty) : List τ.ty := xAC e ▸ xs
def castG {τ' τ : TC} (F : TC -> Type) (e : xGP τ' τ = true) (x : F τ') : F τ := xAC e ▸ x
def RK.dec (rn : Rn) : (r : RK) -> Root -> Option (r.ty × Rn)
 | .dead, _ => some ((), rn)
 | .ro τ, x => bif xAE τ then none else match x with
  | .rows _ τ' xs => if e : xGP τ' τ = true then some (xWv e xs, rn) else none
  | .ro τ' xs => if e : xGP τ' τ = true then some (xWv e xs, rn) else none
  | _ => none
 | .rows T τ, x => bif xAE τ then none else match x with
  | .rows T' τ' xs => bif Nat.beq T T' then (if e : xGP τ' τ = true then some (xWv e xs, rn) else none) else none
  | _ => none
 | .blk T l, x => match x with
  | .blk cs T' => bif Nat.beq T T' then xLr rn l cs else none
  | _ => none
 | .clo f a b, x => match x with
  | .clo f' as bs => bif Nat.beq f f' then (match xLr rn a as with
   | some (y, rn') => match xLr rn' b bs with
    | some (z, rn2) => some (pm (gsD a) (gsD b) y z, rn2)
    | none => none
   | none => none) else none
  | _ => none
 | .mp κ agg τ, x => bif xAE τ then none else match x with
  | .mp κ' agg' τ' ts => bif agg == agg' then (if e0 : kkEq κ' κ = true then (if e : xGP τ' τ = true then some (xQ1 (xCn e0) (xAC e) ts, rn) else none) else none) else none
  | _ => none
 | .ars t T τ, x => bif xAE τ then none else match x with
  | .ars t' T' τ' os => bif Nat.beq t t' && Nat.beq T T' then (if e : xGP τ' τ = true then some (castG (fun τ => List (Option (List τ.ty))) e os, rn) else none) else none
  | _ => none
 | .aro t T τ, x => bif xAE τ then none else match x with
  | .aro t' T' τ' os => bif Nat.beq t t' && Nat.beq T T' then (if e : xGP τ' τ = true then some (xWv e os, rn) else none) else none
  | _ => none
 | .arm t κ agg τ, x => bif xAE τ then none else match x with
  | .arm t' κ' agg' τ' os => bif Nat.beq t t' && (agg == agg') then (if e0 : kkEq κ' κ = true then (if e : xGP τ' τ = true then some (castMO (xCn e0) (xAC e) os, rn) else none) else none) else none
  | _ => none
 | .arr t τ, x => bif xAE τ then none else match x with
  | .arr t' τ' os => bif Nat.beq t t' then (if e : xGP τ' τ = true then some (castG (fun τ => List (List τ.ty)) e os, rn) else none) else none
  | _ => none
/-- A nil slice is an empty one. -/
def RK.nil : (r : RK) -> Option r.ty
 | .dead => some ()
 | .ro τ => bif xAE τ then none else some []
 | .rows _ τ => bif xAE τ then none else bif Nat.beq τ.w 0 then none else some []
 | _ => none
def RK.gone : (r : RK) -> Option r.ty
 | .dead => some ()
 | _ => none
def xGa (rn : Rn) (h : List Root) : (l : List RK) -> Nat -> Option (xF3 l × Rn)
 | [], _ => some ((), rn)
 | r :: l, j => match (match rn[j]? with
   | some (some (some id)) => (match h[id]? with
    | some x => r.dec rn x
    | none => none)
   | some (some none) => (match r.nil with
    | some x => some (x, rn)
    | none => none)
   | _ => (match r.gone with
    | some x => some (x, rn)
    | none => none)) with
  | some (x, rn') => match xGa rn' h l (j + 1) with
   | some (y, rn2) => some (pm r.hasD (rsD l) x y, rn2)
   | none => none
  | none => none
/-- The first m roots are those that came in. -/
def rn0 : (m len j : Nat) -> Rn
 | _, 0, _ => []
 | 0, len + 1, j => none :: rn0 0 len (j + 1)
 | m + 1, len + 1, j => some (some j) :: rn0 m len (j + 1)
def idIn (id : Nat) : Rn -> Bool
 | [] => false
 | x :: rn => (match x with
  | some (some id') => Nat.beq id id'
  | _ => false) || idIn id rn
def xEK : Rn -> Bool
 | [] => true
 | x :: rn => (match x with
  | some (some id) => !idIn id rn
  | _ => true) && xEK rn
/-- What roots that are gone stem from does not count. -/
def xIp : List RK -> Rn -> Rn
 | k :: l, x :: rn => (match k with
  | .dead => none
  | _ => x) :: xIp l rn
 | _, _ => []
/-- Arenas are found by their numbers. -/
def xE9 (h : List Root) : List RK -> Nat -> Rn -> Option Rn
 | [], _, rn => some rn
 | r :: l, j, rn => match r.tag with
  | none => xE9 h l (j + 1) rn
  | some t => match rn[j]? with
   | some none => match xA3 t h 0 with
    | some (id, _) => match xI8 rn j (some id) with
     | some rn' => xE9 h l (j + 1) rn'
     | none => none
    | none => none
   | some (some _) => xE9 h l (j + 1) rn
   | none => none
def Sch.decR (s : Sch) (rn : Rn) (K : Slo) (h : List Root) : Option (s.ty × Rn) :=
 match xE9 h s.roots 0 rn with
 | some rn => match xRN rn K s.slots with
  | some (x, rn') => match xGa rn' h s.roots 0 with
   | some (y, rn2) => bif xEK (xIp s.roots rn2) && Nat.beq rn2.length s.roots.length && xAP (xHV s.slots ++ xCT s.roots) s.roots then some (pm (slD s.slots) (rsD s.roots) x y, rn2) else none
   | none => none
  | none => none
 | none => none
end
end Go.Proofs.YthmicafabimfkaaGreatDoor


namespace Go.Proofs.YthmicafabimfkaaGreatDoor
noncomputable section
open Go.RowKit
theorem xIX {A B C : Type} (f : A -> C) (a b : Bool) (hf : a = false -> ∀ x y, f x = f y) (d x : A) (y : B) : f (pf d a b (pm a b x y)) = f x := by
 cases a
 ·exact hf rfl _ _
 ·cases b <;> rfl
theorem xIW {A B C : Type} (f : B -> C) (a b : Bool) (hf : b = false -> ∀ x y, f x = f y) (d y : B) (x : A) : f (ps d a b (pm a b x y)) = f y := by
 cases a
 ·rfl
 ·cases b
  ·exact hf rfl _ _
  ·rfl
theorem Kd.enc_inv {ids : Nat -> Nat} {κ : Kd} (h : κ.hasD = false) (x y : κ.ty) : κ.enc ids x = κ.enc ids y := by
 cases κ <;> first | rfl | cases h
theorem Sg.enc_inv {ids : Nat -> Nat} {g : Sg} (h : g.hasD = false) (x y : g.ty) : g.enc ids x = g.enc ids y := by
 cases g with
 | t τ => cases h
 | k κ => exact congrArg (fun c => [c]) (Kd.enc_inv h x y)
theorem xBA {ids : Nat -> Nat} : ∀ {l : List Sg} (_ : gsD l = false) (x y : xNk l), xBX ids l x = xBX ids l y
 | [], _, _, _ => rfl
 | g :: l, h, x, y => by
  simp only [gsD, Bool.or_eq_false_iff] at h;simp only [xBX];rw [Sg.enc_inv h.1 (pf g.dflt g.hasD (gsD l) x) (pf g.dflt g.hasD (gsD l) y), xBA h.2 (ps (xJi l) g.hasD (gsD l) x) (ps (xJi l) g.hasD (gsD l) y)]
theorem xQO {ids : Nat -> Nat} {g : Sg} {l : List Sg} (x : g.ty) (y : xNk l) : xBX ids (g :: l) (pm g.hasD (gsD l) x y) = g.enc ids x ++ xBX ids l y := by
 simp only [xBX];rw [xIX (fun z => g.enc ids z) g.hasD (gsD l) (fun h => Sg.enc_inv h), xIW (fun z => xBX ids l z) g.hasD (gsD l) (fun h => xBA h)]
theorem PK.enc_inv {ids : Nat -> Nat} {p : PK} (h : p.hasD = false) (x y : p.ty) : p.enc ids x = p.enc ids y := by
 cases p with
 | c g => cases g with
  | t τ => cases h
  | k κ => exact congrArg PV.c (Kd.enc_inv h x y)
 | ag l => exact congrArg PV.ag (xBA h x y)
theorem xH1 {ids : Nat -> Nat} : ∀ {l : List (Nat × PK)} (_ : slD l = false) (x y : xNu l), xAX ids l x = xAX ids l y
 | [], _, _, _ => rfl
 | p :: l, h, x, y => by
  simp only [slD, Bool.or_eq_false_iff] at h;simp only [xAX];rw [PK.enc_inv h.1 (pf p.2.dflt p.2.hasD (slD l) x) (pf p.2.dflt p.2.hasD (slD l) y), xH1 h.2 (ps (xVj l) p.2.hasD (slD l) x) (ps (xVj l) p.2.hasD (slD l) y)]
theorem xQp {ids : Nat -> Nat} {p : Nat × PK} {l : List (Nat × PK)} (x : p.2.ty) (y : xNu l) : xAX ids (p :: l) (pm p.2.hasD (slD l) x y) = xDj (xAX ids l y) p.1 (p.2.enc ids x) := by
 simp only [xAX];rw [xIX (fun z => p.2.enc ids z) p.2.hasD (slD l) (fun h => PK.enc_inv h), xIW (fun z => xAX ids l z) p.2.hasD (slD l) (fun h => xH1 h)]
theorem clo_enc {ids : Nat -> Nat} {f : FuncId} {a b : List Sg} (x : xNk a) (y : xNk b) : (RK.clo f a b).enc ids (pm (gsD a) (gsD b) x y) = .clo f (xBX ids a x) (xBX ids b y) := by
 simp only [RK.enc];rw [xIX (fun z => xBX ids a z) (gsD a) (gsD b) (fun h => xBA h), xIW (fun z => xBX ids b z) (gsD a) (gsD b) (fun h => xBA h)]
theorem RK.enc_inv {ids : Nat -> Nat} {r : RK} (h : r.hasD = false) (x y : r.ty) : r.enc ids x = r.enc ids y := by
 cases r with
 | dead => rfl
 | ro τ => cases h
 | rows T τ => cases h
 | mp k agg τ => cases h
 | ars t T τ => cases h
 | aro t T τ => cases h
 | arm t k agg τ => cases h
 | arr t τ => cases h
 | blk T l => exact congrArg (fun c => Root.blk c T) (xBA h x y)
 | clo f a b =>
  simp only [RK.hasD, Bool.or_eq_false_iff] at h;simp only [RK.enc];rw [xBA h.1 (pf (xJi a) (gsD a) (gsD b) x) (pf (xJi a) (gsD a) (gsD b) y), xBA h.2 (ps (xJi b) (gsD a) (gsD b) x) (ps (xJi b) (gsD a) (gsD b) y)]
theorem xFq {ids : Nat -> Nat} : ∀ {l : List RK} (_ : rsD l = false) (x y : xF3 l), xAm ids l x = xAm ids l y
 | [], _, _, _ => rfl
 | r :: l, h, x, y => by
  simp only [rsD, Bool.or_eq_false_iff] at h;simp only [xAm];rw [RK.enc_inv h.1 (pf r.dflt r.hasD (rsD l) x) (pf r.dflt r.hasD (rsD l) y), xFq h.2 (ps (rsDf l) r.hasD (rsD l) x) (ps (rsDf l) r.hasD (rsD l) y)]
theorem xEp {ids : Nat -> Nat} {r : RK} {l : List RK} (x : r.ty) (y : xF3 l) : xAm ids (r :: l) (pm r.hasD (rsD l) x y) = r.enc ids x :: xAm ids l y := by
 simp only [xAm];rw [xIX (fun z => r.enc ids z) r.hasD (rsD l) (fun h => RK.enc_inv h), xIW (fun z => xAm ids l z) r.hasD (rsD l) (fun h => xFq h)]
theorem Sch.enc_a {ids : Nat -> Nat} {s : Sch} (x : xNu s.slots) (y : xF3 s.roots) : xAX ids s.slots (s.a (pm (slD s.slots) (rsD s.roots) x y)) = xAX ids s.slots x := xIX (fun z => xAX ids s.slots z) _ _ (fun h => xH1 h) _ _ _
theorem Sch.enc_b {ids : Nat -> Nat} {s : Sch} (x : xNu s.slots) (y : xF3 s.roots) : xAm ids s.roots (s.b (pm (slD s.slots) (rsD s.roots) x y)) = xAm ids s.roots y := xIW (fun z => xAm ids s.roots z) _ _ (fun h => xFq h) _ _ _
def nilI : Info := ⟨none, 0, some 0, undef⟩
def mkI (rn : Rn) (ρ : List Info) : List Info :=
 rn.map fun x => match x with
  | some (some id) => (ρ[id]?).getD nilI
  | _ => nilI
def Agr (rn : Rn) (ρ ι : List Info) : Prop :=
 ∀ j : Nat, (∀ id, rn[j]? = some (some (some id)) -> ι[j]? = some ((ρ[id]?).getD nilI)) /\ (rn[j]? = some (some none) -> ι[j]? = some nilI)
def Le (rn rn' : Rn) : Prop := rn'.length = rn.length /\ ∀ (j : Nat) (x : Option Nat), rn[j]? = some (some x) -> rn'[j]? = some (some x)
theorem Le.refl (rn : Rn) : Le rn rn := ⟨rfl, fun _ _ h => h⟩
theorem Le.trans {a b c : Rn} (h : Le a b) (k : Le b c) : Le a c := ⟨k.1.trans h.1, fun j x e => k.2 j x (h.2 j x e)⟩
theorem Agr.of_le {rn rn' : Rn} {ρ ι : List Info} (h : Agr rn' ρ ι) (hl : Le rn rn') : Agr rn ρ ι := fun j => ⟨fun id e => (h j).1 id (hl.2 _ _ e), fun e => (h j).2 (hl.2 _ _ e)⟩
theorem Agr.mk (rn : Rn) (ρ : List Info) : Agr rn ρ (mkI rn ρ) := fun j => ⟨fun id e => by simp [mkI, e], fun e => by simp [mkI, e]⟩
theorem xCq {rn rn' : Rn} {j : Nat} {x : Option Nat} (h : xI8 rn j x = some rn') : Le rn rn' /\ rn'[j]? = some (some x) := by
 unfold xI8 at h;split at h
 ·rename_i hj;cases h;refine ⟨⟨by simp, fun q y e => ?_⟩, ?_⟩
  ·rw [List.getElem?_set];split
   ·rename_i e1;rw [<- e1, hj] at e;cases e
   ·exact e
  ·have := (List.getElem?_eq_some_iff.1 hj).1;simp [List.getElem?_set, this]
 ·rename_i y hj;split at h
  ·cases h; exact ⟨Le.refl _, hj⟩
  ·rename_i a b
   cases hb : Nat.beq a b with
   | false => rw [hb] at h; cases h
   | true => rw [hb] at h; cases h; have := nbT hb; subst this; exact ⟨Le.refl _, hj⟩
  ·cases h
 ·cases h
theorem xVV {v u : Value} (h : xVW v u = true) : v = u := by
 unfold xVW at h;split at h
 ·rfl
 ·rfl
 ·rfl
 ·rw [nbT h]
 ·simp only [Bool.and_eq_true] at h;rw [xDB h.1, eq_of_beq h.2]
 ·rw [eq_of_beq h]
 ·cases h
/-- A nil slice, as the whole of an empty root. -/
theorem xTV {ι : List Info} {j k : Nat} (h : ι[j]? = some nilI) : Den ι (.sl j k 0 none none) (.slice none 0 0) :=
 ⟨nilI, none, 0, 0, h, rfl, Nat.le_refl _, Nat.zero_le _, fun h => absurd h (Nat.lt_irrefl _), ⟨0, rfl, rfl⟩, ⟨0, rfl, Nat.le_refl _⟩, rfl, rfl, fun _ => rfl, fun h => absurd h (Nat.lt_irrefl _)⟩
theorem Kd.dec_ok {κ : Kd} {rn rn' : Rn} {c : CV} {x : κ.ty} (h : κ.dec rn c = some (x, rn')) : Le rn rn' /\ ∀ (ρ ι : List Info) (v : Value), Agr rn' ρ ι -> Den ρ c v -> Den ι (κ.enc same x) v := by
 have get : ∀ {id j : Nat} {i : Info} {ρ ι : List Info}, rn'[j]? = some (some (some id)) -> Agr rn' ρ ι -> ρ[id]? = some i -> ι[j]? = some i := by
  intro id j i ρ ι h1 h2 h3;rw [(h2 j).1 id h1, h3]; rfl
 cases κ with
 | sl j k =>
  simp only [Kd.dec] at h;split at h
  ·rename_i id k' off n c;split at h
   ·cases hb : Nat.beq k k' with
    | false => rw [hb] at h; cases h
    | true =>
     rw [hb] at h;have := nbT hb;subst this;simp only [cond_true] at h;split at h
     ·rename_i rn2 hr;cases h;obtain ⟨h1, h2⟩ := xCq hr;exact ⟨h1, fun ρ ι v ha ⟨i, a', c', nn, h3, h4⟩ => ⟨i, a', c', nn, get h2 ha h3, h4⟩⟩
     ·cases h
   ·cases h
  ·split at h
   ·rename_i rn2 hr;cases h;obtain ⟨h1, h2⟩ := xCq hr;exact ⟨h1, fun ρ ι v ha hd => by obtain ⟨rfl, _⟩ := hd; exact xTV ((ha j).2 h2)⟩
   ·cases h
  ·cases h
 | so j k =>
  simp only [Kd.dec] at h;split at h
  ·rename_i id k' off n c;split at h
   ·cases hb : Nat.beq k k' with
    | false => rw [hb] at h; cases h
    | true =>
     rw [hb] at h;have := nbT hb;subst this;simp only [cond_true] at h;split at h
     ·rename_i rn2 hr;cases h;obtain ⟨h1, h2⟩ := xCq hr;exact ⟨h1, fun ρ ι v ha ⟨i, a', c', nn, h3, h4⟩ => ⟨i, a', c', nn, get h2 ha h3, h4⟩⟩
     ·cases h
   ·cases h
  ·split at h
   ·rename_i rn2 hr;cases h;obtain ⟨h1, h2⟩ := xCq hr;exact ⟨h1, fun ρ ι v ha hd => by obtain ⟨rfl, _⟩ := hd; exact xTV ((ha j).2 h2)⟩
   ·cases h
  ·cases h
 | sp j k =>
  simp only [Kd.dec] at h;split at h
  ·rename_i id k' off n c;split at h
   ·rename_i n
    cases hb : Nat.beq k k' with
    | false => rw [hb] at h; cases h
    | true =>
     rw [hb] at h;have := nbT hb;subst this;simp only [cond_true] at h;split at h
     ·rename_i rn2 hr;cases h;obtain ⟨h1, h2⟩ := xCq hr;exact ⟨h1, fun ρ ι v ha ⟨i, a', c', nn, h3, h4⟩ => ⟨i, a', c', nn, get h2 ha h3, h4⟩⟩
     ·cases h
   ·cases h
  ·cases h
 | pt j k row c =>
  simp only [Kd.dec] at h;split at h
  ·rename_i id k' row' c'
   cases hb : (Nat.beq k k' && Nat.beq row row' && Nat.beq c c') with
   | false => rw [hb] at h; cases h
   | true =>
    rw [hb] at h;simp only [Bool.and_eq_true] at hb;obtain ⟨⟨b1, b2⟩, b3⟩ := hb;have b1 := nbT b1;have b2 := nbT b2;have b3 := nbT b3;subst b1; subst b2; subst b3;simp only [cond_true] at h;split at h
    ·rename_i rn2 hr;cases h;obtain ⟨h1, h2⟩ := xCq hr;exact ⟨h1, fun ρ ι v ha ⟨i, b, o, h3, h4⟩ => ⟨i, b, o, get h2 ha h3, h4⟩⟩
    ·cases h
  ·cases h
 | pr j k c =>
  simp only [Kd.dec] at h;split at h
  ·rename_i id k' row' c'
   cases hb : (Nat.beq k k' && Nat.beq c c') with
   | false => rw [hb] at h; cases h
   | true =>
    rw [hb] at h;simp only [Bool.and_eq_true] at hb;obtain ⟨b1, b3⟩ := hb;have b1 := nbT b1;have b3 := nbT b3;subst b1; subst b3;simp only [cond_true] at h;split at h
    ·rename_i rn2 hr;cases h;obtain ⟨h1, h2⟩ := xCq hr;exact ⟨h1, fun ρ ι v ha ⟨i, b, o, h3, h4⟩ => ⟨i, b, o, get h2 ha h3, h4⟩⟩
    ·cases h
  ·cases h
 | hv j =>
  simp only [Kd.dec] at h;split at h
  ·rename_i id;split at h
   ·rename_i rn2 hr;cases h;obtain ⟨h1, h2⟩ := xCq hr;exact ⟨h1, fun ρ ι v ha ⟨i, h3, h4⟩ => ⟨i, get h2 ha h3, h4⟩⟩
   ·cases h
  ·cases h
 | lit u =>
  simp only [Kd.dec] at h;split at h
  ·rename_i u'
   cases hb : xVW u u' with
   | false => rw [hb] at h; cases h
   | true =>
    rw [hb] at h;cases h;have := xVV hb;subst this;exact ⟨Le.refl _, fun ρ ι v _ hd => hd⟩
  ·cases h
/-- What is known of an arena is known there too. -/
def Cov (ρ ι : List Info) (t : Nat) : Prop := ∀ (id : Nat) (i : Info) (m : Nat) (v : Value), ρ[id]? = some i -> (i.objs t)[m]? = some v -> ∃ (id' : Nat) (i' : Info), ι[id']? = some i' /\ (i'.objs t)[m]? = some v
def Covs (ρ ι : List Info) (ts : List Nat) : Prop := ∀ t ∈ ts, Cov ρ ι t
theorem Covs.left {ρ ι : List Info} {a b : List Nat} (h : Covs ρ ι (a ++ b)) : Covs ρ ι a := fun t ht => h t (List.mem_append_left _ ht)
theorem Covs.right {ρ ι : List Info} {a b : List Nat} (h : Covs ρ ι (a ++ b)) : Covs ρ ι b := fun t ht => h t (List.mem_append_right _ ht)
theorem DenL.enc {ρ ι : List Info} : ∀ {τ : TC}, xAE τ = false -> Covs ρ ι τ.tags -> ∀ {x : τ.ty} {vs : List Value}, DenL ρ (τ.enc x) vs -> DenL ι (τ.enc x) vs
 | .int _, _, _, _, _, ⟨v, r, e, h1, h2⟩ => ⟨v, r, e, h1, h2⟩
 | .bool, _, _, _, _, ⟨v, r, e, h1, h2⟩ => ⟨v, r, e, h1, h2⟩
 | .str, _, _, _, _, ⟨v, r, e, h1, h2⟩ => ⟨v, r, e, h1, h2⟩
 | .er, _, _, _, _, ⟨v, r, e, h1, h2⟩ => ⟨v, r, e, h1, h2⟩
 | .cv, h, _, _, _, _ => by cases h
 | .nil, _, _, _, _, h => h
 | .rf q t, _, hc, n, _, ⟨v, r, e, h1, h2⟩ => ⟨v, r, e, h1.imp (fun h => h) (fun ⟨m, id, i, g1, g2, g3, g4⟩ => by
  obtain ⟨id', i', k1, k2⟩ := hc t (by simp [TC.tags]) id i m v g2 g3;exact ⟨m, id', i', g1, k1, k2, g4⟩), h2⟩
 | .pair a b, h, hc, x, vs, hd => by
  simp only [xAE, Bool.or_eq_false_iff] at h;obtain ⟨us, ws, e, h1, h2⟩ := DenL.split (cs := a.enc x.1) (ds := b.enc x.2) hd;rw [e];exact (DenL.enc h.1 hc.left h1).app (DenL.enc h.2 hc.right h2)
theorem DenL.flat {ρ ι : List Info} {τ : TC} (h : xAE τ = false) (hc : Covs ρ ι τ.tags) : ∀ {xs : List τ.ty} {vs : List Value}, DenL ρ (flat τ xs) vs -> DenL ι (flat τ xs) vs
 | [], _, hd => hd
 | x :: xs, vs, hd => by
  obtain ⟨us, ws, e, h1, h2⟩ := DenL.split (cs := τ.enc x) (ds := Go.Proofs.YthmicafabimfkaaGreatDoor.flat τ xs) hd;rw [e];exact (DenL.enc h hc h1).app (DenL.flat h hc h2)
theorem xFT {ρ ι : List Info} {κ : KK} {agg : Bool} {τ : TC} (h : xAE τ = false) (hc : Covs ρ ι τ.tags) : ∀ {ts : List (κ.ty × Nat × τ.ty)} {es : List MapEntry}, EntOk ρ κ agg τ ts es -> EntOk ι κ agg τ ts es
 | [], _, hd => hd
 | x :: ts, es, ⟨e, r, h1, h2, ⟨h3, h4⟩, h5⟩ => by
  refine ⟨e, r, h1, h2, ⟨h3, ?_⟩, xFT (agg := agg) h hc h5⟩
  cases agg with
  | true => obtain ⟨vs, g1, g2⟩ := h4; exact ⟨vs, DenL.enc h hc g1, g2⟩
  | false =>
   obtain ⟨c, g1, g2⟩ := h4;have := DenL.enc (ι := ι) h hc (x := x.2.2) (vs := [e.val]) (by
    have g1' : τ.enc x.2.2 = [c] := g1;rw [g1']; exact ⟨e.val, [], rfl, g2, rfl⟩)
   have g1' : τ.enc x.2.2 = [c] := g1;rw [g1'] at this;obtain ⟨v, r', e', k1, _⟩ := this;cases e';exact ⟨c, g1, k1⟩
theorem xEc {ρ ι : List Info} {κ : KK} {agg : Bool} {τ : TC} (h : xAE τ = false) (hc : Covs ρ ι τ.tags) {ts : List (κ.ty × τ.ty)} {es : Array MapEntry} {cl : Nat} : MapOk ρ κ agg τ ts es cl -> MapOk ι κ agg τ ts es cl
 | ⟨us, h1, h2⟩ => ⟨us, xFT h hc h1, h2⟩
theorem Sg.dec_ok {g : Sg} {rn rn' : Rn} {cs r : List CV} {x : g.ty} (h : g.dec rn cs = some (x, rn', r)) : Le rn rn' /\ ∀ (ρ ι : List Info) (vs : List Value), Agr rn' ρ ι -> Covs ρ ι g.tags -> DenL ρ cs vs -> ∃ a b, vs = a ++ b /\ DenL ι (g.enc same x) a /\ DenL ρ r b := by
 cases g with
 | t τ =>
  simp only [Sg.dec] at h;split at h
  ·rename_i y s hy
   cases hb : xAE τ with
   | true => rw [hb] at h; cases h
   | false =>
    rw [hb] at h;cases h;refine ⟨Le.refl _, fun ρ ι vs _ hcv hd => ?_⟩;rw [TC.dec_enc τ _ _ _ hy] at hd;obtain ⟨a, b, h1, h2, h3⟩ := hd.split;exact ⟨a, b, h1, DenL.enc hb hcv h2, h3⟩
  ·cases h
 | k κ =>
  simp only [Sg.dec] at h;split at h
  ·rename_i c s;split at h
   ·rename_i y rn2 hy;cases h;obtain ⟨h1, h2⟩ := Kd.dec_ok hy;refine ⟨h1, fun ρ ι vs ha _ ⟨v, q, e, h3, h4⟩ => ⟨[v], q, by rw [e]; rfl, ⟨v, [], rfl, h2 ρ ι v ha h3, rfl⟩, h4⟩⟩
   ·cases h
  ·cases h
theorem xEx : ∀ {l : List Sg} {rn rn' : Rn} {cs : List CV} {x : xNk l}, xLr rn l cs = some (x, rn') -> Le rn rn' /\ ∀ (ρ ι : List Info) (vs : List Value), Agr rn' ρ ι -> Covs ρ ι (xGY l) -> DenL ρ cs vs -> DenL ι (xBX same l x) vs
 | [], rn, rn', cs, x, h => by
  simp only [xLr] at h;split at h
  ·cases h; exact ⟨Le.refl _, fun ρ ι vs _ _ hd => hd⟩
  ·cases h
 | g :: l, rn, rn', cs, x, h => by
  simp only [xLr] at h;split at h
  ·rename_i y rn1 r hy;split at h
   ·rename_i z rn2 hz;cases h;obtain ⟨h1, h2⟩ := Sg.dec_ok hy;obtain ⟨h3, h4⟩ := xEx hz;refine ⟨h1.trans h3, fun ρ ι vs ha hcv hd => ?_⟩;have hcv' : Covs ρ ι (g.tags ++ xGY l) := hcv;obtain ⟨a, b, e, h5, h6⟩ := h2 ρ ι vs (ha.of_le h3) hcv'.left hd;rw [e, xQO];exact h5.app (h4 ρ ι b ha hcv'.right h6)
   ·cases h
  ·cases h
theorem PK.dec_ok {p : PK} {rn rn' : Rn} {v : PV} {x : p.ty} (h : p.dec rn v = some (x, rn')) : Le rn rn' /\ ∀ (ρ ι : List Info) (u : Value), Agr rn' ρ ι -> Covs ρ ι p.tags -> DenP ρ v u -> DenP ι (p.enc same x) u := by
 cases p with
 | c g =>
  simp only [PK.dec] at h;split at h
  ·rename_i c;split at h
   ·rename_i y rn2 hy;cases h;obtain ⟨h1, h2⟩ := Sg.dec_ok hy;refine ⟨h1, fun ρ ι u ha hcv hd => ?_⟩;obtain ⟨a, b, e, h3, h4⟩ := h2 ρ ι [u] ha hcv ⟨u, [], rfl, hd, rfl⟩;have : b = [] := h4;subst this;rw [List.append_nil] at e;subst e
    cases g with
    | k κ =>
     obtain ⟨u', r', e', h5, h6⟩ := h3;cases e';exact h5
    | t τ =>
     show Den ι (xTe (τ.enc x)) u;have h3' : DenL ι (τ.enc x) [u] := h3;have hl := h3'.len
     match hg : τ.enc x, hl with
     | [c'], _ =>
      rw [hg] at h3';obtain ⟨u', r', e', h5, h6⟩ := h3';cases e';exact h5
   ·cases h
  ·cases h
 | ag l =>
  simp only [PK.dec] at h;split at h
  ·rename_i cs;obtain ⟨h1, h2⟩ := xEx h;exact ⟨h1, fun ρ ι u ha hcv ⟨vs, h3, h4⟩ => ⟨vs, h2 ρ ι vs ha hcv h3, h4⟩⟩
  ·cases h
theorem xOR {K : Slo} : ∀ {l : List (Nat × PK)} {rn rn' : Rn} {x : xNu l}, xRN rn K l = some (x, rn') -> Le rn rn' /\ ∀ (N : Nat) (D : List Deferred) (ρ ι : List Info) (a : Act), Agr rn' ρ ι -> Covs ρ ι (xHV l) -> KOk N D ρ K a -> KOk N D ι (xAX same l x) a
 | [], rn, rn', x, h => by
  simp only [xRN] at h;cases h;exact ⟨Le.refl _, fun N D ρ ι a _ _ hK => ⟨hK.1, hK.2.1, fun t p e => by cases e⟩⟩
 | p :: l, rn, rn', x, h => by
  simp only [xRN] at h;split at h
  ·rename_i y rn1 hy;split at h
   ·rename_i v hv;split at h
    ·rename_i z rn2 hz;cases h;obtain ⟨h1, h2⟩ := xOR hy;obtain ⟨h3, h4⟩ := PK.dec_ok hz;refine ⟨h1.trans h3, fun N D ρ ι a ha hcv hK => ?_⟩;have hcv' : Covs ρ ι (p.2.tags ++ xHV l) := hcv;have hK1 := h2 N D ρ ι a (ha.of_le h3) hcv'.right hK;refine ⟨hK.1, hK.2.1, fun t q e => ?_⟩;rw [xQp, xBn] at e;split at e
     ·rename_i et;cases e;obtain ⟨u, h5, h6⟩ := hK.2.2 _ _ hv;rw [et];exact ⟨u, h4 ρ ι u ha hcv'.left h5, h6⟩
     ·exact hK1.2.2 t q e
    ·cases h
   ·cases h
  ·cases h
/-- A root that is another one, read anew. -/
def Tr (ρ ι : List Info) (x r : Root) : Prop := ∀ (w : World) (i : Info), RootOk ρ w i x -> RootOk ι w i r /\ (∀ b, own i r b -> own i x b) /\ (∀ b, foot i r b -> foot i x b)
theorem RK.dec_ok {r : RK} {rn rn' : Rn} {x : Root} {y : r.ty} (h : r.dec rn x = some (y, rn')) : Le rn rn' /\ ∀ (ρ ι : List Info), Agr rn' ρ ι -> Covs ρ ι r.tags -> Tr ρ ι x (r.enc same y) := by
 cases r with
 | dead =>
  cases h;exact ⟨Le.refl _, fun ρ ι _ _ w i _ => ⟨trivial, fun b hb => (by cases hb), fun b hb => (by cases hb)⟩⟩
 | ro τ =>
  simp only [RK.dec] at h
  cases hc : xAE τ with
  | true => rw [hc] at h; cases h
  | false =>
   rw [hc] at h;simp only [cond_false] at h;split at h
   ·rename_i T τ' xs;split at h
    ·rename_i e;cases h;have e2 := xAC e;subst e2;refine ⟨Le.refl _, fun ρ ι _ hcv w i ⟨h0, h9, vs, h1, h2⟩ => ⟨⟨h0, vs, DenL.flat hc hcv h1, fun hp => ?_⟩, fun b hb => (by cases hb), fun b hb => ?_⟩⟩
     ·have hp' : 0 < xs.length := hp;rcases h2.2.2.2 with ⟨h3, _⟩ | ⟨g, o, cur, h3, h4, _⟩
      ·have := h2.2.1; omega
      ·refine ⟨g, o, h3, lt_of_block h4, fun j v hv => ?_⟩;have h5 := h2;rw [h3] at h5;exact xCI h5 hv
     ·have hb2 : foot i (.ro τ' xs) b := hb
      cases xs with
      | nil => cases hb2
      | cons z zs => exact hb2
    ·cases h
   ·rename_i τ' xs;split at h
    ·rename_i e;cases h;have e2 := xAC e;subst e2;refine ⟨Le.refl _, fun ρ ι _ hcv w i ⟨h0, vs, h1, h2⟩ => ⟨⟨h0, vs, DenL.flat hc hcv h1, h2⟩, fun b hb => (by cases hb), fun b hb => hb⟩⟩
    ·cases h
   ·cases h
 | rows T τ =>
  simp only [RK.dec] at h
  cases hc : xAE τ with
  | true => rw [hc] at h; cases h
  | false =>
   rw [hc] at h;simp only [cond_false] at h;split at h
   ·rename_i T' τ' xs
    cases hb : Nat.beq T T' with
    | false => rw [hb] at h; cases h
    | true =>
     rw [hb] at h;have := nbT hb;subst this;simp only [cond_true] at h;split at h
     ·rename_i e;cases h;have e2 := xAC e;subst e2;exact ⟨Le.refl _, fun ρ ι _ hcv w i ⟨h0, h9, vs, h1, h2⟩ => ⟨⟨h0, h9, vs, DenL.flat hc hcv h1, h2⟩, fun b hb => hb, fun b hb => hb⟩⟩
     ·cases h
   ·cases h
 | blk T l =>
  simp only [RK.dec] at h;split at h
  ·rename_i cs T'
   cases hb : Nat.beq T T' with
   | false => rw [hb] at h; cases h
   | true =>
    rw [hb] at h;have := nbT hb;subst this;simp only [cond_true] at h;obtain ⟨h1, h2⟩ := xEx h;exact ⟨h1, fun ρ ι ha hcv w i ⟨h0, b, vs, h3, h4, h5⟩ => ⟨⟨⟨h0.1, by rw [h0.2, <- h4.len, (h2 ρ ι vs ha hcv h4).len]⟩, b, vs, h3, h2 ρ ι vs ha hcv h4, h5⟩, fun b hb => hb, fun b hb => hb⟩⟩
  ·cases h
 | clo f a b =>
  simp only [RK.dec] at h;split at h
  ·rename_i f' as bs
   cases hb : Nat.beq f f' with
   | false => rw [hb] at h; cases h
   | true =>
    rw [hb] at h;have := nbT hb;subst this;simp only [cond_true] at h;split at h
    ·rename_i y rn1 hy;split at h
     ·rename_i z rn2 hz;cases h;obtain ⟨h1, h2⟩ := xEx hy;obtain ⟨h3, h4⟩ := xEx hz;exact ⟨h1.trans h3, fun ρ ι ha hcv w i ⟨fs, cs, h5, h6, h7⟩ => by
       rw [clo_enc];exact ⟨⟨fs, cs, h2 ρ ι fs (ha.of_le h3) hcv.left h5, h4 ρ ι cs ha hcv.right h6, h7⟩, fun b hb => (by cases hb), fun b hb => (by cases hb)⟩⟩
     ·cases h
    ·cases h
  ·cases h
 | mp k agg τ =>
  simp only [RK.dec] at h
  cases hc : xAE τ with
  | true => rw [hc] at h; cases h
  | false =>
   rw [hc] at h;simp only [cond_false] at h;split at h
   ·rename_i κ' agg' τ' ts
    cases hb : (agg == agg') with
    | false => rw [hb] at h; cases h
    | true =>
     rw [hb] at h;simp only [beq_iff_eq] at hb;subst hb;simp only [cond_true] at h;split at h
     ·rename_i e0;have e1 := xCn e0;subst e1;split at h
      ·rename_i e;cases h;have e2 := xAC e;subst e2;exact ⟨Le.refl _, fun ρ ι _ hcv w i ⟨r, ents, clock, g1, g2, g3, g4⟩ => ⟨⟨r, ents, clock, g1, g2, g3, xEc hc hcv g4⟩, fun b hb => hb, fun b hb => hb⟩⟩
      ·cases h
     ·cases h
   ·cases h
 | ars t T τ =>
  simp only [RK.dec] at h
  cases hc : xAE τ with
  | true => rw [hc] at h; cases h
  | false =>
   rw [hc] at h;simp only [cond_false] at h;split at h
   ·rename_i t' T' τ' os
    cases hb : (Nat.beq t t' && Nat.beq T T') with
    | false => rw [hb] at h; cases h
    | true =>
     rw [hb] at h;simp only [Bool.and_eq_true] at hb;have e1 := nbT hb.1;have e3 := nbT hb.2;subst e1; subst e3;simp only [cond_true] at h;split at h
     ·rename_i e;cases h;have e2 := xAC e;subst e2;refine ⟨Le.refl _, fun ρ ι _ hcv w i hA => ⟨⟨hA.1, fun m v ob h1 h2 => ?_, hA.2.2⟩, fun b hb => hb, fun b hb => hb⟩⟩;have h3 := hA.2.1 m v ob h1 h2;have h2' : (Root.ars t T τ' os).obs[m]? = some ob := h2;simp only [Root.obs, List.getElem?_map] at h2';obtain ⟨x, hx, e⟩ := Option.map_eq_some_iff.1 h2'
      cases x with
      | none => subst e; trivial
      | some xs => subst e; obtain ⟨a, c, k1, k2, vs, k3, k4⟩ := h3; exact ⟨a, c, k1, k2, vs, DenL.flat hc hcv k3, k4⟩
     ·cases h
   ·cases h
 | aro t T τ =>
  simp only [RK.dec] at h
  cases hc : xAE τ with
  | true => rw [hc] at h; cases h
  | false =>
   rw [hc] at h;simp only [cond_false] at h;split at h
   ·rename_i t' T' τ' os
    cases hb : (Nat.beq t t' && Nat.beq T T') with
    | false => rw [hb] at h; cases h
    | true =>
     rw [hb] at h;simp only [Bool.and_eq_true] at hb;have e1 := nbT hb.1;have e3 := nbT hb.2;subst e1; subst e3;simp only [cond_true] at h;split at h
     ·rename_i e;cases h;have e2 := xAC e;subst e2;refine ⟨Le.refl _, fun ρ ι _ hcv w i hA => ⟨⟨hA.1, fun m v ob h1 h2 => ?_, hA.2.2⟩, fun b hb => hb, fun b hb => hb⟩⟩;have h3 := hA.2.1 m v ob h1 h2;have h2' : (Root.aro t T τ' os).obs[m]? = some ob := h2;simp only [Root.obs, List.getElem?_map] at h2';obtain ⟨x, hx, e⟩ := Option.map_eq_some_iff.1 h2';subst e; obtain ⟨a, c, k1, k2, vs, k3, k4⟩ := h3; exact ⟨a, c, k1, k2, vs, DenL.flat hc hcv k3, k4⟩
     ·cases h
   ·cases h
 | arm t k agg τ =>
  simp only [RK.dec] at h
  cases hc : xAE τ with
  | true => rw [hc] at h; cases h
  | false =>
   rw [hc] at h;simp only [cond_false] at h;split at h
   ·rename_i t' κ' agg' τ' os
    cases hb : (Nat.beq t t' && (agg == agg')) with
    | false => rw [hb] at h; cases h
    | true =>
     rw [hb] at h;simp only [Bool.and_eq_true, beq_iff_eq] at hb;have e1 := nbT hb.1;have e4 := hb.2;subst e1; subst e4;simp only [cond_true] at h;split at h
     ·rename_i e0;have e3 := xCn e0;subst e3;split at h
      ·rename_i e;cases h;have e2 := xAC e;subst e2;refine ⟨Le.refl _, fun ρ ι _ hcv w i hA => ⟨⟨hA.1, fun m v ob h1 h2 => ?_, hA.2.2⟩, fun b hb => hb, fun b hb => hb⟩⟩;have h3 := hA.2.1 m v ob h1 h2;have h2' : (Root.arm t κ' agg τ' os).obs[m]? = some ob := h2;simp only [Root.obs, List.getElem?_map] at h2';obtain ⟨x, hx, e⟩ := Option.map_eq_some_iff.1 h2'
       cases x with
       | none => subst e; trivial
       | some ts => subst e; obtain ⟨r, ents, cl, k1, k2, k3⟩ := h3; exact ⟨r, ents, cl, k1, k2, xEc hc hcv k3⟩
      ·cases h
     ·cases h
   ·cases h
 | arr t τ =>
  simp only [RK.dec] at h
  cases hc : xAE τ with
  | true => rw [hc] at h; cases h
  | false =>
   rw [hc] at h;simp only [cond_false] at h;split at h
   ·rename_i t' τ' os
    cases hb : Nat.beq t t' with
    | false => rw [hb] at h; cases h
    | true =>
     rw [hb] at h;have e1 := nbT hb;subst e1;simp only [cond_true] at h;split at h
     ·rename_i e;cases h;have e2 := xAC e;subst e2;refine ⟨Le.refl _, fun ρ ι _ hcv w i hA => ⟨⟨hA.1, fun m v ob h1 h2 => ?_, hA.2.2⟩, fun b hb => hb, fun b hb => hb⟩⟩;have h3 := hA.2.1 m v ob h1 h2;have h2' : (Root.arr t τ' os).obs[m]? = some ob := h2;simp only [Root.obs, List.getElem?_map] at h2';obtain ⟨x, hx, e⟩ := Option.map_eq_some_iff.1 h2';subst e; obtain ⟨a, c, k1, k2, k3, vs, k4, k5⟩ := h3; exact ⟨a, c, k1, k2, k3, vs, DenL.flat hc hcv k4, k5⟩
     ·cases h
   ·cases h
/-- A root that is read off as an arena is one. -/
theorem RK.dec_tag {r : RK} {rn rn' : Rn} {x : Root} {y : r.ty} (h : r.dec rn x = some (y, rn')) {t : Nat} (ht : r.tag = some t) : x.tag = some t := by
 cases r <;> first | (cases ht; done) | skip
 all_goals
  cases ht;simp only [RK.dec] at h;rename_i τ
  cases hc : xAE τ with
  | true => rw [hc] at h; cases h
  | false =>
   rw [hc] at h;simp only [cond_false] at h;split at h
   ·first
    | (generalize hq : (Nat.beq _ _ && _) = b at h
       cases b with
       | false => cases h
       | true =>
        simp only [Bool.and_eq_true] at hq;have e1 := nbT hq.1;subst e1;rfl)
    | (generalize hq : Nat.beq _ _ = b at h
       cases b with
       | false => cases h
       | true =>
        have e1 := nbT hq;subst e1;rfl)
   ·cases h
theorem RK.enc_tag {r : RK} {ids : Nat -> Nat} {y : r.ty} : (r.enc ids y).tag = r.tag := by
 cases r <;> rfl
theorem RK.nil_ok {r : RK} {y : r.ty} (h : r.nil = some y) (ι : List Info) (w : World) : RootOk ι w nilI (r.enc same y) /\ (∀ b, ¬ own nilI (r.enc same y) b) /\ (∀ b, ¬ foot nilI (r.enc same y) b) := by
 cases r with
 | dead => exact ⟨trivial, fun b hb => hb, fun b hb => hb⟩
 | ro τ =>
  simp only [RK.nil] at h
  cases hc : xAE τ with
  | true => rw [hc] at h; cases h
  | false => rw [hc] at h; cases h; exact ⟨⟨rfl, [], rfl, fun hp => absurd hp (Nat.lt_irrefl _)⟩, fun b hb => hb, fun b hb => hb⟩
 | rows T τ =>
  simp only [RK.nil] at h
  cases hc : xAE τ with
  | true => rw [hc] at h; cases h
  | false =>
   rw [hc] at h;simp only [cond_false] at h
   cases hz : Nat.beq τ.w 0 with
   | true => rw [hz] at h; cases h
   | false =>
    rw [hz] at h;cases h;have hw := Nat.ne_of_beq_eq_false hz;exact ⟨⟨rfl, by omega, [], rfl, by simp, Nat.le_refl _, Nat.zero_le _, .inl ⟨rfl, fun b hb => by cases hb⟩⟩, fun b hb => (by cases hb), fun b hb => (by cases hb)⟩
 | _ => cases h
theorem RK.gone_ok {r : RK} {y : r.ty} (h : r.gone = some y) : r.enc same y = .dead := by
 cases r <;> first | rfl | cases h
theorem xDt {h : List Root} : ∀ {l : List RK} {rn rn' : Rn} {j0 : Nat} {y : xF3 l}, xGa rn h l j0 = some (y, rn') -> Le rn rn' /\ ∀ (ρ ι : List Info), Agr rn' ρ ι -> Covs ρ ι (xCT l) -> ∀ (q : Nat) (r : Root), (xAm same l y)[q]? = some r ->
  r = .dead \/ (∃ id x, rn'[j0 + q]? = some (some (some id)) /\ h[id]? = some x /\ Tr ρ ι x r) \/ (rn'[j0 + q]? = some (some none) /\ ∀ w, RootOk ι w nilI r /\ (∀ b, ¬ own nilI r b) /\ (∀ b, ¬ foot nilI r b))
 | [], rn, rn', j0, y, he => by
  cases he;exact ⟨Le.refl _, fun ρ ι _ _ q r e => by simp [xAm] at e⟩
 | k :: l, rn, rn', j0, y, he => by
  simp only [xGa] at he;split at he
  ·rename_i x rn1 hx;split at he
   ·rename_i z rn2 hz;cases he;obtain ⟨h3, h4⟩ := xDt hz;have key : Le rn rn1 /\ ∀ (ρ ι : List Info), Agr rn1 ρ ι -> Covs ρ ι k.tags -> (k.enc same x = .dead \/ (∃ id x0, rn1[j0]? = some (some (some id)) /\ h[id]? = some x0 /\ Tr ρ ι x0 (k.enc same x)) \/ (rn1[j0]? = some (some none) /\ ∀ w, RootOk ι w nilI (k.enc same x) /\ (∀ b, ¬ own nilI (k.enc same x) b) /\ (∀ b, ¬ foot nilI (k.enc same x) b))) := by
     split at hx
     ·rename_i id hj;split at hx
      ·rename_i x0 h0;obtain ⟨h5, h6⟩ := RK.dec_ok hx;exact ⟨h5, fun ρ ι ha hcv => .inr (.inl ⟨id, x0, h5.2 _ _ hj, h0, h6 ρ ι ha hcv⟩)⟩
      ·cases hx
     ·rename_i hj;split at hx
      ·rename_i x0 h0;cases hx;exact ⟨Le.refl _, fun ρ ι _ _ => .inr (.inr ⟨hj, RK.nil_ok h0 ι⟩)⟩
      ·cases hx
     ·split at hx
      ·rename_i x0 h0;cases hx;exact ⟨Le.refl _, fun ρ ι _ _ => .inl (RK.gone_ok h0)⟩
      ·cases hx
    refine ⟨key.1.trans h3, fun ρ ι ha hcv q r e => ?_⟩;have hcv' : Covs ρ ι (k.tags ++ xCT l) := hcv
    cases q with
    | zero =>
     rw [xEp] at e;simp only [List.getElem?_cons_zero, Option.some.injEq] at e;subst e;rcases key.2 ρ ι (ha.of_le h3) hcv'.left with h5 | ⟨id, x0, h5, h6, h7⟩ | ⟨h5, h6⟩
     ·exact .inl h5
     ·exact .inr (.inl ⟨id, x0, h3.2 _ _ h5, h6, h7⟩)
     ·exact .inr (.inr ⟨h3.2 _ _ h5, h6⟩)
    | succ q =>
     rw [xEp] at e;simp only [List.getElem?_cons_succ] at e;have := h4 ρ ι ha hcv'.right q r e;rw [show j0 + 1 + q = j0 + (q + 1) by omega] at this;exact this
   ·cases he
  ·cases he
theorem xTd {id : Nat} : ∀ {rn : Rn} {q : Nat}, rn[q]? = some (some (some id)) -> idIn id rn = true
 | [], q, h => by simp at h
 | x :: rn, 0, h => by
  simp only [List.getElem?_cons_zero, Option.some.injEq] at h;subst h;simp [idIn, Nat.beq_refl]
 | x :: rn, q + 1, h => by
  simp only [List.getElem?_cons_succ] at h;simp [idIn, xTd h]
theorem xMy : ∀ {rn : Rn}, xEK rn = true -> ∀ {p q id : Nat}, rn[p]? = some (some (some id)) -> rn[q]? = some (some (some id)) -> p = q
 | [], _, p, q, id, h1, _ => by simp at h1
 | x :: rn, hn, p, q, id, h1, h2 => by
  simp only [xEK, Bool.and_eq_true] at hn;have no : ∀ q : Nat, x = some (some id) -> rn[q]? = some (some (some id)) -> False := by
   intro q e hq;subst e;have := hn.1;simp only [Bool.not_eq_true'] at this;rw [xTd hq] at this;cases this
  cases p with
  | zero =>
   simp only [List.getElem?_cons_zero, Option.some.injEq] at h1
   cases q with
   | zero => rfl
   | succ q => simp only [List.getElem?_cons_succ] at h2; exact (no q h1 h2).elim
  | succ p =>
   simp only [List.getElem?_cons_succ] at h1
   cases q with
   | zero => simp only [List.getElem?_cons_zero, Option.some.injEq] at h2; exact (no p h2 h1).elim
   | succ q =>
    simp only [List.getElem?_cons_succ] at h2;rw [xMy hn.2 h1 h2]
theorem xIo : ∀ {l : List RK} {rn : Rn} {p : Nat} {k : RK} {x : Option (Option Nat)}, l[p]? = some k -> k ≠ .dead -> rn[p]? = some x -> (xIp l rn)[p]? = some x
 | [], _, _, _, _, h, _, _ => by simp at h
 | _ :: _, [], _, _, _, _, _, h => by simp at h
 | k0 :: l, x0 :: rn, 0, k, x, h1, h2, h3 => by
  simp only [List.getElem?_cons_zero, Option.some.injEq] at h1 h3;subst h1; subst h3;simp only [xIp, List.getElem?_cons_zero]
 | k0 :: l, x0 :: rn, p + 1, k, x, h1, h2, h3 => by
  simp only [xIp, List.getElem?_cons_succ] at *;exact xIo h1 h2 h3
theorem xCu {ids : Nat -> Nat} : ∀ {l : List RK} {y : xF3 l} {q : Nat} {r : Root}, (xAm ids l y)[q]? = some r -> ∃ k, l[q]? = some k /\ ∃ y : k.ty, r = k.enc ids y
 | [], _, q, r, h => by simp [xAm] at h
 | k :: l, y, 0, r, h => by
  simp only [xAm, List.getElem?_cons_zero, Option.some.injEq] at h;exact ⟨k, rfl, _, h.symm⟩
 | k :: l, y, q + 1, r, h => by
  simp only [xAm, List.getElem?_cons_succ] at h;obtain ⟨k', h1, h2⟩ := xCu h;exact ⟨k', by simpa using h1, h2⟩
theorem xC7 (ids : Nat -> Nat) : ∀ (l : List RK) (y : xF3 l), (xAm ids l y).length = l.length
 | [], _ => rfl
 | r :: l, y => by simp [xAm, xC7 ids l]
/-- An arena that was read off was found. -/
theorem xD4 {h : List Root} : ∀ {l : List RK} {rn rn' : Rn} {j0 : Nat} {y : xF3 l}, xGa rn h l j0 = some (y, rn') -> ∀ (q : Nat) (k : RK) (t : Nat), l[q]? = some k -> k.tag = some t -> ∃ id x, rn'[j0 + q]? = some (some (some id)) /\ h[id]? = some x /\ x.tag = some t
 | [], rn, rn', j0, y, he => fun q k t e => by simp at e
 | k0 :: l, rn, rn', j0, y, he => by
  simp only [xGa] at he;split at he
  ·rename_i x rn1 hx;split at he
   ·rename_i z rn2 hz;cases he;have hle := (xDt hz).1;intro q k t e ht
    cases q with
    | zero =>
     simp only [List.getElem?_cons_zero, Option.some.injEq] at e;subst e;split at hx
     ·rename_i id hj;split at hx
      ·rename_i x0 h0;have h5 := (RK.dec_ok hx).1;exact ⟨id, x0, hle.2 _ _ (h5.2 _ _ hj), h0, RK.dec_tag hx ht⟩
      ·cases hx
     ·split at hx
      ·rename_i x0 h0;cases k0 <;> first | (cases ht; done) | cases h0
      ·cases hx
     ·split at hx
      ·rename_i x0 h0;cases k0 <;> first | (cases ht; done) | cases h0
      ·cases hx
    | succ q =>
     obtain ⟨id, x0, g1, g2⟩ := xD4 hz q k t (by simpa using e) ht;exact ⟨id, x0, by rw [show j0 + (q + 1) = j0 + 1 + q by omega]; exact g1, g2⟩
   ·cases he
  ·cases he
theorem xL4 {ts : List Nat} {l : List RK} (h : xAP ts l = true) {t : Nat} (ht : t ∈ ts) : ∃ (q : Nat) (k : RK), l[q]? = some k /\ k.tag = some t := by
 unfold xAP at h;rw [List.all_eq_true] at h;obtain ⟨k, hk, hb⟩ := List.any_eq_true.1 (h t ht);obtain ⟨q, hq⟩ := List.getElem?_of_mem hk;refine ⟨q, k, hq, ?_⟩;split at hb
 ·rename_i t' ht'; rw [ht', nbT hb]
 ·cases hb
theorem xMj {l : List RK} {rn rn' : Rn} {h : List Root} {z : xF3 l} (hz : xGa rn h l 0 = some (z, rn')) {ts : List Nat} (ht : xAP ts l = true) {S F : List Nat} {W0 : World} {ρ : List Info} {w : World} (hh : HOk S F W0 ρ h w) : Covs ρ (mkI rn' ρ) ts := by
 intro t hm id i m v hi hv;obtain ⟨q, k, h1, h2⟩ := xL4 ht hm;obtain ⟨p, x, h3, h4, h5⟩ := xD4 hz q k t h1 h2;rw [Nat.zero_add] at h3;obtain ⟨ip, hip⟩ := hh.info h4;exact ⟨q, ip, by rw [((Agr.mk rn' ρ) q).1 p h3, hip]; rfl, hh.cov p t x ip h4 hip h5 id i m v hi hv⟩
theorem xDa (t : Nat) : nilI.objs t = [] := rfl
theorem Cln.of {i : Info} {x r : Root} (hc : Cln i x) (hx : x ≠ .dead) (ht : x.tag = r.tag) : Cln i r := by
 rcases hc with g | g
 ·exact absurd g hx
 ·exact .inr fun t h => g t (by rw [ht]; exact h)
theorem RK.dec_cln {rn rn' : Rn} {k : RK} {x : Root} {y : k.ty} (h : k.dec rn x = some (y, rn')) {i : Info} (hc : Cln i x) : Cln i (k.enc same y) := by
 cases ht : k.tag with
 | some t =>
  have h1 := RK.dec_tag h ht;exact hc.of (fun e => by rw [e] at h1; cases h1) (by rw [RK.enc_tag, ht, h1])
 | none =>
  refine (?_ : k = .dead \/ (x ≠ .dead /\ x.tag = none)).elim (fun e => by subst e; exact .inl rfl) (fun e => hc.of e.1 (by rw [RK.enc_tag, ht, e.2]));cases k <;> first | (cases ht; done) | (exact .inl rfl) | skip
  all_goals
   right;simp only [RK.dec] at h;cases x <;> first | exact ⟨fun e => Root.noConfusion e, rfl⟩ | (exfalso; revert h; first | (intro h; cases h; done) | (cases xAE _ <;> intro h <;> cases h))
theorem xMk {h : List Root} : ∀ {l : List RK} {rn rn' : Rn} {j0 : Nat} {y : xF3 l}, xGa rn h l j0 = some (y, rn') -> ∀ (q : Nat) (r : Root), (xAm same l y)[q]? = some r -> r = .dead \/ (∃ id x, rn'[j0 + q]? = some (some (some id)) /\ h[id]? = some x /\ ∀ i, Cln i x -> Cln i r) \/ rn'[j0 + q]? = some (some none)
 | [], rn, rn', j0, y, he => fun q r e => by simp [xAm] at e
 | k :: l, rn, rn', j0, y, he => by
  simp only [xGa] at he;split at he
  ·rename_i x rn1 hx;split at he
   ·rename_i z rn2 hz;cases he;have hle := (xDt hz).1;intro q r e
    cases q with
    | zero =>
     rw [xEp] at e;simp only [List.getElem?_cons_zero, Option.some.injEq] at e;subst e;split at hx
     ·rename_i id hj;split at hx
      ·rename_i x0 h0;have h5 := (RK.dec_ok hx).1;exact .inr (.inl ⟨id, x0, hle.2 _ _ (h5.2 _ _ hj), h0, fun i hi => RK.dec_cln hx hi⟩)
      ·cases hx
     ·rename_i hj;split at hx
      ·cases hx;exact .inr (.inr (hle.2 _ _ hj))
      ·cases hx
     ·split at hx
      ·rename_i x0 h0;cases hx;exact .inl (RK.gone_ok h0)
      ·cases hx
    | succ q =>
     rw [xEp] at e;simp only [List.getElem?_cons_succ] at e;rcases xMk hz q r e with g | ⟨id, x0, g1, g2⟩ | g
     ·exact .inl g
     ·exact .inr (.inl ⟨id, x0, by rw [show j0 + (q + 1) = j0 + 1 + q by omega]; exact g1, g2⟩)
     ·exact .inr (.inr (by rw [show j0 + (q + 1) = j0 + 1 + q by omega]; exact g))
   ·cases he
  ·cases he
theorem mkI_src {rn : Rn} {ρ : List Info} {q : Nat} {j : Info} (h : (mkI rn ρ)[q]? = some j) : (∃ id : Nat, ρ[id]? = some j) \/ j = nilI := by
 simp only [mkI, List.getElem?_map] at h;obtain ⟨x, hx, e⟩ := Option.map_eq_some_iff.1 h;split at e
 ·rename_i id
  cases hr : ρ[id]? with
  | none => rw [hr] at e; exact .inr e.symm
  | some i => rw [hr] at e; exact .inl ⟨id, by rw [hr]; exact congrArg some e⟩
 ·exact .inr e.symm
/-- Roots that are read off hold, with the infos of those that were found. -/
theorem rs_hok {l : List RK} {rn rn' : Rn} {h : List Root} {z : xF3 l} (hz : xGa rn h l 0 = some (z, rn')) (hn : xEK (xIp l rn') = true) (hl : rn'.length = l.length) (htg : xAP (xCT l) l = true) {S F : List Nat} {W0 : World} {ρ : List Info} {w : World} (hh : HOk S F W0 ρ h w) : HOk S F W0 (mkI rn' ρ) (xAm same l z) w := by
 obtain ⟨h3, h4⟩ := xDt hz;have ha := Agr.mk rn' ρ;have h5 := h4 ρ _ ha (xMj hz htg hh);have get : ∀ (q id : Nat) (i : Info) (x : Root), rn'[q]? = some (some (some id)) -> h[id]? = some x -> (mkI rn' ρ)[q]? = some i -> ρ[id]? = some i := by
  intro q id i x e1 e2 e3;obtain ⟨i0, e4⟩ := hh.info e2;rw [(ha q).1 id e1, e4] at e3;rw [e4, <- e3]; rfl
 have getn : ∀ (q : Nat) (i : Info), rn'[q]? = some (some none) -> (mkI rn' ρ)[q]? = some i -> i = nilI := by
  intro q i e1 e3;rw [(ha q).2 e1] at e3;cases e3; rfl
 refine ⟨hh.ext, by rw [xC7]; simp [mkI, hl], fun q r i hr hi => ?_, fun p q r s i j b hpq hr hs hi hj ho => ?_, fun q r i b hr hi ho => ?_, fun q r i b hr hi ho => ?_, hh.lay, hh.out, fun q t r i hr hi ht id j m v hj hv => ?_, fun q r i hr hi => ?_⟩
 rotate_right
 ·rcases xMk hz q r hr with g | ⟨id, x, g1, g2, g3⟩ | g
  ·exact .inl g
  ·rw [Nat.zero_add] at g1;have gi := get q id i x g1 g2 hi;exact g3 i (hh.cln id x i g2 gi)
  ·rw [Nat.zero_add] at g;rw [getn q i g hi];exact .inr fun t _ => xDa t
 rotate_right
 ·rcases h5 q r hr with rfl | ⟨id0, x0, g1, g2, g3⟩ | ⟨g1, g2⟩
  ·cases ht
  ·rw [Nat.zero_add] at g1;have gi := get q id0 i x0 g1 g2 hi;obtain ⟨k, hk, hkt⟩ : ∃ k, l[q]? = some k /\ k.tag = some t := by
    obtain ⟨k, hk, hkr⟩ := xCu hr;obtain ⟨y, rfl⟩ := hkr;exact ⟨k, hk, by rw [<- ht, RK.enc_tag]⟩
   obtain ⟨id1, x1, k1, k2, k3⟩ := xD4 hz q k t hk hkt;rw [Nat.zero_add, g1] at k1;cases k1;rw [g2] at k2;cases k2;obtain ⟨jd, hj2⟩ | hj2 := mkI_src hj
   ·exact hh.cov id0 t x0 i g2 gi k3 jd j m v hj2 hv
   ·rw [hj2, xDa] at hv; simp at hv
  ·rw [Nat.zero_add] at g1;obtain ⟨k, hk, hkt⟩ : ∃ k, l[q]? = some k /\ k.tag = some t := by
    obtain ⟨k, hk, hkr⟩ := xCu hr;obtain ⟨y, rfl⟩ := hkr;exact ⟨k, hk, by rw [<- ht, RK.enc_tag]⟩
   obtain ⟨id1, x1, k1, k2, k3⟩ := xD4 hz q k t hk hkt;rw [Nat.zero_add, g1] at k1;cases k1
 ·rcases h5 q r hr with rfl | ⟨id, x0, g1, g2, g3⟩ | ⟨g1, g2⟩
  ·trivial
  ·rw [Nat.zero_add] at g1;exact (g3 w i (hh.ok id x0 i g2 (get q id i x0 g1 g2 hi))).1
  ·rw [Nat.zero_add] at g1;rw [getn q i g1 hi];exact (g2 w).1
 ·rcases h5 p r hr with rfl | ⟨id, x0, g1, g2, g3⟩ | ⟨g1, g2⟩
  ·cases ho
  ·rw [Nat.zero_add] at g1;have gi := get p id i x0 g1 g2 hi;have go := (g3 w i (hh.ok id x0 i g2 gi)).2.1 b ho;rcases h5 q s hs with rfl | ⟨id', x1, k1, k2, k3⟩ | ⟨k1, k2⟩
   ·exact xBh
   ·rw [Nat.zero_add] at k1;have ki := get q id' j x1 k1 k2 hj;intro hf;have kf := (k3 w j (hh.ok id' x1 j k2 ki)).2.2 b hf;refine hh.sep id id' x0 x1 i j b (fun e => ?_) g2 k2 gi ki go kf;subst e;obtain ⟨kp, hkp, yp, ep⟩ := xCu hr;obtain ⟨kq, hkq, yq, eq⟩ := xCu hs;exact hpq (xMy hn (xIo hkp (fun e => by subst e; rw [ep] at ho; cases ho) g1) (xIo hkq (fun e => by subst e; rw [eq] at hf; exact xBh hf) k1))
   ·rw [Nat.zero_add] at k1;rw [getn q j k1 hj];exact (k2 w).2.2 b
  ·rw [Nat.zero_add] at g1;rw [getn p i g1 hi] at ho;exact absurd ho ((g2 w).2.1 b)
 ·rcases h5 q r hr with rfl | ⟨id, x0, g1, g2, g3⟩ | ⟨g1, g2⟩
  ·cases ho
  ·rw [Nat.zero_add] at g1;have gi := get q id i x0 g1 g2 hi;exact hh.mine id x0 i b g2 gi ((g3 w i (hh.ok id x0 i g2 gi)).2.1 b ho)
  ·rw [Nat.zero_add] at g1;rw [getn q i g1 hi] at ho;exact absurd ho ((g2 w).2.1 b)
 ·rcases h5 q r hr with rfl | ⟨id, x0, g1, g2, g3⟩ | ⟨g1, g2⟩
  ·exact absurd ho xBh
  ·rw [Nat.zero_add] at g1;have gi := get q id i x0 g1 g2 hi;exact hh.near id x0 i b g2 gi ((g3 w i (hh.ok id x0 i g2 gi)).2.2 b ho)
  ·rw [Nat.zero_add] at g1;rw [getn q i g1 hi] at ho;exact absurd ho ((g2 w).2.2 b)
theorem xDh {h : List Root} : ∀ {l : List RK} {j : Nat} {rn rn' : Rn}, xE9 h l j rn = some rn' -> Le rn rn'
 | [], j, rn, rn', he => by cases he; exact Le.refl _
 | r :: l, j, rn, rn', he => by
  simp only [xE9] at he;split at he
  ·exact xDh he
  ·split at he
   ·split at he
    ·split at he
     ·rename_i hb; exact (xCq hb).1.trans (xDh he)
     ·cases he
    ·cases he
   ·exact xDh he
   ·cases he
/-- What is read off holds. -/
theorem Sch.decR_cov {s : Sch} {rn rn' : Rn} {K : Slo} {h : List Root} {x : s.ty} (hd : s.decR rn K h = some (x, rn')) {S F : List Nat} {W0 : World} {ρ : List Info} {w : World} (hh : HOk S F W0 ρ h w) {ts : List Nat} (ht : xAP ts s.roots = true) : Covs ρ (mkI rn' ρ) ts := by
 unfold Sch.decR at hd;split at hd
 rotate_right
 ·cases hd
 split at hd
 ·split at hd
  ·rename_i z rn2 hz;generalize hb : (xEK (xIp s.roots rn2) && Nat.beq rn2.length s.roots.length && xAP (xHV s.slots ++ xCT s.roots) s.roots) = b at hd
   cases b with
   | false => cases hd
   | true => cases hd; exact xMj hz ht hh
  ·cases hd
 ·cases hd
theorem Sch.decR_ok {s : Sch} {rn rn' : Rn} {K : Slo} {h : List Root} {x : s.ty} (hd : s.decR rn K h = some (x, rn')) : Le rn rn' /\ ∀ {N : Nat} {D : List Deferred} {S F : List Nat} {W0 : World} {ρ : List Info} {a : Act} {w : World}, KOk N D ρ K a -> HOk S F W0 ρ h w ->
  KOk N D (mkI rn' ρ) (xAX same s.slots (s.a x)) a /\ HOk S F W0 (mkI rn' ρ) (xAm same s.roots (s.b x)) w := by
 unfold Sch.decR at hd;split at hd
 rotate_right
 ·cases hd
 rename_i rn00 hb0;have hle0 := xDh hb0;split at hd
 ·rename_i y rn1 hy;split at hd
  ·rename_i z rn2 hz
   cases hb : (xEK (xIp s.roots rn2) && Nat.beq rn2.length s.roots.length && xAP (xHV s.slots ++ xCT s.roots) s.roots) with
   | false => rw [hb] at hd; cases hd
   | true =>
    rw [hb] at hd;cases hd;simp only [Bool.and_eq_true] at hb;obtain ⟨⟨hn, hl⟩, htg⟩ := hb;obtain ⟨h1, h2⟩ := xOR hy;have h3 := (xDt hz).1;exact ⟨hle0.trans (h1.trans h3), fun {N D S F W0 ρ a w} hK hh => by
     rw [Sch.enc_a, Sch.enc_b];have htg2 : xAP (xCT s.roots) s.roots = true := by
      unfold xAP at htg ⊢;rw [List.all_append, Bool.and_eq_true] at htg;exact htg.2
     exact ⟨h2 N D ρ _ a ((Agr.mk rn' ρ).of_le h3) (xMj hz htg hh).left hK, rs_hok hz hn (nbT hl) htg2 hh⟩⟩
  ·cases hd
 ·cases hd
end
end Go.Proofs.YthmicafabimfkaaGreatDoor
