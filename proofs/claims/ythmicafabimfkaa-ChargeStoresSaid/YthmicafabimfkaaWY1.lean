/- What is known at a place of a code, as data of a fixed form: read off slots and memory, and laid again. No condition. -/
import Derived.Test.YthmicafabimfkaaWZX
namespace Go.Proofs.Ythmicafabimfkaa
noncomputable section
open Go.RowKit
/-! Forms -/
/-- One cell that refers to a root, or is fixed. -/
inductive Kd where
  | sl (j k : Nat)
  | so (j k : Nat)
  | sp (j k : Nat)
  | pt (j k row c : Nat)
  | pr (j k c : Nat)
  | hv (j : Nat)
  | lit (v : Value)
@[reducible] def Kd.ty : Kd → Type
  | .so _ _ => Nat
  | .sp _ _ => Nat × Nat
  | .pr _ _ _ => Nat
  | _ => Unit
def Kd.hasD : Kd → Bool
  | .so _ _ => true
  | .sp _ _ => true
  | .pr _ _ _ => true
  | _ => false
def Kd.dflt : (κ : Kd) → κ.ty
  | .so _ _ => (0 : Nat)
  | .sp _ _ => ((0, 0) : Nat × Nat)
  | .pr _ _ _ => (0 : Nat)
  | .sl _ _ => ()
  | .pt _ _ _ _ => ()
  | .hv _ => ()
  | .lit _ => ()
/-! Pairs of which a side without data is left out -/
@[reducible] def pTy (a b : Bool) (A B : Type) : Type :=
  match a, b with
  | false, _ => B
  | true, false => A
  | true, true => A × B
def pf {A B : Type} (d : A) : (a b : Bool) → pTy a b A B → A
  | false, _, _ => d
  | true, false, x => x
  | true, true, x => x.1
def ps {A B : Type} (d : B) : (a b : Bool) → pTy a b A B → B
  | false, _, x => x
  | true, false, _ => d
  | true, true, x => x.2
def pm {A B : Type} : (a b : Bool) → A → B → pTy a b A B
  | false, _, _, y => y
  | true, false, x, _ => x
  | true, true, x, y => (x, y)
/-- Cells of a type, or one cell that refers. -/
inductive Sg where
  | t (τ : TC)
  | k (κ : Kd)
@[reducible] def Sg.ty : Sg → Type
  | .t τ => τ.ty
  | .k κ => κ.ty
def Sg.hasD : Sg → Bool
  | .t _ => true
  | .k κ => κ.hasD
def Sg.dflt : (g : Sg) → g.ty
  | .t τ => τ.dflt
  | .k κ => κ.dflt
def gsD : List Sg → Bool
  | [] => false
  | g :: l => g.hasD || gsD l
@[reducible] def gsTy : List Sg → Type
  | [] => Unit
  | g :: l => pTy g.hasD (gsD l) g.ty (gsTy l)
def gsDf : (l : List Sg) → gsTy l
  | [] => ()
  | g :: l => pm g.hasD (gsD l) g.dflt (gsDf l)
/-- A slot. -/
inductive PK where
  | c (g : Sg)
  | ag (l : List Sg)
@[reducible] def PK.ty : PK → Type
  | .c g => g.ty
  | .ag l => gsTy l
def PK.hasD : PK → Bool
  | .c g => g.hasD
  | .ag l => gsD l
def PK.dflt : (p : PK) → p.ty
  | .c g => g.dflt
  | .ag l => gsDf l
def slD : List (Nat × PK) → Bool
  | [] => false
  | p :: l => p.2.hasD || slD l
@[reducible] def slTy : List (Nat × PK) → Type
  | [] => Unit
  | p :: l => pTy p.2.hasD (slD l) p.2.ty (slTy l)
def slDf : (l : List (Nat × PK)) → slTy l
  | [] => ()
  | p :: l => pm p.2.hasD (slD l) p.2.dflt (slDf l)
/-- A root. -/
inductive RK where
  | dead
  | ro (τ : TC)
  | rows (T : TypeId) (τ : TC)
  | blk (T : TypeId) (l : List Sg)
  | clo (f : FuncId) (a b : List Sg)
  | mp (κ : KK) (agg : Bool) (τ : TC)
  | ars (t : Nat) (T : TypeId) (τ : TC)
  | aro (t : Nat) (T : TypeId) (τ : TC)
  | arm (t : Nat) (κ : KK) (agg : Bool) (τ : TC)
  | arr (t : Nat) (τ : TC)
@[reducible] def RK.ty : RK → Type
  | .dead => Unit
  | .ro τ => List τ.ty
  | .rows _ τ => List τ.ty
  | .blk _ l => gsTy l
  | .clo _ a b => pTy (gsD a) (gsD b) (gsTy a) (gsTy b)
  | .mp κ _ τ => List (κ.ty × τ.ty)
  | .ars _ _ τ => List (Option (List τ.ty))
  | .aro _ _ τ => List τ.ty
  | .arm _ κ _ τ => List (Option (List (κ.ty × τ.ty)))
  | .arr _ τ => List (List τ.ty)
def RK.hasD : RK → Bool
  | .dead => false
  | .ro _ => true
  | .rows _ _ => true
  | .blk _ l => gsD l
  | .clo _ a b => gsD a || gsD b
  | _ => true
def RK.dflt : (r : RK) → r.ty
  | .dead => ()
  | .ro _ => []
  | .rows _ _ => []
  | .blk _ l => gsDf l
  | .clo _ a b => pm (gsD a) (gsD b) (gsDf a) (gsDf b)
  | .mp _ _ _ => ([] : List _)
  | .ars _ _ _ => ([] : List _)
  | .aro _ _ _ => ([] : List _)
  | .arm _ _ _ _ => ([] : List _)
  | .arr _ _ => ([] : List _)
/-- The arenas that are named. -/
def TC.tags : TC → List Nat
  | .rf _ t => [t]
  | .pair a b => a.tags ++ b.tags
  | _ => []
def Sg.tags : Sg → List Nat
  | .t τ => τ.tags
  | .k _ => []
def gsTags (l : List Sg) : List Nat := l.flatMap Sg.tags
def PK.tags : PK → List Nat
  | .c g => g.tags
  | .ag l => gsTags l
def RK.tags : RK → List Nat
  | .dead => []
  | .ro τ => τ.tags
  | .rows _ τ => τ.tags
  | .blk _ l => gsTags l
  | .clo _ a b => gsTags a ++ gsTags b
  | .mp _ _ τ => τ.tags
  | .ars _ _ τ => τ.tags
  | .aro _ _ τ => τ.tags
  | .arm _ _ _ τ => τ.tags
  | .arr _ τ => τ.tags
def RK.tag : RK → Option Nat
  | .ars t _ _ => some t
  | .aro t _ _ => some t
  | .arm t _ _ _ => some t
  | .arr t _ => some t
  | _ => none
def slTags (l : List (Nat × PK)) : List Nat := l.flatMap (fun p => p.2.tags)
def rsTags (l : List RK) : List Nat := l.flatMap RK.tags
/-- Each arena that is named is there. -/
def tagsIn (ts : List Nat) (l : List RK) : Bool := ts.all (fun t => l.any (fun r => match r.tag with
  | some t' => Nat.beq t t'
  | none => false))
def rsD : List RK → Bool
  | [] => false
  | r :: l => r.hasD || rsD l
@[reducible] def rsTy : List RK → Type
  | [] => Unit
  | r :: l => pTy r.hasD (rsD l) r.ty (rsTy l)
def rsDf : (l : List RK) → rsTy l
  | [] => ()
  | r :: l => pm r.hasD (rsD l) r.dflt (rsDf l)
structure Sch where
  slots : List (Nat × PK)
  roots : List RK
@[reducible] def Sch.ty (s : Sch) : Type := pTy (slD s.slots) (rsD s.roots) (slTy s.slots) (rsTy s.roots)
def Sch.a (s : Sch) (x : s.ty) : slTy s.slots := pf (slDf s.slots) (slD s.slots) (rsD s.roots) x
def Sch.b (s : Sch) (x : s.ty) : rsTy s.roots := ps (rsDf s.roots) (slD s.slots) (rsD s.roots) x
/-! Laying -/
def Kd.enc (ids : Nat → Nat) : (κ : Kd) → κ.ty → CV
  | .sl j k, _ => .sl (ids j) k 0 none none
  | .so j k, off => .sl (ids j) k off none none
  | .sp j k, (off, n) => .sl (ids j) k off (some n) none
  | .pt j k row c, _ => .pt (ids j) k row c
  | .pr j k c, row => .pt (ids j) k row c
  | .hv j, _ => .hv (ids j)
  | .lit v, _ => .sc v
def Sg.enc (ids : Nat → Nat) : (g : Sg) → g.ty → List CV
  | .t τ, x => τ.enc x
  | .k κ, x => [κ.enc ids x]
def gsEnc (ids : Nat → Nat) : (l : List Sg) → gsTy l → List CV
  | [], _ => []
  | g :: l, x => g.enc ids (pf g.dflt g.hasD (gsD l) x) ++ gsEnc ids l (ps (gsDf l) g.hasD (gsD l) x)
def headC : List CV → CV
  | [] => .sc (.bool false)
  | c :: _ => c
def PK.enc (ids : Nat → Nat) : (p : PK) → p.ty → PV
  | .c (.t τ), x => .c (headC (τ.enc x))
  | .c (.k κ), x => .c (κ.enc ids x)
  | .ag l, x => .ag (gsEnc ids l x)
def slEnc (ids : Nat → Nat) : (l : List (Nat × PK)) → slTy l → Slo
  | [], _ => .nil
  | p :: l, x => putP (slEnc ids l (ps (slDf l) p.2.hasD (slD l) x)) p.1 (p.2.enc ids (pf p.2.dflt p.2.hasD (slD l) x))
def RK.enc (ids : Nat → Nat) : (r : RK) → r.ty → Root
  | .dead, _ => .dead
  | .ro τ, xs => .ro τ xs
  | .rows T τ, xs => .rows T τ xs
  | .blk T l, x => .blk (gsEnc ids l x) T
  | .clo f a b, x => .clo f (gsEnc ids a (pf (gsDf a) (gsD a) (gsD b) x)) (gsEnc ids b (ps (gsDf b) (gsD a) (gsD b) x))
  | .mp κ agg τ, ts => .mp κ agg τ ts
  | .ars t T τ, os => .ars t T τ os
  | .aro t T τ, os => .aro t T τ os
  | .arm t κ agg τ, os => .arm t κ agg τ os
  | .arr t τ, os => .arr t τ os
def rsEnc (ids : Nat → Nat) : (l : List RK) → rsTy l → List Root
  | [], _ => []
  | r :: l, x => r.enc ids (pf r.dflt r.hasD (rsD l) x) :: rsEnc ids l (ps (rsDf l) r.hasD (rsD l) x)
@[reducible] def same (j : Nat) : Nat := j
/-! Reading off: which root is which is found on the way -/
abbrev Rn := List (Option (Option Nat))
def castMO {κ κ' : KK} {τ τ' : TC} (e1 : κ = κ') (e2 : τ = τ') (os : List (Option (List (κ.ty × τ.ty)))) : List (Option (List (κ'.ty × τ'.ty))) := e1 ▸ e2 ▸ os
def bindR (rn : Rn) (j : Nat) (x : Option Nat) : Option Rn :=
  match rn[j]? with
  | some none => some (rn.set j (some x))
  | some (some y) => match x, y with
    | none, none => some rn
    | some a, some b => bif Nat.beq a b then some rn else none
    | _, _ => none
  | none => none
def litEq : Value → Value → Bool
  | .pointer none, .pointer none => true
  | .slice none 0 0, .slice none 0 0 => true
  | .map none, .map none => true
  | .func (.func f) ⟨[]⟩ ⟨[]⟩, .func (.func g) ⟨[]⟩ ⟨[]⟩ => Nat.beq f g
  | .int k a, .int k' b => Nat.beq (kix k) (kix k') && (a == b)
  | .bool a, .bool b => a == b
  | _, _ => false
def Kd.dec (rn : Rn) : (κ : Kd) → CV → Option (κ.ty × Rn)
  | .sl j k, x => match x with
    | .sl id k' off n c => match off, n, c with
      | 0, none, none => bif Nat.beq k k' then (match bindR rn j (some id) with
        | some rn' => some ((), rn')
        | none => none) else none
      | _, _, _ => none
    | .sc (.slice none 0 0) => match bindR rn j none with
      | some rn' => some ((), rn')
      | none => none
    | _ => none
  | .so j k, x => match x with
    | .sl id k' off n c => match n, c with
      | none, none => bif Nat.beq k k' then (match bindR rn j (some id) with
        | some rn' => some (off, rn')
        | none => none) else none
      | _, _ => none
    | .sc (.slice none 0 0) => match bindR rn j none with
      | some rn' => some (0, rn')
      | none => none
    | _ => none
  | .sp j k, x => match x with
    | .sl id k' off n c => match n, c with
      | some n, none => bif Nat.beq k k' then (match bindR rn j (some id) with
        | some rn' => some ((off, n), rn')
        | none => none) else none
      | _, _ => none
    | _ => none
  | .pt j k row c, x => match x with
    | .pt id k' row' c' => bif Nat.beq k k' && Nat.beq row row' && Nat.beq c c' then (match bindR rn j (some id) with
      | some rn' => some ((), rn')
      | none => none) else none
    | _ => none
  | .pr j k c, x => match x with
    | .pt id k' row c' => bif Nat.beq k k' && Nat.beq c c' then (match bindR rn j (some id) with
      | some rn' => some (row, rn')
      | none => none) else none
    | _ => none
  | .hv j, x => match x with
    | .hv id => match bindR rn j (some id) with
      | some rn' => some ((), rn')
      | none => none
    | _ => none
  | .lit v, x => match x with
    | .sc u => bif litEq v u then some ((), rn) else none
    | _ => none
def Sg.dec (rn : Rn) : (g : Sg) → List CV → Option (g.ty × Rn × List CV)
  | .t τ, l => match τ.dec l with
    | some (x, r) => bif hasCv τ then none else some (x, rn, r)
    | none => none
  | .k κ, l => match l with
    | c :: r => match κ.dec rn c with
      | some (x, rn') => some (x, rn', r)
      | none => none
    | [] => none
def gsDec (rn : Rn) : (l : List Sg) → List CV → Option (gsTy l × Rn)
  | [], cs => match cs with
    | [] => some ((), rn)
    | _ :: _ => none
  | g :: l, cs => match g.dec rn cs with
    | some (x, rn', r) => match gsDec rn' l r with
      | some (y, rn2) => some (pm g.hasD (gsD l) x y, rn2)
      | none => none
    | none => none
def PK.dec (rn : Rn) : (p : PK) → PV → Option (p.ty × Rn)
  | .c g, v => match v with
    | .c x => match g.dec rn [x] with
      | some (y, rn', []) => some (y, rn')
      | _ => none
    | _ => none
  | .ag l, v => match v with
    | .ag cs => gsDec rn l cs
    | _ => none
def slDec (rn : Rn) (K : Slo) : (l : List (Nat × PK)) → Option (slTy l × Rn)
  | [] => some ((), rn)
  | p :: l => match slDec rn K l with
    | some (y, rn') => match lkP K p.1 with
      | some v => match p.2.dec rn' v with
        | some (x, rn2) => some (pm p.2.hasD (slD l) x y, rn2)
        | none => none
      | none => none
    | none => none
def castL {τ' τ : TC} (e : tcEq τ' τ = true) (xs : List τ'.ty) : List τ.ty := tcEq_ok e ▸ xs
def castG {τ' τ : TC} (F : TC → Type) (e : tcEq τ' τ = true) (x : F τ') : F τ := tcEq_ok e ▸ x
def RK.dec (rn : Rn) : (r : RK) → Root → Option (r.ty × Rn)
  | .dead, _ => some ((), rn)
  | .ro τ, x => bif hasCv τ then none else match x with
    | .rows _ τ' xs => if e : tcEq τ' τ = true then some (castL e xs, rn) else none
    | .ro τ' xs => if e : tcEq τ' τ = true then some (castL e xs, rn) else none
    | _ => none
  | .rows T τ, x => bif hasCv τ then none else match x with
    | .rows T' τ' xs => bif Nat.beq T T' then (if e : tcEq τ' τ = true then some (castL e xs, rn) else none) else none
    | _ => none
  | .blk T l, x => match x with
    | .blk cs T' => bif Nat.beq T T' then gsDec rn l cs else none
    | _ => none
  | .clo f a b, x => match x with
    | .clo f' as bs => bif Nat.beq f f' then (match gsDec rn a as with
      | some (y, rn') => match gsDec rn' b bs with
        | some (z, rn2) => some (pm (gsD a) (gsD b) y z, rn2)
        | none => none
      | none => none) else none
    | _ => none
  | .mp κ agg τ, x => bif hasCv τ then none else match x with
    | .mp κ' agg' τ' ts => bif agg == agg' then (if e0 : kkEq κ' κ = true then (if e : tcEq τ' τ = true then some (castM (kkEq_ok e0) (tcEq_ok e) ts, rn) else none) else none) else none
    | _ => none
  | .ars t T τ, x => bif hasCv τ then none else match x with
    | .ars t' T' τ' os => bif Nat.beq t t' && Nat.beq T T' then (if e : tcEq τ' τ = true then some (castG (fun τ => List (Option (List τ.ty))) e os, rn) else none) else none
    | _ => none
  | .aro t T τ, x => bif hasCv τ then none else match x with
    | .aro t' T' τ' os => bif Nat.beq t t' && Nat.beq T T' then (if e : tcEq τ' τ = true then some (castL e os, rn) else none) else none
    | _ => none
  | .arm t κ agg τ, x => bif hasCv τ then none else match x with
    | .arm t' κ' agg' τ' os => bif Nat.beq t t' && (agg == agg') then (if e0 : kkEq κ' κ = true then (if e : tcEq τ' τ = true then some (castMO (kkEq_ok e0) (tcEq_ok e) os, rn) else none) else none) else none
    | _ => none
  | .arr t τ, x => bif hasCv τ then none else match x with
    | .arr t' τ' os => bif Nat.beq t t' then (if e : tcEq τ' τ = true then some (castG (fun τ => List (List τ.ty)) e os, rn) else none) else none
    | _ => none
/-- A nil slice is an empty one. -/
def RK.nil : (r : RK) → Option r.ty
  | .dead => some ()
  | .ro τ => bif hasCv τ then none else some []
  | .rows _ τ => bif hasCv τ then none else bif Nat.beq τ.w 0 then none else some []
  | _ => none
def RK.gone : (r : RK) → Option r.ty
  | .dead => some ()
  | _ => none
def rsDec (rn : Rn) (h : List Root) : (l : List RK) → Nat → Option (rsTy l × Rn)
  | [], _ => some ((), rn)
  | r :: l, j => match (match rn[j]? with
      | some (some (some id)) => (match h[id]? with
        | some x => r.dec rn x
        | none => none)
      | some (some none) => (match r.nil with
        | some x => some (x, rn)
        | none => none)
      | _ => (match r.gone with
        | some x => some (x, rn)
        | none => none)) with
    | some (x, rn') => match rsDec rn' h l (j + 1) with
      | some (y, rn2) => some (pm r.hasD (rsD l) x y, rn2)
      | none => none
    | none => none
/-- The first m roots are those that came in. -/
def rn0 : (m len j : Nat) → Rn
  | _, 0, _ => []
  | 0, len + 1, j => none :: rn0 0 len (j + 1)
  | m + 1, len + 1, j => some (some j) :: rn0 m len (j + 1)
def idIn (id : Nat) : Rn → Bool
  | [] => false
  | x :: rn => (match x with
    | some (some id') => Nat.beq id id'
    | _ => false) || idIn id rn
def nodupR : Rn → Bool
  | [] => true
  | x :: rn => (match x with
    | some (some id) => !idIn id rn
    | _ => true) && nodupR rn
/-- What roots that are gone stem from does not count. -/
def liveR : List RK → Rn → Rn
  | k :: l, x :: rn => (match k with
    | .dead => none
    | _ => x) :: liveR l rn
  | _, _ => []
/-- Arenas are found by their numbers. -/
def bindArs (h : List Root) : List RK → Nat → Rn → Option Rn
  | [], _, rn => some rn
  | r :: l, j, rn => match r.tag with
    | none => bindArs h l (j + 1) rn
    | some t => match rn[j]? with
      | some none => match findAr t h 0 with
        | some (id, _) => match bindR rn j (some id) with
          | some rn' => bindArs h l (j + 1) rn'
          | none => none
        | none => none
      | some (some _) => bindArs h l (j + 1) rn
      | none => none
def Sch.decR (s : Sch) (rn : Rn) (K : Slo) (h : List Root) : Option (s.ty × Rn) :=
  match bindArs h s.roots 0 rn with
  | some rn => match slDec rn K s.slots with
    | some (x, rn') => match rsDec rn' h s.roots 0 with
      | some (y, rn2) => bif nodupR (liveR s.roots rn2) && Nat.beq rn2.length s.roots.length && tagsIn (slTags s.slots ++ rsTags s.roots) s.roots then some (pm (slD s.slots) (rsD s.roots) x y, rn2) else none
      | none => none
    | none => none
  | none => none
end
end Go.Proofs.Ythmicafabimfkaa
