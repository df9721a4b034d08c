/- A part of the proof of the theorem of the last file. No condition. By an AI agent. -/
import Derived.Test.YtnomnijhlbalaaaGreatDoorWY1
namespace Go.Proofs.YtnomnijhlbalaaaGreatDoor
noncomputable section
open Go.RowKit
theorem xIS {A B C : Type} (f : A -> C) (a b : Bool) (hf : a = false -> ∀ x y, f x = f y) (d x : A) (y : B) : f (pf d a b (pm a b x y)) = f x := by
 cases a
 ·exact hf rfl _ _
 ·cases b <;> rfl
theorem xIR {A B C : Type} (f : B -> C) (a b : Bool) (hf : b = false -> ∀ x y, f x = f y) (d y : B) (x : A) : f (ps d a b (pm a b x y)) = f y := by
 cases a
 ·rfl
 ·cases b
  ·exact hf rfl _ _
  ·rfl
theorem Kd.enc_inv {ids : Nat -> Nat} {V : Kd} (h : V.hasD = false) (x y : V.ty) : V.enc ids x = V.enc ids y := by
 cases V <;> first | rfl | cases h
theorem Sg.enc_inv {ids : Nat -> Nat} {g : Sg} (h : g.hasD = false) (x y : g.ty) : g.enc ids x = g.enc ids y := by
 cases g with
 | t U => cases h
 | k V => exact congrArg (fun c => [c]) (Kd.enc_inv h x y)
theorem xBy {ids : Nat -> Nat} : ∀ {l : List Sg} (_ : gsD l = false) (x y : xNL l), xBW ids l x = xBW ids l y
 | [], _, _, _ => rfl
 | g :: l, h, x, y => by
  simp only [gsD, Bool.or_eq_false_iff] at h;simp only [xBW];rw [Sg.enc_inv h.1 (pf g.dflt g.hasD (gsD l) x) (pf g.dflt g.hasD (gsD l) y), xBy h.2 (ps (xJc l) g.hasD (gsD l) x) (ps (xJc l) g.hasD (gsD l) y)]
theorem xRG {ids : Nat -> Nat} {g : Sg} {l : List Sg} (x : g.ty) (y : xNL l) : xBW ids (g :: l) (pm g.hasD (gsD l) x y) = g.enc ids x ++ xBW ids l y := by
 simp only [xBW];rw [xIS (fun z => g.enc ids z) g.hasD (gsD l) (fun h => Sg.enc_inv h), xIR (fun z => xBW ids l z) g.hasD (gsD l) (fun h => xBy h)]
theorem PK.enc_inv {ids : Nat -> Nat} {p : PK} (h : p.hasD = false) (x y : p.ty) : p.enc ids x = p.enc ids y := by
 cases p with
 | c g => cases g with
  | t U => cases h
  | k V => exact congrArg PV.c (Kd.enc_inv h x y)
 | ag l => exact congrArg PV.ag (xBy h x y)
theorem xH8 {ids : Nat -> Nat} : ∀ {l : List (Nat × PK)} (_ : slD l = false) (x y : xNZ l), xAM ids l x = xAM ids l y
 | [], _, _, _ => rfl
 | p :: l, h, x, y => by
  simp only [slD, Bool.or_eq_false_iff] at h;simp only [xAM];rw [PK.enc_inv h.1 (pf p.2.dflt p.2.hasD (slD l) x) (pf p.2.dflt p.2.hasD (slD l) y), xH8 h.2 (ps (xWy l) p.2.hasD (slD l) x) (ps (xWy l) p.2.hasD (slD l) y)]
theorem xRd {ids : Nat -> Nat} {p : Nat × PK} {l : List (Nat × PK)} (x : p.2.ty) (y : xNZ l) : xAM ids (p :: l) (pm p.2.hasD (slD l) x y) = xDF (xAM ids l y) p.1 (p.2.enc ids x) := by
 simp only [xAM];rw [xIS (fun z => p.2.enc ids z) p.2.hasD (slD l) (fun h => PK.enc_inv h), xIR (fun z => xAM ids l z) p.2.hasD (slD l) (fun h => xH8 h)]
theorem clo_enc {ids : Nat -> Nat} {f : FuncId} {a b : List Sg} (x : xNL a) (y : xNL b) : (RK.clo f a b).enc ids (pm (gsD a) (gsD b) x y) = .clo f (xBW ids a x) (xBW ids b y) := by
 simp only [RK.enc];rw [xIS (fun z => xBW ids a z) (gsD a) (gsD b) (fun h => xBy h), xIR (fun z => xBW ids b z) (gsD a) (gsD b) (fun h => xBy h)]
theorem RK.enc_inv {ids : Nat -> Nat} {r : RK} (h : r.hasD = false) (x y : r.ty) : r.enc ids x = r.enc ids y := by
 cases r with
 | dead => rfl
 | ro U => cases h
 | rows T U => cases h
 | mp k agg U => cases h
 | ars t T U => cases h
 | aro t T U => cases h
 | arm t k agg U => cases h
 | arr t U => cases h
 | blk T l => exact congrArg (fun c => Root.blk c T) (xBy h x y)
 | clo f a b =>
  simp only [RK.hasD, Bool.or_eq_false_iff] at h;simp only [RK.enc];rw [xBy h.1 (pf (xJc a) (gsD a) (gsD b) x) (pf (xJc a) (gsD a) (gsD b) y), xBy h.2 (ps (xJc b) (gsD a) (gsD b) x) (ps (xJc b) (gsD a) (gsD b) y)]
theorem xFC {ids : Nat -> Nat} : ∀ {l : List RK} (_ : rsD l = false) (x y : xF8 l), xAe ids l x = xAe ids l y
 | [], _, _, _ => rfl
 | r :: l, h, x, y => by
  simp only [rsD, Bool.or_eq_false_iff] at h;simp only [xAe];rw [RK.enc_inv h.1 (pf r.dflt r.hasD (rsD l) x) (pf r.dflt r.hasD (rsD l) y), xFC h.2 (ps (rsDf l) r.hasD (rsD l) x) (ps (rsDf l) r.hasD (rsD l) y)]
theorem xEC {ids : Nat -> Nat} {r : RK} {l : List RK} (x : r.ty) (y : xF8 l) : xAe ids (r :: l) (pm r.hasD (rsD l) x y) = r.enc ids x :: xAe ids l y := by
 simp only [xAe];rw [xIS (fun z => r.enc ids z) r.hasD (rsD l) (fun h => RK.enc_inv h), xIR (fun z => xAe ids l z) r.hasD (rsD l) (fun h => xFC h)]
theorem Sch.enc_a {ids : Nat -> Nat} {s : Sch} (x : xNZ s.slots) (y : xF8 s.roots) : xAM ids s.slots (s.a (pm (slD s.slots) (rsD s.roots) x y)) = xAM ids s.slots x := xIS (fun z => xAM ids s.slots z) _ _ (fun h => xH8 h) _ _ _
theorem Sch.enc_b {ids : Nat -> Nat} {s : Sch} (x : xNZ s.slots) (y : xF8 s.roots) : xAe ids s.roots (s.b (pm (slD s.slots) (rsD s.roots) x y)) = xAe ids s.roots y := xIR (fun z => xAe ids s.roots z) _ _ (fun h => xFC h) _ _ _
def nilI : Info := ⟨none, 0, some 0, undef⟩
def mkI (rn : Rn) (O : List Info) : List Info :=
 rn.map fun x => match x with
  | some (some id) => (O[id]?).getD nilI
  | _ => nilI
def Agr (rn : Rn) (O Z : List Info) : Prop :=
 ∀ j : Nat, (∀ id, rn[j]? = some (some (some id)) -> Z[j]? = some ((O[id]?).getD nilI)) /\ (rn[j]? = some (some none) -> Z[j]? = some nilI)
def Le (rn rn' : Rn) : Prop := rn'.length = rn.length /\ ∀ (j : Nat) (x : Option Nat), rn[j]? = some (some x) -> rn'[j]? = some (some x)
theorem Le.refl (rn : Rn) : Le rn rn := ⟨rfl, fun _ _ h => h⟩
theorem Le.trans {a b c : Rn} (h : Le a b) (k : Le b c) : Le a c := ⟨k.1.trans h.1, fun j x e => k.2 j x (h.2 j x e)⟩
theorem Agr.of_le {rn rn' : Rn} {O Z : List Info} (h : Agr rn' O Z) (hl : Le rn rn') : Agr rn O Z := fun j => ⟨fun id e => (h j).1 id (hl.2 _ _ e), fun e => (h j).2 (hl.2 _ _ e)⟩
theorem Agr.mk (rn : Rn) (O : List Info) : Agr rn O (mkI rn O) := fun j => ⟨fun id e => by simp [mkI, e], fun e => by simp [mkI, e]⟩
theorem xCf {rn rn' : Rn} {j : Nat} {x : Option Nat} (h : xHj rn j x = some rn') : Le rn rn' /\ rn'[j]? = some (some x) := by
 unfold xHj at h;split at h
 ·rename_i hj;cases h;refine ⟨⟨by simp, fun q y e => ?_⟩, ?_⟩
  ·rw [List.getElem?_set];split
   ·rename_i e1;rw [<- e1, hj] at e;cases e
   ·exact e
  ·have := (List.getElem?_eq_some_iff.1 hj).1;simp [List.getElem?_set, this]
 ·rename_i y hj;split at h
  ·cases h; exact ⟨Le.refl _, hj⟩
  ·rename_i a b
   cases hb : Nat.beq a b with
   | false => rw [hb] at h; cases h
   | true => rw [hb] at h; cases h; have := nbT hb; subst this; exact ⟨Le.refl _, hj⟩
  ·cases h
 ·cases h
theorem xXa {v u : Value} (h : xXb v u = true) : v = u := by
 unfold xXb at h;split at h
 ·rfl
 ·rfl
 ·rfl
 ·rw [nbT h]
 ·simp only [Bool.and_eq_true] at h;rw [xDU h.1, eq_of_beq h.2]
 ·rw [eq_of_beq h]
 ·rename_i a b;have e : a.data.toList = b.data.toList := eq_of_beq h;obtain ⟨⟨a⟩⟩ := a;obtain ⟨⟨b⟩⟩ := b;cases e;rfl
 ·cases h
theorem xU1 {Z : List Info} {j k : Nat} (h : Z[j]? = some nilI) : Den Z (.sl j k 0 none none) (.slice none 0 0) :=
 ⟨nilI, none, 0, 0, h, rfl, Nat.le_refl _, Nat.zero_le _, fun h => absurd h (Nat.lt_irrefl _), ⟨0, rfl, rfl⟩, ⟨0, rfl, Nat.le_refl _⟩, rfl, rfl, fun _ => rfl, fun h => absurd h (Nat.lt_irrefl _)⟩
theorem Kd.dec_ok {V : Kd} {rn rn' : Rn} {c : CV} {x : V.ty} (h : V.dec rn c = some (x, rn')) : Le rn rn' /\ ∀ (O Z : List Info) (v : Value), Agr rn' O Z -> Den O c v -> Den Z (V.enc same x) v := by
 have get : ∀ {id j : Nat} {i : Info} {O Z : List Info}, rn'[j]? = some (some (some id)) -> Agr rn' O Z -> O[id]? = some i -> Z[j]? = some i := by
  intro id j i O Z h1 h2 h3;rw [(h2 j).1 id h1, h3]; rfl
 cases V with
 | sl j k =>
  simp only [Kd.dec] at h;split at h
  ·rename_i id k' off n c;split at h
   ·cases hb : Nat.beq k k' with
    | false => rw [hb] at h; cases h
    | true =>
     rw [hb] at h;have := nbT hb;subst this;simp only [cond_true] at h;split at h
     ·rename_i rn2 hr;cases h;obtain ⟨h1, h2⟩ := xCf hr;exact ⟨h1, fun O Z v ha ⟨i, a', c', nn, h3, h4⟩ => ⟨i, a', c', nn, get h2 ha h3, h4⟩⟩
     ·cases h
   ·cases h
  ·split at h
   ·rename_i rn2 hr;cases h;obtain ⟨h1, h2⟩ := xCf hr;exact ⟨h1, fun O Z v ha hd => by obtain ⟨rfl, _⟩ := hd; exact xU1 ((ha j).2 h2)⟩
   ·cases h
  ·cases h
 | sf j k n =>
  simp only [Kd.dec] at h;split at h
  ·rename_i id k' off m c;split at h
   ·rename_i m c
    cases hb : (Nat.beq k k' && Nat.beq n m && Nat.beq n c) with
    | false => rw [hb] at h; cases h
    | true =>
     rw [hb] at h;simp only [Bool.and_eq_true] at hb;obtain ⟨⟨b1, b2⟩, b3⟩ := hb;have b1 := nbT b1;have b2 := nbT b2;have b3 := nbT b3;subst b1; subst b2; subst b3;simp only [cond_true] at h;split at h
     ·rename_i rn2 hr;cases h;obtain ⟨h1, h2⟩ := xCf hr;exact ⟨h1, fun O Z v ha ⟨i, a', c', nn, h3, h4⟩ => ⟨i, a', c', nn, get h2 ha h3, h4⟩⟩
     ·cases h
   ·cases h
  ·cases h
 | so j k =>
  simp only [Kd.dec] at h;split at h
  ·rename_i id k' off n c;split at h
   ·cases hb : Nat.beq k k' with
    | false => rw [hb] at h; cases h
    | true =>
     rw [hb] at h;have := nbT hb;subst this;simp only [cond_true] at h;split at h
     ·rename_i rn2 hr;cases h;obtain ⟨h1, h2⟩ := xCf hr;exact ⟨h1, fun O Z v ha ⟨i, a', c', nn, h3, h4⟩ => ⟨i, a', c', nn, get h2 ha h3, h4⟩⟩
     ·cases h
   ·cases h
  ·split at h
   ·rename_i rn2 hr;cases h;obtain ⟨h1, h2⟩ := xCf hr;exact ⟨h1, fun O Z v ha hd => by obtain ⟨rfl, _⟩ := hd; exact xU1 ((ha j).2 h2)⟩
   ·cases h
  ·cases h
 | sp j k =>
  simp only [Kd.dec] at h;split at h
  ·rename_i id k' off n c;split at h
   ·rename_i n
    cases hb : Nat.beq k k' with
    | false => rw [hb] at h; cases h
    | true =>
     rw [hb] at h;have := nbT hb;subst this;simp only [cond_true] at h;split at h
     ·rename_i rn2 hr;cases h;obtain ⟨h1, h2⟩ := xCf hr;exact ⟨h1, fun O Z v ha ⟨i, a', c', nn, h3, h4⟩ => ⟨i, a', c', nn, get h2 ha h3, h4⟩⟩
     ·cases h
   ·cases h
  ·cases h
 | pt j k row c =>
  simp only [Kd.dec] at h;split at h
  ·rename_i id k' row' c'
   cases hb : (Nat.beq k k' && Nat.beq row row' && Nat.beq c c') with
   | false => rw [hb] at h; cases h
   | true =>
    rw [hb] at h;simp only [Bool.and_eq_true] at hb;obtain ⟨⟨b1, b2⟩, b3⟩ := hb;have b1 := nbT b1;have b2 := nbT b2;have b3 := nbT b3;subst b1; subst b2; subst b3;simp only [cond_true] at h;split at h
    ·rename_i rn2 hr;cases h;obtain ⟨h1, h2⟩ := xCf hr;exact ⟨h1, fun O Z v ha ⟨i, b, o, h3, h4⟩ => ⟨i, b, o, get h2 ha h3, h4⟩⟩
    ·cases h
  ·cases h
 | pr j k c =>
  simp only [Kd.dec] at h;split at h
  ·rename_i id k' row' c'
   cases hb : (Nat.beq k k' && Nat.beq c c') with
   | false => rw [hb] at h; cases h
   | true =>
    rw [hb] at h;simp only [Bool.and_eq_true] at hb;obtain ⟨b1, b3⟩ := hb;have b1 := nbT b1;have b3 := nbT b3;subst b1; subst b3;simp only [cond_true] at h;split at h
    ·rename_i rn2 hr;cases h;obtain ⟨h1, h2⟩ := xCf hr;exact ⟨h1, fun O Z v ha ⟨i, b, o, h3, h4⟩ => ⟨i, b, o, get h2 ha h3, h4⟩⟩
    ·cases h
  ·cases h
 | hv j =>
  simp only [Kd.dec] at h;split at h
  ·rename_i id;split at h
   ·rename_i rn2 hr;cases h;obtain ⟨h1, h2⟩ := xCf hr;exact ⟨h1, fun O Z v ha ⟨i, h3, h4⟩ => ⟨i, get h2 ha h3, h4⟩⟩
   ·cases h
  ·cases h
 | lit u =>
  simp only [Kd.dec] at h;split at h
  ·rename_i u'
   cases hb : xXb u u' with
   | false => rw [hb] at h; cases h
   | true =>
    rw [hb] at h;cases h;have := xXa hb;subst this;exact ⟨Le.refl _, fun O Z v _ hd => hd⟩
  ·cases h
 | any =>
  simp only [Kd.dec] at h;split at h
  ·cases h; exact ⟨Le.refl _, fun O Z v _ hd => Den.one hd⟩
  ·cases h; exact ⟨Le.refl _, fun O Z v _ hd => Den.one hd⟩
  ·cases h
def Cov (O Z : List Info) (t : Nat) : Prop := ∀ (id : Nat) (i : Info) (m : Nat) (v : Value), O[id]? = some i -> (i.objs t)[m]? = some v -> ∃ (id' : Nat) (i' : Info), Z[id']? = some i' /\ (i'.objs t)[m]? = some v
def Covs (O Z : List Info) (ts : List Nat) : Prop := ∀ t ∈ ts, Cov O Z t
theorem Covs.left {O Z : List Info} {a b : List Nat} (h : Covs O Z (a ++ b)) : Covs O Z a := fun t ht => h t (List.mem_append_left _ ht)
theorem Covs.right {O Z : List Info} {a b : List Nat} (h : Covs O Z (a ++ b)) : Covs O Z b := fun t ht => h t (List.mem_append_right _ ht)
theorem DenL.enc {O Z : List Info} : ∀ {U : TC}, xAy U = false -> Covs O Z U.tags -> ∀ {x : U.ty} {vs : List Value}, DenL O (U.enc x) vs -> DenL Z (U.enc x) vs
 | .int _, _, _, _, _, ⟨v, r, e, h1, h2⟩ => ⟨v, r, e, h1, h2⟩
 | .bool, _, _, _, _, ⟨v, r, e, h1, h2⟩ => ⟨v, r, e, h1, h2⟩
 | .str, _, _, _, _, ⟨v, r, e, h1, h2⟩ => ⟨v, r, e, h1, h2⟩
 | .er, _, _, _, _, ⟨v, r, e, h1, h2⟩ => ⟨v, r, e, h1, h2⟩
 | .cv, h, _, _, _, _ => by cases h
 | .nil, _, _, _, _, h => h
 | .rf q t, _, hc, n, _, ⟨v, r, e, h1, h2⟩ => ⟨v, r, e, h1.imp (fun h => h) (fun ⟨m, id, i, g1, g2, g3, g4⟩ => by
  obtain ⟨id', i', k1, k2⟩ := hc t (by simp [TC.tags]) id i m v g2 g3;exact ⟨m, id', i', g1, k1, k2, g4⟩), h2⟩
 | .pair a b, h, hc, x, vs, hd => by
  simp only [xAy, Bool.or_eq_false_iff] at h;obtain ⟨us, ws, e, h1, h2⟩ := DenL.split (cs := a.enc x.1) (ds := b.enc x.2) hd;rw [e];exact (DenL.enc h.1 hc.left h1).app (DenL.enc h.2 hc.right h2)
theorem DenL.flat {O Z : List Info} {U : TC} (h : xAy U = false) (hc : Covs O Z U.tags) : ∀ {xs : List U.ty} {vs : List Value}, DenL O (flat U xs) vs -> DenL Z (flat U xs) vs
 | [], _, hd => hd
 | x :: xs, vs, hd => by
  obtain ⟨us, ws, e, h1, h2⟩ := DenL.split (cs := U.enc x) (ds := Go.Proofs.YtnomnijhlbalaaaGreatDoor.flat U xs) hd;rw [e];exact (DenL.enc h hc h1).app (DenL.flat h hc h2)
theorem xF0 {O Z : List Info} {V : KK} {agg : Bool} {U : TC} (h : xAy U = false) (hc : Covs O Z U.tags) : ∀ {ts : List (V.ty × Nat × U.ty)} {es : List MapEntry}, EntOk O V agg U ts es -> EntOk Z V agg U ts es
 | [], _, hd => hd
 | x :: ts, es, ⟨e, r, h1, h2, ⟨h3, h4⟩, h5⟩ => by
  refine ⟨e, r, h1, h2, ⟨h3, ?_⟩, xF0 (agg := agg) h hc h5⟩
  cases agg with
  | true => obtain ⟨vs, g1, g2⟩ := h4; exact ⟨vs, DenL.enc h hc g1, g2⟩
  | false =>
   obtain ⟨c, g1, g2⟩ := h4;have := DenL.enc (Z := Z) h hc (x := x.2.2) (vs := [e.val]) (by
    have g1' : U.enc x.2.2 = [c] := g1;rw [g1']; exact ⟨e.val, [], rfl, g2, rfl⟩)
   have g1' : U.enc x.2.2 = [c] := g1;rw [g1'] at this;obtain ⟨v, r', e', k1, _⟩ := this;cases e';exact ⟨c, g1, k1⟩
theorem xEp {O Z : List Info} {V : KK} {agg : Bool} {U : TC} (h : xAy U = false) (hc : Covs O Z U.tags) {ts : List (V.ty × U.ty)} {es : Array MapEntry} {cl : Nat} : MapOk O V agg U ts es cl -> MapOk Z V agg U ts es cl
 | ⟨us, h1, h2⟩ => ⟨us, xF0 h hc h1, h2⟩
theorem Sg.dec_ok {g : Sg} {rn rn' : Rn} {cs r : List CV} {x : g.ty} (h : g.dec rn cs = some (x, rn', r)) : Le rn rn' /\ ∀ (O Z : List Info) (vs : List Value), Agr rn' O Z -> Covs O Z g.tags -> DenL O cs vs -> ∃ a b, vs = a ++ b /\ DenL Z (g.enc same x) a /\ DenL O r b := by
 cases g with
 | t U =>
  simp only [Sg.dec] at h;split at h
  ·rename_i y s hy
   cases hb : xAy U with
   | true => rw [hb] at h; cases h
   | false =>
    rw [hb] at h;cases h;refine ⟨Le.refl _, fun O Z vs _ hcv hd => ?_⟩;rw [TC.dec_enc U _ _ _ hy] at hd;obtain ⟨a, b, h1, h2, h3⟩ := hd.split;exact ⟨a, b, h1, DenL.enc hb hcv h2, h3⟩
  ·cases h
 | k V =>
  simp only [Sg.dec] at h;split at h
  ·rename_i c s;split at h
   ·rename_i y rn2 hy;cases h;obtain ⟨h1, h2⟩ := Kd.dec_ok hy;refine ⟨h1, fun O Z vs ha _ ⟨v, q, e, h3, h4⟩ => ⟨[v], q, by rw [e]; rfl, ⟨v, [], rfl, h2 O Z v ha h3, rfl⟩, h4⟩⟩
   ·cases h
  ·cases h
theorem xEN : ∀ {l : List Sg} {rn rn' : Rn} {cs : List CV} {x : xNL l}, xLc rn l cs = some (x, rn') -> Le rn rn' /\ ∀ (O Z : List Info) (vs : List Value), Agr rn' O Z -> Covs O Z (xG0 l) -> DenL O cs vs -> DenL Z (xBW same l x) vs
 | [], rn, rn', cs, x, h => by
  simp only [xLc] at h;split at h
  ·cases h; exact ⟨Le.refl _, fun O Z vs _ _ hd => hd⟩
  ·cases h
 | g :: l, rn, rn', cs, x, h => by
  simp only [xLc] at h;split at h
  ·rename_i y rn1 r hy;split at h
   ·rename_i z rn2 hz;cases h;obtain ⟨h1, h2⟩ := Sg.dec_ok hy;obtain ⟨h3, h4⟩ := xEN hz;refine ⟨h1.trans h3, fun O Z vs ha hcv hd => ?_⟩;have hcv' : Covs O Z (g.tags ++ xG0 l) := hcv;obtain ⟨a, b, e, h5, h6⟩ := h2 O Z vs (ha.of_le h3) hcv'.left hd;rw [e, xRG];exact h5.app (h4 O Z b ha hcv'.right h6)
   ·cases h
  ·cases h
theorem PK.dec_ok {p : PK} {rn rn' : Rn} {v : PV} {x : p.ty} (h : p.dec rn v = some (x, rn')) : Le rn rn' /\ ∀ (O Z : List Info) (u : Value), Agr rn' O Z -> Covs O Z p.tags -> DenP O v u -> DenP Z (p.enc same x) u := by
 cases p with
 | c g =>
  simp only [PK.dec] at h;split at h
  ·rename_i c;split at h
   ·rename_i y rn2 hy;cases h;obtain ⟨h1, h2⟩ := Sg.dec_ok hy;refine ⟨h1, fun O Z u ha hcv hd => ?_⟩;obtain ⟨a, b, e, h3, h4⟩ := h2 O Z [u] ha hcv ⟨u, [], rfl, hd, rfl⟩;have : b = [] := h4;subst this;rw [List.append_nil] at e;subst e
    cases g with
    | k V =>
     obtain ⟨u', r', e', h5, h6⟩ := h3;cases e';exact h5
    | t U =>
     show Den Z (xXn (U.enc x)) u;have h3' : DenL Z (U.enc x) [u] := h3;have hl := h3'.len
     match hg : U.enc x, hl with
     | [c'], _ =>
      rw [hg] at h3';obtain ⟨u', r', e', h5, h6⟩ := h3';cases e';exact h5
   ·cases h
  ·cases h
 | ag l =>
  simp only [PK.dec] at h;split at h
  ·rename_i cs;obtain ⟨h1, h2⟩ := xEN h;exact ⟨h1, fun O Z u ha hcv ⟨vs, h3, h4⟩ => ⟨vs, h2 O Z vs ha hcv h3, h4⟩⟩
  ·cases h
theorem xPs {K : Slo} : ∀ {l : List (Nat × PK)} {rn rn' : Rn} {x : xNZ l}, xSW rn K l = some (x, rn') -> Le rn rn' /\ ∀ (N : Nat) (D : List Deferred) (O Z : List Info) (a : Act), Agr rn' O Z -> Covs O Z (xH7 l) -> KOk N D O K a -> KOk N D Z (xAM same l x) a
 | [], rn, rn', x, h => by
  simp only [xSW] at h;cases h;exact ⟨Le.refl _, fun N D O Z a _ _ hK => ⟨hK.1, hK.2.1, fun t p e => by cases e⟩⟩
 | p :: l, rn, rn', x, h => by
  simp only [xSW] at h;split at h
  ·rename_i y rn1 hy;split at h
   ·rename_i v hv;split at h
    ·rename_i z rn2 hz;cases h;obtain ⟨h1, h2⟩ := xPs hy;obtain ⟨h3, h4⟩ := PK.dec_ok hz;refine ⟨h1.trans h3, fun N D O Z a ha hcv hK => ?_⟩;have hcv' : Covs O Z (p.2.tags ++ xH7 l) := hcv;have hK1 := h2 N D O Z a (ha.of_le h3) hcv'.right hK;refine ⟨hK.1, hK.2.1, fun t q e => ?_⟩;rw [xRd, xBj] at e;split at e
     ·rename_i et;cases e;obtain ⟨u, h5, h6⟩ := hK.2.2 _ _ hv;rw [et];exact ⟨u, h4 O Z u ha hcv'.left h5, h6⟩
     ·exact hK1.2.2 t q e
    ·cases h
   ·cases h
  ·cases h
def Tr (O Z : List Info) (x r : Root) : Prop := ∀ (w : World) (i : Info), RootOk O w i x -> RootOk Z w i r /\ (∀ b, own i r b -> own i x b) /\ (∀ b, foot i r b -> foot i x b)
theorem RK.dec_ok {r : RK} {rn rn' : Rn} {x : Root} {y : r.ty} (h : r.dec rn x = some (y, rn')) : Le rn rn' /\ ∀ (O Z : List Info), Agr rn' O Z -> Covs O Z r.tags -> Tr O Z x (r.enc same y) := by
 cases r with
 | dead =>
  cases h;exact ⟨Le.refl _, fun O Z _ _ w i _ => ⟨trivial, fun b hb => (by cases hb), fun b hb => (by cases hb)⟩⟩
 | ro U =>
  simp only [RK.dec] at h
  cases hc : xAy U with
  | true => rw [hc] at h; cases h
  | false =>
   rw [hc] at h;simp only [cond_false] at h;split at h
   ·rename_i T U' xs;split at h
    ·rename_i e;cases h;have e2 := xAz e;subst e2;refine ⟨Le.refl _, fun O Z _ hcv w i ⟨h0, h9, vs, h1, h2⟩ => ⟨⟨h0, vs, DenL.flat hc hcv h1, fun hp => ?_⟩, fun b hb => (by cases hb), fun b hb => ?_⟩⟩
     ·have hp' : 0 < xs.length := hp;rcases h2.2.2.2 with ⟨h3, _⟩ | ⟨g, o, cur, h3, h4, _⟩
      ·have := h2.2.1; omega
      ·refine ⟨g, o, h3, lt_of_block h4, fun j v hv => ?_⟩;have h5 := h2;rw [h3] at h5;exact xCR h5 hv
     ·have hb2 : foot i (.ro U' xs) b := hb
      cases xs with
      | nil => cases hb2
      | cons z zs => exact hb2
    ·cases h
   ·rename_i U' xs;split at h
    ·rename_i e;cases h;have e2 := xAz e;subst e2;refine ⟨Le.refl _, fun O Z _ hcv w i ⟨h0, vs, h1, h2⟩ => ⟨⟨h0, vs, DenL.flat hc hcv h1, h2⟩, fun b hb => (by cases hb), fun b hb => hb⟩⟩
    ·cases h
   ·cases h
 | rows T U =>
  simp only [RK.dec] at h
  cases hc : xAy U with
  | true => rw [hc] at h; cases h
  | false =>
   rw [hc] at h;simp only [cond_false] at h;split at h
   ·rename_i T' U' xs
    cases hb : Nat.beq T T' with
    | false => rw [hb] at h; cases h
    | true =>
     rw [hb] at h;have := nbT hb;subst this;simp only [cond_true] at h;split at h
     ·rename_i e;cases h;have e2 := xAz e;subst e2;exact ⟨Le.refl _, fun O Z _ hcv w i ⟨h0, h9, vs, h1, h2⟩ => ⟨⟨h0, h9, vs, DenL.flat hc hcv h1, h2⟩, fun b hb => hb, fun b hb => hb⟩⟩
     ·cases h
   ·cases h
 | blk T l =>
  simp only [RK.dec] at h;split at h
  ·rename_i cs T'
   cases hb : Nat.beq T T' with
   | false => rw [hb] at h; cases h
   | true =>
    rw [hb] at h;have := nbT hb;subst this;simp only [cond_true] at h;obtain ⟨h1, h2⟩ := xEN h;exact ⟨h1, fun O Z ha hcv w i ⟨h0, b, vs, h3, h4, h5⟩ => ⟨⟨⟨h0.1, by rw [h0.2, <- h4.len, (h2 O Z vs ha hcv h4).len]⟩, b, vs, h3, h2 O Z vs ha hcv h4, h5⟩, fun b hb => hb, fun b hb => hb⟩⟩
  ·cases h
 | clo f a b =>
  simp only [RK.dec] at h;split at h
  ·rename_i f' as1 bs
   cases hb : Nat.beq f f' with
   | false => rw [hb] at h; cases h
   | true =>
    rw [hb] at h;have := nbT hb;subst this;simp only [cond_true] at h;split at h
    ·rename_i y rn1 hy;split at h
     ·rename_i z rn2 hz;cases h;obtain ⟨h1, h2⟩ := xEN hy;obtain ⟨h3, h4⟩ := xEN hz;exact ⟨h1.trans h3, fun O Z ha hcv w i ⟨fs, cs, h5, h6, h7⟩ => by
       rw [clo_enc];exact ⟨⟨fs, cs, h2 O Z fs (ha.of_le h3) hcv.left h5, h4 O Z cs ha hcv.right h6, h7⟩, fun b hb => (by cases hb), fun b hb => (by cases hb)⟩⟩
     ·cases h
    ·cases h
  ·cases h
 | mp k agg U =>
  simp only [RK.dec] at h
  cases hc : xAy U with
  | true => rw [hc] at h; cases h
  | false =>
   rw [hc] at h;simp only [cond_false] at h;split at h
   ·rename_i V' agg' U' ts
    cases hb : (agg == agg') with
    | false => rw [hb] at h; cases h
    | true =>
     rw [hb] at h;simp only [beq_iff_eq] at hb;subst hb;simp only [cond_true] at h;split at h
     ·rename_i e0;have e1 := xCq e0;subst e1;split at h
      ·rename_i e;cases h;have e2 := xAz e;subst e2;exact ⟨Le.refl _, fun O Z _ hcv w i ⟨r, ents, clock, g1, g2, g3, g4⟩ => ⟨⟨r, ents, clock, g1, g2, g3, xEp hc hcv g4⟩, fun b hb => hb, fun b hb => hb⟩⟩
      ·cases h
     ·cases h
   ·cases h
 | ars t T U =>
  simp only [RK.dec] at h
  cases hc : xAy U with
  | true => rw [hc] at h; cases h
  | false =>
   rw [hc] at h;simp only [cond_false] at h;split at h
   ·rename_i t' T' U' os
    cases hb : (Nat.beq t t' && Nat.beq T T') with
    | false => rw [hb] at h; cases h
    | true =>
     rw [hb] at h;simp only [Bool.and_eq_true] at hb;have e1 := nbT hb.1;have e3 := nbT hb.2;subst e1; subst e3;simp only [cond_true] at h;split at h
     ·rename_i e;cases h;have e2 := xAz e;subst e2;refine ⟨Le.refl _, fun O Z _ hcv w i hA => ⟨⟨hA.1, fun m v ob h1 h2 => ?_, hA.2.2⟩, fun b hb => hb, fun b hb => hb⟩⟩;have h3 := hA.2.1 m v ob h1 h2;have h2' : (Root.ars t T U' os).obs[m]? = some ob := h2;simp only [Root.obs, List.getElem?_map] at h2';obtain ⟨x, hx, e⟩ := Option.map_eq_some_iff.1 h2'
      cases x with
      | none => subst e; trivial
      | some xs => subst e; obtain ⟨a, c, k1, k2, vs, k3, k4⟩ := h3; exact ⟨a, c, k1, k2, vs, DenL.flat hc hcv k3, k4⟩
     ·cases h
   ·cases h
 | aro t T U =>
  simp only [RK.dec] at h
  cases hc : xAy U with
  | true => rw [hc] at h; cases h
  | false =>
   rw [hc] at h;simp only [cond_false] at h;split at h
   ·rename_i t' T' U' os
    cases hb : (Nat.beq t t' && Nat.beq T T') with
    | false => rw [hb] at h; cases h
    | true =>
     rw [hb] at h;simp only [Bool.and_eq_true] at hb;have e1 := nbT hb.1;have e3 := nbT hb.2;subst e1; subst e3;simp only [cond_true] at h;split at h
     ·rename_i e;cases h;have e2 := xAz e;subst e2;refine ⟨Le.refl _, fun O Z _ hcv w i hA => ⟨⟨hA.1, fun m v ob h1 h2 => ?_, hA.2.2⟩, fun b hb => hb, fun b hb => hb⟩⟩;have h3 := hA.2.1 m v ob h1 h2;have h2' : (Root.aro t T U' os).obs[m]? = some ob := h2;simp only [Root.obs, List.getElem?_map] at h2';obtain ⟨x, hx, e⟩ := Option.map_eq_some_iff.1 h2';subst e; obtain ⟨a, c, k1, k2, vs, k3, k4⟩ := h3; exact ⟨a, c, k1, k2, vs, DenL.flat hc hcv k3, k4⟩
     ·cases h
   ·cases h
 | arm t k agg U =>
  simp only [RK.dec] at h
  cases hc : xAy U with
  | true => rw [hc] at h; cases h
  | false =>
   rw [hc] at h;simp only [cond_false] at h;split at h
   ·rename_i t' V' agg' U' os
    cases hb : (Nat.beq t t' && (agg == agg')) with
    | false => rw [hb] at h; cases h
    | true =>
     rw [hb] at h;simp only [Bool.and_eq_true, beq_iff_eq] at hb;have e1 := nbT hb.1;have e4 := hb.2;subst e1; subst e4;simp only [cond_true] at h;split at h
     ·rename_i e0;have e3 := xCq e0;subst e3;split at h
      ·rename_i e;cases h;have e2 := xAz e;subst e2;refine ⟨Le.refl _, fun O Z _ hcv w i hA => ⟨⟨hA.1, fun m v ob h1 h2 => ?_, hA.2.2⟩, fun b hb => hb, fun b hb => hb⟩⟩;have h3 := hA.2.1 m v ob h1 h2;have h2' : (Root.arm t V' agg U' os).obs[m]? = some ob := h2;simp only [Root.obs, List.getElem?_map] at h2';obtain ⟨x, hx, e⟩ := Option.map_eq_some_iff.1 h2'
       cases x with
       | none => subst e; trivial
       | some ts => subst e; obtain ⟨r, ents, cl, k1, k2, k3⟩ := h3; exact ⟨r, ents, cl, k1, k2, xEp hc hcv k3⟩
      ·cases h
     ·cases h
   ·cases h
 | arr t U =>
  simp only [RK.dec] at h
  cases hc : xAy U with
  | true => rw [hc] at h; cases h
  | false =>
   rw [hc] at h;simp only [cond_false] at h;split at h
   ·rename_i t' U' os
    cases hb : Nat.beq t t' with
    | false => rw [hb] at h; cases h
    | true =>
     rw [hb] at h;have e1 := nbT hb;subst e1;simp only [cond_true] at h;split at h
     ·rename_i e;cases h;have e2 := xAz e;subst e2;refine ⟨Le.refl _, fun O Z _ hcv w i hA => ⟨⟨hA.1, fun m v ob h1 h2 => ?_, hA.2.2⟩, fun b hb => hb, fun b hb => hb⟩⟩;have h3 := hA.2.1 m v ob h1 h2;have h2' : (Root.arr t U' os).obs[m]? = some ob := h2;simp only [Root.obs, List.getElem?_map] at h2';obtain ⟨x, hx, e⟩ := Option.map_eq_some_iff.1 h2';subst e; obtain ⟨a, c, k1, k2, k3, vs, k4, k5⟩ := h3; exact ⟨a, c, k1, k2, k3, vs, DenL.flat hc hcv k4, k5⟩
     ·cases h
   ·cases h
theorem RK.dec_tag {r : RK} {rn rn' : Rn} {x : Root} {y : r.ty} (h : r.dec rn x = some (y, rn')) {t : Nat} (ht : r.tag = some t) : x.tag = some t := by
 cases r <;> first | (cases ht; done) | skip
 all_goals
  cases ht;simp only [RK.dec] at h;rename_i U
  cases hc : xAy U with
  | true => rw [hc] at h; cases h
  | false =>
   rw [hc] at h;simp only [cond_false] at h;split at h
   ·first
    | (generalize hq : (Nat.beq _ _ && _) = b at h
       cases b with
       | false => cases h
       | true =>
        simp only [Bool.and_eq_true] at hq;have e1 := nbT hq.1;subst e1;rfl)
    | (generalize hq : Nat.beq _ _ = b at h
       cases b with
       | false => cases h
       | true =>
        have e1 := nbT hq;subst e1;rfl)
   ·cases h
theorem RK.enc_tag {r : RK} {ids : Nat -> Nat} {y : r.ty} : (r.enc ids y).tag = r.tag := by
 cases r <;> rfl
theorem RK.nil_ok {r : RK} {y : r.ty} (h : r.nil = some y) (Z : List Info) (w : World) : RootOk Z w nilI (r.enc same y) /\ (∀ b, ¬ own nilI (r.enc same y) b) /\ (∀ b, ¬ foot nilI (r.enc same y) b) := by
 cases r with
 | dead => exact ⟨trivial, fun b hb => hb, fun b hb => hb⟩
 | ro U =>
  simp only [RK.nil] at h
  cases hc : xAy U with
  | true => rw [hc] at h; cases h
  | false => rw [hc] at h; cases h; exact ⟨⟨rfl, [], rfl, fun hp => absurd hp (Nat.lt_irrefl _)⟩, fun b hb => hb, fun b hb => hb⟩
 | rows T U =>
  simp only [RK.nil] at h
  cases hc : xAy U with
  | true => rw [hc] at h; cases h
  | false =>
   rw [hc] at h;simp only [cond_false] at h
   cases hz : Nat.beq U.w 0 with
   | true => rw [hz] at h; cases h
   | false =>
    rw [hz] at h;cases h;have hw := Nat.ne_of_beq_eq_false hz;exact ⟨⟨rfl, by omega, [], rfl, by simp, Nat.le_refl _, Nat.zero_le _, .inl ⟨rfl, fun b hb => by cases hb⟩⟩, fun b hb => (by cases hb), fun b hb => (by cases hb)⟩
 | _ => cases h
theorem RK.gone_ok {r : RK} {y : r.ty} (h : r.gone = some y) : r.enc same y = .dead := by
 cases r <;> first | rfl | cases h
theorem xDO {h : List Root} : ∀ {l : List RK} {rn rn' : Rn} {j0 : Nat} {y : xF8 l}, xGg rn h l j0 = some (y, rn') -> Le rn rn' /\ ∀ (O Z : List Info), Agr rn' O Z -> Covs O Z (xC6 l) -> ∀ (q : Nat) (r : Root), (xAe same l y)[q]? = some r ->
  r = .dead \/ (∃ id x, rn'[j0 + q]? = some (some (some id)) /\ h[id]? = some x /\ Tr O Z x r) \/ (rn'[j0 + q]? = some (some none) /\ ∀ w, RootOk Z w nilI r /\ (∀ b, ¬ own nilI r b) /\ (∀ b, ¬ foot nilI r b))
 | [], rn, rn', j0, y, he => by
  cases he;exact ⟨Le.refl _, fun O Z _ _ q r e => by simp [xAe] at e⟩
 | k :: l, rn, rn', j0, y, he => by
  simp only [xGg] at he;split at he
  ·rename_i x rn1 hx;split at he
   ·rename_i z rn2 hz;cases he;obtain ⟨h3, h4⟩ := xDO hz;have key : Le rn rn1 /\ ∀ (O Z : List Info), Agr rn1 O Z -> Covs O Z k.tags -> (k.enc same x = .dead \/ (∃ id x0, rn1[j0]? = some (some (some id)) /\ h[id]? = some x0 /\ Tr O Z x0 (k.enc same x)) \/ (rn1[j0]? = some (some none) /\ ∀ w, RootOk Z w nilI (k.enc same x) /\ (∀ b, ¬ own nilI (k.enc same x) b) /\ (∀ b, ¬ foot nilI (k.enc same x) b))) := by
     split at hx
     ·rename_i id hj;split at hx
      ·rename_i x0 h0;obtain ⟨h5, h6⟩ := RK.dec_ok hx;exact ⟨h5, fun O Z ha hcv => .inr (.inl ⟨id, x0, h5.2 _ _ hj, h0, h6 O Z ha hcv⟩)⟩
      ·cases hx
     ·rename_i hj;split at hx
      ·rename_i x0 h0;cases hx;exact ⟨Le.refl _, fun O Z _ _ => .inr (.inr ⟨hj, RK.nil_ok h0 Z⟩)⟩
      ·cases hx
     ·split at hx
      ·rename_i x0 h0;cases hx;exact ⟨Le.refl _, fun O Z _ _ => .inl (RK.gone_ok h0)⟩
      ·cases hx
    refine ⟨key.1.trans h3, fun O Z ha hcv q r e => ?_⟩;have hcv' : Covs O Z (k.tags ++ xC6 l) := hcv
    cases q with
    | zero =>
     rw [xEC] at e;simp only [List.getElem?_cons_zero, Option.some.injEq] at e;subst e;rcases key.2 O Z (ha.of_le h3) hcv'.left with h5 | ⟨id, x0, h5, h6, h7⟩ | ⟨h5, h6⟩
     ·exact .inl h5
     ·exact .inr (.inl ⟨id, x0, h3.2 _ _ h5, h6, h7⟩)
     ·exact .inr (.inr ⟨h3.2 _ _ h5, h6⟩)
    | succ q =>
     rw [xEC] at e;simp only [List.getElem?_cons_succ] at e;have := h4 O Z ha hcv'.right q r e;rw [show j0 + 1 + q = j0 + (q + 1) by omega] at this;exact this
   ·cases he
  ·cases he
theorem xUy {id : Nat} : ∀ {rn : Rn} {q : Nat}, rn[q]? = some (some (some id)) -> idIn id rn = true
 | [], q, h => by simp at h
 | x :: rn, 0, h => by
  simp only [List.getElem?_cons_zero, Option.some.injEq] at h;subst h;simp [idIn, Nat.beq_refl]
 | x :: rn, q + 1, h => by
  simp only [List.getElem?_cons_succ] at h;simp [idIn, xUy h]
theorem xMI : ∀ {rn : Rn}, xEY rn = true -> ∀ {p q id : Nat}, rn[p]? = some (some (some id)) -> rn[q]? = some (some (some id)) -> p = q
 | [], _, p, q, id, h1, _ => by simp at h1
 | x :: rn, hn, p, q, id, h1, h2 => by
  simp only [xEY, Bool.and_eq_true] at hn;have no : ∀ q : Nat, x = some (some id) -> rn[q]? = some (some (some id)) -> False := by
   intro q e hq;subst e;have := hn.1;simp only [Bool.not_eq_true'] at this;rw [xUy hq] at this;cases this
  cases p with
  | zero =>
   simp only [List.getElem?_cons_zero, Option.some.injEq] at h1
   cases q with
   | zero => rfl
   | succ q => simp only [List.getElem?_cons_succ] at h2; exact (no q h1 h2).elim
  | succ p =>
   simp only [List.getElem?_cons_succ] at h1
   cases q with
   | zero => simp only [List.getElem?_cons_zero, Option.some.injEq] at h2; exact (no p h2 h1).elim
   | succ q =>
    simp only [List.getElem?_cons_succ] at h2;rw [xMI hn.2 h1 h2]
theorem xIv : ∀ {l : List RK} {rn : Rn} {p : Nat} {k : RK} {x : Option (Option Nat)}, l[p]? = some k -> k ≠ .dead -> rn[p]? = some x -> (xIw l rn)[p]? = some x
 | [], _, _, _, _, h, _, _ => by simp at h
 | _ :: _, [], _, _, _, _, _, h => by simp at h
 | k0 :: l, x0 :: rn, 0, k, x, h1, h2, h3 => by
  simp only [List.getElem?_cons_zero, Option.some.injEq] at h1 h3;subst h1; subst h3;simp only [xIw, List.getElem?_cons_zero]
 | k0 :: l, x0 :: rn, p + 1, k, x, h1, h2, h3 => by
  simp only [xIw, List.getElem?_cons_succ] at *;exact xIv h1 h2 h3
theorem xCC {ids : Nat -> Nat} : ∀ {l : List RK} {y : xF8 l} {q : Nat} {r : Root}, (xAe ids l y)[q]? = some r -> ∃ k, l[q]? = some k /\ ∃ y : k.ty, r = k.enc ids y
 | [], _, q, r, h => by simp [xAe] at h
 | k :: l, y, 0, r, h => by
  simp only [xAe, List.getElem?_cons_zero, Option.some.injEq] at h;exact ⟨k, rfl, _, h.symm⟩
 | k :: l, y, q + 1, r, h => by
  simp only [xAe, List.getElem?_cons_succ] at h;obtain ⟨k', h1, h2⟩ := xCC h;exact ⟨k', by simpa using h1, h2⟩
theorem xDr (ids : Nat -> Nat) : ∀ (l : List RK) (y : xF8 l), (xAe ids l y).length = l.length
 | [], _ => rfl
 | r :: l, y => by simp [xAe, xDr ids l]
theorem xEh {h : List Root} : ∀ {l : List RK} {rn rn' : Rn} {j0 : Nat} {y : xF8 l}, xGg rn h l j0 = some (y, rn') -> ∀ (q : Nat) (k : RK) (t : Nat), l[q]? = some k -> k.tag = some t -> ∃ id x, rn'[j0 + q]? = some (some (some id)) /\ h[id]? = some x /\ x.tag = some t
 | [], rn, rn', j0, y, he => fun q k t e => by simp at e
 | k0 :: l, rn, rn', j0, y, he => by
  simp only [xGg] at he;split at he
  ·rename_i x rn1 hx;split at he
   ·rename_i z rn2 hz;cases he;have hle := (xDO hz).1;intro q k t e ht
    cases q with
    | zero =>
     simp only [List.getElem?_cons_zero, Option.some.injEq] at e;subst e;split at hx
     ·rename_i id hj;split at hx
      ·rename_i x0 h0;have h5 := (RK.dec_ok hx).1;exact ⟨id, x0, hle.2 _ _ (h5.2 _ _ hj), h0, RK.dec_tag hx ht⟩
      ·cases hx
     ·split at hx
      ·rename_i x0 h0;cases k0 <;> first | (cases ht; done) | cases h0
      ·cases hx
     ·split at hx
      ·rename_i x0 h0;cases k0 <;> first | (cases ht; done) | cases h0
      ·cases hx
    | succ q =>
     obtain ⟨id, x0, g1, g2⟩ := xEh hz q k t (by simpa using e) ht;exact ⟨id, x0, by rw [show j0 + (q + 1) = j0 + 1 + q by omega]; exact g1, g2⟩
   ·cases he
  ·cases he
theorem xLU {ts : List Nat} {l : List RK} (h : xAI ts l = true) {t : Nat} (ht : t ∈ ts) : ∃ (q : Nat) (k : RK), l[q]? = some k /\ k.tag = some t := by
 unfold xAI at h;rw [List.all_eq_true] at h;obtain ⟨k, hk, hb⟩ := List.any_eq_true.1 (h t ht);obtain ⟨q, hq⟩ := List.getElem?_of_mem hk;refine ⟨q, k, hq, ?_⟩;split at hb
 ·rename_i t' ht'; rw [ht', nbT hb]
 ·cases hb
theorem xMr {l : List RK} {rn rn' : Rn} {h : List Root} {z : xF8 l} (hz : xGg rn h l 0 = some (z, rn')) {ts : List Nat} (ht : xAI ts l = true) {S F : List Nat} {W0 : World} {O : List Info} {w : World} (hh : HOk S F W0 O h w) : Covs O (mkI rn' O) ts := by
 intro t hm id i m v hi hv;obtain ⟨q, k, h1, h2⟩ := xLU ht hm;obtain ⟨p, x, h3, h4, h5⟩ := xEh hz q k t h1 h2;rw [Nat.zero_add] at h3;obtain ⟨ip, hip⟩ := hh.info h4;exact ⟨q, ip, by rw [((Agr.mk rn' O) q).1 p h3, hip]; rfl, hh.cov p t x ip h4 hip h5 id i m v hi hv⟩
theorem xAx (t : Nat) : nilI.objs t = [] := rfl
theorem Cln.of {i : Info} {x r : Root} (hc : Cln i x) (hx : x ≠ .dead) (ht : x.tag = r.tag) : Cln i r := by
 rcases hc with g | g
 ·exact absurd g hx
 ·exact .inr fun t h => g t (by rw [ht]; exact h)
theorem RK.dec_cln {rn rn' : Rn} {k : RK} {x : Root} {y : k.ty} (h : k.dec rn x = some (y, rn')) {i : Info} (hc : Cln i x) : Cln i (k.enc same y) := by
 cases ht : k.tag with
 | some t =>
  have h1 := RK.dec_tag h ht;exact hc.of (fun e => by rw [e] at h1; cases h1) (by rw [RK.enc_tag, ht, h1])
 | none =>
  refine (?_ : k = .dead \/ (x ≠ .dead /\ x.tag = none)).elim (fun e => by subst e; exact .inl rfl) (fun e => hc.of e.1 (by rw [RK.enc_tag, ht, e.2]));cases k <;> first | (cases ht; done) | (exact .inl rfl) | skip
  all_goals
   right;simp only [RK.dec] at h;cases x <;> first | exact ⟨fun e => Root.noConfusion e, rfl⟩ | (exfalso; revert h; first | (intro h; cases h; done) | (cases xAy _ <;> intro h <;> cases h))
theorem xMs {h : List Root} : ∀ {l : List RK} {rn rn' : Rn} {j0 : Nat} {y : xF8 l}, xGg rn h l j0 = some (y, rn') -> ∀ (q : Nat) (r : Root), (xAe same l y)[q]? = some r -> r = .dead \/ (∃ id x, rn'[j0 + q]? = some (some (some id)) /\ h[id]? = some x /\ ∀ i, Cln i x -> Cln i r) \/ rn'[j0 + q]? = some (some none)
 | [], rn, rn', j0, y, he => fun q r e => by simp [xAe] at e
 | k :: l, rn, rn', j0, y, he => by
  simp only [xGg] at he;split at he
  ·rename_i x rn1 hx;split at he
   ·rename_i z rn2 hz;cases he;have hle := (xDO hz).1;intro q r e
    cases q with
    | zero =>
     rw [xEC] at e;simp only [List.getElem?_cons_zero, Option.some.injEq] at e;subst e;split at hx
     ·rename_i id hj;split at hx
      ·rename_i x0 h0;have h5 := (RK.dec_ok hx).1;exact .inr (.inl ⟨id, x0, hle.2 _ _ (h5.2 _ _ hj), h0, fun i hi => RK.dec_cln hx hi⟩)
      ·cases hx
     ·rename_i hj;split at hx
      ·cases hx;exact .inr (.inr (hle.2 _ _ hj))
      ·cases hx
     ·split at hx
      ·rename_i x0 h0;cases hx;exact .inl (RK.gone_ok h0)
      ·cases hx
    | succ q =>
     rw [xEC] at e;simp only [List.getElem?_cons_succ] at e;rcases xMs hz q r e with g | ⟨id, x0, g1, g2⟩ | g
     ·exact .inl g
     ·exact .inr (.inl ⟨id, x0, by rw [show j0 + (q + 1) = j0 + 1 + q by omega]; exact g1, g2⟩)
     ·exact .inr (.inr (by rw [show j0 + (q + 1) = j0 + 1 + q by omega]; exact g))
   ·cases he
  ·cases he
theorem mkI_src {rn : Rn} {O : List Info} {q : Nat} {j : Info} (h : (mkI rn O)[q]? = some j) : (∃ id : Nat, O[id]? = some j) \/ j = nilI := by
 simp only [mkI, List.getElem?_map] at h;obtain ⟨x, hx, e⟩ := Option.map_eq_some_iff.1 h;split at e
 ·rename_i id
  cases hr : O[id]? with
  | none => rw [hr] at e; exact .inr e.symm
  | some i => rw [hr] at e; exact .inl ⟨id, by rw [hr]; exact congrArg some e⟩
 ·exact .inr e.symm
theorem rs_hok {l : List RK} {rn rn' : Rn} {h : List Root} {z : xF8 l} (hz : xGg rn h l 0 = some (z, rn')) (hn : xEY (xIw l rn') = true) (hl : rn'.length = l.length) (htg : xAI (xC6 l) l = true) {S F : List Nat} {W0 : World} {O : List Info} {w : World} (hh : HOk S F W0 O h w) : HOk S F W0 (mkI rn' O) (xAe same l z) w := by
 obtain ⟨h3, h4⟩ := xDO hz;have ha := Agr.mk rn' O;have h5 := h4 O _ ha (xMr hz htg hh);have get : ∀ (q id : Nat) (i : Info) (x : Root), rn'[q]? = some (some (some id)) -> h[id]? = some x -> (mkI rn' O)[q]? = some i -> O[id]? = some i := by
  intro q id i x e1 e2 e3;obtain ⟨i0, e4⟩ := hh.info e2;rw [(ha q).1 id e1, e4] at e3;rw [e4, <- e3]; rfl
 have getn : ∀ (q : Nat) (i : Info), rn'[q]? = some (some none) -> (mkI rn' O)[q]? = some i -> i = nilI := by
  intro q i e1 e3;rw [(ha q).2 e1] at e3;cases e3; rfl
 refine ⟨hh.ext, by rw [xDr]; simp [mkI, hl], fun q r i hr hi => ?_, fun p q r s i j b hpq hr hs hi hj ho => ?_, fun q r i b hr hi ho => ?_, fun q r i b hr hi ho => ?_, hh.lay, hh.out, fun q t r i hr hi ht id j m v hj hv => ?_, fun q r i hr hi => ?_⟩
 rotate_right
 ·rcases xMs hz q r hr with g | ⟨id, x, g1, g2, g3⟩ | g
  ·exact .inl g
  ·rw [Nat.zero_add] at g1;have gi := get q id i x g1 g2 hi;exact g3 i (hh.cln id x i g2 gi)
  ·rw [Nat.zero_add] at g;rw [getn q i g hi];exact .inr fun t _ => xAx t
 rotate_right
 ·rcases h5 q r hr with rfl | ⟨id0, x0, g1, g2, g3⟩ | ⟨g1, g2⟩
  ·cases ht
  ·rw [Nat.zero_add] at g1;have gi := get q id0 i x0 g1 g2 hi;obtain ⟨k, hk, hkt⟩ : ∃ k, l[q]? = some k /\ k.tag = some t := by
    obtain ⟨k, hk, hkr⟩ := xCC hr;obtain ⟨y, rfl⟩ := hkr;exact ⟨k, hk, by rw [<- ht, RK.enc_tag]⟩
   obtain ⟨id1, x1, k1, k2, k3⟩ := xEh hz q k t hk hkt;rw [Nat.zero_add, g1] at k1;cases k1;rw [g2] at k2;cases k2;obtain ⟨jd, hj2⟩ | hj2 := mkI_src hj
   ·exact hh.cov id0 t x0 i g2 gi k3 jd j m v hj2 hv
   ·rw [hj2, xAx] at hv; simp at hv
  ·rw [Nat.zero_add] at g1;obtain ⟨k, hk, hkt⟩ : ∃ k, l[q]? = some k /\ k.tag = some t := by
    obtain ⟨k, hk, hkr⟩ := xCC hr;obtain ⟨y, rfl⟩ := hkr;exact ⟨k, hk, by rw [<- ht, RK.enc_tag]⟩
   obtain ⟨id1, x1, k1, k2, k3⟩ := xEh hz q k t hk hkt;rw [Nat.zero_add, g1] at k1;cases k1
 ·rcases h5 q r hr with rfl | ⟨id, x0, g1, g2, g3⟩ | ⟨g1, g2⟩
  ·trivial
  ·rw [Nat.zero_add] at g1;exact (g3 w i (hh.ok id x0 i g2 (get q id i x0 g1 g2 hi))).1
  ·rw [Nat.zero_add] at g1;rw [getn q i g1 hi];exact (g2 w).1
 ·rcases h5 p r hr with rfl | ⟨id, x0, g1, g2, g3⟩ | ⟨g1, g2⟩
  ·cases ho
  ·rw [Nat.zero_add] at g1;have gi := get p id i x0 g1 g2 hi;have go := (g3 w i (hh.ok id x0 i g2 gi)).2.1 b ho;rcases h5 q s hs with rfl | ⟨id', x1, k1, k2, k3⟩ | ⟨k1, k2⟩
   ·exact xBa
   ·rw [Nat.zero_add] at k1;have ki := get q id' j x1 k1 k2 hj;intro hf;have kf := (k3 w j (hh.ok id' x1 j k2 ki)).2.2 b hf;refine hh.sep id id' x0 x1 i j b (fun e => ?_) g2 k2 gi ki go kf;subst e;obtain ⟨kp, hkp, yp, ep⟩ := xCC hr;obtain ⟨kq, hkq, yq, eq⟩ := xCC hs;exact hpq (xMI hn (xIv hkp (fun e => by subst e; rw [ep] at ho; cases ho) g1) (xIv hkq (fun e => by subst e; rw [eq] at hf; exact xBa hf) k1))
   ·rw [Nat.zero_add] at k1;rw [getn q j k1 hj];exact (k2 w).2.2 b
  ·rw [Nat.zero_add] at g1;rw [getn p i g1 hi] at ho;exact absurd ho ((g2 w).2.1 b)
 ·rcases h5 q r hr with rfl | ⟨id, x0, g1, g2, g3⟩ | ⟨g1, g2⟩
  ·cases ho
  ·rw [Nat.zero_add] at g1;have gi := get q id i x0 g1 g2 hi;exact hh.mine id x0 i b g2 gi ((g3 w i (hh.ok id x0 i g2 gi)).2.1 b ho)
  ·rw [Nat.zero_add] at g1;rw [getn q i g1 hi] at ho;exact absurd ho ((g2 w).2.1 b)
 ·rcases h5 q r hr with rfl | ⟨id, x0, g1, g2, g3⟩ | ⟨g1, g2⟩
  ·exact absurd ho xBa
  ·rw [Nat.zero_add] at g1;have gi := get q id i x0 g1 g2 hi;exact hh.near id x0 i b g2 gi ((g3 w i (hh.ok id x0 i g2 gi)).2.2 b ho)
  ·rw [Nat.zero_add] at g1;rw [getn q i g1 hi] at ho;exact absurd ho ((g2 w).2.2 b)
theorem xDC {h : List Root} : ∀ {l : List RK} {j : Nat} {rn rn' : Rn}, xFn h l j rn = some rn' -> Le rn rn'
 | [], j, rn, rn', he => by cases he; exact Le.refl _
 | r :: l, j, rn, rn', he => by
  simp only [xFn] at he;split at he
  ·exact xDC he
  ·split at he
   ·split at he
    ·split at he
     ·rename_i hb; exact (xCf hb).1.trans (xDC he)
     ·cases he
    ·cases he
   ·exact xDC he
   ·cases he
theorem Sch.decR_cov {s : Sch} {rn rn' : Rn} {K : Slo} {h : List Root} {x : s.ty} (hd : s.decR rn K h = some (x, rn')) {S F : List Nat} {W0 : World} {O : List Info} {w : World} (hh : HOk S F W0 O h w) {ts : List Nat} (ht : xAI ts s.roots = true) : Covs O (mkI rn' O) ts := by
 unfold Sch.decR at hd;split at hd
 rotate_right
 ·cases hd
 split at hd
 ·split at hd
  ·rename_i z rn2 hz;generalize hb : (xEY (xIw s.roots rn2) && Nat.beq rn2.length s.roots.length && xAI (xH7 s.slots ++ xC6 s.roots) s.roots) = b at hd
   cases b with
   | false => cases hd
   | true => cases hd; exact xMr hz ht hh
  ·cases hd
 ·cases hd
theorem Sch.decR_ok {s : Sch} {rn rn' : Rn} {K : Slo} {h : List Root} {x : s.ty} (hd : s.decR rn K h = some (x, rn')) : Le rn rn' /\ ∀ {N : Nat} {D : List Deferred} {S F : List Nat} {W0 : World} {O : List Info} {a : Act} {w : World}, KOk N D O K a -> HOk S F W0 O h w ->
  KOk N D (mkI rn' O) (xAM same s.slots (s.a x)) a /\ HOk S F W0 (mkI rn' O) (xAe same s.roots (s.b x)) w := by
 unfold Sch.decR at hd;split at hd
 rotate_right
 ·cases hd
 rename_i rn00 hb0;have hle0 := xDC hb0;split at hd
 ·rename_i y rn1 hy;split at hd
  ·rename_i z rn2 hz
   cases hb : (xEY (xIw s.roots rn2) && Nat.beq rn2.length s.roots.length && xAI (xH7 s.slots ++ xC6 s.roots) s.roots) with
   | false => rw [hb] at hd; cases hd
   | true =>
    rw [hb] at hd;cases hd;simp only [Bool.and_eq_true] at hb;obtain ⟨⟨hn, hl⟩, htg⟩ := hb;obtain ⟨h1, h2⟩ := xPs hy;have h3 := (xDO hz).1;exact ⟨hle0.trans (h1.trans h3), fun {N D S F W0 O a w} hK hh => by
     rw [Sch.enc_a, Sch.enc_b];have htg2 : xAI (xC6 s.roots) s.roots = true := by
      unfold xAI at htg ⊢;rw [List.all_append, Bool.and_eq_true] at htg;exact htg.2
     exact ⟨h2 N D O _ a ((Agr.mk rn' O).of_le h3) (xMr hz htg hh).left hK, rs_hok hz hn (nbT hl) htg2 hh⟩⟩
  ·cases hd
 ·cases hd
end
end Go.Proofs.YtnomnijhlbalaaaGreatDoor
