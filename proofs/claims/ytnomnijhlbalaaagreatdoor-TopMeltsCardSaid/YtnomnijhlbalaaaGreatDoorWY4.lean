/- A part of the proof of the theorem of the last file. No condition. By an AI agent. -/
import Derived.Test.YtnomnijhlbalaaaGreatDoorWY3
namespace Go.Proofs.YtnomnijhlbalaaaGreatDoor
noncomputable section
open Go.RowKit
def Sh (ids : Nat -> Nat) (ι ρ : List Info) : Prop := ∀ (j : Nat) (i : Info), ι[j]? = some i -> ρ[ids j]? = some i
section
variable {ids : Nat -> Nat} {ι ρ : List Info}
theorem Sh.covs (h : Sh ids ι ρ) (ts : List Nat) : Covs ι ρ ts := fun _ _ id i _ _ hi hv => ⟨ids id, i, h id i hi, hv⟩
theorem Kd.move (h : Sh ids ι ρ) {κ : Kd} {x : κ.ty} {v : Value} (hd : Den ι (κ.enc same x) v) : Den ρ (κ.enc ids x) v := by
 cases κ with
 | sl j k => obtain ⟨i, a', c', nn, h1, h2⟩ := hd; exact ⟨i, a', c', nn, h _ _ h1, h2⟩
 | so j k => obtain ⟨i, a', c', nn, h1, h2⟩ := hd; exact ⟨i, a', c', nn, h _ _ h1, h2⟩
 | sf j k n => obtain ⟨i, a', c', nn, h1, h2⟩ := hd; exact ⟨i, a', c', nn, h _ _ h1, h2⟩
 | sp j k => obtain ⟨i, a', c', nn, h1, h2⟩ := hd; exact ⟨i, a', c', nn, h _ _ h1, h2⟩
 | pt j k row c => obtain ⟨i, b, o, h1, h2⟩ := hd; exact ⟨i, b, o, h _ _ h1, h2⟩
 | pr j k c => obtain ⟨i, b, o, h1, h2⟩ := hd; exact ⟨i, b, o, h _ _ h1, h2⟩
 | hv j => obtain ⟨i, h1, h2⟩ := hd; exact ⟨i, h _ _ h1, h2⟩
 | lit u => exact hd
 | any => exact hd
def Sg.plain : Sg -> Bool
 | .t τ => !xAC τ
 | .k _ => true
def PK.plain : PK -> Bool
 | .c g => g.plain
 | .ag l => l.all Sg.plain
def RK.plain : RK -> Bool
 | .dead => true
 | .ro τ => !xAC τ
 | .rows _ τ => !xAC τ
 | .blk _ l => l.all Sg.plain
 | .clo _ a b => a.all Sg.plain && b.all Sg.plain
 | .mp _ _ τ => !xAC τ
 | .ars _ _ τ => !xAC τ
 | .aro _ _ τ => !xAC τ
 | .arm _ _ _ τ => !xAC τ
 | .arr _ τ => !xAC τ
theorem Sg.move (h : Sh ids ι ρ) {g : Sg} (hp : g.plain = true) {x : g.ty} {vs : List Value} (hd : DenL ι (g.enc same x) vs) : DenL ρ (g.enc ids x) vs := by
 cases g with
 | t τ =>
  have : xAC τ = false := by simpa [Sg.plain] using hp
  exact DenL.enc this (h.covs _) hd
 | k κ => obtain ⟨v, r, e, h1, h2⟩ := hd; exact ⟨v, r, e, Kd.move h h1, h2⟩
theorem xEe (h : Sh ids ι ρ) : ∀ {l : List Sg} (_ : l.all Sg.plain = true) {x : xOU l} {vs : List Value}, DenL ι (xBX same l x) vs -> DenL ρ (xBX ids l x) vs
 | [], _, _, _, hd => hd
 | g :: l, hp, x, vs, hd => by
  simp only [List.all_cons, Bool.and_eq_true] at hp;obtain ⟨a, b, e, h1, h2⟩ := DenL.split hd;rw [e];exact (Sg.move h hp.1 h1).app (xEe h hp.2 h2)
theorem PK.move (h : Sh ids ι ρ) {p : PK} (hp : p.plain = true) {x : p.ty} {v : Value} (hd : DenP ι (p.enc same x) v) : DenP ρ (p.enc ids x) v := by
 cases p with
 | c g =>
  cases g with
  | k κ => exact Kd.move h hd
  | t τ =>
   have hp' : xAC τ = false := by simpa [PK.plain, Sg.plain] using hp
   have hd' : Den ι (xZO (τ.enc x)) v := hd;show Den ρ (xZO (τ.enc x)) v
   cases τ with
   | pair a b =>
    cases hq : (TC.pair a b).enc x with
    | nil => rw [hq] at hd'; exact hd'
    | cons c l =>
     rw [hq] at hd';have : ∀ (τ : TC) (x : τ.ty) (c : CV) (l : List CV), xAC τ = false -> τ.enc x = c :: l -> ∀ v, Den ι c v -> Den ρ c v := by
      intro τ
      induction τ with
      | cv => intro _ _ _ hh; cases hh
      | nil => intro x c l _ e; cases e
      | rf q t => intro x c l hh e v hv; cases e; exact (DenL.enc (τ := .rf q t) hh (h.covs _) (x := x) (vs := [v]) ⟨v, [], rfl, hv, rfl⟩).elim fun u hu => by obtain ⟨r, e, h1, _⟩ := hu; cases e; exact h1
      | pair a b iha ihb =>
       intro x c l hh e v hv;simp only [xAC, Bool.or_eq_false_iff] at hh;simp only [TC.enc] at e
       cases ha : a.enc x.1 with
       | nil => rw [ha] at e; exact ihb x.2 c l hh.2 e v hv
       | cons c' l' => rw [ha] at e; cases e; exact iha x.1 c l' hh.1 ha v hv
      | _ => intro x c l hh e v hv; cases e; exact hv
     exact this _ x c l hp' hq v hd'
   | nil => exact hd'
   | cv => cases hp'
   | rf q t => exact (DenL.enc (τ := .rf q t) hp' (h.covs _) (x := x) (vs := [v]) ⟨v, [], rfl, hd', rfl⟩).elim fun u hu => by obtain ⟨r, e, h1, _⟩ := hu; cases e; exact h1
   | _ => exact hd'
 | ag l =>
  obtain ⟨vs, h2, h3⟩ := hd;exact ⟨vs, xEe h hp h2, h3⟩
theorem RK.move (h : Sh ids ι ρ) {r : RK} (hp : r.plain = true) {x : r.ty} {w : World} {i : Info} (hd : RootOk ι w i (r.enc same x)) : RootOk ρ w i (r.enc ids x) := by
 cases r with
 | dead => trivial
 | ro τ =>
  have hp' : xAC τ = false := by simpa [RK.plain] using hp
  obtain ⟨h0, vs, h1, h2⟩ := hd;exact ⟨h0, vs, DenL.flat hp' (h.covs _) h1, h2⟩
 | rows T τ =>
  have hp' : xAC τ = false := by simpa [RK.plain] using hp
  obtain ⟨h0, h9, vs, h1, h2⟩ := hd;exact ⟨h0, h9, vs, DenL.flat hp' (h.covs _) h1, h2⟩
 | blk T l =>
  obtain ⟨h0, b, vs, h1, h2, h3⟩ := hd;exact ⟨⟨h0.1, by rw [h0.2, <- h2.len, (xEe h hp h2).len]⟩, b, vs, h1, xEe h hp h2, h3⟩
 | clo f a b =>
  simp only [RK.plain, Bool.and_eq_true] at hp;obtain ⟨fs, cs, h1, h2, h3⟩ := hd;exact ⟨fs, cs, xEe h hp.1 h1, xEe h hp.2 h2, h3⟩
 | mp k agg τ =>
  have hp' : xAC τ = false := by simpa [RK.plain] using hp
  obtain ⟨r, ents, clock, g1, g2, g3, g4⟩ := hd;exact ⟨r, ents, clock, g1, g2, g3, xEb hp' (h.covs _) g4⟩
 | ars t T τ =>
  have hp' : xAC τ = false := by simpa [RK.plain] using hp
  have hA : ArOk ι w (i.objs t) (Root.ars t T τ x).obs := hd;refine ⟨hA.1, fun m v ob h1 h2 => ?_, hA.2.2⟩;have h3 := hA.2.1 m v ob h1 h2;have h2' : (Root.ars t T τ x).obs[m]? = some ob := h2;simp only [Root.obs, List.getElem?_map] at h2';obtain ⟨y, hy, e⟩ := Option.map_eq_some_iff.1 h2'
  cases y with
  | none => subst e; trivial
  | some xs => subst e; obtain ⟨a, c, k1, k2, vs, k3, k4⟩ := h3; exact ⟨a, c, k1, k2, vs, DenL.flat hp' (h.covs _) k3, k4⟩
 | aro t T τ =>
  have hp' : xAC τ = false := by simpa [RK.plain] using hp
  have hA : ArOk ι w (i.objs t) (Root.aro t T τ x).obs := hd;refine ⟨hA.1, fun m v ob h1 h2 => ?_, hA.2.2⟩;have h3 := hA.2.1 m v ob h1 h2;have h2' : (Root.aro t T τ x).obs[m]? = some ob := h2;simp only [Root.obs, List.getElem?_map] at h2';obtain ⟨y, hy, e⟩ := Option.map_eq_some_iff.1 h2';subst e; obtain ⟨a, c, k1, k2, vs, k3, k4⟩ := h3; exact ⟨a, c, k1, k2, vs, DenL.flat hp' (h.covs _) k3, k4⟩
 | arm t k agg τ =>
  have hp' : xAC τ = false := by simpa [RK.plain] using hp
  have hA : ArOk ι w (i.objs t) (Root.arm t k agg τ x).obs := hd;refine ⟨hA.1, fun m v ob h1 h2 => ?_, hA.2.2⟩;have h3 := hA.2.1 m v ob h1 h2;have h2' : (Root.arm t k agg τ x).obs[m]? = some ob := h2;simp only [Root.obs, List.getElem?_map] at h2';obtain ⟨y, hy, e⟩ := Option.map_eq_some_iff.1 h2'
  cases y with
  | none => subst e; trivial
  | some ts => subst e; obtain ⟨r, ents, cl, k1, k2, k3⟩ := h3; exact ⟨r, ents, cl, k1, k2, xEb hp' (h.covs _) k3⟩
 | arr t τ =>
  have hp' : xAC τ = false := by simpa [RK.plain] using hp
  have hA : ArOk ι w (i.objs t) (Root.arr t τ x).obs := hd;refine ⟨hA.1, fun m v ob h1 h2 => ?_, hA.2.2⟩;have h3 := hA.2.1 m v ob h1 h2;have h2' : (Root.arr t τ x).obs[m]? = some ob := h2;simp only [Root.obs, List.getElem?_map] at h2';obtain ⟨y, hy, e⟩ := Option.map_eq_some_iff.1 h2';subst e; obtain ⟨a, c, k1, k2, k3, vs, k4, k5⟩ := h3; exact ⟨a, c, k1, k2, k3, vs, DenL.flat hp' (h.covs _) k4, k5⟩
theorem RK.own_ids (ids ids' : Nat -> Nat) {r : RK} {x : r.ty} {i : Info} : own i (r.enc ids x) = own i (r.enc ids' x) := by cases r <;> rfl
end
inductive RP where
 | one (p : PK)
 | tu (l : List (Bool × List Sg))
def tuD : List (Bool × List Sg) -> Bool
 | [] => false
 | p :: l => gsD p.2 || tuD l
@[reducible] def xYi : List (Bool × List Sg) -> Type
 | [] => Unit
 | p :: l => pTy (gsD p.2) (tuD l) (xOU p.2) (xYi l)
def tuDf : (l : List (Bool × List Sg)) -> xYi l
 | [] => ()
 | p :: l => pm (gsD p.2) (tuD l) (xKa p.2) (tuDf l)
@[reducible] def RP.ty : RP -> Type
 | .one p => p.ty
 | .tu l => xYi l
def xHy (ids : Nat -> Nat) : (l : List (Bool × List Sg)) -> xYi l -> List (Bool × List CV)
 | [], _ => []
 | p :: l, x => (p.1, xBX ids p.2 (pf (xKa p.2) (gsD p.2) (tuD l) x)) :: xHy ids l (ps (tuDf l) (gsD p.2) (tuD l) x)
theorem xIc {ids : Nat -> Nat} : ∀ {l : List (Bool × List Sg)} (_ : tuD l = false) (x y : xYi l), xHy ids l x = xHy ids l y
 | [], _, _, _ => rfl
 | p :: l, h, x, y => by
  simp only [tuD, Bool.or_eq_false_iff] at h;simp only [xHy];rw [xBE h.1 (pf (xKa p.2) (gsD p.2) (tuD l) x) (pf (xKa p.2) (gsD p.2) (tuD l) y), xIc h.2 (ps (tuDf l) (gsD p.2) (tuD l) x) (ps (tuDf l) (gsD p.2) (tuD l) y)]
theorem xSh {ids : Nat -> Nat} {p : Bool × List Sg} {l : List (Bool × List Sg)} (x : xOU p.2) (y : xYi l) : xHy ids (p :: l) (pm (gsD p.2) (tuD l) x y) = (p.1, xBX ids p.2 x) :: xHy ids l y := by
 simp only [xHy];rw [xJQ (fun z => xBX ids p.2 z) (gsD p.2) (tuD l) (fun h => xBE h), xJP (fun z => xHy ids l z) (gsD p.2) (tuD l) (fun h => xIc h)]
def RP.hasD : RP -> Bool
 | .one p => p.hasD
 | .tu l => tuD l
def RP.dflt : (r : RP) -> r.ty
 | .one p => p.dflt
 | .tu l => tuDf l
def RP.enc (ids : Nat -> Nat) : (r : RP) -> r.ty -> PV
 | .one p, x => p.enc ids x
 | .tu l, x => .tu (xHy ids l x)
def xTB (rn : Rn) : (l : List (Bool × List Sg)) -> List (Bool × List CV) -> Option (xYi l × Rn)
 | [], cs => match cs with
  | [] => some ((), rn)
  | _ :: _ => none
 | p :: l, cs => match cs with
  | [] => none
  | (b, c) :: cs => bif (p.1 == b) then (match xMf rn p.2 c with
   | some (x, rn') => match xTB rn' l cs with
    | some (y, rn2) => some (pm (gsD p.2) (tuD l) x y, rn2)
    | none => none
   | none => none) else none
def RP.dec (rn : Rn) : (r : RP) -> PV -> Option (r.ty × Rn)
 | .one p, v => p.dec rn v
 | .tu l, v => match v with
  | .tu cs => xTB rn l cs
  | _ => none
structure FSch where
 res : RP
 roots : List RK
@[reducible] def FSch.ty (s : FSch) : Type := pTy s.res.hasD (rsD s.roots) s.res.ty (xGh s.roots)
def FSch.a (s : FSch) (x : s.ty) : s.res.ty := pf s.res.dflt s.res.hasD (rsD s.roots) x
def FSch.b (s : FSch) (x : s.ty) : xGh s.roots := ps (rsDf s.roots) s.res.hasD (rsD s.roots) x
theorem RP.enc_inv {ids : Nat -> Nat} {p : RP} (h : p.hasD = false) (x y : p.ty) : p.enc ids x = p.enc ids y := by
 cases p with
 | one p => exact PK.enc_inv h x y
 | tu l => exact congrArg PV.tu (xIc h x y)
theorem FSch.enc_a {ids : Nat -> Nat} {s : FSch} (x : s.res.ty) (y : xGh s.roots) : s.res.enc ids (s.a (pm s.res.hasD (rsD s.roots) x y)) = s.res.enc ids x := xJQ (fun z => s.res.enc ids z) _ _ (fun h => RP.enc_inv h) _ _ _
theorem FSch.enc_b {ids : Nat -> Nat} {s : FSch} (x : s.res.ty) (y : xGh s.roots) : xAn ids s.roots (s.b (pm s.res.hasD (rsD s.roots) x y)) = xAn ids s.roots y := xJP (fun z => xAn ids s.roots z) _ _ (fun h => xFD h) _ _ _
def xTA (l : List (Bool × List Sg)) : List Nat := l.flatMap (fun p => xHa p.2)
def RP.tags : RP -> List Nat
 | .one p => p.tags
 | .tu l => xTA l
def FSch.dec (s : FSch) (m : Nat) (v : PV) (h : List Root) : Option s.ty :=
 bif Nat.ble m s.roots.length then match xFk h s.roots 0 (rn0 m s.roots.length 0) with
  | some rn => match s.res.dec rn v with
   | some (x, rn') => match xGp rn' h s.roots 0 with
    | some (y, rn2) => bif xEP (xI3 s.roots rn2) && Nat.beq rn2.length s.roots.length && xAP (s.res.tags ++ xCU s.roots) s.roots then some (pm s.res.hasD (rsD s.roots) x y) else none
    | none => none
   | none => none
  | none => none
 else none
def RP.plain : RP -> Bool
 | .one p => p.plain
 | .tu l => l.all (fun p => p.2.all Sg.plain)
theorem xTz {ids : Nat -> Nat} {ι ρ : List Info} (h : Sh ids ι ρ) : ∀ {l : List (Bool × List Sg)} (_ : l.all (fun p => p.2.all Sg.plain) = true) {x : xYi l} {vs : List Value}, DenT ι (xHy same l x) vs -> DenT ρ (xHy ids l x) vs
 | [], _, _, _, hd => hd
 | p :: l, hp, x, vs, ⟨v, r, e, h1, h2⟩ => by
  simp only [List.all_cons, Bool.and_eq_true] at hp;refine ⟨v, r, e, ?_, xTz h hp.2 h2⟩;obtain ⟨b, gs⟩ := p
  cases b with
  | true => obtain ⟨us, h3, h4⟩ := h1; exact ⟨us, xEe h hp.1 h3, h4⟩
  | false =>
   obtain ⟨c, h3, h4⟩ := h1;have h3' : xBX same gs (pf (xKa gs) (gsD gs) (tuD l) x) = [c] := h3;have h5 : DenL ι (xBX same gs (pf (xKa gs) (gsD gs) (tuD l) x)) [v] := by rw [h3']; exact ⟨v, [], rfl, h4, rfl⟩
   have h6 := xEe h hp.1 h5;show ∃ c, xBX ids gs (pf (xKa gs) (gsD gs) (tuD l) x) = [c] /\ Den ρ c v;have h7 := h6.len
   match hg : xBX ids gs (pf (xKa gs) (gsD gs) (tuD l) x), h7 with
   | [c'], _ =>
    rw [hg] at h6;obtain ⟨u', r', e', h8, _⟩ := h6;cases e';exact ⟨c', rfl, h8⟩
theorem RP.move {ids : Nat -> Nat} {ι ρ : List Info} (h : Sh ids ι ρ) {p : RP} (hp : p.plain = true) {x : p.ty} {v : Value} (hd : DenP ι (p.enc same x) v) : DenP ρ (p.enc ids x) v := by
 cases p with
 | one p => exact PK.move h hp hd
 | tu l => obtain ⟨vs, h1, h2⟩ := hd; exact ⟨vs, xTz h hp h1, h2⟩
theorem xQd : ∀ {l : List (Bool × List Sg)} {rn rn' : Rn} {cs : List (Bool × List CV)} {x : xYi l}, xTB rn l cs = some (x, rn') -> Le rn rn' /\ ∀ (ρ ι : List Info) (vs : List Value), Agr rn' ρ ι -> Covs ρ ι (xTA l) -> DenT ρ cs vs -> DenT ι (xHy same l x) vs
 | [], rn, rn', cs, x, h => by
  simp only [xTB] at h;split at h
  ·cases h; exact ⟨Le.refl _, fun ρ ι vs _ _ hd => hd⟩
  ·cases h
 | p :: l, rn, rn', cs, x, h => by
  simp only [xTB] at h;split at h
  ·cases h
  ·rename_i b c cs'
   cases hb : (p.1 == b) with
   | false => rw [hb] at h; cases h
   | true =>
    rw [hb] at h;have hb' := eq_of_beq hb;simp only [cond_true] at h;split at h
    ·rename_i y rn1 hy;split at h
     ·rename_i z rn2 hz;cases h;obtain ⟨h1, h2⟩ := xEB hy;obtain ⟨h3, h4⟩ := xQd hz;refine ⟨h1.trans h3, fun ρ ι vs ha hcv ⟨v, r, e, h5, h6⟩ => ?_⟩;have hcv' : Covs ρ ι (xHa p.2 ++ xTA l) := hcv;rw [xSh];refine ⟨v, r, e, ?_, h4 ρ ι r ha hcv'.right h6⟩;replace hcv' := hcv'.left;obtain ⟨pb, gs⟩ := p;simp only at hb';subst hb'
      cases pb with
      | true => obtain ⟨us, h7, h8⟩ := h5; exact ⟨us, h2 ρ ι us (ha.of_le h3) hcv' h7, h8⟩
      | false =>
       obtain ⟨c', h7, h8⟩ := h5;have h7' : c = [c'] := h7;subst h7';have h9 := h2 ρ ι [v] (ha.of_le h3) hcv' ⟨v, [], rfl, h8, rfl⟩;show ∃ c, xBX same gs y = [c] /\ Den ι c v;have h10 := h9.len
       match hg : xBX same gs y, h10 with
       | [c2], _ =>
        rw [hg] at h9;obtain ⟨u', r', e', h11, _⟩ := h9;cases e';exact ⟨c2, rfl, h11⟩
     ·cases h
    ·cases h
theorem RP.dec_ok {p : RP} {rn rn' : Rn} {v : PV} {x : p.ty} (h : p.dec rn v = some (x, rn')) : Le rn rn' /\ ∀ (ρ ι : List Info) (u : Value), Agr rn' ρ ι -> Covs ρ ι p.tags -> DenP ρ v u -> DenP ι (p.enc same x) u := by
 cases p with
 | one p => exact PK.dec_ok h
 | tu l =>
  simp only [RP.dec] at h;split at h
  ·obtain ⟨h1, h2⟩ := xQd h;exact ⟨h1, fun ρ ι u ha hcv ⟨vs, h3, h4⟩ => ⟨vs, h2 ρ ι vs ha hcv h3, h4⟩⟩
  ·cases h
theorem FSch.dec_ok {s : FSch} {m : Nat} {v : PV} {h : List Root} {x : s.ty} (hd : s.dec m v h = some x) : ∀ {S F : List Nat} {W0 : World} {ρ : List Info} {u : Value} {w : World}, DenP ρ v u -> HOk S F W0 ρ h w ->
  m <= s.roots.length /\ ∃ ι, PreM m ρ ι /\ DenP ι (s.res.enc same (s.a x)) u /\ HOk S F W0 ι (xAn same s.roots (s.b x)) w := by
 intro S F W0 ρ u w hu hh;unfold FSch.dec at hd
 cases hb : Nat.ble m s.roots.length with
 | false => rw [hb] at hd; cases hd
 | true =>
  rw [hb] at hd;simp only [cond_true] at hd;split at hd
  ·rename_i rn00 hb0;have hle0 := xDq hb0;split at hd
   ·rename_i y rn1 hy;split at hd
    ·rename_i z rn2 hz
     cases hc : (xEP (xI3 s.roots rn2) && Nat.beq rn2.length s.roots.length && xAP (s.res.tags ++ xCU s.roots) s.roots) with
     | false => rw [hc] at hd; cases hd
     | true =>
      rw [hc] at hd;cases hd;simp only [Bool.and_eq_true] at hc;rw [FSch.enc_a, FSch.enc_b];obtain ⟨h1, h2⟩ := RP.dec_ok hy;have h3 := (xDz hz).1;have htg2 : xAP (xCU s.roots) s.roots = true := by
       have := hc.2;unfold xAP at this ⊢;rw [List.all_append, Bool.and_eq_true] at this;exact this.2
      refine ⟨Nat.le_of_ble_eq_true hb, _, fun j hj i e => ?_, h2 ρ _ u ((Agr.mk rn2 ρ).of_le h3) (xNk hz hc.2 hh).left hu, rs_hok hz hc.1.1 (nbT hc.1.2) htg2 hh⟩;have := (hle0.trans (h1.trans h3)).2 j _ (xLO m _ 0 j hj (Nat.le_of_ble_eq_true hb));rw [((Agr.mk rn2 ρ) j).1 _ this, Nat.zero_add, e];rfl
    ·cases hd
   ·cases hd
  ·cases hd
def Root.grows : Root -> Bool
 | .ars _ _ _ _ => true
 | .aro _ _ _ _ => true
 | .arm _ _ _ _ _ => true
 | _ => false
theorem xSY {i : Info} {r : Root} (h : r.grows = true) {b : Nat} : foot i r b ↔ own i r b := by
 cases r <;> first | exact Iff.rfl | (cases h; done)
def xRH : List Root -> Nat -> List Nat
 | [], _ => []
 | r :: h, p => bif r.grows then p :: xRH h (p + 1) else xRH h (p + 1)
def mvArs (h : List Root) : List Root := (xRH h 0).foldl (fun h p => h.set p .dead) h ++ (xRH h 0).filterMap (fun p => h[p]?)
theorem xJ5 : ∀ {h : List Root} {p q : Nat}, q ∈ xRH h p -> p <= q /\ ∃ r, h[q - p]? = some r /\ r.grows = true
 | [], p, q, h => by simp [xRH] at h
 | r :: h, p, q, hq => by
  have next : q ∈ xRH h (p + 1) -> p <= q /\ ∃ r', (r :: h)[q - p]? = some r' /\ r'.grows = true := fun hq => by
   obtain ⟨h1, r', h2, h3⟩ := xJ5 hq;exact ⟨by omega, r', by rw [show q - p = (q - (p + 1)) + 1 by omega]; simpa using h2, h3⟩
  simp only [xRH] at hq
  cases ht : r.grows with
  | true =>
   rw [ht] at hq;rcases List.mem_cons.1 hq with rfl | hq
   ·exact ⟨Nat.le_refl _, r, by simp, ht⟩
   ·exact next hq
  | false => rw [ht] at hq; exact next hq
theorem xC2 : ∀ {h : List Root} {p : Nat}, (xRH h p).Pairwise (· < ·)
 | [], _ => by simp [xRH]
 | r :: h, p => by
  simp only [xRH]
  cases r.grows with
  | true =>
   refine List.pairwise_cons.2 ⟨fun q hq => ?_, xC2⟩;have := (xJ5 hq).1;omega
  | false => exact xC2
theorem HOk.mvArs {S F : List Nat} {W0 : World} {ρ : List Info} {h : List Root} {w : World} (hh : HOk S F W0 ρ h w) : ∃ ρ', Pre ρ ρ' /\ HOk S F W0 ρ' (mvArs h) w := by
 have hsome : ∀ p ∈ xRH h 0, ∃ r i, h[p]? = some r /\ ρ[p]? = some i /\ r.grows = true := fun p hp => by
  obtain ⟨_, r, h1, h2⟩ := xJ5 hp;rw [Nat.sub_zero] at h1;obtain ⟨i, hi⟩ := hh.info h1;exact ⟨r, i, h1, hi, h2⟩
 obtain ⟨N, hNd⟩ : ∃ N : List (Info × Root), N = (xRH h 0).filterMap (fun p => match ρ[p]?, h[p]? with
  | some i, some r => some (i, r)
  | _, _ => none) := ⟨_, rfl⟩
 have hlist : ∀ l : List Nat, (∀ p ∈ l, ∃ r i, h[p]? = some r /\ ρ[p]? = some i /\ r.grows = true) -> ∀ (j : Nat) (x : Info × Root), (l.filterMap (fun p => match ρ[p]?, h[p]? with
   | some i, some r => some (i, r)
   | _, _ => none))[j]? = some x -> ∃ p, l[j]? = some p /\ h[p]? = some x.2 /\ ρ[p]? = some x.1 /\ x.2.grows = true := by
  intro l
  induction l with
  | nil => intro _ j x hx; simp at hx
  | cons p l ih =>
   intro hl j x hx;obtain ⟨r, i, h1, h2, h3⟩ := hl p (by simp);simp only [List.filterMap_cons, h1, h2] at hx
   cases j with
   | zero => simp only [List.getElem?_cons_zero, Option.some.injEq] at hx; subst hx; exact ⟨p, rfl, h1, h2, h3⟩
   | succ j =>
    obtain ⟨p', g1, g2⟩ := ih (fun q hq => hl q (by simp [hq])) j x (by simpa using hx);exact ⟨p', by simpa using g1, g2⟩
 have hsnd : ∀ l : List Nat, (∀ p ∈ l, ∃ r i, h[p]? = some r /\ ρ[p]? = some i /\ r.grows = true) -> (l.filterMap (fun p => match ρ[p]?, h[p]? with
   | some i, some r => some (i, r)
   | _, _ => none)).map Prod.snd = l.filterMap (fun p => h[p]?) := by
  intro l
  induction l with
  | nil => intro _; rfl
  | cons p l ih =>
   intro hl;obtain ⟨r, i, h1, h2, h3⟩ := hl p (by simp);have := ih (fun q hq => hl q (by simp [hq]));simp only [List.filterMap_cons, h1, h2, List.map_cons, this]
 have hN := hlist _ hsome;rw [<- hNd] at hN;have hreg := hh.regroup (xRH h 0) N (fun j x hx => by
  obtain ⟨p, g1, g2, g3, g4⟩ := hN j x hx;refine ⟨(hh.ok p _ _ g2 g3).mono (Pre.app _ _), fun b hb => ⟨p, List.mem_of_getElem? g1, _, _, g2, g3, ?_⟩⟩;exact (xSY g4).1 hb) (fun j k x y b hjk hx hy h1 h2 => by
  obtain ⟨p, g1, g2, g3, _⟩ := hN j x hx;obtain ⟨q, k1, k2, k3, _⟩ := hN k y hy;refine hh.sep p q _ _ _ _ b (fun e => hjk ?_) g2 k2 g3 k3 h1 h2;subst e;obtain ⟨l1, e1⟩ := List.getElem?_eq_some_iff.1 g1;obtain ⟨l2, e2⟩ := List.getElem?_eq_some_iff.1 k1;rcases Nat.lt_trichotomy j k with hlt | he | hlt
  ·have := List.pairwise_iff_getElem.1 (xC2 (h := h) (p := 0)) j k l1 l2 hlt;omega
  ·exact he
  ·have := List.pairwise_iff_getElem.1 (xC2 (h := h) (p := 0)) k j l2 l1 hlt;omega) (fun j t x hx ht id i m v hi hv => by
  obtain ⟨p, g1, g2, g3, _⟩ := hN j x hx;rcases Nat.lt_or_ge id ρ.length with hlt | hge
  ·rw [List.getElem?_append_left hlt] at hi;exact hh.cov p t _ _ g2 g3 ht id i m v hi hv
  ·rw [List.getElem?_append_right hge, List.getElem?_map] at hi;obtain ⟨y, hy, e⟩ := Option.map_eq_some_iff.1 hi;obtain ⟨q, _, _, k3, _⟩ := hN _ y hy;subst e;exact hh.cov p t _ _ g2 g3 ht q _ m v k3 hv) (fun p t r i hp hi hL ht j x m v hx hv => by
  obtain ⟨q, _, _, k3, _⟩ := hN j x hx;exact hh.cov p t _ _ hp hi ht q _ m v k3 hv) (fun j x hx => by
  obtain ⟨p, _, g2, g3, _⟩ := hN j x hx;exact hh.cln p _ _ g2 g3)
 have e := hsnd _ hsome;rw [<- hNd] at e;rw [e] at hreg;exact ⟨ρ ++ N.map Prod.fst, Pre.app _ _, hreg⟩
def FnSem (P : Program) (f nargs : Nat) (In : Sch) (Out : FSch) (spec : In.ty -> Option Out.ty) : Prop :=
 ∀ (s : In.ty) (t : Out.ty), spec s = some t -> ∀ (S F : List Nat) (W0 : World) (ι : List Info) (w : World) (vs : List Value), vs.length = nargs -> (∀ q p, lkP (xA2 same In.slots (In.a s)) q = some p -> ∃ v, DenP ι p v /\ vs[q]? = some v) -> HOk S F W0 ι (xAn same In.roots (In.b s)) w -> xBa P f = true ->
  Calls P f vs.toArray w (fun e w' => ∃ ι' u, e = .returned u /\ PreM In.roots.length ι ι' /\ DenP ι' (Out.res.enc same (Out.a t)) u /\ HOk S F W0 ι' (xAn same Out.roots (Out.b t)) w' /\ In.roots.length <= Out.roots.length)
def fnEv (P : Program) (Fu : Nat) (pl : Nat -> Option PT) (call : (β : Type) -> xAT β) (d nargs : Nat) (an : An) (f : Nat) (In : Sch) (Out : FSch) (s : In.ty) : Option Out.ty :=
 match P.funcs[f]? with
 | some fn => match fn.body with
  | some c => match unpL (unpFn f) (xA2 same In.slots (In.a s)) (mvArs (xAn same In.roots (In.b s))) with
   | some (g, K0, h0, _) => gds g (evA P Fu pl call In.roots.length (nargs + (fn.ntmps - nargs)) d an c Out.ty K0 h0 (fun e K' h' => match e with
    | .exit _ => none
    | _ => match xTj P K' h' fn.results.toList with
     | some v => Out.dec In.roots.length v h'
     | none => none))
   | none => none
  | none => none
 | none => none
def xAj (P : Program) (f : Nat) : Code :=
 match P.funcs[f]? with
 | some fn => match fn.body with
  | some c => c
  | none => .skip
 | none => .skip
def xAA (P : Program) (f nargs : Nat) : Nat :=
 match P.funcs[f]? with
 | some fn => nargs + (fn.ntmps - nargs)
 | none => 0
theorem xZV {P : Program} {call : (β : Type) -> xAT β} (hcall : ∀ β, xAS P (call β)) (hm : P.follows .mixedOrders = true) {Fu : Nat} {pl : Nat -> Option PT} {d nargs f : Nat} {an : An} {In : Sch} {Out : FSch} {spec : In.ty -> Option Out.ty}
  (hreg : xAU pl (xAj P f) = true) (hA : AnOk P In.roots.length (xAA P f nargs) an (xAj P f)) (hs : ∀ s, spec s = fnEv P Fu pl call d nargs an f In Out s) : FnSem P f nargs In Out spec := by
 intro s t hst S F W0 ι w vs hlen hden hh hcl;rw [hs] at hst;unfold fnEv at hst;split at hst
 ·rename_i fn hfn;split at hst
  ·rename_i c hc;have hb : xAj P f = c := by simp [xAj, hfn, hc]
   have ht : xAA P f nargs = nargs + (fn.ntmps - nargs) := by simp [xAA, hfn]
   rw [hb] at hreg hA;rw [ht] at hA;have hsz : vs.toArray.size = nargs := by simpa using hlen
   obtain ⟨ι0, hp0, hh0⟩ := hh.mvArs;split at hst
   rotate_right
   ·cases hst
   rename_i g K0 h0 T0 hun;obtain ⟨hg, hst⟩ := xBH hst;have hKK : KOk (nargs + (fn.ntmps - nargs)) [] ι0 (xA2 same In.slots (In.a s)) { tmps := vs.toArray ++ Array.replicate (fn.ntmps - vs.toArray.size) undef, defers := [] } := ⟨by simp [hsz], rfl, fun q p hp => ?_⟩;have hgh := xTy (unpFn f) _ _ _ hKK hh0;rw [hun] at hgh;obtain ⟨ι1, hG1, hK1, hh1⟩ := hgh hg;have hp1 : Pre ι ι1 := hp0.trans hG1.pre;refine calls_of_wp hfn hc (xES hcall hm Fu pl d an c hA hreg Out.ty _ _ _ t hst S F W0 ι1 _ w hK1 hh1 _ (fun e ρ' K' h' a' w' hp he hK' hh' => ?_))
   rotate_right
   ·obtain ⟨v, h3, h4⟩ := hden q p hp;refine ⟨v, h3.mono hp0, ?_⟩;have hlt := (List.getElem?_eq_some_iff.1 h4).1;show (vs.toArray ++ Array.replicate (fn.ntmps - vs.toArray.size) undef)[q]? = some v;rw [Array.getElem?_append_left (by simpa using hlt)];simpa using h4
   ·have fin : (match xTj P K' h' fn.results.toList with
      | some v => Out.dec In.roots.length v h'
      | none => none) = some t -> a'.defers = [] /\ ∃ v, (results fn a'.tmps).run P w' = .ok v w' /\ ∃ ι' u, Ending.returned v = .returned u /\ PreM In.roots.length ι ι' /\ DenP ι' (Out.res.enc same (Out.a t)) u /\ HOk S F W0 ι' (xAn same Out.roots (Out.b t)) w' /\ In.roots.length <= Out.roots.length := by
     intro hm2;split at hm2
     ·rename_i v hv;obtain ⟨u, h1, h2⟩ := xIH hK' hh' hv;obtain ⟨h3, ι', h4, h5, h6⟩ := FSch.dec_ok hm2 h1 hh';exact ⟨hK'.2.1, u, h2, ι', u, rfl, (fun j hj i e => (hp.trans h4) j hj i (hp1 j i e)), h5, h6, h3⟩
     ·cases hm2
    cases e with
    | normal => exact fin he
    | exit id => cases he
    | ret => exact fin he
  ·cases hst
 ·cases hst
end
end Go.Proofs.YtnomnijhlbalaaaGreatDoor
