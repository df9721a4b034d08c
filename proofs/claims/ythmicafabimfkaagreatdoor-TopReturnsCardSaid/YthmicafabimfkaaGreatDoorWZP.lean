/- Calls by what the function does on data. No condition. -/
import Derived.Test.YthmicafabimfkaaGreatDoorWY4
import Derived.Test.YthmicafabimfkaaGreatDoorWZA
import Derived.RangeFuncRecord

namespace Go.Proofs.YthmicafabimfkaaGreatDoor
noncomputable section
open Go.RowKit
structure Ent where
 f : Nat
 nargs : Nat
 In : Sch
 Out : FSch
 spec : In.ty -> Option Out.ty
 /-- Parameters that are boxes which are only read; none at all: an own way of calling is not meant. -/
 bx : List (Option TC)
def RK.isOwn : RK -> Bool
 | .rows _ _ => true
 | .blk _ _ => true
 | .mp _ _ _ => true
 | .ars _ _ _ => true
 | .aro _ _ _ => true
 | .arm _ _ _ _ => true
 | _ => false
def RK.outOk : RK -> Bool
 | .ro _ => false
 | .arr _ _ => false
 | _ => true
def xBq : Rn -> Nat -> List Nat
 | [], _ => []
 | x :: rn, n => match x with
  | some (some id) => id :: xBq rn n
  | _ => n :: xBq rn (n + 1)
def RK.nilR (r : RK) : Root :=
 match r.nil with
 | some y => r.enc same y
 | none => .dead
def xBl : List RK -> Rn -> List Root
 | r :: l, x :: rn => match x with
  | some (some _) => xBl l rn
  | _ => r.nilR :: xBl l rn
 | _, _ => []
def idsF (idl : List Nat) (n j : Nat) : Nat :=
 match idl[j]? with
 | some id => id
 | none => n + (j - idl.length)
def xQ7 (ids : Nat -> Nat) : (lin : List RK) -> (idl : List Nat) -> (lout : List RK) -> xF3 lout -> List Root -> List Root
 | [], _, lout, y, h => h ++ xAm ids lout y
 | r :: lin, idl, lout, y, h => match idl, lout, y with
  | id :: idl, r' :: lout, y => xQ7 ids lin idl lout (ps (rsDf lout) r'.hasD (rsD lout) y) (bif r.isOwn then h.set id (r'.enc ids (pf r'.dflt r'.hasD (rsD lout) y)) else h)
  | _, _, _ => h
/-- Roots that are found are there; own ones are reached by the arguments. -/
def xGv (R : List Nat) (n : Nat) : List RK -> Rn -> Bool
 | r :: l, x :: rn => (match x with
  | some (some id) => Nat.ble (id + 1) n && (!r.isOwn || R.any (Nat.beq id))
  | _ => true) && xGv R n l rn
 | _, _ => true
/-- The own roots that came in. -/
def xCJ : List RK -> Rn -> List Nat
 | r :: l, x :: rn => match x with
  | some (some id) => bif r.isOwn then id :: xCJ l rn else xCJ l rn
  | _ => xCJ l rn
 | _, _ => []
theorem xGh : ∀ (l : List RK) (rn : Rn) (j id : Nat) (k : RK), l[j]? = some k -> k.isOwn = true -> rn[j]? = some (some (some id)) -> id ∈ xCJ l rn
 | [], _, j, _, _, h, _, _ => by simp at h
 | r :: l, [], j, _, _, _, _, h => by simp at h
 | r :: l, x :: rn, 0, id, k, h1, h2, h3 => by
  simp only [List.getElem?_cons_zero, Option.some.injEq] at h1 h3;subst h1; subst h3;simp only [xCJ, h2, cond_true];exact List.mem_cons_self
 | r :: l, x :: rn, j + 1, id, k, h1, h2, h3 => by
  have := xGh l rn j id k (by simpa using h1) h2 (by simpa using h3);unfold xCJ;split
  ·cases r.isOwn with
   | true => exact List.mem_cons_of_mem _ this
   | false => exact this
  ·exact this
/-- Arenas are handed on; or the function gives none of their number back; or nothing new comes back. -/
def xRy (o : Option Nat) (k : RK) : Bool :=
 match k with
 | .dead => false
 | k => match o with
  | none => true
  | some t => match k.tag with
   | some t' => !Nat.beq t t'
   | none => true
def arOk (h : List Root) (own : List Nat) (nin : Nat) (outs : List RK) : Bool :=
 (xNi h 0).all (fun p => own.any (Nat.beq p) || (match h[p]? with
  | some r => (outs.drop nin).all (xRy r.tag)
  | none => false)) || Nat.beq outs.length nin
theorem xRx {t : Nat} {k : RK} (h : xRy (some t) k = true) (ids : Nat -> Nat) (x : k.ty) {i : Info} (hc : Cln i (k.enc ids x)) : i.objs t = [] := by
 have hd : k.enc ids x ≠ .dead := fun e => by cases k <;> first | (cases h; done) | exact Root.noConfusion e
 rcases hc with g | g
 ·exact absurd g hd
 ·refine g t (fun e => ?_);rw [RK.enc_tag] at e;cases k <;> first | (cases e; done) | (cases e; simp [xRy, RK.tag] at h)
def Ent.use0 (E : Ent) (args : List PV) (h : List Root) (β : Type) (k : List Nat -> PV -> List Root -> Option β) (els : Option β) : Option β :=
 bif Nat.beq args.length E.nargs then match E.In.decR (E.In.roots.map (fun _ => none)) (xUL 0 args) h with
  | some (s, rn) => bif xGv (xBx h args) h.length E.In.roots rn && arOk h (xCJ E.In.roots rn) E.In.roots.length E.Out.roots then
    ob (E.spec s) (fun t => k (xCJ E.In.roots rn) (E.Out.res.enc (idsF (xBq rn h.length) (h ++ xBl E.In.roots rn).length) (E.Out.a t))
     (xQ7 (idsF (xBq rn h.length) (h ++ xBl E.In.roots rn).length) E.In.roots (xBq rn h.length) E.Out.roots (E.Out.b t) (h ++ xBl E.In.roots rn)))
   else none
  | none => els
 else els
/-! Boxes that a call only reads -/
def scCV : CV -> Bool
 | .sc _ => true
 | .er _ => true
 | _ => false
def scPV : PV -> Bool
 | .c x => scCV x
 | .ag l => l.all scCV
 | .tu l => l.all (fun p => p.2.all scCV)
 | .un => false
def frzA (h : List Root) : List (Option TC) -> List PV -> Nat -> Option (List PV × List Root)
 | [], ps, _ => match ps with
  | [] => some ([], [])
  | _ :: _ => none
 | o :: bs, ps, j => match ps with
  | [] => none
  | p :: ps => match o with
   | none => bif scPV p then (match frzA h bs ps j with
    | some (a, r) => some (p :: a, r)
    | none => none) else none
   | some τ => match p with
    | .c (.pt id k row c) => bif (Nat.beq k 0 && Nat.beq row 0) && (Nat.beq c 0 && (!xAE τ && τ.tags.isEmpty)) then (match h[id]? with
     | some (.blk cs _) => match τ.dec1 cs with
      | some x => match frzA h bs ps (j + 1) with
       | some (a, r) => some (.c (.pt j τ.w 0 0) :: a, .ro τ [x] :: r)
       | none => none
      | none => none
     | _ => none) else none
    | _ => none
def Ent.useP (E : Ent) (args : List PV) (h : List Root) (β : Type) (k : List Nat -> PV -> List Root -> Option β) (els : Option β) : Option β :=
 match frzA h E.bx args 0 with
 | some (a1, h1) => bif Nat.beq a1.length E.nargs then match E.In.decR (E.In.roots.map (fun _ => none)) (xUL 0 a1) h1 with
  | some (s, _) => ob (E.spec s) (fun t => bif scPV (E.Out.res.enc same (E.Out.a t)) then k [] (E.Out.res.enc same (E.Out.a t)) h else none)
  | none => els
  else els
 | none => els
def Ent.use (E : Ent) (args : List PV) (h : List Root) (β : Type) (k : List Nat -> PV -> List Root -> Option β) (els : Option β) : Option β :=
 match E.bx with
 | [] => E.use0 args h β k els
 | _ :: _ => E.useP args h β k els
def xUj (fb : (β : Type) -> xAT β) : List Ent -> (β : Type) -> xAT β
 | [], β => fb β
 | E :: l, β => fun f args h k => bif Nat.beq E.f f then E.use args h β k (xUj fb l β f args h k) else xUj fb l β f args h k
def Ent.plain (E : Ent) : Bool := E.Out.res.plain && E.Out.roots.all RK.plain && E.Out.roots.all RK.outOk && xAP (E.Out.roots.filterMap RK.tag) E.In.roots
def xAh (P : Program) : List Ent -> Prop
 | [] => True
 | E :: l => (E.plain = true /\ xAu P E.f E.nargs E.In E.Out E.spec) /\ xAh P l
/-! Soundness -/
section
variable {P : Program} {S F : List Nat} {W0 : World} {ρ : List Info} {h : List Root} {w : World}
def NilR (r : Root) : Prop := ∀ (ι : List Info) (w : World), RootOk ι w nilI r /\ (∀ b, ¬ own nilI r b) /\ (∀ b, ¬ foot nilI r b)
theorem nilR_ok (r : RK) : NilR r.nilR := by
 intro ι w;unfold RK.nilR;split
 ·rename_i y hy; exact RK.nil_ok hy ι w
 ·exact ⟨trivial, fun b hb => hb, fun b hb => hb⟩
theorem HOk.adds : ∀ {rs : List Root} {ρ : List Info} {h : List Root}, (∀ r ∈ rs, NilR r) -> (∀ r ∈ rs, r.tag = none) -> HOk S F W0 ρ h w -> HOk S F W0 (ρ ++ List.replicate rs.length nilI) (h ++ rs) w
 | [], ρ, h, _, _, hh => by simpa using hh
 | r :: rs, ρ, h, hr, ht, hh => by
  have h1 := hr r (by simp);have := HOk.adds (rs := rs) (fun r hm => hr r (by simp [hm])) (fun r hm => ht r (by simp [hm])) (hh.add (Ex.refl _ _) nilI r (h1 _ w).1 (fun b hb => absurd hb ((h1 [] w).2.2 b)) (fun _ => rfl) (ht r (by simp)));simpa [List.replicate_succ] using this
theorem xFS : ∀ (l : List RK) (rn : Rn), ∀ r ∈ xBl l rn, NilR r
 | [], _, r, hr => by simp [xBl] at hr
 | k :: l, [], r, hr => by simp [xBl] at hr
 | k :: l, x :: rn, r, hr => by
  simp only [xBl] at hr;split at hr
  ·exact xFS l rn r hr
  ·rcases List.mem_cons.1 hr with rfl | hr
   ·exact nilR_ok k
   ·exact xFS l rn r hr
theorem xJ0 : ∀ (rn : Rn) (n : Nat), (xBq rn n).length = rn.length
 | [], _ => rfl
 | x :: rn, n => by
  simp only [xBq];split <;> simp [xJ0 rn]
/-- Where the roots that came in lie: their infos. -/
theorem xEA (ρ : List Info) (R : List Nat) : ∀ (l : List RK) (rn : Rn) (n k : Nat), l.length = rn.length -> xGv R ρ.length l rn = true -> ∀ (m : Nat), m = ρ.length -> n = m + k -> ∀ (j : Nat) (i : Info), (mkI rn ρ)[j]? = some i ->
  ∃ id, (xBq rn n)[j]? = some id /\ ((rn[j]? = some (some (some id)) /\ ρ[id]? = some i /\ id < m) \/ ((∀ x, rn[j]? ≠ some (some (some x))) /\ i = nilI /\ n <= id /\ id < n + (xBl l rn).length))
 | [], [], n, k, _, _, m, _, _, j, i, hi => by simp [mkI] at hi
 | [], x :: rn, _, _, e, _, _, _, _, _, _, _ => by simp at e
 | _ :: _, [], _, _, e, _, _, _, _, _, _, _ => by simp at e
 | r :: l, x :: rn, n, k, hl, hf, m, hm, hn, j, i, hi => by
  simp only [xGv, Bool.and_eq_true] at hf;have hl' : l.length = rn.length := by simpa using hl
  match x, hf, hi with
  | some (some id), hf, hi =>
   simp only [Bool.and_eq_true] at hf;have hlt := Nat.le_of_ble_eq_true hf.1.1
   cases j with
   | zero =>
    refine ⟨id, by simp [xBq], .inl ⟨by simp, ?_, by omega⟩⟩;simp only [mkI, List.map_cons, List.getElem?_cons_zero, Option.some.injEq] at hi;rw [List.getElem?_eq_getElem (by omega)] at hi ⊢;rw [<- hi]; rfl
   | succ j =>
    have hi' : (mkI rn ρ)[j]? = some i := by simpa [mkI] using hi
    obtain ⟨id', h1, h2⟩ := xEA ρ R l rn n k hl' hf.2 m hm hn j i hi';exact ⟨id', by simpa [xBq] using h1, by simpa [xBl] using h2⟩
  | some none, hf, hi =>
   cases j with
   | zero =>
    refine ⟨n, by simp [xBq], .inr ⟨by simp, ?_, Nat.le_refl _, by simp [xBl]⟩⟩;simp only [mkI, List.map_cons, List.getElem?_cons_zero, Option.some.injEq] at hi;exact hi.symm
   | succ j =>
    have hi' : (mkI rn ρ)[j]? = some i := by simpa [mkI] using hi
    obtain ⟨id', h1, h2⟩ := xEA ρ R l rn (n + 1) (k + 1) hl' hf.2 m hm (by omega) j i hi';refine ⟨id', by simpa [xBq] using h1, ?_⟩;rcases h2 with h2 | ⟨h2, h3, h4, h5⟩
    ·exact .inl (by simpa using h2)
    ·exact .inr ⟨by simpa using h2, h3, by omega, by simp only [xBl, List.length_cons]; omega⟩
  | none, hf, hi =>
   cases j with
   | zero =>
    refine ⟨n, by simp [xBq], .inr ⟨by simp, ?_, Nat.le_refl _, by simp [xBl]⟩⟩;simp only [mkI, List.map_cons, List.getElem?_cons_zero, Option.some.injEq] at hi;exact hi.symm
   | succ j =>
    have hi' : (mkI rn ρ)[j]? = some i := by simpa [mkI] using hi
    obtain ⟨id', h1, h2⟩ := xEA ρ R l rn (n + 1) (k + 1) hl' hf.2 m hm (by omega) j i hi';refine ⟨id', by simpa [xBq] using h1, ?_⟩;rcases h2 with h2 | ⟨h2, h3, h4, h5⟩
    ·exact .inl (by simpa using h2)
    ·exact .inr ⟨by simpa using h2, h3, by omega, by simp only [xBl, List.length_cons]; omega⟩
theorem xFr (ids : Nat -> Nat) : ∀ {l : List RK} {y : xF3 l} {j : Nat} {r : Root}, (xAm ids l y)[j]? = some r -> ∃ (k : RK) (x : k.ty), l[j]? = some k /\ r = k.enc ids x /\ (xAm same l y)[j]? = some (k.enc same x)
 | [], _, _, _, h => by simp [xAm] at h
 | k :: l, y, 0, r, h => by
  simp only [xAm, List.getElem?_cons_zero, Option.some.injEq] at h;exact ⟨k, pf k.dflt k.hasD (rsD l) y, by simp, h.symm, by simp [xAm]⟩
 | k :: l, y, j + 1, r, h => by
  simp only [xAm, List.getElem?_cons_succ] at h;obtain ⟨k', x, h1, h2, h3⟩ := xFr ids h;exact ⟨k', x, by simpa using h1, h2, by simpa [xAm] using h3⟩
theorem xOA (ids : Nat -> Nat) : ∀ (lin : List RK) (idl : List Nat) (lout : List RK) (y : xF3 lout) (h : List Root), idl.length = lin.length -> lin.length <= lout.length -> (xQ7 ids lin idl lout y h).length = h.length + (lout.length - lin.length)
 | [], idl, lout, y, h, _, _ => by simp [xQ7, xC7]
 | r :: lin, [], _, _, _, e, _ => by simp at e
 | r :: lin, id :: idl, [], _, _, _, e => by simp at e
 | r :: lin, id :: idl, r' :: lout, y, h, e1, e2 => by
  simp only [xQ7];rw [xOA ids lin idl lout _ _ (by simpa using e1) (by simpa using e2)];cases r.isOwn <;> simp
theorem xOC (ids : Nat -> Nat) : ∀ (lin : List RK) (idl : List Nat) (lout : List RK) (y : xF3 lout) (h : List Root), idl.length = lin.length -> lin.length <= lout.length -> ∀ (q : Nat) (r : Root), (xQ7 ids lin idl lout y h)[q]? = some r ->
  (∃ (j : Nat) (k : RK), lin[j]? = some k /\ k.isOwn = true /\ idl[j]? = some q /\ (xAm ids lout y)[j]? = some r) \/ (∃ j : Nat, lin.length <= j /\ q = h.length + (j - lin.length) /\ (xAm ids lout y)[j]? = some r) \/ (h[q]? = some r /\ ∀ (j : Nat) (k : RK), lin[j]? = some k -> k.isOwn = true -> idl[j]? ≠ some q)
 | [], idl, lout, y, h, _, _, q, r, hq => by
  simp only [xQ7] at hq;rcases Nat.lt_or_ge q h.length with hlt | hge
  ·rw [List.getElem?_append_left hlt] at hq;exact .inr (.inr ⟨hq, fun j k e => by simp at e⟩)
  ·rw [List.getElem?_append_right hge] at hq;exact .inr (.inl ⟨q - h.length, by simp, by simp; omega, hq⟩)
 | r0 :: lin, [], _, _, _, e, _, _, _, _ => by simp at e
 | r0 :: lin, id :: idl, [], _, _, _, e, _, _, _ => by simp at e
 | r0 :: lin, id :: idl, r' :: lout, y, h, e1, e2, q, r, hq => by
  simp only [xQ7] at hq;rcases xOC ids lin idl lout _ _ (by simpa using e1) (by simpa using e2) q r hq with ⟨j, k, h1, h2, h3, h4⟩ | ⟨j, h1, h2, h3⟩ | ⟨h1, h2⟩
  ·exact .inl ⟨j + 1, k, by simpa using h1, h2, by simpa using h3, by simpa [xAm] using h4⟩
  ·refine .inr (.inl ⟨j + 1, by simpa using h1, ?_, by simpa [xAm] using h3⟩);have : (bif r0.isOwn then h.set id (r'.enc ids (pf r'.dflt r'.hasD (rsD lout) y)) else h).length = h.length := by cases r0.isOwn <;> simp
   rw [this] at h2;simp only [List.length_cons]; omega
  ·cases ho : r0.isOwn with
   | false =>
    rw [ho] at h1;refine .inr (.inr ⟨h1, fun j k g1 g2 => ?_⟩)
    cases j with
    | zero => simp only [List.getElem?_cons_zero, Option.some.injEq] at g1; subst g1; rw [ho] at g2; cases g2
    | succ j => simpa using h2 j k (by simpa using g1) g2
   | true =>
    rw [ho] at h1;simp only [cond_true] at h1;by_cases hqi : id = q
    ·subst hqi;have hlt := (List.getElem?_eq_some_iff.1 h1).1;rw [List.getElem?_set_self (by simpa using hlt)] at h1;cases h1;exact .inl ⟨0, r0, by simp, ho, by simp, by simp [xAm]⟩
    ·rw [List.getElem?_set_ne hqi] at h1;refine .inr (.inr ⟨h1, fun j k g1 g2 => ?_⟩)
     cases j with
     | zero => simpa using hqi
     | succ j => simpa using h2 j k (by simpa using g1) g2
theorem xOB (ids : Nat -> Nat) : ∀ (lin : List RK) (idl : List Nat) (lout : List RK) (y : xF3 lout) (h : List Root) (q : Nat), q < h.length -> (∀ (j : Nat) (k : RK), lin[j]? = some k -> k.isOwn = true -> idl[j]? ≠ some q) -> (xQ7 ids lin idl lout y h)[q]? = h[q]?
 | [], idl, lout, y, h, q, hq, _ => by simp only [xQ7]; rw [List.getElem?_append_left hq]
 | r0 :: lin, [], lout, y, h, q, hq, _ => rfl
 | r0 :: lin, id :: idl, [], y, h, q, hq, _ => rfl
 | r0 :: lin, id :: idl, r' :: lout, y, h, q, hq, hn => by
  simp only [xQ7];rw [xOB ids lin idl lout _ _ q (by cases r0.isOwn <;> simpa using hq) (fun j k g1 g2 => by simpa using hn (j + 1) k (by simpa using g1) g2)]
  cases ho : r0.isOwn with
  | false => rfl
  | true =>
   have := hn 0 r0 (by simp) ho;simp only [cond_true];rw [List.getElem?_set_ne (by simpa using this)]
theorem xVJ (r : RK) : r.nilR.tag = none := by
 unfold RK.nilR;split
 ·rename_i y hy;rw [RK.enc_tag];cases r <;> first | rfl | cases hy
 ·rfl
theorem xFR : ∀ (l : List RK) (rn : Rn), ∀ r ∈ xBl l rn, r.tag = none
 | [], _, r, h => by simp [xBl] at h
 | k :: l, [], r, h => by simp [xBl] at h
 | k :: l, x :: rn, r, h => by
  unfold xBl at h;split at h
  ·exact xFR l rn r h
  ·rcases List.mem_cons.1 h with rfl | h
   ·exact xVJ k
   ·exact xFR l rn r h
theorem xJH : ∀ (l : List RK) (rn : Rn) (id : Nat), id ∈ xCJ l rn -> ∃ (j : Nat) (k : RK), l[j]? = some k /\ k.isOwn = true /\ rn[j]? = some (some (some id))
 | [], _, _, h => by simp [xCJ] at h
 | r :: l, [], _, h => by simp [xCJ] at h
 | r :: l, x :: rn, id, h => by
  have next : id ∈ xCJ l rn -> ∃ (j : Nat) (k : RK), (r :: l)[j]? = some k /\ k.isOwn = true /\ (x :: rn)[j]? = some (some (some id)) := fun h => by
   obtain ⟨j, k, h1, h2, h3⟩ := xJH l rn id h;exact ⟨j + 1, k, by simpa using h1, h2, by simpa using h3⟩
  unfold xCJ at h;split at h
  ·rename_i id'
   cases ho : r.isOwn with
   | true =>
    rw [ho] at h;rcases List.mem_cons.1 h with rfl | h
    ·exact ⟨0, r, rfl, ho, rfl⟩
    ·exact next h
   | false => rw [ho] at h; exact next h
  ·exact next h
theorem xSm {k : RK} {x : k.ty} {ids : Nat -> Nat} {i : Info} {b : Nat} (h : own i (k.enc ids x) b) : k.isOwn = true := by
 cases k <;> first | rfl | cases h
theorem xWc {k : RK} {x : k.ty} {ids : Nat -> Nat} {i : Info} {b : Nat} (ho : k.outOk = true) (h : foot i (k.enc ids x) b) : own i (k.enc ids x) b := by
 cases k <;> first | exact h | cases ho
/-- What a root that was read off owns, the one that was found owns. -/
theorem rs_back {l : List RK} {rn rn' : Rn} {z : xF3 l} (hz : xGa rn h l 0 = some (z, rn')) (hh : HOk S F W0 ρ h w) {p : Nat} {r : Root} {i : Info} {b : Nat} (hr : (xAm same l z)[p]? = some r) (hi : (mkI rn' ρ)[p]? = some i) (ho : own i r b) (htg : xAP (xCT l) l = true) :
  ∃ id x0, rn'[p]? = some (some (some id)) /\ h[id]? = some x0 /\ ρ[id]? = some i /\ own i x0 b := by
 obtain ⟨h3, h4⟩ := xDt hz;have ha := Agr.mk rn' ρ;rcases h4 ρ _ ha (xMj hz htg hh) p r hr with rfl | ⟨id, x0, g1, g2, g3⟩ | ⟨g1, g2⟩
 ·cases ho
 ·rw [Nat.zero_add] at g1;obtain ⟨i0, e4⟩ := hh.info g2;rw [(ha p).1 id g1, e4] at hi;have hi' : i0 = i := Option.some.inj hi;rw [hi'] at e4;exact ⟨id, x0, g1, g2, e4, (g3 w i (hh.ok id x0 i g2 e4)).2.1 b ho⟩
 ·rw [Nat.zero_add] at g1;rw [(ha p).2 g1] at hi;cases hi;exact absurd ho ((g2 w).2.1 b)
end
theorem use0_ok {P : Program} {E : Ent} (hpl : E.plain = true) (hE : xAu P E.f E.nargs E.In E.Out E.spec) {β : Type} {els : Option β} {args : List PV} {h : List Root} {k : List Nat -> PV -> List Root -> Option β} {r : β} (hr : E.use0 args h β k els = some r) {S F : List Nat} {W0 : World} {ρ : List Info} {w : World} {vs : List Value}
  (hargs : DenArgs ρ args vs) (hh : HOk S F W0 ρ h w) (hcl : xBc P E.f = true) : els = some r \/ Calls P E.f vs.toArray w (fun e w' => ∃ ρ' h' v u B t, e = .returned u /\ Pre ρ ρ' /\ DenP ρ' v u /\ HOk S F W0 ρ' h' w' /\ k t v h' = some r /\ Ex B w w' /\
   (∀ b ∈ B, ∃ p ∈ t, ∃ r i, h[p]? = some r /\ ρ[p]? = some i /\ own i r b) /\ (∀ q : Nat, q ∉ t -> q < h.length -> h'[q]? = h[q]?) /\ Feet ρ h w ρ' h') := by
 unfold Ent.use0 at hr
 cases hna : Nat.beq args.length E.nargs with
 | false => rw [hna] at hr; exact .inl hr
 | true =>
  rw [hna] at hr;have hna := nbT hna;simp only [cond_true] at hr;split at hr
  ·rename_i s rn hdec
   cases hfo0 : (xGv (xBx h args) h.length E.In.roots rn && arOk h (xCJ E.In.roots rn) E.In.roots.length E.Out.roots) with
   | false => rw [hfo0] at hr; cases hr
   | true =>
    rw [hfo0] at hr;simp only [cond_true] at hr;rw [Bool.and_eq_true] at hfo0;obtain ⟨hfo, har⟩ := hfo0;obtain ⟨t, ht, hk⟩ := xDN hr;refine .inr ?_;have hlen : vs.length = args.length := hargs.len;have hK0 : KOk vs.length [] ρ (xUL 0 args) { tmps := vs.toArray, defers := [] } := ⟨by simp, rfl, fun t p hp => by
     obtain ⟨_, h2⟩ := xFy _ _ _ _ hp;rw [Nat.sub_zero] at h2;obtain ⟨v, h3, h4⟩ := hargs.get h2;exact ⟨v, h4, by simpa using h3⟩⟩
    obtain ⟨_, hD⟩ := Sch.decR_ok hdec;obtain ⟨hK1, hH1⟩ := hD hK0 hh
    -- the parts of the reading
    obtain ⟨z, rn1, hz, hs2, hlrn, htgA⟩ : ∃ z rn1, xGa rn1 h E.In.roots 0 = some (z, rn) /\ xAm same E.In.roots (E.In.b s) = xAm same E.In.roots z /\ rn.length = E.In.roots.length /\ xAP (xHV E.In.slots ++ xCT E.In.roots) E.In.roots = true := by
     unfold Sch.decR at hdec;split at hdec
     rotate_right
     ·cases hdec
     split at hdec
     ·rename_i y rn1 hy;split at hdec
      ·rename_i z rn2 hz
       cases hb : (xEK (xIp E.In.roots rn2) && Nat.beq rn2.length E.In.roots.length && xAP (xHV E.In.slots ++ xCT E.In.roots) E.In.roots) with
       | false => rw [hb] at hdec; cases hdec
       | true =>
        rw [hb] at hdec;cases hdec;simp only [Bool.and_eq_true] at hb;exact ⟨z, rn1, hz, Sch.enc_b _ _, nbT hb.1.2, hb.2⟩
      ·cases hdec
     ·cases hdec
    have htg2 : xAP (xCT E.In.roots) E.In.roots = true := by
     have := htgA;unfold xAP at this ⊢;rw [List.all_append, Bool.and_eq_true] at this;exact this.2
    rw [hs2] at hH1;have hH1' := hH1.enterAll;rw [<- hs2] at hH1';refine (hE s t ht _ _ w _ w vs (by omega) (fun q p hp => by
     obtain ⟨v, h1, h2⟩ := hK1.2.2 q p hp;exact ⟨v, h1, by simpa using h2⟩) hH1' hcl).mono fun e w' he => ?_
    obtain ⟨ι', u, rfl, hpre, hu, hc, hM⟩ := he;rw [hs2] at hc;simp only [Ent.plain, Bool.and_eq_true] at hpl;obtain ⟨⟨⟨hp1, hp2⟩, hp3⟩, hp4⟩ := hpl;have hidl : (xBq rn h.length).length = E.In.roots.length := by rw [xJ0, hlrn]
    have hH0 := HOk.adds (rs := xBl E.In.roots rn) (xFS _ _) (xFR _ _) hh;have hl0 : ρ.length = h.length := hh.len;have hfo' : xGv (xBx h args) ρ.length E.In.roots rn = true := by rw [hl0]; exact hfo
    -- where the roots that came in lie
    have hin : ∀ (j : Nat) (i : Info), (mkI rn ρ)[j]? = some i -> ∃ id, (xBq rn h.length)[j]? = some id /\ (ρ ++ List.replicate (xBl E.In.roots rn).length nilI)[id]? = some i /\ ((rn[j]? = some (some (some id)) /\ id < h.length) \/ ((∀ x, rn[j]? ≠ some (some (some x))) /\ h.length <= id)) := by
     intro j i hi;obtain ⟨id, h1, h2⟩ := xEA ρ (xBx h args) E.In.roots rn h.length 0 hlrn.symm hfo' ρ.length rfl (by omega) j i hi;refine ⟨id, h1, ?_⟩;rcases h2 with ⟨h2, h3, h4⟩ | ⟨h2, h3, h4, h5⟩
     ·refine ⟨?_, .inl ⟨h2, by omega⟩⟩;rw [List.getElem?_append_left h4]; exact h3
     ·refine ⟨?_, .inr ⟨h2, h4⟩⟩;rw [List.getElem?_append_right (by omega), h3, List.getElem?_replicate, if_pos (by omega)]
    have hιl : (mkI rn ρ).length = E.In.roots.length := by simp [mkI, hlrn]
    have hι'l : ι'.length = E.Out.roots.length := by rw [hc.len, xC7]
    generalize hids : idsF (xBq rn h.length) (h ++ xBl E.In.roots rn).length = ids at hk;have hidj : ∀ j id, (xBq rn h.length)[j]? = some id -> ids j = id := by
     intro j id e; rw [<- hids]; simp [idsF, e]
    have hidn : ∀ j, E.In.roots.length <= j -> ids j = (h ++ xBl E.In.roots rn).length + (j - E.In.roots.length) := by
     intro j e;rw [<- hids];unfold idsF;rw [List.getElem?_eq_none (by omega)];simp only [hidl]
    generalize hρ' : (ρ ++ List.replicate (xBl E.In.roots rn).length nilI) ++ ι'.drop E.In.roots.length = ρ';have hl0' : (ρ ++ List.replicate (xBl E.In.roots rn).length nilI).length = (h ++ xBl E.In.roots rn).length := hH0.len;have hpre0 : Pre (ρ ++ List.replicate (xBl E.In.roots rn).length nilI) ρ' := by rw [<- hρ']; exact Pre.app _ _
    have hsh : Sh ids ι' ρ' := by
     intro j i hi;rcases Nat.lt_or_ge j E.In.roots.length with hj | hj
     ·obtain ⟨i0, hi0⟩ : ∃ i0, (mkI rn ρ)[j]? = some i0 := ⟨_, List.getElem?_eq_getElem (by omega)⟩;have := hpre j hj i0 hi0;rw [hi] at this;cases this;obtain ⟨id, h1, h2, _⟩ := hin j i hi0;rw [hidj j id h1];exact hpre0 _ _ h2
     ·rw [hidn j hj, <- hl0', <- hρ', List.getElem?_append_right (by omega), List.getElem?_drop];rw [show E.In.roots.length + ((ρ ++ List.replicate (xBl E.In.roots rn).length nilI).length + (j - E.In.roots.length) - (ρ ++ List.replicate (xBl E.In.roots rn).length nilI).length) = j by omega];exact hi
    have hext : Ex (xAo .own (mkI rn ρ) (xAm same E.In.roots z) (List.range (xAm same E.In.roots z).length)) w w' := hc.ext;generalize hS1 : xAo .own (mkI rn ρ) (xAm same E.In.roots z) (List.range (xAm same E.In.roots z).length) = S1 at hc hext;generalize hF1 : xAo .foot (mkI rn ρ) (xAm same E.In.roots z) (List.range (xAm same E.In.roots z).length) = F1 at hc
    -- own blocks of the roots that came in
    have hback : ∀ b ∈ S1, ∃ (j : Nat) (kk : RK) (id : Nat) (x0 : Root) (i : Info), E.In.roots[j]? = some kk /\ kk.isOwn = true /\ (xBq rn h.length)[j]? = some id /\ rn[j]? = some (some (some id)) /\ h[id]? = some x0 /\ ρ[id]? = some i /\ own i x0 b := by
     intro b hb;rw [<- hS1] at hb;obtain ⟨p, _, rc, i, g1, g2, g3⟩ := xAg.1 hb;obtain ⟨id, x0, k1, k2, k3, k4⟩ := rs_back hz hh g1 g2 g3 htg2;obtain ⟨kk, x, m1, m2, m3⟩ := xFr same g1;subst m2;obtain ⟨id', n1, n2, n3⟩ := hin p i g2;refine ⟨p, kk, id, x0, i, m1, xSm g3, ?_, k1, k2, k3, k4⟩;rcases n3 with ⟨n3, _⟩ | ⟨n3, _⟩
     ·rw [k1] at n3; cases n3; exact n1
     ·exact absurd k1 (n3 id)
    generalize hh' : xQ7 ids E.In.roots (xBq rn h.length) E.Out.roots (E.Out.b t) (h ++ xBl E.In.roots rn) = h' at hk;have hget := xOC ids E.In.roots (xBq rn h.length) E.Out.roots (E.Out.b t) (h ++ xBl E.In.roots rn) hidl hM;rw [hh'] at hget
    -- a root behind the call: of the function's, or hidden
    have hcase : ∀ (q : Nat) (rr : Root) (i : Info), h'[q]? = some rr -> ρ'[q]? = some i ->
      (∃ (j : Nat) (kk : RK) (x : kk.ty), E.Out.roots[j]? = some kk /\ kk.plain = true /\ kk.outOk = true /\ rr = kk.enc ids x /\ (xAm same E.Out.roots (E.Out.b t))[j]? = some (kk.enc same x) /\ ι'[j]? = some i /\ q = ids j) \/
      ((h ++ xBl E.In.roots rn)[q]? = some rr /\ (ρ ++ List.replicate (xBl E.In.roots rn).length nilI)[q]? = some i /\ ∀ (j : Nat) (kk : RK), E.In.roots[j]? = some kk -> kk.isOwn = true -> (xBq rn h.length)[j]? ≠ some q) := by
     intro q rr i h1 h2;have mk : ∀ j, q = ids j -> (xAm ids E.Out.roots (E.Out.b t))[j]? = some rr -> (∃ (j : Nat) (kk : RK) (x : kk.ty), E.Out.roots[j]? = some kk /\ kk.plain = true /\ kk.outOk = true /\ rr = kk.enc ids x /\ (xAm same E.Out.roots (E.Out.b t))[j]? = some (kk.enc same x) /\ ι'[j]? = some i /\ q = ids j) := by
      intro j e1 e2;obtain ⟨kk, x, m1, m2, m3⟩ := xFr ids e2;have hmem := List.mem_of_getElem? m1;obtain ⟨i', hi'⟩ : ∃ i', ι'[j]? = some i' := ⟨_, List.getElem?_eq_getElem (by rw [hι'l]; exact (List.getElem?_eq_some_iff.1 m1).1)⟩;have := hsh j i' hi';rw [<- e1, h2] at this;cases this;exact ⟨j, kk, x, m1, List.all_eq_true.1 hp2 _ hmem, List.all_eq_true.1 hp3 _ hmem, m2, m3, hi', e1⟩
     rcases hget q rr h1 with ⟨j, kk, g1, g2, g3, g4⟩ | ⟨j, g1, g2, g3⟩ | ⟨g1, g2⟩
     ·exact .inl (mk j (hidj j q g3).symm g4)
     ·exact .inl (mk j (by rw [hidn j g1, g2]) g3)
     ·refine .inr ⟨g1, ?_, g2⟩;have hlt : q < (ρ ++ List.replicate (xBl E.In.roots rn).length nilI).length := by rw [hl0']; exact (List.getElem?_eq_some_iff.1 g1).1
      have := hpre0 q _ (List.getElem?_eq_getElem hlt);rw [h2] at this;rw [List.getElem?_eq_getElem hlt, this]
    have hapart : ∀ (q : Nat) (rr : Root) (i : Info) (b : Nat), (h ++ xBl E.In.roots rn)[q]? = some rr -> (ρ ++ List.replicate (xBl E.In.roots rn).length nilI)[q]? = some i -> (∀ (j : Nat) (kk : RK), E.In.roots[j]? = some kk -> kk.isOwn = true -> (xBq rn h.length)[j]? ≠ some q) -> foot i rr b -> b ∉ S1 := by
     intro q rr i b g1 g2 g3 g4 hb;obtain ⟨j, kk, id, x0, i0, m1, m2, m3, m4, m5, m6, m7⟩ := hback b hb;have hne : id ≠ q := fun e => g3 j kk m1 m2 (by rw [m3, e]);exact hH0.sep id q x0 rr i0 i b hne (by rw [List.getElem?_append_left (List.getElem?_eq_some_iff.1 m5).1]; exact m5) g1 (by rw [List.getElem?_append_left (List.getElem?_eq_some_iff.1 m6).1]; exact m6) g2 m7 g4
    have hownE : ∀ {kk : RK} {x : kk.ty} {i : Info} {b : Nat}, own i (kk.enc ids x) b -> own i (kk.enc same x) b := fun {kk x i b} e => by rw [RK.own_ids same ids]; exact e
    have hfootE : ∀ {kk : RK} {x : kk.ty} {i : Info} {b : Nat}, kk.outOk = true -> foot i (kk.enc ids x) b -> own i (kk.enc same x) b := fun {kk x i b} ho e => hownE (xWc ho e);have hHfin : HOk S F W0 ρ' h' w' := by
     refine ⟨?_, ?_, ?_, ?_, ?_, ?_, hh.lay, hh.out, ?_, ?_⟩
     rotate_right
     ·intro q rr i h1 h2;rcases hcase q rr i h1 h2 with ⟨jo, kk, x, m1, m2, m3, e4, m5, m6, m7⟩ | ⟨m1, m2, m3⟩
      ·have := hc.cln jo _ i m5 m6;subst e4;by_cases hkd : kk = .dead
       ·subst hkd; exact .inl rfl
       ·exact this.of (fun e => by cases kk <;> first | exact absurd rfl hkd | cases e) (by rw [RK.enc_tag, RK.enc_tag])
      ·exact hH0.cln q rr i m1 m2
     rotate_right
     ·intro q tg rr i h1 h2 htg id j m v hj hv
      -- where what is known stems from
      have hsrc : (∃ id0 : Nat, ρ[id0]? = some j) \/ j = nilI \/ (∃ q0 : Nat, E.In.roots.length <= q0 /\ ι'[q0]? = some j) := by
       rw [<- hρ'] at hj;rcases Nat.lt_or_ge id (ρ ++ List.replicate (xBl E.In.roots rn).length nilI).length with hlt | hge
       ·rw [List.getElem?_append_left hlt] at hj;rcases Nat.lt_or_ge id ρ.length with hlt2 | hge2
        ·rw [List.getElem?_append_left hlt2] at hj; exact .inl ⟨id, hj⟩
        ·rw [List.getElem?_append_right hge2, List.getElem?_replicate] at hj;split at hj
         ·exact .inr (.inl (Option.some.inj hj).symm)
         ·cases hj
       ·rw [List.getElem?_append_right hge, List.getElem?_drop] at hj;exact .inr (.inr ⟨_, Nat.le_add_right _ _, hj⟩)
      rcases hcase q rr i h1 h2 with ⟨jo, kk, x, m1, m2, m3, e4, m5, m6, m7⟩ | ⟨m1, m2, m3⟩
      ·have hkt : kk.tag = some tg := by rw [e4, RK.enc_tag] at htg; exact htg
       have hcov := hc.cov jo tg _ i m5 m6 (by rw [RK.enc_tag]; exact hkt);rcases hsrc with ⟨id0, hs0⟩ | rfl | ⟨q0, _, hs0⟩
       ·obtain ⟨jI, kI, n1, n2⟩ := xL4 hp4 (t := tg) (List.mem_filterMap.2 ⟨kk, List.mem_of_getElem? m1, hkt⟩);obtain ⟨id1, x1, n3, n4, n5⟩ := xD4 hz jI kI tg n1 n2;rw [Nat.zero_add] at n3;obtain ⟨i1, hi1⟩ := hh.info n4;have hv1 := hh.cov id1 tg x1 i1 n4 hi1 n5 id0 j m v hs0 hv;have hjlt : jI < E.In.roots.length := (List.getElem?_eq_some_iff.1 n1).1;have hmk : (mkI rn ρ)[jI]? = some i1 := by rw [((Agr.mk rn ρ) jI).1 id1 n3, hi1]; rfl
        exact hcov jI i1 m v (hpre jI hjlt i1 hmk) hv1
       ·rw [xDa] at hv; simp at hv
       ·exact hcov q0 j m v hs0 hv
      ·rcases hsrc with ⟨id0, hs0⟩ | rfl | ⟨q0, hq0, hs0⟩
       ·exact hH0.cov q tg rr i m1 m2 htg id0 j m v (by rw [List.getElem?_append_left (List.getElem?_eq_some_iff.1 hs0).1]; exact hs0) hv
       ·rw [xDa] at hv; simp at hv
       ·have hq0lt : q0 < E.Out.roots.length := by rw [<- hι'l]; exact (List.getElem?_eq_some_iff.1 hs0).1
        simp only [arOk, Bool.or_eq_true] at har;rcases har with har | har
        ·exfalso;rcases Nat.lt_or_ge q h.length with hlt | hge
         ·rw [List.getElem?_append_left hlt] at m1;have hmem := xJf (p := 0) m1 (by rw [htg]; simp);rw [Nat.zero_add] at hmem;have := List.all_eq_true.1 har q hmem;rw [Bool.or_eq_true] at this;rcases this with this | this;rotate_left
          ·rw [m1] at this;dsimp only at this;rw [htg] at this;obtain ⟨r9, hr9⟩ : ∃ r9, (xAm same E.Out.roots (E.Out.b t))[q0]? = some r9 := ⟨_, List.getElem?_eq_getElem (by rw [xC7]; exact hq0lt)⟩;obtain ⟨k9, x9, n1, n2, _⟩ := xFr same hr9;subst n2;rw [xRx (List.all_eq_true.1 this k9 (List.mem_of_getElem? (i := q0 - E.In.roots.length) (by rw [List.getElem?_drop, Nat.add_sub_cancel' hq0]; exact n1))) same x9 (hc.cln q0 _ j hr9 hs0)] at hv;simp at hv
          have hown := xDL.1 this;obtain ⟨jj, kk, n1, n2, n3⟩ := xJH _ _ _ hown;obtain ⟨i0, hi0⟩ : ∃ i0, (mkI rn ρ)[jj]? = some i0 := ⟨_, List.getElem?_eq_getElem (by rw [hιl]; exact (List.getElem?_eq_some_iff.1 n1).1)⟩;obtain ⟨id', k1, k2, k3⟩ := hin jj i0 hi0;rcases k3 with ⟨k3, _⟩ | ⟨k3, _⟩
          ·rw [n3] at k3; cases k3;exact m3 jj kk n1 n2 k1
          ·exact k3 q n3
         ·rw [List.getElem?_append_right hge] at m1;have := xFR E.In.roots rn rr (List.mem_of_getElem? m1);rw [this] at htg; cases htg
        ·have := nbT har;omega
     ·refine ⟨hext.os.trans hh.ext.os, hext.tape.trans hh.ext.tape, hext.output.trans hh.ext.output, Nat.le_trans hh.ext.size hext.size, fun kb hkb hs => ?_⟩;have hkB : kb ∉ S1 := fun hm => by
       obtain ⟨j, kk, id, x0, i0, m1, m2, m3, m4, m5, m6, m7⟩ := hback kb hm;rcases hh.mine id x0 i0 kb m5 m6 m7 with g4 | g4
       ·omega
       ·exact hs g4
      rw [hext.block kb (Nat.lt_of_lt_of_le hkb hh.ext.size) hkB];exact hh.ext.block kb hkb hs
     ·rw [<- hh', xOA ids _ _ _ _ _ hidl hM, <- hρ', List.length_append, hl0', List.length_drop, hι'l]
     ·intro q rr i h1 h2;rcases hcase q rr i h1 h2 with ⟨j, kk, x, m1, m2, m3, rfl, m5, m6, rfl⟩ | ⟨m1, m2, m3⟩
      ·exact RK.move hsh m2 (hc.ok j _ i m5 m6)
      ·exact ((hH0.ok q rr i m1 m2).ex hext (fun b hb => hapart q rr i b m1 m2 m3 hb)).mono hpre0
     ·intro p q rr ss i j b hpq hr1 hs1 hi1 hj1 ho;rcases hcase p rr i hr1 hi1 with ⟨jp, kp, xp, a1, a2, a3, rfl, a5, a6, rfl⟩ | ⟨a1, a2, a3⟩
      ·rcases hcase q ss j hs1 hj1 with ⟨jq, kq, xq, b1, b2, b3, rfl, b5, b6, rfl⟩ | ⟨b1, b2, b3⟩
       ·intro hf;exact hc.sep jp jq _ _ i j b (fun e => hpq (by rw [e])) a5 b5 a6 b6 (hownE ho) (xAs (hfootE b3 hf))
       ·intro hf;rcases hc.mine jp _ i b a5 a6 (hownE ho) with g1 | g1
        ·have := (hH0.ok q ss j b1 b2).lt hf; omega
        ·exact hapart q ss j b b1 b2 b3 hf g1
      ·rcases hcase q ss j hs1 hj1 with ⟨jq, kq, xq, b1, b2, b3, rfl, b5, b6, rfl⟩ | ⟨b1, b2, b3⟩
       ·intro hf;rcases hc.mine jq _ j b b5 b6 (hfootE b3 hf) with g1 | g1
        ·have := (hH0.ok p rr i a1 a2).lt (xAs ho); omega
        ·exact hapart p rr i b a1 a2 a3 (xAs ho) g1
       ·exact hH0.sep p q rr ss i j b hpq a1 b1 a2 b2 ho
     ·intro q rr i b h1 h2 ho;rcases hcase q rr i h1 h2 with ⟨j, kk, x, m1, m2, m3, rfl, m5, m6, rfl⟩ | ⟨m1, m2, m3⟩
      ·rcases hc.mine j _ i b m5 m6 (hownE ho) with g1 | g1
       ·exact .inl (Nat.le_trans hh.ext.size g1)
       ·obtain ⟨j', kk', id, x0, i0, n1, n2, n3, n4, n5, n6, n7⟩ := hback b g1;exact hh.mine id x0 i0 b n5 n6 n7
      ·exact hH0.mine q rr i b m1 m2 ho
     ·intro q rr i b h1 h2 ho;rcases hcase q rr i h1 h2 with ⟨j, kk, x, m1, m2, m3, rfl, m5, m6, rfl⟩ | ⟨m1, m2, m3⟩
      ·rcases hc.mine j _ i b m5 m6 (hfootE m3 ho) with g1 | g1
       ·exact .inl (Nat.le_trans hh.ext.size g1)
       ·obtain ⟨j', kk', id, x0, i0, n1, n2, n3, n4, n5, n6, n7⟩ := hback b g1;rcases hh.mine id x0 i0 b n5 n6 n7 with g5 | g5
        ·exact .inl g5
        ·exact .inr (.inl g5)
      ·exact hH0.near q rr i b m1 m2 ho
    refine ⟨ρ', h', _, u, S1, xCJ E.In.roots rn, rfl, ?_, RP.move hsh hp1 hu, hHfin, hk, hext, fun b hb => ?_, fun q hq hlt => ?_, fun q rr i b h1 h2 hf => ?_⟩
    ·intro id i e;exact hpre0 id i (by rw [List.getElem?_append_left (List.getElem?_eq_some_iff.1 e).1]; exact e)
    ·obtain ⟨j, kk, id, x0, i0, m1, m2, m3, m4, m5, m6, m7⟩ := hback b hb;exact ⟨id, xGh _ _ j id kk m1 m2 m4, x0, i0, m5, m6, m7⟩
    ·rw [<- hh', xOB ids _ _ _ _ _ q (by simp; omega) (fun j kk g1 g2 g3 => ?_), List.getElem?_append_left hlt];obtain ⟨i0, hi0⟩ : ∃ i0, (mkI rn ρ)[j]? = some i0 := ⟨_, List.getElem?_eq_getElem (by rw [hιl]; exact (List.getElem?_eq_some_iff.1 g1).1)⟩;obtain ⟨id, n1, n2, n3⟩ := hin j i0 hi0;rw [g3] at n1;cases n1;rcases n3 with ⟨n3, _⟩ | ⟨_, n3⟩
     ·exact hq (xGh _ _ j q kk g1 g2 n3)
     ·omega
    ·rcases hcase q rr i h1 h2 with ⟨j, kk, x, m1, m2, m3, rfl, m5, m6, rfl⟩ | ⟨m1, m2, m3⟩
     ·rcases hc.mine j _ i b m5 m6 (hfootE m3 hf) with g1 | g1
      ·exact .inl g1
      ·obtain ⟨j', kk', id, x0, i0, n1, n2, n3, n4, n5, n6, n7⟩ := hback b g1;exact .inr ⟨id, x0, i0, n5, n6, xAs n7⟩
     ·rcases Nat.lt_or_ge q h.length with hlt | hge
      ·rw [List.getElem?_append_left hlt] at m1;rw [List.getElem?_append_left (by omega)] at m2;exact .inr ⟨q, rr, i, m1, m2, hf⟩
      ·rw [List.getElem?_append_right hge] at m1;rw [List.getElem?_append_right (by omega), List.getElem?_replicate] at m2;split at m2
       ·cases m2;have := xFS E.In.roots rn rr (List.mem_of_getElem? m1) [] w;exact absurd hf (this.2.2 b)
       ·cases m2
  ·exact .inl hr
theorem xKC {ρ ρ' : List Info} : ∀ {c : CV} {v : Value}, scCV c = true -> Den ρ c v -> Den ρ' c v
 | .sc _, _, _, h => h
 | .er _, _, _, h => h
theorem xNx {ρ ρ' : List Info} : ∀ {l : List CV} {vs : List Value}, l.all scCV = true -> DenL ρ l vs -> DenL ρ' l vs
 | [], _, _, h => h
 | c :: l, vs, hs, ⟨v, r, e, h1, h2⟩ => by
  simp only [List.all_cons, Bool.and_eq_true] at hs;exact ⟨v, r, e, xKC hs.1 h1, xNx hs.2 h2⟩
theorem xRP {ρ ρ' : List Info} : ∀ {l : List (Bool × List CV)} {vs : List Value}, l.all (fun p => p.2.all scCV) = true -> DenT ρ l vs -> DenT ρ' l vs
 | [], _, _, h => h
 | p :: l, vs, hs, ⟨v, r, e, h1, h2⟩ => by
  simp only [List.all_cons, Bool.and_eq_true] at hs;obtain ⟨b, cs⟩ := p;refine ⟨v, r, e, ?_, xRP hs.2 h2⟩
  cases b with
  | true => obtain ⟨us, h3, h4⟩ := h1; exact ⟨us, xNx hs.1 h3, h4⟩
  | false =>
   obtain ⟨c, h3, h4⟩ := h1;have h5 := hs.1;have h3' : cs = [c] := h3;subst h3';simp only [List.all_cons, List.all_nil, Bool.and_true] at h5;exact ⟨c, rfl, xKC h5 h4⟩
theorem xOT {ρ ρ' : List Info} {p : PV} {v : Value} (hs : scPV p = true) (h : DenP ρ p v) : DenP ρ' p v := by
 cases p with
 | c x => exact xKC hs h
 | ag l => obtain ⟨vs, h1, h2⟩ := h; exact ⟨vs, xNx hs h1, h2⟩
 | tu l => obtain ⟨vs, h1, h2⟩ := h; exact ⟨vs, xRP hs h1, h2⟩
 | un => cases hs
theorem xNW {S F : List Nat} {W0 : World} {ρ : List Info} {h : List Root} {w : World} (hh : HOk S F W0 ρ h w) : ∀ {bs : List (Option TC)} {ps a1 : List PV} {h1 : List Root} {j : Nat} {vs : List Value}, frzA h bs ps j = some (a1, h1) -> DenArgs ρ ps vs ->
  ∃ ρ1 : List Info, ρ1.length = h1.length /\ (∀ pre : List Info, pre.length = j -> DenArgs (pre ++ ρ1) a1 vs) /\ ∀ (q : Nat) (r : Root) (i : Info), h1[q]? = some r -> ρ1[q]? = some i -> (∀ b, ¬ own i r b) /\ RootOk [] w i r /\ r.tag = none /\ ∀ t, i.objs t = []
 | [], ps, a1, h1, j, vs, hf, hd => by
  simp only [frzA] at hf;split at hf
  ·cases hf;exact ⟨[], rfl, fun _ _ => hd, fun q r i e => by simp at e⟩
  ·cases hf
 | o :: bs, [], a1, h1, j, vs, hf, hd => by simp only [frzA] at hf; cases hf
 | none :: bs, p :: ps, a1, h1, j, vs, hf, ⟨v, r, e, hd1, hd2⟩ => by
  simp only [frzA] at hf
  cases hs : scPV p with
  | false => rw [hs] at hf; cases hf
  | true =>
   rw [hs] at hf;simp only [cond_true] at hf;split at hf
   ·rename_i a rr hrec;cases hf;obtain ⟨ρ1, k1, k2, k3⟩ := xNW hh hrec hd2;exact ⟨ρ1, k1, fun pre hp => ⟨v, r, e, xOT hs hd1, k2 pre hp⟩, k3⟩
   ·cases hf
 | some τ :: bs, p :: ps, a1, h1, j, vs, hf, ⟨v, r, e, hd1, hd2⟩ => by
  simp only [frzA] at hf;split at hf
  ·rename_i id k row c
   cases hc : ((Nat.beq k 0 && Nat.beq row 0) && (Nat.beq c 0 && (!xAE τ && τ.tags.isEmpty))) with
   | false => rw [hc] at hf; cases hf
   | true =>
    rw [hc] at hf;simp only [cond_true] at hf;simp only [Bool.and_eq_true, Bool.not_eq_true'] at hc;obtain ⟨⟨hk, hrow⟩, hc0, hcv, htg⟩ := hc;have hk := nbT hk;have hrow := nbT hrow;have hc0 := nbT hc0;subst hk; subst hrow; subst hc0;split at hf
    ·rename_i cs T hid;split at hf
     ·rename_i x hx;split at hf
      ·rename_i a rr hrec;cases hf;obtain ⟨ρ1, k1, k2, k3⟩ := xNW hh hrec hd2;obtain ⟨i, b, o, q1, q2, q3, q4⟩ := hd1;obtain ⟨⟨n1, n2⟩, b', us, m1, m2, m3⟩ := hh.ok id _ i hid q1;rw [q2] at m1;cases m1;have hcs := TC.dec1_enc hx;subst hcs;refine ⟨⟨some ⟨b, 0, none⟩, i.cap, some 1, i.val⟩ :: ρ1, by simp [k1], fun pre hp => ⟨v, r, e, ?_, ?_⟩, fun q rt ii e1 e2 => ?_⟩
       ·refine ⟨⟨some ⟨b, 0, none⟩, i.cap, some 1, i.val⟩, b, 0, ?_, rfl, ⟨fun m hm => by cases hm; exact Nat.one_pos, fun hm => by cases hm⟩, ?_⟩
        ·rw [<- hp, List.getElem?_append_right (Nat.le_refl _), Nat.sub_self]; rfl
        ·rw [q4]; simp
       ·have := k2 (pre ++ [⟨some ⟨b, 0, none⟩, i.cap, some 1, i.val⟩]) (by simp [hp]);simpa using this
       ·cases q with
        | zero =>
         simp only [List.getElem?_cons_zero, Option.some.injEq] at e1 e2;subst e1; subst e2;refine ⟨fun b hb => hb, ⟨rfl, us, ?_, fun _ => ⟨b, 0, rfl, lt_of_block m3, fun jj u hu => ?_⟩⟩, rfl, fun t => ?_⟩
         rotate_right
         ·rcases hh.cln id _ i hid q1 with g | g
          ·cases g
          ·exact g t (by intro e; cases e)
         ·have h9 : DenL [] (τ.enc x) us := DenL.enc hcv (fun t ht => by rw [List.isEmpty_iff.1 htg] at ht; cases ht) m2;show DenL [] (flat τ [x]) us;unfold flat;simpa using h9
         ·unfold World.cell?;dsimp only;rw [m3];simpa using hu
        | succ q => exact k3 q rt ii (by simpa using e1) (by simpa using e2)
      ·cases hf
     ·cases hf
    ·cases hf
  ·cases hf
theorem useP_ok {P : Program} {E : Ent} (hE : xAu P E.f E.nargs E.In E.Out E.spec) {β : Type} {els : Option β} {args : List PV} {h : List Root} {k : List Nat -> PV -> List Root -> Option β} {r : β} (hr : E.useP args h β k els = some r) {S F : List Nat} {W0 : World} {ρ : List Info} {w : World} {vs : List Value}
  (hargs : DenArgs ρ args vs) (hh : HOk S F W0 ρ h w) (hcl : xBc P E.f = true) : els = some r \/ Calls P E.f vs.toArray w (fun e w' => ∃ ρ' h' v u B t, e = .returned u /\ Pre ρ ρ' /\ DenP ρ' v u /\ HOk S F W0 ρ' h' w' /\ k t v h' = some r /\ Ex B w w' /\
   (∀ b ∈ B, ∃ p ∈ t, ∃ r i, h[p]? = some r /\ ρ[p]? = some i /\ own i r b) /\ (∀ q : Nat, q ∉ t -> q < h.length -> h'[q]? = h[q]?) /\ Feet ρ h w ρ' h') := by
 unfold Ent.useP at hr;split at hr
 ·rename_i a1 h1 hf
  cases hna : Nat.beq a1.length E.nargs with
  | false => rw [hna] at hr; exact .inl hr
  | true =>
   rw [hna] at hr;simp only [cond_true] at hr;split at hr
   ·rename_i s rn hdec;obtain ⟨t, ht, hk⟩ := xDN hr;refine .inr ?_;obtain ⟨ρ1, k1, k2, k3⟩ := xNW hh hf hargs;have hd := k2 [] rfl;rw [List.nil_append] at hd;have hlen : vs.length = a1.length := hd.len;have hK0 : KOk vs.length [] ρ1 (xUL 0 a1) { tmps := vs.toArray, defers := [] } := ⟨by simp, rfl, fun t p hp => by
     obtain ⟨_, h2⟩ := xFy _ _ _ _ hp;rw [Nat.sub_zero] at h2;obtain ⟨v, h3, h4⟩ := hd.get h2;exact ⟨v, h4, by simpa using h3⟩⟩
    have hH0 : HOk [] (xAo .foot ρ1 h1 (List.range h1.length)) w ρ1 h1 w :=
     ⟨Ex.refl _ _, k1, fun q r i a b => (k3 q r i a b).2.1.mono (fun _ _ e => by simp at e), fun p q r s i j b _ hr _ hi _ ho => absurd ho ((k3 p r i hr hi).1 b),
      fun p r i b hr hi ho => absurd ho ((k3 p r i hr hi).1 b),
      fun p r i b hr hi ho => .inr (.inr (xAg.2 ⟨p, List.mem_range.2 (List.getElem?_eq_some_iff.1 hr).1, r, i, hr, hi, ho⟩)), hh.layW, fun b hb => ⟨hh.outW hb, by simp⟩, fun p t r i hr hi ht => (by rw [(k3 p r i hr hi).2.2.1] at ht; cases ht), fun p r i hr hi => .inr fun t _ => (k3 p r i hr hi).2.2.2 t⟩
    obtain ⟨_, hD⟩ := Sch.decR_ok hdec;obtain ⟨hK1, hH1⟩ := hD hK0 hH0;refine (hE s t ht [] _ w _ w vs (by rw [hlen]; exact nbT hna) (fun q p hp => by
     obtain ⟨v, h1, h2⟩ := hK1.2.2 q p hp;exact ⟨v, h1, by simpa using h2⟩) hH1 hcl).mono fun e w' he => ?_
    obtain ⟨ι', u, rfl, _, hu, hc, _⟩ := he
    cases hsc : scPV (E.Out.res.enc same (E.Out.a t)) with
    | false => rw [hsc] at hk; cases hk
    | true =>
     rw [hsc] at hk;exact ⟨ρ, h, _, u, [], [], rfl, Pre.refl _, xOT hsc hu, hh.ext' hc.ext, hk, hc.ext, by simp, fun _ _ _ => rfl, Feet.refl w⟩
   ·exact .inl hr
 ·exact .inl hr
theorem use_ok {P : Program} {E : Ent} (hpl : E.plain = true) (hE : xAu P E.f E.nargs E.In E.Out E.spec) {β : Type} {els : Option β} {args : List PV} {h : List Root} {k : List Nat -> PV -> List Root -> Option β} {r : β} (hr : E.use args h β k els = some r) {S F : List Nat} {W0 : World} {ρ : List Info} {w : World} {vs : List Value}
  (hargs : DenArgs ρ args vs) (hh : HOk S F W0 ρ h w) (hcl : xBc P E.f = true) : els = some r \/ Calls P E.f vs.toArray w (fun e w' => ∃ ρ' h' v u B t, e = .returned u /\ Pre ρ ρ' /\ DenP ρ' v u /\ HOk S F W0 ρ' h' w' /\ k t v h' = some r /\ Ex B w w' /\
   (∀ b ∈ B, ∃ p ∈ t, ∃ r i, h[p]? = some r /\ ρ[p]? = some i /\ own i r b) /\ (∀ q : Nat, q ∉ t -> q < h.length -> h'[q]? = h[q]?) /\ Feet ρ h w ρ' h') := by
 unfold Ent.use at hr;split at hr
 ·exact use0_ok hpl hE hr hargs hh hcl
 ·exact useP_ok hE hr hargs hh hcl
theorem xLO {P : Program} {fb : (β : Type) -> xAT β} (hfb : ∀ β, xAW P (fb β)) : ∀ {l : List Ent}, xAh P l -> ∀ β, xAW P (xUj fb l β)
 | [], _, β => hfb β
 | E :: l, hE, β => fun f args h k r hr S F W0 ρ w vs hargs hh hcl => by
  simp only [xUj] at hr
  cases hb : Nat.beq E.f f with
  | false => rw [hb] at hr; exact xLO hfb hE.2 β f args h k r hr S F W0 ρ w vs hargs hh hcl
  | true =>
   rw [hb] at hr;have := nbT hb;subst this;rcases use_ok hE.1.1 hE.1.2 hr hargs hh hcl with h1 | h1
   ·exact xLO hfb hE.2 β E.f args h k r h1 S F W0 ρ w vs hargs hh hcl
   ·exact h1
end
end Go.Proofs.YthmicafabimfkaaGreatDoor


namespace Go.Proofs.YthmicafabimfkaaGreatDoor
noncomputable section
open Go.RowKit
/-! Blocks that hold neither cells nor a map -/
def xKX : Obj -> Bool
 | .cells .. => false
 | .map .. => false
 | _ => true
section
variable {P : Program} {N n : Nat} {D : List Deferred} {S F : List Nat} {W0 B : World} {ρ ρ' : List Info} {K : Slo} {h h' : List Root} {w w' : World} {a : Act}
theorem ObOk.putObj {l : Nat} {o o0 : Obj} (hl : w.heap[l]? = some o0) (h0 : xKX o0 = true) {v : Value} {ob : Ob} (hr : ObOk ρ w v ob) : ObOk ρ (w.putObj l o) v ob := by
 cases ob with
 | no => trivial
 | row T τ xs =>
  obtain ⟨a, c, h1, h2, vs, h3, h4, h5, h6, h7⟩ := hr;refine ⟨a, c, h1, h2, vs, h3, h4, h5, h6, ?_⟩;rcases h7 with h7 | ⟨g, o', cur, h8, h9, h10⟩
  ·exact .inl ⟨h7.1, fun b hb => by rw [World.putObj_size]; exact h7.2 b hb⟩
  ·refine .inr ⟨g, o', cur, h8, ?_, h10⟩;rw [World.putObj_heap_other (fun e => by subst e; rw [hl] at h9; cases h9; cases h0)];exact h9
 | mp κ agg τ ts =>
  obtain ⟨r, ents, cl, h1, h3, h4⟩ := hr;refine ⟨r, ents, cl, h1, ?_, h4⟩;rw [World.putObj_heap_other (fun e => by subst e; rw [hl] at h3; cases h3; cases h0)];exact h3
 | rr τ xs =>
  obtain ⟨a, c, g1, g2, g3, vs, h2, h3⟩ := hr;refine ⟨a, c, g1, g2, g3, vs, h2, fun hn => ?_⟩;obtain ⟨b, o', h4, h5, h6⟩ := h3 hn;refine ⟨b, o', h4, by rw [World.putObj_size]; exact h5, fun j v hv => ?_⟩;have h7 := h6 j v hv;unfold World.cell? at h7 ⊢;have hne : b ≠ l := fun e => by
   subst e;dsimp only at h7;rw [hl] at h7;cases o0 <;> first | (cases h0; done) | (simp at h7; done)
  dsimp only at h7 ⊢;rw [World.putObj_heap_other hne];exact h7
theorem ArOk.putObj {l : Nat} {o o0 : Obj} (hl : w.heap[l]? = some o0) (h0 : xKX o0 = true) {vs : List Value} {os : List Ob} (hr : ArOk ρ w vs os) : ArOk ρ (w.putObj l o) vs os :=
 ⟨hr.1, fun m v ob h1 h2 => (hr.2.1 m v ob h1 h2).putObj hl h0, hr.2.2⟩
theorem RootOk.putObj {l : Nat} {o o0 : Obj} (hl : w.heap[l]? = some o0) (h0 : xKX o0 = true) {i : Info} {r : Root} (hr : RootOk ρ w i r) : RootOk ρ (w.putObj l o) i r := by
 cases r with
 | dead => trivial
 | blk cs T =>
  obtain ⟨h1, b, vs, h2, h3, h4⟩ := hr;refine ⟨h1, b, vs, h2, h3, ?_⟩;rw [World.putObj_heap_other (fun e => by subst e; rw [hl] at h4; cases h4; cases h0)];exact h4
 | rows T τ xs =>
  obtain ⟨h1, h2, vs, h3, h4, h5, h6, h7⟩ := hr;refine ⟨h1, h2, vs, h3, h4, h5, h6, ?_⟩;rcases h7 with h7 | ⟨g, o', cur, h8, h9, h10⟩
  ·exact .inl ⟨h7.1, fun b hb => by rw [World.putObj_size]; exact h7.2 b hb⟩
  ·refine .inr ⟨g, o', cur, h8, ?_, h10⟩;rw [World.putObj_heap_other (fun e => by subst e; rw [hl] at h9; cases h9; cases h0)];exact h9
 | ro τ xs =>
  obtain ⟨h1, vs, h2, h3⟩ := hr;refine ⟨h1, vs, h2, fun hn => ?_⟩;obtain ⟨b, o', h4, h5, h6⟩ := h3 hn;refine ⟨b, o', h4, by rw [World.putObj_size]; exact h5, fun j v hv => ?_⟩;have h7 := h6 j v hv;unfold World.cell? at h7 ⊢;have hne : b ≠ l := fun e => by
   subst e;dsimp only at h7;rw [hl] at h7;cases o0 <;> first | (cases h0; done) | (simp at h7; done)
  dsimp only at h7 ⊢;rw [World.putObj_heap_other hne];exact h7
 | clo f x c => exact hr
 | mp κ agg τ es =>
  obtain ⟨r, ents, c, h1, h2, h3, h4⟩ := hr;refine ⟨r, ents, c, h1, h2, ?_, h4⟩;rw [World.putObj_heap_other (fun e => by subst e; rw [hl] at h3; cases h3; cases h0)];exact h3
 | ars t T τ os => exact ArOk.putObj hl h0 hr
 | aro t T τ os => exact ArOk.putObj hl h0 hr
 | arm t k agg τ os => exact ArOk.putObj hl h0 hr
 | arr t τ os => exact ArOk.putObj hl h0 hr
theorem HOk.putObj (hh : HOk S F W0 ρ h w) {l : Nat} {o o0 : Obj} (hl : w.heap[l]? = some o0) (h0 : xKX o0 = true) (hB : Ex [l] W0 B) (hs : B.heap.size = W0.heap.size) (hBl : B.heap[l]? = some o) : HOk S F B ρ h (w.putObj l o) := by
 have hG : ∀ b ∈ xLw, b ≠ l := fun b hb e => by
  obtain ⟨c, T, f, hc⟩ := xMV hh.layW hb;rw [e, hl] at hc;cases hc;cases h0
 have hlt := lt_of_block hl;refine ⟨⟨hh.ext.os.trans hB.os.symm, hh.ext.tape.trans hB.tape.symm, hh.ext.output.trans hB.output.symm, by rw [World.putObj_size, hs]; exact hh.ext.size, fun k hk hks => ?_⟩, hh.len, fun id r i a b => (hh.ok id r i a b).putObj hl h0, hh.sep, fun p r i b x y z => by rw [hs]; exact hh.mine p r i b x y z, fun p r i b x y z => by rw [hs]; exact hh.near p r i b x y z, xPK (fun b hb => hB.block b (hh.out b hb).1 (by simp only [List.mem_singleton]; exact hG b hb)) hh.lay, fun b hb => ⟨by rw [hs]; exact (hh.out b hb).1, (hh.out b hb).2⟩, hh.cov, hh.cln⟩;by_cases e : k = l
 ·subst e; rw [World.putObj_heap_same hlt, hBl]
 ·rw [World.putObj_heap_other e, hh.ext.block k (by omega) hks, hB.block k (by omega) (by simpa using e)]
end
end
end Go.Proofs.YthmicafabimfkaaGreatDoor
