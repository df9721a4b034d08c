/- A part of the proof of the theorem of the last file. No condition. By an AI agent. -/
import Derived.Test.YtnomnijhlbalaaaGreatDoorWY4
namespace Go.Proofs.YtnomnijhlbalaaaGreatDoor
noncomputable section
open Go.RowKit
structure Ent where
 f : Nat
 nargs : Nat
 In : Sch
 Out : FSch
 spec : In.ty -> Option Out.ty
 bx : List (Option TC)
def RK.isOwn : RK -> Bool
 | .rows _ _ => true
 | .blk _ _ => true
 | .mp _ _ _ => true
 | .ars _ _ _ => true
 | .aro _ _ _ => true
 | .arm _ _ _ _ => true
 | _ => false
def RK.outOk : RK -> Bool
 | .ro _ => false
 | .arr _ _ => false
 | _ => true
def xBo : Rn -> Nat -> List Nat
 | [], _ => []
 | x :: rn, n => match x with
  | some (some id) => id :: xBo rn n
  | _ => n :: xBo rn (n + 1)
def RK.nilR (r : RK) : Root :=
 match r.nil with
 | some y => r.enc same y
 | none => .dead
def xBf : List RK -> Rn -> List Root
 | r :: l, x :: rn => match x with
  | some (some _) => xBf l rn
  | _ => r.nilR :: xBf l rn
 | _, _ => []
def idsF (idl : List Nat) (n j : Nat) : Nat :=
 match idl[j]? with
 | some id => id
 | none => n + (j - idl.length)
def xRY (ids : Nat -> Nat) : (lin : List RK) -> (idl : List Nat) -> (lout : List RK) -> xF8 lout -> List Root -> List Root
 | [], _, lout, y, h => h ++ xAe ids lout y
 | r :: lin, idl, lout, y, h => match idl, lout, y with
  | id :: idl, r' :: lout, y => xRY ids lin idl lout (ps (rsDf lout) r'.hasD (rsD lout) y) (bif r.isOwn then h.set id (r'.enc ids (pf r'.dflt r'.hasD (rsD lout) y)) else h)
  | _, _, _ => h
def xGx (R : List Nat) (n : Nat) : List RK -> Rn -> Bool
 | r :: l, x :: rn => (match x with
  | some (some id) => Nat.ble (id + 1) n && (!r.isOwn || R.any (Nat.beq id))
  | _ => true) && xGx R n l rn
 | _, _ => true
def xCS : List RK -> Rn -> List Nat
 | r :: l, x :: rn => match x with
  | some (some id) => bif r.isOwn then id :: xCS l rn else xCS l rn
  | _ => xCS l rn
 | _, _ => []
theorem xGl : ∀ (l : List RK) (rn : Rn) (j id : Nat) (k : RK), l[j]? = some k -> k.isOwn = true -> rn[j]? = some (some (some id)) -> id ∈ xCS l rn
 | [], _, j, _, _, h, _, _ => by simp at h
 | r :: l, [], j, _, _, _, _, h => by simp at h
 | r :: l, x :: rn, 0, id, k, h1, h2, h3 => by
  simp only [List.getElem?_cons_zero, Option.some.injEq] at h1 h3;subst h1; subst h3;simp only [xCS, h2, cond_true];exact List.mem_cons_self
 | r :: l, x :: rn, j + 1, id, k, h1, h2, h3 => by
  have := xGl l rn j id k (by simpa using h1) h2 (by simpa using h3);unfold xCS;split
  ·cases r.isOwn with
   | true => exact List.mem_cons_of_mem _ this
   | false => exact this
  ·exact this
def xSr (o : Option Nat) (k : RK) : Bool :=
 match k with
 | .dead => false
 | k => match o with
  | none => true
  | some t => match k.tag with
   | some t' => !Nat.beq t t'
   | none => true
def arOk (h : List Root) (own : List Nat) (nin : Nat) (outs : List RK) : Bool :=
 (xNJ h 0).all (fun p => own.any (Nat.beq p) || (match h[p]? with
  | some r => (outs.drop nin).all (xSr r.tag)
  | none => false)) || Nat.beq outs.length nin
theorem xSq {t : Nat} {k : RK} (h : xSr (some t) k = true) (ids : Nat -> Nat) (x : k.ty) {i : Info} (hc : Cln i (k.enc ids x)) : i.objs t = [] := by
 have hd : k.enc ids x ≠ .dead := fun e => by cases k <;> first | (cases h; done) | exact Root.noConfusion e
 rcases hc with g | g
 ·exact absurd g hd
 ·refine g t (fun e => ?_);rw [RK.enc_tag] at e;cases k <;> first | (cases e; done) | (cases e; simp [xSr, RK.tag] at h)
def Ent.use0 (E : Ent) (args : List PV) (h : List Root) (β : Type) (k : List Nat -> PV -> List Root -> Option β) (els : Option β) : Option β :=
 bif Nat.beq args.length E.nargs then match E.In.decR (E.In.roots.map (fun _ => none)) (xV1 0 args) h with
  | some (s, rn) => bif xGx (xAY h args) h.length E.In.roots rn && arOk h (xCS E.In.roots rn) E.In.roots.length E.Out.roots then
    ob (E.spec s) (fun t => k (xCS E.In.roots rn) (E.Out.res.enc (idsF (xBo rn h.length) (h ++ xBf E.In.roots rn).length) (E.Out.a t))
     (xRY (idsF (xBo rn h.length) (h ++ xBf E.In.roots rn).length) E.In.roots (xBo rn h.length) E.Out.roots (E.Out.b t) (h ++ xBf E.In.roots rn)))
   else none
  | none => els
 else els
def scCV : CV -> Bool
 | .sc _ => true
 | .er _ => true
 | _ => false
def scPV : PV -> Bool
 | .c x => scCV x
 | .ag l => l.all scCV
 | .tu l => l.all (fun p => p.2.all scCV)
 | .un => false
def xS5 {U' U : TC} (e : xFv U' U = true) (xs : List U'.ty) : List U.ty := castG (fun U => List U.ty) e xs
def xV3 (h : List Root) : List (Option TC) -> List PV -> Nat -> Option (List PV × List Root × Bool)
 | [], ps, _ => match ps with
  | [] => some ([], [], true)
  | _ :: _ => none
 | o :: bs, ps, j => match ps with
  | [] => none
  | p :: ps => match o with
   | none => bif scPV p then (match xV3 h bs ps j with
    | some (a, r, g) => some (p :: a, r, g)
    | none => none) else none
   | some U => match p with
    | .c (.pt id k row c) => bif (Nat.beq k 0 && Nat.beq row 0) && (Nat.beq c 0 && (!xAy U && U.tags.isEmpty)) then (match h[id]? with
     | some (.blk cs _) => match U.dec1 cs with
      | some x => match xV3 h bs ps (j + 1) with
       | some (a, r, g) => some (.c (.pt j U.w 0 0) :: a, .ro U [x] :: r, g)
       | none => none
      | none => none
     | _ => none) else none
    | .c (.sl id k off n c) => match n, c with
     | some n, some _ => bif Nat.ble 1 U.w && (!xAy U && U.tags.isEmpty) then (match h[id]? with
      | some (.blk cs _) => match xE3 U n ((cs.drop (off * k)).take (n * U.w)) with
       | some xs => match xV3 h bs ps (j + 1) with
        | some (a, r, g) => some (.c (.sl j U.w 0 none none) :: a, .ro U xs :: r, g)
        | none => none
       | none => none
      | _ => none) else none
     | _, _ => none
    | .c (.rf q t n) => bif Nat.beq q 1 && (!xAy U && U.tags.isEmpty) then (match xAZ t h 0 with
     | some (_, .ars _ _ U' os) => if e : xFv U' U = true then match xV3 h bs ps (j + 1) with
       | some (a, r, g) => some (.c (.sl j U.w 0 none none) :: a, .ro U (xS5 e (rowAt os n)) :: r, xCv os n && g)
       | none => none
      else none
     | _ => none) else none
    | _ => none
def xRe (m : Nat) : CV -> Bool
 | .sc _ => true
 | .er _ => true
 | .sl id _ _ _ _ => Nat.beq id m
 | _ => false
def scPVn (m : Nat) : PV -> Bool
 | .c x => xRe m x
 | .ag l => l.all (xRe m)
 | .tu l => l.all (fun p => p.2.all (xRe m))
 | .un => false
def mvCV (m : Nat) : CV -> CV
 | .sl _ k off n c => .sl m k off n c
 | x => x
def mvPV (m : Nat) : PV -> PV
 | .c x => .c (mvCV m x)
 | .ag l => .ag (l.map (mvCV m))
 | .tu l => .tu (l.map (fun p => (p.1, p.2.map (mvCV m))))
 | .un => .un
def newRow (rs : List Root) (m : Nat) : Option (Sigma fun _ : Unit => Root) :=
 match rs[m]? with
 | some (.rows T U xs) => bif !xAy U && U.tags.isEmpty then some ⟨(), .rows T U xs⟩ else none
 | _ => none
def Ent.useP (E : Ent) (args : List PV) (h : List Root) (β : Type) (k : List Nat -> PV -> List Root -> Option β) (els : Option β) : Option β :=
 match xV3 h E.bx args 0 with
 | some (a1, h1, g) => bif Nat.beq a1.length E.nargs then match E.In.decR (E.In.roots.map (fun _ => none)) (xV1 0 a1) h1 with
  | some (s, _) => bif g then ob (E.spec s) (fun t => bif scPV (E.Out.res.enc same (E.Out.a t)) then k [] (E.Out.res.enc same (E.Out.a t)) h else
    match newRow (xAe same E.Out.roots (E.Out.b t)) E.In.roots.length with
    | some r => bif scPVn E.In.roots.length (E.Out.res.enc same (E.Out.a t)) then k [] (mvPV h.length (E.Out.res.enc same (E.Out.a t))) (h ++ [r.2]) else none
    | none => none) else none
  | none => els
  else els
 | none => els
def Ent.use (E : Ent) (args : List PV) (h : List Root) (β : Type) (k : List Nat -> PV -> List Root -> Option β) (els : Option β) : Option β :=
 match E.bx with
 | [] => E.use0 args h β k els
 | _ :: _ => E.useP args h β k els
def xVp (fb : (β : Type) -> xAK β) : List Ent -> (β : Type) -> xAK β
 | [], β => fb β
 | E :: l, β => fun f args h k => bif Nat.beq E.f f then E.use args h β k (xVp fb l β f args h k) else xVp fb l β f args h k
def Ent.plain (E : Ent) : Bool := E.Out.res.plain && E.Out.roots.all RK.plain && E.Out.roots.all RK.outOk && xAI (E.Out.roots.filterMap RK.tag) E.In.roots
def xAj (P : Program) : List Ent -> Prop
 | [] => True
 | E :: l => (E.plain = true /\ FnSem P E.f E.nargs E.In E.Out E.spec) /\ xAj P l
section
variable {P : Program} {S F : List Nat} {W0 : World} {O : List Info} {h : List Root} {w : World}
def NilR (r : Root) : Prop := ∀ (Z : List Info) (w : World), RootOk Z w nilI r /\ (∀ b, ¬ own nilI r b) /\ (∀ b, ¬ foot nilI r b)
theorem nilR_ok (r : RK) : NilR r.nilR := by
 intro Z w;unfold RK.nilR;split
 ·rename_i y hy; exact RK.nil_ok hy Z w
 ·exact ⟨trivial, fun b hb => hb, fun b hb => hb⟩
theorem HOk.adds : ∀ {rs : List Root} {O : List Info} {h : List Root}, (∀ r ∈ rs, NilR r) -> (∀ r ∈ rs, r.tag = none) -> HOk S F W0 O h w -> HOk S F W0 (O ++ List.replicate rs.length nilI) (h ++ rs) w
 | [], O, h, _, _, hh => by simpa using hh
 | r :: rs, O, h, hr, ht, hh => by
  have h1 := hr r (by simp);have := HOk.adds (rs := rs) (fun r hm => hr r (by simp [hm])) (fun r hm => ht r (by simp [hm])) (hh.add (Ex.refl _ _) nilI r (h1 _ w).1 (fun b hb => absurd hb ((h1 [] w).2.2 b)) (fun _ => rfl) (ht r (by simp)));simpa [List.replicate_succ] using this
theorem xFZ : ∀ (l : List RK) (rn : Rn), ∀ r ∈ xBf l rn, NilR r
 | [], _, r, hr => by simp [xBf] at hr
 | k :: l, [], r, hr => by simp [xBf] at hr
 | k :: l, x :: rn, r, hr => by
  simp only [xBf] at hr;split at hr
  ·exact xFZ l rn r hr
  ·rcases List.mem_cons.1 hr with rfl | hr
   ·exact nilR_ok k
   ·exact xFZ l rn r hr
theorem xJ3 : ∀ (rn : Rn) (n : Nat), (xBo rn n).length = rn.length
 | [], _ => rfl
 | x :: rn, n => by
  simp only [xBo];split <;> simp [xJ3 rn]
theorem xEP (O : List Info) (R : List Nat) : ∀ (l : List RK) (rn : Rn) (n k : Nat), l.length = rn.length -> xGx R O.length l rn = true -> ∀ (m : Nat), m = O.length -> n = m + k -> ∀ (j : Nat) (i : Info), (mkI rn O)[j]? = some i ->
  ∃ id, (xBo rn n)[j]? = some id /\ ((rn[j]? = some (some (some id)) /\ O[id]? = some i /\ id < m) \/ ((∀ x, rn[j]? ≠ some (some (some x))) /\ i = nilI /\ n <= id /\ id < n + (xBf l rn).length))
 | [], [], n, k, _, _, m, _, _, j, i, hi => by simp [mkI] at hi
 | [], x :: rn, _, _, e, _, _, _, _, _, _, _ => by simp at e
 | _ :: _, [], _, _, e, _, _, _, _, _, _, _ => by simp at e
 | r :: l, x :: rn, n, k, hl, hf, m, hm, hn, j, i, hi => by
  simp only [xGx, Bool.and_eq_true] at hf;have hl' : l.length = rn.length := by simpa using hl
  match x, hf, hi with
  | some (some id), hf, hi =>
   simp only [Bool.and_eq_true] at hf;have hlt := Nat.le_of_ble_eq_true hf.1.1
   cases j with
   | zero =>
    refine ⟨id, by simp [xBo], .inl ⟨by simp, ?_, by omega⟩⟩;simp only [mkI, List.map_cons, List.getElem?_cons_zero, Option.some.injEq] at hi;rw [List.getElem?_eq_getElem (by omega)] at hi ⊢;rw [<- hi]; rfl
   | succ j =>
    have hi' : (mkI rn O)[j]? = some i := by simpa [mkI] using hi
    obtain ⟨id', h1, h2⟩ := xEP O R l rn n k hl' hf.2 m hm hn j i hi';exact ⟨id', by simpa [xBo] using h1, by simpa [xBf] using h2⟩
  | some none, hf, hi =>
   cases j with
   | zero =>
    refine ⟨n, by simp [xBo], .inr ⟨by simp, ?_, Nat.le_refl _, by simp [xBf]⟩⟩;simp only [mkI, List.map_cons, List.getElem?_cons_zero, Option.some.injEq] at hi;exact hi.symm
   | succ j =>
    have hi' : (mkI rn O)[j]? = some i := by simpa [mkI] using hi
    obtain ⟨id', h1, h2⟩ := xEP O R l rn (n + 1) (k + 1) hl' hf.2 m hm (by omega) j i hi';refine ⟨id', by simpa [xBo] using h1, ?_⟩;rcases h2 with h2 | ⟨h2, h3, h4, h5⟩
    ·exact .inl (by simpa using h2)
    ·exact .inr ⟨by simpa using h2, h3, by omega, by simp only [xBf, List.length_cons]; omega⟩
  | none, hf, hi =>
   cases j with
   | zero =>
    refine ⟨n, by simp [xBo], .inr ⟨by simp, ?_, Nat.le_refl _, by simp [xBf]⟩⟩;simp only [mkI, List.map_cons, List.getElem?_cons_zero, Option.some.injEq] at hi;exact hi.symm
   | succ j =>
    have hi' : (mkI rn O)[j]? = some i := by simpa [mkI] using hi
    obtain ⟨id', h1, h2⟩ := xEP O R l rn (n + 1) (k + 1) hl' hf.2 m hm (by omega) j i hi';refine ⟨id', by simpa [xBo] using h1, ?_⟩;rcases h2 with h2 | ⟨h2, h3, h4, h5⟩
    ·exact .inl (by simpa using h2)
    ·exact .inr ⟨by simpa using h2, h3, by omega, by simp only [xBf, List.length_cons]; omega⟩
theorem xFD (ids : Nat -> Nat) : ∀ {l : List RK} {y : xF8 l} {j : Nat} {r : Root}, (xAe ids l y)[j]? = some r -> ∃ (k : RK) (x : k.ty), l[j]? = some k /\ r = k.enc ids x /\ (xAe same l y)[j]? = some (k.enc same x)
 | [], _, _, _, h => by simp [xAe] at h
 | k :: l, y, 0, r, h => by
  simp only [xAe, List.getElem?_cons_zero, Option.some.injEq] at h;exact ⟨k, pf k.dflt k.hasD (rsD l) y, by simp, h.symm, by simp [xAe]⟩
 | k :: l, y, j + 1, r, h => by
  simp only [xAe, List.getElem?_cons_succ] at h;obtain ⟨k', x, h1, h2, h3⟩ := xFD ids h;exact ⟨k', x, by simpa using h1, h2, by simpa [xAe] using h3⟩
theorem xO2 (ids : Nat -> Nat) : ∀ (lin : List RK) (idl : List Nat) (lout : List RK) (y : xF8 lout) (h : List Root), idl.length = lin.length -> lin.length <= lout.length -> (xRY ids lin idl lout y h).length = h.length + (lout.length - lin.length)
 | [], idl, lout, y, h, _, _ => by simp [xRY, xDr]
 | r :: lin, [], _, _, _, e, _ => by simp at e
 | r :: lin, id :: idl, [], _, _, _, e => by simp at e
 | r :: lin, id :: idl, r' :: lout, y, h, e1, e2 => by
  simp only [xRY];rw [xO2 ids lin idl lout _ _ (by simpa using e1) (by simpa using e2)];cases r.isOwn <;> simp
theorem xO4 (ids : Nat -> Nat) : ∀ (lin : List RK) (idl : List Nat) (lout : List RK) (y : xF8 lout) (h : List Root), idl.length = lin.length -> lin.length <= lout.length -> ∀ (q : Nat) (r : Root), (xRY ids lin idl lout y h)[q]? = some r ->
  (∃ (j : Nat) (k : RK), lin[j]? = some k /\ k.isOwn = true /\ idl[j]? = some q /\ (xAe ids lout y)[j]? = some r) \/ (∃ j : Nat, lin.length <= j /\ q = h.length + (j - lin.length) /\ (xAe ids lout y)[j]? = some r) \/ (h[q]? = some r /\ ∀ (j : Nat) (k : RK), lin[j]? = some k -> k.isOwn = true -> idl[j]? ≠ some q)
 | [], idl, lout, y, h, _, _, q, r, hq => by
  simp only [xRY] at hq;rcases Nat.lt_or_ge q h.length with hlt | hge
  ·rw [List.getElem?_append_left hlt] at hq;exact .inr (.inr ⟨hq, fun j k e => by simp at e⟩)
  ·rw [List.getElem?_append_right hge] at hq;exact .inr (.inl ⟨q - h.length, by simp, by simp; omega, hq⟩)
 | r0 :: lin, [], _, _, _, e, _, _, _, _ => by simp at e
 | r0 :: lin, id :: idl, [], _, _, _, e, _, _, _ => by simp at e
 | r0 :: lin, id :: idl, r' :: lout, y, h, e1, e2, q, r, hq => by
  simp only [xRY] at hq;rcases xO4 ids lin idl lout _ _ (by simpa using e1) (by simpa using e2) q r hq with ⟨j, k, h1, h2, h3, h4⟩ | ⟨j, h1, h2, h3⟩ | ⟨h1, h2⟩
  ·exact .inl ⟨j + 1, k, by simpa using h1, h2, by simpa using h3, by simpa [xAe] using h4⟩
  ·refine .inr (.inl ⟨j + 1, by simpa using h1, ?_, by simpa [xAe] using h3⟩);have : (bif r0.isOwn then h.set id (r'.enc ids (pf r'.dflt r'.hasD (rsD lout) y)) else h).length = h.length := by cases r0.isOwn <;> simp
   rw [this] at h2;simp only [List.length_cons]; omega
  ·cases ho : r0.isOwn with
   | false =>
    rw [ho] at h1;refine .inr (.inr ⟨h1, fun j k g1 g2 => ?_⟩)
    cases j with
    | zero => simp only [List.getElem?_cons_zero, Option.some.injEq] at g1; subst g1; rw [ho] at g2; cases g2
    | succ j => simpa using h2 j k (by simpa using g1) g2
   | true =>
    rw [ho] at h1;simp only [cond_true] at h1;by_cases hqi : id = q
    ·subst hqi;have hlt := (List.getElem?_eq_some_iff.1 h1).1;rw [List.getElem?_set_self (by simpa using hlt)] at h1;cases h1;exact .inl ⟨0, r0, by simp, ho, by simp, by simp [xAe]⟩
    ·rw [List.getElem?_set_ne hqi] at h1;refine .inr (.inr ⟨h1, fun j k g1 g2 => ?_⟩)
     cases j with
     | zero => simpa using hqi
     | succ j => simpa using h2 j k (by simpa using g1) g2
theorem xO3 (ids : Nat -> Nat) : ∀ (lin : List RK) (idl : List Nat) (lout : List RK) (y : xF8 lout) (h : List Root) (q : Nat), q < h.length -> (∀ (j : Nat) (k : RK), lin[j]? = some k -> k.isOwn = true -> idl[j]? ≠ some q) -> (xRY ids lin idl lout y h)[q]? = h[q]?
 | [], idl, lout, y, h, q, hq, _ => by simp only [xRY]; rw [List.getElem?_append_left hq]
 | r0 :: lin, [], lout, y, h, q, hq, _ => rfl
 | r0 :: lin, id :: idl, [], y, h, q, hq, _ => rfl
 | r0 :: lin, id :: idl, r' :: lout, y, h, q, hq, hn => by
  simp only [xRY];rw [xO3 ids lin idl lout _ _ q (by cases r0.isOwn <;> simpa using hq) (fun j k g1 g2 => by simpa using hn (j + 1) k (by simpa using g1) g2)]
  cases ho : r0.isOwn with
  | false => rfl
  | true =>
   have := hn 0 r0 (by simp) ho;simp only [cond_true];rw [List.getElem?_set_ne (by simpa using this)]
theorem xW2 (r : RK) : r.nilR.tag = none := by
 unfold RK.nilR;split
 ·rename_i y hy;rw [RK.enc_tag];cases r <;> first | rfl | cases hy
 ·rfl
theorem xFY : ∀ (l : List RK) (rn : Rn), ∀ r ∈ xBf l rn, r.tag = none
 | [], _, r, h => by simp [xBf] at h
 | k :: l, [], r, h => by simp [xBf] at h
 | k :: l, x :: rn, r, h => by
  unfold xBf at h;split at h
  ·exact xFY l rn r h
  ·rcases List.mem_cons.1 h with rfl | h
   ·exact xW2 k
   ·exact xFY l rn r h
theorem xJK : ∀ (l : List RK) (rn : Rn) (id : Nat), id ∈ xCS l rn -> ∃ (j : Nat) (k : RK), l[j]? = some k /\ k.isOwn = true /\ rn[j]? = some (some (some id))
 | [], _, _, h => by simp [xCS] at h
 | r :: l, [], _, h => by simp [xCS] at h
 | r :: l, x :: rn, id, h => by
  have next : id ∈ xCS l rn -> ∃ (j : Nat) (k : RK), (r :: l)[j]? = some k /\ k.isOwn = true /\ (x :: rn)[j]? = some (some (some id)) := fun h => by
   obtain ⟨j, k, h1, h2, h3⟩ := xJK l rn id h;exact ⟨j + 1, k, by simpa using h1, h2, by simpa using h3⟩
  unfold xCS at h;split at h
  ·rename_i id'
   cases ho : r.isOwn with
   | true =>
    rw [ho] at h;rcases List.mem_cons.1 h with rfl | h
    ·exact ⟨0, r, rfl, ho, rfl⟩
    ·exact next h
   | false => rw [ho] at h; exact next h
  ·exact next h
theorem xTC {k : RK} {x : k.ty} {ids : Nat -> Nat} {i : Info} {b : Nat} (h : own i (k.enc ids x) b) : k.isOwn = true := by
 cases k <;> first | rfl | cases h
theorem xXq {k : RK} {x : k.ty} {ids : Nat -> Nat} {i : Info} {b : Nat} (ho : k.outOk = true) (h : foot i (k.enc ids x) b) : own i (k.enc ids x) b := by
 cases k <;> first | exact h | cases ho
theorem rs_back {l : List RK} {rn rn' : Rn} {z : xF8 l} (hz : xGg rn h l 0 = some (z, rn')) (hh : HOk S F W0 O h w) {p : Nat} {r : Root} {i : Info} {b : Nat} (hr : (xAe same l z)[p]? = some r) (hi : (mkI rn' O)[p]? = some i) (ho : own i r b) (htg : xAI (xC6 l) l = true) :
  ∃ id x0, rn'[p]? = some (some (some id)) /\ h[id]? = some x0 /\ O[id]? = some i /\ own i x0 b := by
 obtain ⟨h3, h4⟩ := xDO hz;have ha := Agr.mk rn' O;rcases h4 O _ ha (xMr hz htg hh) p r hr with rfl | ⟨id, x0, g1, g2, g3⟩ | ⟨g1, g2⟩
 ·cases ho
 ·rw [Nat.zero_add] at g1;obtain ⟨i0, e4⟩ := hh.info g2;rw [(ha p).1 id g1, e4] at hi;have hi' : i0 = i := Option.some.inj hi;rw [hi'] at e4;exact ⟨id, x0, g1, g2, e4, (g3 w i (hh.ok id x0 i g2 e4)).2.1 b ho⟩
 ·rw [Nat.zero_add] at g1;rw [(ha p).2 g1] at hi;cases hi;exact absurd ho ((g2 w).2.1 b)
end
theorem use0_ok {P : Program} {E : Ent} (hpl : E.plain = true) (hE : FnSem P E.f E.nargs E.In E.Out E.spec) {β : Type} {els : Option β} {args : List PV} {h : List Root} {k : List Nat -> PV -> List Root -> Option β} {r : β} (hr : E.use0 args h β k els = some r) {S F : List Nat} {W0 : World} {O : List Info} {w : World} {vs : List Value}
  (hargs : DenArgs O args vs) (hh : HOk S F W0 O h w) (hcl : xA3 P E.f = true) : els = some r \/ Calls P E.f vs.toArray w (fun e w' => ∃ O' h' v u B t, e = .returned u /\ Pre O O' /\ DenP O' v u /\ HOk S F W0 O' h' w' /\ k t v h' = some r /\ Ex B w w' /\
   (∀ b ∈ B, ∃ p ∈ t, ∃ r i, h[p]? = some r /\ O[p]? = some i /\ own i r b) /\ (∀ q : Nat, q ∉ t -> q < h.length -> h'[q]? = h[q]?) /\ Feet O h w O' h') := by
 unfold Ent.use0 at hr
 cases hna : Nat.beq args.length E.nargs with
 | false => rw [hna] at hr; exact .inl hr
 | true =>
  rw [hna] at hr;have hna := nbT hna;simp only [cond_true] at hr;split at hr
  ·rename_i s rn hdec
   cases hfo0 : (xGx (xAY h args) h.length E.In.roots rn && arOk h (xCS E.In.roots rn) E.In.roots.length E.Out.roots) with
   | false => rw [hfo0] at hr; cases hr
   | true =>
    rw [hfo0] at hr;simp only [cond_true] at hr;rw [Bool.and_eq_true] at hfo0;obtain ⟨hfo, har⟩ := hfo0;obtain ⟨t, ht, hk⟩ := xDt hr;refine .inr ?_;have hlen : vs.length = args.length := hargs.len;have hK0 : KOk vs.length [] O (xV1 0 args) { tmps := vs.toArray, defers := [] } := ⟨by simp, rfl, fun t p hp => by
     obtain ⟨_, h2⟩ := xEG _ _ _ _ hp;rw [Nat.sub_zero] at h2;obtain ⟨v, h3, h4⟩ := hargs.get h2;exact ⟨v, h4, by simpa using h3⟩⟩
    obtain ⟨_, hD⟩ := Sch.decR_ok hdec;obtain ⟨hK1, hH1⟩ := hD hK0 hh
    obtain ⟨z, rn1, hz, hs2, hlrn, htgA⟩ : ∃ z rn1, xGg rn1 h E.In.roots 0 = some (z, rn) /\ xAe same E.In.roots (E.In.b s) = xAe same E.In.roots z /\ rn.length = E.In.roots.length /\ xAI (xH7 E.In.slots ++ xC6 E.In.roots) E.In.roots = true := by
     unfold Sch.decR at hdec;split at hdec
     rotate_right
     ·cases hdec
     split at hdec
     ·rename_i y rn1 hy;split at hdec
      ·rename_i z rn2 hz
       cases hb : (xEY (xIw E.In.roots rn2) && Nat.beq rn2.length E.In.roots.length && xAI (xH7 E.In.slots ++ xC6 E.In.roots) E.In.roots) with
       | false => rw [hb] at hdec; cases hdec
       | true =>
        rw [hb] at hdec;cases hdec;simp only [Bool.and_eq_true] at hb;exact ⟨z, rn1, hz, Sch.enc_b _ _, nbT hb.1.2, hb.2⟩
      ·cases hdec
     ·cases hdec
    have htg2 : xAI (xC6 E.In.roots) E.In.roots = true := by
     have := htgA;unfold xAI at this ⊢;rw [List.all_append, Bool.and_eq_true] at this;exact this.2
    rw [hs2] at hH1;have hH1' := hH1.enterAll;rw [<- hs2] at hH1';refine (hE s t ht _ _ w _ w vs (by omega) (fun q p hp => by
     obtain ⟨v, h1, h2⟩ := hK1.2.2 q p hp;exact ⟨v, h1, by simpa using h2⟩) hH1' hcl).mono fun e w' he => ?_
    obtain ⟨Z', u, rfl, hpre, hu, hc, hM⟩ := he;rw [hs2] at hc;simp only [Ent.plain, Bool.and_eq_true] at hpl;obtain ⟨⟨⟨hp1, hp2⟩, hp3⟩, hp4⟩ := hpl;have hidl : (xBo rn h.length).length = E.In.roots.length := by rw [xJ3, hlrn]
    have hH0 := HOk.adds (rs := xBf E.In.roots rn) (xFZ _ _) (xFY _ _) hh;have hl0 : O.length = h.length := hh.len;have hfo' : xGx (xAY h args) O.length E.In.roots rn = true := by rw [hl0]; exact hfo
    have hin : ∀ (j : Nat) (i : Info), (mkI rn O)[j]? = some i -> ∃ id, (xBo rn h.length)[j]? = some id /\ (O ++ List.replicate (xBf E.In.roots rn).length nilI)[id]? = some i /\ ((rn[j]? = some (some (some id)) /\ id < h.length) \/ ((∀ x, rn[j]? ≠ some (some (some x))) /\ h.length <= id)) := by
     intro j i hi;obtain ⟨id, h1, h2⟩ := xEP O (xAY h args) E.In.roots rn h.length 0 hlrn.symm hfo' O.length rfl (by omega) j i hi;refine ⟨id, h1, ?_⟩;rcases h2 with ⟨h2, h3, h4⟩ | ⟨h2, h3, h4, h5⟩
     ·refine ⟨?_, .inl ⟨h2, by omega⟩⟩;rw [List.getElem?_append_left h4]; exact h3
     ·refine ⟨?_, .inr ⟨h2, h4⟩⟩;rw [List.getElem?_append_right (by omega), h3, List.getElem?_replicate, if_pos (by omega)]
    have hιl : (mkI rn O).length = E.In.roots.length := by simp [mkI, hlrn]
    have hι'l : Z'.length = E.Out.roots.length := by rw [hc.len, xDr]
    generalize hids : idsF (xBo rn h.length) (h ++ xBf E.In.roots rn).length = ids at hk;have hidj : ∀ j id, (xBo rn h.length)[j]? = some id -> ids j = id := by
     intro j id e; rw [<- hids]; simp [idsF, e]
    have hidn : ∀ j, E.In.roots.length <= j -> ids j = (h ++ xBf E.In.roots rn).length + (j - E.In.roots.length) := by
     intro j e;rw [<- hids];unfold idsF;rw [List.getElem?_eq_none (by omega)];simp only [hidl]
    generalize hρ' : (O ++ List.replicate (xBf E.In.roots rn).length nilI) ++ Z'.drop E.In.roots.length = O';have hl0' : (O ++ List.replicate (xBf E.In.roots rn).length nilI).length = (h ++ xBf E.In.roots rn).length := hH0.len;have hpre0 : Pre (O ++ List.replicate (xBf E.In.roots rn).length nilI) O' := by rw [<- hρ']; exact Pre.app _ _
    have hsh : Sh ids Z' O' := by
     intro j i hi;rcases Nat.lt_or_ge j E.In.roots.length with hj | hj
     ·obtain ⟨i0, hi0⟩ : ∃ i0, (mkI rn O)[j]? = some i0 := ⟨_, List.getElem?_eq_getElem (by omega)⟩;have := hpre j hj i0 hi0;rw [hi] at this;cases this;obtain ⟨id, h1, h2, _⟩ := hin j i hi0;rw [hidj j id h1];exact hpre0 _ _ h2
     ·rw [hidn j hj, <- hl0', <- hρ', List.getElem?_append_right (by omega), List.getElem?_drop];rw [show E.In.roots.length + ((O ++ List.replicate (xBf E.In.roots rn).length nilI).length + (j - E.In.roots.length) - (O ++ List.replicate (xBf E.In.roots rn).length nilI).length) = j by omega];exact hi
    have hext : Ex (xAk .own (mkI rn O) (xAe same E.In.roots z) (List.range (xAe same E.In.roots z).length)) w w' := hc.ext;generalize hS1 : xAk .own (mkI rn O) (xAe same E.In.roots z) (List.range (xAe same E.In.roots z).length) = S1 at hc hext;generalize hF1 : xAk .foot (mkI rn O) (xAe same E.In.roots z) (List.range (xAe same E.In.roots z).length) = F1 at hc
    have hback : ∀ b ∈ S1, ∃ (j : Nat) (kk : RK) (id : Nat) (x0 : Root) (i : Info), E.In.roots[j]? = some kk /\ kk.isOwn = true /\ (xBo rn h.length)[j]? = some id /\ rn[j]? = some (some (some id)) /\ h[id]? = some x0 /\ O[id]? = some i /\ own i x0 b := by
     intro b hb;rw [<- hS1] at hb;obtain ⟨p, _, rc, i, g1, g2, g3⟩ := xAc.1 hb;obtain ⟨id, x0, k1, k2, k3, k4⟩ := rs_back hz hh g1 g2 g3 htg2;obtain ⟨kk, x, m1, m2, m3⟩ := xFD same g1;subst m2;obtain ⟨id', n1, n2, n3⟩ := hin p i g2;refine ⟨p, kk, id, x0, i, m1, xTC g3, ?_, k1, k2, k3, k4⟩;rcases n3 with ⟨n3, _⟩ | ⟨n3, _⟩
     ·rw [k1] at n3; cases n3; exact n1
     ·exact absurd k1 (n3 id)
    generalize hh' : xRY ids E.In.roots (xBo rn h.length) E.Out.roots (E.Out.b t) (h ++ xBf E.In.roots rn) = h' at hk;have hget := xO4 ids E.In.roots (xBo rn h.length) E.Out.roots (E.Out.b t) (h ++ xBf E.In.roots rn) hidl hM;rw [hh'] at hget
    have hcase : ∀ (q : Nat) (rr : Root) (i : Info), h'[q]? = some rr -> O'[q]? = some i ->
      (∃ (j : Nat) (kk : RK) (x : kk.ty), E.Out.roots[j]? = some kk /\ kk.plain = true /\ kk.outOk = true /\ rr = kk.enc ids x /\ (xAe same E.Out.roots (E.Out.b t))[j]? = some (kk.enc same x) /\ Z'[j]? = some i /\ q = ids j) \/
      ((h ++ xBf E.In.roots rn)[q]? = some rr /\ (O ++ List.replicate (xBf E.In.roots rn).length nilI)[q]? = some i /\ ∀ (j : Nat) (kk : RK), E.In.roots[j]? = some kk -> kk.isOwn = true -> (xBo rn h.length)[j]? ≠ some q) := by
     intro q rr i h1 h2;have mk : ∀ j, q = ids j -> (xAe ids E.Out.roots (E.Out.b t))[j]? = some rr -> (∃ (j : Nat) (kk : RK) (x : kk.ty), E.Out.roots[j]? = some kk /\ kk.plain = true /\ kk.outOk = true /\ rr = kk.enc ids x /\ (xAe same E.Out.roots (E.Out.b t))[j]? = some (kk.enc same x) /\ Z'[j]? = some i /\ q = ids j) := by
      intro j e1 e2;obtain ⟨kk, x, m1, m2, m3⟩ := xFD ids e2;have hmem := List.mem_of_getElem? m1;obtain ⟨i', hi'⟩ : ∃ i', Z'[j]? = some i' := ⟨_, List.getElem?_eq_getElem (by rw [hι'l]; exact (List.getElem?_eq_some_iff.1 m1).1)⟩;have := hsh j i' hi';rw [<- e1, h2] at this;cases this;exact ⟨j, kk, x, m1, List.all_eq_true.1 hp2 _ hmem, List.all_eq_true.1 hp3 _ hmem, m2, m3, hi', e1⟩
     rcases hget q rr h1 with ⟨j, kk, g1, g2, g3, g4⟩ | ⟨j, g1, g2, g3⟩ | ⟨g1, g2⟩
     ·exact .inl (mk j (hidj j q g3).symm g4)
     ·exact .inl (mk j (by rw [hidn j g1, g2]) g3)
     ·refine .inr ⟨g1, ?_, g2⟩;have hlt : q < (O ++ List.replicate (xBf E.In.roots rn).length nilI).length := by rw [hl0']; exact (List.getElem?_eq_some_iff.1 g1).1
      have := hpre0 q _ (List.getElem?_eq_getElem hlt);rw [h2] at this;rw [List.getElem?_eq_getElem hlt, this]
    have hapart : ∀ (q : Nat) (rr : Root) (i : Info) (b : Nat), (h ++ xBf E.In.roots rn)[q]? = some rr -> (O ++ List.replicate (xBf E.In.roots rn).length nilI)[q]? = some i -> (∀ (j : Nat) (kk : RK), E.In.roots[j]? = some kk -> kk.isOwn = true -> (xBo rn h.length)[j]? ≠ some q) -> foot i rr b -> b ∉ S1 := by
     intro q rr i b g1 g2 g3 g4 hb;obtain ⟨j, kk, id, x0, i0, m1, m2, m3, m4, m5, m6, m7⟩ := hback b hb;have hne : id ≠ q := fun e => g3 j kk m1 m2 (by rw [m3, e]);exact hH0.sep id q x0 rr i0 i b hne (by rw [List.getElem?_append_left (List.getElem?_eq_some_iff.1 m5).1]; exact m5) g1 (by rw [List.getElem?_append_left (List.getElem?_eq_some_iff.1 m6).1]; exact m6) g2 m7 g4
    have hownE : ∀ {kk : RK} {x : kk.ty} {i : Info} {b : Nat}, own i (kk.enc ids x) b -> own i (kk.enc same x) b := fun {kk x i b} e => by rw [RK.own_ids same ids]; exact e
    have hfootE : ∀ {kk : RK} {x : kk.ty} {i : Info} {b : Nat}, kk.outOk = true -> foot i (kk.enc ids x) b -> own i (kk.enc same x) b := fun {kk x i b} ho e => hownE (xXq ho e);have hHfin : HOk S F W0 O' h' w' := by
     refine ⟨?_, ?_, ?_, ?_, ?_, ?_, hh.lay, hh.out, ?_, ?_⟩
     rotate_right
     ·intro q rr i h1 h2;rcases hcase q rr i h1 h2 with ⟨jo, kk, x, m1, m2, m3, e4, m5, m6, m7⟩ | ⟨m1, m2, m3⟩
      ·have := hc.cln jo _ i m5 m6;subst e4;by_cases hkd : kk = .dead
       ·subst hkd; exact .inl rfl
       ·exact this.of (fun e => by cases kk <;> first | exact absurd rfl hkd | cases e) (by rw [RK.enc_tag, RK.enc_tag])
      ·exact hH0.cln q rr i m1 m2
     rotate_right
     ·intro q tg rr i h1 h2 htg id j m v hj hv
      have hsrc : (∃ id0 : Nat, O[id0]? = some j) \/ j = nilI \/ (∃ q0 : Nat, E.In.roots.length <= q0 /\ Z'[q0]? = some j) := by
       rw [<- hρ'] at hj;rcases Nat.lt_or_ge id (O ++ List.replicate (xBf E.In.roots rn).length nilI).length with hlt | hge
       ·rw [List.getElem?_append_left hlt] at hj;rcases Nat.lt_or_ge id O.length with hlt2 | hge2
        ·rw [List.getElem?_append_left hlt2] at hj; exact .inl ⟨id, hj⟩
        ·rw [List.getElem?_append_right hge2, List.getElem?_replicate] at hj;split at hj
         ·exact .inr (.inl (Option.some.inj hj).symm)
         ·cases hj
       ·rw [List.getElem?_append_right hge, List.getElem?_drop] at hj;exact .inr (.inr ⟨_, Nat.le_add_right _ _, hj⟩)
      rcases hcase q rr i h1 h2 with ⟨jo, kk, x, m1, m2, m3, e4, m5, m6, m7⟩ | ⟨m1, m2, m3⟩
      ·have hkt : kk.tag = some tg := by rw [e4, RK.enc_tag] at htg; exact htg
       have hcov := hc.cov jo tg _ i m5 m6 (by rw [RK.enc_tag]; exact hkt);rcases hsrc with ⟨id0, hs0⟩ | rfl | ⟨q0, _, hs0⟩
       ·obtain ⟨jI, kI, n1, n2⟩ := xLU hp4 (t := tg) (List.mem_filterMap.2 ⟨kk, List.mem_of_getElem? m1, hkt⟩);obtain ⟨id1, x1, n3, n4, n5⟩ := xEh hz jI kI tg n1 n2;rw [Nat.zero_add] at n3;obtain ⟨i1, hi1⟩ := hh.info n4;have hv1 := hh.cov id1 tg x1 i1 n4 hi1 n5 id0 j m v hs0 hv;have hjlt : jI < E.In.roots.length := (List.getElem?_eq_some_iff.1 n1).1;have hmk : (mkI rn O)[jI]? = some i1 := by rw [((Agr.mk rn O) jI).1 id1 n3, hi1]; rfl
        exact hcov jI i1 m v (hpre jI hjlt i1 hmk) hv1
       ·rw [xAx] at hv; simp at hv
       ·exact hcov q0 j m v hs0 hv
      ·rcases hsrc with ⟨id0, hs0⟩ | rfl | ⟨q0, hq0, hs0⟩
       ·exact hH0.cov q tg rr i m1 m2 htg id0 j m v (by rw [List.getElem?_append_left (List.getElem?_eq_some_iff.1 hs0).1]; exact hs0) hv
       ·rw [xAx] at hv; simp at hv
       ·have hq0lt : q0 < E.Out.roots.length := by rw [<- hι'l]; exact (List.getElem?_eq_some_iff.1 hs0).1
        simp only [arOk, Bool.or_eq_true] at har;rcases har with har | har
        ·exfalso;rcases Nat.lt_or_ge q h.length with hlt | hge
         ·rw [List.getElem?_append_left hlt] at m1;have hmem := xI9 (p := 0) m1 (by rw [htg]; simp);rw [Nat.zero_add] at hmem;have := List.all_eq_true.1 har q hmem;rw [Bool.or_eq_true] at this;rcases this with this | this;rotate_left
          ·rw [m1] at this;dsimp only at this;rw [htg] at this;obtain ⟨r9, hr9⟩ : ∃ r9, (xAe same E.Out.roots (E.Out.b t))[q0]? = some r9 := ⟨_, List.getElem?_eq_getElem (by rw [xDr]; exact hq0lt)⟩;obtain ⟨k9, x9, n1, n2, _⟩ := xFD same hr9;subst n2;rw [xSq (List.all_eq_true.1 this k9 (List.mem_of_getElem? (i := q0 - E.In.roots.length) (by rw [List.getElem?_drop, Nat.add_sub_cancel' hq0]; exact n1))) same x9 (hc.cln q0 _ j hr9 hs0)] at hv;simp at hv
          have hown := xDi.1 this;obtain ⟨jj, kk, n1, n2, n3⟩ := xJK _ _ _ hown;obtain ⟨i0, hi0⟩ : ∃ i0, (mkI rn O)[jj]? = some i0 := ⟨_, List.getElem?_eq_getElem (by rw [hιl]; exact (List.getElem?_eq_some_iff.1 n1).1)⟩;obtain ⟨id', k1, k2, k3⟩ := hin jj i0 hi0;rcases k3 with ⟨k3, _⟩ | ⟨k3, _⟩
          ·rw [n3] at k3; cases k3;exact m3 jj kk n1 n2 k1
          ·exact k3 q n3
         ·rw [List.getElem?_append_right hge] at m1;have := xFY E.In.roots rn rr (List.mem_of_getElem? m1);rw [this] at htg; cases htg
        ·have := nbT har;omega
     ·refine ⟨hext.os.trans hh.ext.os, hext.tape.trans hh.ext.tape, hext.output.trans hh.ext.output, Nat.le_trans hh.ext.size hext.size, fun kb hkb hs => ?_⟩;have hkB : kb ∉ S1 := fun hm => by
       obtain ⟨j, kk, id, x0, i0, m1, m2, m3, m4, m5, m6, m7⟩ := hback kb hm;rcases hh.mine id x0 i0 kb m5 m6 m7 with g4 | g4
       ·omega
       ·exact hs g4
      rw [hext.block kb (Nat.lt_of_lt_of_le hkb hh.ext.size) hkB];exact hh.ext.block kb hkb hs
     ·rw [<- hh', xO2 ids _ _ _ _ _ hidl hM, <- hρ', List.length_append, hl0', List.length_drop, hι'l]
     ·intro q rr i h1 h2;rcases hcase q rr i h1 h2 with ⟨j, kk, x, m1, m2, m3, rfl, m5, m6, rfl⟩ | ⟨m1, m2, m3⟩
      ·exact RK.move hsh m2 (hc.ok j _ i m5 m6)
      ·exact ((hH0.ok q rr i m1 m2).ex hext (fun b hb => hapart q rr i b m1 m2 m3 hb)).mono hpre0
     ·intro p q rr ss i j b hpq hr1 hs1 hi1 hj1 ho;rcases hcase p rr i hr1 hi1 with ⟨jp, kp, xp, a1, a2, a3, rfl, a5, a6, rfl⟩ | ⟨a1, a2, a3⟩
      ·rcases hcase q ss j hs1 hj1 with ⟨jq, kq, xq, b1, b2, b3, rfl, b5, b6, rfl⟩ | ⟨b1, b2, b3⟩
       ·intro hf;exact hc.sep jp jq _ _ i j b (fun e => hpq (by rw [e])) a5 b5 a6 b6 (hownE ho) (xAm (hfootE b3 hf))
       ·intro hf;rcases hc.mine jp _ i b a5 a6 (hownE ho) with g1 | g1
        ·have := (hH0.ok q ss j b1 b2).lt hf; omega
        ·exact hapart q ss j b b1 b2 b3 hf g1
      ·rcases hcase q ss j hs1 hj1 with ⟨jq, kq, xq, b1, b2, b3, rfl, b5, b6, rfl⟩ | ⟨b1, b2, b3⟩
       ·intro hf;rcases hc.mine jq _ j b b5 b6 (hfootE b3 hf) with g1 | g1
        ·have := (hH0.ok p rr i a1 a2).lt (xAm ho); omega
        ·exact hapart p rr i b a1 a2 a3 (xAm ho) g1
       ·exact hH0.sep p q rr ss i j b hpq a1 b1 a2 b2 ho
     ·intro q rr i b h1 h2 ho;rcases hcase q rr i h1 h2 with ⟨j, kk, x, m1, m2, m3, rfl, m5, m6, rfl⟩ | ⟨m1, m2, m3⟩
      ·rcases hc.mine j _ i b m5 m6 (hownE ho) with g1 | g1
       ·exact .inl (Nat.le_trans hh.ext.size g1)
       ·obtain ⟨j', kk', id, x0, i0, n1, n2, n3, n4, n5, n6, n7⟩ := hback b g1;exact hh.mine id x0 i0 b n5 n6 n7
      ·exact hH0.mine q rr i b m1 m2 ho
     ·intro q rr i b h1 h2 ho;rcases hcase q rr i h1 h2 with ⟨j, kk, x, m1, m2, m3, rfl, m5, m6, rfl⟩ | ⟨m1, m2, m3⟩
      ·rcases hc.mine j _ i b m5 m6 (hfootE m3 ho) with g1 | g1
       ·exact .inl (Nat.le_trans hh.ext.size g1)
       ·obtain ⟨j', kk', id, x0, i0, n1, n2, n3, n4, n5, n6, n7⟩ := hback b g1;rcases hh.mine id x0 i0 b n5 n6 n7 with g5 | g5
        ·exact .inl g5
        ·exact .inr (.inl g5)
      ·exact hH0.near q rr i b m1 m2 ho
    refine ⟨O', h', _, u, S1, xCS E.In.roots rn, rfl, ?_, RP.move hsh hp1 hu, hHfin, hk, hext, fun b hb => ?_, fun q hq hlt => ?_, fun q rr i b h1 h2 hf => ?_⟩
    ·intro id i e;exact hpre0 id i (by rw [List.getElem?_append_left (List.getElem?_eq_some_iff.1 e).1]; exact e)
    ·obtain ⟨j, kk, id, x0, i0, m1, m2, m3, m4, m5, m6, m7⟩ := hback b hb;exact ⟨id, xGl _ _ j id kk m1 m2 m4, x0, i0, m5, m6, m7⟩
    ·rw [<- hh', xO3 ids _ _ _ _ _ q (by simp; omega) (fun j kk g1 g2 g3 => ?_), List.getElem?_append_left hlt];obtain ⟨i0, hi0⟩ : ∃ i0, (mkI rn O)[j]? = some i0 := ⟨_, List.getElem?_eq_getElem (by rw [hιl]; exact (List.getElem?_eq_some_iff.1 g1).1)⟩;obtain ⟨id, n1, n2, n3⟩ := hin j i0 hi0;rw [g3] at n1;cases n1;rcases n3 with ⟨n3, _⟩ | ⟨_, n3⟩
     ·exact hq (xGl _ _ j q kk g1 g2 n3)
     ·omega
    ·rcases hcase q rr i h1 h2 with ⟨j, kk, x, m1, m2, m3, rfl, m5, m6, rfl⟩ | ⟨m1, m2, m3⟩
     ·rcases hc.mine j _ i b m5 m6 (hfootE m3 hf) with g1 | g1
      ·exact .inl g1
      ·obtain ⟨j', kk', id, x0, i0, n1, n2, n3, n4, n5, n6, n7⟩ := hback b g1;exact .inr ⟨id, x0, i0, n5, n6, xAm n7⟩
     ·rcases Nat.lt_or_ge q h.length with hlt | hge
      ·rw [List.getElem?_append_left hlt] at m1;rw [List.getElem?_append_left (by omega)] at m2;exact .inr ⟨q, rr, i, m1, m2, hf⟩
      ·rw [List.getElem?_append_right hge] at m1;rw [List.getElem?_append_right (by omega), List.getElem?_replicate] at m2;split at m2
       ·cases m2;have := xFZ E.In.roots rn rr (List.mem_of_getElem? m1) [] w;exact absurd hf (this.2.2 b)
       ·cases m2
  ·exact .inl hr
theorem xKB {O O' : List Info} : ∀ {c : CV} {v : Value}, scCV c = true -> Den O c v -> Den O' c v
 | .sc _, _, _, h => h
 | .er _, _, _, h => h
theorem xN0 {O O' : List Info} : ∀ {l : List CV} {vs : List Value}, l.all scCV = true -> DenL O l vs -> DenL O' l vs
 | [], _, _, h => h
 | c :: l, vs, hs, ⟨v, r, e, h1, h2⟩ => by
  simp only [List.all_cons, Bool.and_eq_true] at hs;exact ⟨v, r, e, xKB hs.1 h1, xN0 hs.2 h2⟩
theorem xSY {O O' : List Info} : ∀ {l : List (Bool × List CV)} {vs : List Value}, l.all (fun p => p.2.all scCV) = true -> DenT O l vs -> DenT O' l vs
 | [], _, _, h => h
 | p :: l, vs, hs, ⟨v, r, e, h1, h2⟩ => by
  simp only [List.all_cons, Bool.and_eq_true] at hs;obtain ⟨b, cs⟩ := p;refine ⟨v, r, e, ?_, xSY hs.2 h2⟩
  cases b with
  | true => obtain ⟨us, h3, h4⟩ := h1; exact ⟨us, xN0 hs.1 h3, h4⟩
  | false =>
   obtain ⟨c, h3, h4⟩ := h1;have h5 := hs.1;have h3' : cs = [c] := h3;subst h3';simp only [List.all_cons, List.all_nil, Bool.and_true] at h5;exact ⟨c, rfl, xKB h5 h4⟩
theorem xPu {O O' : List Info} {p : PV} {v : Value} (hs : scPV p = true) (h : DenP O p v) : DenP O' p v := by
 cases p with
 | c x => exact xKB hs h
 | ag l => obtain ⟨vs, h1, h2⟩ := h; exact ⟨vs, xN0 hs h1, h2⟩
 | tu l => obtain ⟨vs, h1, h2⟩ := h; exact ⟨vs, xSY hs h1, h2⟩
 | un => cases hs
theorem DenL.dropN {O : List Info} : ∀ (p : Nat) {cs : List CV} {vs : List Value}, DenL O cs vs -> DenL O (cs.drop p) (vs.drop p)
 | 0, _, _, h => h
 | p + 1, [], vs, h => by
  have : vs = [] := h;subst this;rfl
 | p + 1, c :: cs, vs, ⟨v, r, e, h1, h2⟩ => by
  subst e;exact DenL.dropN p h2
theorem DenL.takeN {O : List Info} : ∀ (p : Nat) {cs : List CV} {vs : List Value}, DenL O cs vs -> DenL O (cs.take p) (vs.take p)
 | 0, _, _, _ => rfl
 | p + 1, [], vs, h => by
  have : vs = [] := h;subst this;rfl
 | p + 1, c :: cs, vs, ⟨v, r, e, h1, h2⟩ => by
  subst e;exact ⟨v, _, rfl, h1, DenL.takeN p h2⟩
theorem DenL.cut {O : List Info} {cs : List CV} {vs : List Value} (h : DenL O cs vs) (p q : Nat) : DenL O ((cs.drop p).take q) ((vs.drop p).take q) := DenL.takeN q (DenL.dropN p h)
theorem xMu {U : TC} (e : xFv U U = true) (xs : List U.ty) : xS5 e xs = xs := rfl
theorem xTB {w : World} {T k : Nat} {a : Option Addr} {cap n : Nat} {vs : List Value} (h : ownsAt w T k a cap n vs) (hk : 0 < k) (hn : 0 < n) : ∃ b o, a = some ⟨b, o, none⟩ /\ b < w.heap.size /\ ∀ (j : Nat) (v : Value), vs[j]? = some v -> w.cell? ⟨b, o + j, none⟩ = some v := by
 obtain ⟨h1, h2, h3, h4⟩ := h;rcases h4 with ⟨h4, _⟩ | ⟨g, o, cur, h4, h5, h6, h7⟩
 ·omega
 ·refine ⟨g, o, h4, lt_of_block h5, fun j v hv => ?_⟩;unfold World.cell?;dsimp only;rw [h5];dsimp only;have hj : j < n * k := by
   have := (List.getElem?_eq_some_iff.1 hv).1;omega
  rw [<- h7, List.getElem?_take_of_lt hj, List.getElem?_drop, Array.getElem?_toList] at hv;exact hv
theorem xIK {S F : List Nat} {W0 : World} {O : List Info} {h : List Root} {w : World} (hh : HOk S F W0 O h w) : ∀ {bs : List (Option TC)} {ps a1 : List PV} {h1 : List Root} {g : Bool} {j : Nat} {vs : List Value}, xV3 h bs ps j = some (a1, h1, g) -> g = true -> DenArgs O ps vs ->
  ∃ O1 : List Info, O1.length = h1.length /\ (∀ pre : List Info, pre.length = j -> DenArgs (pre ++ O1) a1 vs) /\ ∀ (q : Nat) (r : Root) (i : Info), h1[q]? = some r -> O1[q]? = some i -> (∀ b, ¬ own i r b) /\ RootOk [] w i r /\ r.tag = none /\ ∀ t, i.objs t = []
 | [], ps, a1, h1, g, j, vs, hf, hg, hd => by
  simp only [xV3] at hf;split at hf
  ·cases hf;exact ⟨[], rfl, fun _ _ => hd, fun q r i e => by simp at e⟩
  ·cases hf
 | o :: bs, [], a1, h1, g, j, vs, hf, hg, hd => by simp only [xV3] at hf; cases hf
 | none :: bs, p :: ps, a1, h1, g, j, vs, hf, hg, ⟨v, r, e, hd1, hd2⟩ => by
  simp only [xV3] at hf
  cases hs : scPV p with
  | false => rw [hs] at hf; cases hf
  | true =>
   rw [hs] at hf;simp only [cond_true] at hf;split at hf
   ·rename_i a rr gg hrec;cases hf;obtain ⟨O1, k1, k2, k3⟩ := xIK hh hrec hg hd2;exact ⟨O1, k1, fun pre hp => ⟨v, r, e, xPu hs hd1, k2 pre hp⟩, k3⟩
   ·cases hf
 | some U :: bs, p :: ps, a1, h1, g, j, vs, hf, hg, ⟨v, r, e, hd1, hd2⟩ => by
  simp only [xV3] at hf;split at hf
  ·rename_i id k row c
   cases hc : ((Nat.beq k 0 && Nat.beq row 0) && (Nat.beq c 0 && (!xAy U && U.tags.isEmpty))) with
   | false => rw [hc] at hf; cases hf
   | true =>
    rw [hc] at hf;simp only [cond_true] at hf;simp only [Bool.and_eq_true, Bool.not_eq_true'] at hc;obtain ⟨⟨hk, hrow⟩, hc0, hcv, htg⟩ := hc;have hk := nbT hk;have hrow := nbT hrow;have hc0 := nbT hc0;subst hk; subst hrow; subst hc0;split at hf
    ·rename_i cs T hid;split at hf
     ·rename_i x hx;split at hf
      ·rename_i a rr gg hrec;cases hf;obtain ⟨O1, k1, k2, k3⟩ := xIK hh hrec hg hd2;obtain ⟨i, b, o, q1, q2, q3, q4⟩ := hd1;obtain ⟨⟨n1, n2⟩, b', us, m1, m2, m3⟩ := hh.ok id _ i hid q1;rw [q2] at m1;cases m1;have hcs := TC.dec1_enc hx;subst hcs;refine ⟨⟨some ⟨b, 0, none⟩, i.cap, some 1, i.val⟩ :: O1, by simp [k1], fun pre hp => ⟨v, r, e, ?_, ?_⟩, fun q rt ii e1 e2 => ?_⟩
       ·refine ⟨⟨some ⟨b, 0, none⟩, i.cap, some 1, i.val⟩, b, 0, ?_, rfl, ⟨fun m hm => by cases hm; exact Nat.one_pos, fun hm => by cases hm⟩, ?_⟩
        ·rw [<- hp, List.getElem?_append_right (Nat.le_refl _), Nat.sub_self]; rfl
        ·rw [q4]; simp
       ·have := k2 (pre ++ [⟨some ⟨b, 0, none⟩, i.cap, some 1, i.val⟩]) (by simp [hp]);simpa using this
       ·cases q with
        | zero =>
         simp only [List.getElem?_cons_zero, Option.some.injEq] at e1 e2;subst e1; subst e2;refine ⟨fun b hb => hb, ⟨rfl, us, ?_, fun _ => ⟨b, 0, rfl, lt_of_block m3, fun jj u hu => ?_⟩⟩, rfl, fun t => ?_⟩
         rotate_right
         ·rcases hh.cln id _ i hid q1 with g | g
          ·cases g
          ·exact g t (by intro e; cases e)
         ·have h9 : DenL [] (U.enc x) us := DenL.enc hcv (fun t ht => by rw [List.isEmpty_iff.1 htg] at ht; cases ht) m2;show DenL [] (flat U [x]) us;unfold flat;simpa using h9
         ·unfold World.cell?;dsimp only;rw [m3];simpa using hu
        | succ q => exact k3 q rt ii (by simpa using e1) (by simpa using e2)
      ·cases hf
     ·cases hf
    ·cases hf
  ·rename_i id k off n0 c0;split at hf
   rotate_right
   ·cases hf
   rename_i n c
   cases hc : (Nat.ble 1 U.w && (!xAy U && U.tags.isEmpty)) with
   | false => rw [hc] at hf; cases hf
   | true =>
    rw [hc] at hf;simp only [cond_true] at hf;simp only [Bool.and_eq_true, Bool.not_eq_true'] at hc;obtain ⟨hw1, hcv, htg⟩ := hc;have hw1 := Nat.le_of_ble_eq_true hw1;split at hf
    ·rename_i cs T hid;split at hf
     ·rename_i xs hx;split at hf
      ·rename_i a rr gg hrec;cases hf;obtain ⟨O1, k1, k2, k3⟩ := xIK hh hrec hg hd2;obtain ⟨i, a', c', nn, q1, q2, q3, q4, q5, q6, q7, q8, q9, q10⟩ := hd1;simp only [Info.cnt] at q6;subst q6;obtain ⟨⟨n1, n2⟩, b', us, m1, m2, m3⟩ := hh.ok id _ i hid q1;obtain ⟨hfl, hxl⟩ := xEv hx;have hcut : DenL O ((cs.drop (off * k)).take (nn * U.w)) ((us.drop (off * k)).take (nn * U.w)) := DenL.cut m2 _ _;rw [hfl] at hcut;have hcut0 : DenL [] (flat U xs) ((us.drop (off * k)).take (nn * U.w)) := DenL.flat hcv (fun t ht => by rw [List.isEmpty_iff.1 htg] at ht; cases ht) hcut;subst e;subst q2;have ha : 0 < nn -> a' = some ⟨b', off * k, none⟩ := fun hn => by
        rw [q10 hn, m1, Option.map_some, Addr.add_lit, Nat.zero_add]
       refine ⟨⟨a', c', some nn, .nilFunc⟩ :: O1, by simp [k1], fun pre hp => ⟨_, r, rfl, ?_, ?_⟩, fun q rt ii f1 f2 => ?_⟩
       ·refine ⟨⟨a', c', some nn, .nilFunc⟩, a', c', nn, ?_, rfl, q3, q4, fun hn => ⟨b', off * k, ha hn⟩, ⟨nn, rfl, rfl⟩, ⟨nn, rfl, by omega⟩, rfl, rfl, fun _ => rfl, fun _ => ?_⟩
        ·rw [<- hp, List.getElem?_append_right (Nat.le_refl _), Nat.sub_self]; rfl
        ·cases a' <;> simp [Addr.add]
       ·have := k2 (pre ++ [⟨a', c', some nn, .nilFunc⟩]) (by simp [hp]);simpa using this
       ·cases q with
        | zero =>
         simp only [List.getElem?_cons_zero, Option.some.injEq] at f1 f2;subst f1; subst f2;refine ⟨fun b hb => hb, ⟨congrArg some hxl.symm, _, hcut0, fun hn => ⟨b', off * k, ha (by omega), lt_of_block m3, fun jj u hu => ?_⟩⟩, rfl, fun t => rfl⟩;unfold World.cell?;dsimp only;rw [m3];have hj := (List.getElem?_eq_some_iff.1 hu).1;rw [List.length_take] at hj;rw [List.getElem?_take_of_lt (by omega), List.getElem?_drop] at hu;simpa using hu
        | succ q => exact k3 q rt ii (by simpa using f1) (by simpa using f2)
      ·cases hf
     ·cases hf
    ·cases hf
  ·rename_i q t n
   cases hc : (Nat.beq q 1 && (!xAy U && U.tags.isEmpty)) with
   | false => rw [hc] at hf; cases hf
   | true =>
    rw [hc] at hf;simp only [cond_true] at hf;simp only [Bool.and_eq_true, Bool.not_eq_true'] at hc;obtain ⟨hq, hcv, htg⟩ := hc;have hq := nbT hq;subst hq;split at hf
    ·rename_i p0 t' T U' os hfind;split at hf
     ·rename_i he;split at hf
      ·rename_i a rr gg hrec;cases hf;have := xAz he;subst this;simp only [Bool.and_eq_true] at hg;obtain ⟨hlive, hgg⟩ := hg;obtain ⟨O1, k1, k2, k3⟩ := xIK hh hrec hgg hd2;obtain ⟨p1, ep, hp1, htag⟩ := xAA hfind;obtain ⟨ip, hip⟩ := hh.info hp1;have htt : t' = t := by simpa [Root.tag] using htag
       subst htt;have key : ∃ a n0 c, v = .slice a n0 c /\ n0 = (rowAt os n).length /\ n0 <= c /\ c <= maxLen /\ ∃ us, DenL [] (flat U' (rowAt os n)) us /\ (0 < n0 -> ∃ b o, a = some ⟨b, o, none⟩ /\ b < w.heap.size /\ ∀ (j : Nat) (v : Value), us[j]? = some v -> w.cell? ⟨b, o + j, none⟩ = some v) := by
        rcases hd1 with ⟨rfl, hv⟩ | ⟨m, id, i, rfl, g1, g2, g3⟩
        ·exact ⟨none, 0, 0, hv, rfl, Nat.le_refl _, Nat.zero_le _, [], rfl, fun h => absurd h (Nat.lt_irrefl _)⟩
        ·obtain ⟨a, n0, c, rfl⟩ := g3;have g4 := hh.cov p1 t' _ ip hp1 hip htag id i m _ g1 g2;have hA : ArOk O w (ip.objs t') (Root.ars t' T U' os).obs := hh.ok p1 _ ip hp1 hip;have hrow : ∃ xs, os[m]? = some (some xs) /\ rowAt os (m + 1) = xs := by
          simp only [xCv] at hlive;split at hlive
          ·rename_i xs hx;exact ⟨xs, hx, by simp [rowAt, hx]⟩
          ·cases hlive
         obtain ⟨xs, hx, hr0⟩ := hrow;obtain ⟨a', c', e1, hw0, us, e2, e3⟩ := hA.2.1 m _ (.row T U' xs) g4 (by simp [Root.obs, hx]);simp only [hdr, Option.some.injEq, Prod.mk.injEq] at e1;obtain ⟨e4, e5, e6⟩ := e1;subst e4; subst e5; subst e6;rw [hr0];exact ⟨a, xs.length, c, rfl, rfl, e3.2.1, e3.2.2.1, us, DenL.flat hcv (fun t ht => by rw [List.isEmpty_iff.1 htg] at ht; cases ht) e2, fun hn => xTB e3 hw0 hn⟩
       obtain ⟨a0, n0, c0, e1, e2, e3, e4, us, e5, e6⟩ := key;subst e1;rw [xMu];refine ⟨⟨a0, c0, some n0, .nilFunc⟩ :: O1, by simp [k1], fun pre hp => ⟨_, r, e, ?_, ?_⟩, fun q rt ii f1 f2 => ?_⟩
       ·refine ⟨⟨a0, c0, some n0, .nilFunc⟩, a0, c0, n0, ?_, rfl, e3, e4, fun hn => ?_, ⟨n0, rfl, rfl⟩, ⟨n0, rfl, by omega⟩, rfl, rfl, fun _ => rfl, fun _ => ?_⟩
        ·rw [<- hp, List.getElem?_append_right (Nat.le_refl _), Nat.sub_self]; rfl
        ·obtain ⟨b, o, f1, _⟩ := e6 hn;exact ⟨b, o, f1⟩
        ·cases a0 <;> simp [Addr.add]
       ·have := k2 (pre ++ [⟨a0, c0, some n0, .nilFunc⟩]) (by simp [hp]);simpa using this
       ·cases q with
        | zero =>
         simp only [List.getElem?_cons_zero, Option.some.injEq] at f1 f2;subst f1; subst f2;exact ⟨fun b hb => hb, ⟨congrArg some e2, us, e5, fun hn => e6 (by rw [e2]; exact hn)⟩, rfl, fun t => rfl⟩
        | succ q => exact k3 q rt ii (by simpa using f1) (by simpa using f2)
      ·cases hf
     ·cases hf
    ·cases hf
  ·cases hf
theorem xKT {O O' : List Info} {m m' : Nat} (hm : ∀ i, O[m]? = some i -> O'[m']? = some i) {c : CV} {v : Value} (hs : xRe m c = true) (h : Den O c v) : Den O' (mvCV m' c) v := by
 cases c <;> first | exact h | (cases hs; done) | skip
 rename_i id k off n c;have e := nbT hs;subst e;obtain ⟨i, a', c', nn, h1, h2⟩ := h;exact ⟨i, a', c', nn, hm i h1, h2⟩
theorem xOl {O O' : List Info} {m m' : Nat} (hm : ∀ i, O[m]? = some i -> O'[m']? = some i) : ∀ {l : List CV} {vs : List Value}, l.all (xRe m) = true -> DenL O l vs -> DenL O' (l.map (mvCV m')) vs
 | [], _, _, h => h
 | c :: l, vs, hs, ⟨v, r, e, h1, h2⟩ => by
  simp only [List.all_cons, Bool.and_eq_true] at hs;exact ⟨v, r, e, xKT hm hs.1 h1, xOl hm hs.2 h2⟩
theorem xTO {O O' : List Info} {m m' : Nat} (hm : ∀ i, O[m]? = some i -> O'[m']? = some i) : ∀ {l : List (Bool × List CV)} {vs : List Value}, l.all (fun p => p.2.all (xRe m)) = true -> DenT O l vs -> DenT O' (l.map (fun p => (p.1, p.2.map (mvCV m')))) vs
 | [], _, _, h => h
 | p :: l, vs, hs, ⟨v, r, e, h1, h2⟩ => by
  simp only [List.all_cons, Bool.and_eq_true] at hs;obtain ⟨b, cs⟩ := p;refine ⟨v, r, e, ?_, xTO hm hs.2 h2⟩
  cases b with
  | true => obtain ⟨us, h3, h4⟩ := h1; exact ⟨us, xOl hm hs.1 h3, h4⟩
  | false =>
   obtain ⟨c, h3, h4⟩ := h1;have h5 := hs.1;have h3' : cs = [c] := h3;subst h3';simp only [List.all_cons, List.all_nil, Bool.and_true] at h5;exact ⟨_, rfl, xKT hm h5 h4⟩
theorem xW4 {O O' : List Info} {m m' : Nat} (hm : ∀ i, O[m]? = some i -> O'[m']? = some i) {p : PV} {v : Value} (hs : scPVn m p = true) (h : DenP O p v) : DenP O' (mvPV m' p) v := by
 cases p with
 | c x => exact xKT hm hs h
 | ag l => obtain ⟨vs, h1, h2⟩ := h; exact ⟨vs, xOl hm hs h1, h2⟩
 | tu l => obtain ⟨vs, h1, h2⟩ := h; exact ⟨vs, xTO hm hs h1, h2⟩
 | un => cases hs
theorem useP_ok {P : Program} {E : Ent} (hE : FnSem P E.f E.nargs E.In E.Out E.spec) {β : Type} {els : Option β} {args : List PV} {h : List Root} {k : List Nat -> PV -> List Root -> Option β} {r : β} (hr : E.useP args h β k els = some r) {S F : List Nat} {W0 : World} {O : List Info} {w : World} {vs : List Value}
  (hargs : DenArgs O args vs) (hh : HOk S F W0 O h w) (hcl : xA3 P E.f = true) : els = some r \/ Calls P E.f vs.toArray w (fun e w' => ∃ O' h' v u B t, e = .returned u /\ Pre O O' /\ DenP O' v u /\ HOk S F W0 O' h' w' /\ k t v h' = some r /\ Ex B w w' /\
   (∀ b ∈ B, ∃ p ∈ t, ∃ r i, h[p]? = some r /\ O[p]? = some i /\ own i r b) /\ (∀ q : Nat, q ∉ t -> q < h.length -> h'[q]? = h[q]?) /\ Feet O h w O' h') := by
 unfold Ent.useP at hr;split at hr
 ·rename_i a1 h1 g hf
  cases hna : Nat.beq a1.length E.nargs with
  | false => rw [hna] at hr; exact .inl hr
  | true =>
   rw [hna] at hr;simp only [cond_true] at hr;split at hr
   ·rename_i s rn hdec
    cases hgg : g with
    | false => rw [hgg] at hr; cases hr
    | true =>
    rw [hgg] at hr;simp only [cond_true] at hr;obtain ⟨t, ht, hk⟩ := xDt hr;refine .inr ?_;obtain ⟨O1, k1, k2, k3⟩ := xIK hh hf hgg hargs;have hd := k2 [] rfl;rw [List.nil_append] at hd;have hlen : vs.length = a1.length := hd.len;have hK0 : KOk vs.length [] O1 (xV1 0 a1) { tmps := vs.toArray, defers := [] } := ⟨by simp, rfl, fun t p hp => by
     obtain ⟨_, h2⟩ := xEG _ _ _ _ hp;rw [Nat.sub_zero] at h2;obtain ⟨v, h3, h4⟩ := hd.get h2;exact ⟨v, h4, by simpa using h3⟩⟩
    have hH0 : HOk [] (xAk .foot O1 h1 (List.range h1.length)) w O1 h1 w :=
     ⟨Ex.refl _ _, k1, fun q r i a b => (k3 q r i a b).2.1.mono (fun _ _ e => by simp at e), fun p q r s i j b _ hr _ hi _ ho => absurd ho ((k3 p r i hr hi).1 b),
      fun p r i b hr hi ho => absurd ho ((k3 p r i hr hi).1 b),
      fun p r i b hr hi ho => .inr (.inr (xAc.2 ⟨p, List.mem_range.2 (List.getElem?_eq_some_iff.1 hr).1, r, i, hr, hi, ho⟩)), hh.layW, fun b hb => ⟨hh.outW hb, by simp⟩, fun p t r i hr hi ht => (by rw [(k3 p r i hr hi).2.2.1] at ht; cases ht), fun p r i hr hi => .inr fun t _ => (k3 p r i hr hi).2.2.2 t⟩
    obtain ⟨_, hD⟩ := Sch.decR_ok hdec;obtain ⟨hK1, hH1⟩ := hD hK0 hH0;refine (hE s t ht [] _ w _ w vs (by rw [hlen]; exact nbT hna) (fun q p hp => by
     obtain ⟨v, h1, h2⟩ := hK1.2.2 q p hp;exact ⟨v, h1, by simpa using h2⟩) hH1 hcl).mono fun e w' he => ?_
    obtain ⟨Z', u, rfl, _, hu, hc, _⟩ := he
    cases hsc : scPV (E.Out.res.enc same (E.Out.a t)) with
    | false =>
     rw [hsc] at hk;simp only [cond_false] at hk;split at hk
     ·rename_i rr hnr
      cases hsn : scPVn E.In.roots.length (E.Out.res.enc same (E.Out.a t)) with
      | false => rw [hsn] at hk; cases hk
      | true =>
       rw [hsn] at hk;simp only [cond_true] at hk;unfold newRow at hnr;split at hnr
       ·rename_i T U xs hroot
        cases hpl : (!xAy U && U.tags.isEmpty) with
        | false => rw [hpl] at hnr; cases hnr
        | true =>
         rw [hpl] at hnr;cases hnr;simp only [Bool.and_eq_true, Bool.not_eq_true'] at hpl;obtain ⟨hcv, htg⟩ := hpl;obtain ⟨i', hi'⟩ := hc.info hroot;obtain ⟨r1, r2, us, r3, r4⟩ := hc.ok _ _ i' hroot hi';have hnew : ∀ b, foot i' (.rows T U xs) b -> w.heap.size <= b := fun b hb => by
          rcases hc.mine _ _ i' b hroot hi' hb with m1 | m1
          ·exact m1
          ·cases m1
         have hobj : ∀ t, i'.objs t = [] := by
          rcases hc.cln _ _ i' hroot hi' with g1 | g1
          ·cases g1
          ·exact fun t => g1 t (by intro e; cases e)
         have hgt : (O ++ [i'])[h.length]? = some i' := xEo hh i';refine ⟨O ++ [i'], h ++ [.rows T U xs], _, u, [], [], rfl, Pre.app _ _, xW4 (fun i hi => by rw [hi'] at hi; cases hi; exact hgt) hsn hu, ?_, hk, hc.ext, by simp, fun q _ hq => List.getElem?_append_left hq, Feet.app hh.len rfl (fun _ _ h => .inr h) (fun b hb => .inl (hnew b hb))⟩;exact hh.add hc.ext i' (.rows T U xs) ⟨r1, r2, us, DenL.flat hcv (fun t ht => by rw [List.isEmpty_iff.1 htg] at ht; cases ht) r3, r4⟩ hnew hobj
       ·cases hnr
     ·cases hk
    | true =>
     rw [hsc] at hk;exact ⟨O, h, _, u, [], [], rfl, Pre.refl _, xPu hsc hu, hh.ext' hc.ext, hk, hc.ext, by simp, fun _ _ _ => rfl, Feet.refl w⟩
   ·exact .inl hr
 ·exact .inl hr
theorem use_ok {P : Program} {E : Ent} (hpl : E.plain = true) (hE : FnSem P E.f E.nargs E.In E.Out E.spec) {β : Type} {els : Option β} {args : List PV} {h : List Root} {k : List Nat -> PV -> List Root -> Option β} {r : β} (hr : E.use args h β k els = some r) {S F : List Nat} {W0 : World} {O : List Info} {w : World} {vs : List Value}
  (hargs : DenArgs O args vs) (hh : HOk S F W0 O h w) (hcl : xA3 P E.f = true) : els = some r \/ Calls P E.f vs.toArray w (fun e w' => ∃ O' h' v u B t, e = .returned u /\ Pre O O' /\ DenP O' v u /\ HOk S F W0 O' h' w' /\ k t v h' = some r /\ Ex B w w' /\
   (∀ b ∈ B, ∃ p ∈ t, ∃ r i, h[p]? = some r /\ O[p]? = some i /\ own i r b) /\ (∀ q : Nat, q ∉ t -> q < h.length -> h'[q]? = h[q]?) /\ Feet O h w O' h') := by
 unfold Ent.use at hr;split at hr
 ·exact use0_ok hpl hE hr hargs hh hcl
 ·exact useP_ok hE hr hargs hh hcl
theorem xLA {P : Program} {fb : (β : Type) -> xAK β} (hfb : ∀ β, xAJ P (fb β)) : ∀ {l : List Ent}, xAj P l -> ∀ β, xAJ P (xVp fb l β)
 | [], _, β => hfb β
 | E :: l, hE, β => fun f args h k r hr S F W0 O w vs hargs hh hcl => by
  simp only [xVp] at hr
  cases hb : Nat.beq E.f f with
  | false => rw [hb] at hr; exact xLA hfb hE.2 β f args h k r hr S F W0 O w vs hargs hh hcl
  | true =>
   rw [hb] at hr;have := nbT hb;subst this;rcases use_ok hE.1.1 hE.1.2 hr hargs hh hcl with h1 | h1
   ·exact xLA hfb hE.2 β E.f args h k r h1 S F W0 O w vs hargs hh hcl
   ·exact h1
end
end Go.Proofs.YtnomnijhlbalaaaGreatDoor
