/- What is known is read off and laid again; loops over maps, on data. No condition. -/
import Derived.Test.YthmicafabimfkaaGreatDoorWY2
import Derived.Maps.RangeRun

namespace Go.Proofs.YthmicafabimfkaaGreatDoor
noncomputable section
open Go.RowKit
@[reducible] def ob {α β : Type} (x : Option α) (f : α -> Option β) : Option β := Option.rec none f x
theorem xAj {α β : Type} (x : α) (f : α -> Option β) : ob (some x) f = f x := rfl
theorem xDN {α β : Type} {x : Option α} {f : α -> Option β} {r : β} (h : ob x f = some r) : ∃ y, x = some y /\ f y = some r := by
 cases x with
 | none => cases h
 | some y => exact ⟨y, rfl, h⟩
@[reducible] def su {α β γ : Type} (x : α ⊕ β) (f : α -> γ) (g : β -> γ) : γ := Sum.rec f g x
def Sch.dec (s : Sch) (m : Nat) (K : Slo) (h : List Root) : Option s.ty :=
 bif Nat.ble m s.roots.length then match s.decR (rn0 m s.roots.length 0) K h with
  | some (x, _) => some x
  | none => none
 else none
def PreM (m : Nat) (ρ ρ' : List Info) : Prop := ∀ j, j < m -> ∀ i, ρ[j]? = some i -> ρ'[j]? = some i
theorem PreM.refl (m : Nat) (ρ : List Info) : PreM m ρ ρ := fun _ _ _ h => h
theorem PreM.trans {m : Nat} {a b c : List Info} (h : PreM m a b) (k : PreM m b c) : PreM m a c := fun j hj i e => k j hj i (h j hj i e)
theorem Pre.m {m : Nat} {a b : List Info} (h : Pre a b) : PreM m a b := fun j _ i e => h j i e
theorem xKH : ∀ (m len j q : Nat), q < m -> m <= len -> (rn0 m len j)[q]? = some (some (some (j + q)))
 | 0, _, _, _, h, _ => absurd h (Nat.not_lt_zero _)
 | m + 1, 0, _, _, _, h => by omega
 | m + 1, len + 1, j, 0, _, _ => by simp [rn0]
 | m + 1, len + 1, j, q + 1, h, hl => by
  simp only [rn0, List.getElem?_cons_succ];rw [xKH m len (j + 1) q (by omega) (by omega)];congr 3; omega
theorem Sch.dec_ok {s : Sch} {m : Nat} {K : Slo} {h : List Root} {x : s.ty} (hd : s.dec m K h = some x) : ∀ {N : Nat} {D : List Deferred} {S F : List Nat} {W0 : World} {ρ : List Info} {a : Act} {w : World}, KOk N D ρ K a -> HOk S F W0 ρ h w ->
  ∃ ι, PreM m ρ ι /\ KOk N D ι (xAX same s.slots (s.a x)) a /\ HOk S F W0 ι (xAm same s.roots (s.b x)) w := by
 intro N D S F W0 ρ a w hK hh;unfold Sch.dec at hd
 cases hb : Nat.ble m s.roots.length with
 | false => rw [hb] at hd; cases hd
 | true =>
  rw [hb] at hd;simp only [cond_true] at hd;split at hd
  ·rename_i y rn hy;cases hd;obtain ⟨h1, h2⟩ := Sch.decR_ok hy;obtain ⟨h3, h4⟩ := h2 hK hh;refine ⟨_, fun j hj i e => ?_, h3, h4⟩;have := h1.2 j _ (xKH m _ 0 j hj (Nat.le_of_ble_eq_true hb));rw [((Agr.mk rn ρ) j).1 _ this, Nat.zero_add, e];rfl
  ·cases hd
theorem Sch.dec_cov {s : Sch} {m : Nat} {K : Slo} {h : List Root} {x : s.ty} (hd : s.dec m K h = some x) : ∀ {N : Nat} {D : List Deferred} {S F : List Nat} {W0 : World} {ρ : List Info} {a : Act} {w : World}, KOk N D ρ K a -> HOk S F W0 ρ h w ->
  ∃ ι, PreM m ρ ι /\ KOk N D ι (xAX same s.slots (s.a x)) a /\ HOk S F W0 ι (xAm same s.roots (s.b x)) w /\ (∀ ts, xAP ts s.roots = true -> Covs ρ ι ts) /\ ∀ (S2 F2 : List Nat) (W2 : World), HOk S2 F2 W2 ρ h w -> HOk S2 F2 W2 ι (xAm same s.roots (s.b x)) w := by
 intro N D S F W0 ρ a w hK hh;unfold Sch.dec at hd
 cases hb : Nat.ble m s.roots.length with
 | false => rw [hb] at hd; cases hd
 | true =>
  rw [hb] at hd;simp only [cond_true] at hd;split at hd
  ·rename_i y rn hy;cases hd;obtain ⟨h1, h2⟩ := Sch.decR_ok hy;obtain ⟨h3, h4⟩ := h2 hK hh;refine ⟨_, fun j hj i e => ?_, h3, h4, fun ts ht => Sch.decR_cov hy hh ht, fun S2 F2 W2 h5 => (h2 hK h5).2⟩;have := h1.2 j _ (xKH m _ 0 j hj (Nat.le_of_ble_eq_true hb));rw [((Agr.mk rn ρ) j).1 _ this, Nat.zero_add, e];rfl
  ·cases hd
/-! Outcomes -/
def xtEq : XT -> XT -> Bool
 | .normal, .normal => true
 | .ret, .ret => true
 | .exit a, .exit b => Nat.beq a b
 | _, _ => false
theorem xKp {a b : XT} (h : xtEq a b = true) : a = b := by
 cases a <;> cases b <;> first | rfl | cases h | skip
 rw [nbT h]
abbrev xBy := List (XT × Sch)
@[reducible] def xAL : xBy -> Type
 | [] => Empty
 | [p] => p.2.ty
 | p :: q :: l => p.2.ty ⊕ xAL (q :: l)
def xBv (m : Nat) : (o : xBy) -> XT -> Slo -> List Root -> Option (xAL o)
 | [], _, _, _ => none
 | [p], e, K, h => bif xtEq p.1 e then p.2.dec m K h else none
 | p :: q :: l, e, K, h => bif xtEq p.1 e then (match p.2.dec m K h with
   | some x => some (.inl x)
   | none => none) else (match xBv m (q :: l) e K h with
   | some x => some (.inr x)
   | none => none)
def xAS : (o : xBy) -> xAL o -> XT × Slo × List Root
 | [p], x => (p.1, xAX same p.2.slots (p.2.a x), xAm same p.2.roots (p.2.b x))
 | p :: q :: l, x => match x with
  | .inl y => (p.1, xAX same p.2.slots (p.2.a y), xAm same p.2.roots (p.2.b y))
  | .inr z => xAS (q :: l) z
def xUM {β : Type} (k : xFd β) : (o : xBy) -> xAL o -> Option β
 | [], _ => none
 | [p], x => k p.1 (xAX same p.2.slots (p.2.a x)) (xAm same p.2.roots (p.2.b x))
 | p :: q :: l, x => su x (fun y => k p.1 (xAX same p.2.slots (p.2.a y)) (xAm same p.2.roots (p.2.b y))) (fun z => xUM k (q :: l) z)
theorem xEb {β : Type} (k : xFd β) : ∀ (o : xBy) (x : xAL o), xUM k o x = k (xAS o x).1 (xAS o x).2.1 (xAS o x).2.2
 | [], x => nomatch x
 | [p], x => rfl
 | p :: q :: l, .inl y => rfl
 | p :: q :: l, .inr z => xEb k (q :: l) z
theorem xBD {m : Nat} : ∀ {o : xBy} {e : XT} {K : Slo} {h : List Root} {x : xAL o}, xBv m o e K h = some x -> ∀ {N : Nat} {D : List Deferred} {S F : List Nat} {W0 : World} {ρ : List Info} {a : Act} {w : World}, KOk N D ρ K a -> HOk S F W0 ρ h w ->
  (xAS o x).1 = e /\ ∃ ι, PreM m ρ ι /\ KOk N D ι (xAS o x).2.1 a /\ HOk S F W0 ι (xAS o x).2.2 w
 | [], _, _, _, x, _ => nomatch x
 | [p], e, K, h, x, hd => fun hK hh => by
  simp only [xBv] at hd
  cases hb : xtEq p.1 e with
  | false => rw [hb] at hd; cases hd
  | true => rw [hb] at hd; exact ⟨xKp hb, Sch.dec_ok hd hK hh⟩
 | p :: q :: l, e, K, h, x, hd => fun hK hh => by
  simp only [xBv] at hd
  cases hb : xtEq p.1 e with
  | true =>
   rw [hb] at hd;simp only [cond_true] at hd;split at hd
   ·rename_i y hy;cases hd;exact ⟨xKp hb, Sch.dec_ok hy hK hh⟩
   ·cases hd
  | false =>
   rw [hb] at hd;simp only [cond_false] at hd;split at hd
   ·rename_i y hy;cases hd;exact xBD hy hK hh
   ·cases hd
def xGS : (o : xBy) -> xAL o -> Sch
 | [p], _ => p.2
 | p :: q :: l, x => match x with
  | .inl _ => p.2
  | .inr z => xGS (q :: l) z
theorem xEV : ∀ (o : xBy) (x : xAL o), ∃ z, (xAS o x).2.2 = xAm same (xGS o x).roots z
 | [p], x => ⟨_, rfl⟩
 | p :: q :: l, .inl _ => ⟨_, rfl⟩
 | p :: q :: l, .inr z => xEV (q :: l) z
theorem xGA {m : Nat} : ∀ {o : xBy} {e : XT} {K : Slo} {h : List Root} {x : xAL o}, xBv m o e K h = some x -> ∀ {N : Nat} {D : List Deferred} {S F : List Nat} {W0 : World} {ρ : List Info} {a : Act} {w : World}, KOk N D ρ K a -> HOk S F W0 ρ h w ->
  (xAS o x).1 = e /\ ∃ ι, PreM m ρ ι /\ KOk N D ι (xAS o x).2.1 a /\ HOk S F W0 ι (xAS o x).2.2 w /\ (∀ ts, xAP ts (xGS o x).roots = true -> Covs ρ ι ts) /\ ∀ (S2 F2 : List Nat) (W2 : World), HOk S2 F2 W2 ρ h w -> HOk S2 F2 W2 ι (xAS o x).2.2 w
 | [], _, _, _, x, _ => nomatch x
 | [p], e, K, h, x, hd => fun hK hh => by
  simp only [xBv] at hd
  cases hb : xtEq p.1 e with
  | false => rw [hb] at hd; cases hd
  | true => rw [hb] at hd; exact ⟨xKp hb, Sch.dec_cov hd hK hh⟩
 | p :: q :: l, e, K, h, x, hd => fun hK hh => by
  simp only [xBv] at hd
  cases hb : xtEq p.1 e with
  | true =>
   rw [hb] at hd;simp only [cond_true] at hd;split at hd
   ·rename_i y hy;cases hd;exact ⟨xKp hb, Sch.dec_cov hy hK hh⟩
   ·cases hd
  | false =>
   rw [hb] at hd;simp only [cond_false] at hd;split at hd
   ·rename_i y hy;cases hd;exact xGA hy hK hh
   ·cases hd
/-! Loops over maps: whatever comes next -/
open Classical in
/-- The same in any order. -/
def xEl {α β : Type} (f : List α -> Option β) (ts : List α) : Option β := if ∃ r, ∀ π : List α, π.Perm ts -> f π = some r then f ts else none
theorem xOs {α β : Type} {f : List α -> Option β} {ts : List α} {r : β} (h : xEl f ts = some r) : ∀ π : List α, π.Perm ts -> f π = some r := by
 unfold xEl at h;split at h
 ·rename_i hx;obtain ⟨r', h1⟩ := hx;rw [h1 ts (List.Perm.refl _)] at h;cases h; exact h1
 ·cases h
theorem xKn {α β : Type} {f : List α -> Option β} {ts : List α} {r : β} (h : ∀ π : List α, π.Perm ts -> f π = some r) : xEl f ts = some r := by
 unfold xEl;rw [if_pos ⟨r, h⟩];exact h ts (List.Perm.refl _)
structure RngC where
 (r0 r1 r2 : Nat) (ops0 ops1 ops2 : Array Oper) (pre : List Oper) (o0 o1 o2 : Oper) (T : TypeId) (x : Operand) (ti tn te b0 b1 : Nat) (tok : Operand) (rest1 rest2 : List Oper) (y : Code)
def RngC.round (R : RngC) : Code := .seq (.region R.r1 R.ops1 false) (.seq (.cond R.tok .skip (.exit R.b0)) (.block R.b1 (.seq (.region R.r2 R.ops2 false) R.y)))
def xPl : List Oper -> Option (List Oper × Oper)
 | [] => none
 | o :: l => match l with
  | [] => some ([], o)
  | _ :: _ => match xPl l with
   | some (q, p) => some (o :: q, p)
   | none => none
theorem xMK : ∀ {l q : List Oper} {p : Oper}, xPl l = some (q, p) -> l = q ++ [p]
 | [], _, _, h => by cases h
 | [o], q, p, h => by cases h; rfl
 | o :: o' :: l, q, p, h => by
  simp only [xPl] at h;split at h
  ·rename_i q' p' h';cases h;rw [xMK (l := o' :: l) h']; rfl
  ·cases h
/-- Where an operation that has no guard puts its value. -/
def xSp (o : Oper) : Option Nat :=
 match o.guard with
 | none => o.dst
 | some _ => none
theorem xKV {o : Oper} {t : Nat} (h : xSp o = some t) : o.guard = none /\ o.dst = some t := by
 unfold xSp at h;split at h
 ·rename_i hg; exact ⟨hg, h⟩
 ·cases h
def xBP (c : Code) : Option RngC :=
 match c with
 | .seq (.region r0 ops0 false) (.block b0 (.loop (.seq (.region r1 ops1 false) (.seq (.cond tok .skip (.exit b0')) (.block b1 (.seq (.region r2 ops2 false) y)))))) => match xPl ops0.toList, ops1.toList, ops2.toList with
  | some (pre, o0), o1 :: rest1, o2 :: rest2 => match o0.op, o1.op, o2.op with
   | .range T x, .next (.tmp t1) false, .entry (.tmp t2) => match xSp o0, xSp o1, xSp o2 with
    | some ti, some tn, some te => bif (Nat.beq ti t1 && Nat.beq ti t2) && (Nat.beq b0 b0' && !Nat.beq ti tn) then some ⟨r0, r1, r2, ops0, ops1, ops2, pre, o0, o1, o2, T, x, ti, tn, te, b0, b1, tok, rest1, rest2, y⟩ else none
    | _, _, _ => none
   | _, _, _ => none
  | _, _, _ => none
 | _ => none
structure RngIs (c : Code) (R : RngC) : Prop where
 code : c = .seq (.region R.r0 R.ops0 false) (.block R.b0 (.loop R.round))
 l0 : R.ops0.toList = R.pre ++ [R.o0]
 l1 : R.ops1.toList = R.o1 :: R.rest1
 l2 : R.ops2.toList = R.o2 :: R.rest2
 p0 : R.o0.op = .range R.T R.x
 p1 : R.o1.op = .next (.tmp R.ti) false
 p2 : R.o2.op = .entry (.tmp R.ti)
 d0 : R.o0.guard = none /\ R.o0.dst = some R.ti
 d1 : R.o1.guard = none /\ R.o1.dst = some R.tn
 d2 : R.o2.guard = none /\ R.o2.dst = some R.te
 ne : R.ti ≠ R.tn
theorem xH5 {c : Code} {R : RngC} (h : xBP c = some R) : RngIs c R := by
 unfold xBP at h;split at h
 rotate_right
 ·cases h
 split at h
 rotate_right
 ·cases h
 rename_i hl0 hl1 hl2;split at h
 rotate_right
 ·cases h
 rename_i ho0 ho1 ho2;split at h
 rotate_right
 ·cases h
 rename_i hd0 hd1 hd2;generalize hb : (_ && _) = b at h
 cases b with
 | false => cases h
 | true =>
  cases h;simp only [Bool.and_eq_true, Bool.not_eq_true'] at hb;obtain ⟨⟨h1, h2⟩, h3, h4⟩ := hb;have h1 := nbT h1;have h2 := nbT h2;have h3 := nbT h3;have h4 := Nat.ne_of_beq_eq_false h4;subst h1; subst h2; subst h3;exact ⟨rfl, xMK hl0, hl1, hl2, ho0, ho1, ho2, xKV hd0, xKV hd1, xKV hd2, h4⟩
/-- The place of a map that is left alone during the loop. -/
inductive RPl where
 | root (id : Nat)
 | ar (t n : Nat)
def xVq (h : List Root) : MPl -> Option RPl
 | .root id => some (.root id)
 | .ar p n => match h[p]? with
  | some r => match r.tag with
   | some t => some (.ar t n)
   | none => none
  | none => none
def xB2 {α : Type} (os : List (Option (List α))) : Nat -> List (Option (List α))
 | 0 => os
 | m + 1 => os.set m none
def xGp (h : List Root) : MPl -> List Root
 | .root id => h.set id .dead
 | .ar p n => match h[p]? with
  | some (.arm t κ agg τ os) => h.set p (.arm t κ agg τ (xB2 os n))
  | _ => h
def xVu {α : Type} (os : List (Option (List α))) (n : Nat) (ts : List α) : List (Option (List α)) :=
 match n with
 | 0 => os
 | m + 1 => os.set m (some ts)
def xNp (h : List Root) (ts : List Nat) : Bool := ts.all (fun t => (xA3 t h 0).isSome)
def xRY (h : List Root) (pl : RPl) (κ : KK) (agg : Bool) (τ : TC) (ts : List (κ.ty × τ.ty)) : Option (List Root) :=
 match pl with
 | .root id => bif xNp h τ.tags then (match h[id]? with
  | some .dead => some (h.set id (.mp κ agg τ ts))
  | _ => none) else none
 | .ar t n => bif xNp h τ.tags then (match xA3 t h 0 with
  | some (p, .arm t' κ' agg' τ' os) => if e0 : kkEq κ κ' = true then if e : xGP τ τ' = true then bif agg == agg' then some (h.set p (.arm t' κ' agg' τ' (xVu os n (xQ1 (xCn e0) (xAC e) ts)))) else none else none else none
  | _ => none) else none
def xNC (P : Program) (m : Nat) (rs : List RK) (K : Slo) (h : List Root) (R : RngC) (κ : KK) (agg : Bool) (τ : TC) : Option (List Bool × MPl × RPl × List (κ.ty × τ.ty)) :=
 match P.underlying R.T, xAt K R.x with
 | some (.map _ _), some (.c c) => match xKZ h c with
  | some M => match xVq h M.pl with
   | some pl => if e0 : kkEq M.κ κ = true then if e : xGP M.τ τ = true then bif (M.agg == agg) && !xAE τ && (match pl with
     | .root id => Nat.ble (id + 1) m
     | .ar t _ => xAP [t] rs) then some (M.g, M.pl, pl, xQ1 (xCn e0) (xAC e) M.ts) else none else none else none
   | none => none
  | none => none
 | _, _ => none
section
variable {S : Sch} {o : xBy} {κ : KK} {τ : TC}
/-- The loop, in some order. -/
def xND (B : S.ty -> κ.ty × τ.ty -> Option (S.ty ⊕ xAL o)) (E : S.ty -> Option (xAL o)) : S.ty -> List (κ.ty × τ.ty) -> Option (xAL o)
 | s, [] => E s
 | s, e :: π => ob (B s e) (fun q => su q (fun s' => xND B E s' π) some)
end
def xM6 (b0 : Nat) : XT -> XT
 | .normal => .exit b0
 | e => e
/-- No root looks at this block. -/
def Off (ι : List Info) (h : List Root) (b : Nat) : Prop := ∀ (p : Nat) (r : Root) (i : Info), h[p]? = some r -> ι[p]? = some i -> ¬ foot i r b
/-- An iterator over a map, and what it has left. -/
def RngAt (ι : List Info) (κ : KK) (agg : Bool) (τ : TC) (w : World) (ib q cl : Nat) (ents : Array MapEntry) (us : List (κ.ty × Nat × τ.ty)) (π : List (κ.ty × τ.ty)) : Prop :=
 ∃ since seen last, w.heap[ib]? = some (.mapIter (some q) since seen last) /\ w.heap[q]? = some (.map ents cl) /\ (∀ x ∈ ents.toList, x.born < since) /\ since <= last /\ since <= cl /\ EntOk ι κ agg τ us ents.toList /\ (us.map (fun e => e.2.1)).Nodup /\ (strip (us.filter (fun e => !seen.contains e.2.1))).Perm π
def xHg (P : Program) (m N : Nat) (R : RngC) (S : Sch) (o : xBy) (κ : KK) (agg : Bool) (τ : TC) (B : S.ty -> κ.ty × τ.ty -> Option (S.ty ⊕ xAL o)) (E : S.ty -> Option (xAL o)) : Prop :=
 (xAP τ.tags S.roots = true) /\
 (∀ (s : S.ty) (y : xAL o), E s = some y -> ∀ (D : List Deferred) (S' F : List Nat) (W0 : World) (ι : List Info) (a : Act) (w : World) (ib : Nat), KOk N D ι (xAX same S.slots (S.a s)) a -> a.tmps[R.ti]? = some (.pointer (some ⟨ib, 0, none⟩)) -> HOk S' F W0 ι (xAm same S.roots (S.b s)) w ->
  (∃ x seen z, w.heap[ib]? = some (.mapIter none x seen z)) -> ∀ Q : Exit -> Act -> World -> Prop, (∀ (ι' : List Info) (a' : Act) (w' : World), PreM m ι ι' -> (xAS o y).1 ≠ .exit R.b0 -> KOk N D ι' (xAS o y).2.1 a' -> HOk S' F W0 ι' (xAS o y).2.2 w' -> Q (xM6 R.b0 (xAS o y).1).out a' w') -> Code.rounds P R.round Q 1 a w) /\
 (∀ (π : List (κ.ty × τ.ty)) (s : S.ty) (Good : xAL o -> Prop), (∀ π' : List (κ.ty × τ.ty), π'.Perm π -> ∃ y, xND B E s π' = some y /\ Good y) -> ∀ (D : List Deferred) (S' F : List Nat) (W0 : World) (ι : List Info) (a : Act) (w : World) (ib q cl : Nat) (ents : Array MapEntry) (us : List (κ.ty × Nat × τ.ty)),
  KOk N D ι (xAX same S.slots (S.a s)) a -> a.tmps[R.ti]? = some (.pointer (some ⟨ib, 0, none⟩)) -> HOk S' F W0 ι (xAm same S.roots (S.b s)) w -> RngAt ι κ agg τ w ib q cl ents us π -> W0.heap.size <= ib -> Off ι (xAm same S.roots (S.b s)) ib -> Off ι (xAm same S.roots (S.b s)) q -> ib ≠ q -> xAE τ = false ->
  ∀ Q : Exit -> Act -> World -> Prop, (∀ (y : xAL o) (ι' : List Info) (a' : Act) (w' : World), Good y -> PreM m ι ι' -> (xAS o y).1 ≠ .exit R.b0 -> (∀ ts, xAP ts S.roots = true -> xAP ts (xGS o y).roots = true -> Covs ι ι' ts) -> KOk N D ι' (xAS o y).2.1 a' -> HOk S' F W0 ι' (xAS o y).2.2 w' -> w'.heap[q]? = some (.map ents cl) -> Off ι' (xAS o y).2.2 q -> Q (xM6 R.b0 (xAS o y).1).out a' w') ->
  Code.rounds P R.round Q (π.length + 1) a w)
end
end Go.Proofs.YthmicafabimfkaaGreatDoor


namespace Go.Proofs.YthmicafabimfkaaGreatDoor
noncomputable section
open Go.RowKit
section
variable {P : Program} {N m : Nat} {D : List Deferred} {S F : List Nat} {W0 : World} {ρ : List Info} {K : Slo} {h : List Root} {w : World} {a : Act}
theorem HOk.shrink (hh : HOk S F W0 ρ h w) {p : Nat} {r : Root} {i : Info} (hp : h[p]? = some r) (hi : ρ[p]? = some i) {r' : Root} (hr' : RootOk ρ w i r') (ho : ∀ b, own i r' b -> own i r b) (hf : ∀ b, foot i r' b -> foot i r b) (htg : (r'.tag = r.tag /\ r ≠ .dead) \/ r' = .dead) : HOk S F W0 ρ (h.set p r') w := by
 have get : ∀ (q : Nat) (x : Root) (j : Info), (h.set p r')[q]? = some x -> ρ[q]? = some j -> ∃ x0, h[q]? = some x0 /\ RootOk ρ w j x /\ (∀ b, own j x b -> own j x0 b) /\ (∀ b, foot j x b -> foot j x0 b) /\ ((x.tag = x0.tag /\ x0 ≠ .dead) \/ x = .dead) := by
  intro q x j hx hj;rw [List.getElem?_set] at hx;split at hx
  ·rename_i e;subst e;split at hx
   ·cases hx;rw [hi] at hj; cases hj;exact ⟨r, hp, hr', ho, hf, htg⟩
   ·cases hx
  ·refine ⟨x, hx, hh.ok q x j hx hj, fun _ h => h, fun _ h => h, ?_⟩;by_cases e : x = .dead
   ·exact .inr e
   ·exact .inl ⟨rfl, e⟩
 refine ⟨hh.ext, by rw [List.length_set]; exact hh.len, fun q x j hx hj => ?_, fun q q' x y j j' b hne hx hy hj hj' h1 h2 => ?_, fun q x j b hx hj h1 => ?_, fun q x j b hx hj h1 => ?_, hh.lay, hh.out, fun q t x j hx hj ht => ?_, fun q x j hx hj => ?_⟩
 ·obtain ⟨_, _, h1, _⟩ := get q x j hx hj; exact h1
 ·obtain ⟨x0, g1, _, g2, _⟩ := get q x j hx hj;obtain ⟨y0, g3, _, _, g4, _⟩ := get q' y j' hy hj';exact hh.sep q q' x0 y0 j j' b hne g1 g3 hj hj' (g2 b h1) (g4 b h2)
 ·obtain ⟨x0, g1, _, g2, _⟩ := get q x j hx hj; exact hh.mine q x0 j b g1 hj (g2 b h1)
 ·obtain ⟨x0, g1, _, _, g2, _⟩ := get q x j hx hj; exact hh.near q x0 j b g1 hj (g2 b h1)
 ·obtain ⟨x0, g1, _, _, _, g2⟩ := get q x j hx hj;rcases g2 with g2 | g2
  ·exact hh.cov q t x0 j g1 hj (by rw [<- g2.1]; exact ht)
  ·subst g2; cases ht
 ·obtain ⟨x0, g1, _, _, _, g2⟩ := get q x j hx hj;rcases g2 with g2 | g2
  ·rcases hh.cln q x0 j g1 hj with g3 | g3
   ·exact absurd g3 g2.2
   ·exact .inr fun t ht => g3 t (by rw [<- g2.1]; exact ht)
  ·exact .inl g2
/-- A map is left alone. -/
theorem kill_ok (hh : HOk S F W0 ρ h w) {x : CV} {v : Value} (hd : Den ρ x v) {M : MpV} (hM : xKZ h x = some M) (hg : AllB M.g) :
  HOk S F W0 ρ (xGp h M.pl) w /\ (xGp h M.pl).length = h.length /\ ∀ q, v = .map (some q) -> Off ρ (xGp h M.pl) q /\ (W0.heap.size <= q \/ q ∈ S) := by
 unfold xKZ at hM;split at hM
 ·rename_i id;split at hM
  ·rename_i κ agg τ ts hr;cases hM;obtain ⟨i, h1, h2, _⟩ := hd;obtain ⟨q, ents, cl', h3, h4, h5, h6⟩ := hh.ok id _ i hr h1;have hown : own i (.mp κ agg τ ts) q := by simp [own, h4]
   refine ⟨hh.shrink hr h1 (r' := .dead) trivial (fun b hb => by cases hb) (fun b hb => by cases hb) (.inr rfl), by simp [xGp], fun q' hq' => ?_⟩;have e : q' = q := by rw [h2, h3] at hq'; cases hq'; rfl
   subst e;refine ⟨fun p r j hp hj hf => ?_, hh.mine id _ i q' hr h1 hown⟩;simp only [xGp] at hp;rw [List.getElem?_set] at hp;split at hp
   ·split at hp
    ·cases hp; cases hf
    ·cases hp
   ·rename_i hne;exact hh.sep id p _ r i j q' hne hr hp h1 hj hown hf
  ·cases hM
 ·rename_i t n;split at hM
  ·rename_i p t2 κ agg τ os hr;cases hM;obtain ⟨p', hp, hrr, ht⟩ := xAD hr;rw [Nat.zero_add] at hp; subst hp;obtain ⟨ip, hip⟩ := hh.info hrr;cases ht;have hA : ArOk ρ w (ip.objs t) (Root.arm t κ agg τ os).obs := hh.ok p _ ip hrr hip;have hk : xGp h (.ar p n) = h.set p (.arm t κ agg τ (xB2 os n)) := by simp only [xGp, hrr]
   show HOk S F W0 ρ (xGp h (.ar p n)) w /\ (xGp h (.ar p n)).length = h.length /\ ∀ q, v = .map (some q) -> Off ρ (xGp h (.ar p n)) q /\ (W0.heap.size <= q \/ q ∈ S);rw [hk]
   cases n with
   | zero =>
    have e : h.set p (.arm t κ agg τ (xB2 os 0)) = h := by
     apply List.ext_getElem?;intro j;rw [List.getElem?_set];split
     ·rename_i e; subst e;rw [if_pos (List.getElem?_eq_some_iff.1 hrr).1, hrr]; rfl
     ·rfl
    rw [e];refine ⟨hh, rfl, fun q hq => ?_⟩;rcases hd with ⟨_, h1⟩ | ⟨m', id, i0, h1, _⟩
    ·rw [hq] at h1; cases h1
    ·omega
   | succ m0 =>
    have hob : (Root.arm t κ agg τ (xB2 os (m0 + 1))).obs = (Root.arm t κ agg τ os).obs.set m0 .no := by
     simp only [Root.obs, xB2, List.map_set]
    have sub : ∀ b, xCo (ip.objs t) (Root.arm t κ agg τ (xB2 os (m0 + 1))).obs b -> ∃ mm v o, mm ≠ m0 /\ (ip.objs t)[mm]? = some v /\ (Root.arm t κ agg τ os).obs[mm]? = some o /\ xC0 v o b := by
     intro b hb;rw [hob] at hb;obtain ⟨mm, v', o', g1, g2, g3⟩ := hb;rw [List.getElem?_set] at g2;split at g2
     ·split at g2
      ·cases g2; cases g3
      ·cases g2
     ·rename_i hne; exact ⟨mm, v', o', fun e => hne e.symm, g1, g2, g3⟩
    have hAk : ArOk ρ w (ip.objs t) (Root.arm t κ agg τ (xB2 os (m0 + 1))).obs := by
     have old : ∀ (mm : Nat) (v : Value) (o : Ob), (ip.objs t)[mm]? = some v -> (Root.arm t κ agg τ (xB2 os (m0 + 1))).obs[mm]? = some o -> o = .no \/ (Root.arm t κ agg τ os).obs[mm]? = some o := by
      intro mm v' o' _ g2;rw [hob, List.getElem?_set] at g2;split at g2
      ·split at g2
       ·cases g2; exact .inl rfl
       ·cases g2
      ·exact .inr g2
     refine ⟨by rw [hob, List.length_set]; exact hA.1, fun mm v' o' g1 g2 => ?_, fun m1 m2 v1 v2 o1 o2 b hne g1 g2 g3 g4 g5 g6 => ?_⟩
     ·rcases old mm v' o' g1 g2 with rfl | g3
      ·trivial
      ·exact hA.2.1 mm v' o' g1 g3
     ·rcases old m1 v1 o1 g1 g3 with rfl | g7
      ·cases g5
      ·rcases old m2 v2 o2 g2 g4 with rfl | g8
       ·cases g6
       ·exact hA.2.2 m1 m2 v1 v2 o1 o2 b hne g1 g2 g7 g8 g5 g6
    have hsub : ∀ b, own ip (.arm t κ agg τ (xB2 os (m0 + 1))) b -> own ip (.arm t κ agg τ os) b := fun b hb => by
     obtain ⟨mm, v', o', _, g1, g2, g3⟩ := sub b hb;exact ⟨mm, v', o', g1, g2, g3⟩
    refine ⟨hh.shrink hrr hip hAk hsub hsub (.inl ⟨rfl, fun e => by cases e⟩), by simp, fun q hq => ?_⟩;rcases hd with ⟨h0, _⟩ | ⟨m', id, i0, h1, h2, h3, q', h4⟩
    ·omega
    ·obtain rfl : m0 = m' := by omega
     have e : q' = q := by rw [hq] at h4; cases h4; rfl
     subst e;have h7 := hh.cov p t _ ip hrr hip rfl id i0 m0 _ h2 h3;have hl : ∃ ts, os[m0]? = some (some ts) := by
      have := hg.1;simp only [xDA] at this;split at this
      ·rename_i xs hx2; exact ⟨xs, hx2⟩
      ·cases this
     obtain ⟨ts, hos⟩ := hl;have ho : (Root.arm t κ agg τ os).obs[m0]? = some (.mp κ agg τ ts) := by
      simp only [Root.obs, List.getElem?_map, hos, Option.map_some]
     have hob2 : xC0 v (.mp κ agg τ ts) q' := by show xHK v = some q'; rw [h4]; rfl
     have hown : own ip (.arm t κ agg τ os) q' := ⟨m0, v, _, h7, ho, hob2⟩;refine ⟨fun p2 r j hp hj hf => ?_, hh.mine p _ ip q' hrr hip hown⟩;rw [List.getElem?_set] at hp;split at hp
     ·rename_i e;subst e;split at hp
      ·cases hp;rw [hip] at hj; cases hj;obtain ⟨mm, v', o', hne, g1, g2, g3⟩ := sub q' hf;exact hA.2.2 mm m0 v' v o' _ q' hne g1 h7 g2 ho g3 hob2
      ·cases hp
     ·rename_i hne;exact hh.sep p p2 _ r ip j q' hne hrr hp hip hj hown hf
  ·cases hM
 ·cases hM
/-- A world as it stands, as the world that a run begins with. -/
theorem HOk.enterAll (hh : HOk S F W0 ρ h w) : HOk (xAo .own ρ h (List.range h.length)) (xAo .foot ρ h (List.range h.length)) w ρ h w :=
 ⟨Ex.refl _ _, hh.len, hh.ok, hh.sep, fun p r i b hr hi ho => .inr (xAg.2 ⟨p, List.mem_range.2 (List.getElem?_eq_some_iff.1 hr).1, r, i, hr, hi, ho⟩),
  fun p r i b hr hi ho => .inr (.inr (xAg.2 ⟨p, List.mem_range.2 (List.getElem?_eq_some_iff.1 hr).1, r, i, hr, hi, ho⟩)), hh.layW, fun b hb => ⟨hh.outW hb, fun hm => (by obtain ⟨p, _, r, i, hr, hi, ho⟩ := xAg.1 hm; exact hh.notOwn hb hr hi ho)⟩, hh.cov, hh.cln⟩
/-- A block that no root looks at, no root that is read off looks at. -/
theorem off_of (hh : HOk S F W0 ρ h w) {b : Nat} (hb : b < w.heap.size) (ho : Off ρ h b) {ι : List Info} {h' : List Root} (ht : ∀ (S2 F2 : List Nat) (W2 : World), HOk S2 F2 W2 ρ h w -> HOk S2 F2 W2 ι h' w) : Off ι h' b := by
 intro p r i hp hi hf;rcases (ht _ _ _ hh.enterAll).near p r i b hp hi hf with h1 | h1 | h1
 ·omega
 ·obtain ⟨q, _, r', i', g1, g2, g3⟩ := xAg.1 h1;exact ho q r' i' g1 g2 (xAs g3)
 ·obtain ⟨q, _, r', i', g1, g2, g3⟩ := xAg.1 h1;exact ho q r' i' g1 g2 g3
/-- Back to the world that the call began with. -/
theorem HOk.backR (hh : HOk S F W0 ρ h w) {S1 F1 : List Nat} {w1 : World} {ρ' : List Info} {h' : List Root} {w' : World} (hc : HOk S1 F1 w1 ρ' h' w') (hE : Ex S W0 w1) (hS : ∀ b ∈ S1, W0.heap.size <= b \/ b ∈ S) (hF : ∀ b ∈ F1, W0.heap.size <= b \/ b ∈ S \/ b ∈ F) : HOk S F W0 ρ' h' w' := by
 refine ⟨?_, hc.len, hc.ok, hc.sep, fun p r i b hp hi ho => ?_, fun p r i b hp hi ho => ?_, hh.lay, hh.out, hc.cov, hc.cln⟩
 ·refine ⟨hc.ext.os.trans hE.os, hc.ext.tape.trans hE.tape, hc.ext.output.trans hE.output, Nat.le_trans hE.size hc.ext.size, fun j hj hjs => ?_⟩;rw [hc.ext.block j (Nat.lt_of_lt_of_le hj hE.size) (fun hm => (hS j hm).elim (fun e => by omega) hjs)];exact hE.block j hj hjs
 ·rcases hc.mine p r i b hp hi ho with h1 | h1
  ·exact .inl (Nat.le_trans hE.size h1)
  ·exact hS b h1
 ·rcases hc.near p r i b hp hi ho with h1 | h1 | h1
  ·exact .inl (Nat.le_trans hE.size h1)
  ·exact (hS b h1).imp id .inl
  ·exact hF b h1
theorem HOk.ownB (hh : HOk S F W0 ρ h w) {L : List Nat} : ∀ b ∈ xAo .own ρ h L, W0.heap.size <= b \/ b ∈ S := fun b hb => by
 obtain ⟨p, _, r, i, h1, h2, h3⟩ := xAg.1 hb;exact hh.mine p r i b h1 h2 h3
theorem HOk.footB (hh : HOk S F W0 ρ h w) {L : List Nat} : ∀ b ∈ xAo .foot ρ h L, W0.heap.size <= b \/ b ∈ S \/ b ∈ F := fun b hb => by
 obtain ⟨p, _, r, i, h1, h2, h3⟩ := xAg.1 hb;exact hh.near p r i b h1 h2 h3
theorem xBk {b : Nat} {L : List Nat} (ho : Off ρ h b) : b ∉ xAo .own ρ h L /\ b ∉ xAo .foot ρ h L :=
 ⟨fun hm => by obtain ⟨p, _, r, i, h1, h2, h3⟩ := xAg.1 hm; exact ho p r i h1 h2 (xAs h3), fun hm => by obtain ⟨p, _, r, i, h1, h2, h3⟩ := xAg.1 hm; exact ho p r i h1 h2 h3⟩
theorem HOk.addDead (hh : HOk S F W0 ρ h w) {i : Info} (hi : ∀ t, i.objs t = []) : HOk S F W0 (ρ ++ [i]) (h ++ [.dead]) w :=
 hh.add (Ex.refl _ _) i .dead trivial (fun b hb => by cases hb) hi
theorem xO8 {b : Nat} (ho : Off ρ h b) (hl : ρ.length = h.length) (i : Info) : Off (ρ ++ [i]) (h ++ [.dead]) b := by
 intro p r j hp hj hf;rcases Nat.lt_or_ge p h.length with hlt | hge
 ·rw [List.getElem?_append_left hlt] at hp;rw [List.getElem?_append_left (by omega)] at hj;exact ho p r j hp hj hf
 ·rw [List.getElem?_append_right hge] at hp
  cases hq : p - h.length with
  | zero => rw [hq] at hp; cases hp; cases hf
  | succ n => rw [hq] at hp; simp at hp
/-- An object that is put into an arena again. -/
theorem ArOk.put {vs : List Value} {os : List Ob} (hA : ArOk ρ w vs os) {m : Nat} {v : Value} {ob : Ob} (hv : vs[m]? = some v) (ho : ObOk ρ w v ob) (hd : ∀ b, xC0 v ob b -> ¬ xCo vs os b) : ArOk ρ w vs (os.set m ob) := by
 have get : ∀ (q : Nat) (s : Ob), (os.set m ob)[q]? = some s -> (q = m /\ s = ob) \/ (q ≠ m /\ os[q]? = some s) := by
  intro q s hs;rw [List.getElem?_set] at hs;split at hs
  ·rename_i e;subst e;split at hs
   ·exact .inl ⟨rfl, (Option.some.inj hs).symm⟩
   ·cases hs
  ·rename_i e;exact .inr ⟨fun x => e x.symm, hs⟩
 refine ⟨by rw [List.length_set]; exact hA.1, fun q u s hu hs => ?_, fun q q' u u' s s' b hq hu hu' hs hs' hb hb' => ?_⟩
 ·rcases get q s hs with ⟨rfl, rfl⟩ | ⟨_, h1⟩
  ·rw [hv] at hu; cases hu; exact ho
  ·exact hA.2.1 q u s hu h1
 ·rcases get q s hs with ⟨rfl, rfl⟩ | ⟨_, h1⟩
  ·rcases get q' s' hs' with ⟨rfl, _⟩ | ⟨_, h2⟩
   ·exact hq rfl
   ·rw [hv] at hu; cases hu;exact hd b hb ⟨q', u', s', hu', h2, hb'⟩
  ·rcases get q' s' hs' with ⟨rfl, rfl⟩ | ⟨_, h2⟩
   ·rw [hv] at hu'; cases hu';exact hd b hb' ⟨q, u, s, hu, h1, hb⟩
   ·exact hA.2.2 q q' u u' s s' b hq hu hu' h1 h2 hb hb'
/-- A root that is put in again. -/
theorem HOk.raise (hh : HOk S F W0 ρ h w) {p : Nat} {r : Root} {i : Info} (hp : h[p]? = some r) (hi : ρ[p]? = some i) {r' : Root} {b0 : Nat} (hr' : RootOk ρ w i r') (ho : ∀ b, own i r' b -> own i r b \/ b = b0) (hf : ∀ b, foot i r' b -> foot i r b \/ b = b0) (hoff : Off ρ h b0) (hmine : W0.heap.size <= b0 \/ b0 ∈ S)
  (hcov : ∀ t, r'.tag = some t -> ∀ (id : Nat) (j : Info) (m : Nat) (v : Value), ρ[id]? = some j -> (j.objs t)[m]? = some v -> (i.objs t)[m]? = some v) (hcl : Cln i r') : HOk S F W0 ρ (h.set p r') w := by
 have get : ∀ (q : Nat) (x : Root) (j : Info), (h.set p r')[q]? = some x -> ρ[q]? = some j -> (q = p /\ x = r' /\ j = i) \/ (q ≠ p /\ h[q]? = some x) := by
  intro q x j hx hj;rw [List.getElem?_set] at hx;split at hx
  ·rename_i e;subst e;split at hx
   ·cases hx;rw [hi] at hj; cases hj;exact .inl ⟨rfl, rfl, rfl⟩
   ·cases hx
  ·rename_i e; exact .inr ⟨fun x => e x.symm, hx⟩
 refine ⟨hh.ext, by rw [List.length_set]; exact hh.len, fun q x j hx hj => ?_, fun q q' x y j j' b hne hx hy hj hj' h1 h2 => ?_, fun q x j b hx hj h1 => ?_, fun q x j b hx hj h1 => ?_, hh.lay, hh.out, fun q t x j hx hj ht => ?_, fun q x j hx hj => ?_⟩
 ·rcases get q x j hx hj with ⟨rfl, rfl, rfl⟩ | ⟨_, g⟩
  ·exact hr'
  ·exact hh.ok q x j g hj
 ·rcases get q x j hx hj with ⟨rfl, rfl, rfl⟩ | ⟨_, g⟩
  ·rcases get q' y j' hy hj' with ⟨rfl, _, _⟩ | ⟨_, g'⟩
   ·exact hne rfl
   ·rcases ho b h1 with h3 | rfl
    ·exact hh.sep q q' r y j j' b hne hp g' hi hj' h3 h2
    ·exact hoff q' y j' g' hj' h2
  ·rcases get q' y j' hy hj' with ⟨rfl, rfl, rfl⟩ | ⟨_, g'⟩
   ·rcases hf b h2 with h3 | rfl
    ·exact hh.sep q q' x r j j' b hne g hp hj hi h1 h3
    ·exact hoff q x j g hj (xAs h1)
   ·exact hh.sep q q' x y j j' b hne g g' hj hj' h1 h2
 ·rcases get q x j hx hj with ⟨rfl, rfl, rfl⟩ | ⟨_, g⟩
  ·rcases ho b h1 with h3 | rfl
   ·exact hh.mine q r j b hp hi h3
   ·exact hmine
  ·exact hh.mine q x j b g hj h1
 ·rcases get q x j hx hj with ⟨rfl, rfl, rfl⟩ | ⟨_, g⟩
  ·rcases hf b h1 with h3 | rfl
   ·exact hh.near q r j b hp hi h3
   ·exact hmine.imp id .inl
  ·exact hh.near q x j b g hj h1
 ·rcases get q x j hx hj with ⟨rfl, rfl, rfl⟩ | ⟨_, g⟩
  ·exact hcov t ht
  ·exact hh.cov q t x j g hj ht
 ·rcases get q x j hx hj with ⟨rfl, rfl, rfl⟩ | ⟨_, g⟩
  ·exact hcl
  ·exact hh.cln q x j g hj
theorem xNg {κ : KK} {τ : TC} (ts : List (κ.ty × τ.ty)) (e1 : κ = κ) (e2 : τ = τ) : xQ1 e1 e2 ts = ts := rfl
theorem xD5 {h2 : List Root} {rp : RPl} {κ : KK} {agg : Bool} {τ : TC} {ts : List (κ.ty × τ.ty)} (hr : xRY h rp κ agg τ ts = some h2) : xNp h τ.tags = true := by
 unfold xRY at hr;split at hr
 all_goals
  cases hb : xNp h τ.tags with
  | true => rfl
  | false => rw [hb] at hr; cases hr
/-- The map is there again, at the place of a root. -/
theorem xVs (hh : HOk S F W0 ρ h w) {h2 : List Root} {id q cl : Nat} {i : Info} {κ : KK} {agg : Bool} {τ : TC} {ts : List (κ.ty × τ.ty)} {ents : Array MapEntry} (hr : xRY h (.root id) κ agg τ ts = some h2) (hi : ρ[id]? = some i) (hv : i.val = .map (some q)) (ha : i.a = some ⟨q, 0, none⟩) (hcl : ∀ t, i.objs t = []) (hq : w.heap[q]? = some (.map ents cl)) (hm : MapOk ρ κ agg τ ts ents cl) (hoff : Off ρ h q) (hmine : W0.heap.size <= q \/ q ∈ S) : HOk S F W0 ρ h2 w := by
 have htg := xD5 hr;simp only [xRY, htg, cond_true] at hr;split at hr
 ·rename_i hd;cases hr;refine hh.raise hd hi (b0 := q) ⟨q, ents, cl, hv, ha, hq, hm⟩ (fun b hb => .inr ?_) (fun b hb => .inr ?_) hoff hmine (fun t ht => by cases ht) (.inr fun t _ => hcl t)
  ·simp only [own, ha, Option.map_some, Option.some.injEq] at hb; exact hb.symm
  ·simp only [foot, own, ha, Option.map_some, Option.some.injEq] at hb; exact hb.symm
 ·cases hr
/-- The map is there again, in its arena. -/
theorem rev_ar (hh : HOk S F W0 ρ h w) {h2 : List Root} {t m0 q cl id : Nat} {i : Info} {κ : KK} {agg : Bool} {τ : TC} {ts : List (κ.ty × τ.ty)} {ents : Array MapEntry} (hr : xRY h (.ar t (m0 + 1)) κ agg τ ts = some h2) (hi : ρ[id]? = some i) (hv : (i.objs t)[m0]? = some (.map (some q))) (hq : w.heap[q]? = some (.map ents cl)) (hm : MapOk ρ κ agg τ ts ents cl) (hoff : Off ρ h q) (hmine : W0.heap.size <= q \/ q ∈ S) : HOk S F W0 ρ h2 w := by
 have htg := xD5 hr;simp only [xRY, htg, cond_true] at hr;split at hr
 rotate_right
 ·cases hr
 rename_i p t2 κ' agg' τ' os hf;split at hr
 rotate_right
 ·cases hr
 rename_i e0;have e0' := xCn e0;subst e0';split at hr
 rotate_right
 ·cases hr
 rename_i e;have e' := xAC e;subst e'
 cases hb : (agg == agg') with
 | false => rw [hb] at hr; cases hr
 | true =>
  rw [hb] at hr;have e2 : agg = agg' := by simpa using hb
  subst e2;simp only [cond_true, Option.some.injEq, xNg] at hr;subst hr;obtain ⟨p', hp, hrr, ht⟩ := xAD hf;rw [Nat.zero_add] at hp; subst hp;cases ht;obtain ⟨ip, hip⟩ := hh.info hrr;have h7 := hh.cov p t _ ip hrr hip rfl id i m0 _ hi hv;have hA : ArOk ρ w (ip.objs t) (Root.arm t κ agg τ os).obs := hh.ok p _ ip hrr hip;have hob : (Root.arm t κ agg τ (os.set m0 (some ts))).obs = (Root.arm t κ agg τ os).obs.set m0 (.mp κ agg τ ts) := by
   simp only [Root.obs, List.map_set]
  have hobo : ∀ b, xC0 (.map (some q)) (.mp κ agg τ ts) b -> b = q := fun b hb => by
   have : xHK (.map (some q)) = some b := hb;simp only [xHK, Option.some.injEq] at this;exact this.symm
  have hAr : ArOk ρ w (ip.objs t) (Root.arm t κ agg τ (os.set m0 (some ts))).obs := by
   rw [hob];refine hA.put h7 ⟨q, ents, cl, rfl, hq, hm⟩ (fun b hb hx => ?_);have := hobo b hb;subst this;exact hoff p _ ip hrr hip hx
  have hown : ∀ b, own ip (.arm t κ agg τ (os.set m0 (some ts))) b -> own ip (.arm t κ agg τ os) b \/ b = q := fun b hb => by
   have hb' : xCo (ip.objs t) (Root.arm t κ agg τ (os.set m0 (some ts))).obs b := hb;rw [hob] at hb';obtain ⟨mm, v', o', g1, g2, g3⟩ := hb';rw [List.getElem?_set] at g2;split at g2
   ·rename_i e; subst e;split at g2
    ·cases g2;rw [h7] at g1; cases g1;exact .inr (hobo b g3)
    ·cases g2
   ·exact .inl ⟨mm, v', o', g1, g2, g3⟩
  exact hh.raise hrr hip (b0 := q) hAr hown hown hoff hmine (fun t' ht' => by
   cases ht';exact hh.cov p t _ ip hrr hip rfl) (.inr fun t' ht' => (hh.cln p _ ip hrr hip).resolve_left (fun e => by cases e) t' ht')
end
section
variable {P : Program} {N m : Nat} {D : List Deferred} {ops : Array Oper} {Q : Exit -> Act -> World -> Prop} {β : Type} {call : xAT β}
theorem xEm {o : Oper} {rest : List Oper} {a : Act} {w w' : World} {v : Value} (hg : o.guard = none) (hrun : (execOp a.eval o).run P w = .ok (.value v) w') (h : wpList P ops Q rest (a.put o.dst v) w') : wpList P ops Q (o :: rest) a w := by
 unfold wpList;rw [if_pos (by simp [Region.wanted, hg])];refine .inl ?_;unfold Oper.wp;rw [hrun, Oper.upon_value];exact h
theorem xN1 {t : Nat} : ∀ {h : List Root} {p q : Nat} {r : Root}, xA3 t h p = some (q, r) -> ∃ j : Nat, h[j]? = some r /\ r.tag = some t := fun e => by
 obtain ⟨j, _, h1, h2⟩ := xAD e;exact ⟨j, h1, h2⟩
theorem xON {l : List RK} {z : xF3 l} {ids : Nat -> Nat} {ts : List Nat} (h : xNp (xAm ids l z) ts = true) : xAP ts l = true := by
 unfold xNp at h;unfold xAP;rw [List.all_eq_true] at h ⊢;intro t ht;have := h t ht;rw [Option.isSome_iff_exists] at this;obtain ⟨⟨q, r⟩, hq⟩ := this;obtain ⟨j, h1, h2⟩ := xN1 hq;obtain ⟨k, h3, x, rfl⟩ := xCu h1;rw [RK.enc_tag] at h2;exact List.any_eq_true.2 ⟨k, List.mem_of_getElem? h3, by rw [h2]; simp⟩
/-- A loop over a map is carried out. -/
theorem rng_use {c : Code} {R : RngC} (hp : xBP c = some R) (hN : Nat.ble (R.ti + 1) N = true) {Sc : Sch} {o : xBy} {κ : KK} {agg : Bool} {τ : TC} {B : Sc.ty -> κ.ty × τ.ty -> Option (Sc.ty ⊕ xAL o)} {E : Sc.ty -> Option (xAL o)} (hcall : xAW P call) (hsem : xHg P m N R Sc o κ agg τ B E) {K : Slo} {h : List Root} {k : xFd β} {r : β}
  (hr : xE5 P N R.ops0 call R.pre K h (fun K h => match xNC P m Sc.roots K h R κ agg τ with
    | some (g, pl, rp, ts) => gds g (match Sc.dec m (xDj K R.ti (.c (.hv h.length))) (xGp h pl ++ [.dead]) with
     | some s => xEl (fun π => ob (xND B E s π) (fun y => xUM (fun e K' h' => match xRY h' rp κ agg τ ts with
      | some h2 => k e K' h2
      | none => none) o y)) ts
     | none => none)
    | none => none) = some r) {S F : List Nat} {W0 : World} {ρ : List Info} {a : Act} {w : World} (hK : KOk N D ρ K a) (hh : HOk S F W0 ρ h w)
  (hn : ∀ (e : XT) (ρ' : List Info) (K' : Slo) (h' : List Root) (a' : Act) (w' : World), PreM m ρ ρ' -> k e K' h' = some r -> KOk N D ρ' K' a' -> HOk S F W0 ρ' h' w' -> Q e.out a' w') : c.wp P Q a w := by
 have hi := xH5 hp;rw [hi.code];refine wp_seq (wp_region_list ?_);rw [hi.l0];refine xDK hcall [R.o0] R.pre ρ K h a w _ hr hK hh (fun a1 w1 hb => ?_);obtain ⟨ρ1, K1, h1, hp1, hK1, hh1, hr1⟩ := hb;clear hr hK hh;dsimp only at hr1;split at hr1
 rotate_right
 ·cases hr1
 rename_i g pl rp ts hop;obtain ⟨hg, hr1⟩ := xBH hr1;split at hr1
 rotate_right
 ·cases hr1
 rename_i s hs;have hall := xOs hr1
 -- what is ranged over
 unfold xNC at hop;split at hop
 rotate_right
 ·cases hop
 rename_i kt et x hT hx;split at hop
 rotate_right
 ·cases hop
 rename_i M hM;split at hop
 rotate_right
 ·cases hop
 rename_i rp' hrp;split at hop
 rotate_right
 ·cases hop
 rename_i e0;split at hop
 rotate_right
 ·cases hop
 rename_i e1;have e0' := xCn e0;have e1' := xAC e1;generalize hcnd : ((M.agg == agg) && !xAE τ && _) = b at hop
 cases b with
 | false => cases hop
 | true =>
 simp only [Bool.and_eq_true, beq_iff_eq, Bool.not_eq_true'] at hcnd;obtain ⟨⟨hagg, hcv⟩, hpl⟩ := hcnd;obtain ⟨Mg, Mpl, Mκ, Magg, Mτ, Mts⟩ := M;dsimp only at e0' e1' hagg;subst e0'; subst e1'; subst hagg;simp only [cond_true, Option.some.injEq, Prod.mk.injEq, xNg] at hop;obtain ⟨rfl, rfl, rfl, rfl⟩ := hop;have hden := xAb hK1 hx;have hdst := hi.d0
 -- one step further: the iterator is there
 have next : ∀ (mq : Option Nat) (it : Obj), a1.eval R.x = .map mq -> (Instr.range R.T (.map mq)).run P w1 = .ok (.pointer (some ⟨w1.heap.size, 0, none⟩)) (w1.alloc it) ->
   (∀ (ι : List Info) (a2 : Act) (w2 : World), a2.tmps[R.ti]? = some (.pointer (some ⟨w1.heap.size, 0, none⟩)) -> w2 = w1.alloc it -> PreM m ρ1 ι -> KOk N D ι (xAX same Sc.slots (Sc.a s)) a2 -> HOk S F W0 ι (xAm same Sc.roots (Sc.b s)) w2 -> (∀ ts, xAP ts Sc.roots = true -> Covs ρ1 ι ts) ->
    (∀ q, mq = some q -> Off ι (xAm same Sc.roots (Sc.b s)) q /\ (W0.heap.size <= q \/ q ∈ S)) -> Off ι (xAm same Sc.roots (Sc.b s)) w1.heap.size -> (Code.loop R.round).wp P (Exit.inBlock R.b0 Q) a2 w2) ->
   wpList P R.ops0 (Exit.then ((Code.block R.b0 (Code.loop R.round)).wp P Q) Q) [R.o0] a1 w1 := by
  intro mq it hv hrun hcont;have hrun' : (execOp a1.eval R.o0).run P w1 = .ok (.value (.pointer (some ⟨w1.heap.size, 0, none⟩))) (w1.alloc it) := by
   unfold execOp;simp only [hi.p0, hv, Sem.run_bind, hrun, Result.andThen_ok, Sem.run_pure]
  refine xEm hdst.1 hrun' (wpList_nil ?_);rw [hdst.2];refine wp_block ?_;have hE : Ext w1 (w1.alloc it) := Ex.allocs _ _;obtain ⟨hkill, hlen, hkq⟩ := kill_ok hh1 hden hM hg;have hh2 := (hkill.ext' hE).addDead (i := ⟨none, 0, none, .pointer (some ⟨w1.heap.size, 0, none⟩)⟩) (fun _ => rfl);have hpre : Pre ρ1 (ρ1 ++ [⟨none, 0, none, .pointer (some ⟨w1.heap.size, 0, none⟩)⟩]) := Pre.app _ _;have hK2 : KOk N D (ρ1 ++ [⟨none, 0, none, .pointer (some ⟨w1.heap.size, 0, none⟩)⟩]) (xDj K1 R.ti (.c (.hv h1.length))) (a1.put (some R.ti) (.pointer (some ⟨w1.heap.size, 0, none⟩))) := by
   refine xFv (d := some R.ti) (v := .c (.hv h1.length)) (hK1.mono hpre) ⟨⟨none, 0, none, .pointer (some ⟨w1.heap.size, 0, none⟩)⟩, ?_, rfl, rfl⟩ (by simp only [xHr, hN, cond_true]);rw [<- hh1.len, List.getElem?_append_right (Nat.le_refl _), Nat.sub_self]; rfl
  have hti : (a1.put (some R.ti) (.pointer (some ⟨w1.heap.size, 0, none⟩))).tmps[R.ti]? = some (.pointer (some ⟨w1.heap.size, 0, none⟩)) := by
   obtain ⟨v, g1, g2⟩ := hK2.2.2 R.ti (.c (.hv h1.length)) (by rw [xBn, if_pos rfl]);obtain ⟨i, g3, g4, _⟩ := g1;rw [<- hh1.len, List.getElem?_append_right (Nat.le_refl _), Nat.sub_self] at g3;cases g3;rw [g2, g4]
  have hoff1 : Off (ρ1 ++ [⟨none, 0, none, .pointer (some ⟨w1.heap.size, 0, none⟩)⟩]) (xGp h1 Mpl ++ [.dead]) w1.heap.size := by
   refine xO8 (fun p r i hp hi hf => ?_) (by rw [hlen]; exact hh1.len) _;have := (hkill.ok p r i hp hi).lt hf;omega
  have hlt1 : w1.heap.size < (w1.alloc it).heap.size := lt_of_block (heap_alloc_new w1 it);obtain ⟨ι, q1, q2, q3, q4, q5⟩ := Sch.dec_cov hs hK2 hh2;refine hcont ι _ _ hti rfl (hpre.m.trans q1) q2 q3 (fun ts ht => fun t hm id i mm v hid hv => q4 ts ht t hm id i mm v (hpre id i hid) hv) (fun q hq => ?_) (off_of hh2 hlt1 hoff1 q5);obtain ⟨g1, g2⟩ := hkq q (by rw [hv, hq]);refine ⟨off_of hh2 ?_ (xO8 g1 (by rw [hlen]; exact hh1.len) _) q5, g2⟩;rcases xKY hh1 hden hM hg with ⟨q', ents, cl, r', i', k1, k2, _⟩ | ⟨k1, _⟩
  ·have : q = q' := by rw [hv, hq] at k1; cases k1; rfl
   subst this;have := lt_of_block k2;omega
  ·rw [hv, hq] at k1; cases k1
 rcases xKY hh1 hden hM hg with ⟨q, ents, cl, r', i', k1, k2, k3, k4, k5, k6⟩ | ⟨k1, k2, p0, k3⟩
 ·-- a map
  refine next (some q) (.mapIter (some q) cl #[] cl) k1 (run_range_map w1 R.T kt et q ents cl hT k2) (fun ι a2 w2 hti hw2 hpm hK2 hh2 hcovs hoffq hoffi => ?_)
  subst hw2;obtain ⟨us, u1, u2, u3, u4, u5⟩ := k3;dsimp only at u1 u2 u3 u4 u5;have hqlt := lt_of_block k2;have hq2 : (w1.alloc (.mapIter (some q) cl #[] cl)).heap[q]? = some (.map ents cl) := by rw [heap_alloc_old w1 _ hqlt, k2]
  have hborn : ∀ x ∈ ents.toList, x.born < cl := by
   have : ∀ {us : List (Mκ.ty × Nat × Mτ.ty)} {l : List MapEntry}, EntOk ρ1 Mκ Magg Mτ us l -> (∀ e ∈ us, e.2.1 < cl) -> ∀ x ∈ l, x.born < cl := by
    intro us
    induction us with
    | nil => intro l h _ x hx; rw [show l = [] from h] at hx; cases hx
    | cons u us ih =>
     rintro l ⟨e, r, g1, g2, ⟨g3, _⟩, g4⟩ hlt x hx
     subst g1;rcases List.mem_cons.1 hx with rfl | hx
     ·rw [g3]; exact hlt u (by simp)
     ·exact ih g4 (fun e he => hlt e (by simp [he])) x hx
   exact this u1 u5
  have hent := xFT (ι := ι) hcv (hcovs _ hsem.1) u1;have hat : RngAt ι Mκ Magg Mτ (w1.alloc (.mapIter (some q) cl #[] cl)) w1.heap.size q cl ents us Mts :=
   ⟨cl, #[], cl, heap_alloc_new w1 _, hq2, hborn, Nat.le_refl _, Nat.le_refl _, hent, u4, by rw [List.filter_eq_self.2 (by simp)]; exact u2⟩
  have hsize : W0.heap.size <= w1.heap.size := hh1.ext.size;have hrounds := hsem.2.2 Mts s (fun y => xUM (fun e K' h' => match xRY h' rp' Mκ Magg Mτ Mts with
      | some h2 => k e K' h2
      | none => none) o y = some r) (fun π' hπ => by
    obtain ⟨y, y1, y2⟩ := xDN (hall π' hπ);exact ⟨y, y1, y2⟩) D S F W0 ι a2 _ w1.heap.size q cl ents us hK2 hti hh2 hat hsize hoffi (hoffq q rfl).1 (by omega) hcv (Exit.inBlock R.b0 Q) (fun y ι' a' w' hy hpm' hne hcovs' hK' hh' hq' hoff' => ?_)
  ·exact wp_loop_rounds _ hrounds
  ·rw [xEb] at hy;split at hy
   rotate_right
   ·cases hy
   rename_i h3 hrev;have htags : xAP Mτ.tags (xGS o y).roots = true := by
    have := xD5 hrev;obtain ⟨z, hz⟩ := xEV o y;rw [hz] at this;exact xON this
   have hmo : MapOk ι' Mκ Magg Mτ Mts ents cl := xEc hcv (hcovs' _ hsem.1 htags) ⟨us, hent, u2, u3, u4, u5⟩;have fin : HOk S F W0 ι' h3 w' -> Exit.inBlock R.b0 Q (xM6 R.b0 (xAS o y).1).out a' w' := by
    intro hh3;have := hn _ ι' _ h3 a' w' (hp1.m.trans (hpm.trans hpm')) hy hK' hh3
    cases hxt : (xAS o y).1 with
    | normal =>
     rw [hxt] at this;show (if R.b0 = R.b0 then Q .normal a' w' else Q (.exit R.b0) a' w');rw [if_pos rfl]; exact this
    | exit id =>
     rw [hxt] at this;show (if id = R.b0 then Q .normal a' w' else Q (.exit id) a' w');rw [if_neg (fun e => hne (by rw [hxt, e]))]; exact this
    | ret => rw [hxt] at this; exact this
   refine fin ?_
   cases Mpl with
   | root id =>
    simp only [xVq, Option.some.injEq] at hrp;subst hrp;have hidm : id < m := by have := Nat.le_of_ble_eq_true hpl; omega
    unfold xKZ at hM;split at hM
    ·rename_i id2;split at hM
     ·rename_i hr2;simp only [Option.some.injEq, MpV.mk.injEq, MPl.root.injEq] at hM;obtain ⟨_, rfl, _⟩ := hM;obtain ⟨i, g1, g2, _⟩ := hden;obtain ⟨q', ents', cl', g3, g4, g5, g6⟩ := hh1.ok id2 _ i hr2 g1;have : q' = q := by rw [g2, g3] at k1; cases k1; rfl
      subst this;have hcl : ∀ t, i.objs t = [] := fun t => (hh1.cln id2 _ i hr2 g1).elim (fun e => by cases e) (fun f => f t (by simp [Root.tag]));exact xVs hh' hrev ((hpm.trans hpm') id2 hidm i g1) g3 g4 hcl hq' hmo hoff' (hoffq q' rfl).2
     ·cases hM
    ·split at hM
     ·cases hM
     ·cases hM
    ·cases hM
   | ar p n =>
    simp only [xVq] at hrp;split at hrp
    rotate_right
    ·cases hrp
    rename_i rr hrr;split at hrp
    rotate_right
    ·cases hrp
    rename_i t htag;cases hrp;unfold xKZ at hM;split at hM
    ·split at hM
     ·simp at hM
     ·cases hM
    ·rename_i t2 n2;split at hM
     ·rename_i p2 t3 κ3 agg3 τ3 os hf;simp only [Option.some.injEq, MpV.mk.injEq, MPl.ar.injEq] at hM;obtain ⟨_, ⟨rfl, rfl⟩, _⟩ := hM;obtain ⟨p', hpp, hrr2, ht⟩ := xAD hf;rw [Nat.zero_add] at hpp; subst hpp;rw [hrr] at hrr2;cases hrr2;rw [htag] at ht;cases ht;rcases hden with ⟨_, g1⟩ | ⟨m0, id, i0, g1, g2, g3, q', g4⟩
      ·rw [k1] at g1; cases g1
      ·have : q' = q := by rw [k1] at g4; cases g4; rfl
       subst this;subst g1;obtain ⟨id2, i2, c1, c2⟩ := hcovs [t] hpl t (by simp) id i0 m0 _ g2 g3;have htR : xAP [t] (xGS o y).roots = true := by
        obtain ⟨z, hz⟩ := xEV o y;have h9 := hrev;simp only [xRY, xD5 hrev, cond_true] at h9;split at h9
        ·rename_i hfa;refine xON (z := z) (ids := same) ?_;rw [hz] at hfa;simp only [xNp, List.all_cons, List.all_nil, Bool.and_true];rw [hfa]; rfl
        ·cases h9
       obtain ⟨id3, i3, c3, c4⟩ := hcovs' [t] hpl htR t (by simp) id2 i2 m0 _ c1 c2;rw [k1] at c4;exact rev_ar hh' hrev c3 c4 hq' hmo hoff' (hoffq q' rfl).2
     ·cases hM
    ·cases hM
 ·-- nil
  dsimp only at k2 k3;subst k2; subst k3;refine next none (.mapIter none 0 #[] 0) k1 (run_range_nilMap w1 R.T kt et hT) (fun ι a2 w2 hti hw2 hpm hK2 hh2 hcovs _ hoffi => ?_)
  subst hw2;obtain ⟨y, y1, y2⟩ := xDN (hall [] (List.Perm.refl _));refine wp_loop_rounds 1 (hsem.2.1 s y y1 D S F W0 ι a2 _ w1.heap.size hK2 hti hh2 ⟨0, #[], 0, heap_alloc_new w1 _⟩ (Exit.inBlock R.b0 Q) (fun ι' a' w' hpm' hne hK' hh' => ?_));rw [xEb] at y2;split at y2
  rotate_right
  ·cases y2
  rename_i h3 hrev;have hh3 : h3 = (xAS o y).2.2 := by
   simp only [xVq] at hrp;split at hrp
   rotate_right
   ·cases hrp
   split at hrp
   rotate_right
   ·cases hrp
   cases hrp;simp only [xRY, xD5 hrev, cond_true] at hrev;split at hrev
   rotate_right
   ·cases hrev
   rename_i hf;split at hrev
   rotate_right
   ·cases hrev
   split at hrev
   rotate_right
   ·cases hrev
   rename_i f0 f1;have f0' := xCn f0;subst f0';have f1' := xAC f1;subst f1';generalize hb : (Magg == _) = b at hrev
   cases b with
   | false => cases hrev
   | true =>
    simp only [cond_true, Option.some.injEq] at hrev;have := beq_iff_eq.1 hb;subst this;obtain ⟨p', hpp, hrr2, _⟩ := xAD hf;rw [Nat.zero_add] at hpp; subst hpp;rw [<- hrev];apply List.ext_getElem?;intro j;rw [List.getElem?_set];split
    ·rename_i e; subst e;rw [if_pos (List.getElem?_eq_some_iff.1 hrr2).1, hrr2]; rfl
    ·rfl
  subst hh3;have := hn _ ι' _ _ a' w' (hp1.m.trans (hpm.trans hpm')) y2 hK' hh'
  cases hxt : (xAS o y).1 with
  | normal =>
   rw [hxt] at this;show (if R.b0 = R.b0 then Q .normal a' w' else Q (.exit R.b0) a' w');rw [if_pos rfl]; exact this
  | exit id =>
   rw [hxt] at this;show (if id = R.b0 then Q .normal a' w' else Q (.exit id) a' w');rw [if_neg (fun e => hne (by rw [hxt, e]))]; exact this
  | ret => rw [hxt] at this; exact this
end
end
end Go.Proofs.YthmicafabimfkaaGreatDoor


namespace Go.Proofs.YthmicafabimfkaaGreatDoor
noncomputable section
open Go.RowKit
/-! Marks beside a code -/
inductive An where
 | no
 | two (a b : An)
 | one (a : An)
 | rnd (a b : An)
 | join (o : xBy) (a : An)
 | loop (S : Sch) (o : xBy) (M : S.ty -> Option (xAL o))
 | rng (S : Sch) (o : xBy) (κ : KK) (agg : Bool) (τ : TC) (B : S.ty -> κ.ty × τ.ty -> Option (S.ty ⊕ xAL o)) (E : S.ty -> Option (xAL o))
def An.l : An -> An
 | .two a _ => a
 | .one a => a
 | _ => .no
def An.r : An -> An
 | .two _ b => b
 | _ => .no
/-- The note of a round of a loop. -/
def An.rd : An -> Nat -> An
 | .rnd a b, i => match i with
  | 0 => a
  | i + 1 => b.rd i
 | an, _ => an.l
def xDJ {β : Type} (body : Nat -> Slo -> List Root -> xFd β -> Option β) : Nat -> Slo -> List Root -> xFd β -> Option β
 | 0, _, _, _ => none
 | n + 1, K, h, k => body n K h (fun e K' h' => match e with
  | .normal => xDJ body n K' h' k
  | e => k e K' h')
def evA (P : Program) (Fu : Nat) (pl : Nat -> Option PT) (call : (β : Type) -> xAT β) (m N : Nat) : Nat -> An -> Code -> (β : Type) -> Slo -> List Root -> xFd β -> Option β
 | 0, _, _, _, _, _, _ => none
 | d + 1, an, c, β, K, h, k => match an with
  | .join o a => ob (evA P Fu pl call m N d a c (xAL o) K h (xBv m o)) (fun x => xUM k o x)
  | .loop S o M => match c with
   | .loop _ => match S.dec m K h with
    | some s => ob (M s) (fun x => xUM k o x)
    | none => none
   | _ => none
  | .rng S o κ agg τ B E => match xBP c with
   | some R => bif Nat.ble (R.ti + 1) N then xE5 P N R.ops0 (call β) R.pre K h (fun K h => match xNC P m S.roots K h R κ agg τ with
    | some (g, pl, rp, ts) => gds g (match S.dec m (xDj K R.ti (.c (.hv h.length))) (xGp h pl ++ [.dead]) with
     | some s => xEl (fun π => ob (xND B E s π) (fun y => xUM (fun e K' h' => match xRY h' rp κ agg τ ts with
      | some h2 => k e K' h2
      | none => none) o y)) ts
     | none => none)
    | none => none) else none
   | none => none
  | an => match c with
   | .skip => k .normal K h
   | .exit id => k (.exit id) K h
   | .ret => k .ret K h
   | .region _ ops false => xE5 P N ops (call β) ops.toList K h (k .normal)
   | .region id ops true => match pl id with
    | some t => xIV P N ops (call β) t K h (k .normal)
    | none => none
   | .seq x y => evA P Fu pl call m N d an.l x β K h (fun e K' h' => match e with
    | .normal => evA P Fu pl call m N d an.r y β K' h' k
    | e => k e K' h')
   | .cond c x y => match xAt K c with
    | some (.c (.sc (.bool b))) => bif b then evA P Fu pl call m N d an.l x β K h k else evA P Fu pl call m N d an.r y β K h k
    | _ => none
   | .block id x => evA P Fu pl call m N d an.l x β K h (fun e K' h' => match e with
    | .exit id' => bif Nat.beq id' id then k .normal K' h' else k (.exit id') K' h'
    | e => k e K' h')
   | .loop x => xDJ (fun n K h k => evA P Fu pl call m N d (an.rd (Fu - 1 - n)) x β K h k) Fu K h k
   | _ => none
def xAR (P : Program) (m N : Nat) (x : Code) (S : Sch) (o : xBy) (M : S.ty -> Option (xAL o)) : Prop :=
 ∀ (s : S.ty) (y : xAL o), M s = some y -> ∀ (D : List Deferred) (S' F : List Nat) (W0 : World) (ι : List Info) (a : Act) (w : World), KOk N D ι (xAX same S.slots (S.a s)) a -> HOk S' F W0 ι (xAm same S.roots (S.b s)) w -> ∀ Q : Exit -> Act -> World -> Prop,
  (∀ (ι' : List Info) (a' : Act) (w' : World), PreM m ι ι' -> KOk N D ι' (xAS o y).2.1 a' -> HOk S' F W0 ι' (xAS o y).2.2 w' -> Q (xAS o y).1.out a' w') -> ∃ n, Code.rounds P x Q n a w
def AnOk (P : Program) (m N : Nat) : An -> Code -> Prop
 | .no, _ => True
 | .two a b, c => match c with
  | .seq x y => AnOk P m N a x /\ AnOk P m N b y
  | .cond _ x y => AnOk P m N a x /\ AnOk P m N b y
  | .block _ x => AnOk P m N a x
  | .loop x => AnOk P m N a x
  | _ => True
 | .one a, c => match c with
  | .seq x _ => AnOk P m N a x
  | .cond _ x _ => AnOk P m N a x
  | .block _ x => AnOk P m N a x
  | .loop x => AnOk P m N a x
  | _ => True
 | .rnd a b, c => match c with
  | .loop x => AnOk P m N a x /\ AnOk P m N b (.loop x)
  | _ => True
 | .join _ a, c => AnOk P m N a c
 | .loop S o M, c => match c with
  | .loop x => xAR P m N x S o M
  | _ => True
 | .rng S o κ agg τ B E, c => match xBP c with
  | some R => xHg P m N R S o κ agg τ B E
  | none => True
section
variable {P : Program} {m N : Nat} {D : List Deferred}
theorem AnOk.seq {an : An} {x y : Code} (h : AnOk P m N an (.seq x y)) : AnOk P m N an.l x /\ AnOk P m N an.r y := by
 cases an with
 | no => exact ⟨trivial, trivial⟩
 | two a b => exact h
 | one a => exact ⟨h, trivial⟩
 | rnd a b => exact ⟨trivial, trivial⟩
 | join o a => exact ⟨trivial, trivial⟩
 | loop S o M => exact ⟨trivial, trivial⟩
 | rng _ _ _ _ _ _ _ => exact ⟨trivial, trivial⟩
theorem AnOk.cond {an : An} {c : Operand} {x y : Code} (h : AnOk P m N an (.cond c x y)) : AnOk P m N an.l x /\ AnOk P m N an.r y := by
 cases an with
 | no => exact ⟨trivial, trivial⟩
 | two a b => exact h
 | one a => exact ⟨h, trivial⟩
 | rnd a b => exact ⟨trivial, trivial⟩
 | join o a => exact ⟨trivial, trivial⟩
 | loop S o M => exact ⟨trivial, trivial⟩
 | rng _ _ _ _ _ _ _ => exact ⟨trivial, trivial⟩
theorem AnOk.block {an : An} {id : Nat} {x : Code} (h : AnOk P m N an (.block id x)) : AnOk P m N an.l x := by
 cases an with
 | no => trivial
 | two a b => exact h
 | one a => exact h
 | rnd a b => trivial
 | join o a => trivial
 | loop S o M => trivial
 | rng _ _ _ _ _ _ _ => trivial
theorem AnOk.loop {x : Code} : ∀ {an : An}, AnOk P m N an (.loop x) -> (∀ S o M, an ≠ .loop S o M) -> ∀ i, AnOk P m N (an.rd i) x
 | .no, _, _, _ => trivial
 | .two a b, h, _, _ => h
 | .one a, h, _, _ => h
 | .rnd a b, h, hn, i => by
  cases i with
  | zero => exact h.1
  | succ i =>
   cases b with
   | loop S o M => exact trivial
   | rng _ _ _ _ _ _ _ => exact trivial
   | no => exact AnOk.loop h.2 (fun _ _ _ e => by cases e) i
   | two a b => exact AnOk.loop h.2 (fun _ _ _ e => by cases e) i
   | one a => exact AnOk.loop h.2 (fun _ _ _ e => by cases e) i
   | rnd a b => exact AnOk.loop h.2 (fun _ _ _ e => by cases e) i
   | join o a => exact trivial
 | .join o a, _, _, _ => trivial
 | .loop S o M, _, hn, _ => absurd rfl (hn S o M)
 | .rng _ _ _ _ _ _ _, _, _, _ => trivial
def EvOkM (P : Program) (m N : Nat) (D : List Deferred) (β : Type) (run : Slo -> List Root -> xFd β -> Option β) (c : Code) : Prop :=
 ∀ (K : Slo) (h : List Root) (k : xFd β) (r : β), run K h k = some r -> ∀ (S F : List Nat) (W0 : World) (ρ : List Info) (a : Act) (w : World), KOk N D ρ K a -> HOk S F W0 ρ h w -> ∀ Q : Exit -> Act -> World -> Prop,
  (∀ (e : XT) (ρ' : List Info) (K' : Slo) (h' : List Root) (a' : Act) (w' : World), PreM m ρ ρ' -> k e K' h' = some r -> KOk N D ρ' K' a' -> HOk S F W0 ρ' h' w' -> Q e.out a' w') -> c.wp P Q a w
theorem xJ1 {β : Type} {x : Code} {body : Nat -> Slo -> List Root -> xFd β -> Option β} (hb : ∀ n, EvOkM P m N D β (body n) x) : ∀ (n : Nat) (K : Slo) (h : List Root) (k : xFd β) (r : β), xDJ body n K h k = some r -> ∀ (S F : List Nat) (W0 : World) (ρ : List Info) (a : Act) (w : World), KOk N D ρ K a -> HOk S F W0 ρ h w -> ∀ Q : Exit -> Act -> World -> Prop,
  (∀ (e : XT) (ρ' : List Info) (K' : Slo) (h' : List Root) (a' : Act) (w' : World), PreM m ρ ρ' -> k e K' h' = some r -> KOk N D ρ' K' a' -> HOk S F W0 ρ' h' w' -> Q e.out a' w') -> Code.rounds P x Q n a w
 | 0, K, h, k, r, hr => by cases hr
 | n + 1, K, h, k, r, hr => fun S F W0 ρ a w hK hh Q hn => by
  refine hb n K h _ r hr S F W0 ρ a w hK hh _ (fun e ρ' K' h' a' w' hp he hK' hh' => ?_)
  cases e with
  | normal => exact xJ1 hb n K' h' k r he S F W0 ρ' a' w' hK' hh' Q (fun e ρ2 K2 h2 a2 w2 hp2 => hn e ρ2 K2 h2 a2 w2 (hp.trans hp2))
  | exit id => exact hn _ ρ' K' h' a' w' hp he hK' hh'
  | ret => exact hn _ ρ' K' h' a' w' hp he hK' hh'
theorem xEL {call : (β : Type) -> xAT β} (hcall : ∀ β, xAW P (call β)) (hm : P.follows .mixedOrders = true) (Fu : Nat) (pl : Nat -> Option PT) : ∀ (d : Nat) (an : An) (c : Code), AnOk P m N an c -> xAV pl c = true -> ∀ β : Type, EvOkM P m N D β (fun K h k => evA P Fu pl call m N d an c β K h k) c
 | 0, an, c, _, _, β => fun K h k r hr => by cases hr
 | d + 1, an, c, hA, hreg, β => fun K h k r hr S F W0 ρ a w hK hh Q hn => by
  have plain : (∀ S o M, an ≠ .loop S o M) -> (match (generalizing := false) c with
   | .skip => k .normal K h
   | .exit id => k (.exit id) K h
   | .ret => k .ret K h
   | .region _ ops false => xE5 P N ops (call β) ops.toList K h (k .normal)
   | .region id ops true => match pl id with
    | some t => xIV P N ops (call β) t K h (k .normal)
    | none => none
   | .seq x y => evA P Fu pl call m N d an.l x β K h (fun e K' h' => match e with
    | .normal => evA P Fu pl call m N d an.r y β K' h' k
    | e => k e K' h')
   | .cond c x y => match xAt K c with
    | some (.c (.sc (.bool b))) => bif b then evA P Fu pl call m N d an.l x β K h k else evA P Fu pl call m N d an.r y β K h k
    | _ => none
   | .block id x => evA P Fu pl call m N d an.l x β K h (fun e K' h' => match e with
    | .exit id' => bif Nat.beq id' id then k .normal K' h' else k (.exit id') K' h'
    | e => k e K' h')
   | .loop x => xDJ (fun n K h k => evA P Fu pl call m N d (an.rd (Fu - 1 - n)) x β K h k) Fu K h k
   | _ => none) = some r -> c.wp P Q a w := by
   intro hno hr
   cases c with
   | skip => exact wp_skip (hn .normal ρ K h a w (PreM.refl _ _) hr hK hh)
   | exit id => exact wp_exit (hn (.exit id) ρ K h a w (PreM.refl _ _) hr hK hh)
   | ret => exact wp_ret (hn .ret ρ K h a w (PreM.refl _ _) hr hK hh)
   | region id ops draw =>
    cases draw with
    | false =>
     refine wp_region_list ?_;have := xDK (P := P) (N := N) (ops := ops) (S := S) (F := F) (W0 := W0) (r := r) (hcall β) (Q := Q) [] ops.toList ρ K h a w (k .normal) hr hK hh (fun a' w' hb => by
      obtain ⟨ρ', K', h', h1, h2, h3, h4⟩ := hb;exact wpList_nil (hn .normal ρ' K' h' a' w' h1.m h4 h2 h3))
     simpa using this
    | true =>
     dsimp only at hr;simp only [xAV] at hreg;split at hr
     ·rename_i t ht;rw [ht] at hreg;exact xIU (hcall β) hm hreg hr hK hh (fun ρ' K' h' a' w' h1 h2 h3 h4 => hn .normal ρ' K' h' a' w' h1.m h2 h3 h4)
     ·cases hr
   | seq x y =>
    simp only [xAV, Bool.and_eq_true] at hreg;obtain ⟨hA1, hA2⟩ := hA.seq;refine wp_seq (xEL hcall hm Fu pl d an.l x hA1 hreg.1 β K h _ r hr S F W0 ρ a w hK hh _ (fun e ρ' K' h' a' w' hp he hK' hh' => ?_))
    cases e with
    | normal => exact xEL hcall hm Fu pl d an.r y hA2 hreg.2 β K' h' k r he S F W0 ρ' a' w' hK' hh' Q (fun e ρ2 K2 h2 a2 w2 hp2 => hn e ρ2 K2 h2 a2 w2 (hp.trans hp2))
    | exit id => exact hn _ ρ' K' h' a' w' hp he hK' hh'
    | ret => exact hn _ ρ' K' h' a' w' hp he hK' hh'
   | cond c x y =>
    simp only [xAV, Bool.and_eq_true] at hreg;obtain ⟨hA1, hA2⟩ := hA.cond;dsimp only at hr;split at hr
    ·rename_i b hc;have hb : a.eval c = .bool b := (xAb hK hc).1
     cases b with
     | true => exact wp_cond_true hb (xEL hcall hm Fu pl d an.l x hA1 hreg.1 β K h k r hr S F W0 ρ a w hK hh Q hn)
     | false => exact wp_cond_false hb (xEL hcall hm Fu pl d an.r y hA2 hreg.2 β K h k r hr S F W0 ρ a w hK hh Q hn)
    ·cases hr
   | block id x =>
    refine wp_block (xEL hcall hm Fu pl d an.l x hA.block hreg β K h _ r hr S F W0 ρ a w hK hh _ (fun e ρ' K' h' a' w' hp he hK' hh' => ?_))
    cases e with
    | normal => exact hn .normal ρ' K' h' a' w' hp he hK' hh'
    | exit id' =>
     show Exit.inBlock id Q (.exit id') a' w';dsimp only at he
     cases hb : Nat.beq id' id with
     | true =>
      rw [hb] at he;have := nbT hb;subst this;show (if id' = id' then Q .normal a' w' else Q (.exit id') a' w');rw [if_pos rfl];exact hn .normal ρ' K' h' a' w' hp he hK' hh'
     | false =>
      rw [hb] at he;have hne := Nat.ne_of_beq_eq_false hb;show (if id' = id then Q .normal a' w' else Q (.exit id') a' w');rw [if_neg hne];exact hn (.exit id') ρ' K' h' a' w' hp he hK' hh'
    | ret => exact hn .ret ρ' K' h' a' w' hp he hK' hh'
   | loop x =>
    exact wp_loop_rounds Fu (xJ1 (fun n => xEL hcall hm Fu pl d (an.rd (Fu - 1 - n)) x (hA.loop hno (Fu - 1 - n)) hreg β) Fu K h k r hr S F W0 ρ a w hK hh Q hn)
   | rangeFunc f p x y => cases hr
   | scope x => cases hr
   | label l => cases hr
   | goto l => cases hr
   | refuse s => cases hr
  dsimp only [evA] at hr
  cases an with
  | no =>
   dsimp only at hr;exact plain (fun _ _ _ e => by cases e) hr
  | two x y =>
   dsimp only at hr;exact plain (fun _ _ _ e => by cases e) hr
  | one x =>
   dsimp only at hr;exact plain (fun _ _ _ e => by cases e) hr
  | rnd x y =>
   dsimp only at hr;exact plain (fun _ _ _ e => by cases e) hr
  | join o x =>
   obtain ⟨y, hy, hk⟩ := xDN hr;rw [xEb] at hk;refine xEL hcall hm Fu pl d x c hA hreg (xAL o) K h (xBv m o) y hy S F W0 ρ a w hK hh Q (fun e ρ' K' h' a' w' hp he hK' hh' => ?_);obtain ⟨h1, ι, h2, h3, h4⟩ := xBD he hK' hh';rw [<- h1];exact hn _ ι _ _ a' w' (hp.trans h2) hk h3 h4
  | loop T o M =>
   cases c with
   | loop x =>
    dsimp only at hr;split at hr
    ·rename_i s hs;obtain ⟨y, hy, hk⟩ := xDN hr;rw [xEb] at hk;obtain ⟨ι, h2, h3, h4⟩ := Sch.dec_ok hs hK hh;obtain ⟨n, h5⟩ := hA s y hy D S F W0 ι a w h3 h4 Q (fun ι' a' w' hp hK' hh' => hn _ ι' _ _ a' w' (h2.trans hp) hk hK' hh');exact wp_loop_rounds n h5
    ·cases hr
   | _ => cases hr
  | rng T o κ agg τ B E =>
   dsimp only at hr;simp only [AnOk] at hA;split at hr
   ·rename_i R hR;rw [hR] at hA
    cases hN : Nat.ble (R.ti + 1) N with
    | false => rw [hN] at hr; cases hr
    | true =>
     rw [hN] at hr;exact rng_use hR hN (hcall β) hA hr hK hh hn
   ·cases hr
/-- A loop, by its round. -/
theorem xAY {call : (β : Type) -> xAT β} (hcall : ∀ β, xAW P (call β)) (hm : P.follows .mixedOrders = true) {Fu : Nat} {pl : Nat -> Option PT} {d : Nat} {an : An} {x : Code} (hA : AnOk P m N an x) (hreg : xAV pl x = true) {S : Sch} {o : xBy} {M : Nat -> S.ty -> Option (xAL o)} (h0 : ∀ s, M 0 s = none)
  (hs : ∀ (n : Nat) (s : S.ty), M (n + 1) s = evA P Fu pl call m N d an x (xAL o) (xAX same S.slots (S.a s)) (xAm same S.roots (S.b s)) (fun e K h => match e with
   | .normal => ob (S.dec m K h) (fun s' => M n s')
   | e => xBv m o e K h)) : ∀ n, xAR P m N x S o (M n) := by
 have main : ∀ (n : Nat) (s : S.ty) (y : xAL o), M n s = some y -> ∀ (D : List Deferred) (S' F : List Nat) (W0 : World) (ι : List Info) (a : Act) (w : World), KOk N D ι (xAX same S.slots (S.a s)) a -> HOk S' F W0 ι (xAm same S.roots (S.b s)) w -> ∀ Q : Exit -> Act -> World -> Prop,
  (∀ (ι' : List Info) (a' : Act) (w' : World), PreM m ι ι' -> KOk N D ι' (xAS o y).2.1 a' -> HOk S' F W0 ι' (xAS o y).2.2 w' -> Q (xAS o y).1.out a' w') -> Code.rounds P x Q n a w := by
  intro n
  induction n with
  | zero => intro s y hy; rw [h0] at hy; cases hy
  | succ n ih =>
   intro s y hy D S' F W0 ι a w hK hh Q hn;rw [hs] at hy;refine xEL hcall hm Fu pl d an x hA hreg (xAL o) _ _ _ y hy S' F W0 ι a w hK hh _ (fun e ρ' K' h' a' w' hp he hK' hh' => ?_)
   cases e with
   | normal =>
    obtain ⟨s', h1, h2⟩ := xDN he;obtain ⟨ι', h3, h4, h5⟩ := Sch.dec_ok h1 hK' hh';exact ih s' y h2 D S' F W0 ι' a' w' h4 h5 Q (fun ι2 a2 w2 hp2 => hn ι2 a2 w2 (hp.trans (h3.trans hp2)))
   | exit id =>
    obtain ⟨h1, ι', h2, h3, h4⟩ := xBD he hK' hh';have := hn ι' a' w' (hp.trans h2) h3 h4;rw [h1] at this;exact this
   | ret =>
    obtain ⟨h1, ι', h2, h3, h4⟩ := xBD he hK' hh';have := hn ι' a' w' (hp.trans h2) h3 h4;rw [h1] at this;exact this
 exact fun n s y hy D S' F W0 ι a w hK hh Q hn => ⟨n, main n s y hy D S' F W0 ι a w hK hh Q hn⟩
end
end
end Go.Proofs.YthmicafabimfkaaGreatDoor
