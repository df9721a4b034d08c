/- A part of the proof of the theorem of the last file. No condition. By an AI agent. -/
import Derived.Test.YtnomnijhlbalaaaGreatDoorWY2
namespace Go.Proofs.YtnomnijhlbalaaaGreatDoor
noncomputable section
open Go.RowKit
@[reducible] def ob {α β : Type} (x : Option α) (f : α -> Option β) : Option β := Option.rec none f x
theorem xEn {α β : Type} (x : α) (f : α -> Option β) : ob (some x) f = f x := rfl
theorem xDt {α β : Type} {x : Option α} {f : α -> Option β} {r : β} (h : ob x f = some r) : ∃ y, x = some y /\ f y = some r := by
 cases x with
 | none => cases h
 | some y => exact ⟨y, rfl, h⟩
@[reducible] def su {α β γ : Type} (x : α ⊕ β) (f : α -> γ) (g : β -> γ) : γ := Sum.rec f g x
def Sch.dec (s : Sch) (m : Nat) (K : Slo) (h : List Root) : Option s.ty :=
 bif Nat.ble m s.roots.length then match s.decR (rn0 m s.roots.length 0) K h with
  | some (x, _) => some x
  | none => none
 else none
def PreM (m : Nat) (O O' : List Info) : Prop := ∀ j, j < m -> ∀ i, O[j]? = some i -> O'[j]? = some i
theorem PreM.refl (m : Nat) (O : List Info) : PreM m O O := fun _ _ _ h => h
theorem PreM.trans {m : Nat} {a b c : List Info} (h : PreM m a b) (k : PreM m b c) : PreM m a c := fun j hj i e => k j hj i (h j hj i e)
theorem Pre.m {m : Nat} {a b : List Info} (h : Pre a b) : PreM m a b := fun j _ i e => h j i e
theorem xKF : ∀ (m len j q : Nat), q < m -> m <= len -> (rn0 m len j)[q]? = some (some (some (j + q)))
 | 0, _, _, _, h, _ => absurd h (Nat.not_lt_zero _)
 | m + 1, 0, _, _, _, h => by omega
 | m + 1, len + 1, j, 0, _, _ => by simp [rn0]
 | m + 1, len + 1, j, q + 1, h, hl => by
  simp only [rn0, List.getElem?_cons_succ];rw [xKF m len (j + 1) q (by omega) (by omega)];congr 3; omega
theorem Sch.dec_ok {s : Sch} {m : Nat} {K : Slo} {h : List Root} {x : s.ty} (hd : s.dec m K h = some x) : ∀ {N : Nat} {D : List Deferred} {S F : List Nat} {W0 : World} {O : List Info} {a : Act} {w : World}, KOk N D O K a -> HOk S F W0 O h w ->
  ∃ Z, PreM m O Z /\ KOk N D Z (xAM same s.slots (s.a x)) a /\ HOk S F W0 Z (xAe same s.roots (s.b x)) w := by
 intro N D S F W0 O a w hK hh;unfold Sch.dec at hd
 cases hb : Nat.ble m s.roots.length with
 | false => rw [hb] at hd; cases hd
 | true =>
  rw [hb] at hd;simp only [cond_true] at hd;split at hd
  ·rename_i y rn hy;cases hd;obtain ⟨h1, h2⟩ := Sch.decR_ok hy;obtain ⟨h3, h4⟩ := h2 hK hh;refine ⟨_, fun j hj i e => ?_, h3, h4⟩;have := h1.2 j _ (xKF m _ 0 j hj (Nat.le_of_ble_eq_true hb));rw [((Agr.mk rn O) j).1 _ this, Nat.zero_add, e];rfl
  ·cases hd
theorem Sch.dec_cov {s : Sch} {m : Nat} {K : Slo} {h : List Root} {x : s.ty} (hd : s.dec m K h = some x) : ∀ {N : Nat} {D : List Deferred} {S F : List Nat} {W0 : World} {O : List Info} {a : Act} {w : World}, KOk N D O K a -> HOk S F W0 O h w ->
  ∃ Z, PreM m O Z /\ KOk N D Z (xAM same s.slots (s.a x)) a /\ HOk S F W0 Z (xAe same s.roots (s.b x)) w /\ (∀ ts, xAI ts s.roots = true -> Covs O Z ts) /\ ∀ (S2 F2 : List Nat) (W2 : World), HOk S2 F2 W2 O h w -> HOk S2 F2 W2 Z (xAe same s.roots (s.b x)) w := by
 intro N D S F W0 O a w hK hh;unfold Sch.dec at hd
 cases hb : Nat.ble m s.roots.length with
 | false => rw [hb] at hd; cases hd
 | true =>
  rw [hb] at hd;simp only [cond_true] at hd;split at hd
  ·rename_i y rn hy;cases hd;obtain ⟨h1, h2⟩ := Sch.decR_ok hy;obtain ⟨h3, h4⟩ := h2 hK hh;refine ⟨_, fun j hj i e => ?_, h3, h4, fun ts ht => Sch.decR_cov hy hh ht, fun S2 F2 W2 h5 => (h2 hK h5).2⟩;have := h1.2 j _ (xKF m _ 0 j hj (Nat.le_of_ble_eq_true hb));rw [((Agr.mk rn O) j).1 _ this, Nat.zero_add, e];rfl
  ·cases hd
def xtEq : XT -> XT -> Bool
 | .normal, .normal => true
 | .ret, .ret => true
 | .exit a, .exit b => Nat.beq a b
 | _, _ => false
theorem xKm {a b : XT} (h : xtEq a b = true) : a = b := by
 cases a <;> cases b <;> first | rfl | cases h | skip
 rw [nbT h]
abbrev xBY := List (XT × Sch)
@[reducible] def xAB : xBY -> Type
 | [] => Empty
 | [p] => p.2.ty
 | p :: q :: l => p.2.ty ⊕ xAB (q :: l)
def xBk (m : Nat) : (o : xBY) -> XT -> Slo -> List Root -> Option (xAB o)
 | [], _, _, _ => none
 | [p], e, K, h => bif xtEq p.1 e then p.2.dec m K h else none
 | p :: q :: l, e, K, h => bif xtEq p.1 e then (match p.2.dec m K h with
   | some x => some (.inl x)
   | none => none) else (match xBk m (q :: l) e K h with
   | some x => some (.inr x)
   | none => none)
def xAN : (o : xBY) -> xAB o -> XT × Slo × List Root
 | [p], x => (p.1, xAM same p.2.slots (p.2.a x), xAe same p.2.roots (p.2.b x))
 | p :: q :: l, x => match x with
  | .inl y => (p.1, xAM same p.2.slots (p.2.a y), xAe same p.2.roots (p.2.b y))
  | .inr z => xAN (q :: l) z
def xV2 {β : Type} (k : xFq β) : (o : xBY) -> xAB o -> Option β
 | [], _ => none
 | [p], x => k p.1 (xAM same p.2.slots (p.2.a x)) (xAe same p.2.roots (p.2.b x))
 | p :: q :: l, x => su x (fun y => k p.1 (xAM same p.2.slots (p.2.a y)) (xAe same p.2.roots (p.2.b y))) (fun z => xV2 k (q :: l) z)
theorem xEm {β : Type} (k : xFq β) : ∀ (o : xBY) (x : xAB o), xV2 k o x = k (xAN o x).1 (xAN o x).2.1 (xAN o x).2.2
 | [], x => nomatch x
 | [p], x => rfl
 | p :: q :: l, .inl y => rfl
 | p :: q :: l, .inr z => xEm k (q :: l) z
theorem xBz {m : Nat} : ∀ {o : xBY} {e : XT} {K : Slo} {h : List Root} {x : xAB o}, xBk m o e K h = some x -> ∀ {N : Nat} {D : List Deferred} {S F : List Nat} {W0 : World} {O : List Info} {a : Act} {w : World}, KOk N D O K a -> HOk S F W0 O h w ->
  (xAN o x).1 = e /\ ∃ Z, PreM m O Z /\ KOk N D Z (xAN o x).2.1 a /\ HOk S F W0 Z (xAN o x).2.2 w
 | [], _, _, _, x, _ => nomatch x
 | [p], e, K, h, x, hd => fun hK hh => by
  simp only [xBk] at hd
  cases hb : xtEq p.1 e with
  | false => rw [hb] at hd; cases hd
  | true => rw [hb] at hd; exact ⟨xKm hb, Sch.dec_ok hd hK hh⟩
 | p :: q :: l, e, K, h, x, hd => fun hK hh => by
  simp only [xBk] at hd
  cases hb : xtEq p.1 e with
  | true =>
   rw [hb] at hd;simp only [cond_true] at hd;split at hd
   ·rename_i y hy;cases hd;exact ⟨xKm hb, Sch.dec_ok hy hK hh⟩
   ·cases hd
  | false =>
   rw [hb] at hd;simp only [cond_false] at hd;split at hd
   ·rename_i y hy;cases hd;exact xBz hy hK hh
   ·cases hd
def xGV : (o : xBY) -> xAB o -> Sch
 | [p], _ => p.2
 | p :: q :: l, x => match x with
  | .inl _ => p.2
  | .inr z => xGV (q :: l) z
theorem xFe : ∀ (o : xBY) (x : xAB o), ∃ z, (xAN o x).2.2 = xAe same (xGV o x).roots z
 | [p], x => ⟨_, rfl⟩
 | p :: q :: l, .inl _ => ⟨_, rfl⟩
 | p :: q :: l, .inr z => xFe (q :: l) z
theorem xGE {m : Nat} : ∀ {o : xBY} {e : XT} {K : Slo} {h : List Root} {x : xAB o}, xBk m o e K h = some x -> ∀ {N : Nat} {D : List Deferred} {S F : List Nat} {W0 : World} {O : List Info} {a : Act} {w : World}, KOk N D O K a -> HOk S F W0 O h w ->
  (xAN o x).1 = e /\ ∃ Z, PreM m O Z /\ KOk N D Z (xAN o x).2.1 a /\ HOk S F W0 Z (xAN o x).2.2 w /\ (∀ ts, xAI ts (xGV o x).roots = true -> Covs O Z ts) /\ ∀ (S2 F2 : List Nat) (W2 : World), HOk S2 F2 W2 O h w -> HOk S2 F2 W2 Z (xAN o x).2.2 w
 | [], _, _, _, x, _ => nomatch x
 | [p], e, K, h, x, hd => fun hK hh => by
  simp only [xBk] at hd
  cases hb : xtEq p.1 e with
  | false => rw [hb] at hd; cases hd
  | true => rw [hb] at hd; exact ⟨xKm hb, Sch.dec_cov hd hK hh⟩
 | p :: q :: l, e, K, h, x, hd => fun hK hh => by
  simp only [xBk] at hd
  cases hb : xtEq p.1 e with
  | true =>
   rw [hb] at hd;simp only [cond_true] at hd;split at hd
   ·rename_i y hy;cases hd;exact ⟨xKm hb, Sch.dec_cov hy hK hh⟩
   ·cases hd
  | false =>
   rw [hb] at hd;simp only [cond_false] at hd;split at hd
   ·rename_i y hy;cases hd;exact xGE hy hK hh
   ·cases hd
open Classical in
def xDj {α β : Type} (f : List α -> Option β) (ts : List α) : Option β := if ∃ r, ∀ π : List α, π.Perm ts -> f π = some r then f ts else none
theorem xOS {α β : Type} {f : List α -> Option β} {ts : List α} {r : β} (h : xDj f ts = some r) : ∀ π : List α, π.Perm ts -> f π = some r := by
 unfold xDj at h;split at h
 ·rename_i hx;obtain ⟨r', h1⟩ := hx;rw [h1 ts (List.Perm.refl _)] at h;cases h; exact h1
 ·cases h
theorem xGK {α β : Type} {f : List α -> Option β} {ts : List α} {r : β} (h : ∀ π : List α, π.Perm ts -> f π = some r) : xDj f ts = some r := by
 unfold xDj;rw [if_pos ⟨r, h⟩];exact h ts (List.Perm.refl _)
structure RngC where
 (r0 r1 r2 : Nat) (ops0 ops1 ops2 : Array Oper) (pre : List Oper) (o0 o1 o2 : Oper) (T : TypeId) (x : Operand) (ti tn te b0 b1 : Nat) (tok : Operand) (rest1 rest2 : List Oper) (y : Code)
def RngC.round (R : RngC) : Code := .seq (.region R.r1 R.ops1 false) (.seq (.cond R.tok .skip (.exit R.b0)) (.block R.b1 (.seq (.region R.r2 R.ops2 false) R.y)))
def xP4 : List Oper -> Option (List Oper × Oper)
 | [] => none
 | o :: l => match l with
  | [] => some ([], o)
  | _ :: _ => match xP4 l with
   | some (q, p) => some (o :: q, p)
   | none => none
theorem xMW : ∀ {l q : List Oper} {p : Oper}, xP4 l = some (q, p) -> l = q ++ [p]
 | [], _, _, h => by cases h
 | [o], q, p, h => by cases h; rfl
 | o :: o' :: l, q, p, h => by
  simp only [xP4] at h;split at h
  ·rename_i q' p' h';cases h;rw [xMW (l := o' :: l) h']; rfl
  ·cases h
def xTG (o : Oper) : Option Nat :=
 match o.guard with
 | none => o.dst
 | some _ => none
theorem xKP {o : Oper} {t : Nat} (h : xTG o = some t) : o.guard = none /\ o.dst = some t := by
 unfold xTG at h;split at h
 ·rename_i hg; exact ⟨hg, h⟩
 ·cases h
def xBC (c : Code) : Option RngC :=
 match c with
 | .seq (.region r0 ops0 false) (.block b0 (.loop (.seq (.region r1 ops1 false) (.seq (.cond tok .skip (.exit b0')) (.block b1 (.seq (.region r2 ops2 false) y)))))) => match xP4 ops0.toList, ops1.toList, ops2.toList with
  | some (pre, o0), o1 :: rest1, o2 :: rest2 => match o0.op, o1.op, o2.op with
   | .range T x, .next (.tmp t1) false, .entry (.tmp t2) => match xTG o0, xTG o1, xTG o2 with
    | some ti, some tn, some te => bif (Nat.beq ti t1 && Nat.beq ti t2) && (Nat.beq b0 b0' && !Nat.beq ti tn) then some ⟨r0, r1, r2, ops0, ops1, ops2, pre, o0, o1, o2, T, x, ti, tn, te, b0, b1, tok, rest1, rest2, y⟩ else none
    | _, _, _ => none
   | _, _, _ => none
  | _, _, _ => none
 | _ => none
structure RngIs (c : Code) (R : RngC) : Prop where
 code : c = .seq (.region R.r0 R.ops0 false) (.block R.b0 (.loop R.round))
 l0 : R.ops0.toList = R.pre ++ [R.o0]
 l1 : R.ops1.toList = R.o1 :: R.rest1
 l2 : R.ops2.toList = R.o2 :: R.rest2
 p0 : R.o0.op = .range R.T R.x
 p1 : R.o1.op = .next (.tmp R.ti) false
 p2 : R.o2.op = .entry (.tmp R.ti)
 d0 : R.o0.guard = none /\ R.o0.dst = some R.ti
 d1 : R.o1.guard = none /\ R.o1.dst = some R.tn
 d2 : R.o2.guard = none /\ R.o2.dst = some R.te
 ne : R.ti ≠ R.tn
theorem xIc {c : Code} {R : RngC} (h : xBC c = some R) : RngIs c R := by
 unfold xBC at h;split at h
 rotate_right
 ·cases h
 split at h
 rotate_right
 ·cases h
 rename_i hl0 hl1 hl2;split at h
 rotate_right
 ·cases h
 rename_i ho0 ho1 ho2;split at h
 rotate_right
 ·cases h
 rename_i hd0 hd1 hd2;generalize hb : (_ && _) = b at h
 cases b with
 | false => cases h
 | true =>
  cases h;simp only [Bool.and_eq_true, Bool.not_eq_true'] at hb;obtain ⟨⟨h1, h2⟩, h3, h4⟩ := hb;have h1 := nbT h1;have h2 := nbT h2;have h3 := nbT h3;have h4 := Nat.ne_of_beq_eq_false h4;subst h1; subst h2; subst h3;exact ⟨rfl, xMW hl0, hl1, hl2, ho0, ho1, ho2, xKP hd0, xKP hd1, xKP hd2, h4⟩
inductive RPl where
 | root (id : Nat)
 | ar (t n : Nat)
def xWA (h : List Root) : MPl -> Option RPl
 | .root id => some (.root id)
 | .ar p n => match h[p]? with
  | some r => match r.tag with
   | some t => some (.ar t n)
   | none => none
  | none => none
def xB6 {α : Type} (os : List (Option (List α))) : Nat -> List (Option (List α))
 | 0 => os
 | m + 1 => os.set m none
def xGt (h : List Root) : MPl -> List Root
 | .root id => h.set id .dead
 | .ar p n => match h[p]? with
  | some (.arm t V agg U os) => h.set p (.arm t V agg U (xB6 os n))
  | _ => h
def xWD {α : Type} (os : List (Option (List α))) (n : Nat) (ts : List α) : List (Option (List α)) :=
 match n with
 | 0 => os
 | m + 1 => os.set m (some ts)
def xNP (h : List Root) (ts : List Nat) : Bool := ts.all (fun t => (xAZ t h 0).isSome)
def xTa (h : List Root) (pl : RPl) (V : KK) (agg : Bool) (U : TC) (ts : List (V.ty × U.ty)) : Option (List Root) :=
 match pl with
 | .root id => bif xNP h U.tags then (match h[id]? with
  | some .dead => some (h.set id (.mp V agg U ts))
  | _ => none) else none
 | .ar t n => bif xNP h U.tags then (match xAZ t h 0 with
  | some (p, .arm t' V' agg' U' os) => if e0 : kkEq V V' = true then if e : xFv U U' = true then bif agg == agg' then some (h.set p (.arm t' V' agg' U' (xWD os n (xRQ (xCq e0) (xAz e) ts)))) else none else none else none
  | _ => none) else none
def xN8 (P : Program) (m : Nat) (rs : List RK) (K : Slo) (h : List Root) (R : RngC) (V : KK) (agg : Bool) (U : TC) : Option (List Bool × MPl × RPl × List (V.ty × U.ty)) :=
 match P.underlying R.T, xAo K R.x with
 | some (.map _ _), some (.c c) => match xKV h c with
  | some M => match xWA h M.pl with
   | some pl => if e0 : kkEq M.V V = true then if e : xFv M.U U = true then bif (M.agg == agg) && !xAy U && (match pl with
     | .root id => Nat.ble (id + 1) m
     | .ar t _ => xAI [t] rs) then some (M.g, M.pl, pl, xRQ (xCq e0) (xAz e) M.ts) else none else none else none
   | none => none
  | none => none
 | _, _ => none
section
variable {S : Sch} {o : xBY} {V : KK} {U : TC}
def xLH (B : S.ty -> V.ty × U.ty -> Option (S.ty ⊕ xAB o)) (E : S.ty -> Option (xAB o)) : S.ty -> List (V.ty × U.ty) -> Option (xAB o)
 | s, [] => E s
 | s, e :: π => ob (B s e) (fun q => su q (fun s' => xLH B E s' π) some)
end
def xNh (b0 : Nat) : XT -> XT
 | .normal => .exit b0
 | e => e
def Off (Z : List Info) (h : List Root) (b : Nat) : Prop := ∀ (p : Nat) (r : Root) (i : Info), h[p]? = some r -> Z[p]? = some i -> ¬ foot i r b
def RngAt (Z : List Info) (V : KK) (agg : Bool) (U : TC) (w : World) (ib q cl : Nat) (ents : Array MapEntry) (us : List (V.ty × Nat × U.ty)) (π : List (V.ty × U.ty)) : Prop :=
 ∃ since seen last, w.heap[ib]? = some (.mapIter (some q) since seen last) /\ w.heap[q]? = some (.map ents cl) /\ (∀ x ∈ ents.toList, x.born < since) /\ since <= last /\ since <= cl /\ EntOk Z V agg U us ents.toList /\ (us.map (fun e => e.2.1)).Nodup /\ (strip (us.filter (fun e => !seen.contains e.2.1))).Perm π
def xF7 (P : Program) (m N : Nat) (R : RngC) (S : Sch) (o : xBY) (V : KK) (agg : Bool) (U : TC) (B : S.ty -> V.ty × U.ty -> Option (S.ty ⊕ xAB o)) (E : S.ty -> Option (xAB o)) : Prop :=
 (xAI U.tags S.roots = true) /\
 (∀ (s : S.ty) (y : xAB o), E s = some y -> ∀ (D : List Deferred) (S' F : List Nat) (W0 : World) (Z : List Info) (a : Act) (w : World) (ib : Nat), KOk N D Z (xAM same S.slots (S.a s)) a -> a.tmps[R.ti]? = some (.pointer (some ⟨ib, 0, none⟩)) -> HOk S' F W0 Z (xAe same S.roots (S.b s)) w ->
  (∃ x seen z, w.heap[ib]? = some (.mapIter none x seen z)) -> ∀ Q : Exit -> Act -> World -> Prop, (∀ (Z' : List Info) (a' : Act) (w' : World), PreM m Z Z' -> (xAN o y).1 ≠ .exit R.b0 -> KOk N D Z' (xAN o y).2.1 a' -> HOk S' F W0 Z' (xAN o y).2.2 w' -> Q (xNh R.b0 (xAN o y).1).out a' w') -> Code.rounds P R.round Q 1 a w) /\
 (∀ (π : List (V.ty × U.ty)) (s : S.ty) (Good : xAB o -> Prop), (∀ π' : List (V.ty × U.ty), π'.Perm π -> ∃ y, xLH B E s π' = some y /\ Good y) -> ∀ (D : List Deferred) (S' F : List Nat) (W0 : World) (Z : List Info) (a : Act) (w : World) (ib q cl : Nat) (ents : Array MapEntry) (us : List (V.ty × Nat × U.ty)),
  KOk N D Z (xAM same S.slots (S.a s)) a -> a.tmps[R.ti]? = some (.pointer (some ⟨ib, 0, none⟩)) -> HOk S' F W0 Z (xAe same S.roots (S.b s)) w -> RngAt Z V agg U w ib q cl ents us π -> W0.heap.size <= ib -> Off Z (xAe same S.roots (S.b s)) ib -> Off Z (xAe same S.roots (S.b s)) q -> ib ≠ q -> xAy U = false ->
  ∀ Q : Exit -> Act -> World -> Prop, (∀ (y : xAB o) (Z' : List Info) (a' : Act) (w' : World), Good y -> PreM m Z Z' -> (xAN o y).1 ≠ .exit R.b0 -> (∀ ts, xAI ts S.roots = true -> xAI ts (xGV o y).roots = true -> Covs Z Z' ts) -> KOk N D Z' (xAN o y).2.1 a' -> HOk S' F W0 Z' (xAN o y).2.2 w' -> w'.heap[q]? = some (.map ents cl) -> Off Z' (xAN o y).2.2 q -> Q (xNh R.b0 (xAN o y).1).out a' w') ->
  Code.rounds P R.round Q (π.length + 1) a w)
end
end Go.Proofs.YtnomnijhlbalaaaGreatDoor
