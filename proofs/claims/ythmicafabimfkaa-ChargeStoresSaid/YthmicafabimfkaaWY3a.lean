/- What is known is read off and laid again; loops over maps, on data. No condition. -/
import Derived.Test.YthmicafabimfkaaWY2
namespace Go.Proofs.Ythmicafabimfkaa
noncomputable section
open Go.RowKit
@[reducible] def ob {α β : Type} (x : Option α) (f : α → Option β) : Option β := Option.rec none f x
theorem ob_inv {α β : Type} {x : Option α} {f : α → Option β} {r : β} (h : ob x f = some r) : ∃ y, x = some y ∧ f y = some r := by
  cases x with
  | none => cases h
  | some y => exact ⟨y, rfl, h⟩
@[reducible] def su {α β γ : Type} (x : α ⊕ β) (f : α → γ) (g : β → γ) : γ := Sum.rec f g x
def Sch.dec (s : Sch) (m : Nat) (K : Slo) (h : List Root) : Option s.ty :=
  bif Nat.ble m s.roots.length then match s.decR (rn0 m s.roots.length 0) K h with
    | some (x, _) => some x
    | none => none
  else none
def PreM (m : Nat) (ρ ρ' : List Info) : Prop := ∀ j, j < m → ∀ i, ρ[j]? = some i → ρ'[j]? = some i
theorem PreM.refl (m : Nat) (ρ : List Info) : PreM m ρ ρ := fun _ _ _ h => h
theorem PreM.trans {m : Nat} {a b c : List Info} (h : PreM m a b) (k : PreM m b c) : PreM m a c := fun j hj i e => k j hj i (h j hj i e)
theorem Pre.m {m : Nat} {a b : List Info} (h : Pre a b) : PreM m a b := fun j _ i e => h j i e
theorem rn0_get : ∀ (m len j q : Nat), q < m → m ≤ len → (rn0 m len j)[q]? = some (some (some (j + q)))
  | 0, _, _, _, h, _ => absurd h (Nat.not_lt_zero _)
  | m + 1, 0, _, _, _, h => by omega
  | m + 1, len + 1, j, 0, _, _ => by simp [rn0]
  | m + 1, len + 1, j, q + 1, h, hl => by
    simp only [rn0, List.getElem?_cons_succ]
    rw [rn0_get m len (j + 1) q (by omega) (by omega)]
    congr 3; omega
theorem Sch.dec_ok {s : Sch} {m : Nat} {K : Slo} {h : List Root} {x : s.ty} (hd : s.dec m K h = some x) : ∀ {N : Nat} {D : List Deferred} {S F : List Nat} {W0 : World} {ρ : List Info} {a : Act} {w : World}, KOk N D ρ K a → HOk S F W0 ρ h w →
    ∃ ι, PreM m ρ ι ∧ KOk N D ι (slEnc same s.slots (s.a x)) a ∧ HOk S F W0 ι (rsEnc same s.roots (s.b x)) w := by
  intro N D S F W0 ρ a w hK hh
  unfold Sch.dec at hd
  cases hb : Nat.ble m s.roots.length with
  | false => rw [hb] at hd; cases hd
  | true =>
    rw [hb] at hd
    simp only [cond_true] at hd
    split at hd
    · rename_i y rn hy
      cases hd
      obtain ⟨h1, h2⟩ := Sch.decR_ok hy
      obtain ⟨h3, h4⟩ := h2 hK hh
      refine ⟨_, fun j hj i e => ?_, h3, h4⟩
      have := h1.2 j _ (rn0_get m _ 0 j hj (Nat.le_of_ble_eq_true hb))
      rw [((Agr.mk rn ρ) j).1 _ this, Nat.zero_add, e]
      rfl
    · cases hd
theorem Sch.dec_cov {s : Sch} {m : Nat} {K : Slo} {h : List Root} {x : s.ty} (hd : s.dec m K h = some x) : ∀ {N : Nat} {D : List Deferred} {S F : List Nat} {W0 : World} {ρ : List Info} {a : Act} {w : World}, KOk N D ρ K a → HOk S F W0 ρ h w →
    ∃ ι, PreM m ρ ι ∧ KOk N D ι (slEnc same s.slots (s.a x)) a ∧ HOk S F W0 ι (rsEnc same s.roots (s.b x)) w ∧ (∀ ts, tagsIn ts s.roots = true → Covs ρ ι ts) ∧ ∀ (S2 F2 : List Nat) (W2 : World), HOk S2 F2 W2 ρ h w → HOk S2 F2 W2 ι (rsEnc same s.roots (s.b x)) w := by
  intro N D S F W0 ρ a w hK hh
  unfold Sch.dec at hd
  cases hb : Nat.ble m s.roots.length with
  | false => rw [hb] at hd; cases hd
  | true =>
    rw [hb] at hd
    simp only [cond_true] at hd
    split at hd
    · rename_i y rn hy
      cases hd
      obtain ⟨h1, h2⟩ := Sch.decR_ok hy
      obtain ⟨h3, h4⟩ := h2 hK hh
      refine ⟨_, fun j hj i e => ?_, h3, h4, fun ts ht => Sch.decR_cov hy hh ht, fun S2 F2 W2 h5 => (h2 hK h5).2⟩
      have := h1.2 j _ (rn0_get m _ 0 j hj (Nat.le_of_ble_eq_true hb))
      rw [((Agr.mk rn ρ) j).1 _ this, Nat.zero_add, e]
      rfl
    · cases hd
/-! Outcomes -/
def xtEq : XT → XT → Bool
  | .normal, .normal => true
  | .ret, .ret => true
  | .exit a, .exit b => Nat.beq a b
  | _, _ => false
theorem xtEq_ok {a b : XT} (h : xtEq a b = true) : a = b := by
  cases a <;> cases b <;> first | rfl | cases h | skip
  rw [Nat.eq_of_beq_eq_true h]
abbrev Outs := List (XT × Sch)
@[reducible] def OutTy : Outs → Type
  | [] => Empty
  | [p] => p.2.ty
  | p :: q :: l => p.2.ty ⊕ OutTy (q :: l)
def decOut (m : Nat) : (o : Outs) → XT → Slo → List Root → Option (OutTy o)
  | [], _, _, _ => none
  | [p], e, K, h => bif xtEq p.1 e then p.2.dec m K h else none
  | p :: q :: l, e, K, h => bif xtEq p.1 e then (match p.2.dec m K h with
      | some x => some (.inl x)
      | none => none) else (match decOut m (q :: l) e K h with
      | some x => some (.inr x)
      | none => none)
def outSt : (o : Outs) → OutTy o → XT × Slo × List Root
  | [p], x => (p.1, slEnc same p.2.slots (p.2.a x), rsEnc same p.2.roots (p.2.b x))
  | p :: q :: l, x => match x with
    | .inl y => (p.1, slEnc same p.2.slots (p.2.a y), rsEnc same p.2.roots (p.2.b y))
    | .inr z => outSt (q :: l) z
def outK {β : Type} (k : Kont β) : (o : Outs) → OutTy o → Option β
  | [], _ => none
  | [p], x => k p.1 (slEnc same p.2.slots (p.2.a x)) (rsEnc same p.2.roots (p.2.b x))
  | p :: q :: l, x => su x (fun y => k p.1 (slEnc same p.2.slots (p.2.a y)) (rsEnc same p.2.roots (p.2.b y))) (fun z => outK k (q :: l) z)
theorem outK_eq {β : Type} (k : Kont β) : ∀ (o : Outs) (x : OutTy o), outK k o x = k (outSt o x).1 (outSt o x).2.1 (outSt o x).2.2
  | [], x => nomatch x
  | [p], x => rfl
  | p :: q :: l, .inl y => rfl
  | p :: q :: l, .inr z => outK_eq k (q :: l) z
theorem decOut_ok {m : Nat} : ∀ {o : Outs} {e : XT} {K : Slo} {h : List Root} {x : OutTy o}, decOut m o e K h = some x → ∀ {N : Nat} {D : List Deferred} {S F : List Nat} {W0 : World} {ρ : List Info} {a : Act} {w : World}, KOk N D ρ K a → HOk S F W0 ρ h w →
    (outSt o x).1 = e ∧ ∃ ι, PreM m ρ ι ∧ KOk N D ι (outSt o x).2.1 a ∧ HOk S F W0 ι (outSt o x).2.2 w
  | [], _, _, _, x, _ => nomatch x
  | [p], e, K, h, x, hd => fun hK hh => by
    simp only [decOut] at hd
    cases hb : xtEq p.1 e with
    | false => rw [hb] at hd; cases hd
    | true => rw [hb] at hd; exact ⟨xtEq_ok hb, Sch.dec_ok hd hK hh⟩
  | p :: q :: l, e, K, h, x, hd => fun hK hh => by
    simp only [decOut] at hd
    cases hb : xtEq p.1 e with
    | true =>
      rw [hb] at hd
      simp only [cond_true] at hd
      split at hd
      · rename_i y hy
        cases hd
        exact ⟨xtEq_ok hb, Sch.dec_ok hy hK hh⟩
      · cases hd
    | false =>
      rw [hb] at hd
      simp only [cond_false] at hd
      split at hd
      · rename_i y hy
        cases hd
        exact decOut_ok hy hK hh
      · cases hd
def outSch : (o : Outs) → OutTy o → Sch
  | [p], _ => p.2
  | p :: q :: l, x => match x with
    | .inl _ => p.2
    | .inr z => outSch (q :: l) z
theorem outSt_roots : ∀ (o : Outs) (x : OutTy o), ∃ z, (outSt o x).2.2 = rsEnc same (outSch o x).roots z
  | [p], x => ⟨_, rfl⟩
  | p :: q :: l, .inl _ => ⟨_, rfl⟩
  | p :: q :: l, .inr z => outSt_roots (q :: l) z
theorem decOut_cov {m : Nat} : ∀ {o : Outs} {e : XT} {K : Slo} {h : List Root} {x : OutTy o}, decOut m o e K h = some x → ∀ {N : Nat} {D : List Deferred} {S F : List Nat} {W0 : World} {ρ : List Info} {a : Act} {w : World}, KOk N D ρ K a → HOk S F W0 ρ h w →
    (outSt o x).1 = e ∧ ∃ ι, PreM m ρ ι ∧ KOk N D ι (outSt o x).2.1 a ∧ HOk S F W0 ι (outSt o x).2.2 w ∧ (∀ ts, tagsIn ts (outSch o x).roots = true → Covs ρ ι ts) ∧ ∀ (S2 F2 : List Nat) (W2 : World), HOk S2 F2 W2 ρ h w → HOk S2 F2 W2 ι (outSt o x).2.2 w
  | [], _, _, _, x, _ => nomatch x
  | [p], e, K, h, x, hd => fun hK hh => by
    simp only [decOut] at hd
    cases hb : xtEq p.1 e with
    | false => rw [hb] at hd; cases hd
    | true => rw [hb] at hd; exact ⟨xtEq_ok hb, Sch.dec_cov hd hK hh⟩
  | p :: q :: l, e, K, h, x, hd => fun hK hh => by
    simp only [decOut] at hd
    cases hb : xtEq p.1 e with
    | true =>
      rw [hb] at hd
      simp only [cond_true] at hd
      split at hd
      · rename_i y hy
        cases hd
        exact ⟨xtEq_ok hb, Sch.dec_cov hy hK hh⟩
      · cases hd
    | false =>
      rw [hb] at hd
      simp only [cond_false] at hd
      split at hd
      · rename_i y hy
        cases hd
        exact decOut_cov hy hK hh
      · cases hd
/-! Loops over maps: whatever comes next -/
open Classical in
/-- The same in any order. -/
def anyPerm {α β : Type} (f : List α → Option β) (ts : List α) : Option β := if ∃ r, ∀ π : List α, π.Perm ts → f π = some r then f ts else none
theorem anyPerm_inv {α β : Type} {f : List α → Option β} {ts : List α} {r : β} (h : anyPerm f ts = some r) : ∀ π : List α, π.Perm ts → f π = some r := by
  unfold anyPerm at h
  split at h
  · rename_i hx
    obtain ⟨r', h1⟩ := hx
    rw [h1 ts (List.Perm.refl _)] at h
    cases h; exact h1
  · cases h
theorem anyPerm_of {α β : Type} {f : List α → Option β} {ts : List α} {r : β} (h : ∀ π : List α, π.Perm ts → f π = some r) : anyPerm f ts = some r := by
  unfold anyPerm
  rw [if_pos ⟨r, h⟩]
  exact h ts (List.Perm.refl _)
structure RngC where
  (r0 r1 r2 : Nat) (ops0 ops1 ops2 : Array Oper) (pre : List Oper) (o0 o1 o2 : Oper) (T : TypeId) (x : Operand) (ti tn te b0 b1 : Nat) (tok : Operand) (rest1 rest2 : List Oper) (y : Code)
def RngC.round (R : RngC) : Code := .seq (.region R.r1 R.ops1 false) (.seq (.cond R.tok .skip (.exit R.b0)) (.block R.b1 (.seq (.region R.r2 R.ops2 false) R.y)))
def lastOp : List Oper → Option (List Oper × Oper)
  | [] => none
  | o :: l => match l with
    | [] => some ([], o)
    | _ :: _ => match lastOp l with
      | some (q, p) => some (o :: q, p)
      | none => none
theorem lastOp_ok : ∀ {l q : List Oper} {p : Oper}, lastOp l = some (q, p) → l = q ++ [p]
  | [], _, _, h => by cases h
  | [o], q, p, h => by cases h; rfl
  | o :: o' :: l, q, p, h => by
    simp only [lastOp] at h
    split at h
    · rename_i q' p' h'
      cases h
      rw [lastOp_ok (l := o' :: l) h']; rfl
    · cases h
/-- Where an operation that has no guard puts its value. -/
def opDst (o : Oper) : Option Nat :=
  match o.guard with
  | none => o.dst
  | some _ => none
theorem opDst_ok {o : Oper} {t : Nat} (h : opDst o = some t) : o.guard = none ∧ o.dst = some t := by
  unfold opDst at h
  split at h
  · rename_i hg; exact ⟨hg, h⟩
  · cases h
def rngParse (c : Code) : Option RngC :=
  match c with
  | .seq (.region r0 ops0 false) (.block b0 (.loop (.seq (.region r1 ops1 false) (.seq (.cond tok .skip (.exit b0')) (.block b1 (.seq (.region r2 ops2 false) y)))))) => match lastOp ops0.toList, ops1.toList, ops2.toList with
    | some (pre, o0), o1 :: rest1, o2 :: rest2 => match o0.op, o1.op, o2.op with
      | .range T x, .next (.tmp t1) false, .entry (.tmp t2) => match opDst o0, opDst o1, opDst o2 with
        | some ti, some tn, some te => bif (Nat.beq ti t1 && Nat.beq ti t2) && (Nat.beq b0 b0' && !Nat.beq ti tn) then some ⟨r0, r1, r2, ops0, ops1, ops2, pre, o0, o1, o2, T, x, ti, tn, te, b0, b1, tok, rest1, rest2, y⟩ else none
        | _, _, _ => none
      | _, _, _ => none
    | _, _, _ => none
  | _ => none
structure RngIs (c : Code) (R : RngC) : Prop where
  code : c = .seq (.region R.r0 R.ops0 false) (.block R.b0 (.loop R.round))
  l0 : R.ops0.toList = R.pre ++ [R.o0]
  l1 : R.ops1.toList = R.o1 :: R.rest1
  l2 : R.ops2.toList = R.o2 :: R.rest2
  p0 : R.o0.op = .range R.T R.x
  p1 : R.o1.op = .next (.tmp R.ti) false
  p2 : R.o2.op = .entry (.tmp R.ti)
  d0 : R.o0.guard = none ∧ R.o0.dst = some R.ti
  d1 : R.o1.guard = none ∧ R.o1.dst = some R.tn
  d2 : R.o2.guard = none ∧ R.o2.dst = some R.te
  ne : R.ti ≠ R.tn
theorem rngParse_ok {c : Code} {R : RngC} (h : rngParse c = some R) : RngIs c R := by
  unfold rngParse at h
  split at h
  rotate_right
  · cases h
  split at h
  rotate_right
  · cases h
  rename_i hl0 hl1 hl2
  split at h
  rotate_right
  · cases h
  rename_i ho0 ho1 ho2
  split at h
  rotate_right
  · cases h
  rename_i hd0 hd1 hd2
  generalize hb : (_ && _) = b at h
  cases b with
  | false => cases h
  | true =>
    cases h
    simp only [Bool.and_eq_true, Bool.not_eq_true'] at hb
    obtain ⟨⟨h1, h2⟩, h3, h4⟩ := hb
    have h1 := Nat.eq_of_beq_eq_true h1
    have h2 := Nat.eq_of_beq_eq_true h2
    have h3 := Nat.eq_of_beq_eq_true h3
    have h4 := Nat.ne_of_beq_eq_false h4
    subst h1; subst h2; subst h3
    exact ⟨rfl, lastOp_ok hl0, hl1, hl2, ho0, ho1, ho2, opDst_ok hd0, opDst_ok hd1, opDst_ok hd2, h4⟩
/-- The place of a map that is left alone during the loop. -/
inductive RPl where
  | root (id : Nat)
  | ar (t n : Nat)
def rplOf (h : List Root) : MPl → Option RPl
  | .root id => some (.root id)
  | .ar p n => match h[p]? with
    | some r => match r.tag with
      | some t => some (.ar t n)
      | none => none
    | none => none
def killAt' {α : Type} (os : List (Option (List α))) : Nat → List (Option (List α))
  | 0 => os
  | m + 1 => os.set m none
def killM (h : List Root) : MPl → List Root
  | .root id => h.set id .dead
  | .ar p n => match h[p]? with
    | some (.arm t κ agg τ os) => h.set p (.arm t κ agg τ (killAt' os n))
    | _ => h
def revAt {α : Type} (os : List (Option (List α))) (n : Nat) (ts : List α) : List (Option (List α)) :=
  match n with
  | 0 => os
  | m + 1 => os.set m (some ts)
def tagsR (h : List Root) (ts : List Nat) : Bool := ts.all (fun t => (findAr t h 0).isSome)
def revM (h : List Root) (pl : RPl) (κ : KK) (agg : Bool) (τ : TC) (ts : List (κ.ty × τ.ty)) : Option (List Root) :=
  match pl with
  | .root id => bif tagsR h τ.tags then (match h[id]? with
    | some .dead => some (h.set id (.mp κ agg τ ts))
    | _ => none) else none
  | .ar t n => bif tagsR h τ.tags then (match findAr t h 0 with
    | some (p, .arm t' κ' agg' τ' os) => if e0 : kkEq κ κ' = true then if e : tcEq τ τ' = true then bif agg == agg' then some (h.set p (.arm t' κ' agg' τ' (revAt os n (castM (kkEq_ok e0) (tcEq_ok e) ts)))) else none else none else none
    | _ => none) else none
def rngOpen (P : Program) (m : Nat) (rs : List RK) (K : Slo) (h : List Root) (R : RngC) (κ : KK) (agg : Bool) (τ : TC) : Option (List Bool × MPl × RPl × List (κ.ty × τ.ty)) :=
  match P.underlying R.T, evalP K R.x with
  | some (.map _ _), some (.c c) => match mpAt h c with
    | some M => match rplOf h M.pl with
      | some pl => if e0 : kkEq M.κ κ = true then if e : tcEq M.τ τ = true then bif (M.agg == agg) && !hasCv τ && (match pl with
          | .root id => Nat.ble (id + 1) m
          | .ar t _ => tagsIn [t] rs) then some (M.g, M.pl, pl, castM (kkEq_ok e0) (tcEq_ok e) M.ts) else none else none else none
      | none => none
    | none => none
  | _, _ => none
section
variable {S : Sch} {o : Outs} {κ : KK} {τ : TC}
/-- The loop, in some order. -/
def rngM (B : S.ty → κ.ty × τ.ty → Option (S.ty ⊕ OutTy o)) (E : S.ty → Option (OutTy o)) : S.ty → List (κ.ty × τ.ty) → Option (OutTy o)
  | s, [] => E s
  | s, e :: π => ob (B s e) (fun q => su q (fun s' => rngM B E s' π) some)
end
def exitOf (b0 : Nat) : XT → XT
  | .normal => .exit b0
  | e => e
/-- No root looks at this block. -/
def Off (ι : List Info) (h : List Root) (b : Nat) : Prop := ∀ (p : Nat) (r : Root) (i : Info), h[p]? = some r → ι[p]? = some i → ¬ foot i r b
/-- An iterator over a map, and what it has left. -/
def RngAt (ι : List Info) (κ : KK) (agg : Bool) (τ : TC) (w : World) (ib q cl : Nat) (ents : Array MapEntry) (us : List (κ.ty × Nat × τ.ty)) (π : List (κ.ty × τ.ty)) : Prop :=
  ∃ since seen last, w.heap[ib]? = some (.mapIter (some q) since seen last) ∧ w.heap[q]? = some (.map ents cl) ∧ (∀ x ∈ ents.toList, x.born < since) ∧ since ≤ last ∧ since ≤ cl ∧ EntOk ι κ agg τ us ents.toList ∧ (us.map (fun e => e.2.1)).Nodup ∧ (strip (us.filter (fun e => !seen.contains e.2.1))).Perm π
def RngSem (P : Program) (m N : Nat) (R : RngC) (S : Sch) (o : Outs) (κ : KK) (agg : Bool) (τ : TC) (B : S.ty → κ.ty × τ.ty → Option (S.ty ⊕ OutTy o)) (E : S.ty → Option (OutTy o)) : Prop :=
  (tagsIn τ.tags S.roots = true) ∧
  (∀ (s : S.ty) (y : OutTy o), E s = some y → ∀ (D : List Deferred) (S' F : List Nat) (W0 : World) (ι : List Info) (a : Act) (w : World) (ib : Nat), KOk N D ι (slEnc same S.slots (S.a s)) a → a.tmps[R.ti]? = some (.pointer (some ⟨ib, 0, none⟩)) → HOk S' F W0 ι (rsEnc same S.roots (S.b s)) w →
    (∃ x seen z, w.heap[ib]? = some (.mapIter none x seen z)) → ∀ Q : Exit → Act → World → Prop, (∀ (ι' : List Info) (a' : Act) (w' : World), PreM m ι ι' → (outSt o y).1 ≠ .exit R.b0 → KOk N D ι' (outSt o y).2.1 a' → HOk S' F W0 ι' (outSt o y).2.2 w' → Q (exitOf R.b0 (outSt o y).1).out a' w') → Code.rounds P R.round Q 1 a w) ∧
  (∀ (π : List (κ.ty × τ.ty)) (s : S.ty) (Good : OutTy o → Prop), (∀ π' : List (κ.ty × τ.ty), π'.Perm π → ∃ y, rngM B E s π' = some y ∧ Good y) → ∀ (D : List Deferred) (S' F : List Nat) (W0 : World) (ι : List Info) (a : Act) (w : World) (ib q cl : Nat) (ents : Array MapEntry) (us : List (κ.ty × Nat × τ.ty)),
    KOk N D ι (slEnc same S.slots (S.a s)) a → a.tmps[R.ti]? = some (.pointer (some ⟨ib, 0, none⟩)) → HOk S' F W0 ι (rsEnc same S.roots (S.b s)) w → RngAt ι κ agg τ w ib q cl ents us π → W0.heap.size ≤ ib → Off ι (rsEnc same S.roots (S.b s)) ib → Off ι (rsEnc same S.roots (S.b s)) q → ib ≠ q → hasCv τ = false →
    ∀ Q : Exit → Act → World → Prop, (∀ (y : OutTy o) (ι' : List Info) (a' : Act) (w' : World), Good y → PreM m ι ι' → (outSt o y).1 ≠ .exit R.b0 → (∀ ts, tagsIn ts S.roots = true → tagsIn ts (outSch o y).roots = true → Covs ι ι' ts) → KOk N D ι' (outSt o y).2.1 a' → HOk S' F W0 ι' (outSt o y).2.2 w' → w'.heap[q]? = some (.map ents cl) → Off ι' (outSt o y).2.2 q → Q (exitOf R.b0 (outSt o y).1).out a' w') →
    Code.rounds P R.round Q (π.length + 1) a w)
end
end Go.Proofs.Ythmicafabimfkaa
