/- Runs of operations, on data; calls see only what their arguments reach. No condition. -/
import Derived.Test.YthmicafabimfkaaGreatDoorWZO
import Derived.Deep.LoopGhost
import Derived.LoopN
import Derived.Test.YthmicafabimfkaaGreatDoorWZ0

namespace Go.Proofs.YthmicafabimfkaaGreatDoor
noncomputable section
open Go.RowKit
/-- A slot is forgotten. -/
noncomputable def delP (K : Slo) (t : Nat) : Slo :=
 Slo.rec (motive := fun _ => Nat -> Slo) (fun _ => .nil) (fun u l r il ir n => Bool.rec (Bool.rec (.node u l (ir (Slo.way n))) (.node u (il (Slo.way n)) r) (Slo.odd n)) (.node none l r) (Nat.beq n 0)) K t
theorem xTW (u : Option PV) (l r : Slo) (t : Nat) : delP (.node u l r) t = bif Nat.beq t 0 then .node none l r else bif Slo.odd t then .node u (delP l (Slo.way t)) r else .node u l (delP r (Slo.way t)) := by
 show @Bool.rec (fun _ => Slo) (@Bool.rec (fun _ => Slo) (.node u l (delP r (Slo.way t))) (.node u (delP l (Slo.way t)) r) (Slo.odd t)) (.node none l r) (Nat.beq t 0) = _;cases Nat.beq t 0
 ·cases Slo.odd t <;> rfl
 ·rfl
theorem xK8 : ∀ (t : Nat) (K : Slo) (s : Nat), lkP (delP K t) s = if s = t then none else lkP K s
 | t, .nil, s => by show lkP .nil s = _; rw [xEY]; split <;> rfl
 | t, .node u l r, s => by
  rw [xTW]
  cases ht : Nat.beq t 0 with
  | true =>
   have := nbT ht;subst this;simp only [cond_true, xCp]
   cases hs : Nat.beq s 0 with
   | true => have := nbT hs; subst this; rfl
   | false => rw [if_neg (Nat.ne_of_beq_eq_false hs)]; rfl
  | false =>
   simp only [cond_false]
   cases ho : Slo.odd t with
   | true =>
    simp only [cond_true, xCp]
    cases hs : Nat.beq s 0 with
    | true =>
     have e := nbT hs;rw [if_neg (fun e' => by rw [<- e', e] at ht; cases ht)]; rfl
    | false =>
     simp only [cond_false]
     cases hso : Slo.odd s with
     | false => rw [if_neg (fun e' => by rw [e', ho] at hso; cases hso)]; rfl
     | true =>
      simp only [cond_true, xK8 _ l];by_cases hw : Slo.way s = Slo.way t
      ·rw [if_pos hw, if_pos (Slo.way_eq hs ht (by rw [hso, ho]) hw)]
      ·rw [if_neg hw, if_neg (fun e => hw (by rw [e]))]
   | false =>
    simp only [cond_false, xCp]
    cases hs : Nat.beq s 0 with
    | true =>
     have e := nbT hs;rw [if_neg (fun e' => by rw [<- e', e] at ht; cases ht)]; rfl
    | false =>
     simp only [cond_false]
     cases hso : Slo.odd s with
     | true => rw [if_neg (fun e' => by rw [e', ho] at hso; cases hso)]; rfl
     | false =>
      simp only [cond_false, xK8 _ r];by_cases hw : Slo.way s = Slo.way t
      ·rw [if_pos hw, if_pos (Slo.way_eq hs ht (by rw [hso, ho]) hw)]
      ·rw [if_neg hw, if_neg (fun e => hw (by rw [e]))]
def xHr (N : Nat) (K : Slo) : Option Tmp -> PV -> Option Slo
 | none, _ => some K
 | some t, v => bif Nat.ble (t + 1) N then some (xDj K t v) else none
section
variable {P : Program} {N : Nat} {D : List Deferred} {S F : List Nat} {W0 : World} {ρ : List Info} {K : Slo} {h : List Root} {w : World} {a : Act} {o : Oper}
theorem xFv {K' : Slo} (hK : KOk N D ρ K a) {d : Option Tmp} {v : PV} {u : Value} (hv : DenP ρ v u) (hs : xHr N K d v = some K') : KOk N D ρ K' (a.put d u) := by
 cases d with
 | none => simp only [xHr, Option.some.injEq] at hs; subst hs; exact hK
 | some t =>
  simp only [xHr] at hs
  cases hb : Nat.ble (t + 1) N with
  | false => rw [hb] at hs; cases hs
  | true =>
   rw [hb] at hs;simp only [cond_true, Option.some.injEq] at hs;subst hs;have ht : t < a.tmps.size := by rw [hK.1]; exact Nat.le_of_ble_eq_true hb
   refine ⟨by simp [Act.put, hK.1], hK.2.1, fun s p hp => ?_⟩;rw [xBn] at hp;split at hp
   ·rename_i e;subst e;cases hp;exact ⟨u, hv, by simp [Act.put, ht]⟩
   ·rename_i e;obtain ⟨x, h1, h2⟩ := hK.2.2 s p hp;refine ⟨x, h1, ?_⟩;simp only [Act.put];rw [Array.getElem?_setIfInBounds_ne (Ne.symm e)];exact h2
/-- A truth that is known now. -/
theorem KOk.bool (hK : KOk N D ρ K a) {t : Nat} {b : Bool} (ht : lkP K t = some (.c (.sc (.bool b)))) (c : Bool) (e : b = c) : KOk N D ρ (xDj K t (.c (.sc (.bool c)))) a := by
 subst e;refine ⟨hK.1, hK.2.1, fun s p hp => ?_⟩;rw [xBn] at hp;split at hp
 ·rename_i e; subst e; cases hp; exact hK.2.2 _ _ ht
 ·exact hK.2.2 s p hp
end
def gds {β : Type} : List Bool -> Option β -> Option β
 | [], r => r
 | b :: g, r => bif b then gds g r else none
theorem xBH {β : Type} {r : β} : ∀ {g : List Bool} {x : Option β}, gds g x = some r -> AllB g /\ x = some r
 | [], x, h => ⟨trivial, h⟩
 | b :: g, x, h => by
  cases b with
  | true => obtain ⟨h1, h2⟩ := xBH (g := g) h; exact ⟨⟨rfl, h1⟩, h2⟩
  | false => cases h
/-- Whether an operation is carried out. -/
inductive Gd where
 | go
 | no
 | test (t : Nat) (b want : Bool)
 | bad
def xTl (ops : Array Oper) (K : Slo) (o : Oper) : Gd :=
 match o.guard with
 | none => .go
 | some (j, want) => match (ops[j]?).bind (·.dst) with
  | some t => match lkP K t with
   | some (.c (.sc (.bool b))) => .test t b want
   | some .un => .no
   | _ => .bad
  | none => .bad
abbrev xAT (β : Type) := FuncId -> List PV -> List Root -> (List Nat -> PV -> List Root -> Option β) -> Option β
section
variable {β : Type}
def xCZ (N : Nat) (K : Slo) (o : Oper) (v : PV) (h : List Root) (k : Slo -> List Root -> Option β) : Option β :=
 match xHr N K o.dst v with
 | some K' => k K' h
 | none => none
def opGo (P : Program) (N : Nat) (call : xAT β) (K : Slo) (h : List Root) (o : Oper) (k : Slo -> List Root -> Option β) : Option β :=
 match xHi P K h o with
 | .val g v => gds g (xCZ N K o v h k)
 | .pick b x y => bif b then xCZ N K o x h k else xCZ N K o y h k
 | .stuck => match stepM P K h o with
  | .mem g v h' _ => gds g (xCZ N K o v h' k)
  | .call f args => call f args h (fun _ v h' => xCZ N K o v h' k)
  | _ => none
 | _ => none
def xMw (P : Program) (N : Nat) (ops : Array Oper) (call : xAT β) (K : Slo) (h : List Root) (o : Oper) (k : Slo -> List Root -> Option β) : Option β :=
 match xTl ops K o with
 | .go => opGo P N call K h o k
 | .no => xCZ N K o .un h k
 | .test t b want => bif b then (bif want then opGo P N call (xDj K t (.c (.sc (.bool true)))) h o k else xCZ N (xDj K t (.c (.sc (.bool true)))) o .un h k)
   else (bif want then xCZ N (xDj K t (.c (.sc (.bool false)))) o .un h k else opGo P N call (xDj K t (.c (.sc (.bool false)))) h o k)
 | .bad => none
def xE5 (P : Program) (N : Nat) (ops : Array Oper) (call : xAT β) : List Oper -> Slo -> List Root -> (Slo -> List Root -> Option β) -> Option β
 | [], K, h, k => k K h
 | o :: r, K, h, k => xMw P N ops call K h o (fun K' h' => xE5 P N ops call r K' h' k)
/-! What an argument reaches -/
def xQN : CV -> List Nat
 | .sl id _ _ _ _ => [id]
 | .pt id _ _ _ => [id]
 | .hv id => [id]
 | .sc _ => []
 | .er _ => []
 | .rf _ _ _ => []
 | .rp _ _ _ _ _ => []
def idsP : PV -> List Nat
 | .c x => xQN x
 | .ag l => l.flatMap xQN
 | .tu l => l.flatMap (fun p => p.2.flatMap xQN)
 | .un => []
def xAE : TC -> Bool
 | .cv => true
 | .pair a b => xAE a || xAE b
 | _ => false
def xRV : Root -> List Nat
 | .blk cs _ => cs.flatMap xQN
 | .rows _ τ xs => bif xAE τ then (flat τ xs).flatMap xQN else []
 | .ro τ xs => bif xAE τ then (flat τ xs).flatMap xQN else []
 | .clo _ a b => a.flatMap xQN ++ b.flatMap xQN
 | .mp _ _ τ ts => bif xAE τ then ts.flatMap (fun e => (τ.enc e.2).flatMap xQN) else []
 | .ars _ _ τ os => bif xAE τ then os.flatMap (fun o => match o with
  | some xs => (flat τ xs).flatMap xQN
  | none => []) else []
 | .aro _ _ τ os => bif xAE τ then (flat τ os).flatMap xQN else []
 | .arm _ _ _ τ os => bif xAE τ then os.flatMap (fun o => match o with
  | some m => m.flatMap (fun e => (τ.enc e.2).flatMap xQN)
  | none => []) else []
 | .arr _ τ os => bif xAE τ then os.flatMap (fun xs => (flat τ xs).flatMap xQN) else []
 | _ => []
def xNE : Nat -> List Root -> List Nat -> List Nat -> List Nat
 | 0, _, _, seen => seen
 | n + 1, h, todo, seen => match todo with
  | [] => seen
  | id :: todo => bif seen.any (Nat.beq id) then xNE n h todo seen else xNE n h ((match h[id]? with
    | some r => xRV r
    | none => []) ++ todo) (id :: seen)
/-- The arenas. -/
def xNi : List Root -> Nat -> List Nat
 | [], _ => []
 | r :: h, p => match r.tag with
  | some _ => p :: xNi h (p + 1)
  | none => xNi h (p + 1)
theorem xJf : ∀ {h : List Root} {p q : Nat} {r : Root}, h[q]? = some r -> r.tag ≠ none -> p + q ∈ xNi h p
 | [], _, _, _, e, _ => by simp at e
 | x :: h, p, 0, r, e, ht => by
  simp only [List.getElem?_cons_zero, Option.some.injEq] at e;subst e;simp only [xNi];split
  ·simp
  ·rename_i hn; exact absurd hn ht
 | x :: h, p, q + 1, r, e, ht => by
  have ih := xJf (p := p + 1) (q := q) (r := r) (by simpa using e) ht;simp only [xNi];have e2 : p + (q + 1) = p + 1 + q := by omega
  rw [e2];split
  ·exact List.mem_cons_of_mem _ ih
  ·exact ih
/-- What a call sees: what its arguments reach, and the arenas. -/
def xBx (h : List Root) (args : List PV) : List Nat := xNi h 0 ++ xNE 1000 h (args.flatMap idsP ++ (xNi h 0).flatMap (fun p => match h[p]? with
 | some r => xRV r
 | none => [])) []
theorem xQy {h : List Root} {args : List PV} {q : Nat} {r : Root} (hq : h[q]? = some r) (ht : r.tag ≠ none) : q ∈ xBx h args := by
 have := xJf (p := 0) hq ht;rw [Nat.zero_add] at this;exact List.mem_append_left _ this
/-- What a call left, and what it did not see. -/
def xEW (R : List Nat) : List Root -> List Root -> Nat -> List Root
 | [], h', _ => h'
 | _ :: _, [], _ => []
 | r :: h, r' :: h', p => (bif R.any (Nat.beq p) then r' else r) :: xEW R h h' (p + 1)
/-- What a call leaves. -/
def xAW (P : Program) (call : xAT β) : Prop :=
 ∀ f args h k r, call f args h k = some r -> ∀ S F W0 ρ w vs, DenArgs ρ args vs -> HOk S F W0 ρ h w -> xBc P f = true ->
  Calls P f vs.toArray w (fun e w' => ∃ ρ' h' v u B t, e = .returned u /\ Pre ρ ρ' /\ DenP ρ' v u /\ HOk S F W0 ρ' h' w' /\ k t v h' = some r /\ Ex B w w' /\
   (∀ b ∈ B, ∃ p ∈ t, ∃ r i, h[p]? = some r /\ ρ[p]? = some i /\ own i r b) /\ (∀ q : Nat, q ∉ t -> q < h.length -> h'[q]? = h[q]?) /\ Feet ρ h w ρ' h')
end
section
variable {P : Program} {N : Nat} {D : List Deferred} {S F : List Nat} {W0 : World} {ρ : List Info} {K : Slo} {h : List Root} {w : World} {a : Act} {o : Oper} {β : Type} {r : β} {call : xAT β} {ops : Array Oper}
/-- What holds behind a step. -/
def Behind (P : Program) (N : Nat) (D : List Deferred) (S F : List Nat) (W0 : World) (ρ : List Info) (k : Slo -> List Root -> Option β) (r : β) (a : Act) (w : World) : Prop :=
 ∃ ρ' K' h', Pre ρ ρ' /\ KOk N D ρ' K' a /\ HOk S F W0 ρ' h' w /\ k K' h' = some r
theorem xA2 (hK : KOk N D ρ K a) (hh : HOk S F W0 ρ h w) {v : PV} {u : Value} (hv : DenP ρ v u) {k : Slo -> List Root -> Option β} (hr : xCZ N K o v h k = some r) : Behind P N D S F W0 ρ k r (a.put o.dst u) w := by
 unfold xCZ at hr;split at hr
 ·rename_i K' hK'; exact ⟨ρ, K', h, Pre.refl _, xFv hK hv hK', hh, hr⟩
 ·cases hr
theorem Behind.pre {k : Slo -> List Root -> Option β} {ρ' : List Info} (hp : Pre ρ ρ') (hb : Behind P N D S F W0 ρ' k r a w) : Behind P N D S F W0 ρ k r a w := by
 obtain ⟨ρ2, K', h', h1, h2⟩ := hb;exact ⟨ρ2, K', h', hp.trans h1, h2⟩
theorem xNK (hcall : xAW P call) (hK : KOk N D ρ K a) (hh : HOk S F W0 ρ h w) {k : Slo -> List Root -> Option β} (hr : opGo P N call K h o k = some r) {Q : Exit -> Act -> World -> Prop} {next : Act -> World -> Prop} (hn : ∀ a' w', Behind P N D S F W0 ρ k r a' w' -> next a' w') : o.wp P a w next Q := by
 unfold opGo at hr;have hv := xHq (P := P) (o := o) hK hh;split at hr
 ·rename_i g v hs;rw [hs] at hv;obtain ⟨h1, h2⟩ := xBH hr;obtain ⟨u, h3, h4⟩ := hv h1;unfold Oper.wp;rw [h4 w (Agree.refl _ _ _ _), Oper.upon_value];exact hn _ _ (xA2 hK hh h3 h2)
 ·rename_i b x y hs;rw [hs] at hv;obtain ⟨u, h3, h4⟩ := hv;unfold Oper.wp;rw [h4 w (Agree.refl _ _ _ _), Oper.upon_value]
  cases b with
  | true => exact hn _ _ (xA2 hK hh h3 hr)
  | false => exact hn _ _ (xA2 hK hh h3 hr)
 ·have hm := xKy (P := P) (o := o) hK hh;split at hr
  ·rename_i g v h' t hs;rw [hs] at hm;obtain ⟨h1, h2⟩ := xBH hr;obtain ⟨ρ', u, nx, w', B, q1, q2, q3, q4, q5, q6, q7, _, _⟩ := hm h1;unfold Oper.wp;rw [q4];have := xA2 (P := P) (o := o) (hK.mono q1) q5 q2 h2;rcases q3 with rfl | ⟨rfl, rfl⟩
   ·rw [Oper.upon_value]; exact hn _ _ (this.pre q1)
   ·rw [Oper.upon_skip]; exact hn _ _ (this.pre q1)
  ·rename_i f args hs;rw [hs] at hm;obtain ⟨vs, q1, q2, q3⟩ := hm;unfold Oper.wp;rw [q1, Oper.upon_enter];refine (hcall f args h _ r hr S F W0 ρ w vs q3 hh q2).mono fun e w' he => ?_;obtain ⟨ρ', h', v, u, B, t, rfl, e1, e2, e3, e4, _⟩ := he;exact hn _ _ ((xA2 (P := P) (o := o) (hK.mono e1) e3 e2 e4).pre e1)
  ·cases hr
 ·cases hr
theorem xLv (hK : KOk N D ρ K a) (hg : xTl ops K o = .go) : Region.wanted o (yielded ops a.tmps) = true := by
 unfold xTl at hg;unfold Region.wanted
 cases ho : o.guard with
 | none => rfl
 | some p =>
  obtain ⟨j, want⟩ := p;rw [ho] at hg;simp only at hg;split at hg
  ·split at hg <;> cases hg
  ·cases hg
theorem xLu (hK : KOk N D ρ K a) (hg : xTl ops K o = .no) : Region.wanted o (yielded ops a.tmps) = false := by
 unfold xTl at hg;unfold Region.wanted
 cases ho : o.guard with
 | none => rw [ho] at hg; cases hg
 | some p =>
  obtain ⟨j, want⟩ := p;rw [ho] at hg;simp only at hg ⊢;unfold yielded;split at hg
  ·rename_i t ht;rw [ht];split at hg
   ·cases hg
   ·rename_i hl;obtain ⟨v, h1, h2⟩ := hK.2.2 t _ hl;have : v = undef := h1;subst this;simp [h2, undef]
   ·cases hg
  ·cases hg
theorem xFO (hK : KOk N D ρ K a) {t : Nat} {b want : Bool} (hg : xTl ops K o = .test t b want) : Region.wanted o (yielded ops a.tmps) = (b == want) /\ lkP K t = some (.c (.sc (.bool b))) := by
 unfold xTl at hg;unfold Region.wanted
 cases ho : o.guard with
 | none => rw [ho] at hg; cases hg
 | some p =>
  obtain ⟨j, want'⟩ := p;rw [ho] at hg;simp only at hg ⊢;unfold yielded;split at hg
  ·rename_i t' ht;rw [ht];split at hg
   ·rename_i b' hl;cases hg;obtain ⟨v, h1, h2⟩ := hK.2.2 _ _ hl;have : v = .bool b := h1.1;subst this;exact ⟨by simp [h2], hl⟩
   ·cases hg
   ·cases hg
  ·cases hg
theorem xSn (hcall : xAW P call) (hK : KOk N D ρ K a) (hh : HOk S F W0 ρ h w) {k : Slo -> List Root -> Option β} (hr : xMw P N ops call K h o k = some r) {Q : Exit -> Act -> World -> Prop} {next : Act -> World -> Prop} (hn : ∀ a' w', Behind P N D S F W0 ρ k r a' w' -> next a' w') :
  if Region.wanted o (yielded ops a.tmps) then o.wp P a w next Q else next (a.put o.dst undef) w := by
 unfold xMw at hr;split at hr
 ·rename_i hg;rw [if_pos (xLv hK hg)];exact xNK hcall hK hh hr hn
 ·rename_i hg;rw [if_neg (by rw [xLu hK hg]; simp)];exact hn _ _ (xA2 (v := .un) (u := undef) hK hh rfl hr)
 ·rename_i t b want hg;obtain ⟨h1, h2⟩ := xFO hK hg
  cases b with
  | true =>
   simp only [cond_true] at hr;have hK' := hK.bool h2 true rfl
   cases want with
   | true => rw [if_pos (by rw [h1]; rfl)]; exact xNK hcall hK' hh hr hn
   | false => rw [if_neg (by rw [h1]; simp)]; exact hn _ _ (xA2 (v := .un) (u := undef) hK' hh rfl hr)
  | false =>
   simp only [cond_false] at hr;have hK' := hK.bool h2 false rfl
   cases want with
   | true => rw [if_neg (by rw [h1]; simp)]; exact hn _ _ (xA2 (v := .un) (u := undef) hK' hh rfl hr)
   | false => rw [if_pos (by rw [h1]; rfl)]; exact xNK hcall hK' hh hr hn
 ·cases hr
theorem xDK (hcall : xAW P call) {Q : Exit -> Act -> World -> Prop} (rest : List Oper) : ∀ (l : List Oper) (ρ : List Info) (K : Slo) (h : List Root) (a : Act) (w : World) (k : Slo -> List Root -> Option β), xE5 P N ops call l K h k = some r -> KOk N D ρ K a -> HOk S F W0 ρ h w ->
  (∀ a' w', Behind P N D S F W0 ρ k r a' w' -> wpList P ops Q rest a' w') -> wpList P ops Q (l ++ rest) a w
 | [], ρ, K, h, a, w, k, hr, hK, hh, hn => hn a w ⟨ρ, K, h, Pre.refl _, hK, hh, hr⟩
 | o :: l, ρ, K, h, a, w, k, hr, hK, hh, hn => by
  have step := xSn (ops := ops) (o := o) hcall hK hh hr (Q := Q) (next := wpList P ops Q (l ++ rest)) (fun a' w' hb => by
   obtain ⟨ρ', K', h', h1, h2, h3, h4⟩ := hb;exact xDK hcall rest l ρ' K' h' a' w' k h4 h2 h3 (fun a2 w2 hb2 => hn a2 w2 (hb2.pre h1)))
  show wpList P ops Q (o :: (l ++ rest)) a w;unfold wpList;split
  ·rename_i hw; rw [if_pos hw] at step; exact .inl step
  ·rename_i hw; rw [if_neg hw] at step; exact step
end
end
end Go.Proofs.YthmicafabimfkaaGreatDoor


namespace Go.Proofs.YthmicafabimfkaaGreatDoor
noncomputable section
open Go.RowKit
section
variable {P : Program} {N : Nat} {D : List Deferred} {S F : List Nat} {W0 : World} {ρ ρ' : List Info} {K : Slo} {h h' : List Root} {w w' : World} {a : Act} {o : Oper}
/-- What a root owns, or what it looks at. -/
inductive Wh where
 | own
 | foot
@[reducible] def Wh.rel : Wh -> Info -> Root -> Nat -> Prop
 | .own => Go.Proofs.YthmicafabimfkaaGreatDoor.own
 | .foot => Go.Proofs.YthmicafabimfkaaGreatDoor.foot
def Wh.list : Wh -> Info -> Root -> List Nat
 | .own => ownL
 | .foot => xWd
theorem Wh.mem {f : Wh} {i : Info} {r : Root} {b : Nat} : b ∈ f.list i r ↔ f.rel i r b := by
 cases f with
 | own => exact xO6
 | foot => exact xTn
def xAo (f : Wh) (ρ : List Info) (h : List Root) (R : List Nat) : List Nat :=
 R.flatMap (fun p => match h[p]?, ρ[p]? with
  | some r, some i => f.list i r
  | _, _ => [])
theorem xAg {f : Wh} {R : List Nat} {b : Nat} : b ∈ xAo f ρ h R ↔ ∃ p ∈ R, ∃ r i, h[p]? = some r /\ ρ[p]? = some i /\ f.rel i r b := by
 unfold xAo;rw [List.mem_flatMap];constructor
 ·rintro ⟨p, hp, hm⟩
  split at hm
  ·rename_i r i hr hi; exact ⟨p, hp, r, i, hr, hi, Wh.mem.1 hm⟩
  ·cases hm
 ·rintro ⟨p, hp, r, i, hr, hi, hf⟩
  exact ⟨p, hp, by rw [hr, hi]; exact Wh.mem.2 hf⟩
theorem xDL {R : List Nat} {p : Nat} : R.any (Nat.beq p) = true ↔ p ∈ R := by
 rw [List.any_eq_true];constructor
 ·rintro ⟨x, hx, hb⟩; rw [nbT hb]; exact hx
 ·intro hp; exact ⟨p, hp, Nat.beq_refl p⟩
theorem HOk.enter (hh : HOk S F W0 ρ h w) (R : List Nat) : HOk (xAo .own ρ h R) (xAo .foot ρ h R) w ρ (xSF R h) w := by
 have hm := hh.masked R;refine ⟨Ex.refl _ _, hm.len, hm.ok, hm.sep, fun p r i b hr hi ho => ?_, fun p r i b hr hi ho => ?_, hh.layW, fun b hb => ⟨hh.outW hb, fun hm => (by obtain ⟨p, _, r, i, hr, hi, ho⟩ := xAg.1 hm; exact hh.notOwn hb hr hi ho)⟩, hm.cov, hm.cln⟩
 ·rcases xCb R h 0 p r hr with ⟨h1, h2⟩ | ⟨rfl, _⟩
  ·exact .inr (xAg.2 ⟨p, xDL.1 (by simpa using h2), r, i, h1, hi, ho⟩)
  ·cases ho
 ·rcases xCb R h 0 p r hr with ⟨h1, h2⟩ | ⟨rfl, _⟩
  ·exact .inr (.inr (xAg.2 ⟨p, xDL.1 (by simpa using h2), r, i, h1, hi, ho⟩))
  ·exact absurd ho xBh
theorem xBp (R : List Nat) : ∀ (h h' : List Root) (p q : Nat) (r : Root), h.length <= h'.length -> (xEW R h h' p)[q]? = some r ->
  (h'[q]? = some r /\ (q < h.length -> R.any (Nat.beq (p + q)) = true)) \/ (h[q]? = some r /\ R.any (Nat.beq (p + q)) = false)
 | [], h', p, q, r, _, e => .inl ⟨e, fun hq => absurd hq (Nat.not_lt_zero _)⟩
 | x :: h, [], p, q, r, hl, e => by simp at hl
 | x :: h, y :: h', p, 0, r, hl, e => by
  simp only [xEW, List.getElem?_cons_zero, Option.some.injEq] at e
  cases hb : R.any (Nat.beq p) with
  | true => rw [hb] at e; exact .inl ⟨by simpa using e, fun _ => by simp⟩
  | false => rw [hb] at e; exact .inr ⟨by simpa using e, by simp⟩
 | x :: h, y :: h', p, q + 1, r, hl, e => by
  simp only [xEW, List.getElem?_cons_succ] at e;rcases xBp R h h' (p + 1) q r (by simpa using hl) e with ⟨h1, h2⟩ | ⟨h1, h2⟩
  ·exact .inl ⟨by simpa using h1, fun hq => by rw [show p + (q + 1) = p + 1 + q by omega]; exact h2 (by simpa using hq)⟩
  ·exact .inr ⟨by simpa using h1, by rw [show p + (q + 1) = p + 1 + q by omega]; exact h2⟩
theorem xIi (R : List Nat) : ∀ (h h' : List Root) (p : Nat), h.length <= h'.length -> (xEW R h h' p).length = h'.length
 | [], _, _, _ => rfl
 | x :: h, [], p, hl => by simp at hl
 | x :: h, y :: h', p, hl => by simp only [xEW, List.length_cons, xIi R h h' (p + 1) (by simpa using hl)]
theorem xMz (R : List Nat) : ∀ (h h' : List Root) (p q : Nat), h.length <= h'.length -> R.any (Nat.beq (p + q)) = false -> q < h.length -> (xEW R h h' p)[q]? = h[q]?
 | [], _, _, _, _, _, hq => absurd hq (Nat.not_lt_zero _)
 | x :: h, [], p, _, hl, _, _ => by simp at hl
 | x :: h, y :: h', p, 0, hl, hb, _ => by simp only [xEW]; rw [show R.any (Nat.beq p) = false by simpa using hb]; simp
 | x :: h, y :: h', p, q + 1, hl, hb, hq => by
  simp only [xEW, List.getElem?_cons_succ];exact xMz R h h' (p + 1) q (by simpa using hl) (by rw [show p + 1 + q = p + (q + 1) by omega]; exact hb) (by simpa using hq)
theorem Pre.len (hp : Pre ρ ρ') : ρ.length <= ρ'.length := by
 rcases Nat.lt_or_ge ρ'.length ρ.length with hlt | hge
 ·have := hp ρ'.length _ (List.getElem?_eq_getElem hlt);have := (List.getElem?_eq_some_iff.1 this).1;omega
 ·exact hge
theorem HOk.merged (hh : HOk S F W0 ρ h w) (R : List Nat) (hR : ∀ (q : Nat) (r : Root), h[q]? = some r -> r.tag ≠ none -> q ∈ R) (hp : Pre ρ ρ') (hc : HOk (xAo .own ρ h R) (xAo .foot ρ h R) w ρ' h' w') : HOk S F W0 ρ' (xEW R h h' 0) w' := by
 have hl : h.length <= h'.length := by rw [<- hh.len, <- hc.len]; exact hp.len
 have hid : ∀ (q : Nat) (r : Root) (i : Info), h[q]? = some r -> ρ'[q]? = some i -> ρ[q]? = some i := by
  intro q r i h1 h2;obtain ⟨i0, h3⟩ := hh.info h1;have := hp _ _ h3;rw [h2] at this;rw [h3, this]
 have hS : ∀ (q : Nat) (r : Root) (i : Info) (b : Nat), R.any (Nat.beq (0 + q)) = false -> h[q]? = some r -> ρ[q]? = some i -> foot i r b -> b ∉ xAo .own ρ h R := by
  intro q r i b hb h1 h2 h3 hm;obtain ⟨p, hpR, r', i', g1, g2, g3⟩ := xAg.1 hm;refine hh.sep p q r' r i' i b (fun e => ?_) g1 h1 g2 h2 g3 h3;subst e;rw [Nat.zero_add] at hb;rw [xDL.2 hpR] at hb;cases hb
 refine ⟨?_, by rw [xIi R h h' 0 hl]; exact hc.len, ?_, ?_, ?_, ?_, hh.lay, hh.out, fun q t r i h1 h2 ht => ?_, fun q r i h1 h2 => ?_⟩
 rotate_right
 ·rcases xBp R h h' 0 q r hl h1 with ⟨h3, _⟩ | ⟨h3, h4⟩
  ·exact hc.cln q r i h3 h2
  ·exact hh.cln q r i h3 (hid q r i h3 h2)
 rotate_right
 ·rcases xBp R h h' 0 q r hl h1 with ⟨h3, _⟩ | ⟨h3, h4⟩
  ·exact hc.cov q t r i h3 h2 ht
  ·rw [Nat.zero_add, xDL.2 (hR q r h3 (by rw [ht]; simp))] at h4;cases h4
 ·refine ⟨hc.ext.os.trans hh.ext.os, hc.ext.tape.trans hh.ext.tape, hc.ext.output.trans hh.ext.output, Nat.le_trans hh.ext.size hc.ext.size, fun k hk hs => ?_⟩;have hkB : k ∉ xAo .own ρ h R := fun hm => by
   obtain ⟨p, _, r', i', g1, g2, g3⟩ := xAg.1 hm;rcases hh.mine p r' i' k g1 g2 g3 with g4 | g4
   ·omega
   ·exact hs g4
  rw [hc.ext.block k (Nat.lt_of_lt_of_le hk hh.ext.size) hkB];exact hh.ext.block k hk hs
 ·intro q r i h1 h2;rcases xBp R h h' 0 q r hl h1 with ⟨h3, _⟩ | ⟨h3, h4⟩
  ·exact hc.ok q r i h3 h2
  ·have h5 := hid q r i h3 h2;exact ((hh.ok q r i h3 h5).ex hc.ext (fun b hb => hS q r i b h4 h3 h5 hb)).mono hp
 ·intro p q r s i j b hpq hr hs hi hj ho;rcases xBp R h h' 0 p r hl hr with ⟨h3, _⟩ | ⟨h3, h4⟩
  ·rcases xBp R h h' 0 q s hl hs with ⟨h5, _⟩ | ⟨h5, h6⟩
   ·exact hc.sep p q r s i j b hpq h3 h5 hi hj ho
   ·intro hf;have h7 := hid q s j h5 hj;rcases hc.mine p r i b h3 hi ho with g1 | g1
    ·have := (hh.ok q s j h5 h7).lt hf; omega
    ·exact hS q s j b h6 h5 h7 hf g1
  ·have h7 := hid p r i h3 hi;rcases xBp R h h' 0 q s hl hs with ⟨h5, _⟩ | ⟨h5, h6⟩
   ·intro hf;rcases hc.near q s j b h5 hj hf with g1 | g1 | g1
    ·have := (hh.ok p r i h3 h7).lt (xAs ho); omega
    ·exact hS p r i b h4 h3 h7 (xAs ho) g1
    ·obtain ⟨p', hpR, r', i', g2, g3, g4⟩ := xAg.1 g1;refine hh.sep p p' r r' i i' b (fun e => ?_) h3 g2 h7 g3 ho g4;subst e;rw [Nat.zero_add] at h4;rw [xDL.2 hpR] at h4;cases h4
   ·exact hh.sep p q r s i j b hpq h3 h5 h7 (hid q s j h5 hj) ho
 ·intro p r i b hr hi ho;rcases xBp R h h' 0 p r hl hr with ⟨h3, _⟩ | ⟨h3, _⟩
  ·rcases hc.mine p r i b h3 hi ho with g1 | g1
   ·exact .inl (Nat.le_trans hh.ext.size g1)
   ·obtain ⟨p', _, r', i', g2, g3, g4⟩ := xAg.1 g1;exact hh.mine p' r' i' b g2 g3 g4
  ·exact hh.mine p r i b h3 (hid p r i h3 hi) ho
 ·intro p r i b hr hi ho;rcases xBp R h h' 0 p r hl hr with ⟨h3, _⟩ | ⟨h3, _⟩
  ·rcases hc.near p r i b h3 hi ho with g1 | g1 | g1
   ·exact .inl (Nat.le_trans hh.ext.size g1)
   ·obtain ⟨p', _, r', i', g2, g3, g4⟩ := xAg.1 g1;rcases hh.mine p' r' i' b g2 g3 g4 with g5 | g5
    ·exact .inl g5
    ·exact .inr (.inl g5)
   ·obtain ⟨p', _, r', i', g2, g3, g4⟩ := xAg.1 g1;exact hh.near p' r' i' b g2 g3 g4
  ·exact hh.near p r i b h3 (hid p r i h3 hi) ho
/-! Results -/
def xH6 (tmps : Array Value) : ResultVar -> Sem Value
 | .tmp t => pure (tmps.getD t undef)
 | .cell a t => do loadVar t (<- asAddr (tmps.getD a undef))
def resL (tmps : Array Value) : List ResultVar -> Sem (List Value)
 | [] => pure []
 | r :: rs => do
  let x <- xH6 tmps r
  let xs <- resL tmps rs
  pure (x :: xs)
def single : List Value -> Value
 | [v] => v
 | vs => .tuple vs.toArray
theorem xMB (tmps : Array Value) : ∀ l : List ResultVar, l.mapM (xH6 tmps) = resL tmps l
 | [] => rfl
 | r :: l => by rw [List.mapM_cons, resL, xMB tmps l]
theorem xQw (fn : Func) (tmps : Array Value) : results fn tmps = (do let vs <- resL tmps fn.results.toList; pure (single vs)) := by
 have e : ∀ g : ResultVar -> Sem Value, (∀ r, g r = xH6 tmps r) -> (do let vs <- fn.results.mapM g; pure (if h : vs.size = 1 then vs[0] else .tuple vs) : Sem Value) = (do let vs <- resL tmps fn.results.toList; pure (single vs)) := by
  intro g hg;rw [show g = xH6 tmps from funext hg, Array.mapM_eq_mapM_toList, xMB];simp only [map_eq_pure_bind, bind_assoc, pure_bind];congr 1;funext vs
  match vs with
  | [] => rfl
  | [v] => rfl
  | v :: u :: vs => simp [single]
 exact e _ (fun r => by cases r <;> rfl)
def resP (P : Program) (K : Slo) (h : List Root) : ResultVar -> Option PV
 | .tmp t => match lkP K t with
  | some .un => none
  | r => r
 | .cell a t => match lkP K a with
  | some (.c (.pt _ _ _ _)) => match xVT P K h t (.tmp a) with
   | .val [] v => some v
   | _ => none
  | _ => none
def xVv (P : Program) (K : Slo) (h : List Root) : List ResultVar -> Option (List (Bool × List CV))
 | [] => some []
 | r :: l => match (resP P K h r).bind compP, xVv P K h l with
  | some x, some xs => some (x :: xs)
  | _, _ => none
def xRZ (P : Program) (K : Slo) (h : List Root) (l : List ResultVar) : Option PV :=
 match l with
 | [r] => resP P K h r
 | _ => match xVv P K h l with
  | some xs => some (.tu xs)
  | none => none
theorem xR0 (hK : KOk N D ρ K a) (hh : HOk S F W0 ρ h w) {r : ResultVar} {v : PV} (hv : resP P K h r = some v) : ∃ u, DenP ρ v u /\ (xH6 a.tmps r).run P w = .ok u w := by
 cases r with
 | tmp t =>
  simp only [resP] at hv;split at hv
  ·cases hv
  ·obtain ⟨u, h1, h2⟩ := hK.2.2 t v hv;exact ⟨u, h1, by simp [xH6, h2]⟩
 | cell x t =>
  simp only [resP] at hv;split at hv
  ·rename_i id k row j hpt;split at hv
   ·rename_i v' hs;cases hv;have hl := xPj (P := P) (o := ⟨none, .load t (.tmp x), t, "", #[], none⟩) hK hh (t := t) (x := .tmp x) (L := xGc K h ⟨none, .load t (.tmp x), t, "", #[], none⟩) rfl (fun c e id hid => by simpa only [xGc, e] using hid);rw [hs] at hl;obtain ⟨u, h1, h2⟩ := hl trivial;refine ⟨u, h1, ?_⟩;have h3 := h2 w (Agree.refl _ _ _ _);have h4 : ∃ ad, a.eval (.tmp x) = .pointer (some ad) := by
     obtain ⟨i, b, off, _, _, _, h8⟩ := xAb (x := .tmp x) hK hpt;exact ⟨_, h8⟩
    obtain ⟨ad, h5⟩ := h4;have h6 : a.tmps.getD x undef = .pointer (some ad) := h5;unfold execOp at h3;simp only [h5, Instr.loadAt, Instr.sureAddr, Sem.run_bind, Sem.run_pure, Result.andThen_ok] at h3;simp only [xH6, h6, asAddr, Sem.run_bind, Sem.run_pure, Result.andThen_ok]
    cases hq : (loadVar t ad).run P w with
    | ok x' w2 => rw [hq] at h3; simpa using h3
    | halt _ _ => rw [hq] at h3; cases h3
   ·cases hv
  ·cases hv
theorem xOY (hK : KOk N D ρ K a) (hh : HOk S F W0 ρ h w) : ∀ {l : List ResultVar} {xs : List (Bool × List CV)}, xVv P K h l = some xs -> ∃ us, DenT ρ xs us /\ (resL a.tmps l).run P w = .ok us w /\ us.length = l.length
 | [], xs, hx => by cases hx; exact ⟨[], rfl, rfl, rfl⟩
 | r :: l, xs, hx => by
  simp only [xVv] at hx;split at hx
  ·rename_i x q h1 h2;cases hx;obtain ⟨v, h3, h4⟩ := Option.bind_eq_some_iff.1 h1;obtain ⟨u, h5, h6⟩ := xR0 hK hh h3;obtain ⟨us, h7, h8, h9⟩ := xOY hK hh h2;refine ⟨u :: us, ⟨u, us, rfl, ?_, h7⟩, by simp only [resL, Sem.run_bind, h6, Result.andThen_ok, h8, Sem.run_pure], by simp [h9]⟩
   cases v with
   | c y => cases h4; exact ⟨y, rfl, h5⟩
   | ag m => cases h4; exact h5
   | tu m => cases h4
   | un => cases h4
  ·cases hx
theorem xKI {fn : Func} (hK : KOk N D ρ K a) (hh : HOk S F W0 ρ h w) {v : PV} (hv : xRZ P K h fn.results.toList = some v) : ∃ u, DenP ρ v u /\ (results fn a.tmps).run P w = .ok u w := by
 rw [xQw];generalize fn.results.toList = l at *;unfold xRZ at hv;split at hv
 ·rename_i r;obtain ⟨u, h1, h2⟩ := xR0 hK hh hv;exact ⟨u, h1, by simp only [resL, Sem.run_bind, h2, Result.andThen_ok, Sem.run_pure, single]⟩
 ·rename_i hne;split at hv
  ·rename_i xs hx;cases hv;obtain ⟨us, h1, h2, h3⟩ := xOY hK hh hx;refine ⟨.tuple us.toArray, ⟨us, h1, rfl⟩, ?_⟩;have : single us = .tuple us.toArray := by
    match us, l, h3, hne with
    | [], _, _, _ => rfl
    | [u], [r], _, hne => exact absurd rfl (hne r)
    | _ :: _ :: _, _, _, _ => rfl
   simp only [Sem.run_bind, h2, Result.andThen_ok, Sem.run_pure, this]
  ·cases hv
end
end
end Go.Proofs.YthmicafabimfkaaGreatDoor


namespace Go.Proofs.YthmicafabimfkaaGreatDoor
noncomputable section
open Go.RowKit
inductive PT where
 | done
 | rd (i : Nat) (t : PT)
 | go (i : Nat) (A : List Nat) (t : PT)
/-- Operations that only read. -/
def rdKind : Op -> Bool
 | .move _ | .assign _ | .pick .. | .load .. | .nilCheck _ | .binOp .. | .unOp .. | .convert .. | .fieldAddr .. | .field .. | .indexAddr .. | .index .. | .extract .. | .slice .. | .build .. | .lookup .. => true
 | .call ⟨.builtin .len, _, _⟩ | .call ⟨.builtin .min, _, _⟩ | .call ⟨.builtin .max, _, _⟩ => true
 | _ => false
/-- Operations that make something new, and do nothing else. -/
def xBV (o : Oper) : Bool :=
 match o.dst with
 | some _ => match o.op with
  | .alloc _ | .box _ _ | .buildSlice _ _ _ | .makeSlice _ _ _ => true
  | _ => false
 | none => false
def opAt (f : Oper -> Bool) (ops : Array Oper) (i : Nat) : Bool :=
 match ops[i]? with
 | some o => f o
 | none => false
def xGm (l : List Nat) (listed : Array Bool) : Array Bool := l.foldl (fun t i => t.setIfInBounds i true) listed
def only (md : Region.Mode) (ops : Array Oper) (listed : Array Bool) (A : List Nat) (i : Nat) : Bool :=
 match Region.ready md ops (xGm A listed) with
 | [j] => Nat.beq i j
 | _ => false
def without (i : Nat) : List Nat -> List Nat
 | [] => []
 | j :: l => bif Nat.beq i j then without i l else j :: without i l
def xLx (f : Nat -> Bool) : List Nat -> Option Nat
 | [] => none
 | i :: l => bif f i then some i else xLx f l
def xO2 (ops : Array Oper) : Nat -> Array Bool -> Option PT
 | 0, _ => none
 | n + 1, listed => match Region.ready .any ops listed with
  | [] => some .done
  | R => match xLx (fun i => opAt (fun o => rdKind o.op) ops i && Region.free .any ops listed i) R with
   | some i => match xO2 ops n (listed.setIfInBounds i true) with
    | some t => some (.rd i t)
    | none => none
   | none => match xLx (fun i => !opAt xBV ops i && only .any ops listed (R.filter (opAt xBV ops)) i) R with
    | some i => match xO2 ops n (listed.setIfInBounds i true) with
     | some t => some (.go i (R.filter (opAt xBV ops)) t)
     | none => none
    | none => match xLx (fun i => only .any ops listed (without i R) i) R with
     | some i => match xO2 ops n (listed.setIfInBounds i true) with
      | some t => some (.go i (without i R) t)
      | none => none
     | none => none
def planOf (ops : Array Oper) : Option PT := xO2 ops (ops.size + 1) (Array.replicate ops.size false)
section
variable {β : Type}
def disj (l m : List Nat) : Bool := l.all (fun x => m.all (fun y => !Nat.beq x y))
abbrev Reads := List (Nat × Option (List Nat))
/-- What has been read already is not touched, or only by what had to wait. -/
def calm (ops : Array Oper) (G : Reads) (i : Nat) (t : List Nat) : Bool :=
 G.all (fun p => (match p.2 with
  | some ids => disj ids t
  | none => false) || waits .any ops ops.size i p.1)
def xNj (t : List Nat) : Reads -> Reads
 | [] => []
 | (i, x) :: G => (i, match x with
  | some ids => bif disj ids t then some ids else none
  | none => none) :: xNj t G
def xSo (P : Program) (N : Nat) (call : xAT β) (ok : List Nat -> Bool) (K : Slo) (h : List Root) (o : Oper) (k : List Nat -> Slo -> List Root -> Option β) : Option β :=
 match xHi P K h o with
 | .val g v => gds g (xCZ N K o v h (k []))
 | .pick b x y => bif b then xCZ N K o x h (k []) else xCZ N K o y h (k [])
 | .stuck => match stepM P K h o with
  | .mem g v h' t => bif ok t then gds g (xCZ N K o v h' (k t)) else none
  | .call f args => call f args h (fun t v h' => bif ok t then xCZ N K o v h' (k t) else none)
  | _ => none
 | _ => none
def opRd (P : Program) (N : Nat) (K : Slo) (h : List Root) (o : Oper) (k : Slo -> Option β) : Option β :=
 match xHi P K h o with
 | .val g v => gds g (match xHr N K o.dst v with
  | some K' => k K'
  | none => none)
 | .pick b x y => bif b then (match xHr N K o.dst x with
   | some K' => k K'
   | none => none) else (match xHr N K o.dst y with
   | some K' => k K'
   | none => none)
 | _ => none
/-- An operation, with its guard; f carries it out, g leaves it. -/
def xJw (ops : Array Oper) (K : Slo) (o : Oper) (f g : Slo -> Option β) : Option β :=
 match xTl ops K o with
 | .go => f K
 | .no => g K
 | .test t b want => bif b then (bif want then f (xDj K t (.c (.sc (.bool true)))) else g (xDj K t (.c (.sc (.bool true)))))
   else (bif want then g (xDj K t (.c (.sc (.bool false)))) else f (xDj K t (.c (.sc (.bool false)))))
 | .bad => none
/-- Whether the guard of an operation is open. -/
def gdSt (ops : Array Oper) (K : Slo) (o : Oper) : Option Bool :=
 match xTl ops K o with
 | .go => some true
 | .no => some false
 | .test _ b want => some (bif b then want else !want)
 | _ => none
/-- What may come up early can be made, now; or it is left. -/
def early (P : Program) (N : Nat) (K : Slo) (h : List Root) (ops : Array Oper) : List Nat -> Option β -> Option β
 | [], r => r
 | e :: A, r => match ops[e]? with
  | some o => match o.dst, gdSt ops K o with
   | some d, some b => bif Nat.ble (d + 1) N then (bif b then (match xHi P K h o, stepM P K h o with
    | .stuck, .mem g _ _ [] => gds g (early P N K h ops A r)
    | _, _ => none) else early P N K h ops A r) else none
   | _, _ => none
  | none => none
def xDR (P : Program) (N : Nat) (ops : Array Oper) (call : xAT β) : PT -> Reads -> Slo -> List Root -> (Slo -> List Root -> Option β) -> Option β
 | .done, _, K, h, k => k K h
 | .rd i t, G, K, h, k => match ops[i]? with
  | some o => xJw ops K o (fun K => opRd P N K h o (fun K' => xDR P N ops call t ((i, some (xGc K h o)) :: G) K' h k)) (fun K => xCZ N K o .un h (fun K' h' => xDR P N ops call t G K' h' k))
  | none => none
 | .go i A t, G, K, h, k => match ops[i]? with
  | some o => early P N K h ops A (xJw ops K o (fun K => xSo P N call (calm ops G i) K h o (fun tt K' h' => xDR P N ops call t (xNj tt G) K' h' k)) (fun K => xCZ N K o .un h (fun K' h' => xDR P N ops call t G K' h' k)))
  | none => none
def xTK (l : List Nat) : Slo -> Slo
 | K => l.foldr (fun t K => delP K t) K
def xIV (P : Program) (N : Nat) (ops : Array Oper) (call : xAT β) (t : PT) (K : Slo) (h : List Root) (k : Slo -> List Root -> Option β) : Option β :=
 xDR P N ops call t [] (xTK ((ops.toList.filter xBV).filterMap (·.dst)) K) h k
/-- Whether a tree fits its operations. -/
def ptGo (ops : Array Oper) : PT -> Array Bool -> Bool
 | .done, listed => (Region.ready .any ops listed).isEmpty
 | .rd i t, listed => (Region.ready .any ops listed).contains i && Region.free .any ops listed i && !opAt xBV ops i && ptGo ops t (listed.setIfInBounds i true)
 | .go i A t, listed => (Region.ready .any ops listed).contains i && Region.free .any ops listed i && only .any ops listed A i && A.all (fun e => (Region.ready .any ops listed).contains e && Region.free .any ops listed e && opAt xBV ops e && !Nat.beq i e) &&
   (Region.ready .any ops listed).all (fun j => Nat.beq i j || !opAt xBV ops j || A.any (Nat.beq j)) && ptGo ops t (listed.setIfInBounds i true)
def xHf (ops : Array Oper) : Bool := (List.range ops.size).all fun j => !opAt xBV ops j || (match ops[j]? with
 | some oj => match oj.dst with
  | some d => !(oj.looksAt ops).contains d && (List.range ops.size).all (fun i => Nat.beq i j || (match ops[i]? with
   | some oi => match oi.dst with
    | some d' => !Nat.beq d d'
    | none => true
   | none => true))
  | none => false
 | none => false)
def ptOk (ops : Array Oper) (t : PT) : Bool := Region.noSelect ops && xHf ops && ptGo ops t (Array.replicate ops.size false)
/-! Code -/
inductive XT where
 | normal
 | exit (id : Nat)
 | ret
def XT.out : XT -> Exit
 | .normal => .normal
 | .exit id => .exit id
 | .ret => .ret
abbrev xFd (β : Type) := XT -> Slo -> List Root -> Option β
def xUL : Nat -> List PV -> Slo
 | _, [] => .nil
 | i, v :: l => xDj (xUL (i + 1) l) i v
def xM8 (body : Slo -> List Root -> xFd β -> Option β) : Nat -> Slo -> List Root -> xFd β -> Option β
 | 0, _, _, _ => none
 | n + 1, K, h, k => body K h (fun e K' h' => match e with
  | .normal => xM8 body n K' h' k
  | e => k e K' h')
def xDS (P : Program) (Fu : Nat) (pl : Nat -> Option PT) (call : xAT β) : Nat -> Nat -> Code -> Slo -> List Root -> xFd β -> Option β
 | 0, _, _, _, _, _ => none
 | d + 1, N, c, K, h, k => match c with
  | .skip => k .normal K h
  | .exit id => k (.exit id) K h
  | .ret => k .ret K h
  | .region _ ops false => xE5 P N ops call ops.toList K h (k .normal)
  | .region id ops true => match pl id with
   | some t => xIV P N ops call t K h (k .normal)
   | none => none
  | .seq x y => xDS P Fu pl call d N x K h (fun e K' h' => match e with
   | .normal => xDS P Fu pl call d N y K' h' k
   | e => k e K' h')
  | .cond c x y => match xAt K c with
   | some (.c (.sc (.bool b))) => bif b then xDS P Fu pl call d N x K h k else xDS P Fu pl call d N y K h k
   | _ => none
  | .block id x => xDS P Fu pl call d N x K h (fun e K' h' => match e with
   | .exit id' => bif Nat.beq id' id then k .normal K' h' else k (.exit id') K' h'
   | e => k e K' h')
  | .loop x => xM8 (fun K h k => xDS P Fu pl call d N x K h k) Fu K h k
  | _ => none
def lkN {α : Type} : List (Nat × α) -> Nat -> Option α
 | [], _ => none
 | (i, x) :: l, n => bif Nat.beq i n then some x else lkN l n
abbrev xF2 := List (Nat × List (Nat × PT))
def xAQ (A : xF2) (f : Nat) : Nat -> Option PT :=
 match lkN A f with
 | some l => lkN l
 | none => fun _ => none
/-- What is known of calls: the value, and what is new in memory. -/
abbrev Sums := FuncId -> List PV -> List Root -> Option (Option (PV × List Root))
def noSums : Sums := fun _ _ _ => none
/-- A call: known; or entered: it sees what its arguments reach. -/
def evCall (P : Program) (Fu : Nat) (A : xF2) (Sm : Sums) : Nat -> xAT β
 | 0, _, _, _, _ => none
 | d + 1, f, args, h, k => match Sm f args h with
  | some r => match r with
   | some (v, news) => k [] v (h ++ news)
   | none => none
  | none => match P.funcs[f]? with
   | some fn => match fn.body with
    | some c => xDS P Fu (xAQ A f) (evCall P Fu A Sm d) 10000 (args.length + (fn.ntmps - args.length)) c (xUL 0 args) (xSF (xBx h args) h) (fun e K' h' => match e with
     | .exit _ => none
     | _ => match xRZ P K' h' fn.results.toList with
      | some v => k (xBx h args) v (xEW (xBx h args) h h' 0)
      | none => none)
    | none => none
   | none => none
/-- Whether all regions of a code have plans that fit, where they have any. -/
def xAV (pl : Nat -> Option PT) : Code -> Bool
 | .region id ops true => match pl id with
  | some t => ptOk ops t
  | none => true
 | .seq x y => xAV pl x && xAV pl y
 | .cond _ x y => xAV pl x && xAV pl y
 | .block _ x => xAV pl x
 | .loop x => xAV pl x
 | _ => true
def xUn (P : Program) (p : Nat × List (Nat × PT)) : Bool :=
 match P.funcs[p.1]? with
 | some fn => match fn.body with
  | some c => xAV (lkN p.2) c
  | none => true
 | none => true
def xFc (P : Program) (A : xF2) : Prop := ∀ p ∈ A, xUn P p = true
end
end
end Go.Proofs.YthmicafabimfkaaGreatDoor


namespace Go.Proofs.YthmicafabimfkaaGreatDoor
noncomputable section
open Go.RowKit
section
variable {P : Program} {N : Nat} {D : List Deferred} {S F : List Nat} {W0 : World} {ρ : List Info} {K : Slo} {h : List Root} {w : World} {a : Act} {o : Oper}
def xKo (P : Program) (ρ : List Info) (h : List Root) (a : Act) (o : Oper) (v : PV) (h2 : List Root) : Prop :=
 ∃ (r : Root) (info : Nat -> Info) (mk : Nat -> Value) (obj : Obj), h2 = h ++ [r] /\ (∀ w : World, (execOp a.eval o).run P w = .ok (.value (mk w.heap.size)) (w.alloc obj)) /\
  ∀ (w1 : World) (b : Nat), w1.heap[b]? = some obj -> RootOk (ρ ++ [info b]) w1 (info b) r /\ DenP (ρ ++ [info b]) v (mk b) /\ (∀ c, foot (info b) r c -> c = b) /\ (∀ t, (info b).objs t = []) /\ r.tag = none
theorem xPb (hl : ρ.length = h.length) (i : Info) : (ρ ++ [i])[h.length]? = some i := by
 rw [List.getElem?_append_right (by omega), <- hl]; simp
theorem al_blk (hl : ρ.length = h.length) {cs : List CV} {T : TypeId} {arr : Array Value} (hd : DenL ρ cs arr.toList) (hrun : ∀ w : World, (execOp a.eval o).run P w = .ok (.value (.pointer (some ⟨w.heap.size, 0, none⟩))) (w.alloc (.cells arr T (0, 0)))) :
  xKo P ρ h a o (.c (.pt h.length 0 0 0)) (h ++ [.blk cs T]) := by
 refine ⟨_, fun b => ⟨some ⟨b, 0, none⟩, cs.length, none, .nilFunc⟩, fun b => .pointer (some ⟨b, 0, none⟩), .cells arr T (0, 0), rfl, hrun, fun w1 b hb => ⟨⟨⟨rfl, rfl⟩, b, arr.toList, rfl, hd.mono (Pre.app _ _), by simpa using hb⟩, ⟨_, b, 0, xPb hl _, rfl, ⟨fun m hm => (by cases hm), fun _ h0 => (by cases h0)⟩, rfl⟩, fun c hc => ?_, fun _ => rfl, rfl⟩⟩;simpa [foot, own, eq_comm] using hc
theorem xOv (hl : ρ.length = h.length) {T : TypeId} {τ : TC} {xs : List τ.ty} (hw : 0 < τ.w) {us : List Value} (hd : DenL ρ (flat τ xs) us) {arr : Array Value} {cap : Nat} (h1 : xs.length <= cap) (h2 : cap <= maxLen) (h3 : arr.size = cap * τ.w) (h4 : arr.toList.take (xs.length * τ.w) = us)
  (hrun : ∀ w : World, (execOp a.eval o).run P w = .ok (.value (.slice (some ⟨w.heap.size, 0, none⟩) xs.length cap)) (w.alloc (.cells arr T (0, 0)))) :
  xKo P ρ h a o (.c (.sl h.length τ.w 0 none none)) (h ++ [.rows T τ xs]) := by
 refine ⟨_, fun b => ⟨some ⟨b, 0, none⟩, cap, some xs.length, .nilFunc⟩, fun b => .slice (some ⟨b, 0, none⟩) xs.length cap, .cells arr T (0, 0), rfl, hrun, fun w1 b hb => ⟨⟨rfl, hw, us, hd.mono (Pre.app _ _), ?_, h1, h2, .inr ⟨b, 0, arr, rfl, hb, (by show 0 + cap * τ.w <= arr.size; omega), by simpa using h4⟩⟩, ⟨_, _, cap, xs.length, xPb hl _, rfl, h1, h2, fun _ => ⟨b, 0, rfl⟩, ⟨_, rfl, (Nat.sub_zero _).symm⟩, ⟨_, rfl, by omega⟩, (Nat.sub_zero _).symm, rfl, fun _ => rfl, fun _ => ?_⟩, fun c hc => ?_, fun _ => rfl, rfl⟩⟩
 ·rw [hd.len, xCU]
 ·simp [Addr.add]
 ·simpa [foot, own, eq_comm] using hc
theorem xVN (hK : KOk N D ρ K a) (hl : ρ.length = h.length) {t : TypeId} {l c : Operand} (ho : o.op = .makeSlice t l c) {g : List Bool} {v : PV} {h2 : List Root} {tt : List Nat} (hs : xQD P K h t l c = .mem g v h2 tt) (hg : AllB g) : xKo P ρ h a o v h2 := by
 have exec : ∀ {v : Value} {w w' : World}, (Instr.makeSlice t (a.eval l) (a.eval c)).run P w = .ok v w' -> (execOp a.eval o).run P w = .ok (.value v) w' := by
  intro v w w' hr;unfold execOp;simp only [ho];simp [Sem.run_bind, hr, Result.andThen]
 unfold xQD at hs;split at hs
 ·rename_i e hd;split at hs
  ·rename_i inf z hi hz;obtain ⟨zv, hzv, hzd⟩ := xCs (ρ := ρ) hz hi
   cases hc : (Nat.beq z.length inf.size && xJA inf.bytes && Nat.beq inf.size (xBo P 20 e).w && Nat.ble 1 inf.size) with
   | false => rw [hc] at hs; cases hs
   | true =>
    rw [hc] at hs;simp only [Bool.and_eq_true] at hc;obtain ⟨⟨⟨hc1, hc2⟩, hc3⟩, hc4⟩ := hc;have hzs : zv.cells.size = inf.size := by
     have h1 := hzd.len;have h2 := nbT hc1;simp at h1; omega
    have hsm : 1000000 * inf.bytes <= 140737488355328 := Nat.le_of_ble_eq_true hc2;have hsz := nbT hc3;have hpos := Nat.le_of_ble_eq_true hc4;have hbytes : ∀ q : Int, 0 <= q -> q <= 1000000 -> (inf.bytes : Int) * q <= 281474976710656 := fun q h0 hq => by
     have h1 := Nat.mul_le_mul_left inf.bytes (show q.toNat <= 1000000 by omega);have h2 : ((inf.bytes * q.toNat : Nat) : Int) <= 281474976710656 := by
      rw [Nat.mul_comm inf.bytes 1000000] at h1; omega
     rw [Int.natCast_mul] at h2;rwa [Int.toNat_of_nonneg h0] at h2
    simp only [cond_true] at hs;split at hs
    ·rename_i x y z0 hlx hcv hz0;have h5 : a.eval l = .int .i64 x := xAO (ρ := ρ) (xAb hK hlx);have h6 : a.eval c = .int .i64 y := xAO (ρ := ρ) (xAb hK hcv)
     cases hb : xQq l c with
     | true =>
      rw [hb] at hs;have hb' := xOU hb;subst hb';simp only [cond_true] at hs;rw [hlx] at hcv;cases hcv;cases hs;have hg1 : 0 <= x /\ x <= 1000000 := by simpa using hg.1
      have e2 := TC.dec1_enc hz0;have hn : (List.replicate x.toNat z0).length = x.toNat := List.length_replicate;have hdl : DenL ρ (flat (xBo P 20 e) (List.replicate x.toNat z0)) (madeCells zv.cells (x.toNat * inf.size)).toList := by
       rw [<- hzs, xBs, xHC, <- e2];exact xGb (xBm hzd) _
      rw [hsz];refine xOv hl (T := e) (by omega) hdl (arr := madeCells zv.cells (x.toNat * inf.size)) (cap := x.toNat) (by rw [hn]; exact Nat.le_refl _) (by unfold maxLen; omega) (by rw [size_madeCells, hsz]) (List.take_of_length_le (by rw [hn, <- hsz, Array.length_toList, size_madeCells]; exact Nat.le_refl _)) (fun w => exec (by rw [h5, hn]; exact run_make w t e inf zv hd hi hzv .i64 .i64 x x hg1.1 (Int.le_refl _) (hbytes x hg1.1 hg1.2) (by omega)))
     | false =>
      rw [hb] at hs;simp only [cond_false] at hs;split at hs
      ·cases hs;have hg1 : 0 <= y /\ y <= 1000000 := by simpa using hg.1
       rw [hsz];refine xOv hl (T := e) (τ := xBo P 20 e) (xs := []) (by omega) (us := []) rfl (arr := madeCells zv.cells (y.toNat * inf.size)) (cap := y.toNat) (Nat.zero_le _) (by unfold maxLen; omega) (by rw [size_madeCells, hsz]) (by simp) (fun w => exec (by rw [h5, h6]; exact run_make w t e inf zv hd hi hzv .i64 .i64 0 y (Int.le_refl _) hg1.1 (hbytes y hg1.1 hg1.2) (by omega)))
      ·cases hs
    ·cases hs
  ·cases hs
 ·cases hs
theorem xJv (hK : KOk N D ρ K a) (hl : ρ.length = h.length) {t : TypeId} {n : Nat} {parts : Array (Nat × Operand)} (ho : o.op = .buildSlice t n parts) {g : List Bool} {v : PV} {h2 : List Root} {tt : List Nat} (hs : xB7 P K h t n parts = .mem g v h2 tt) : xKo P ρ h a o v h2 := by
 have hmap : (parts.map fun (i, x) => (i, a.eval x)).toList = parts.toList.map (fun p => (p.1, a.eval p.2)) := by simp
 unfold xB7 at hs;split at hs
 ·rename_i e hd;split at hs
  ·rename_i inf z ps hi hz hp;obtain ⟨zv, hzv, hzd⟩ := xCs (ρ := ρ) hz hi
   cases hc : (Nat.beq z.length inf.size && Nat.beq inf.size (xBo P 20 e).w && Nat.ble 1 inf.size && Nat.ble (n * inf.size) 16777216) with
   | false => rw [hc] at hs; cases hs
   | true =>
    rw [hc] at hs;simp only [Bool.and_eq_true] at hc;obtain ⟨⟨⟨hc1, hc3⟩, hc4⟩, hc5⟩ := hc;have hzs : zv.cells.size = inf.size := by
     have h1 := hzd.len;have h2 := nbT hc1;simp at h1; omega
    have hsz := nbT hc3;have hpos := Nat.le_of_ble_eq_true hc4;have hmax := Nat.le_of_ble_eq_true hc5;simp only [cond_true] at hs;split at hs
    ·rename_i cs hcs;have hz0 : DenL ρ (repL n z) (madeCells zv.cells (n * inf.size)).toList := by
      rw [<- hzs, xBs];exact xGb hzd _
     obtain ⟨out, h3, h4⟩ := xEa hK hp (fun i => some (i * inf.size, inf.size)) _ (madeCells zv.cells (n * inf.size)) cs hz0 hcs;have fin : ∀ (τ : TC) (xs : List τ.ty) (cs' : List CV), DenL ρ cs' out.toList -> xFV τ n cs' = some xs -> inf.size = τ.w -> xKo P ρ h a o (.c (.sl h.length inf.size 0 none none)) (h ++ [.rows e τ xs]) := by
      intro τ xs cs' h3 hxs hsz;obtain ⟨e1, e2⟩ := xFU hxs;have hos : out.size = n * inf.size := by
       have h5 := h3.len;rw [e1, xCU, e2, <- hsz] at h5;simpa using h5
      have hm0 : ∀ zz : Array Value, n * inf.size = 0 -> (Array.range (n * inf.size)).map (fun x => zz[x % zz.size]!) = madeCells zv.cells (n * inf.size) := by
       intro zz h0; rw [h0]; simp [madeCells]
      have hrun : ∀ w : World, (execOp a.eval o).run P w = .ok (.value (.slice (some ⟨w.heap.size, 0, none⟩) n n)) (w.alloc (.cells out e (0, 0))) := by
       intro w;have hzv2 : (zeroValue e).run P w = .ok zv w := by simp [zeroValue, typeInfo, hi, hzv, Sem.run_bind, Result.andThen]
       unfold execOp;simp only [ho];have hlim : ¬ (n * inf.size > 2 ^ 24) := by omega
       have h4' : Instr.fill (fun i => some (i * inf.size, inf.size)) (madeCells zv.cells (n * inf.size)) (parts.map fun (i, x) => (i, a.eval x)).toList = some out := by rw [hmap]; exact h4
       by_cases h0 : n * inf.size = 0
       ·simp only [Instr.buildSlice, Sem.run_bind, run_underlying hd, Result.andThen_ok, xAn hi, if_neg hlim, Sem.run_pure, if_pos h0, hm0 _ h0, h4'];rfl
       ·have h4'' : Instr.fill (fun i => some (i * inf.size, inf.size)) ((Array.range (n * inf.size)).map (fun x => zv.cells[x % zv.cells.size]!)) (parts.map fun (i, x) => (i, a.eval x)).toList = some out := h4';simp only [Instr.buildSlice, Sem.run_bind, run_underlying hd, Result.andThen_ok, xAn hi, if_neg hlim, Sem.run_pure, if_neg h0, hzv2, h4''];rfl
      have hmax2 : n <= maxLen := by
       unfold maxLen;have := Nat.le_mul_of_pos_right n hpos;omega
      rw [hsz];exact xOv hl (T := e) (by omega) (us := out.toList) (by rw [<- e1]; exact h3) (arr := out) (cap := n) (by rw [e2]; exact Nat.le_refl _) hmax2 (by rw [hos, hsz]) (List.take_of_length_le (by rw [Array.length_toList, e2, <- hsz, hos]; exact Nat.le_refl _)) (fun w => by rw [e2]; exact hrun w)
     split at hs
     ·rename_i xs hxs;cases hs;exact fin _ xs _ (xBm h3) hxs hsz
     ·cases hrw : Nat.beq (xNF (xBo P 20 e)).w (xBo P 20 e).w with
      | false => rw [hrw] at hs; cases hs
      | true =>
       rw [hrw] at hs;simp only [cond_true] at hs;split at hs
       ·rename_i xs hxs;cases hs;exact fin _ xs _ h3 hxs (by rw [hsz, nbT hrw])
       ·cases hs
    ·cases hs
  ·cases hs
 ·cases hs
theorem xQc {P : Program} {K : Slo} {h : List Root} {o : Oper} (ha : xBV o = true) : stepM P K h o = xCE P K h o := by
 refine xNr ?_;unfold xBV at ha;unfold ghost;split at ha
 ·split at ha <;> first | (rename_i ho; rw [ho]; done) | (cases ha; done)
 ·cases ha
theorem al_ok (hK : KOk N D ρ K a) (hl : ρ.length = h.length) (ha : xBV o = true) {g : List Bool} {v : PV} {h2 : List Root} {t : List Nat} (hs : stepM P K h o = .mem g v h2 t) (hg : AllB g) : xKo P ρ h a o v h2 := by
 rw [xQc ha] at hs;unfold xBV at ha;split at ha
 ·split at ha
  ·rename_i T ho;unfold xCE at hs;rw [ho] at hs;simp only at hs;split at hs
   ·rename_i cs hz;cases hs;obtain ⟨x, h1, h2⟩ := xHl (ρ := ρ) hz;refine al_blk hl (arr := x.cells) h1 (fun w => ?_);unfold execOp;simp only [ho];simp only [Instr.alloc, Sem.run_bind, h2 w, Result.andThen_ok, Sem.run_pure];rfl
   ·cases hs
  ·rename_i T x ho;unfold xCE at hs;rw [ho] at hs;simp only at hs;split at hs
   ·rename_i cs hx;cases hs;obtain ⟨p, h1, h2⟩ := Option.bind_eq_some_iff.1 hx;refine al_blk hl (arr := (a.eval x).cells) (xFZ (xAb hK h1) h2) (fun w => ?_);unfold execOp;simp only [ho];rfl
   ·cases hs
  ·rename_i t n parts ho;unfold xCE at hs;rw [ho] at hs;exact xJv hK hl ho hs
  ·rename_i t l c ho;unfold xCE at hs;rw [ho] at hs;exact xVN hK hl ho hs hg
  ·cases ha
 ·cases ha
end
end
end Go.Proofs.YthmicafabimfkaaGreatDoor
