/- A part of the proof of the theorem of the last file. No condition. By an AI agent. -/
import Derived.Test.YtnomnijhlbalaaaGreatDoorWZO
import Derived.LoopN
namespace Go.Proofs.YtnomnijhlbalaaaGreatDoor
noncomputable section
open Go.RowKit
noncomputable def delP (K : Slo) (t : Nat) : Slo :=
 Slo.rec (motive := fun _ => Nat -> Slo) (fun _ => .nil) (fun u l r il ir n => Bool.rec (Bool.rec (.node u l (ir (Slo.way n))) (.node u (il (Slo.way n)) r) (Slo.odd n)) (.node none l r) (Nat.beq n 0)) K t
theorem xW7 (u : Option PV) (l r : Slo) (t : Nat) : delP (.node u l r) t = bif Nat.beq t 0 then .node none l r else bif Slo.odd t then .node u (delP l (Slo.way t)) r else .node u l (delP r (Slo.way t)) := by
 show @Bool.rec (fun _ => Slo) (@Bool.rec (fun _ => Slo) (.node u l (delP r (Slo.way t))) (.node u (delP l (Slo.way t)) r) (Slo.odd t)) (.node none l r) (Nat.beq t 0) = _;cases Nat.beq t 0
 ·cases Slo.odd t <;> rfl
 ·rfl
theorem xL4 : ∀ (t : Nat) (K : Slo) (s : Nat), lkP (delP K t) s = if s = t then none else lkP K s
 | t, .nil, s => by show lkP .nil s = _; rw [xE7]; split <;> rfl
 | t, .node u l r, s => by
  rw [xW7]
  cases ht : Nat.beq t 0 with
  | true =>
   have := nbT ht;subst this;simp only [cond_true, xCp]
   cases hs : Nat.beq s 0 with
   | true => have := nbT hs; subst this; rfl
   | false => rw [if_neg (Nat.ne_of_beq_eq_false hs)]; rfl
  | false =>
   simp only [cond_false]
   cases ho : Slo.odd t with
   | true =>
    simp only [cond_true, xCp]
    cases hs : Nat.beq s 0 with
    | true =>
     have e := nbT hs;rw [if_neg (fun e' => by rw [<- e', e] at ht; cases ht)]; rfl
    | false =>
     simp only [cond_false]
     cases hso : Slo.odd s with
     | false => rw [if_neg (fun e' => by rw [e', ho] at hso; cases hso)]; rfl
     | true =>
      simp only [cond_true, xL4 _ l];by_cases hw : Slo.way s = Slo.way t
      ·rw [if_pos hw, if_pos (Slo.way_eq hs ht (by rw [hso, ho]) hw)]
      ·rw [if_neg hw, if_neg (fun e => hw (by rw [e]))]
   | false =>
    simp only [cond_false, xCp]
    cases hs : Nat.beq s 0 with
    | true =>
     have e := nbT hs;rw [if_neg (fun e' => by rw [<- e', e] at ht; cases ht)]; rfl
    | false =>
     simp only [cond_false]
     cases hso : Slo.odd s with
     | true => rw [if_neg (fun e' => by rw [e', ho] at hso; cases hso)]; rfl
     | false =>
      simp only [cond_false, xL4 _ r];by_cases hw : Slo.way s = Slo.way t
      ·rw [if_pos hw, if_pos (Slo.way_eq hs ht (by rw [hso, ho]) hw)]
      ·rw [if_neg hw, if_neg (fun e => hw (by rw [e]))]
def xHT (N : Nat) (K : Slo) : Option Tmp -> PV -> Option Slo
 | none, _ => some K
 | some t, v => bif Nat.ble (t + 1) N then some (xDr K t v) else none
section
variable {P : Program} {N : Nat} {D : List Deferred} {S F : List Nat} {W0 : World} {ρ : List Info} {K : Slo} {h : List Root} {w : World} {a : Act} {o : Oper}
theorem xFI {K' : Slo} (hK : KOk N D ρ K a) {d : Option Tmp} {v : PV} {u : Value} (hv : DenP ρ v u) (hs : xHT N K d v = some K') : KOk N D ρ K' (a.put d u) := by
 cases d with
 | none => simp only [xHT, Option.some.injEq] at hs; subst hs; exact hK
 | some t =>
  simp only [xHT] at hs
  cases hb : Nat.ble (t + 1) N with
  | false => rw [hb] at hs; cases hs
  | true =>
   rw [hb] at hs;simp only [cond_true, Option.some.injEq] at hs;subst hs;have ht : t < a.tmps.size := by rw [hK.1]; exact Nat.le_of_ble_eq_true hb
   refine ⟨by simp [Act.put, hK.1], hK.2.1, fun s p hp => ?_⟩;rw [xBq] at hp;split at hp
   ·rename_i e;subst e;cases hp;exact ⟨u, hv, by simp [Act.put, ht]⟩
   ·rename_i e;obtain ⟨x, h1, h2⟩ := hK.2.2 s p hp;refine ⟨x, h1, ?_⟩;simp only [Act.put];rw [Array.getElem?_setIfInBounds_ne (Ne.symm e)];exact h2
theorem KOk.bool (hK : KOk N D ρ K a) {t : Nat} {b : Bool} (ht : lkP K t = some (.c (.sc (.bool b)))) (c : Bool) (e : b = c) : KOk N D ρ (xDr K t (.c (.sc (.bool c)))) a := by
 subst e;refine ⟨hK.1, hK.2.1, fun s p hp => ?_⟩;rw [xBq] at hp;split at hp
 ·rename_i e; subst e; cases hp; exact hK.2.2 _ _ ht
 ·exact hK.2.2 s p hp
end
def gds {β : Type} : List Bool -> Option β -> Option β
 | [], r => r
 | b :: g, r => bif b then gds g r else none
theorem xBH {β : Type} {r : β} : ∀ {g : List Bool} {x : Option β}, gds g x = some r -> AllB g /\ x = some r
 | [], x, h => ⟨trivial, h⟩
 | b :: g, x, h => by
  cases b with
  | true => obtain ⟨h1, h2⟩ := xBH (g := g) h; exact ⟨⟨rfl, h1⟩, h2⟩
  | false => cases h
inductive Gd where
 | go
 | no
 | test (t : Nat) (b want : Bool)
 | bad
def xWp (ops : Array Oper) (K : Slo) (o : Oper) : Gd :=
 match o.guard with
 | none => .go
 | some (j, want) => match (ops[j]?).bind (·.dst) with
  | some t => match lkP K t with
   | some (.c (.sc (.bool b))) => .test t b want
   | some .un => .no
   | _ => .bad
  | none => .bad
abbrev xAT (β : Type) := FuncId -> List PV -> List Root -> (List Nat -> PV -> List Root -> Option β) -> Option β
section
variable {β : Type}
def xC5 (N : Nat) (K : Slo) (o : Oper) (v : PV) (h : List Root) (k : Slo -> List Root -> Option β) : Option β :=
 match xHT N K o.dst v with
 | some K' => k K' h
 | none => none
def opGo (P : Program) (N : Nat) (call : xAT β) (K : Slo) (h : List Root) (o : Oper) (k : Slo -> List Root -> Option β) : Option β :=
 match xHz P K h o with
 | .val g v => gds g (xC5 N K o v h k)
 | .pick b x y => bif b then xC5 N K o x h k else xC5 N K o y h k
 | .stuck => match stepM P K h o with
  | .mem g v h' _ => gds g (xC5 N K o v h' k)
  | .call f args => call f args h (fun _ v h' => xC5 N K o v h' k)
  | _ => none
 | _ => none
def xNB (P : Program) (N : Nat) (ops : Array Oper) (call : xAT β) (K : Slo) (h : List Root) (o : Oper) (k : Slo -> List Root -> Option β) : Option β :=
 match xWp ops K o with
 | .go => opGo P N call K h o k
 | .no => xC5 N K o .un h k
 | .test t b want => bif b then (bif want then opGo P N call (xDr K t (.c (.sc (.bool true)))) h o k else xC5 N (xDr K t (.c (.sc (.bool true)))) o .un h k)
   else (bif want then xC5 N (xDr K t (.c (.sc (.bool false)))) o .un h k else opGo P N call (xDr K t (.c (.sc (.bool false)))) h o k)
 | .bad => none
def xFe (P : Program) (N : Nat) (ops : Array Oper) (call : xAT β) : List Oper -> Slo -> List Root -> (Slo -> List Root -> Option β) -> Option β
 | [], K, h, k => k K h
 | o :: r, K, h, k => xNB P N ops call K h o (fun K' h' => xFe P N ops call r K' h' k)
def xSW : CV -> List Nat
 | .sl id _ _ _ _ => [id]
 | .pt id _ _ _ => [id]
 | .hv id => [id]
 | .sc _ => []
 | .er _ => []
 | .rf _ _ _ => []
 | .rp _ _ _ _ _ => []
 | .any => []
def idsP : PV -> List Nat
 | .c x => xSW x
 | .ag l => l.flatMap xSW
 | .tu l => l.flatMap (fun p => p.2.flatMap xSW)
 | .un => []
def xAC : TC -> Bool
 | .cv => true
 | .pair a b => xAC a || xAC b
 | _ => false
def xUs : Root -> List Nat
 | .blk cs _ => cs.flatMap xSW
 | .rows _ τ xs => bif xAC τ then (flat τ xs).flatMap xSW else []
 | .ro τ xs => bif xAC τ then (flat τ xs).flatMap xSW else []
 | .clo _ a b => a.flatMap xSW ++ b.flatMap xSW
 | .mp _ _ τ ts => bif xAC τ then ts.flatMap (fun e => (τ.enc e.2).flatMap xSW) else []
 | .ars _ _ τ os => bif xAC τ then os.flatMap (fun o => match o with
  | some xs => (flat τ xs).flatMap xSW
  | none => []) else []
 | .aro _ _ τ os => bif xAC τ then (flat τ os).flatMap xSW else []
 | .arm _ _ _ τ os => bif xAC τ then os.flatMap (fun o => match o with
  | some m => m.flatMap (fun e => (τ.enc e.2).flatMap xSW)
  | none => []) else []
 | .arr _ τ os => bif xAC τ then os.flatMap (fun xs => (flat τ xs).flatMap xSW) else []
 | _ => []
def xPg : Nat -> List Root -> List Nat -> List Nat -> List Nat
 | 0, _, _, seen => seen
 | n + 1, h, todo, seen => match todo with
  | [] => seen
  | id :: todo => bif seen.any (Nat.beq id) then xPg n h todo seen else xPg n h ((match h[id]? with
    | some r => xUs r
    | none => []) ++ todo) (id :: seen)
def xOS : List Root -> Nat -> List Nat
 | [], _ => []
 | r :: h, p => match r.tag with
  | some _ => p :: xOS h (p + 1)
  | none => xOS h (p + 1)
theorem xJ6 : ∀ {h : List Root} {p q : Nat} {r : Root}, h[q]? = some r -> r.tag ≠ none -> p + q ∈ xOS h p
 | [], _, _, _, e, _ => by simp at e
 | x :: h, p, 0, r, e, ht => by
  simp only [List.getElem?_cons_zero, Option.some.injEq] at e;subst e;simp only [xOS];split
  ·simp
  ·rename_i hn; exact absurd hn ht
 | x :: h, p, q + 1, r, e, ht => by
  have ih := xJ6 (p := p + 1) (q := q) (r := r) (by simpa using e) ht;simp only [xOS];have e2 : p + (q + 1) = p + 1 + q := by omega
  rw [e2];split
  ·exact List.mem_cons_of_mem _ ih
  ·exact ih
def xA5 (h : List Root) (args : List PV) : List Nat := xOS h 0 ++ xPg 1000 h (args.flatMap idsP ++ (xOS h 0).flatMap (fun p => match h[p]? with
 | some r => xUs r
 | none => [])) []
theorem xKA {h : List Root} {args : List PV} {q : Nat} {r : Root} (hq : h[q]? = some r) (ht : r.tag ≠ none) : q ∈ xA5 h args := by
 have := xJ6 (p := 0) hq ht;rw [Nat.zero_add] at this;exact List.mem_append_left _ this
def xEL (R : List Nat) : List Root -> List Root -> Nat -> List Root
 | [], h', _ => h'
 | _ :: _, [], _ => []
 | r :: h, r' :: h', p => (bif R.any (Nat.beq p) then r' else r) :: xEL R h h' (p + 1)
def xAS (P : Program) (call : xAT β) : Prop :=
 ∀ f args h k r, call f args h k = some r -> ∀ S F W0 ρ w vs, DenArgs ρ args vs -> HOk S F W0 ρ h w -> xBa P f = true ->
  Calls P f vs.toArray w (fun e w' => ∃ ρ' h' v u B t, e = .returned u /\ Pre ρ ρ' /\ DenP ρ' v u /\ HOk S F W0 ρ' h' w' /\ k t v h' = some r /\ Ex B w w' /\
   (∀ b ∈ B, ∃ p ∈ t, ∃ r i, h[p]? = some r /\ ρ[p]? = some i /\ own i r b) /\ (∀ q : Nat, q ∉ t -> q < h.length -> h'[q]? = h[q]?) /\ Feet ρ h w ρ' h')
end
section
variable {P : Program} {N : Nat} {D : List Deferred} {S F : List Nat} {W0 : World} {ρ : List Info} {K : Slo} {h : List Root} {w : World} {a : Act} {o : Oper} {β : Type} {r : β} {call : xAT β} {ops : Array Oper}
def Behind (P : Program) (N : Nat) (D : List Deferred) (S F : List Nat) (W0 : World) (ρ : List Info) (k : Slo -> List Root -> Option β) (r : β) (a : Act) (w : World) : Prop :=
 ∃ ρ' K' h', Pre ρ ρ' /\ KOk N D ρ' K' a /\ HOk S F W0 ρ' h' w /\ k K' h' = some r
theorem xA9 (hK : KOk N D ρ K a) (hh : HOk S F W0 ρ h w) {v : PV} {u : Value} (hv : DenP ρ v u) {k : Slo -> List Root -> Option β} (hr : xC5 N K o v h k = some r) : Behind P N D S F W0 ρ k r (a.put o.dst u) w := by
 unfold xC5 at hr;split at hr
 ·rename_i K' hK'; exact ⟨ρ, K', h, Pre.refl _, xFI hK hv hK', hh, hr⟩
 ·cases hr
theorem Behind.pre {k : Slo -> List Root -> Option β} {ρ' : List Info} (hp : Pre ρ ρ') (hb : Behind P N D S F W0 ρ' k r a w) : Behind P N D S F W0 ρ k r a w := by
 obtain ⟨ρ2, K', h', h1, h2⟩ := hb;exact ⟨ρ2, K', h', hp.trans h1, h2⟩
theorem xPo (hcall : xAS P call) (hK : KOk N D ρ K a) (hh : HOk S F W0 ρ h w) {k : Slo -> List Root -> Option β} (hr : opGo P N call K h o k = some r) {Q : Exit -> Act -> World -> Prop} {next : Act -> World -> Prop} (hn : ∀ a' w', Behind P N D S F W0 ρ k r a' w' -> next a' w') : o.wp P a w next Q := by
 unfold opGo at hr;have hv := xHQ (P := P) (o := o) hK hh;split at hr
 ·rename_i g v hs;rw [hs] at hv;obtain ⟨h1, h2⟩ := xBH hr;obtain ⟨u, h3, h4⟩ := hv h1;unfold Oper.wp;rw [h4 w (Agree.refl _ _ _ _), Oper.upon_value];exact hn _ _ (xA9 hK hh h3 h2)
 ·rename_i b x y hs;rw [hs] at hv;obtain ⟨u, h3, h4⟩ := hv;unfold Oper.wp;rw [h4 w (Agree.refl _ _ _ _), Oper.upon_value]
  cases b with
  | true => exact hn _ _ (xA9 hK hh h3 hr)
  | false => exact hn _ _ (xA9 hK hh h3 hr)
 ·have hm := xLH (P := P) (o := o) hK hh;split at hr
  ·rename_i g v h' t hs;rw [hs] at hm;obtain ⟨h1, h2⟩ := xBH hr;obtain ⟨ρ', u, nx, w', B, q1, q2, q3, q4, q5, q6, q7, _, _⟩ := hm h1;unfold Oper.wp;rw [q4];have := xA9 (P := P) (o := o) (hK.mono q1) q5 q2 h2;rcases q3 with rfl | ⟨rfl, rfl⟩
   ·rw [Oper.upon_value]; exact hn _ _ (this.pre q1)
   ·rw [Oper.upon_skip]; exact hn _ _ (this.pre q1)
  ·rename_i f args hs;rw [hs] at hm;obtain ⟨vs, q1, q2, q3⟩ := hm;unfold Oper.wp;rw [q1, Oper.upon_enter];refine (hcall f args h _ r hr S F W0 ρ w vs q3 hh q2).mono fun e w' he => ?_;obtain ⟨ρ', h', v, u, B, t, rfl, e1, e2, e3, e4, _⟩ := he;exact hn _ _ ((xA9 (P := P) (o := o) (hK.mono e1) e3 e2 e4).pre e1)
  ·cases hr
 ·cases hr
theorem xMj (hK : KOk N D ρ K a) (hg : xWp ops K o = .go) : Region.wanted o (yielded ops a.tmps) = true := by
 unfold xWp at hg;unfold Region.wanted
 cases ho : o.guard with
 | none => rfl
 | some p =>
  obtain ⟨j, want⟩ := p;rw [ho] at hg;simp only at hg;split at hg
  ·split at hg <;> cases hg
  ·cases hg
theorem xMi (hK : KOk N D ρ K a) (hg : xWp ops K o = .no) : Region.wanted o (yielded ops a.tmps) = false := by
 unfold xWp at hg;unfold Region.wanted
 cases ho : o.guard with
 | none => rw [ho] at hg; cases hg
 | some p =>
  obtain ⟨j, want⟩ := p;rw [ho] at hg;simp only at hg ⊢;unfold yielded;split at hg
  ·rename_i t ht;rw [ht];split at hg
   ·cases hg
   ·rename_i hl;obtain ⟨v, h1, h2⟩ := hK.2.2 t _ hl;have : v = undef := h1;subst this;simp [h2, undef]
   ·cases hg
  ·cases hg
theorem xF5 (hK : KOk N D ρ K a) {t : Nat} {b want : Bool} (hg : xWp ops K o = .test t b want) : Region.wanted o (yielded ops a.tmps) = (b == want) /\ lkP K t = some (.c (.sc (.bool b))) := by
 unfold xWp at hg;unfold Region.wanted
 cases ho : o.guard with
 | none => rw [ho] at hg; cases hg
 | some p =>
  obtain ⟨j, want'⟩ := p;rw [ho] at hg;simp only at hg ⊢;unfold yielded;split at hg
  ·rename_i t' ht;rw [ht];split at hg
   ·rename_i b' hl;cases hg;obtain ⟨v, h1, h2⟩ := hK.2.2 _ _ hl;have : v = .bool b := h1.1;subst this;exact ⟨by simp [h2], hl⟩
   ·cases hg
   ·cases hg
  ·cases hg
theorem xUS (hcall : xAS P call) (hK : KOk N D ρ K a) (hh : HOk S F W0 ρ h w) {k : Slo -> List Root -> Option β} (hr : xNB P N ops call K h o k = some r) {Q : Exit -> Act -> World -> Prop} {next : Act -> World -> Prop} (hn : ∀ a' w', Behind P N D S F W0 ρ k r a' w' -> next a' w') :
  if Region.wanted o (yielded ops a.tmps) then o.wp P a w next Q else next (a.put o.dst undef) w := by
 unfold xNB at hr;split at hr
 ·rename_i hg;rw [if_pos (xMj hK hg)];exact xPo hcall hK hh hr hn
 ·rename_i hg;rw [if_neg (by rw [xMi hK hg]; simp)];exact hn _ _ (xA9 (v := .un) (u := undef) hK hh rfl hr)
 ·rename_i t b want hg;obtain ⟨h1, h2⟩ := xF5 hK hg
  cases b with
  | true =>
   simp only [cond_true] at hr;have hK' := hK.bool h2 true rfl
   cases want with
   | true => rw [if_pos (by rw [h1]; rfl)]; exact xPo hcall hK' hh hr hn
   | false => rw [if_neg (by rw [h1]; simp)]; exact hn _ _ (xA9 (v := .un) (u := undef) hK' hh rfl hr)
  | false =>
   simp only [cond_false] at hr;have hK' := hK.bool h2 false rfl
   cases want with
   | true => rw [if_neg (by rw [h1]; simp)]; exact hn _ _ (xA9 (v := .un) (u := undef) hK' hh rfl hr)
   | false => rw [if_pos (by rw [h1]; rfl)]; exact xPo hcall hK' hh hr hn
 ·cases hr
theorem xDM (hcall : xAS P call) {Q : Exit -> Act -> World -> Prop} (rest : List Oper) : ∀ (l : List Oper) (ρ : List Info) (K : Slo) (h : List Root) (a : Act) (w : World) (k : Slo -> List Root -> Option β), xFe P N ops call l K h k = some r -> KOk N D ρ K a -> HOk S F W0 ρ h w ->
  (∀ a' w', Behind P N D S F W0 ρ k r a' w' -> wpList P ops Q rest a' w') -> wpList P ops Q (l ++ rest) a w
 | [], ρ, K, h, a, w, k, hr, hK, hh, hn => hn a w ⟨ρ, K, h, Pre.refl _, hK, hh, hr⟩
 | o :: l, ρ, K, h, a, w, k, hr, hK, hh, hn => by
  have step := xUS (ops := ops) (o := o) hcall hK hh hr (Q := Q) (next := wpList P ops Q (l ++ rest)) (fun a' w' hb => by
   obtain ⟨ρ', K', h', h1, h2, h3, h4⟩ := hb;exact xDM hcall rest l ρ' K' h' a' w' k h4 h2 h3 (fun a2 w2 hb2 => hn a2 w2 (hb2.pre h1)))
  show wpList P ops Q (o :: (l ++ rest)) a w;unfold wpList;split
  ·rename_i hw; rw [if_pos hw] at step; exact .inl step
  ·rename_i hw; rw [if_neg hw] at step; exact step
end
end
noncomputable section
open Go.RowKit
section
variable {P : Program} {N : Nat} {D : List Deferred} {S F : List Nat} {W0 : World} {ρ ρ' : List Info} {K : Slo} {h h' : List Root} {w w' : World} {a : Act} {o : Oper}
inductive Wh where
 | own
 | foot
@[reducible] def Wh.rel : Wh -> Info -> Root -> Nat -> Prop
 | .own => Go.Proofs.YtnomnijhlbalaaaGreatDoor.own
 | .foot => Go.Proofs.YtnomnijhlbalaaaGreatDoor.foot
def Wh.list : Wh -> Info -> Root -> List Nat
 | .own => ownL
 | .foot => xZT
theorem Wh.mem {f : Wh} {i : Info} {r : Root} {b : Nat} : b ∈ f.list i r ↔ f.rel i r b := by
 cases f with
 | own => exact xQR
 | foot => exact xWs
def xAp (f : Wh) (ρ : List Info) (h : List Root) (R : List Nat) : List Nat :=
 R.flatMap (fun p => match h[p]?, ρ[p]? with
  | some r, some i => f.list i r
  | _, _ => [])
theorem xAe {f : Wh} {R : List Nat} {b : Nat} : b ∈ xAp f ρ h R ↔ ∃ p ∈ R, ∃ r i, h[p]? = some r /\ ρ[p]? = some i /\ f.rel i r b := by
 unfold xAp;rw [List.mem_flatMap];constructor
 ·rintro ⟨p, hp, hm⟩
  split at hm
  ·rename_i r i hr hi; exact ⟨p, hp, r, i, hr, hi, Wh.mem.1 hm⟩
  ·cases hm
 ·rintro ⟨p, hp, r, i, hr, hi, hf⟩
  exact ⟨p, hp, by rw [hr, hi]; exact Wh.mem.2 hf⟩
theorem xC7 {R : List Nat} {p : Nat} : R.any (Nat.beq p) = true ↔ p ∈ R := by
 rw [List.any_eq_true];constructor
 ·rintro ⟨x, hx, hb⟩; rw [nbT hb]; exact hx
 ·intro hp; exact ⟨p, hp, Nat.beq_refl p⟩
theorem HOk.enter (hh : HOk S F W0 ρ h w) (R : List Nat) : HOk (xAp .own ρ h R) (xAp .foot ρ h R) w ρ (xVi R h) w := by
 have hm := hh.masked R;refine ⟨Ex.refl _ _, hm.len, hm.ok, hm.sep, fun p r i b hr hi ho => ?_, fun p r i b hr hi ho => ?_, hh.layW, fun b hb => ⟨hh.outW hb, fun hm => (by obtain ⟨p, _, r, i, hr, hi, ho⟩ := xAe.1 hm; exact hh.notOwn hb hr hi ho)⟩, hm.cov, hm.cln⟩
 ·rcases xCb R h 0 p r hr with ⟨h1, h2⟩ | ⟨rfl, _⟩
  ·exact .inr (xAe.2 ⟨p, xC7.1 (by simpa using h2), r, i, h1, hi, ho⟩)
  ·cases ho
 ·rcases xCb R h 0 p r hr with ⟨h1, h2⟩ | ⟨rfl, _⟩
  ·exact .inr (.inr (xAe.2 ⟨p, xC7.1 (by simpa using h2), r, i, h1, hi, ho⟩))
  ·exact absurd ho xBk
theorem xBj (R : List Nat) : ∀ (h h' : List Root) (p q : Nat) (r : Root), h.length <= h'.length -> (xEL R h h' p)[q]? = some r ->
  (h'[q]? = some r /\ (q < h.length -> R.any (Nat.beq (p + q)) = true)) \/ (h[q]? = some r /\ R.any (Nat.beq (p + q)) = false)
 | [], h', p, q, r, _, e => .inl ⟨e, fun hq => absurd hq (Nat.not_lt_zero _)⟩
 | x :: h, [], p, q, r, hl, e => by simp at hl
 | x :: h, y :: h', p, 0, r, hl, e => by
  simp only [xEL, List.getElem?_cons_zero, Option.some.injEq] at e
  cases hb : R.any (Nat.beq p) with
  | true => rw [hb] at e; exact .inl ⟨by simpa using e, fun _ => by simp⟩
  | false => rw [hb] at e; exact .inr ⟨by simpa using e, by simp⟩
 | x :: h, y :: h', p, q + 1, r, hl, e => by
  simp only [xEL, List.getElem?_cons_succ] at e;rcases xBj R h h' (p + 1) q r (by simpa using hl) e with ⟨h1, h2⟩ | ⟨h1, h2⟩
  ·exact .inl ⟨by simpa using h1, fun hq => by rw [show p + (q + 1) = p + 1 + q by omega]; exact h2 (by simpa using hq)⟩
  ·exact .inr ⟨by simpa using h1, by rw [show p + (q + 1) = p + 1 + q by omega]; exact h2⟩
theorem xIW (R : List Nat) : ∀ (h h' : List Root) (p : Nat), h.length <= h'.length -> (xEL R h h' p).length = h'.length
 | [], _, _, _ => rfl
 | x :: h, [], p, hl => by simp at hl
 | x :: h, y :: h', p, hl => by simp only [xEL, List.length_cons, xIW R h h' (p + 1) (by simpa using hl)]
theorem xIX (R : List Nat) : ∀ (h h' : List Root) (p q : Nat), h.length <= h'.length -> R.any (Nat.beq (p + q)) = false -> q < h.length -> (xEL R h h' p)[q]? = h[q]?
 | [], _, _, _, _, _, hq => absurd hq (Nat.not_lt_zero _)
 | x :: h, [], p, _, hl, _, _ => by simp at hl
 | x :: h, y :: h', p, 0, hl, hb, _ => by simp only [xEL]; rw [show R.any (Nat.beq p) = false by simpa using hb]; simp
 | x :: h, y :: h', p, q + 1, hl, hb, hq => by
  simp only [xEL, List.getElem?_cons_succ];exact xIX R h h' (p + 1) q (by simpa using hl) (by rw [show p + 1 + q = p + (q + 1) by omega]; exact hb) (by simpa using hq)
theorem Pre.len (hp : Pre ρ ρ') : ρ.length <= ρ'.length := by
 rcases Nat.lt_or_ge ρ'.length ρ.length with hlt | hge
 ·have := hp ρ'.length _ (List.getElem?_eq_getElem hlt);have := (List.getElem?_eq_some_iff.1 this).1;omega
 ·exact hge
theorem HOk.merged (hh : HOk S F W0 ρ h w) (R : List Nat) (hR : ∀ (q : Nat) (r : Root), h[q]? = some r -> r.tag ≠ none -> q ∈ R) (hp : Pre ρ ρ') (hc : HOk (xAp .own ρ h R) (xAp .foot ρ h R) w ρ' h' w') : HOk S F W0 ρ' (xEL R h h' 0) w' := by
 have hl : h.length <= h'.length := by rw [<- hh.len, <- hc.len]; exact hp.len
 have hid : ∀ (q : Nat) (r : Root) (i : Info), h[q]? = some r -> ρ'[q]? = some i -> ρ[q]? = some i := by
  intro q r i h1 h2;obtain ⟨i0, h3⟩ := hh.info h1;have := hp _ _ h3;rw [h2] at this;rw [h3, this]
 have hS : ∀ (q : Nat) (r : Root) (i : Info) (b : Nat), R.any (Nat.beq (0 + q)) = false -> h[q]? = some r -> ρ[q]? = some i -> foot i r b -> b ∉ xAp .own ρ h R := by
  intro q r i b hb h1 h2 h3 hm;obtain ⟨p, hpR, r', i', g1, g2, g3⟩ := xAe.1 hm;refine hh.sep p q r' r i' i b (fun e => ?_) g1 h1 g2 h2 g3 h3;subst e;rw [Nat.zero_add] at hb;rw [xC7.2 hpR] at hb;cases hb
 refine ⟨?_, by rw [xIW R h h' 0 hl]; exact hc.len, ?_, ?_, ?_, ?_, hh.lay, hh.out, fun q t r i h1 h2 ht => ?_, fun q r i h1 h2 => ?_⟩
 rotate_right
 ·rcases xBj R h h' 0 q r hl h1 with ⟨h3, _⟩ | ⟨h3, h4⟩
  ·exact hc.cln q r i h3 h2
  ·exact hh.cln q r i h3 (hid q r i h3 h2)
 rotate_right
 ·rcases xBj R h h' 0 q r hl h1 with ⟨h3, _⟩ | ⟨h3, h4⟩
  ·exact hc.cov q t r i h3 h2 ht
  ·rw [Nat.zero_add, xC7.2 (hR q r h3 (by rw [ht]; simp))] at h4;cases h4
 ·refine ⟨hc.ext.os.trans hh.ext.os, hc.ext.tape.trans hh.ext.tape, hc.ext.output.trans hh.ext.output, Nat.le_trans hh.ext.size hc.ext.size, fun k hk hs => ?_⟩;have hkB : k ∉ xAp .own ρ h R := fun hm => by
   obtain ⟨p, _, r', i', g1, g2, g3⟩ := xAe.1 hm;rcases hh.mine p r' i' k g1 g2 g3 with g4 | g4
   ·omega
   ·exact hs g4
  rw [hc.ext.block k (Nat.lt_of_lt_of_le hk hh.ext.size) hkB];exact hh.ext.block k hk hs
 ·intro q r i h1 h2;rcases xBj R h h' 0 q r hl h1 with ⟨h3, _⟩ | ⟨h3, h4⟩
  ·exact hc.ok q r i h3 h2
  ·have h5 := hid q r i h3 h2;exact ((hh.ok q r i h3 h5).ex hc.ext (fun b hb => hS q r i b h4 h3 h5 hb)).mono hp
 ·intro p q r s i j b hpq hr hs hi hj ho;rcases xBj R h h' 0 p r hl hr with ⟨h3, _⟩ | ⟨h3, h4⟩
  ·rcases xBj R h h' 0 q s hl hs with ⟨h5, _⟩ | ⟨h5, h6⟩
   ·exact hc.sep p q r s i j b hpq h3 h5 hi hj ho
   ·intro hf;have h7 := hid q s j h5 hj;rcases hc.mine p r i b h3 hi ho with g1 | g1
    ·have := (hh.ok q s j h5 h7).lt hf; omega
    ·exact hS q s j b h6 h5 h7 hf g1
  ·have h7 := hid p r i h3 hi;rcases xBj R h h' 0 q s hl hs with ⟨h5, _⟩ | ⟨h5, h6⟩
   ·intro hf;rcases hc.near q s j b h5 hj hf with g1 | g1 | g1
    ·have := (hh.ok p r i h3 h7).lt (xAu ho); omega
    ·exact hS p r i b h4 h3 h7 (xAu ho) g1
    ·obtain ⟨p', hpR, r', i', g2, g3, g4⟩ := xAe.1 g1;refine hh.sep p p' r r' i i' b (fun e => ?_) h3 g2 h7 g3 ho g4;subst e;rw [Nat.zero_add] at h4;rw [xC7.2 hpR] at h4;cases h4
   ·exact hh.sep p q r s i j b hpq h3 h5 h7 (hid q s j h5 hj) ho
 ·intro p r i b hr hi ho;rcases xBj R h h' 0 p r hl hr with ⟨h3, _⟩ | ⟨h3, _⟩
  ·rcases hc.mine p r i b h3 hi ho with g1 | g1
   ·exact .inl (Nat.le_trans hh.ext.size g1)
   ·obtain ⟨p', _, r', i', g2, g3, g4⟩ := xAe.1 g1;exact hh.mine p' r' i' b g2 g3 g4
  ·exact hh.mine p r i b h3 (hid p r i h3 hi) ho
 ·intro p r i b hr hi ho;rcases xBj R h h' 0 p r hl hr with ⟨h3, _⟩ | ⟨h3, _⟩
  ·rcases hc.near p r i b h3 hi ho with g1 | g1 | g1
   ·exact .inl (Nat.le_trans hh.ext.size g1)
   ·obtain ⟨p', _, r', i', g2, g3, g4⟩ := xAe.1 g1;rcases hh.mine p' r' i' b g2 g3 g4 with g5 | g5
    ·exact .inl g5
    ·exact .inr (.inl g5)
   ·obtain ⟨p', _, r', i', g2, g3, g4⟩ := xAe.1 g1;exact hh.near p' r' i' b g2 g3 g4
  ·exact hh.near p r i b h3 (hid p r i h3 hi) ho
def xII (tmps : Array Value) : ResultVar -> Sem Value
 | .tmp t => pure (tmps.getD t undef)
 | .cell a t => do loadVar t (<- asAddr (tmps.getD a undef))
def resL (tmps : Array Value) : List ResultVar -> Sem (List Value)
 | [] => pure []
 | r :: rs => do
  let x <- xII tmps r
  let xs <- resL tmps rs
  pure (x :: xs)
def single : List Value -> Value
 | [v] => v
 | vs => .tuple vs.toArray
theorem xNF (tmps : Array Value) : ∀ l : List ResultVar, l.mapM (xII tmps) = resL tmps l
 | [] => rfl
 | r :: l => by rw [List.mapM_cons, resL, xNF tmps l]
theorem xSB (fn : Func) (tmps : Array Value) : results fn tmps = (do let vs <- resL tmps fn.results.toList; pure (single vs)) := by
 have e : ∀ g : ResultVar -> Sem Value, (∀ r, g r = xII tmps r) -> (do let vs <- fn.results.mapM g; pure (if h : vs.size = 1 then vs[0] else .tuple vs) : Sem Value) = (do let vs <- resL tmps fn.results.toList; pure (single vs)) := by
  intro g hg;rw [show g = xII tmps from funext hg, Array.mapM_eq_mapM_toList, xNF];simp only [map_eq_pure_bind, bind_assoc, pure_bind];congr 1;funext vs
  match vs with
  | [] => rfl
  | [v] => rfl
  | v :: u :: vs => simp [single]
 exact e _ (fun r => by cases r <;> rfl)
def resP (P : Program) (K : Slo) (h : List Root) : ResultVar -> Option PV
 | .tmp t => match lkP K t with
  | some .un => none
  | r => r
 | .cell a t => match lkP K a with
  | some (.c (.pt _ _ _ _)) => match xZs P K h t (.tmp a) with
   | .val [] v => some v
   | _ => none
  | _ => none
def xYR (P : Program) (K : Slo) (h : List Root) : List ResultVar -> Option (List (Bool × List CV))
 | [] => some []
 | r :: l => match (resP P K h r).bind compP, xYR P K h l with
  | some x, some xs => some (x :: xs)
  | _, _ => none
def xTj (P : Program) (K : Slo) (h : List Root) (l : List ResultVar) : Option PV :=
 match l with
 | [r] => resP P K h r
 | _ => match xYR P K h l with
  | some xs => some (.tu xs)
  | none => none
theorem xUx (hK : KOk N D ρ K a) (hh : HOk S F W0 ρ h w) {r : ResultVar} {v : PV} (hv : resP P K h r = some v) : ∃ u, DenP ρ v u /\ (xII a.tmps r).run P w = .ok u w := by
 cases r with
 | tmp t =>
  simp only [resP] at hv;split at hv
  ·cases hv
  ·obtain ⟨u, h1, h2⟩ := hK.2.2 t v hv;exact ⟨u, h1, by simp [xII, h2]⟩
 | cell x t =>
  simp only [resP] at hv;split at hv
  ·rename_i id k row j hpt;split at hv
   ·rename_i v' hs;cases hv;have hl := xQ6 (P := P) (o := ⟨none, .load t (.tmp x), t, "", #[], none⟩) hK hh (t := t) (x := .tmp x) (L := xGs K h ⟨none, .load t (.tmp x), t, "", #[], none⟩) rfl (fun c e id hid => by simpa only [xGs, e] using hid);rw [hs] at hl;obtain ⟨u, h1, h2⟩ := hl trivial;refine ⟨u, h1, ?_⟩;have h3 := h2 w (Agree.refl _ _ _ _);have h4 : ∃ ad, a.eval (.tmp x) = .pointer (some ad) := by
     obtain ⟨i, b, off, _, _, _, h8⟩ := xAa (x := .tmp x) hK hpt;exact ⟨_, h8⟩
    obtain ⟨ad, h5⟩ := h4;have h6 : a.tmps.getD x undef = .pointer (some ad) := h5;unfold execOp at h3;simp only [h5, Instr.loadAt, Instr.sureAddr, Sem.run_bind, Sem.run_pure, Result.andThen_ok] at h3;simp only [xII, h6, asAddr, Sem.run_bind, Sem.run_pure, Result.andThen_ok]
    cases hq : (loadVar t ad).run P w with
    | ok x' w2 => rw [hq] at h3; simpa using h3
    | halt _ _ => rw [hq] at h3; cases h3
   ·cases hv
  ·cases hv
theorem xQI (hK : KOk N D ρ K a) (hh : HOk S F W0 ρ h w) : ∀ {l : List ResultVar} {xs : List (Bool × List CV)}, xYR P K h l = some xs -> ∃ us, DenT ρ xs us /\ (resL a.tmps l).run P w = .ok us w /\ us.length = l.length
 | [], xs, hx => by cases hx; exact ⟨[], rfl, rfl, rfl⟩
 | r :: l, xs, hx => by
  simp only [xYR] at hx;split at hx
  ·rename_i x q h1 h2;cases hx;obtain ⟨v, h3, h4⟩ := Option.bind_eq_some_iff.1 h1;obtain ⟨u, h5, h6⟩ := xUx hK hh h3;obtain ⟨us, h7, h8, h9⟩ := xQI hK hh h2;refine ⟨u :: us, ⟨u, us, rfl, ?_, h7⟩, by simp only [resL, Sem.run_bind, h6, Result.andThen_ok, h8, Sem.run_pure], by simp [h9]⟩
   cases v with
   | c y => cases h4; exact ⟨y, rfl, h5⟩
   | ag m => cases h4; exact h5
   | tu m => cases h4
   | un => cases h4
  ·cases hx
theorem xIH {fn : Func} (hK : KOk N D ρ K a) (hh : HOk S F W0 ρ h w) {v : PV} (hv : xTj P K h fn.results.toList = some v) : ∃ u, DenP ρ v u /\ (results fn a.tmps).run P w = .ok u w := by
 rw [xSB];generalize fn.results.toList = l at *;unfold xTj at hv;split at hv
 ·rename_i r;obtain ⟨u, h1, h2⟩ := xUx hK hh hv;exact ⟨u, h1, by simp only [resL, Sem.run_bind, h2, Result.andThen_ok, Sem.run_pure, single]⟩
 ·rename_i hne;split at hv
  ·rename_i xs hx;cases hv;obtain ⟨us, h1, h2, h3⟩ := xQI hK hh hx;refine ⟨.tuple us.toArray, ⟨us, h1, rfl⟩, ?_⟩;have : single us = .tuple us.toArray := by
    match us, l, h3, hne with
    | [], _, _, _ => rfl
    | [u], [r], _, hne => exact absurd rfl (hne r)
    | _ :: _ :: _, _, _, _ => rfl
   simp only [Sem.run_bind, h2, Result.andThen_ok, Sem.run_pure, this]
  ·cases hv
end
end
end Go.Proofs.YtnomnijhlbalaaaGreatDoor
