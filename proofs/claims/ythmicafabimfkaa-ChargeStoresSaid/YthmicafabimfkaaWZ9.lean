/- Runs of operations, on data; calls see only what their arguments reach. No condition. -/
import Derived.Test.YthmicafabimfkaaWZO
import Derived.Deep.LoopGhost
import Derived.LoopN
namespace Go.Proofs.Ythmicafabimfkaa
noncomputable section
open Go.RowKit
/-- A slot is forgotten. -/
noncomputable def delP (K : Slo) (t : Nat) : Slo :=
  Slo.rec (motive := fun _ => Nat → Slo) (fun _ => .nil) (fun u l r il ir n => Bool.rec (Bool.rec (.node u l (ir (Slo.way n))) (.node u (il (Slo.way n)) r) (Slo.odd n)) (.node none l r) (Nat.beq n 0)) K t
theorem delP_node (u : Option PV) (l r : Slo) (t : Nat) : delP (.node u l r) t = bif Nat.beq t 0 then .node none l r else bif Slo.odd t then .node u (delP l (Slo.way t)) r else .node u l (delP r (Slo.way t)) := by
  show @Bool.rec (fun _ => Slo) (@Bool.rec (fun _ => Slo) (.node u l (delP r (Slo.way t))) (.node u (delP l (Slo.way t)) r) (Slo.odd t)) (.node none l r) (Nat.beq t 0) = _
  cases Nat.beq t 0
  · cases Slo.odd t <;> rfl
  · rfl
theorem lkP_delP : ∀ (t : Nat) (K : Slo) (s : Nat), lkP (delP K t) s = if s = t then none else lkP K s
  | t, .nil, s => by show lkP .nil s = _; rw [lkP_nil]; split <;> rfl
  | t, .node u l r, s => by
    rw [delP_node]
    cases ht : Nat.beq t 0 with
    | true =>
      have := Nat.eq_of_beq_eq_true ht
      subst this
      simp only [cond_true, lkP_node]
      cases hs : Nat.beq s 0 with
      | true => have := Nat.eq_of_beq_eq_true hs; subst this; rfl
      | false => rw [if_neg (Nat.ne_of_beq_eq_false hs)]; rfl
    | false =>
      simp only [cond_false]
      cases ho : Slo.odd t with
      | true =>
        simp only [cond_true, lkP_node]
        cases hs : Nat.beq s 0 with
        | true =>
          have e := Nat.eq_of_beq_eq_true hs
          rw [if_neg (fun e' => by rw [← e', e] at ht; cases ht)]; rfl
        | false =>
          simp only [cond_false]
          cases hso : Slo.odd s with
          | false => rw [if_neg (fun e' => by rw [e', ho] at hso; cases hso)]; rfl
          | true =>
            simp only [cond_true, lkP_delP _ l]
            by_cases hw : Slo.way s = Slo.way t
            · rw [if_pos hw, if_pos (Slo.way_eq hs ht (by rw [hso, ho]) hw)]
            · rw [if_neg hw, if_neg (fun e => hw (by rw [e]))]
      | false =>
        simp only [cond_false, lkP_node]
        cases hs : Nat.beq s 0 with
        | true =>
          have e := Nat.eq_of_beq_eq_true hs
          rw [if_neg (fun e' => by rw [← e', e] at ht; cases ht)]; rfl
        | false =>
          simp only [cond_false]
          cases hso : Slo.odd s with
          | true => rw [if_neg (fun e' => by rw [e', ho] at hso; cases hso)]; rfl
          | false =>
            simp only [cond_false, lkP_delP _ r]
            by_cases hw : Slo.way s = Slo.way t
            · rw [if_pos hw, if_pos (Slo.way_eq hs ht (by rw [hso, ho]) hw)]
            · rw [if_neg hw, if_neg (fun e => hw (by rw [e]))]
def setP (N : Nat) (K : Slo) : Option Tmp → PV → Option Slo
  | none, _ => some K
  | some t, v => bif Nat.ble (t + 1) N then some (putP K t v) else none
section
variable {P : Program} {N : Nat} {D : List Deferred} {S F : List Nat} {W0 : World} {ρ : List Info} {K : Slo} {h : List Root} {w : World} {a : Act} {o : Oper}
theorem put_P {K' : Slo} (hK : KOk N D ρ K a) {d : Option Tmp} {v : PV} {u : Value} (hv : DenP ρ v u) (hs : setP N K d v = some K') : KOk N D ρ K' (a.put d u) := by
  cases d with
  | none => simp only [setP, Option.some.injEq] at hs; subst hs; exact hK
  | some t =>
    simp only [setP] at hs
    cases hb : Nat.ble (t + 1) N with
    | false => rw [hb] at hs; cases hs
    | true =>
      rw [hb] at hs
      simp only [cond_true, Option.some.injEq] at hs
      subst hs
      have ht : t < a.tmps.size := by rw [hK.1]; exact Nat.le_of_ble_eq_true hb
      refine ⟨by simp [Act.put, hK.1], hK.2.1, fun s p hp => ?_⟩
      rw [lkP_putP] at hp
      split at hp
      · rename_i e
        subst e
        cases hp
        exact ⟨u, hv, by simp [Act.put, ht]⟩
      · rename_i e
        obtain ⟨x, h1, h2⟩ := hK.2.2 s p hp
        refine ⟨x, h1, ?_⟩
        simp only [Act.put]
        rw [Array.getElem?_setIfInBounds_ne (Ne.symm e)]
        exact h2
/-- A truth that is known now. -/
theorem KOk.bool (hK : KOk N D ρ K a) {t : Nat} {b : Bool} (ht : lkP K t = some (.c (.sc (.bool b)))) (c : Bool) (e : b = c) : KOk N D ρ (putP K t (.c (.sc (.bool c)))) a := by
  subst e
  refine ⟨hK.1, hK.2.1, fun s p hp => ?_⟩
  rw [lkP_putP] at hp
  split at hp
  · rename_i e; subst e; cases hp; exact hK.2.2 _ _ ht
  · exact hK.2.2 s p hp
end
def gds {β : Type} : List Bool → Option β → Option β
  | [], r => r
  | b :: g, r => bif b then gds g r else none
theorem gds_some {β : Type} {r : β} : ∀ {g : List Bool} {x : Option β}, gds g x = some r → AllB g ∧ x = some r
  | [], x, h => ⟨trivial, h⟩
  | b :: g, x, h => by
    cases b with
    | true => obtain ⟨h1, h2⟩ := gds_some (g := g) h; exact ⟨⟨rfl, h1⟩, h2⟩
    | false => cases h
/-- Whether an operation is carried out. -/
inductive Gd where
  | go
  | no
  | test (t : Nat) (b want : Bool)
  | bad
def gdOf (ops : Array Oper) (K : Slo) (o : Oper) : Gd :=
  match o.guard with
  | none => .go
  | some (j, want) => match (ops[j]?).bind (·.dst) with
    | some t => match lkP K t with
      | some (.c (.sc (.bool b))) => .test t b want
      | some .un => .no
      | _ => .bad
    | none => .bad
abbrev CallF (β : Type) := FuncId → List PV → List Root → (List Nat → PV → List Root → Option β) → Option β
section
variable {β : Type}
def opSet (N : Nat) (K : Slo) (o : Oper) (v : PV) (h : List Root) (k : Slo → List Root → Option β) : Option β :=
  match setP N K o.dst v with
  | some K' => k K' h
  | none => none
def opGo (P : Program) (N : Nat) (call : CallF β) (K : Slo) (h : List Root) (o : Oper) (k : Slo → List Root → Option β) : Option β :=
  match stepV P K h o with
  | .val g v => gds g (opSet N K o v h k)
  | .pick b x y => bif b then opSet N K o x h k else opSet N K o y h k
  | .stuck => match stepM P K h o with
    | .mem g v h' _ => gds g (opSet N K o v h' k)
    | .call f args => call f args h (fun _ v h' => opSet N K o v h' k)
    | _ => none
  | _ => none
def opStep (P : Program) (N : Nat) (ops : Array Oper) (call : CallF β) (K : Slo) (h : List Root) (o : Oper) (k : Slo → List Root → Option β) : Option β :=
  match gdOf ops K o with
  | .go => opGo P N call K h o k
  | .no => opSet N K o .un h k
  | .test t b want => bif b then (bif want then opGo P N call (putP K t (.c (.sc (.bool true)))) h o k else opSet N (putP K t (.c (.sc (.bool true)))) o .un h k)
      else (bif want then opSet N (putP K t (.c (.sc (.bool false)))) o .un h k else opGo P N call (putP K t (.c (.sc (.bool false)))) h o k)
  | .bad => none
def evOps (P : Program) (N : Nat) (ops : Array Oper) (call : CallF β) : List Oper → Slo → List Root → (Slo → List Root → Option β) → Option β
  | [], K, h, k => k K h
  | o :: r, K, h, k => opStep P N ops call K h o (fun K' h' => evOps P N ops call r K' h' k)
/-! What an argument reaches -/
def idsC : CV → List Nat
  | .sl id _ _ _ _ => [id]
  | .pt id _ _ _ => [id]
  | .hv id => [id]
  | .sc _ => []
  | .er _ => []
  | .rf _ _ _ => []
  | .rp _ _ _ _ _ => []
def idsP : PV → List Nat
  | .c x => idsC x
  | .ag l => l.flatMap idsC
  | .tu l => l.flatMap (fun p => p.2.flatMap idsC)
  | .un => []
def hasCv : TC → Bool
  | .cv => true
  | .pair a b => hasCv a || hasCv b
  | _ => false
def rootIds : Root → List Nat
  | .blk cs _ => cs.flatMap idsC
  | .rows _ τ xs => bif hasCv τ then (flat τ xs).flatMap idsC else []
  | .ro τ xs => bif hasCv τ then (flat τ xs).flatMap idsC else []
  | .clo _ a b => a.flatMap idsC ++ b.flatMap idsC
  | .mp _ _ τ ts => bif hasCv τ then ts.flatMap (fun e => (τ.enc e.2).flatMap idsC) else []
  | .ars _ _ τ os => bif hasCv τ then os.flatMap (fun o => match o with
    | some xs => (flat τ xs).flatMap idsC
    | none => []) else []
  | .aro _ _ τ os => bif hasCv τ then (flat τ os).flatMap idsC else []
  | .arm _ _ _ τ os => bif hasCv τ then os.flatMap (fun o => match o with
    | some m => m.flatMap (fun e => (τ.enc e.2).flatMap idsC)
    | none => []) else []
  | .arr _ τ os => bif hasCv τ then os.flatMap (fun xs => (flat τ xs).flatMap idsC) else []
  | _ => []
def reach : Nat → List Root → List Nat → List Nat → List Nat
  | 0, _, _, seen => seen
  | n + 1, h, todo, seen => match todo with
    | [] => seen
    | id :: todo => bif seen.any (Nat.beq id) then reach n h todo seen else reach n h ((match h[id]? with
        | some r => rootIds r
        | none => []) ++ todo) (id :: seen)
/-- The arenas. -/
def arIds : List Root → Nat → List Nat
  | [], _ => []
  | r :: h, p => match r.tag with
    | some _ => p :: arIds h (p + 1)
    | none => arIds h (p + 1)
theorem arIds_mem : ∀ {h : List Root} {p q : Nat} {r : Root}, h[q]? = some r → r.tag ≠ none → p + q ∈ arIds h p
  | [], _, _, _, e, _ => by simp at e
  | x :: h, p, 0, r, e, ht => by
    simp only [List.getElem?_cons_zero, Option.some.injEq] at e
    subst e
    simp only [arIds]
    split
    · simp
    · rename_i hn; exact absurd hn ht
  | x :: h, p, q + 1, r, e, ht => by
    have ih := arIds_mem (p := p + 1) (q := q) (r := r) (by simpa using e) ht
    simp only [arIds]
    have e2 : p + (q + 1) = p + 1 + q := by omega
    rw [e2]
    split
    · exact List.mem_cons_of_mem _ ih
    · exact ih
/-- What a call sees: what its arguments reach, and the arenas. -/
def reachOf (h : List Root) (args : List PV) : List Nat := arIds h 0 ++ reach 1000 h (args.flatMap idsP ++ (arIds h 0).flatMap (fun p => match h[p]? with
  | some r => rootIds r
  | none => [])) []
theorem reachOf_ar {h : List Root} {args : List PV} {q : Nat} {r : Root} (hq : h[q]? = some r) (ht : r.tag ≠ none) : q ∈ reachOf h args := by
  have := arIds_mem (p := 0) hq ht
  rw [Nat.zero_add] at this
  exact List.mem_append_left _ this
/-- What a call left, and what it did not see. -/
def merge (R : List Nat) : List Root → List Root → Nat → List Root
  | [], h', _ => h'
  | _ :: _, [], _ => []
  | r :: h, r' :: h', p => (bif R.any (Nat.beq p) then r' else r) :: merge R h h' (p + 1)
/-- What a call leaves. -/
def CallOk (P : Program) (call : CallF β) : Prop :=
  ∀ f args h k r, call f args h k = some r → ∀ S F W0 ρ w vs, DenArgs ρ args vs → HOk S F W0 ρ h w → callable P f = true →
    Calls P f vs.toArray w (fun e w' => ∃ ρ' h' v u B t, e = .returned u ∧ Pre ρ ρ' ∧ DenP ρ' v u ∧ HOk S F W0 ρ' h' w' ∧ k t v h' = some r ∧ Ex B w w' ∧
      (∀ b ∈ B, ∃ p ∈ t, ∃ r i, h[p]? = some r ∧ ρ[p]? = some i ∧ own i r b) ∧ (∀ q : Nat, q ∉ t → q < h.length → h'[q]? = h[q]?) ∧ Feet ρ h w ρ' h')
end
section
variable {P : Program} {N : Nat} {D : List Deferred} {S F : List Nat} {W0 : World} {ρ : List Info} {K : Slo} {h : List Root} {w : World} {a : Act} {o : Oper} {β : Type} {r : β} {call : CallF β} {ops : Array Oper}
/-- What holds behind a step. -/
def Behind (P : Program) (N : Nat) (D : List Deferred) (S F : List Nat) (W0 : World) (ρ : List Info) (k : Slo → List Root → Option β) (r : β) (a : Act) (w : World) : Prop :=
  ∃ ρ' K' h', Pre ρ ρ' ∧ KOk N D ρ' K' a ∧ HOk S F W0 ρ' h' w ∧ k K' h' = some r
theorem opSet_ok (hK : KOk N D ρ K a) (hh : HOk S F W0 ρ h w) {v : PV} {u : Value} (hv : DenP ρ v u) {k : Slo → List Root → Option β} (hr : opSet N K o v h k = some r) : Behind P N D S F W0 ρ k r (a.put o.dst u) w := by
  unfold opSet at hr
  split at hr
  · rename_i K' hK'; exact ⟨ρ, K', h, Pre.refl _, put_P hK hv hK', hh, hr⟩
  · cases hr
theorem Behind.pre {k : Slo → List Root → Option β} {ρ' : List Info} (hp : Pre ρ ρ') (hb : Behind P N D S F W0 ρ' k r a w) : Behind P N D S F W0 ρ k r a w := by
  obtain ⟨ρ2, K', h', h1, h2⟩ := hb
  exact ⟨ρ2, K', h', hp.trans h1, h2⟩
theorem opGo_ok (hcall : CallOk P call) (hK : KOk N D ρ K a) (hh : HOk S F W0 ρ h w) {k : Slo → List Root → Option β} (hr : opGo P N call K h o k = some r) {Q : Exit → Act → World → Prop} {next : Act → World → Prop} (hn : ∀ a' w', Behind P N D S F W0 ρ k r a' w' → next a' w') : o.wp P a w next Q := by
  unfold opGo at hr
  have hv := stepV_ok (P := P) (o := o) hK hh
  split at hr
  · rename_i g v hs
    rw [hs] at hv
    obtain ⟨h1, h2⟩ := gds_some hr
    obtain ⟨u, h3, h4⟩ := hv h1
    unfold Oper.wp
    rw [h4 w (Agree.refl _ _ _ _), Oper.upon_value]
    exact hn _ _ (opSet_ok hK hh h3 h2)
  · rename_i b x y hs
    rw [hs] at hv
    obtain ⟨u, h3, h4⟩ := hv
    unfold Oper.wp
    rw [h4 w (Agree.refl _ _ _ _), Oper.upon_value]
    cases b with
    | true => exact hn _ _ (opSet_ok hK hh h3 hr)
    | false => exact hn _ _ (opSet_ok hK hh h3 hr)
  · have hm := stepM_ok (P := P) (o := o) hK hh
    split at hr
    · rename_i g v h' t hs
      rw [hs] at hm
      obtain ⟨h1, h2⟩ := gds_some hr
      obtain ⟨ρ', u, nx, w', B, q1, q2, q3, q4, q5, q6, q7, _, _⟩ := hm h1
      unfold Oper.wp
      rw [q4]
      have := opSet_ok (P := P) (o := o) (hK.mono q1) q5 q2 h2
      rcases q3 with rfl | ⟨rfl, rfl⟩
      · rw [Oper.upon_value]; exact hn _ _ (this.pre q1)
      · rw [Oper.upon_skip]; exact hn _ _ (this.pre q1)
    · rename_i f args hs
      rw [hs] at hm
      obtain ⟨vs, q1, q2, q3⟩ := hm
      unfold Oper.wp
      rw [q1, Oper.upon_enter]
      refine (hcall f args h _ r hr S F W0 ρ w vs q3 hh q2).mono fun e w' he => ?_
      obtain ⟨ρ', h', v, u, B, t, rfl, e1, e2, e3, e4, _⟩ := he
      exact hn _ _ ((opSet_ok (P := P) (o := o) (hK.mono e1) e3 e2 e4).pre e1)
    · cases hr
  · cases hr
theorem gdOf_go (hK : KOk N D ρ K a) (hg : gdOf ops K o = .go) : Region.wanted o (yielded ops a.tmps) = true := by
  unfold gdOf at hg
  unfold Region.wanted
  cases ho : o.guard with
  | none => rfl
  | some p =>
    obtain ⟨j, want⟩ := p
    rw [ho] at hg
    simp only at hg
    split at hg
    · split at hg <;> cases hg
    · cases hg
theorem gdOf_no (hK : KOk N D ρ K a) (hg : gdOf ops K o = .no) : Region.wanted o (yielded ops a.tmps) = false := by
  unfold gdOf at hg
  unfold Region.wanted
  cases ho : o.guard with
  | none => rw [ho] at hg; cases hg
  | some p =>
    obtain ⟨j, want⟩ := p
    rw [ho] at hg
    simp only at hg ⊢
    unfold yielded
    split at hg
    · rename_i t ht
      rw [ht]
      split at hg
      · cases hg
      · rename_i hl
        obtain ⟨v, h1, h2⟩ := hK.2.2 t _ hl
        have : v = undef := h1
        subst this
        simp [h2, undef]
      · cases hg
    · cases hg
theorem gdOf_test (hK : KOk N D ρ K a) {t : Nat} {b want : Bool} (hg : gdOf ops K o = .test t b want) : Region.wanted o (yielded ops a.tmps) = (b == want) ∧ lkP K t = some (.c (.sc (.bool b))) := by
  unfold gdOf at hg
  unfold Region.wanted
  cases ho : o.guard with
  | none => rw [ho] at hg; cases hg
  | some p =>
    obtain ⟨j, want'⟩ := p
    rw [ho] at hg
    simp only at hg ⊢
    unfold yielded
    split at hg
    · rename_i t' ht
      rw [ht]
      split at hg
      · rename_i b' hl
        cases hg
        obtain ⟨v, h1, h2⟩ := hK.2.2 _ _ hl
        have : v = .bool b := h1.1
        subst this
        exact ⟨by simp [h2], hl⟩
      · cases hg
      · cases hg
    · cases hg
theorem opStep_ok (hcall : CallOk P call) (hK : KOk N D ρ K a) (hh : HOk S F W0 ρ h w) {k : Slo → List Root → Option β} (hr : opStep P N ops call K h o k = some r) {Q : Exit → Act → World → Prop} {next : Act → World → Prop} (hn : ∀ a' w', Behind P N D S F W0 ρ k r a' w' → next a' w') :
    if Region.wanted o (yielded ops a.tmps) then o.wp P a w next Q else next (a.put o.dst undef) w := by
  unfold opStep at hr
  split at hr
  · rename_i hg
    rw [if_pos (gdOf_go hK hg)]
    exact opGo_ok hcall hK hh hr hn
  · rename_i hg
    rw [if_neg (by rw [gdOf_no hK hg]; simp)]
    exact hn _ _ (opSet_ok (v := .un) (u := undef) hK hh rfl hr)
  · rename_i t b want hg
    obtain ⟨h1, h2⟩ := gdOf_test hK hg
    cases b with
    | true =>
      simp only [cond_true] at hr
      have hK' := hK.bool h2 true rfl
      cases want with
      | true => rw [if_pos (by rw [h1]; rfl)]; exact opGo_ok hcall hK' hh hr hn
      | false => rw [if_neg (by rw [h1]; simp)]; exact hn _ _ (opSet_ok (v := .un) (u := undef) hK' hh rfl hr)
    | false =>
      simp only [cond_false] at hr
      have hK' := hK.bool h2 false rfl
      cases want with
      | true => rw [if_neg (by rw [h1]; simp)]; exact hn _ _ (opSet_ok (v := .un) (u := undef) hK' hh rfl hr)
      | false => rw [if_pos (by rw [h1]; rfl)]; exact opGo_ok hcall hK' hh hr hn
  · cases hr
theorem evOps_ok (hcall : CallOk P call) {Q : Exit → Act → World → Prop} (rest : List Oper) : ∀ (l : List Oper) (ρ : List Info) (K : Slo) (h : List Root) (a : Act) (w : World) (k : Slo → List Root → Option β), evOps P N ops call l K h k = some r → KOk N D ρ K a → HOk S F W0 ρ h w →
    (∀ a' w', Behind P N D S F W0 ρ k r a' w' → wpList P ops Q rest a' w') → wpList P ops Q (l ++ rest) a w
  | [], ρ, K, h, a, w, k, hr, hK, hh, hn => hn a w ⟨ρ, K, h, Pre.refl _, hK, hh, hr⟩
  | o :: l, ρ, K, h, a, w, k, hr, hK, hh, hn => by
    have step := opStep_ok (ops := ops) (o := o) hcall hK hh hr (Q := Q) (next := wpList P ops Q (l ++ rest)) (fun a' w' hb => by
      obtain ⟨ρ', K', h', h1, h2, h3, h4⟩ := hb
      exact evOps_ok hcall rest l ρ' K' h' a' w' k h4 h2 h3 (fun a2 w2 hb2 => hn a2 w2 (hb2.pre h1)))
    show wpList P ops Q (o :: (l ++ rest)) a w
    unfold wpList
    split
    · rename_i hw; rw [if_pos hw] at step; exact .inl step
    · rename_i hw; rw [if_neg hw] at step; exact step
end
end
end Go.Proofs.Ythmicafabimfkaa
