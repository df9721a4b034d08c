/- A region that draws its order, as a tree: soundness. No condition. -/
import Derived.Test.YthmicafabimfkaaWZA
namespace Go.Proofs.Ythmicafabimfkaa
open Go.RowKit
section
variable {P : Program} {ops : Array Oper} {Q : Exit → Act → World → Prop}
abbrev Gs := List (Nat × (World → Prop))
def keepsG (ops : Array Oper) (G : Gs) (i : Nat) (w w' : World) : Prop := ∀ p ∈ G, waits .any ops ops.size i p.1 = false → p.2 w → p.2 w'
def wpAnyG (P : Program) (ops : Array Oper) (Q : Exit → Act → World → Prop) (G : Gs) : Nat → Array Bool → Act → World → Prop
  | 0, listed, a, w => Region.ready .any ops listed = [] ∧ Q .normal a w
  | fuel + 1, listed, a, w =>
    (Region.ready .any ops listed = [] → Q .normal a w) ∧
    ∀ i ∈ Region.ready .any ops listed, wpOp P ops Q i (fun a' w' => keepsG ops G i w w' ∧ wpAnyG P ops Q G fuel (listed.setIfInBounds i true) a' w') a w
theorem wpAny_of_G {G : Gs} : ∀ (fuel : Nat) (listed : Array Bool) (a : Act) (w : World), wpAnyG P ops Q G fuel listed a w → wpAny P .any ops Q fuel listed a w
  | 0, _, _, _, h => h
  | fuel + 1, _, _, _, h => ⟨h.1, fun i hi => wpOp_mono (fun a' w' h' => wpAny_of_G fuel _ a' w' h'.2) (h.2 i hi)⟩
theorem wpAnyG_tail {G : Gs} {x : Nat × (World → Prop)} : ∀ (fuel : Nat) (listed : Array Bool) (a : Act) (w : World), wpAnyG P ops Q (x :: G) fuel listed a w → wpAnyG P ops Q G fuel listed a w
  | 0, _, _, _, h => h
  | fuel + 1, _, _, _, h => ⟨h.1, fun i hi => wpOp_mono (fun a' w' h' => ⟨fun p hp => h'.1 p (List.mem_cons_of_mem _ hp), wpAnyG_tail fuel _ a' w' h'.2⟩) (h.2 i hi)⟩
theorem wpAnyG_true {G : Gs} {i : Nat} : ∀ (fuel : Nat) (listed : Array Bool) (a : Act) (w : World), wpAnyG P ops Q G fuel listed a w → wpAnyG P ops Q ((i, fun _ => True) :: G) fuel listed a w
  | 0, _, _, _, h => h
  | fuel + 1, _, _, _, h => ⟨h.1, fun j hj => wpOp_mono (fun a' w' h' => ⟨fun p hp hw hT => by
      rcases List.mem_cons.1 hp with rfl | hp
      · trivial
      · exact h'.1 p hp hw hT, wpAnyG_true fuel _ a' w' h'.2⟩) (h.2 j hj)⟩
/-- A read may be taken first. -/
theorem wpAnyG_first {T : World → Prop} {G : Gs} {i : Nat} {oi : Oper} {v : Value} (hi : ops[i]? = some oi) (hsel : ∀ (j : Nat) (o : Oper) cs b, ops[j]? = some o → o.op ≠ .select cs b)
    (hQ : ∀ c a w, Q (.panic c) (a.put oi.dst v) w → Q (.panic c) a w) :
    ∀ (fuel : Nat) (listed : Array Bool) (a : Act) (w : World), Closed .any ops listed →
      (∀ j oj, ops[j]? = some oj → j ≠ i → listed.getD j true = false → (∀ e ∈ oj.after, Region.binds .any e = true → e.on ≠ i) → oi.apart ops oj = true) →
      i ∈ Region.ready .any ops listed → YieldsIf P ops T oi v a → T w →
      wpAnyG P ops Q ((i, T) :: G) fuel (listed.setIfInBounds i true) (a.put oi.dst v) w → wpAnyG P ops Q G (fuel + 1) listed a w := by
  intro fuel
  induction fuel with
  | zero =>
    intro listed a w _ _ hr hy hT H
    refine ⟨fun h => (by rw [h] at hr; cases hr), fun j hj => ?_⟩
    by_cases hji : j = i
    · subst hji; exact hy.wpOp hi hT ⟨fun _ _ _ h => h, H⟩
    · have := ready_mono hj hji
      rw [H.1] at this
      cases this
  | succ fuel ih =>
    intro listed a w hc hfree hr hy hT H
    refine ⟨fun h => (by rw [h] at hr; cases hr), fun j hj => ?_⟩
    by_cases hji : j = i
    · subst hji; exact hy.wpOp hi hT ⟨fun _ _ _ h => h, wpAnyG_tail _ _ _ _ H⟩
    · have h1 := H.2 j (ready_mono hj hji)
      obtain ⟨hjun, oj, hoj, hall⟩ := mem_ready.1 hj
      have hil := ready_not_listed hr
      have hjx : waits .any ops ops.size j i = false := by
        cases hx : waits .any ops ops.size j i with
        | false => rfl
        | true =>
          have := waits_listed hc ops.size j i hx (fun o ho e he hb => by rw [hoj] at ho; cases ho; exact hall e he hb)
          rw [hil] at this; cases this
      have hnot : ∀ e ∈ oj.after, Region.binds .any e = true → e.on ≠ i := fun e he hb heq => by
        have h1 := hall e he hb
        rw [heq, hil] at h1; cases h1
      have h2 := wpOp_putIf hoj (hfree j oj hoj hji hjun hnot) (fun cs b => hsel i oi cs b hi) (fun cs b => hsel j oj cs b hoj) hQ hy h1
      have hfree' : ∀ k ok, ops[k]? = some ok → k ≠ i → (listed.setIfInBounds j true).getD k true = false →
          (∀ e ∈ ok.after, Region.binds .any e = true → e.on ≠ i) → oi.apart ops ok = true := fun k ok hk hki hun hno => by
        refine hfree k ok hk hki ?_ hno
        by_cases hjk : j = k
        · subst hjk; exact hjun
        · rw [getD_set_ne true hjk] at hun; exact hun
      refine wpOp_mono (fun a' w' h3 => ?_) h2
      have hT' := h3.2.1 (i, T) (by simp) hjx hT
      refine ⟨fun p hp => h3.2.1 p (List.mem_cons_of_mem _ hp), ih (listed.setIfInBounds j true) a' w' (closed_set hc hj) hfree' (ready_mono hr (Ne.symm hji)) h3.1 hT' ?_⟩
      rw [Array.setIfInBounds_comm _ _ hji]
      exact h3.2.2
/-- How many have not come up. -/
def cf : List Bool → Nat
  | [] => 0
  | b :: l => (bif b then 0 else 1) + cf l
theorem cf_set : ∀ (l : List Bool) (i : Nat), l[i]? = some false → cf (l.set i true) + 1 = cf l
  | [], i, h => by simp at h
  | b :: l, 0, h => by
    simp only [List.getElem?_cons_zero, Option.some.injEq] at h
    subst h
    simp only [List.set_cons_zero, cf, cond_true, cond_false]; omega
  | b :: l, i + 1, h => by
    simp only [List.getElem?_cons_succ] at h
    have := cf_set l i h
    simp only [List.set_cons_succ, cf]; omega
theorem cf_rep : ∀ n : Nat, cf (List.replicate n false) = n
  | 0 => rfl
  | n + 1 => by rw [List.replicate_succ, cf, cf_rep n]; simp; omega
end
section
variable {P : Program} {N : Nat} {S F : List Nat} {W0 : World} {ρ ρ' : List Info} {K : Slo} {h h' : List Root} {w w' : World} {a : Act} {o : Oper} {ops : Array Oper} {β : Type} {r : β} {call : CallF β}
/-- What is kept of reads. -/
def GOk (ρ : List Info) (h : List Root) : Reads → Gs → Prop
  | [], G => G = []
  | (i, x) :: l, G => ∃ T G', (G = (i, T) :: G' ∧ ∀ w w' : World, Ext w w' → T w → T w') ∧ (match x with
    | none => True
    | some ids => ∃ (bs : List Nat) (w0 : World), T = (fun w' => ∀ b ∈ bs, w'.heap[b]? = w0.heap[b]?) ∧ ∀ b ∈ bs, b ∈ gBlk ∨ ∃ id ∈ ids, ∃ r inf, h[id]? = some r ∧ ρ[id]? = some inf ∧ foot inf r b) ∧ GOk ρ h l G'
theorem GOk.grow (hp : Pre ρ ρ') (hh : ∀ (q : Nat) (r : Root), h[q]? = some r → h'[q]? = some r) : ∀ {Gd : Reads} {G : Gs}, GOk ρ h Gd G → GOk ρ' h' Gd G
  | [], _, hg => hg
  | (i, none) :: l, _, ⟨T, G', e, _, h2⟩ => ⟨T, G', e, trivial, h2.grow hp hh⟩
  | (i, some ids) :: l, _, ⟨T, G', e, ⟨bs, w0, e2, h1⟩, h2⟩ => ⟨T, G', e, ⟨bs, w0, e2, fun b hb => by
      rcases h1 b hb with hg | ⟨id, hid, r, inf, g1, g2, g3⟩
      · exact .inl hg
      · exact .inr ⟨id, hid, r, inf, hh _ _ g1, hp _ _ g2, g3⟩⟩, h2.grow hp hh⟩
theorem disj_ok {l m : List Nat} (hd : disj l m = true) {x : Nat} (hx : x ∈ l) : x ∉ m := fun hm => by
  simp only [disj, List.all_eq_true, Bool.not_eq_true'] at hd
  have := hd x hx x hm
  rw [Nat.beq_refl] at this; cases this
theorem GOk.ext {i : Nat} (hE : Ext w w') : ∀ {Gd : Reads} {G : Gs}, GOk ρ h Gd G → keepsG ops G i w w'
  | [], G, hg => by rw [show G = [] from hg]; intro p hp; cases hp
  | (j, x) :: l, G, ⟨T, G', ⟨e, hs⟩, h1, h2⟩ => by
    subst e
    intro p hp hw hT
    rcases List.mem_cons.1 hp with rfl | hp
    · exact hs w w' hE hT
    · exact GOk.ext hE h2 p hp hw hT
/-- A change of some roots keeps what was read of others. -/
theorem calm_keeps {i : Nat} {t : List Nat} (hh : HOk S F W0 ρ h w) {B : List Nat} (hE : Ex B w w') (hB : ∀ b ∈ B, ∃ p ∈ t, ∃ r i, h[p]? = some r ∧ ρ[p]? = some i ∧ own i r b) : ∀ {Gd : Reads} {G : Gs}, GOk ρ h Gd G → calm ops Gd i t = true → keepsG ops G i w w'
  | [], G, hg, _ => by rw [show G = [] from hg]; intro p hp; cases hp
  | (j, x) :: l, G, ⟨T, G', ⟨e, _⟩, h1, h2⟩, hc => by
    subst e
    simp only [calm, List.all_cons, Bool.and_eq_true] at hc
    have ih := calm_keeps hh hE hB h2 hc.2
    intro p hp hw hT
    rcases List.mem_cons.1 hp with rfl | hp
    · have hx := hc.1
      rw [show waits .any ops ops.size i j = false from hw, Bool.or_false] at hx
      cases x with
      | none => cases hx
      | some ids =>
        obtain ⟨bs, w0, e2, h3⟩ := h1
        subst e2
        intro b hb
        rcases h3 b hb with hgb | ⟨id, hid, r, inf, g1, g2, g3⟩
        · have hnB : b ∉ B := fun hbB => by
            obtain ⟨p', hp', r', i', k1, k2, k3⟩ := hB b hbB
            exact hh.own_gBlk k1 k2 k3 hgb
          rw [hE.block b (hh.outW hgb) hnB]
          exact hT b hb
        have hnB : b ∉ B := fun hbB => by
          obtain ⟨p', hp', r', i', k1, k2, k3⟩ := hB b hbB
          have hne : p' ≠ id := fun e => disj_ok hx hid (e ▸ hp')
          exact hh.sep p' id r' r i' inf b hne k1 g1 k2 g2 k3 g3
        rw [hE.block b ((hh.ok id r inf g1 g2).lt g3) hnB]
        exact hT b hb
    · exact ih p hp hw hT
theorem GOk.after {t : List Nat} (hh : HOk S F W0 ρ h w) (hp : Pre ρ ρ') (hsame : ∀ q : Nat, q ∉ t → q < h.length → h'[q]? = h[q]?) : ∀ {Gd : Reads} {G : Gs}, GOk ρ h Gd G → GOk ρ' h' (afterG t Gd) G
  | [], _, hg => hg
  | (i, none) :: l, _, ⟨T, G', e, _, h2⟩ => ⟨T, G', e, trivial, GOk.after hh hp hsame h2⟩
  | (i, some ids) :: l, _, ⟨T, G', e, ⟨bs, w0, e2, h1⟩, h2⟩ => by
    refine ⟨T, G', e, ?_, GOk.after hh hp hsame h2⟩
    dsimp only
    cases hd : disj ids t with
    | false => dsimp only [cond_false]
    | true =>
      dsimp only [cond_true]
      refine ⟨bs, w0, e2, fun b hb => ?_⟩
      rcases h1 b hb with hg | ⟨id, hid, r, inf, g1, g2, g3⟩
      · exact .inl hg
      refine .inr ⟨id, hid, r, inf, ?_, hp _ _ g2, g3⟩
      rw [hsame id (disj_ok hd hid) (List.getElem?_eq_some_iff.1 g1).1]
      exact g1
/-- Something that was made early. -/
structure EOk (P : Program) (ops : Array Oper) (W0 : World) (ρ : List Info) (h : List Root) (a : Act) (w : World) (e b : Nat) : Prop where
  ex : ∃ (oe : Oper) (d : Nat) (obj : Obj) (mk : Nat → Value), ops[e]? = some oe ∧ oe.dst = some d ∧ a.tmps[d]? = some (mk b) ∧ w.heap[b]? = some obj ∧ Region.wanted oe (yielded ops a.tmps) = true ∧ ∀ w : World, (execOp a.eval oe).run P w = .ok (.value (mk w.heap.size)) (w.alloc obj)
  new : W0.heap.size ≤ b
  apart : ∀ (id : Nat) (r : Root) (i : Info), h[id]? = some r → ρ[id]? = some i → ¬ foot i r b
theorem EOk.put (hsel : ∀ (j : Nat) (o : Oper) cs b, ops[j]? = some o → o.op ≠ .select cs b) {e b : Nat} (he : EOk P ops W0 ρ h a w e b) {oi : Oper} {u : Value} (hap : ∀ oe, ops[e]? = some oe → oi.apart ops oe = true) : EOk P ops W0 ρ h (a.put oi.dst u) w e b := by
  obtain ⟨oe, d, obj, mk, h1, h2, h3, h4, h6, h5⟩ := he.ex
  obtain ⟨g1, g2, g3⟩ := Oper.apart_spec (hap oe h1)
  refine ⟨⟨oe, d, obj, mk, h1, h2, ?_, h4, by rw [wanted_put oe a oi.dst u g1]; exact h6, fun w => ?_⟩, he.new, he.apart⟩
  · cases hd : oi.dst with
    | none => exact h3
    | some x =>
      have hne : x ≠ d := fun e => g2 x hd (by rw [h2, e])
      simp only [Act.put]
      rw [Array.getElem?_setIfInBounds_ne hne]
      exact h3
  · rw [execOp_put oe (fun cs b => hsel e oe cs b h1) a oi.dst u g1]
    exact h5 w
theorem EOk.world {e b : Nat} (he : EOk P ops W0 ρ h a w e b) {B : List Nat} (hE : Ex B w w') (hB : b ∉ B) : EOk P ops W0 ρ h a w' e b := by
  obtain ⟨oe, d, obj, mk, h1, h2, h3, h4, h6, h5⟩ := he.ex
  exact ⟨⟨oe, d, obj, mk, h1, h2, h3, hE.heap hB h4, h6, h5⟩, he.new, he.apart⟩
/-- What was left early. -/
def ESk (ops : Array Oper) (a : Act) (e : Nat) : Prop :=
  ∃ (oe : Oper) (d : Nat), ops[e]? = some oe ∧ oe.dst = some d ∧ a.tmps[d]? = some undef ∧ Region.wanted oe (yielded ops a.tmps) = false
theorem ESk.put {e : Nat} (he : ESk ops a e) {oi : Oper} {u : Value} (hap : ∀ oe, ops[e]? = some oe → oi.apart ops oe = true) : ESk ops (a.put oi.dst u) e := by
  obtain ⟨oe, d, h1, h2, h3, h6⟩ := he
  obtain ⟨g1, g2, g3⟩ := Oper.apart_spec (hap oe h1)
  refine ⟨oe, d, h1, h2, ?_, by rw [wanted_put oe a oi.dst u g1]; exact h6⟩
  cases hd : oi.dst with
  | none => exact h3
  | some x =>
    have hne : x ≠ d := fun e => g2 x hd (by rw [h2, e])
    simp only [Act.put]
    rw [Array.getElem?_setIfInBounds_ne hne]
    exact h3
/-- 0: left; else the block, and one. -/
def EOkO (P : Program) (ops : Array Oper) (W0 : World) (ρ : List Info) (h : List Root) (a : Act) (w : World) (e : Nat) : Nat → Prop
  | 0 => ESk ops a e
  | b + 1 => EOk P ops W0 ρ h a w e b
theorem EOkO.put (hsel : ∀ (j : Nat) (o : Oper) cs b, ops[j]? = some o → o.op ≠ .select cs b) {e : Nat} : ∀ {b : Nat} (_ : EOkO P ops W0 ρ h a w e b) {oi : Oper} {u : Value} (_ : ∀ oe, ops[e]? = some oe → oi.apart ops oe = true), EOkO P ops W0 ρ h (a.put oi.dst u) w e b
  | 0, he, _, _, hap => ESk.put he hap
  | _ + 1, he, _, _, hap => EOk.put hsel he hap
end
end Go.Proofs.Ythmicafabimfkaa
