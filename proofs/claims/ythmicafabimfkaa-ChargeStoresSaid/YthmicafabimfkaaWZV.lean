/- A region that draws its order, on data: the tree is walked whatever order is drawn. No condition. -/
import Derived.Test.YthmicafabimfkaaWZU
namespace Go.Proofs.Ythmicafabimfkaa
open Go.RowKit
section
variable {P : Program} {N : Nat} {D : List Deferred} {S F : List Nat} {W0 : World} {ρ ρ' : List Info} {K : Slo} {h h' : List Root} {w w' : World} {a : Act} {o : Oper} {ops : Array Oper} {β : Type} {r : β} {call : CallF β}
abbrev Es := List (Nat × Nat)
def inE (E : Es) (j : Nat) : Bool := E.any (fun p => Nat.beq p.1 j)
theorem inE_iff {E : Es} {j : Nat} : inE E j = true ↔ ∃ p ∈ E, p.1 = j := by
  unfold inE
  rw [List.any_eq_true]
  constructor
  · rintro ⟨p, hp, hb⟩; exact ⟨p, hp, Nat.eq_of_beq_eq_true hb⟩
  · rintro ⟨p, hp, rfl⟩; exact ⟨p, hp, Nat.beq_refl _⟩
/-- What has come up: what the tree has taken, and what came early. -/
structure LOk (ops : Array Oper) (c L : Array Bool) (E : Es) : Prop where
  cs : c.size = ops.size
  ls : L.size = ops.size
  eq : ∀ j, j < ops.size → L.getD j true = (c.getD j true || inE E j)
theorem getD_tf {L : Array Bool} {j : Nat} (h : j < L.size) : L.getD j true = L.getD j false := by
  simp [Array.getD, h]
theorem getD_f_lt {L : Array Bool} {j : Nat} (h : L.getD j false = true) : j < L.size := by
  rcases Nat.lt_or_ge j L.size with h1 | h1
  · exact h1
  · simp [Array.getD, Nat.not_lt.2 h1] at h
theorem getD_t_lt {L : Array Bool} {j : Nat} (h : L.getD j true = false) : j < L.size := by
  rcases Nat.lt_or_ge j L.size with h1 | h1
  · exact h1
  · simp [Array.getD, Nat.not_lt.2 h1] at h
theorem getD_set' (L : Array Bool) (i j : Nat) : (L.setIfInBounds i true).getD j true = (L.getD j true || Nat.beq i j) := by
  by_cases e : i = j
  · subst e
    rw [Nat.beq_refl, Bool.or_true]
    rcases Nat.lt_or_ge i L.size with h1 | h1
    · simp [Array.getD, h1]
    · simp [Array.getD, Nat.not_lt.2 h1]
  · rw [getD_set_ne true e]
    cases hb : Nat.beq i j with
    | true => exact absurd (Nat.eq_of_beq_eq_true hb) e
    | false => simp
theorem LOk.canon {c L : Array Bool} {E : Es} (hl : LOk ops c L E) (i : Nat) : LOk ops (c.setIfInBounds i true) (L.setIfInBounds i true) E :=
  ⟨by simpa using hl.cs, by simpa using hl.ls, fun j hj => by rw [getD_set', getD_set', hl.eq j hj]; cases c.getD j true <;> cases inE E j <;> cases Nat.beq i j <;> rfl⟩
theorem LOk.early {c L : Array Bool} {E : Es} (hl : LOk ops c L E) (i b : Nat) : LOk ops c (L.setIfInBounds i true) ((i, b) :: E) :=
  ⟨hl.cs, by simpa using hl.ls, fun j hj => by
    rw [getD_set', hl.eq j hj]
    simp only [inE, List.any_cons]
    cases c.getD j true <;> cases (E.any fun p => Nat.beq p.1 j) <;> cases Nat.beq i j <;> rfl⟩
def dropE (i : Nat) (E : Es) : Es := E.filter (fun p => !Nat.beq p.1 i)
theorem LOk.stutter {c L : Array Bool} {E : Es} (hl : LOk ops c L E) {i : Nat} (hi : inE E i = true) : LOk ops (c.setIfInBounds i true) L (dropE i E) := by
  refine ⟨by simpa using hl.cs, hl.ls, fun j hj => ?_⟩
  rw [getD_set', hl.eq j hj]
  by_cases e : i = j
  · subst e
    rw [hi, Nat.beq_refl]; simp
  · have h1 : Nat.beq i j = false := by
      cases hb : Nat.beq i j with
      | true => exact absurd (Nat.eq_of_beq_eq_true hb) e
      | false => rfl
    have h2 : inE (dropE i E) j = inE E j := by
      cases hx : inE E j with
      | true =>
        obtain ⟨p, hp, rfl⟩ := inE_iff.1 hx
        exact inE_iff.2 ⟨p, List.mem_filter.2 ⟨hp, by
          cases hb : Nat.beq p.1 i with
          | true => exact absurd (Nat.eq_of_beq_eq_true hb).symm e
          | false => rfl⟩, rfl⟩
      | false =>
        cases hy : inE (dropE i E) j with
        | false => rfl
        | true =>
          obtain ⟨p, hp, rfl⟩ := inE_iff.1 hy
          rw [inE_iff.2 ⟨p, (List.mem_filter.1 hp).1, rfl⟩] at hx; cases hx
    rw [h1, h2, Bool.or_false]
theorem ready_lt {c : Array Bool} {j : Nat} (hr : j ∈ Region.ready .any ops c) : j < ops.size := by
  obtain ⟨_, o, ho, _⟩ := mem_ready.1 hr
  exact (Array.getElem?_eq_some_iff.1 ho).1
theorem LOk.ready {c L : Array Bool} {E : Es} (hl : LOk ops c L E) {j : Nat} (hr : j ∈ Region.ready .any ops c) (hj : inE E j = false) : j ∈ Region.ready .any ops L := by
  have hlt := ready_lt hr
  rw [mem_ready] at hr ⊢
  obtain ⟨h0, o, ho, hall⟩ := hr
  refine ⟨by rw [hl.eq j hlt, h0, hj]; rfl, o, ho, fun e he hb => ?_⟩
  have h1 := hall e he hb
  have h2 := getD_f_lt h1
  rw [hl.cs] at h2
  rw [← getD_tf (by rw [hl.ls]; exact h2), hl.eq _ h2, getD_tf (by rw [hl.cs]; exact h2), h1]
  rfl
theorem LOk.unlisted {c L : Array Bool} {E : Es} (hl : LOk ops c L E) {j : Nat} (h : L.getD j true = false) : c.getD j true = false ∧ inE E j = false := by
  have h1 := getD_t_lt h
  rw [hl.ls] at h1
  rw [hl.eq j h1] at h
  simpa using h
theorem markAll_get : ∀ (A : List Nat) (c : Array Bool) (j : Nat), j ∉ A → (markAll A c).getD j true = c.getD j true
  | [], _, _, _ => rfl
  | x :: A, c, j, hj => by
    simp only [List.mem_cons, not_or] at hj
    show (markAll A (c.setIfInBounds x true)).getD j true = _
    rw [markAll_get A _ j hj.2, getD_set_ne true (Ne.symm hj.1)]
theorem markAll_true : ∀ (A : List Nat) (c : Array Bool) (j : Nat), j < c.size → (j ∈ A ∨ c.getD j false = true) → (markAll A c).getD j false = true
  | [], _, _, _, h => h.resolve_left (by simp)
  | x :: A, c, j, hlt, h => by
    show (markAll A (c.setIfInBounds x true)).getD j false = true
    refine markAll_true A _ j (by simpa using hlt) ?_
    rcases h with h | h
    · rcases List.mem_cons.1 h with rfl | h
      · refine .inr ?_
        rw [← getD_tf (by simpa using hlt), getD_set', Nat.beq_refl, Bool.or_true]
      · exact .inl h
    · exact .inr (getD_set_true h)
/-- Besides the one, only what may come early can come up. -/
theorem LOk.only {c L : Array Bool} {E : Es} (hl : LOk ops c L E) {A : List Nat} {i : Nat} (ho : only .any ops c A i = true) (hE : ∀ p ∈ E, p.1 ∈ A) {j : Nat} (hr : j ∈ Region.ready .any ops L) (hne : j ≠ i) : j ∈ A := by
  apply Classical.byContradiction
  intro hj
  have hlt := ready_lt hr
  have hm : j ∈ Region.ready .any ops (markAll A c) := by
    rw [mem_ready] at hr ⊢
    obtain ⟨h0, o, hoj, hall⟩ := hr
    refine ⟨by rw [markAll_get A c j hj]; exact (hl.unlisted h0).1, o, hoj, fun e he hb => ?_⟩
    have h1 := hall e he hb
    have h2 := getD_f_lt h1
    rw [hl.ls] at h2
    refine markAll_true A c _ (by rw [hl.cs]; exact h2) ?_
    rw [← getD_tf (by rw [hl.ls]; exact h2), hl.eq _ h2] at h1
    rcases Bool.or_eq_true_iff.1 h1 with h3 | h3
    · exact .inr (by rw [← getD_tf (by rw [hl.cs]; exact h2)]; exact h3)
    · obtain ⟨p, hp, e1⟩ := inE_iff.1 h3
      exact .inl (e1 ▸ hE p hp)
  unfold Go.Proofs.Ythmicafabimfkaa.only at ho
  split at ho
  · rename_i j' hj'
    rw [hj'] at hm
    rw [Nat.eq_of_beq_eq_true ho] at hne
    exact hne (by simpa using hm)
  · cases ho
theorem cf_ready {L : Array Bool} {j : Nat} (hr : j ∈ Region.ready .any ops L) : cf (L.setIfInBounds j true).toList + 1 = cf L.toList := by
  obtain ⟨h0, _⟩ := mem_ready.1 hr
  have hlt := getD_t_lt h0
  rw [Array.toList_setIfInBounds]
  refine cf_set _ _ ?_
  rw [Array.getElem?_toList, Array.getElem?_eq_getElem hlt]
  simpa [Array.getD, hlt] using h0
structure Inv (P : Program) (ops : Array Oper) (N : Nat) (D : List Deferred) (S F : List Nat) (W0 : World) (c L : Array Bool) (E : Es) (Gd : Reads) (G : Gs) (ρ : List Info) (K : Slo) (h : List Root) (a : Act) (w : World) : Prop where
  lo : LOk ops c L E
  cl : Closed .any ops L
  er : ∀ p ∈ E, p.1 ∈ Region.ready .any ops c ∧ opAt alKind ops p.1 = true
  nd : E.Pairwise (fun p q => p.1 ≠ q.1 ∧ (p.2 = q.2 → p.2 = 0))
  ko : KOk N D ρ K a
  ho : HOk S F W0 ρ h w
  go : GOk ρ h Gd G
  eo : ∀ p ∈ E, EOkO P ops W0 ρ h a w p.1 p.2
  un : ∀ (j : Nat) (oj : Oper) (d : Nat), ops[j]? = some oj → alKind oj = true → oj.dst = some d → c.getD j true = false → lkP K d = none
theorem al_uniq (hu : alUniq ops = true) {j : Nat} {oj : Oper} (hj : ops[j]? = some oj) (ha : alKind oj = true) {d : Nat} (hd : oj.dst = some d) : d ∉ oj.looksAt ops ∧ ∀ (i : Nat) (oi : Oper), ops[i]? = some oi → i ≠ j → oi.dst ≠ some d := by
  unfold alUniq at hu
  rw [List.all_eq_true] at hu
  have h1 := hu j (List.mem_range.2 (Array.getElem?_eq_some_iff.1 hj).1)
  simp only [opAt, hj, ha, Bool.not_true, Bool.false_or, hd, Bool.and_eq_true, Bool.not_eq_true', List.all_eq_true] at h1
  refine ⟨by simpa using h1.1, fun i oi hi hne e => ?_⟩
  have h2 := h1.2 i (List.mem_range.2 (Array.getElem?_eq_some_iff.1 hi).1)
  rw [hi] at h2
  simp only [e, Bool.or_eq_true, Bool.not_eq_true'] at h2
  rcases h2 with h2 | h2
  · exact hne (Nat.eq_of_beq_eq_true h2)
  · rw [Nat.beq_refl] at h2; cases h2
/-- What is free is apart from all that may still come up. -/
theorem free_apart {c : Array Bool} {i : Nat} {oi : Oper} (hi : ops[i]? = some oi) (hf : Region.free .any ops c i = true) (hir : i ∈ Region.ready .any ops c) {j : Nat} (hjr : j ∈ Region.ready .any ops c) (hne : j ≠ i) : ∀ oj, ops[j]? = some oj → oi.apart ops oj = true := by
  intro oj hj
  obtain ⟨h0, o, ho, hall⟩ := mem_ready.1 hjr
  rw [hj] at ho; cases ho
  refine Region.free_spec hi hf j oj hj hne h0 (fun e he hb heq => ?_)
  have h1 := hall e he hb
  rw [heq, ready_not_listed hir] at h1; cases h1
end
end Go.Proofs.Ythmicafabimfkaa
