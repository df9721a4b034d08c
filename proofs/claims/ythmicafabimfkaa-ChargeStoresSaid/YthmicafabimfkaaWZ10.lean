/- Calls on data: what they see, what they leave. No condition. -/
import Derived.Test.YthmicafabimfkaaWZ9
namespace Go.Proofs.Ythmicafabimfkaa
noncomputable section
open Go.RowKit
section
variable {P : Program} {N : Nat} {D : List Deferred} {S F : List Nat} {W0 : World} {ρ ρ' : List Info} {K : Slo} {h h' : List Root} {w w' : World} {a : Act} {o : Oper}
/-- What a root owns, or what it looks at. -/
inductive Wh where
  | own
  | foot
@[reducible] def Wh.rel : Wh → Info → Root → Nat → Prop
  | .own => Go.Proofs.Ythmicafabimfkaa.own
  | .foot => Go.Proofs.Ythmicafabimfkaa.foot
def Wh.list : Wh → Info → Root → List Nat
  | .own => ownL
  | .foot => footL
theorem Wh.mem {f : Wh} {i : Info} {r : Root} {b : Nat} : b ∈ f.list i r ↔ f.rel i r b := by
  cases f with
  | own => exact ownL_mem
  | foot => exact footL_mem
def blocksOf (f : Wh) (ρ : List Info) (h : List Root) (R : List Nat) : List Nat :=
  R.flatMap (fun p => match h[p]?, ρ[p]? with
    | some r, some i => f.list i r
    | _, _ => [])
theorem blocksOf_mem {f : Wh} {R : List Nat} {b : Nat} : b ∈ blocksOf f ρ h R ↔ ∃ p ∈ R, ∃ r i, h[p]? = some r ∧ ρ[p]? = some i ∧ f.rel i r b := by
  unfold blocksOf
  rw [List.mem_flatMap]
  constructor
  · rintro ⟨p, hp, hm⟩
    split at hm
    · rename_i r i hr hi; exact ⟨p, hp, r, i, hr, hi, Wh.mem.1 hm⟩
    · cases hm
  · rintro ⟨p, hp, r, i, hr, hi, hf⟩
    exact ⟨p, hp, by rw [hr, hi]; exact Wh.mem.2 hf⟩
theorem any_beq {R : List Nat} {p : Nat} : R.any (Nat.beq p) = true ↔ p ∈ R := by
  rw [List.any_eq_true]
  constructor
  · rintro ⟨x, hx, hb⟩; rw [Nat.eq_of_beq_eq_true hb]; exact hx
  · intro hp; exact ⟨p, hp, Nat.beq_refl p⟩
theorem HOk.enter (hh : HOk S F W0 ρ h w) (R : List Nat) : HOk (blocksOf .own ρ h R) (blocksOf .foot ρ h R) w ρ (mask R h) w := by
  have hm := hh.masked R
  refine ⟨Ex.refl _ _, hm.len, hm.ok, hm.sep, fun p r i b hr hi ho => ?_, fun p r i b hr hi ho => ?_, hh.layW, fun b hb => ⟨hh.outW hb, fun hm => (by obtain ⟨p, _, r, i, hr, hi, ho⟩ := blocksOf_mem.1 hm; exact hh.notOwn hb hr hi ho)⟩, hm.cov, hm.cln⟩
  · rcases mask_get R h 0 p r hr with ⟨h1, h2⟩ | ⟨rfl, _⟩
    · exact .inr (blocksOf_mem.2 ⟨p, any_beq.1 (by simpa using h2), r, i, h1, hi, ho⟩)
    · cases ho
  · rcases mask_get R h 0 p r hr with ⟨h1, h2⟩ | ⟨rfl, _⟩
    · exact .inr (.inr (blocksOf_mem.2 ⟨p, any_beq.1 (by simpa using h2), r, i, h1, hi, ho⟩))
    · exact absurd ho foot_dead
theorem merge_get (R : List Nat) : ∀ (h h' : List Root) (p q : Nat) (r : Root), h.length ≤ h'.length → (merge R h h' p)[q]? = some r →
    (h'[q]? = some r ∧ (q < h.length → R.any (Nat.beq (p + q)) = true)) ∨ (h[q]? = some r ∧ R.any (Nat.beq (p + q)) = false)
  | [], h', p, q, r, _, e => .inl ⟨e, fun hq => absurd hq (Nat.not_lt_zero _)⟩
  | x :: h, [], p, q, r, hl, e => by simp at hl
  | x :: h, y :: h', p, 0, r, hl, e => by
    simp only [merge, List.getElem?_cons_zero, Option.some.injEq] at e
    cases hb : R.any (Nat.beq p) with
    | true => rw [hb] at e; exact .inl ⟨by simpa using e, fun _ => by simp⟩
    | false => rw [hb] at e; exact .inr ⟨by simpa using e, by simp⟩
  | x :: h, y :: h', p, q + 1, r, hl, e => by
    simp only [merge, List.getElem?_cons_succ] at e
    rcases merge_get R h h' (p + 1) q r (by simpa using hl) e with ⟨h1, h2⟩ | ⟨h1, h2⟩
    · exact .inl ⟨by simpa using h1, fun hq => by rw [show p + (q + 1) = p + 1 + q by omega]; exact h2 (by simpa using hq)⟩
    · exact .inr ⟨by simpa using h1, by rw [show p + (q + 1) = p + 1 + q by omega]; exact h2⟩
theorem merge_len (R : List Nat) : ∀ (h h' : List Root) (p : Nat), h.length ≤ h'.length → (merge R h h' p).length = h'.length
  | [], _, _, _ => rfl
  | x :: h, [], p, hl => by simp at hl
  | x :: h, y :: h', p, hl => by simp only [merge, List.length_cons, merge_len R h h' (p + 1) (by simpa using hl)]
theorem merge_hid (R : List Nat) : ∀ (h h' : List Root) (p q : Nat), h.length ≤ h'.length → R.any (Nat.beq (p + q)) = false → q < h.length → (merge R h h' p)[q]? = h[q]?
  | [], _, _, _, _, _, hq => absurd hq (Nat.not_lt_zero _)
  | x :: h, [], p, _, hl, _, _ => by simp at hl
  | x :: h, y :: h', p, 0, hl, hb, _ => by simp only [merge]; rw [show R.any (Nat.beq p) = false by simpa using hb]; simp
  | x :: h, y :: h', p, q + 1, hl, hb, hq => by
    simp only [merge, List.getElem?_cons_succ]
    exact merge_hid R h h' (p + 1) q (by simpa using hl) (by rw [show p + 1 + q = p + (q + 1) by omega]; exact hb) (by simpa using hq)
theorem Pre.len (hp : Pre ρ ρ') : ρ.length ≤ ρ'.length := by
  rcases Nat.lt_or_ge ρ'.length ρ.length with hlt | hge
  · have := hp ρ'.length _ (List.getElem?_eq_getElem hlt)
    have := (List.getElem?_eq_some_iff.1 this).1
    omega
  · exact hge
theorem HOk.merged (hh : HOk S F W0 ρ h w) (R : List Nat) (hR : ∀ (q : Nat) (r : Root), h[q]? = some r → r.tag ≠ none → q ∈ R) (hp : Pre ρ ρ') (hc : HOk (blocksOf .own ρ h R) (blocksOf .foot ρ h R) w ρ' h' w') : HOk S F W0 ρ' (merge R h h' 0) w' := by
  have hl : h.length ≤ h'.length := by rw [← hh.len, ← hc.len]; exact hp.len
  have hid : ∀ (q : Nat) (r : Root) (i : Info), h[q]? = some r → ρ'[q]? = some i → ρ[q]? = some i := by
    intro q r i h1 h2
    obtain ⟨i0, h3⟩ := hh.info h1
    have := hp _ _ h3
    rw [h2] at this
    rw [h3, this]
  have hS : ∀ (q : Nat) (r : Root) (i : Info) (b : Nat), R.any (Nat.beq (0 + q)) = false → h[q]? = some r → ρ[q]? = some i → foot i r b → b ∉ blocksOf .own ρ h R := by
    intro q r i b hb h1 h2 h3 hm
    obtain ⟨p, hpR, r', i', g1, g2, g3⟩ := blocksOf_mem.1 hm
    refine hh.sep p q r' r i' i b (fun e => ?_) g1 h1 g2 h2 g3 h3
    subst e
    rw [Nat.zero_add] at hb
    rw [any_beq.2 hpR] at hb
    cases hb
  refine ⟨?_, by rw [merge_len R h h' 0 hl]; exact hc.len, ?_, ?_, ?_, ?_, hh.lay, hh.out, fun q t r i h1 h2 ht => ?_, fun q r i h1 h2 => ?_⟩
  rotate_right
  · rcases merge_get R h h' 0 q r hl h1 with ⟨h3, _⟩ | ⟨h3, h4⟩
    · exact hc.cln q r i h3 h2
    · exact hh.cln q r i h3 (hid q r i h3 h2)
  rotate_right
  · rcases merge_get R h h' 0 q r hl h1 with ⟨h3, _⟩ | ⟨h3, h4⟩
    · exact hc.cov q t r i h3 h2 ht
    · rw [Nat.zero_add, any_beq.2 (hR q r h3 (by rw [ht]; simp))] at h4
      cases h4
  · refine ⟨hc.ext.os.trans hh.ext.os, hc.ext.tape.trans hh.ext.tape, hc.ext.output.trans hh.ext.output, Nat.le_trans hh.ext.size hc.ext.size, fun k hk hs => ?_⟩
    have hkB : k ∉ blocksOf .own ρ h R := fun hm => by
      obtain ⟨p, _, r', i', g1, g2, g3⟩ := blocksOf_mem.1 hm
      rcases hh.mine p r' i' k g1 g2 g3 with g4 | g4
      · omega
      · exact hs g4
    rw [hc.ext.block k (Nat.lt_of_lt_of_le hk hh.ext.size) hkB]
    exact hh.ext.block k hk hs
  · intro q r i h1 h2
    rcases merge_get R h h' 0 q r hl h1 with ⟨h3, _⟩ | ⟨h3, h4⟩
    · exact hc.ok q r i h3 h2
    · have h5 := hid q r i h3 h2
      exact ((hh.ok q r i h3 h5).ex hc.ext (fun b hb => hS q r i b h4 h3 h5 hb)).mono hp
  · intro p q r s i j b hpq hr hs hi hj ho
    rcases merge_get R h h' 0 p r hl hr with ⟨h3, _⟩ | ⟨h3, h4⟩
    · rcases merge_get R h h' 0 q s hl hs with ⟨h5, _⟩ | ⟨h5, h6⟩
      · exact hc.sep p q r s i j b hpq h3 h5 hi hj ho
      · intro hf
        have h7 := hid q s j h5 hj
        rcases hc.mine p r i b h3 hi ho with g1 | g1
        · have := (hh.ok q s j h5 h7).lt hf; omega
        · exact hS q s j b h6 h5 h7 hf g1
    · have h7 := hid p r i h3 hi
      rcases merge_get R h h' 0 q s hl hs with ⟨h5, _⟩ | ⟨h5, h6⟩
      · intro hf
        rcases hc.near q s j b h5 hj hf with g1 | g1 | g1
        · have := (hh.ok p r i h3 h7).lt (own_foot ho); omega
        · exact hS p r i b h4 h3 h7 (own_foot ho) g1
        · obtain ⟨p', hpR, r', i', g2, g3, g4⟩ := blocksOf_mem.1 g1
          refine hh.sep p p' r r' i i' b (fun e => ?_) h3 g2 h7 g3 ho g4
          subst e
          rw [Nat.zero_add] at h4
          rw [any_beq.2 hpR] at h4
          cases h4
      · exact hh.sep p q r s i j b hpq h3 h5 h7 (hid q s j h5 hj) ho
  · intro p r i b hr hi ho
    rcases merge_get R h h' 0 p r hl hr with ⟨h3, _⟩ | ⟨h3, _⟩
    · rcases hc.mine p r i b h3 hi ho with g1 | g1
      · exact .inl (Nat.le_trans hh.ext.size g1)
      · obtain ⟨p', _, r', i', g2, g3, g4⟩ := blocksOf_mem.1 g1
        exact hh.mine p' r' i' b g2 g3 g4
    · exact hh.mine p r i b h3 (hid p r i h3 hi) ho
  · intro p r i b hr hi ho
    rcases merge_get R h h' 0 p r hl hr with ⟨h3, _⟩ | ⟨h3, _⟩
    · rcases hc.near p r i b h3 hi ho with g1 | g1 | g1
      · exact .inl (Nat.le_trans hh.ext.size g1)
      · obtain ⟨p', _, r', i', g2, g3, g4⟩ := blocksOf_mem.1 g1
        rcases hh.mine p' r' i' b g2 g3 g4 with g5 | g5
        · exact .inl g5
        · exact .inr (.inl g5)
      · obtain ⟨p', _, r', i', g2, g3, g4⟩ := blocksOf_mem.1 g1
        exact hh.near p' r' i' b g2 g3 g4
    · exact hh.near p r i b h3 (hid p r i h3 hi) ho
/-! Results -/
def resOne (tmps : Array Value) : ResultVar → Sem Value
  | .tmp t => pure (tmps.getD t undef)
  | .cell a t => do loadVar t (← asAddr (tmps.getD a undef))
def resL (tmps : Array Value) : List ResultVar → Sem (List Value)
  | [] => pure []
  | r :: rs => do
    let x ← resOne tmps r
    let xs ← resL tmps rs
    pure (x :: xs)
def single : List Value → Value
  | [v] => v
  | vs => .tuple vs.toArray
theorem mapM_resL (tmps : Array Value) : ∀ l : List ResultVar, l.mapM (resOne tmps) = resL tmps l
  | [] => rfl
  | r :: l => by rw [List.mapM_cons, resL, mapM_resL tmps l]
theorem results_eq (fn : Func) (tmps : Array Value) : results fn tmps = (do let vs ← resL tmps fn.results.toList; pure (single vs)) := by
  have e : ∀ g : ResultVar → Sem Value, (∀ r, g r = resOne tmps r) → (do let vs ← fn.results.mapM g; pure (if h : vs.size = 1 then vs[0] else .tuple vs) : Sem Value) = (do let vs ← resL tmps fn.results.toList; pure (single vs)) := by
    intro g hg
    rw [show g = resOne tmps from funext hg, Array.mapM_eq_mapM_toList, mapM_resL]
    simp only [map_eq_pure_bind, bind_assoc, pure_bind]
    congr 1
    funext vs
    match vs with
    | [] => rfl
    | [v] => rfl
    | v :: u :: vs => simp [single]
  exact e _ (fun r => by cases r <;> rfl)
def resP (P : Program) (K : Slo) (h : List Root) : ResultVar → Option PV
  | .tmp t => match lkP K t with
    | some .un => none
    | r => r
  | .cell a t => match lkP K a with
    | some (.c (.pt _ _ _ _)) => match loadP P K h t (.tmp a) with
      | .val [] v => some v
      | _ => none
    | _ => none
def resPs (P : Program) (K : Slo) (h : List Root) : List ResultVar → Option (List (Bool × List CV))
  | [] => some []
  | r :: l => match (resP P K h r).bind compP, resPs P K h l with
    | some x, some xs => some (x :: xs)
    | _, _ => none
def retP (P : Program) (K : Slo) (h : List Root) (l : List ResultVar) : Option PV :=
  match l with
  | [r] => resP P K h r
  | _ => match resPs P K h l with
    | some xs => some (.tu xs)
    | none => none
theorem resP_ok (hK : KOk N D ρ K a) (hh : HOk S F W0 ρ h w) {r : ResultVar} {v : PV} (hv : resP P K h r = some v) : ∃ u, DenP ρ v u ∧ (resOne a.tmps r).run P w = .ok u w := by
  cases r with
  | tmp t =>
    simp only [resP] at hv
    split at hv
    · cases hv
    · obtain ⟨u, h1, h2⟩ := hK.2.2 t v hv
      exact ⟨u, h1, by simp [resOne, h2]⟩
  | cell x t =>
    simp only [resP] at hv
    split at hv
    · rename_i id k row j hpt
      split at hv
      · rename_i v' hs
        cases hv
        have hl := loadP_ok (P := P) (o := ⟨none, .load t (.tmp x), t, "", #[], none⟩) hK hh (t := t) (x := .tmp x) (L := rdIds K h ⟨none, .load t (.tmp x), t, "", #[], none⟩) rfl (fun c e id hid => by simpa only [rdIds, e] using hid)
        rw [hs] at hl
        obtain ⟨u, h1, h2⟩ := hl trivial
        refine ⟨u, h1, ?_⟩
        have h3 := h2 w (Agree.refl _ _ _ _)
        have h4 : ∃ ad, a.eval (.tmp x) = .pointer (some ad) := by
          obtain ⟨i, b, off, _, _, _, h8⟩ := evalP_ok (x := .tmp x) hK hpt
          exact ⟨_, h8⟩
        obtain ⟨ad, h5⟩ := h4
        have h6 : a.tmps.getD x undef = .pointer (some ad) := h5
        unfold execOp at h3
        simp only [h5, Instr.loadAt, Instr.sureAddr, Sem.run_bind, Sem.run_pure, Result.andThen_ok] at h3
        simp only [resOne, h6, asAddr, Sem.run_bind, Sem.run_pure, Result.andThen_ok]
        cases hq : (loadVar t ad).run P w with
        | ok x' w2 => rw [hq] at h3; simpa using h3
        | halt _ _ => rw [hq] at h3; cases h3
      · cases hv
    · cases hv
theorem resPs_ok (hK : KOk N D ρ K a) (hh : HOk S F W0 ρ h w) : ∀ {l : List ResultVar} {xs : List (Bool × List CV)}, resPs P K h l = some xs → ∃ us, DenT ρ xs us ∧ (resL a.tmps l).run P w = .ok us w ∧ us.length = l.length
  | [], xs, hx => by cases hx; exact ⟨[], rfl, rfl, rfl⟩
  | r :: l, xs, hx => by
    simp only [resPs] at hx
    split at hx
    · rename_i x q h1 h2
      cases hx
      obtain ⟨v, h3, h4⟩ := Option.bind_eq_some_iff.1 h1
      obtain ⟨u, h5, h6⟩ := resP_ok hK hh h3
      obtain ⟨us, h7, h8, h9⟩ := resPs_ok hK hh h2
      refine ⟨u :: us, ⟨u, us, rfl, ?_, h7⟩, by simp only [resL, Sem.run_bind, h6, Result.andThen_ok, h8, Sem.run_pure], by simp [h9]⟩
      cases v with
      | c y => cases h4; exact ⟨y, rfl, h5⟩
      | ag m => cases h4; exact h5
      | tu m => cases h4
      | un => cases h4
    · cases hx
theorem retP_ok {fn : Func} (hK : KOk N D ρ K a) (hh : HOk S F W0 ρ h w) {v : PV} (hv : retP P K h fn.results.toList = some v) : ∃ u, DenP ρ v u ∧ (results fn a.tmps).run P w = .ok u w := by
  rw [results_eq]
  generalize fn.results.toList = l at *
  unfold retP at hv
  split at hv
  · rename_i r
    obtain ⟨u, h1, h2⟩ := resP_ok hK hh hv
    exact ⟨u, h1, by simp only [resL, Sem.run_bind, h2, Result.andThen_ok, Sem.run_pure, single]⟩
  · rename_i hne
    split at hv
    · rename_i xs hx
      cases hv
      obtain ⟨us, h1, h2, h3⟩ := resPs_ok hK hh hx
      refine ⟨.tuple us.toArray, ⟨us, h1, rfl⟩, ?_⟩
      have : single us = .tuple us.toArray := by
        match us, l, h3, hne with
        | [], _, _, _ => rfl
        | [u], [r], _, hne => exact absurd rfl (hne r)
        | _ :: _ :: _, _, _, _ => rfl
      simp only [Sem.run_bind, h2, Result.andThen_ok, Sem.run_pure, this]
    · cases hv
end
end
end Go.Proofs.Ythmicafabimfkaa
