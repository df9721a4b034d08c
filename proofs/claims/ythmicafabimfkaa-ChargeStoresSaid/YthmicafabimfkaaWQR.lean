/- A region that draws its order, walked in one planned order: what only reads is taken first; then the next call, allocation; .. ; a chain of writes at the end. No condition. -/
import Derived.Test.YthmicafabimfkaaWQB2
import Derived.OrdersHeld
namespace Go.Proofs.Ythmicafabimfkaa
open Go.RowKit
section
variable {P : Program} {ops : Array Oper} {Q : Exit → Act → World → Prop} {md : Region.Mode} {S : World → Prop} {ex : List Nat}
/-- Whatever order is picked from here on, and S is kept by every operation that is carried out and is none of the list ex. -/
def wpAnyX (P : Program) (md : Region.Mode) (ops : Array Oper) (Q : Exit → Act → World → Prop) (S : World → Prop) (ex : List Nat) : Nat → Array Bool → Act → World → Prop
  | 0, listed, a, w => Region.ready md ops listed = [] ∧ Q .normal a w
  | fuel + 1, listed, a, w =>
    (Region.ready md ops listed = [] → Q .normal a w) ∧
    ∀ i ∈ Region.ready md ops listed, wpOp P ops Q i (fun a' w' => (ex.contains i = false → S w → S w') ∧ wpAnyX P md ops Q S ex fuel (listed.setIfInBounds i true) a' w') a w
theorem wpAny_of_X : ∀ (fuel : Nat) (listed : Array Bool) (a : Act) (w : World), wpAnyX P md ops Q S ex fuel listed a w → wpAny P md ops Q fuel listed a w
  | 0, _, _, _, h => h
  | fuel + 1, _, _, _, h => ⟨h.1, fun i hi => wpOp_mono (fun a' w' h' => wpAny_of_X fuel _ a' w' h'.2) (h.2 i hi)⟩
/-- Number m waits for number i, through others too. -/
def waits (md : Region.Mode) (ops : Array Oper) : Nat → Nat → Nat → Bool
  | 0, _, _ => false
  | n + 1, m, i => match ops[m]? with
    | none => false
    | some o => o.after.any fun e => Region.binds md e && (e.on == i || waits md ops n e.on i)
/-- What has come up has come up behind what it waits for. -/
def Closed (md : Region.Mode) (ops : Array Oper) (listed : Array Bool) : Prop :=
  ∀ j oj, ops[j]? = some oj → listed.getD j false = true → ∀ e ∈ oj.after, Region.binds md e = true → listed.getD e.on false = true
theorem waits_listed {listed : Array Bool} (hc : Closed md ops listed) : ∀ (n m i : Nat), waits md ops n m i = true → (∀ o, ops[m]? = some o → ∀ e ∈ o.after, Region.binds md e = true → listed.getD e.on false = true) → listed.getD i false = true
  | 0, _, _, h, _ => by simp [waits] at h
  | n + 1, m, i, h, hm => by
    unfold waits at h
    cases ho : ops[m]? with
    | none => simp [ho] at h
    | some o =>
      simp only [ho] at h
      obtain ⟨e, he, hb⟩ := Array.any_eq_true'.1 h
      simp only [Bool.and_eq_true, Bool.or_eq_true, beq_iff_eq] at hb
      obtain ⟨hb1, hb2⟩ := hb
      have hl := hm o ho e he hb1
      rcases hb2 with hb2 | hb2
      · rw [← hb2]; exact hl
      · exact waits_listed hc n e.on i hb2 (fun o' ho' => hc e.on o' ho' hl)
theorem closed_set {listed : Array Bool} {i : Nat} (hc : Closed md ops listed) (hr : i ∈ Region.ready md ops listed) : Closed md ops (listed.setIfInBounds i true) := by
  intro j oj hj hl e he hb
  by_cases hji : j = i
  · subst hji
    obtain ⟨_, o, ho, hall⟩ := mem_ready.1 hr
    rw [hj] at ho; cases ho
    exact getD_set_true (hall e he hb)
  · rw [getD_set_ne false (Ne.symm hji)] at hl
    exact getD_set_true (hc j oj hj hl e he hb)
theorem ready_not_listed {listed : Array Bool} {i : Nat} (hr : i ∈ Region.ready md ops listed) : listed.getD i false = false := by
  have h0 := (mem_ready.1 hr).1
  rcases Nat.lt_or_ge i listed.size with h' | h'
  · simpa [h'] using h0
  · simp [Array.getElem?_eq_none h']
theorem wpAnyX_first {i : Nat} {oi : Oper} {v : Value} (hi : ops[i]? = some oi) (hsel : ∀ (j : Nat) (o : Oper) cs b, ops[j]? = some o → o.op ≠ .select cs b)
    (hQ : ∀ c a w, Q (.panic c) (a.put oi.dst v) w → Q (.panic c) a w) (n : Nat) (hw : ∀ m ∈ ex, waits md ops n m i = true) :
    ∀ (fuel : Nat) (listed : Array Bool) (a : Act) (w : World), Closed md ops listed →
      (∀ j oj, ops[j]? = some oj → j ≠ i → listed.getD j true = false → (∀ e ∈ oj.after, Region.binds md e = true → e.on ≠ i) → oi.apart ops oj = true) →
      i ∈ Region.ready md ops listed → YieldsIf P ops S oi v a → S w →
      wpAnyX P md ops Q S ex fuel (listed.setIfInBounds i true) (a.put oi.dst v) w → wpAnyX P md ops Q S ex (fuel + 1) listed a w := by
  intro fuel
  induction fuel with
  | zero =>
    intro listed a w _ _ hr hy hS H
    refine ⟨fun h => (by rw [h] at hr; cases hr), fun j hj => ?_⟩
    by_cases hji : j = i
    · subst hji; exact hy.wpOp hi hS ⟨fun _ _ => hS, H⟩
    · have := ready_mono hj hji
      rw [H.1] at this
      cases this
  | succ fuel ih =>
    intro listed a w hc hfree hr hy hS H
    refine ⟨fun h => (by rw [h] at hr; cases hr), fun j hj => ?_⟩
    by_cases hji : j = i
    · subst hji; exact hy.wpOp hi hS ⟨fun _ _ => hS, H⟩
    · have h1 := H.2 j (ready_mono hj hji)
      obtain ⟨hjun, oj, hoj, hall⟩ := mem_ready.1 hj
      have hil := ready_not_listed hr
      have hjx : ex.contains j = false := by
        cases hx : ex.contains j with
        | false => rfl
        | true =>
          have hmem : j ∈ ex := by simpa using hx
          have := waits_listed hc n j i (hw j hmem) (fun o ho e he hb => by rw [hoj] at ho; cases ho; exact hall e he hb)
          rw [hil] at this; cases this
      have hnot : ∀ e ∈ oj.after, Region.binds md e = true → e.on ≠ i := fun e he hb heq => by
        have h1 := hall e he hb
        rw [heq, hil] at h1; cases h1
      have h2 := wpOp_putIf hoj (hfree j oj hoj hji hjun hnot) (fun cs b => hsel i oi cs b hi) (fun cs b => hsel j oj cs b hoj) hQ hy h1
      have hfree' : ∀ k ok, ops[k]? = some ok → k ≠ i → (listed.setIfInBounds j true).getD k true = false →
          (∀ e ∈ ok.after, Region.binds md e = true → e.on ≠ i) → oi.apart ops ok = true := fun k ok hk hki hun hno => by
        refine hfree k ok hk hki ?_ hno
        by_cases hjk : j = k
        · subst hjk; exact hjun
        · rw [getD_set_ne true hjk] at hun; exact hun
      refine wpOp_mono (fun a' w' h3 => ?_) h2
      have hS' := h3.2.1 hjx hS
      refine ⟨fun _ _ => hS', ih (listed.setIfInBounds j true) a' w' (closed_set hc hj) hfree' (ready_mono hr (Ne.symm hji)) h3.1 hS' ?_⟩
      rw [Array.setIfInBounds_comm _ _ hji]
      exact h3.2.2
/-- What yields its value in whatever world. -/
theorem wpAnyX_pure {i : Nat} {oi : Oper} {v : Value} (hi : ops[i]? = some oi) (hsel : ∀ (j : Nat) (o : Oper) cs b, ops[j]? = some o → o.op ≠ .select cs b)
    (hQ : ∀ c a w, Q (.panic c) (a.put oi.dst v) w → Q (.panic c) a w) :
    ∀ (fuel : Nat) (listed : Array Bool) (a : Act) (w : World), Closed md ops listed →
      (∀ j oj, ops[j]? = some oj → j ≠ i → listed.getD j true = false → (∀ e ∈ oj.after, Region.binds md e = true → e.on ≠ i) → oi.apart ops oj = true) →
      i ∈ Region.ready md ops listed → YieldsIf P ops (fun _ => True) oi v a →
      wpAnyX P md ops Q S ex fuel (listed.setIfInBounds i true) (a.put oi.dst v) w → wpAnyX P md ops Q S ex (fuel + 1) listed a w := by
  intro fuel
  induction fuel with
  | zero =>
    intro listed a w _ _ hr hy H
    refine ⟨fun h => (by rw [h] at hr; cases hr), fun j hj => ?_⟩
    by_cases hji : j = i
    · subst hji; exact hy.wpOp hi trivial ⟨fun _ h => h, H⟩
    · have := ready_mono hj hji
      rw [H.1] at this
      cases this
  | succ fuel ih =>
    intro listed a w hc hfree hr hy H
    refine ⟨fun h => (by rw [h] at hr; cases hr), fun j hj => ?_⟩
    by_cases hji : j = i
    · subst hji; exact hy.wpOp hi trivial ⟨fun _ h => h, H⟩
    · have h1 := H.2 j (ready_mono hj hji)
      obtain ⟨hjun, oj, hoj, hall⟩ := mem_ready.1 hj
      have hil := ready_not_listed hr
      have hnot : ∀ e ∈ oj.after, Region.binds md e = true → e.on ≠ i := fun e he hb heq => by
        have h1 := hall e he hb
        rw [heq, hil] at h1; cases h1
      have h2 := wpOp_putIf hoj (hfree j oj hoj hji hjun hnot) (fun cs b => hsel i oi cs b hi) (fun cs b => hsel j oj cs b hoj) hQ hy h1
      have hfree' : ∀ k ok, ops[k]? = some ok → k ≠ i → (listed.setIfInBounds j true).getD k true = false →
          (∀ e ∈ ok.after, Region.binds md e = true → e.on ≠ i) → oi.apart ops ok = true := fun k ok hk hki hun hno => by
        refine hfree k ok hk hki ?_ hno
        by_cases hjk : j = k
        · subst hjk; exact hjun
        · rw [getD_set_ne true hjk] at hun; exact hun
      refine wpOp_mono (fun a' w' h3 => ?_) h2
      refine ⟨h3.2.1, ih (listed.setIfInBounds j true) a' w' (closed_set hc hj) hfree' (ready_mono hr (Ne.symm hji)) h3.1 ?_⟩
      rw [Array.setIfInBounds_comm _ _ hji]
      exact h3.2.2
/-! ### The plan -/
/-- A part of a plan: reads, taken first; one operation behind which S holds; a chain of writes. -/
inductive Seg where
  | pu (l : List Nat)
  | st (l : List Nat)
  | mv (i : Nat)
  | tl (l : List Nat)
def Seg.nums : Seg → List Nat
  | .pu l => l
  | .st l => l
  | .mv i => [i]
  | .tl l => l
def exOf : List Seg → List Nat
  | [] => []
  | .tl l :: r => l ++ exOf r
  | _ :: r => exOf r
def stOk (md : Region.Mode) (ops : Array Oper) (ex : List Nat) : List Nat → Array Bool → Bool
  | [], _ => true
  | i :: l, listed => (Region.ready md ops listed).contains i && Region.free md ops listed i && ex.all (fun m => waits md ops ops.size m i) && stOk md ops ex l (listed.setIfInBounds i true)
def tlOk (md : Region.Mode) (ops : Array Oper) : List Nat → Array Bool → Bool
  | [], _ => true
  | i :: l, listed => (Region.ready md ops listed == [i]) && tlOk md ops l (listed.setIfInBounds i true)
def marks (l : List Nat) (listed : Array Bool) : Array Bool := l.foldl (fun t i => t.setIfInBounds i true) listed
def planOk (md : Region.Mode) (ops : Array Oper) (ex : List Nat) : List Seg → Array Bool → Bool
  | [], listed => (Region.ready md ops listed).isEmpty
  | .pu l :: r, listed => stOk md ops [] l listed && planOk md ops ex r (marks l listed)
  | .st l :: r, listed => stOk md ops ex l listed && planOk md ops ex r (marks l listed)
  | .mv i :: r, listed => (Region.ready md ops listed == [i]) && planOk md ops ex r (listed.setIfInBounds i true)
  | .tl l :: r, listed => tlOk md ops l listed && planOk md ops ex r (marks l listed)
def lens : List Seg → Nat
  | [] => 0
  | s :: r => s.nums.length + lens r
/-- The operations with these numbers. -/
def pick (l : List Oper) : List Nat → List Oper
  | [] => []
  | i :: r => (l.drop i).take 1 ++ pick l r
/-- Reads: each yields one value in every world that meets S. -/
def wpYield (P : Program) (ops : Array Oper) (S : World → Prop) (Q : Act → Prop) : List Oper → Act → Prop
  | [], a => Q a
  | o :: rest, a => if Region.wanted o (yielded ops a.tmps) then ∃ v, (∀ w, S w → (execOp a.eval o).run P w = .ok (.value v) w) ∧ wpYield P ops S Q rest (a.put o.dst v) else wpYield P ops S Q rest (a.put o.dst undef)
theorem wpYield_nil {Q : Act → Prop} {a : Act} (h : Q a) : wpYield P ops S Q [] a := h
theorem wpYield_want {Q : Act → Prop} {a : Act} {o : Oper} {rest : List Oper} (v : Value) (hw : Region.wanted o (yielded ops a.tmps) = true)
    (hv : ∀ w, S w → (execOp a.eval o).run P w = .ok (.value v) w) (h : wpYield P ops S Q rest (a.put o.dst v)) : wpYield P ops S Q (o :: rest) a := by
  unfold wpYield; rw [if_pos hw]; exact ⟨v, hv, h⟩
theorem wpYield_skip {Q : Act → Prop} {a : Act} {o : Oper} {rest : List Oper} (hw : Region.wanted o (yielded ops a.tmps) = false)
    (h : wpYield P ops S Q rest (a.put o.dst undef)) : wpYield P ops S Q (o :: rest) a := by
  unfold wpYield; rw [if_neg (by simp [hw])]; exact h
/-- What a plan asks, part by part. -/
def wpPlan (P : Program) (l : List Oper) (S : World → Prop) (Q : Exit → Act → World → Prop) : List Seg → Act → World → Prop
  | [], a, w => Q .normal a w
  | .pu is :: r, a, w => wpYield P l.toArray (fun _ => True) (fun a' => wpPlan P l S Q r a' w) (pick l is) a
  | .st is :: r, a, w => wpYield P l.toArray S (fun a' => wpPlan P l S Q r a' w) (pick l is) a
  | .mv i :: r, a, w => wpList P l.toArray (fun e a' w' => e = .normal ∧ S w' ∧ wpPlan P l S Q r a' w') (pick l [i]) a w
  | .tl is :: r, a, w => wpList P l.toArray (fun e a' w' => e = .normal ∧ wpPlan P l S Q r a' w') (pick l is) a w
end
section
variable {P : Program} {l : List Oper} {S : World → Prop} {Q : Exit → Act → World → Prop} {md : Region.Mode} {ex : List Nat}
/-- Q at a normal end, nothing else. -/
def Calm (Q : Exit → Act → World → Prop) : Exit → Act → World → Prop
  | .normal, a, w => Q .normal a w
  | _, _, _ => False
theorem Oper.wp_calm {o : Oper} {a : Act} {w : World} {K : Act → World → Prop} {Q1 Q2 : Exit → Act → World → Prop} (hp : ∀ c a w, Q1 (.panic c) a w → False) (ho : ∀ a w, Q1 .outgrown a w → False)
    (h : o.wp P a w K Q1) : o.wp P a w K Q2 := by
  unfold Oper.wp at *
  generalize (execOp a.eval o).run P w = r at *
  cases r with
  | ok n w' =>
    cases n <;> simp only [Oper.upon] at h ⊢ <;>
      first
        | exact h
        | exact Calls.mono h (fun e w'' he => by
            cases e with
            | returned v => exact he
            | panicked c => exact (hp _ _ _ he).elim
            | outgrown => obtain ⟨a, w, q⟩ := he; exact (ho _ _ q).elim)
  | halt x w' =>
    cases x <;> simp only [Oper.upon] at h ⊢
    case panic u => exact (hp _ _ _ h).elim
theorem pick_one {i : Nat} {o : Oper} (h : l.toArray[i]? = some o) : (l.drop i).take 1 = [o] := by
  have h' : l[i]? = some o := by simpa using h
  obtain ⟨hi, e⟩ := List.getElem?_eq_some_iff.1 h'
  rw [List.drop_eq_getElem_cons hi, e]; rfl
theorem wpOp_of_one {o : Oper} {i : Nat} (h : l.toArray[i]? = some o) {R : Act → World → Prop} {a : Act} {w : World} {rest : List Oper}
    (hw : wpList P l.toArray (fun e a' w' => e = .normal ∧ R a' w') (o :: rest) a w) :
    wpOp P l.toArray (Calm Q) i (wpList P l.toArray (fun e a' w' => e = .normal ∧ R a' w') rest) a w := by
  have hw' : if Region.wanted o (yielded l.toArray a.tmps) then o.wp P a w (wpList P l.toArray (fun e a' w' => e = .normal ∧ R a' w') rest) (fun e a' w' => e = .normal ∧ R a' w') ∨ (o.asks P a w ∧ LetsOut (fun e a' w' => e = .normal ∧ R a' w')) else wpList P l.toArray (fun e a' w' => e = .normal ∧ R a' w') rest (a.put o.dst undef) w := hw
  clear hw
  have hw := hw'
  unfold wpOp
  simp only [h]
  split
  · rename_i hwd
    rw [if_pos hwd] at hw
    rcases hw with hw | ⟨_, a0, w0, h0, _⟩
    · refine .inl (Oper.wp_calm (Q1 := fun e a' w' => e = .normal ∧ R a' w') (fun _ _ _ q => by cases q.1) (fun _ _ q => by cases q.1) hw)
    · cases h0
  · rename_i hwd
    simp only [hwd] at hw
    exact hw
theorem getD_size {listed : Array Bool} {i : Nat} (h : i ∈ Region.ready md l.toArray listed) : ∃ o, l.toArray[i]? = some o := by
  obtain ⟨_, o, ho, _⟩ := mem_ready.1 h
  exact ⟨o, ho⟩
theorem st_sound (hs : Region.noSelect l.toArray = true) {w : World} (hS : S w) {R : Act → Prop} (N : Nat) : ∀ (is : List Nat) (listed : Array Bool) (a : Act), Closed md l.toArray listed → stOk md l.toArray ex is listed = true →
    (∀ a', Closed md l.toArray (marks is listed) → R a' → wpAnyX P md l.toArray (Calm Q) S ex N (marks is listed) a' w) → wpYield P l.toArray S R (pick l is) a → wpAnyX P md l.toArray (Calm Q) S ex (is.length + N) listed a w
  | [], listed, a, hc, _, hN, h => by simpa [marks] using hN a hc h
  | i :: is, listed, a, hc, h1, hN, h => by
    simp only [stOk, Bool.and_eq_true] at h1
    obtain ⟨⟨⟨hr, hf⟩, hwt⟩, hrest⟩ := h1
    have hr' : i ∈ Region.ready md l.toArray listed := by simpa using hr
    obtain ⟨o, ho⟩ := getD_size hr'
    simp only [pick, pick_one ho, List.cons_append, List.nil_append] at h
    have hlen : (i :: is).length + N = (is.length + N) + 1 := by simp; omega
    rw [hlen]
    have hwt' : ∀ m ∈ ex, waits md l.toArray l.toArray.size m i = true := fun m hm => List.all_eq_true.1 hwt m hm
    have key : ∀ v, YieldsIf P l.toArray S o v a → wpYield P l.toArray S R (pick l is) (a.put o.dst v) → wpAnyX P md l.toArray (Calm Q) S ex (is.length + N + 1) listed a w := fun v hy hn =>
      wpAnyX_first ho (Region.noSelect_spec hs) (fun _ _ _ q => q) l.toArray.size hwt' _ listed a w hc (Region.free_spec ho hf) hr' hy hS
        (st_sound hs hS N is (listed.setIfInBounds i true) (a.put o.dst v) (closed_set hc hr') hrest hN hn)
    unfold wpYield at h
    split at h
    · rename_i hwd
      obtain ⟨v, hv, hn⟩ := h
      exact key v (.inl ⟨hwd, hv⟩) hn
    · rename_i hwd
      exact key undef (.inr ⟨by simpa using hwd, rfl⟩) h
theorem pu_sound (hs : Region.noSelect l.toArray = true) {w : World} {R : Act → Prop} (N : Nat) : ∀ (is : List Nat) (listed : Array Bool) (a : Act), Closed md l.toArray listed → stOk md l.toArray [] is listed = true →
    (∀ a', Closed md l.toArray (marks is listed) → R a' → wpAnyX P md l.toArray (Calm Q) S ex N (marks is listed) a' w) → wpYield P l.toArray (fun _ => True) R (pick l is) a → wpAnyX P md l.toArray (Calm Q) S ex (is.length + N) listed a w
  | [], listed, a, hc, _, hN, h => by simpa [marks] using hN a hc h
  | i :: is, listed, a, hc, h1, hN, h => by
    simp only [stOk, Bool.and_eq_true] at h1
    obtain ⟨⟨⟨hr, hf⟩, hwt⟩, hrest⟩ := h1
    have hr' : i ∈ Region.ready md l.toArray listed := by simpa using hr
    obtain ⟨o, ho⟩ := getD_size hr'
    simp only [pick, pick_one ho, List.cons_append, List.nil_append] at h
    have hlen : (i :: is).length + N = (is.length + N) + 1 := by simp; omega
    rw [hlen]
    have key : ∀ v, YieldsIf P l.toArray (fun _ => True) o v a → wpYield P l.toArray (fun _ => True) R (pick l is) (a.put o.dst v) → wpAnyX P md l.toArray (Calm Q) S ex (is.length + N + 1) listed a w := fun v hy hn =>
      wpAnyX_pure ho (Region.noSelect_spec hs) (fun _ _ _ q => q) _ listed a w hc (Region.free_spec ho hf) hr' hy
        (pu_sound hs N is (listed.setIfInBounds i true) (a.put o.dst v) (closed_set hc hr') hrest hN hn)
    unfold wpYield at h
    split at h
    · rename_i hwd
      obtain ⟨v, hv, hn⟩ := h
      exact key v (.inl ⟨hwd, hv⟩) hn
    · rename_i hwd
      exact key undef (.inr ⟨by simpa using hwd, rfl⟩) h
theorem tl_sound {R : Act → World → Prop} (N : Nat) : ∀ (is : List Nat) (listed : Array Bool) (a : Act) (w : World), Closed md l.toArray listed → tlOk md l.toArray is listed = true → (∀ i ∈ is, i ∈ ex) →
    (∀ a' w', Closed md l.toArray (marks is listed) → R a' w' → wpAnyX P md l.toArray (Calm Q) S ex N (marks is listed) a' w') → wpList P l.toArray (fun e a' w' => e = .normal ∧ R a' w') (pick l is) a w → wpAnyX P md l.toArray (Calm Q) S ex (is.length + N) listed a w
  | [], listed, a, w, hc, _, _, hN, h => by simpa [marks] using hN a w hc h.2
  | i :: is, listed, a, w, hc, h1, hx, hN, h => by
    simp only [tlOk, Bool.and_eq_true, beq_iff_eq] at h1
    obtain ⟨h1, hrest⟩ := h1
    have hr' : i ∈ Region.ready md l.toArray listed := by rw [h1]; simp
    obtain ⟨o, ho⟩ := getD_size hr'
    simp only [pick, pick_one ho, List.cons_append, List.nil_append] at h
    have hlen : (i :: is).length + N = (is.length + N) + 1 := by simp; omega
    rw [hlen]
    refine ⟨fun h0 => (by rw [h1] at h0; cases h0), fun j hj => ?_⟩
    rw [h1] at hj
    obtain rfl : j = i := by simpa using hj
    refine wpOp_mono (fun a' w' hh => ⟨fun hxx _ => ?_, tl_sound N is _ a' w' (closed_set hc hr') hrest (fun k hk => hx k (List.mem_cons_of_mem _ hk)) hN hh⟩) (wpOp_of_one ho h)
    have : ex.contains j = true := by simpa using hx j (List.mem_cons_self ..)
    rw [this] at hxx; cases hxx
def onlyTl : List Seg → Bool
  | [] => true
  | .pu _ :: r => onlyTl r
  | .tl _ :: r => onlyTl r
  | _ => false
/-- Writes stand at the end alone. -/
def endTl : List Seg → Bool
  | [] => true
  | .tl _ :: r => onlyTl r
  | _ :: r => endTl r
theorem plan_sound (hs : Region.noSelect l.toArray = true) : ∀ (segs : List Seg) (listed : Array Bool) (a : Act) (w : World), Closed md l.toArray listed → planOk md l.toArray ex segs listed = true →
    (∀ i ∈ exOf segs, i ∈ ex) → (S w ∧ endTl segs = true) ∨ onlyTl segs = true →
    wpPlan P l S Q segs a w → wpAnyX P md l.toArray (Calm Q) S ex (lens segs) listed a w
  | [], listed, a, w, _, hB, _, _, h => ⟨by simpa [planOk] using hB, h⟩
  | .pu is :: r, listed, a, w, hc, hB, hx, hS, h => by
    simp only [planOk, Bool.and_eq_true] at hB
    exact pu_sound hs (lens r) is listed a hc hB.1 (fun a' hc' hr => plan_sound hs r _ a' w hc' hB.2 hx (hS.imp (fun h => ⟨h.1, h.2⟩) id) hr) h
  | .st is :: r, listed, a, w, hc, hB, hx, hS, h => by
    obtain ⟨hS, he⟩ := hS.resolve_right (by simp [onlyTl])
    simp only [planOk, Bool.and_eq_true] at hB
    exact st_sound hs hS (lens r) is listed a hc hB.1 (fun a' hc' hr => plan_sound hs r _ a' w hc' hB.2 hx (.inl ⟨hS, he⟩) hr) h
  | .mv i :: r, listed, a, w, hc, hB, hx, hS, h => by
    obtain ⟨_, he⟩ := hS.resolve_right (by simp [onlyTl])
    simp only [planOk, Bool.and_eq_true, beq_iff_eq] at hB
    obtain ⟨h1, h2⟩ := hB
    have hr' : i ∈ Region.ready md l.toArray listed := by rw [h1]; simp
    obtain ⟨o, ho⟩ := getD_size hr'
    unfold wpPlan at h
    simp only [pick, pick_one ho, List.append_nil] at h
    have hlen : lens (.mv i :: r) = lens r + 1 := by simp [lens, Seg.nums]; omega
    rw [hlen]
    refine ⟨fun h0 => (by rw [h1] at h0; cases h0), fun j hj => ?_⟩
    rw [h1] at hj
    obtain rfl : j = i := by simpa using hj
    refine wpOp_mono (fun a' w' hh => ?_) (wpOp_of_one ho h)
    obtain ⟨_, hS', hn⟩ := hh
    exact ⟨fun _ _ => hS', plan_sound hs r _ a' w' (closed_set hc hr') h2 hx (.inl ⟨hS', he⟩) hn⟩
  | .tl is :: r, listed, a, w, hc, hB, hx, hS, h => by
    have he : onlyTl r = true := by
      rcases hS with ⟨_, he⟩ | he
      · exact he
      · exact he
    simp only [planOk, Bool.and_eq_true] at hB
    exact tl_sound (lens r) is listed a w hc hB.1 (fun i hi => hx i (List.mem_append_left _ hi)) (fun a' w' hc' hr => plan_sound hs r _ a' w' hc' hB.2 (fun i hi => hx i (List.mem_append_right _ hi)) (.inr he) hr) h
/-- A region that draws its order, by a plan. -/
theorem region_plan {id : Nat} {a : Act} {w : World} (S : World → Prop) (segs : List Seg) (hm : P.follows .mixedOrders = true)
    (hB : (Region.noSelect l.toArray && planOk .any l.toArray (exOf segs) segs (Array.replicate l.toArray.size false) && endTl segs && (lens segs == l.toArray.size)) = true) (hS : S w.drew) (h : wpPlan P l S Q segs a w.drew) : (Code.region id l.toArray true).wp P Q a w := by
  simp only [Bool.and_eq_true, beq_iff_eq] at hB
  obtain ⟨⟨⟨hs, hp⟩, he⟩, hn⟩ := hB
  refine Code.wp_mono (Q := Calm Q) (fun e a w q => by cases e <;> first | exact q | exact q.elim) ?_
  refine wp_region_any hm (wpAny_of_X (S := S) (ex := exOf segs) _ _ _ _ ?_)
  have := plan_sound (md := .any) (ex := exOf segs) (P := P) (S := S) (Q := Q) hs segs (Array.replicate l.toArray.size false) a w.drew
    (fun j oj _ hl => by rw [getD_replicate_false] at hl; cases hl) hp (fun _ hi => hi) (.inl ⟨hS, he⟩) h
  rw [hn] at this
  exact this
/-! The moves of a walk. -/
theorem plan_nil {a : Act} {w : World} (h : Q .normal a w) : wpPlan P l S Q [] a w := h
theorem plan_st {is : List Nat} {r : List Seg} {a : Act} {w : World} (h : ∀ K : Act → Prop, (∀ a', wpPlan P l S Q r a' w → K a') → wpYield P l.toArray S K (pick l is) a) : wpPlan P l S Q (.st is :: r) a w := h _ (fun _ h => h)
theorem plan_pu {is : List Nat} {r : List Seg} {a : Act} {w : World} (h : ∀ K : Act → Prop, (∀ a', wpPlan P l S Q r a' w → K a') → wpYield P l.toArray (fun _ => True) K (pick l is) a) : wpPlan P l S Q (.pu is :: r) a w := h _ (fun _ h => h)
theorem plan_mv {i : Nat} {r : List Seg} {a : Act} {w : World} (h : ∀ K : Act → World → Prop, (∀ a' w', S w' → wpPlan P l S Q r a' w' → K a' w') → wpList P l.toArray (fun e a' w' => e = .normal ∧ K a' w') (pick l [i]) a w) : wpPlan P l S Q (.mv i :: r) a w :=
  h (fun a' w' => S w' ∧ wpPlan P l S Q r a' w') (fun _ _ h1 h2 => ⟨h1, h2⟩)
theorem plan_tl {is : List Nat} {r : List Seg} {a : Act} {w : World} (h : ∀ K : Act → World → Prop, (∀ a' w', wpPlan P l S Q r a' w' → K a' w') → wpList P l.toArray (fun e a' w' => e = .normal ∧ K a' w') (pick l is) a w) : wpPlan P l S Q (.tl is :: r) a w :=
  h (fun a' w' => wpPlan P l S Q r a' w') (fun _ _ h1 => h1)
end
end Go.Proofs.Ythmicafabimfkaa
