/- A region that draws its order, walked in one planned order: what only reads is taken first; then the next call, allocation; .. ; a chain of writes at the end. No condition. -/
import Derived.Test.YtcbbhiobibhdnaaDoorWQB2
import Derived.OrdersHeld
namespace Go.Proofs.YtcbbhiobibhdnaaDoor
open Go.RowKit
section
variable {P : Program} {ops : Array Oper} {Q : Exit → Act → World → Prop} {md : Region.Mode} {S : World → Prop} {ex : List Nat}
/-- Number m waits for number i, through others too. -/
def waits (md : Region.Mode) (ops : Array Oper) : Nat → Nat → Nat → Bool
  | 0, _, _ => false
  | n + 1, m, i => match ops[m]? with
    | none => false
    | some o => o.after.any fun e => Region.binds md e && (e.on == i || waits md ops n e.on i)
/-- What has come up has come up behind what it waits for. -/
def Closed (md : Region.Mode) (ops : Array Oper) (listed : Array Bool) : Prop :=
  ∀ j oj, ops[j]? = some oj → listed.getD j false = true → ∀ e ∈ oj.after, Region.binds md e = true → listed.getD e.on false = true
theorem waits_listed {listed : Array Bool} (hc : Closed md ops listed) : ∀ (n m i : Nat), waits md ops n m i = true → (∀ o, ops[m]? = some o → ∀ e ∈ o.after, Region.binds md e = true → listed.getD e.on false = true) → listed.getD i false = true
  | 0, _, _, h, _ => by simp [waits] at h
  | n + 1, m, i, h, hm => by
    unfold waits at h
    cases ho : ops[m]? with
    | none => simp [ho] at h
    | some o =>
      simp only [ho] at h
      obtain ⟨e, he, hb⟩ := Array.any_eq_true'.1 h
      simp only [Bool.and_eq_true, Bool.or_eq_true, beq_iff_eq] at hb
      obtain ⟨hb1, hb2⟩ := hb
      have hl := hm o ho e he hb1
      rcases hb2 with hb2 | hb2
      · rw [← hb2]; exact hl
      · exact waits_listed hc n e.on i hb2 (fun o' ho' => hc e.on o' ho' hl)
theorem closed_set {listed : Array Bool} {i : Nat} (hc : Closed md ops listed) (hr : i ∈ Region.ready md ops listed) : Closed md ops (listed.setIfInBounds i true) := by
  intro j oj hj hl e he hb
  by_cases hji : j = i
  · subst hji
    obtain ⟨_, o, ho, hall⟩ := mem_ready.1 hr
    rw [hj] at ho; cases ho
    exact getD_set_true (hall e he hb)
  · rw [getD_set_ne false (Ne.symm hji)] at hl
    exact getD_set_true (hc j oj hj hl e he hb)
theorem ready_not_listed {listed : Array Bool} {i : Nat} (hr : i ∈ Region.ready md ops listed) : listed.getD i false = false := by
  have h0 := (mem_ready.1 hr).1
  rcases Nat.lt_or_ge i listed.size with h' | h'
  · simpa [h'] using h0
  · simp [Array.getElem?_eq_none h']
/-! ### The plan -/
def stOk (md : Region.Mode) (ops : Array Oper) (ex : List Nat) : List Nat → Array Bool → Bool
  | [], _ => true
  | i :: l, listed => (Region.ready md ops listed).contains i && Region.free md ops listed i && ex.all (fun m => waits md ops ops.size m i) && stOk md ops ex l (listed.setIfInBounds i true)
def marks (l : List Nat) (listed : Array Bool) : Array Bool := l.foldl (fun t i => t.setIfInBounds i true) listed
/-- The operations with these numbers. -/
def pick (l : List Oper) : List Nat → List Oper
  | [] => []
  | i :: r => (l.drop i).take 1 ++ pick l r
end
section
variable {P : Program} {l : List Oper} {S : World → Prop} {Q : Exit → Act → World → Prop} {md : Region.Mode} {ex : List Nat}
/-- Q at a normal end, nothing else. -/
def Calm (Q : Exit → Act → World → Prop) : Exit → Act → World → Prop
  | .normal, a, w => Q .normal a w
  | _, _, _ => False
/-! The moves of a walk. -/
end
end Go.Proofs.YtcbbhiobibhdnaaDoor
