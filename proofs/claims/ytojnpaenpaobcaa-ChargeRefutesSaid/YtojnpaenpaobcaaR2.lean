/- Operations of a drawn region that are passed over, many at once. No condition. -/
import Derived.Test.YtojnpaenpaobcaaR
namespace Go.Proofs.Ytojnpaenpaobcaa
open Go.RowKit

/-- An operation that is passed over, and whose place is still empty. -/
def idle (ops : Array Oper) (tmps : Array Value) (o : Oper) : Bool :=
  !(Region.wanted o (yielded ops tmps)) && (match o.dst with
    | some d => match tmps[d]? with
      | some (.tuple ⟨[]⟩) => true
      | _ => false
    | none => true)
theorem put_undef {a : Act} {o : Oper} {ops : Array Oper} (h : idle ops a.tmps o = true) : a.put o.dst undef = a := by
  unfold idle at h
  rw [Bool.and_eq_true] at h
  have h2 := h.2
  unfold Act.put
  cases hd : o.dst with
  | none => rfl
  | some d =>
    simp only [hd] at h2
    have hs : a.tmps[d]? = some undef := by
      revert h2
      split
      · rename_i e; intro _; exact e
      · intro h; cases h
    obtain ⟨hlt, hv⟩ := Array.getElem?_eq_some_iff.1 hs
    have : a.tmps.setIfInBounds d undef = a.tmps := by
      apply Array.ext
      · simp
      · intro i h1 h2
        by_cases hi : d = i
        · subst hi; rw [hv]; simp
        · rw [Array.getElem_setIfInBounds_ne]; exact hi
    simp only [this]
theorem wpYield_skips {P : Program} {ops : Array Oper} {S : World → Prop} {Q : Act → Prop} {a : Act} : ∀ (n : Nat) (l : List Oper), (l.take n).all (idle ops a.tmps) = true → wpYield P ops S Q (l.drop n) a → wpYield P ops S Q l a
  | 0, _, _, h => h
  | _ + 1, [], _, h => h
  | n + 1, o :: l, hi, h => by
    simp only [List.take_succ_cons, List.all_cons, Bool.and_eq_true] at hi
    have hw : Region.wanted o (yielded ops a.tmps) = false := by
      have := hi.1
      unfold idle at this
      rw [Bool.and_eq_true] at this
      simpa using this.1
    refine wpYield_skip hw ?_
    rw [put_undef hi.1]
    exact wpYield_skips n l hi.2 h
end Go.Proofs.Ytojnpaenpaobcaa
