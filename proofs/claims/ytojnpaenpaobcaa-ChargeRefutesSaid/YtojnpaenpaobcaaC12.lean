/- Copies of lists. No condition. -/
import Derived.Test.YtojnpaenpaobcaaC11
import Derived.Test.YtojnpaenpaobcaaB4
import Derived.WalkSpells
namespace Go.Proofs.Ytojnpaenpaobcaa
open Go.RowKit

set_option maxHeartbeats 1000000 in
theorem cloneI_c (a : Option Addr) (cap : Nat) (xs : List Int) (w : World) (hs : Sl 1 intCells w a cap xs) (hn : xs.length ≤ 100000000) :
    Calls Try.prog 70 #[.slice a xs.length cap] w (fun e w' => ∃ a' c', e = .returned (.slice a' xs.length c') ∧ Own 3 1 intCells w.heap.size w' (.slice a' xs.length c') xs ∧ Ext w w') := by
  have hle := hs.le; have hb := hs.big
  have hnil := @Lib.run_eql_slice_nil Try.prog
  cases a with
  | none =>
    have h0 : xs = [] := List.length_eq_zero_iff.1 (Nat.eq_zero_of_not_pos fun h => by obtain ⟨b, off, h1, _⟩ := hs.cells h; cases h1)
    subst h0
    go_enter Try.func70, Try.ntmps70
    go_wp2_with fail
    go_returns
    exact ⟨_, _, rfl, Own.nil _, Ex.refl _ _⟩
  | some b =>
    go_enter Try.func70, Try.ntmps70
    go_wp2_with (at_builtin; refine wpList_appendAny (base := w.heap.size) eiInt intCells_len intCells_one rfl _ _ rfl _ [] (by rfl) (Own.empty (Nat.le_refl _)) (some b) cap xs (by rfl) (hs.ext ((Ex.refl _ _).alloc _)) (by simp; omega) (by simp; omega) (by simp) ?_; intro v w1 hO hx hg hv; obtain ⟨a', c', rfl⟩ := hv; simp only [List.length_nil, Nat.zero_add, List.nil_append] at hO)
    go_returns
    refine ⟨a', c', by simp, hO, ?_⟩
    have h9 : Ex [] w (w.alloc (.cells #[] 3 (0, 0))) := (Ex.refl _ _).alloc _
    exact h9.trans_fresh hx (fun x hx => .inr (by simp [Value.ownBlock] at hx; omega))
end Go.Proofs.Ytojnpaenpaobcaa
