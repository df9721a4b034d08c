/- The statements' helpers. No condition. -/
import Derived.Test.YtojnpaenpaobcaaC12
import Derived.Test.YtojnpaenpaobcaaR3
namespace Go.Proofs.Ytojnpaenpaobcaa
open Go.RowKit
attribute [local irreducible] wpYield wpPlan

set_option maxHeartbeats 1000000 in
theorem lawInts_c (a : Option Addr) (cap : Nat) (xs : List Int) (w : World) (hs : SlI w a cap xs) (hn : xs.length ≤ 100000000) :
    Calls Try.prog 14 #[.slice a xs.length cap] w (fun e w' => ∃ a' c', e = .returned (.slice a' xs.length c') ∧ Own 3 1 intCells w.heap.size w' (.slice a' xs.length c') xs ∧ Ext w w') := by
  have hle := hs.le; have hb := hs.big
  go_enter Try.func14, Try.ntmps14
  go_wp2_with (at_builtin; refine wpList_appendAny (base := w.heap.size) eiInt intCells_len intCells_one rfl _ _ rfl _ [] (by rfl) (Own.empty (Nat.le_refl _)) a cap xs (by rfl) (hs.ext ((Ex.refl _ _).alloc _)) (by simp; omega) (by simp; omega) (by simp) ?_; intro v w1 hO hx hg hv; obtain ⟨a', c', rfl, hS, _⟩ := hO.sl intCells_len)
  go_returns
  refine ⟨a', c', by simp, hO, ?_⟩
  have h9 : Ex [] w (w.alloc (.cells #[] 3 (0, 0))) := (Ex.refl _ _).alloc _
  exact h9.trans_fresh hx (fun x hx => .inr (by simp [Value.ownBlock] at hx; omega))

/-- Whether two lists are the same. -/
def sameI (a b : List Int) : Bool := decide (a = b)
theorem sameI_len {a b : List Int} (h : a.length ≠ b.length) : sameI a b = false := by
  simp only [sameI, decide_eq_false_iff_not]; intro e; exact h (by rw [e])
theorem sameI_at {a b : List Int} {k : Nat} (h1 : k < a.length) (h2 : k < b.length) (h : nth a 0 k ≠ nth b 0 k) : sameI a b = false := by
  simp only [sameI, decide_eq_false_iff_not]; intro e; exact h (by rw [e])
theorem sameI_all {a b : List Int} (hl : a.length = b.length) (h : ∀ k, k < a.length → nth a 0 k = nth b 0 k) : sameI a b = true := by
  simp only [sameI, decide_eq_true_eq]
  exact List.ext_getElem hl (fun k h1 h2 => by rw [nth_eq a 0 k h1, nth_eq b 0 k h2]; exact h k h1)

set_option maxRecDepth 100000 in
set_option maxHeartbeats 4000000 in
theorem sameInts_c (xs ys : List Int) (a c : Option Addr) (cap cap' : Nat) (w : World) (hx : SlI w a cap xs) (hy : SlI w c cap' ys) :
    Calls Try.prog 19 #[.slice a xs.length cap, .slice c ys.length cap'] w (Ret (.bool (sameI xs ys)) w) := by
  have hle := hx.le; have hb := hx.big; have hle' := hy.le; have hb' := hy.big
  go_enter Try.func19, Try.ntmps19
  by_cases hb0 : xs.length = ys.length
  · have hq2 : ((xs.length : Int) != (ys.length : Int)) = false := by simp [hb0]
    have hb0' := Lib.hid hb0; clear hb0
    go_wp2_with fail
    go_loopg [5] (xs.length) (fun g i wr => ∃ (k : Nat), g = xs.length - k ∧ k ≤ xs.length ∧ i = .int .i64 k ∧ Ex [] w wr ∧ (∀ j, j < k → nth xs 0 j = nth ys 0 j))
    case atStart => exact ⟨0, rfl, by omega, rfl, Ex.refl _ _, fun j hj => absurd hj (Nat.not_lt_zero j)⟩
    case round =>
      obtain ⟨k, rfl, hk, rfl, hE, hi⟩ := hrel
      have hi' := Lib.hid hi; clear hi
      by_cases hlt : k < xs.length
      · have hlt2 : k < ys.length := by have := hb0'.out; omega
        have hk0 : (0 : Int) ≤ (k : Int) := by omega
        have hk1 : (k : Int) < (xs.length : Int) := by omega
        have hk2 : (k : Int) < (ys.length : Int) := by omega
        obtain ⟨b2, off2, rfl, hbw2, hss⟩ := hx.cells (by omega)
        have l0 : ∀ w', Ex [] wr w' → w'.cell? ⟨b2, off2 + k, none⟩ = some (.int .i64 (nth xs 0 k)) := fun w' h => by
          have := (hE.trans h).cell (by simp) (hss k hlt 0 _ rfl)
          rwa [Nat.add_zero, Nat.mul_one, nth_eq xs 0] at this
        clear hss
        obtain ⟨b3, off3, rfl, hbw3, hcc⟩ := hy.cells (by omega)
        have c0 : ∀ w', Ex [] wr w' → w'.cell? ⟨b3, off3 + k, none⟩ = some (.int .i64 (nth ys 0 k)) := fun w' h => by
          have := (hE.trans h).cell (by simp) (hcc k hlt2 0 _ rfl)
          rwa [Nat.add_zero, Nat.mul_one, nth_eq ys 0] at this
        clear hcc
        have hrr : Ex [] wr wr := Ex.refl _ _
        cases hb1 : (nth xs 0 k != nth ys 0 k)
        case false =>
          go_upto_region 6 with fail
          refine region_plan (fun w' => Ex [] wr w') [.pu [0, 1, 2, 4, 5, 6], .st [3, 7], .pu [8]] (by kernel_rfl) (by kernel_rfl) (Ex.drew (by first | (with_reducible assumption) | (repeat (with_reducible first | exact Ex.refl _ _ | assumption | exact Ex.mono (by assumption) (by simp; done) | refine Ex.alloc ?_ _ | refine Ex.drew ?_ | refine Ex.drewN ?_ _ | refine Ex.setCell ?_ (by first | (left; simp; done) | (right; simp; done) | (right; simp; omega)) _ | refine Ex.trans ?_ (by assumption))))) ?_
          refine plan_pu (fun K hK => ?_)
          simp only [pick, List.drop_succ_cons, List.drop_zero, List.take_succ_cons, List.take_zero, List.cons_append, List.nil_append]
          iterate 6 (first | (refine wpYield_want ?_ (by rfl) (fun w' hS' => ?_) ?_; rotate_left; ((try dsimp only at hS'); go_simp; try with_reducible rfl); simp only [Act.put, List.setIfInBounds_toArray, List.set_cons_zero, List.set_cons_succ]) | (refine wpYield_skip (by rfl) ?_; simp only [Act.put, List.setIfInBounds_toArray, List.set_cons_zero, List.set_cons_succ]))
          refine wpYield_nil (hK _ ?_)
          clear hK K
          refine plan_st (fun K hK => ?_)
          simp only [pick, List.drop_succ_cons, List.drop_zero, List.take_succ_cons, List.take_zero, List.cons_append, List.nil_append]
          iterate 2 (first | (refine wpYield_want ?_ (by rfl) (fun w' hS' => ?_) ?_; rotate_left; ((try dsimp only at hS'); go_simp; try with_reducible rfl); simp only [Act.put, List.setIfInBounds_toArray, List.set_cons_zero, List.set_cons_succ]) | (refine wpYield_skip (by rfl) ?_; simp only [Act.put, List.setIfInBounds_toArray, List.set_cons_zero, List.set_cons_succ]))
          refine wpYield_nil (hK _ ?_)
          clear hK K
          refine plan_pu (fun K hK => ?_)
          simp only [pick, List.drop_succ_cons, List.drop_zero, List.take_succ_cons, List.take_zero, List.cons_append, List.nil_append]
          iterate 1 (first | (refine wpYield_want ?_ (by rfl) (fun w' hS' => ?_) ?_; rotate_left; ((try dsimp only at hS'); go_simp; try with_reducible rfl); simp only [Act.put, List.setIfInBounds_toArray, List.set_cons_zero, List.set_cons_succ]) | (refine wpYield_skip (by rfl) ?_; simp only [Act.put, List.setIfInBounds_toArray, List.set_cons_zero, List.set_cons_succ]))
          refine wpYield_nil (hK _ ?_)
          clear hK K
          refine plan_nil ?_
          go_wp2_with fail
          go_roundg (xs.length - (k + 1))
          case rel => exact ⟨k + 1, rfl, by omega, by go_num, hE.drew, fun j hj => by
            rcases Nat.lt_succ_iff_lt_or_eq.1 hj with h | h
            · exact hi'.out j h
            · rw [h]; simpa using hb1⟩
          case measure => omega
        case true =>
          go_upto_region 6 with fail
          refine region_plan (fun w' => Ex [] wr w') [.pu [0, 1, 2, 4, 5, 6], .st [3, 7], .pu [8]] (by kernel_rfl) (by kernel_rfl) (Ex.drew (by first | (with_reducible assumption) | (repeat (with_reducible first | exact Ex.refl _ _ | assumption | exact Ex.mono (by assumption) (by simp; done) | refine Ex.alloc ?_ _ | refine Ex.drew ?_ | refine Ex.drewN ?_ _ | refine Ex.setCell ?_ (by first | (left; simp; done) | (right; simp; done) | (right; simp; omega)) _ | refine Ex.trans ?_ (by assumption))))) ?_
          refine plan_pu (fun K hK => ?_)
          simp only [pick, List.drop_succ_cons, List.drop_zero, List.take_succ_cons, List.take_zero, List.cons_append, List.nil_append]
          iterate 6 (first | (refine wpYield_want ?_ (by rfl) (fun w' hS' => ?_) ?_; rotate_left; ((try dsimp only at hS'); go_simp; try with_reducible rfl); simp only [Act.put, List.setIfInBounds_toArray, List.set_cons_zero, List.set_cons_succ]) | (refine wpYield_skip (by rfl) ?_; simp only [Act.put, List.setIfInBounds_toArray, List.set_cons_zero, List.set_cons_succ]))
          refine wpYield_nil (hK _ ?_)
          clear hK K
          refine plan_st (fun K hK => ?_)
          simp only [pick, List.drop_succ_cons, List.drop_zero, List.take_succ_cons, List.take_zero, List.cons_append, List.nil_append]
          iterate 2 (first | (refine wpYield_want ?_ (by rfl) (fun w' hS' => ?_) ?_; rotate_left; ((try dsimp only at hS'); go_simp; try with_reducible rfl); simp only [Act.put, List.setIfInBounds_toArray, List.set_cons_zero, List.set_cons_succ]) | (refine wpYield_skip (by rfl) ?_; simp only [Act.put, List.setIfInBounds_toArray, List.set_cons_zero, List.set_cons_succ]))
          refine wpYield_nil (hK _ ?_)
          clear hK K
          refine plan_pu (fun K hK => ?_)
          simp only [pick, List.drop_succ_cons, List.drop_zero, List.take_succ_cons, List.take_zero, List.cons_append, List.nil_append]
          iterate 1 (first | (refine wpYield_want ?_ (by rfl) (fun w' hS' => ?_) ?_; rotate_left; ((try dsimp only at hS'); go_simp; try with_reducible rfl); simp only [Act.put, List.setIfInBounds_toArray, List.set_cons_zero, List.set_cons_succ]) | (refine wpYield_skip (by rfl) ?_; simp only [Act.put, List.setIfInBounds_toArray, List.set_cons_zero, List.set_cons_succ]))
          refine wpYield_nil (hK _ ?_)
          clear hK K
          refine plan_nil ?_
          go_wp2_with fail
          go_returns
          exact ⟨by rw [sameI_at hlt hlt2 (by simpa using hb1)]; rfl, hE.drew⟩
      · go_wp2_with fail
        go_returns
        exact ⟨by rw [sameI_all hb0'.out (fun j hj => hi'.out j (by omega))]; rfl, hE⟩
  · go_wp2_with fail
    go_returns
    exact ⟨by rw [sameI_len hb0]; rfl, Ex.refl _ _⟩
end Go.Proofs.Ytojnpaenpaobcaa
