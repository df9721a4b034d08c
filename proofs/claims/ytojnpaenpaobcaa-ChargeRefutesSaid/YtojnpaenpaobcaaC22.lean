/- Refutes. No condition. -/
import Derived.Test.YtojnpaenpaobcaaC20
import Derived.Test.YtojnpaenpaobcaaC10
import Derived.Test.YtojnpaenpaobcaaC11
import Derived.Test.YtojnpaenpaobcaaC14
namespace Go.Proofs.Ytojnpaenpaobcaa
open Go.RowKit
attribute [local irreducible] wpYield wpPlan

theorem natBeq (n : Nat) : ((n : Int) == 0) = (n == 0) := by rw [Bool.eq_iff_iff]; simp
theorem check_len {p : Recipe} (h : checkE p = 0) : p.lots.length ≤ 6 := by
  unfold checkE at h
  split at h
  · cases h
  · omega
theorem check_lot {p : Recipe} (h : checkE p = 0) : ∀ l ∈ p.lots, isLotB l = true := by
  unfold checkE at h
  split at h
  · cases h
  · split at h
    · cases h
    · rename_i h1
      intro l hl
      cases h2 : isLotB l
      · exfalso; apply h1
        have : (p.lots.any (fun l => !isLotB l)) = true := List.any_eq_true.2 ⟨l, hl, by simp [h2]⟩
        simp [this]
      · rfl
theorem isLot_count {l : Lot} (h : isLotB l = true) : 0 ≤ l.count ∧ l.count ≤ 1000 := by
  unfold isLotB withinB at h
  simp only [Bool.and_eq_true, decide_eq_true_eq] at h
  omega
theorem boxOk_whole {p : Recipe} (h : checkE p = 0) : BoxOk (lowsM p) (highsM p) := fun i hi => by
  have hi' : i < p.lots.length := by simpa [lowsM] using hi
  have h1 := isLot_count (check_lot h _ (List.getElem_mem hi'))
  have e1 : nth (lowsM p) 0 i = 0 := by rw [← nth_eq (lowsM p) 0 i hi]; simp [lowsM]
  have e2 : nth (highsM p) 0 i = p.lots[i].count := by rw [← nth_eq (highsM p) 0 i (by simpa [highsM] using hi')]; simp [highsM]
  rw [e1, e2]; omega
theorem boxN_many : ∀ (lots : List Lot) (n : Int), (∀ l ∈ lots, 0 ≤ l.count ∧ l.count ≤ 1000) → 0 ≤ n → n ≤ 20000 → manyFrom lots n = false → n * (boxN (List.replicate lots.length 0) (lots.map (fun l => l.count)) : Nat) ≤ 20000
  | [], n, _, _, h2, _ => by simp [boxN]; omega
  | l :: ls, n, hl, h1, h2, h => by
    have hc := hl l (by simp)
    have e1 : wrap64 (l.count + 1) = l.count + 1 := by unfold wrap64; omega
    have b1 : 0 ≤ n * (l.count + 1) := Int.mul_nonneg h1 (by omega)
    have b2 : n * (l.count + 1) ≤ 20000 * 1001 := Int.mul_le_mul h2 (by omega) (by omega) (by omega)
    have e2 : wrap64 (n * (l.count + 1)) = n * (l.count + 1) := by unfold wrap64; omega
    simp only [manyFrom, e1, e2] at h
    split at h
    · cases h
    · rename_i h3
      have := boxN_many ls (n * (l.count + 1)) (fun x hx => hl x (by simp [hx])) b1 (by omega) h
      simp only [List.length_cons, List.replicate_succ, List.map_cons, boxN, Int.natCast_mul]
      rw [show ((l.count - 0 + 1).toNat : Int) = l.count + 1 by omega, ← Int.mul_assoc]
      exact this
theorem boxN_whole {p : Recipe} (h : checkE p = 0) (hm : manyM p = false) : boxN (lowsM p) (highsM p) ≤ 20000 := by
  have := boxN_many p.lots 1 (fun l hl => isLot_count (check_lot h l hl)) (by omega) (by omega) hm
  have h2 : ((boxN (lowsM p) (highsM p) : Nat) : Int) ≤ 20000 := by simpa [lowsM, highsM] using this
  omega

/-- Whether a list is a proof. -/
def refutesB (p : Recipe) (l : List Split) : Bool :=
  if checkE p = 0 then if 40000 < l.length then false else (acceptM p (onesM p) l.length (lowsM p) (highsM p) l).2 && ((acceptM p (onesM p) l.length (lowsM p) (highsM p) l).1.length == 0) else false
theorem onesM_len (p : Recipe) : (onesM p).length = p.lots.length := by simp [onesM]
theorem lowsM_len (p : Recipe) : (lowsM p).length = p.lots.length := by simp [lowsM]
theorem highsM_len (p : Recipe) : (highsM p).length = p.lots.length := by simp [highsM]

set_option maxRecDepth 100000 in
set_option maxHeartbeats 4000000 in
theorem refutes_c (p : Recipe) (a : Option Addr) (cap : Nat) (l : List Split) (la : Option Addr) (lc : Nat) (w : World) (hs : SlL w a cap p.lots) (hl : Sl 3 Split.cells w la lc l) :
    Calls Try.prog 28 #[.agg #[.slice a p.lots.length cap, .int .i64 p.mass.lo, .int .i64 p.mass.hi, .int .i64 p.target.a.lo, .int .i64 p.target.a.hi, .int .i64 p.target.b.lo, .int .i64 p.target.b.hi, .int .i64 p.target.c.lo, .int .i64 p.target.c.hi], .slice la l.length lc] w (Ret (.tuple #[.bool (refutesB p l), .int .i64 (checkE p)]) w) := by
  have hle := hl.le; have hb := hl.big
  go_enter Try.func28, Try.ntmps28
  go_upto_region 1 with (fail)
  refine wp_at (fun W => Ext w W ∧ w.heap.size + 1 = W.heap.size ∧ W.heap[w.heap.size]? = some (.cells #[.slice a p.lots.length cap, .int .i64 p.mass.lo, .int .i64 p.mass.hi, .int .i64 p.target.a.lo, .int .i64 p.target.a.hi, .int .i64 p.target.b.lo, .int .i64 p.target.b.hi, .int .i64 p.target.c.lo, .int .i64 p.target.c.hi] 28 (0, 0))) ⟨by (repeat (with_reducible first | exact Ex.refl _ _ | assumption | exact Ex.mono (by assumption) (by simp; done) | refine Ex.alloc ?_ _ | refine Ex.drew ?_ | refine Ex.drewN ?_ _ | refine Ex.setCell ?_ (by first | (left; simp; done) | (right; simp; done) | (right; simp; omega)) _ | refine Ex.trans ?_ (by assumption))), by simp, blk_new _ _⟩ (fun W hW => ?_)
  obtain ⟨hr0, hsz, hB0⟩ := hW
  have hr : Ex [] W W := Ex.refl _ _
  have f0_0 := cellE (S := []) hB0 (by first | (simp; done) | (simp; omega)) 0 rfl
  have f0_1 := cellE (S := []) hB0 (by first | (simp; done) | (simp; omega)) 1 rfl
  have f0_2 := cellE (S := []) hB0 (by first | (simp; done) | (simp; omega)) 2 rfl
  have f0_3 := cellE (S := []) hB0 (by first | (simp; done) | (simp; omega)) 3 rfl
  have f0_4 := cellE (S := []) hB0 (by first | (simp; done) | (simp; omega)) 4 rfl
  have f0_5 := cellE (S := []) hB0 (by first | (simp; done) | (simp; omega)) 5 rfl
  have f0_6 := cellE (S := []) hB0 (by first | (simp; done) | (simp; omega)) 6 rfl
  have f0_7 := cellE (S := []) hB0 (by first | (simp; done) | (simp; omega)) 7 rfl
  have f0_8 := cellE (S := []) hB0 (by first | (simp; done) | (simp; omega)) 8 rfl
  clear hB0
  have hsz' := Nat.le_of_eq hsz.symm; have hsz'' := Nat.le_of_eq hsz; clear hsz
  cases hb0 : (checkE p != 0)
  case true =>
    have hq : ¬ checkE p = 0 := by simpa using hb0
    go_wp2_with (go_at_call 15; refine (check_c p a cap _ (hs.ext (hr0.trans (by first | (with_reducible assumption) | (repeat (with_reducible first | exact Ex.refl _ _ | assumption | exact Ex.mono (by assumption) (by simp; done) | refine Ex.alloc ?_ _ | refine Ex.drew ?_ | refine Ex.drewN ?_ _ | refine Ex.setCell ?_ (by first | (left; simp; done) | (right; simp; done) | (right; simp; omega)) _ | refine Ex.trans ?_ (by assumption))))))).mono ?_; rintro e w1 ⟨rfl, h1⟩; replace h1 : Ex [] W w1 := Ex.trans (by first | (with_reducible assumption) | (repeat (with_reducible first | exact Ex.refl _ _ | assumption | exact Ex.mono (by assumption) (by simp; done) | refine Ex.alloc ?_ _ | refine Ex.drew ?_ | refine Ex.drewN ?_ _ | refine Ex.setCell ?_ (by first | (left; simp; done) | (right; simp; done) | (right; simp; omega)) _ | refine Ex.trans ?_ (by assumption)))) (h1.ex _))
    go_returns
    exact ⟨by simp [refutesB, hq], by (repeat (with_reducible first | exact Ex.refl _ _ | assumption | exact Ex.trans hr0 (by assumption) | exact Ex.mono (by assumption) (by simp; done) | refine Ex.alloc ?_ _ | refine Ex.drew ?_ | refine Ex.drewN ?_ _ | refine Ex.setCell ?_ (by first | (left; simp; done) | (right; simp; done) | (right; simp; omega)) _ | refine Ex.trans ?_ (by assumption)))⟩
  case false =>
    have hq : checkE p = 0 := by simpa using hb0
    have hlen := check_len hq
    have hq' := Lib.hid hq; clear hq
    by_cases hbig : 40000 < l.length
    · have hbig' : (40000 : Int) < (l.length : Int) := by omega
      go_wp2_with (go_at_call 15; refine (check_c p a cap _ (hs.ext (hr0.trans (by first | (with_reducible assumption) | (repeat (with_reducible first | exact Ex.refl _ _ | assumption | exact Ex.mono (by assumption) (by simp; done) | refine Ex.alloc ?_ _ | refine Ex.drew ?_ | refine Ex.drewN ?_ _ | refine Ex.setCell ?_ (by first | (left; simp; done) | (right; simp; done) | (right; simp; omega)) _ | refine Ex.trans ?_ (by assumption))))))).mono ?_; rintro e w1 ⟨rfl, h1⟩; replace h1 : Ex [] W w1 := Ex.trans (by first | (with_reducible assumption) | (repeat (with_reducible first | exact Ex.refl _ _ | assumption | exact Ex.mono (by assumption) (by simp; done) | refine Ex.alloc ?_ _ | refine Ex.drew ?_ | refine Ex.drewN ?_ _ | refine Ex.setCell ?_ (by first | (left; simp; done) | (right; simp; done) | (right; simp; omega)) _ | refine Ex.trans ?_ (by assumption)))) (h1.ex _))
      go_returns
      exact ⟨by simp [refutesB, hq'.out, hbig], by (repeat (with_reducible first | exact Ex.refl _ _ | assumption | exact Ex.trans hr0 (by assumption) | exact Ex.mono (by assumption) (by simp; done) | refine Ex.alloc ?_ _ | refine Ex.drew ?_ | refine Ex.drewN ?_ _ | refine Ex.setCell ?_ (by first | (left; simp; done) | (right; simp; done) | (right; simp; omega)) _ | refine Ex.trans ?_ (by assumption)))⟩
    · have hbig' : ¬ (40000 : Int) < (l.length : Int) := by omega
      go_upto_region 6 with (go_at_call 15; refine (check_c p a cap _ (hs.ext (hr0.trans (by first | (with_reducible assumption) | (repeat (with_reducible first | exact Ex.refl _ _ | assumption | exact Ex.mono (by assumption) (by simp; done) | refine Ex.alloc ?_ _ | refine Ex.drew ?_ | refine Ex.drewN ?_ _ | refine Ex.setCell ?_ (by first | (left; simp; done) | (right; simp; done) | (right; simp; omega)) _ | refine Ex.trans ?_ (by assumption))))))).mono ?_; rintro e w1 ⟨rfl, h1⟩; replace h1 : Ex [] W w1 := Ex.trans (by first | (with_reducible assumption) | (repeat (with_reducible first | exact Ex.refl _ _ | assumption | exact Ex.mono (by assumption) (by simp; done) | refine Ex.alloc ?_ _ | refine Ex.drew ?_ | refine Ex.drewN ?_ _ | refine Ex.setCell ?_ (by first | (left; simp; done) | (right; simp; done) | (right; simp; omega)) _ | refine Ex.trans ?_ (by assumption)))) (h1.ex _))
      go_upto_region 7 with (go_at_call 66; refine (newTable_c p a cap _ (hs.ext (hr0.trans (by first | (with_reducible assumption) | (repeat (with_reducible first | exact Ex.refl _ _ | assumption | exact Ex.mono (by assumption) (by simp; done) | refine Ex.alloc ?_ _ | refine Ex.drew ?_ | refine Ex.drewN ?_ _ | refine Ex.setCell ?_ (by first | (left; simp; done) | (right; simp; done) | (right; simp; omega)) _ | refine Ex.trans ?_ (by assumption)))))) (by omega)).mono ?_; rintro e w2 ⟨a2, cap2, rfl, hS2, h2⟩; replace h2 : Ex [] W w2 := Ex.trans (by first | (with_reducible assumption) | (repeat (with_reducible first | exact Ex.refl _ _ | assumption | exact Ex.mono (by assumption) (by simp; done) | refine Ex.alloc ?_ _ | refine Ex.drew ?_ | refine Ex.drewN ?_ _ | refine Ex.setCell ?_ (by first | (left; simp; done) | (right; simp; done) | (right; simp; omega)) _ | refine Ex.trans ?_ (by assumption)))) (h2.ex _))
      refine wp_at (fun X => Ex [] w2 X ∧ X.heap[w2.heap.size]? = some (.cells #[.slice a p.lots.length cap, .int .i64 p.mass.lo, .int .i64 p.mass.hi, .int .i64 p.target.a.lo, .int .i64 p.target.a.hi, .int .i64 p.target.b.lo, .int .i64 p.target.b.hi, .int .i64 p.target.c.lo, .int .i64 p.target.c.hi, .slice a2 (onesM p).length cap2] 119 (0, 0))) ⟨by (repeat (with_reducible first | exact Ex.refl _ _ | assumption | exact Ex.mono (by assumption) (by simp; done) | refine Ex.alloc ?_ _ | refine Ex.drew ?_ | refine Ex.drewN ?_ _ | refine Ex.setCell ?_ (by first | (left; simp; done) | (right; simp; done) | (right; simp; omega)) _ | refine Ex.trans ?_ (by assumption))), blk_new _ _⟩ (fun X hX => ?_)
      obtain ⟨hX, hT⟩ := hX
      have hwX : Ex [] w X := hr0.trans (h2.trans hX)
      have hrX : Ex [] X X := Ex.refl _ _
      have t0 := cellE (S := []) hT (by simp) 0 rfl
      have t1 := cellE (S := []) hT (by simp) 1 rfl
      have t2 := cellE (S := []) hT (by simp) 2 rfl
      have t3 := cellE (S := []) hT (by simp) 3 rfl
      have t4 := cellE (S := []) hT (by simp) 4 rfl
      have t5 := cellE (S := []) hT (by simp) 5 rfl
      have t6 := cellE (S := []) hT (by simp) 6 rfl
      have t7 := cellE (S := []) hT (by simp) 7 rfl
      have t8 := cellE (S := []) hT (by simp) 8 rfl
      have t9 := cellE (S := []) hT (by simp) 9 rfl
      have hsX := hs.ext hwX
      have hlX := hl.ext hwX
      have hSX := hS2.ext hX
      clear hT hS2 hs hl h1 h2 hX
      obtain ⟨⟨R1, ok1⟩, hR⟩ : ∃ r, acceptM p (onesM p) l.length (lowsM p) (highsM p) l = r := ⟨_, rfl⟩
      have hR' := Lib.hid hR; clear hR
      have hel := Lib.hid (lowsM_len p); have heh := Lib.hid (highsM_len p)
      have hon : (onesM p).length ≤ p.lots.length := Nat.le_of_eq (onesM_len p)
      have hB : refutesB p l = (ok1 && (R1.length == 0)) := by rw [refutesB, if_pos hq'.out, if_neg hbig, hR'.out]
      have hB' := Lib.hid hB; clear hB
      cases ok1
      all_goals
        go_wp2_with fail
        refine region_plan (fun w' => Ex [] X w') [.pu [3], .st [0, 1], .mv 2, .mv 4, .pu [5, 6, 7, 8, 9]] (by kernel_rfl) (by kernel_rfl) (Ex.drew (by first | (with_reducible assumption) | (repeat (with_reducible first | exact Ex.refl _ _ | assumption | exact Ex.mono (by assumption) (by simp; done) | refine Ex.alloc ?_ _ | refine Ex.drew ?_ | refine Ex.drewN ?_ _ | refine Ex.setCell ?_ (by first | (left; simp; done) | (right; simp; done) | (right; simp; omega)) _ | refine Ex.trans ?_ (by assumption))))) ?_
        refine plan_pu (fun K hK => ?_)
        simp only [pick, List.drop_succ_cons, List.drop_zero, List.take_succ_cons, List.take_zero, List.cons_append, List.nil_append]
        iterate 1 (first | (refine wpYield_want ?_ (by rfl) (fun w' hS' => ?_) ?_; rotate_left; ((try dsimp only at hS'); go_simp; try with_reducible rfl); simp only [Act.put, List.setIfInBounds_toArray, List.set_cons_zero, List.set_cons_succ]) | (refine wpYield_skip (by rfl) ?_; simp only [Act.put, List.setIfInBounds_toArray, List.set_cons_zero, List.set_cons_succ]))
        refine wpYield_nil (hK _ ?_)
        clear hK K
        refine plan_st (fun K hK => ?_)
        simp only [pick, List.drop_succ_cons, List.drop_zero, List.take_succ_cons, List.take_zero, List.cons_append, List.nil_append]
        iterate 2 (first | (refine wpYield_want ?_ (by rfl) (fun w' hS' => ?_) ?_; rotate_left; ((try dsimp only at hS'); go_simp; try with_reducible rfl); simp only [Act.put, List.setIfInBounds_toArray, List.set_cons_zero, List.set_cons_succ]) | (refine wpYield_skip (by rfl) ?_; simp only [Act.put, List.setIfInBounds_toArray, List.set_cons_zero, List.set_cons_succ]))
        refine wpYield_nil (hK _ ?_)
        clear hK K
        refine plan_mv (fun K hK => ?_)
        simp only [pick, List.drop_succ_cons, List.drop_zero, List.take_succ_cons, List.take_zero, List.cons_append, List.nil_append]
        go_wp2_with (first | (go_at_call 74; refine (whole_c p a cap a2 (onesM p).length cap2 _ (hsX.ext (by first | (with_reducible assumption) | (repeat (with_reducible first | exact Ex.refl _ _ | assumption | exact Ex.mono (by assumption) (by simp; done) | refine Ex.alloc ?_ _ | refine Ex.drew ?_ | refine Ex.drewN ?_ _ | refine Ex.setCell ?_ (by first | (left; simp; done) | (right; simp; done) | (right; simp; omega)) _ | refine Ex.trans ?_ (by assumption))))) (by omega)).mono ?_; rintro e w4 ⟨a1, c1, a3, c3, rfl, hS4, hS5, h4⟩; replace h4 : Ex [] X w4 := Ex.trans (by first | (with_reducible assumption) | (repeat (with_reducible first | exact Ex.refl _ _ | assumption | exact Ex.mono (by assumption) (by simp; done) | refine Ex.alloc ?_ _ | refine Ex.drew ?_ | refine Ex.drewN ?_ _ | refine Ex.setCell ?_ (by first | (left; simp; done) | (right; simp; done) | (right; simp; omega)) _ | refine Ex.trans ?_ (by assumption)))) (h4.ex _)) | (go_at_call 75; refine (accept_c p a cap a2 cap2 (onesM p) (by omega) hon l.length a1 a3 c1 c3 (lowsM p) (highsM p) la lc l _ (hSX.ext (by first | (with_reducible assumption) | (repeat (with_reducible first | exact Ex.refl _ _ | assumption | exact Ex.mono (by assumption) (by simp; done) | refine Ex.alloc ?_ _ | refine Ex.drew ?_ | refine Ex.drewN ?_ _ | refine Ex.setCell ?_ (by first | (left; simp; done) | (right; simp; done) | (right; simp; omega)) _ | refine Ex.trans ?_ (by assumption))))) (hS4.ext (Ex.refl _ _)) (hS5.ext (Ex.refl _ _)) (hlX.ext (by first | (with_reducible assumption) | (repeat (with_reducible first | exact Ex.refl _ _ | assumption | exact Ex.mono (by assumption) (by simp; done) | refine Ex.alloc ?_ _ | refine Ex.drew ?_ | refine Ex.drewN ?_ _ | refine Ex.setCell ?_ (by first | (left; simp; done) | (right; simp; done) | (right; simp; omega)) _ | refine Ex.trans ?_ (by assumption))))) hel heh (Nat.le_refl _)).mono ?_; rintro e w5 ⟨ra, rc, he, hS6, h5⟩; rw [hR'.out] at he hS6; subst he; replace h5 : Ex [] X w5 := Ex.trans (by first | (with_reducible assumption) | (repeat (with_reducible first | exact Ex.refl _ _ | assumption | exact Ex.mono (by assumption) (by simp; done) | refine Ex.alloc ?_ _ | refine Ex.drew ?_ | refine Ex.drewN ?_ _ | refine Ex.setCell ?_ (by first | (left; simp; done) | (right; simp; done) | (right; simp; omega)) _ | refine Ex.trans ?_ (by assumption)))) (h5.ex _)))
        first | refine hK _ _ (by first | (with_reducible assumption) | (repeat (with_reducible first | exact Ex.refl _ _ | assumption | exact Ex.mono (by assumption) (by simp; done) | refine Ex.alloc ?_ _ | refine Ex.drew ?_ | refine Ex.drewN ?_ _ | refine Ex.setCell ?_ (by first | (left; simp; done) | (right; simp; done) | (right; simp; omega)) _ | refine Ex.trans ?_ (by assumption)))) ?_ | refine ⟨rfl, hK _ _ (by first | (with_reducible assumption) | (repeat (with_reducible first | exact Ex.refl _ _ | assumption | exact Ex.mono (by assumption) (by simp; done) | refine Ex.alloc ?_ _ | refine Ex.drew ?_ | refine Ex.drewN ?_ _ | refine Ex.setCell ?_ (by first | (left; simp; done) | (right; simp; done) | (right; simp; omega)) _ | refine Ex.trans ?_ (by assumption)))) ?_⟩
        clear hK K
        refine plan_mv (fun K hK => ?_)
        simp only [pick, List.drop_succ_cons, List.drop_zero, List.take_succ_cons, List.take_zero, List.cons_append, List.nil_append]
        go_wp2_with (first | (go_at_call 74; refine (whole_c p a cap a2 (onesM p).length cap2 _ (hsX.ext (by first | (with_reducible assumption) | (repeat (with_reducible first | exact Ex.refl _ _ | assumption | exact Ex.mono (by assumption) (by simp; done) | refine Ex.alloc ?_ _ | refine Ex.drew ?_ | refine Ex.drewN ?_ _ | refine Ex.setCell ?_ (by first | (left; simp; done) | (right; simp; done) | (right; simp; omega)) _ | refine Ex.trans ?_ (by assumption))))) (by omega)).mono ?_; rintro e w4 ⟨a1, c1, a3, c3, rfl, hS4, hS5, h4⟩; replace h4 : Ex [] X w4 := Ex.trans (by first | (with_reducible assumption) | (repeat (with_reducible first | exact Ex.refl _ _ | assumption | exact Ex.mono (by assumption) (by simp; done) | refine Ex.alloc ?_ _ | refine Ex.drew ?_ | refine Ex.drewN ?_ _ | refine Ex.setCell ?_ (by first | (left; simp; done) | (right; simp; done) | (right; simp; omega)) _ | refine Ex.trans ?_ (by assumption)))) (h4.ex _)) | (go_at_call 75; refine (accept_c p a cap a2 cap2 (onesM p) (by omega) hon l.length a1 a3 c1 c3 (lowsM p) (highsM p) la lc l _ (hSX.ext (by first | (with_reducible assumption) | (repeat (with_reducible first | exact Ex.refl _ _ | assumption | exact Ex.mono (by assumption) (by simp; done) | refine Ex.alloc ?_ _ | refine Ex.drew ?_ | refine Ex.drewN ?_ _ | refine Ex.setCell ?_ (by first | (left; simp; done) | (right; simp; done) | (right; simp; omega)) _ | refine Ex.trans ?_ (by assumption))))) (hS4.ext (Ex.refl _ _)) (hS5.ext (Ex.refl _ _)) (hlX.ext (by first | (with_reducible assumption) | (repeat (with_reducible first | exact Ex.refl _ _ | assumption | exact Ex.mono (by assumption) (by simp; done) | refine Ex.alloc ?_ _ | refine Ex.drew ?_ | refine Ex.drewN ?_ _ | refine Ex.setCell ?_ (by first | (left; simp; done) | (right; simp; done) | (right; simp; omega)) _ | refine Ex.trans ?_ (by assumption))))) hel heh (Nat.le_refl _)).mono ?_; rintro e w5 ⟨ra, rc, he, hS6, h5⟩; rw [hR'.out] at he hS6; subst he; replace h5 : Ex [] X w5 := Ex.trans (by first | (with_reducible assumption) | (repeat (with_reducible first | exact Ex.refl _ _ | assumption | exact Ex.mono (by assumption) (by simp; done) | refine Ex.alloc ?_ _ | refine Ex.drew ?_ | refine Ex.drewN ?_ _ | refine Ex.setCell ?_ (by first | (left; simp; done) | (right; simp; done) | (right; simp; omega)) _ | refine Ex.trans ?_ (by assumption)))) (h5.ex _)))
        first | refine hK _ _ (by first | (with_reducible assumption) | (repeat (with_reducible first | exact Ex.refl _ _ | assumption | exact Ex.mono (by assumption) (by simp; done) | refine Ex.alloc ?_ _ | refine Ex.drew ?_ | refine Ex.drewN ?_ _ | refine Ex.setCell ?_ (by first | (left; simp; done) | (right; simp; done) | (right; simp; omega)) _ | refine Ex.trans ?_ (by assumption)))) ?_ | refine ⟨rfl, hK _ _ (by first | (with_reducible assumption) | (repeat (with_reducible first | exact Ex.refl _ _ | assumption | exact Ex.mono (by assumption) (by simp; done) | refine Ex.alloc ?_ _ | refine Ex.drew ?_ | refine Ex.drewN ?_ _ | refine Ex.setCell ?_ (by first | (left; simp; done) | (right; simp; done) | (right; simp; omega)) _ | refine Ex.trans ?_ (by assumption)))) ?_⟩
        clear hK K
        refine plan_pu (fun K hK => ?_)
        simp only [pick, List.drop_succ_cons, List.drop_zero, List.take_succ_cons, List.take_zero, List.cons_append, List.nil_append]
        iterate 5 (first | (refine wpYield_want ?_ (by rfl) (fun w' hS' => ?_) ?_; rotate_left; ((try dsimp only at hS'); go_simp; try with_reducible rfl); simp only [Act.put, List.setIfInBounds_toArray, List.set_cons_zero, List.set_cons_succ]) | (refine wpYield_skip (by rfl) ?_; simp only [Act.put, List.setIfInBounds_toArray, List.set_cons_zero, List.set_cons_succ]))
        refine wpYield_nil (hK _ ?_)
        clear hK K
        refine plan_nil ?_
        go_wp2_with fail
        go_returns
        refine ⟨?_, hwX.trans (by first | (with_reducible assumption) | (repeat (with_reducible first | exact Ex.refl _ _ | assumption | exact Ex.mono (by assumption) (by simp; done) | refine Ex.alloc ?_ _ | refine Ex.drew ?_ | refine Ex.drewN ?_ _ | refine Ex.setCell ?_ (by first | (left; simp; done) | (right; simp; done) | (right; simp; omega)) _ | refine Ex.trans ?_ (by assumption))))⟩
        rw [hB'.out, hq'.out]
        simp [natBeq]
end Go.Proofs.Ytojnpaenpaobcaa
