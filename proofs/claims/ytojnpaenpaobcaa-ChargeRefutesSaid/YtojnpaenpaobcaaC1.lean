/- Leaves of the charge package. No condition. -/
import Derived.Test.YtojnpaenpaobcaaProg
import Derived.Test.YtojnpaenpaobcaaB
namespace Go.Proofs.Ytojnpaenpaobcaa
open Go.RowKit

def withinB (n a b : Int) : Bool := decide (a ≤ n) && decide (n ≤ b)
set_option maxHeartbeats 400000 in
theorem within_c (n a b : Int) (w : World) :
    Calls Try.prog 88 #[.int .i64 n, .int .i64 a, .int .i64 b] w (Ret (.bool (withinB n a b)) w) := by
  unfold Ret withinB
  go_enter Try.func88, Try.ntmps88
  go_wp2
  all_goals go_ret
  all_goals (refine ⟨?_, Ex.refl _ _⟩; simp <;> omega)
def isRangeB (n a b : Int) : Bool := decide (0 ≤ n) && decide (n ≤ a) && decide (a ≤ b)
set_option maxHeartbeats 400000 in
theorem isRange_c (n a b : Int) (w : World) :
    Calls Try.prog 54 #[.agg #[.int .i64 n, .int .i64 a], .int .i64 b] w (Ret (.bool (isRangeB n a b)) w) := by
  unfold Ret isRangeB
  go_enter Try.func54, Try.ntmps54
  go_wp2
  all_goals go_ret
  all_goals (refine ⟨?_, (Ex.refl _ _).alloc _⟩; simp <;> omega)
set_option maxHeartbeats 400000 in
theorem areBounds1_c (n a : Int) (w : World) :
    Calls Try.prog 90 #[.agg #[.int .i64 n, .int .i64 a]] w (Ret (.bool (!isRangeB n a 100000000)) w) := by
  go_enter Try.func90, Try.ntmps90
  go_wp2_with (go_at_call 54; refine (isRange_c _ _ _ _).mono ?_; rintro e w1 ⟨rfl, hw⟩)
  go_ret
  exact ⟨rfl, ((Ex.refl _ _).alloc _).trans hw⟩

structure Rng where
  lo : Int
  hi : Int
  deriving DecidableEq
def Rng.cells (r : Rng) : List Value := [.int .i64 r.lo, .int .i64 r.hi]
def intCells (n : Int) : List Value := [.int .i64 n]

/-- The first index whose element the function likes, or -1. -/
def idxOf {α : Type} (p : α → Bool) : List α → Nat → Int
  | [], _ => -1
  | x :: xs, i => if p x then (i : Int) else idxOf p xs (i + 1)
theorem idxOf_neg {α : Type} (p : α → Bool) : ∀ (xs : List α) (i : Nat), decide (0 ≤ idxOf p xs i) = xs.any p
  | [], _ => rfl
  | x :: xs, i => by
    unfold idxOf
    cases h : p x
    · simpa [h] using idxOf_neg p xs (i + 1)
    · simp [h]
theorem idxOf_drop {α : Type} (p : α → Bool) (xs : List α) (k : Nat) (hk : k < xs.length) : idxOf p (xs.drop k) k = if p xs[k] then (k : Int) else idxOf p (xs.drop (k + 1)) (k + 1) := by
  rw [List.drop_eq_getElem_cons hk, idxOf]
theorem idxOf_end {α : Type} (p : α → Bool) (xs : List α) (k : Nat) (hk : ¬ k < xs.length) : idxOf p (xs.drop k) k = -1 := by
  rw [List.drop_of_length_le (by omega), idxOf]

set_option maxHeartbeats 1000000 in
theorem indexFuncR_c (p : Rng → Bool) (g : Nat) (cap0 : Array Value) (a : Option Addr) (cap : Nat) (xs : List Rng) (w : World) (hs : Sl 2 Rng.cells w a cap xs)
    (hg : ∀ x : Rng, x ∈ xs → ∀ w', Ext w w' → Calls Try.prog g (#[.agg #[.int .i64 x.lo, .int .i64 x.hi]] ++ cap0) w' (Ret (.bool (p x)) w'))
    (hgo : ∀ w x, (callFunc g (#[x] ++ cap0)).run Try.prog w = .ok (.enter g (#[x] ++ cap0)) w) :
    Calls Try.prog 104 #[.slice a xs.length cap, .func (.func g) #[] cap0] w (Ret (.int .i64 (idxOf p xs 0)) w) := by
  have hle := hs.le; have hb := hs.big
  have hg' := Lib.hid hg; clear hg
  go_enter Try.func104, Try.ntmps104
  go_wp2_with fail
  go_loopw [8] (fun i wr => ∃ k : Nat, k ≤ xs.length ∧ i = .int .i64 k ∧ Ext w wr ∧ idxOf p xs 0 = idxOf p (xs.drop k) k) (fun i _ => xs.length - (intOf i).toNat)
  case atStart => exact ⟨0, by omega, rfl, Ex.refl _ _, rfl⟩
  case round =>
    obtain ⟨k, hk, rfl, hE, hi⟩ := hrel
    have hi' := Lib.hid hi; clear hi
    by_cases hlt : k < xs.length
    · obtain ⟨b, off, rfl, hbw, hc⟩ := hs.cells (by omega)
      have c0 := hE.cell (by simp) (hc k (by omega) 0 _ rfl)
      rw [Nat.add_zero] at c0
      have c1 := hE.cell (by simp) (hc k (by omega) 1 _ rfl)
      clear hc
      cases hp : p xs[k]
      all_goals
        have hp' := Lib.hid hp; clear hp
        go_wp2_with fail
        refine (hg'.out xs[k] (List.getElem_mem _) _ hE).mono ?_
        rintro e w1 ⟨rfl, hE1⟩
        rw [hp'.out]
        go_wp2_with fail
      · go_roundw
        case rel => exact ⟨k + 1, by omega, by go_num, hE.trans hE1, by rw [hi'.out, idxOf_drop p xs k hlt, hp'.out]; rfl⟩
        case measure => simp [intOf]; omega
      · go_ret
        exact ⟨by rw [hi'.out, idxOf_drop p xs k hlt, hp'.out]; rfl, hE.trans hE1⟩
    · go_wp2_with fail
      go_ret
      exact ⟨by rw [hi'.out, idxOf_end p xs k hlt]; rfl, hE⟩

set_option maxHeartbeats 400000 in
theorem containsFuncR_c (p : Rng → Bool) (g : Nat) (cap0 : Array Value) (a : Option Addr) (cap : Nat) (xs : List Rng) (w : World) (hs : Sl 2 Rng.cells w a cap xs)
    (hg : ∀ x : Rng, x ∈ xs → ∀ w', Ext w w' → Calls Try.prog g (#[.agg #[.int .i64 x.lo, .int .i64 x.hi]] ++ cap0) w' (Ret (.bool (p x)) w'))
    (hgo : ∀ w x, (callFunc g (#[x] ++ cap0)).run Try.prog w = .ok (.enter g (#[x] ++ cap0)) w) :
    Calls Try.prog 89 #[.slice a xs.length cap, .func (.func g) #[] cap0] w (Ret (.bool (xs.any p)) w) := by
  have hg' := Lib.hid hg; clear hg
  go_enter Try.func89, Try.ntmps89
  go_wp2_with fail
  refine (indexFuncR_c p g cap0 a cap xs _ hs hg'.out hgo).mono ?_
  rintro e w1 ⟨rfl, hE1⟩
  go_wp2_with fail
  go_ret
  exact ⟨by rw [← idxOf_neg p xs 0]; rfl, hE1⟩

structure Bnds where
  a : Rng
  b : Rng
  c : Rng
  deriving DecidableEq
def areBoundsB (b : Bnds) : Bool := isRangeB b.a.lo b.a.hi 100000000 && isRangeB b.b.lo b.b.hi 100000000 && isRangeB b.c.lo b.c.hi 100000000

set_option maxHeartbeats 400000 in
theorem areBounds_c (b : Bnds) (w : World) :
    Calls Try.prog 55 #[.agg #[.int .i64 b.a.lo, .int .i64 b.a.hi, .int .i64 b.b.lo, .int .i64 b.b.hi, .int .i64 b.c.lo, .int .i64 b.c.hi]] w (Ret (.bool (areBoundsB b)) w) := by
  go_enter Try.func55, Try.ntmps55
  go_wp2_with fail
  refine (containsFuncR_c (fun r => !isRangeB r.lo r.hi 100000000) 90 #[] _ _ [b.a, b.b, b.c] _ (Sl.block (blk_new _ _) (by simp) ?_) (fun x _ w _ => areBounds1_c _ _ _) (fun w x => by kernel_rfl)).mono ?_
  · intro i hi j v hv
    match i, hi, j with
    | 0, _, 0 | 0, _, 1 | 1, _, 0 | 1, _, 1 | 2, _, 0 | 2, _, 1 => exact hv
    | 0, _, j + 2 | 1, _, j + 2 | 2, _, j + 2 => simp [Rng.cells] at hv
  rintro e w1 ⟨rfl, hE1⟩
  go_wp2_with fail
  go_ret
  exact ⟨by simp [areBoundsB, Bool.and_assoc], ((Ex.refl _ _).alloc _).trans hE1⟩
end Go.Proofs.Ytojnpaenpaobcaa
