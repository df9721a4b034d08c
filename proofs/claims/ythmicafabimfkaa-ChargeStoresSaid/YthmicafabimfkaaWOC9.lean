/- Leaves of the charge package. No condition. -/
import Derived.Test.YthmicafabimfkaaProg
import Derived.Test.YthmicafabimfkaaWQB
import Derived.Handy
import Derived.Test.YthmicafabimfkaaWQB2
import Derived.StillTailTactics

namespace Go.Proofs.Ythmicafabimfkaa
open Go.RowKit
def withinB (n a b : Int) : Bool := decide (a ≤ n) && decide (n ≤ b)
set_option maxHeartbeats 400000 in
theorem within_c (n a b : Int) (w : World) :
    Calls Try.prog 54 #[.int .i64 n, .int .i64 a, .int .i64 b] w (Ret (.bool (withinB n a b)) w) := by
  unfold Ret withinB
  go_enter Try.func54, Try.ntmps54
  go_wp2
  all_goals go_ret
  all_goals (refine ⟨?_, Ex.refl _ _⟩; simp <;> omega)
def isRangeB (n a b : Int) : Bool := decide (0 ≤ n) && decide (n ≤ a) && decide (a ≤ b)
set_option maxHeartbeats 400000 in
theorem isRange_c (n a b : Int) (w : World) :
    Calls Try.prog 64 #[.agg #[.int .i64 n, .int .i64 a], .int .i64 b] w (Ret (.bool (isRangeB n a b)) w) := by
  unfold Ret isRangeB
  go_enter Try.func64, Try.ntmps64
  go_wp2
  all_goals go_ret
  all_goals (refine ⟨?_, (Ex.refl _ _).alloc _⟩; simp <;> omega)
set_option maxHeartbeats 400000 in
theorem areBounds1_c (n a : Int) (w : World) :
    Calls Try.prog 74 #[.agg #[.int .i64 n, .int .i64 a]] w (Ret (.bool (!isRangeB n a 100000000)) w) := by
  go_enter Try.func74, Try.ntmps74
  go_wp2_with (go_at_call 64; refine (isRange_c _ _ _ _).mono ?_; rintro e w1 ⟨rfl, hw⟩)
  go_ret
  exact ⟨rfl, ((Ex.refl _ _).alloc _).trans hw⟩
structure Rng where
  lo : Int
  hi : Int
  deriving DecidableEq
def Rng.cells (r : Rng) : List Value := [.int .i64 r.lo, .int .i64 r.hi]
def intCells (n : Int) : List Value := [.int .i64 n]
/-- The first index whose element the function likes, or -1. -/
def idxOf {α : Type} (p : α → Bool) : List α → Nat → Int
  | [], _ => -1
  | x :: xs, i => if p x then (i : Int) else idxOf p xs (i + 1)
theorem idxOf_neg {α : Type} (p : α → Bool) : ∀ (xs : List α) (i : Nat), decide (0 ≤ idxOf p xs i) = xs.any p
  | [], _ => rfl
  | x :: xs, i => by
    unfold idxOf
    cases h : p x
    · simpa [h] using idxOf_neg p xs (i + 1)
    · simp [h]
theorem idxOf_drop {α : Type} (p : α → Bool) (xs : List α) (k : Nat) (hk : k < xs.length) : idxOf p (xs.drop k) k = if p xs[k] then (k : Int) else idxOf p (xs.drop (k + 1)) (k + 1) := by
  rw [List.drop_eq_getElem_cons hk, idxOf]
theorem idxOf_end {α : Type} (p : α → Bool) (xs : List α) (k : Nat) (hk : ¬ k < xs.length) : idxOf p (xs.drop k) k = -1 := by
  rw [List.drop_of_length_le (by omega), idxOf]
set_option maxHeartbeats 1000000 in
theorem indexFuncR_c (p : Rng → Bool) (g : Nat) (cap0 : Array Value) (a : Option Addr) (cap : Nat) (xs : List Rng) (w : World) (hs : Sl 2 Rng.cells w a cap xs)
    (hg : ∀ x : Rng, x ∈ xs → ∀ w', Ext w w' → Calls Try.prog g (#[.agg #[.int .i64 x.lo, .int .i64 x.hi]] ++ cap0) w' (Ret (.bool (p x)) w'))
    (hgo : ∀ w x, (callFunc g (#[x] ++ cap0)).run Try.prog w = .ok (.enter g (#[x] ++ cap0)) w) :
    Calls Try.prog 88 #[.slice a xs.length cap, .func (.func g) #[] cap0] w (Ret (.int .i64 (idxOf p xs 0)) w) := by
  have hle := hs.le; have hb := hs.big
  have hg' := Lib.hid hg; clear hg
  go_enter Try.func88, Try.ntmps88
  go_wp2_with fail
  go_loopw [8] (fun i wr => ∃ k : Nat, k ≤ xs.length ∧ i = .int .i64 k ∧ Ext w wr ∧ idxOf p xs 0 = idxOf p (xs.drop k) k) (fun i _ => xs.length - (intOf i).toNat)
  case atStart => exact ⟨0, by omega, rfl, Ex.refl _ _, rfl⟩
  case round =>
    obtain ⟨k, hk, rfl, hE, hi⟩ := hrel
    have hi' := Lib.hid hi; clear hi
    by_cases hlt : k < xs.length
    · obtain ⟨b, off, rfl, hbw, hc⟩ := hs.cells (by omega)
      have c0 := hE.cell (by simp) (hc k (by omega) 0 _ rfl)
      rw [Nat.add_zero] at c0
      have c1 := hE.cell (by simp) (hc k (by omega) 1 _ rfl)
      clear hc
      cases hp : p xs[k]
      all_goals
        have hp' := Lib.hid hp; clear hp
        go_wp2_with fail
        refine (hg'.out xs[k] (List.getElem_mem _) _ hE).mono ?_
        rintro e w1 ⟨rfl, hE1⟩
        rw [hp'.out]
        go_wp2_with fail
      · go_roundw
        case rel => exact ⟨k + 1, by omega, by go_num, hE.trans hE1, by rw [hi'.out, idxOf_drop p xs k hlt, hp'.out]; rfl⟩
        case measure => simp [intOf]; omega
      · go_ret
        exact ⟨by rw [hi'.out, idxOf_drop p xs k hlt, hp'.out]; rfl, hE.trans hE1⟩
    · go_wp2_with fail
      go_ret
      exact ⟨by rw [hi'.out, idxOf_end p xs k hlt]; rfl, hE⟩
set_option maxHeartbeats 400000 in
theorem containsFuncR_c (p : Rng → Bool) (g : Nat) (cap0 : Array Value) (a : Option Addr) (cap : Nat) (xs : List Rng) (w : World) (hs : Sl 2 Rng.cells w a cap xs)
    (hg : ∀ x : Rng, x ∈ xs → ∀ w', Ext w w' → Calls Try.prog g (#[.agg #[.int .i64 x.lo, .int .i64 x.hi]] ++ cap0) w' (Ret (.bool (p x)) w'))
    (hgo : ∀ w x, (callFunc g (#[x] ++ cap0)).run Try.prog w = .ok (.enter g (#[x] ++ cap0)) w) :
    Calls Try.prog 73 #[.slice a xs.length cap, .func (.func g) #[] cap0] w (Ret (.bool (xs.any p)) w) := by
  have hg' := Lib.hid hg; clear hg
  go_enter Try.func73, Try.ntmps73
  go_wp2_with fail
  refine (indexFuncR_c p g cap0 a cap xs _ hs hg'.out hgo).mono ?_
  rintro e w1 ⟨rfl, hE1⟩
  go_wp2_with fail
  go_ret
  exact ⟨by rw [← idxOf_neg p xs 0]; rfl, hE1⟩
structure Bnds where
  a : Rng
  b : Rng
  c : Rng
  deriving DecidableEq
def areBoundsB (b : Bnds) : Bool := isRangeB b.a.lo b.a.hi 100000000 && isRangeB b.b.lo b.b.hi 100000000 && isRangeB b.c.lo b.c.hi 100000000
set_option maxHeartbeats 400000 in
theorem areBounds_c (b : Bnds) (w : World) :
    Calls Try.prog 55 #[.agg #[.int .i64 b.a.lo, .int .i64 b.a.hi, .int .i64 b.b.lo, .int .i64 b.b.hi, .int .i64 b.c.lo, .int .i64 b.c.hi]] w (Ret (.bool (areBoundsB b)) w) := by
  go_enter Try.func55, Try.ntmps55
  go_wp2_with fail
  refine (containsFuncR_c (fun r => !isRangeB r.lo r.hi 100000000) 74 #[] _ _ [b.a, b.b, b.c] _ (Sl.block (blk_new _ _) (by simp) ?_) (fun x _ w _ => areBounds1_c _ _ _) (fun w x => by kernel_rfl)).mono ?_
  · intro i hi j v hv
    match i, hi, j with
    | 0, _, 0 | 0, _, 1 | 1, _, 0 | 1, _, 1 | 2, _, 0 | 2, _, 1 => exact hv
    | 0, _, j + 2 | 1, _, j + 2 | 2, _, j + 2 => simp [Rng.cells] at hv
  rintro e w1 ⟨rfl, hE1⟩
  go_wp2_with fail
  go_ret
  exact ⟨by simp [areBoundsB, Bool.and_assoc], ((Ex.refl _ _).alloc _).trans hE1⟩
end Go.Proofs.Ythmicafabimfkaa


namespace Go.Proofs.Ythmicafabimfkaa
open Go.RowKit
structure Lot where
  count : Int
  mass : Int
  con : Bnds
  cost : Int
  deriving DecidableEq
structure Pile where
  mass : Int
  con : Bnds
  deriving DecidableEq
structure Recipe where
  lots : List Lot
  mass : Rng
  target : Bnds
  deriving DecidableEq
def Lot.cells (l : Lot) : List Value := [.int .i64 l.count, .int .i64 l.mass, .int .i64 l.con.a.lo, .int .i64 l.con.a.hi, .int .i64 l.con.b.lo, .int .i64 l.con.b.hi, .int .i64 l.con.c.lo, .int .i64 l.con.c.hi, .int .i64 l.cost]
def Pile.cells (l : Pile) : List Value := [.int .i64 l.mass, .int .i64 l.con.a.lo, .int .i64 l.con.a.hi, .int .i64 l.con.b.lo, .int .i64 l.con.b.hi, .int .i64 l.con.c.lo, .int .i64 l.con.c.hi]
def isLotB (l : Lot) : Bool := withinB l.count 0 1000 && withinB l.mass 1 1000000 && areBoundsB l.con && withinB l.cost 0 1000000
set_option maxHeartbeats 400000 in
theorem isLot_c (l : Lot) (w : World) :
    Calls Try.prog 28 #[.agg #[.int .i64 l.count, .int .i64 l.mass, .int .i64 l.con.a.lo, .int .i64 l.con.a.hi, .int .i64 l.con.b.lo, .int .i64 l.con.b.hi, .int .i64 l.con.c.lo, .int .i64 l.con.c.hi, .int .i64 l.cost]] w (Ret (.bool (isLotB l)) w) := by
  unfold isLotB
  go_enter Try.func28, Try.ntmps28
  go_upto_region 1 with (fail)
  refine wp_at (fun W => Ext w W ∧ w.heap.size + 1 = W.heap.size ∧ W.heap[w.heap.size]? = some (.cells #[.int .i64 l.count, .int .i64 l.mass, .int .i64 l.con.a.lo, .int .i64 l.con.a.hi, .int .i64 l.con.b.lo, .int .i64 l.con.b.hi, .int .i64 l.con.c.lo, .int .i64 l.con.c.hi, .int .i64 l.cost] 33 (0, 0))) ⟨by (repeat (with_reducible first | exact Ex.refl _ _ | assumption | refine Ex.alloc ?_ _ | refine Ex.drew ?_ | refine Ex.drewN ?_ _ | refine Ex.setCell ?_ (by first | (left; simp; done) | (right; simp; done) | (right; simp; omega)) _ | refine Ex.trans ?_ (by assumption))), by simp, blk_new _ _⟩ (fun W hW => ?_)
  obtain ⟨hr0, hsz, hB0⟩ := hW
  have hr : Ex [] W W := Ex.refl _ _
  have f0_0 := cellE (S := []) hB0 (by simp) 0 rfl
  have f0_1 := cellE (S := []) hB0 (by simp) 1 rfl
  have f0_2 := cellE (S := []) hB0 (by simp) 2 rfl
  have f0_3 := cellE (S := []) hB0 (by simp) 3 rfl
  have f0_4 := cellE (S := []) hB0 (by simp) 4 rfl
  have f0_5 := cellE (S := []) hB0 (by simp) 5 rfl
  have f0_6 := cellE (S := []) hB0 (by simp) 6 rfl
  have f0_7 := cellE (S := []) hB0 (by simp) 7 rfl
  have f0_8 := cellE (S := []) hB0 (by simp) 8 rfl
  clear hB0
  have hsz' := Nat.le_of_eq hsz.symm; have hsz'' := Nat.le_of_eq hsz; clear hsz
  go_wp2_with (first | (go_at_call 54; refine (within_c _ _ _ _).mono ?_; rintro e w1 ⟨rfl, h1⟩; replace h1 : Ex [] W w1 := Ex.trans (by first | (with_reducible assumption) | (repeat (with_reducible first | exact Ex.refl _ _ | assumption | refine Ex.alloc ?_ _ | refine Ex.drew ?_ | refine Ex.drewN ?_ _ | refine Ex.setCell ?_ (by first | (left; simp; done) | (right; simp; done) | (right; simp; omega)) _ | refine Ex.trans ?_ (by assumption)))) (h1.ex _)) | (go_at_call 55; refine (areBounds_c l.con _).mono ?_; rintro e w1 ⟨rfl, h1⟩; replace h1 : Ex [] W w1 := Ex.trans (by first | (with_reducible assumption) | (repeat (with_reducible first | exact Ex.refl _ _ | assumption | refine Ex.alloc ?_ _ | refine Ex.drew ?_ | refine Ex.drewN ?_ _ | refine Ex.setCell ?_ (by first | (left; simp; done) | (right; simp; done) | (right; simp; omega)) _ | refine Ex.trans ?_ (by assumption)))) (h1.ex _)))
  all_goals go_returns
  all_goals (refine ⟨?_, by (repeat (with_reducible first | exact Ex.refl _ _ | assumption | exact Ex.trans hr0 (by assumption) | refine Ex.alloc ?_ _ | refine Ex.drew ?_ | refine Ex.drewN ?_ _ | refine Ex.setCell ?_ (by first | (left; simp; done) | (right; simp; done) | (right; simp; omega)) _ | refine Ex.trans ?_ (by assumption)))⟩; simp [*])
set_option maxHeartbeats 400000 in
theorem check1_c (l : Lot) (w : World) :
    Calls Try.prog 63 #[.agg #[.int .i64 l.count, .int .i64 l.mass, .int .i64 l.con.a.lo, .int .i64 l.con.a.hi, .int .i64 l.con.b.lo, .int .i64 l.con.b.hi, .int .i64 l.con.c.lo, .int .i64 l.con.c.hi, .int .i64 l.cost]] w (Ret (.bool (!isLotB l)) w) := by
  go_enter Try.func63, Try.ntmps63
  go_upto_region 1 with (fail)
  refine wp_at (fun W => Ext w W ∧ w.heap.size + 1 = W.heap.size ∧ W.heap[w.heap.size]? = some (.cells #[.int .i64 l.count, .int .i64 l.mass, .int .i64 l.con.a.lo, .int .i64 l.con.a.hi, .int .i64 l.con.b.lo, .int .i64 l.con.b.hi, .int .i64 l.con.c.lo, .int .i64 l.con.c.hi, .int .i64 l.cost] 33 (0, 0))) ⟨by (repeat (with_reducible first | exact Ex.refl _ _ | assumption | refine Ex.alloc ?_ _ | refine Ex.drew ?_ | refine Ex.drewN ?_ _ | refine Ex.setCell ?_ (by first | (left; simp; done) | (right; simp; done) | (right; simp; omega)) _ | refine Ex.trans ?_ (by assumption))), by simp, blk_new _ _⟩ (fun W hW => ?_)
  obtain ⟨hr0, hsz, hB0⟩ := hW
  have hr : Ex [] W W := Ex.refl _ _
  have f0_0 := cellE (S := []) hB0 (by simp) 0 rfl
  have f0_1 := cellE (S := []) hB0 (by simp) 1 rfl
  have f0_2 := cellE (S := []) hB0 (by simp) 2 rfl
  have f0_3 := cellE (S := []) hB0 (by simp) 3 rfl
  have f0_4 := cellE (S := []) hB0 (by simp) 4 rfl
  have f0_5 := cellE (S := []) hB0 (by simp) 5 rfl
  have f0_6 := cellE (S := []) hB0 (by simp) 6 rfl
  have f0_7 := cellE (S := []) hB0 (by simp) 7 rfl
  have f0_8 := cellE (S := []) hB0 (by simp) 8 rfl
  clear hB0
  have hsz' := Nat.le_of_eq hsz.symm; have hsz'' := Nat.le_of_eq hsz; clear hsz
  go_wp2_with (first | (go_at_call 28; refine (isLot_c l _).mono ?_; rintro e w1 ⟨rfl, h1⟩; replace h1 : Ex [] W w1 := Ex.trans (by first | (with_reducible assumption) | (repeat (with_reducible first | exact Ex.refl _ _ | assumption | refine Ex.alloc ?_ _ | refine Ex.drew ?_ | refine Ex.drewN ?_ _ | refine Ex.setCell ?_ (by first | (left; simp; done) | (right; simp; done) | (right; simp; omega)) _ | refine Ex.trans ?_ (by assumption)))) (h1.ex _)))
  go_returns
  exact ⟨rfl, by (repeat (with_reducible first | exact Ex.refl _ _ | assumption | exact Ex.trans hr0 (by assumption) | refine Ex.alloc ?_ _ | refine Ex.drew ?_ | refine Ex.drewN ?_ _ | refine Ex.setCell ?_ (by first | (left; simp; done) | (right; simp; done) | (right; simp; omega)) _ | refine Ex.trans ?_ (by assumption)))⟩
set_option maxHeartbeats 1000000 in
theorem indexFuncL_c (p : Lot → Bool) (g : Nat) (cap0 : Array Value) (a : Option Addr) (cap : Nat) (xs : List Lot) (w : World) (hs : Sl 9 Lot.cells w a cap xs)
    (hg : ∀ x : Lot, x ∈ xs → ∀ w', Ext w w' → Calls Try.prog g (#[.agg #[.int .i64 x.count, .int .i64 x.mass, .int .i64 x.con.a.lo, .int .i64 x.con.a.hi, .int .i64 x.con.b.lo, .int .i64 x.con.b.hi, .int .i64 x.con.c.lo, .int .i64 x.con.c.hi, .int .i64 x.cost]] ++ cap0) w' (Ret (.bool (p x)) w'))
    (hgo : ∀ w x, (callFunc g (#[x] ++ cap0)).run Try.prog w = .ok (.enter g (#[x] ++ cap0)) w) :
    Calls Try.prog 87 #[.slice a xs.length cap, .func (.func g) #[] cap0] w (Ret (.int .i64 (idxOf p xs 0)) w) := by
  have hle := hs.le; have hb := hs.big
  have hg' := Lib.hid hg; clear hg
  go_enter Try.func87, Try.ntmps87
  go_wp2_with fail
  go_loopw [8] (fun i wr => ∃ k : Nat, k ≤ xs.length ∧ i = .int .i64 k ∧ Ext w wr ∧ idxOf p xs 0 = idxOf p (xs.drop k) k) (fun i _ => xs.length - (intOf i).toNat)
  case atStart => exact ⟨0, by omega, rfl, Ex.refl _ _, rfl⟩
  case round =>
    obtain ⟨k, hk, rfl, hE, hi⟩ := hrel
    have hi' := Lib.hid hi; clear hi
    by_cases hlt : k < xs.length
    · obtain ⟨b, off, rfl, hbw, hc⟩ := hs.cells (by omega)
      have c0 := hE.cell (by simp) (hc k (by omega) 0 _ rfl)
      rw [Nat.add_zero] at c0
      have c1 := hE.cell (by simp) (hc k (by omega) 1 _ rfl)
      have c2 := hE.cell (by simp) (hc k (by omega) 2 _ rfl)
      have c3 := hE.cell (by simp) (hc k (by omega) 3 _ rfl)
      have c4 := hE.cell (by simp) (hc k (by omega) 4 _ rfl)
      have c5 := hE.cell (by simp) (hc k (by omega) 5 _ rfl)
      have c6 := hE.cell (by simp) (hc k (by omega) 6 _ rfl)
      have c7 := hE.cell (by simp) (hc k (by omega) 7 _ rfl)
      have c8 := hE.cell (by simp) (hc k (by omega) 8 _ rfl)
      clear hc
      cases hp : p xs[k]
      all_goals
        have hp' := Lib.hid hp; clear hp
        go_wp2_with fail
        refine (hg'.out xs[k] (List.getElem_mem _) _ hE).mono ?_
        rintro e w1 ⟨rfl, hE1⟩
        rw [hp'.out]
        go_wp2_with fail
      · go_roundw
        case rel => exact ⟨k + 1, by omega, by go_num, hE.trans hE1, by rw [hi'.out, idxOf_drop p xs k hlt, hp'.out]; rfl⟩
        case measure => simp [intOf]; omega
      · go_ret
        exact ⟨by rw [hi'.out, idxOf_drop p xs k hlt, hp'.out]; rfl, hE.trans hE1⟩
    · go_wp2_with fail
      go_ret
      exact ⟨by rw [hi'.out, idxOf_end p xs k hlt]; rfl, hE⟩
set_option maxHeartbeats 400000 in
theorem containsFuncL_c (p : Lot → Bool) (g : Nat) (cap0 : Array Value) (a : Option Addr) (cap : Nat) (xs : List Lot) (w : World) (hs : Sl 9 Lot.cells w a cap xs)
    (hg : ∀ x : Lot, x ∈ xs → ∀ w', Ext w w' → Calls Try.prog g (#[.agg #[.int .i64 x.count, .int .i64 x.mass, .int .i64 x.con.a.lo, .int .i64 x.con.a.hi, .int .i64 x.con.b.lo, .int .i64 x.con.b.hi, .int .i64 x.con.c.lo, .int .i64 x.con.c.hi, .int .i64 x.cost]] ++ cap0) w' (Ret (.bool (p x)) w'))
    (hgo : ∀ w x, (callFunc g (#[x] ++ cap0)).run Try.prog w = .ok (.enter g (#[x] ++ cap0)) w) :
    Calls Try.prog 62 #[.slice a xs.length cap, .func (.func g) #[] cap0] w (Ret (.bool (xs.any p)) w) := by
  have hg' := Lib.hid hg; clear hg
  go_enter Try.func62, Try.ntmps62
  go_wp2_with fail
  refine (indexFuncL_c p g cap0 a cap xs _ hs hg'.out hgo).mono ?_
  rintro e w1 ⟨rfl, hE1⟩
  go_wp2_with fail
  go_ret
  exact ⟨by rw [← idxOf_neg p xs 0]; rfl, hE1⟩
set_option maxHeartbeats 1000000 in
theorem indexFuncI_c (p : Int → Bool) (g : Nat) (cap0 : Array Value) (a : Option Addr) (cap : Nat) (xs : List Int) (w : World) (hs : Sl 1 intCells w a cap xs)
    (hg : ∀ x : Int, x ∈ xs → ∀ w', Ext w w' → Calls Try.prog g (#[.int .i64 x] ++ cap0) w' (Ret (.bool (p x)) w'))
    (hgo : ∀ w x, (callFunc g (#[x] ++ cap0)).run Try.prog w = .ok (.enter g (#[x] ++ cap0)) w) :
    Calls Try.prog 67 #[.slice a xs.length cap, .func (.func g) #[] cap0] w (Ret (.int .i64 (idxOf p xs 0)) w) := by
  have hle := hs.le; have hb := hs.big
  have hg' := Lib.hid hg; clear hg
  go_enter Try.func67, Try.ntmps67
  go_wp2_with fail
  go_loopw [8] (fun i wr => ∃ k : Nat, k ≤ xs.length ∧ i = .int .i64 k ∧ Ext w wr ∧ idxOf p xs 0 = idxOf p (xs.drop k) k) (fun i _ => xs.length - (intOf i).toNat)
  case atStart => exact ⟨0, by omega, rfl, Ex.refl _ _, rfl⟩
  case round =>
    obtain ⟨k, hk, rfl, hE, hi⟩ := hrel
    have hi' := Lib.hid hi; clear hi
    by_cases hlt : k < xs.length
    · obtain ⟨b, off, rfl, hbw, hc⟩ := hs.cells (by omega)
      have c0 := hE.cell (by simp) (hc k (by omega) 0 _ rfl)
      rw [Nat.add_zero] at c0
      rw [Nat.mul_one] at c0
      clear hc
      cases hp : p xs[k]
      all_goals
        have hp' := Lib.hid hp; clear hp
        go_wp2_with fail
        refine (hg'.out xs[k] (List.getElem_mem _) _ hE).mono ?_
        rintro e w1 ⟨rfl, hE1⟩
        rw [hp'.out]
        go_wp2_with fail
      · go_roundw
        case rel => exact ⟨k + 1, by omega, by go_num, hE.trans hE1, by rw [hi'.out, idxOf_drop p xs k hlt, hp'.out]; rfl⟩
        case measure => simp [intOf]; omega
      · go_ret
        exact ⟨by rw [hi'.out, idxOf_drop p xs k hlt, hp'.out]; rfl, hE.trans hE1⟩
    · go_wp2_with fail
      go_ret
      exact ⟨by rw [hi'.out, idxOf_end p xs k hlt]; rfl, hE⟩
end Go.Proofs.Ythmicafabimfkaa


namespace Go.Proofs.Ythmicafabimfkaa
open Go.RowKit
def checkE (p : Recipe) : Int := if 6 < (p.lots.length : Int) then 5 else if p.lots.any (fun l => !isLotB l) || !isRangeB p.mass.lo p.mass.hi 1000000000 || !areBoundsB p.target then 2 else 0
abbrev SlL := Sl 9 Lot.cells
abbrev SlI := Sl 1 intCells
set_option maxHeartbeats 400000 in
theorem check_c (p : Recipe) (a : Option Addr) (cap : Nat) (w : World) (hs : SlL w a cap p.lots) :
    Calls Try.prog 40 #[.agg #[.slice a p.lots.length cap, .int .i64 p.mass.lo, .int .i64 p.mass.hi, .int .i64 p.target.a.lo, .int .i64 p.target.a.hi, .int .i64 p.target.b.lo, .int .i64 p.target.b.hi, .int .i64 p.target.c.lo, .int .i64 p.target.c.hi]] w (Ret (.int .i64 (checkE p)) w) := by
  have hle := hs.le; have hb := hs.big
  go_enter Try.func40, Try.ntmps40
  go_upto_region 1 with (fail)
  refine wp_at (fun W => Ext w W ∧ w.heap.size + 1 = W.heap.size ∧ W.heap[w.heap.size]? = some (.cells #[.slice a p.lots.length cap, .int .i64 p.mass.lo, .int .i64 p.mass.hi, .int .i64 p.target.a.lo, .int .i64 p.target.a.hi, .int .i64 p.target.b.lo, .int .i64 p.target.b.hi, .int .i64 p.target.c.lo, .int .i64 p.target.c.hi] 65 (0, 0))) ⟨by (repeat (with_reducible first | exact Ex.refl _ _ | assumption | refine Ex.alloc ?_ _ | refine Ex.drew ?_ | refine Ex.drewN ?_ _ | refine Ex.setCell ?_ (by first | (left; simp; done) | (right; simp; done) | (right; simp; omega)) _ | refine Ex.trans ?_ (by assumption))), by simp, blk_new _ _⟩ (fun W hW => ?_)
  obtain ⟨hr0, hsz, hB0⟩ := hW
  have hr : Ex [] W W := Ex.refl _ _
  have f0_0 := cellE (S := []) hB0 (by simp) 0 rfl
  have f0_1 := cellE (S := []) hB0 (by simp) 1 rfl
  have f0_2 := cellE (S := []) hB0 (by simp) 2 rfl
  have f0_3 := cellE (S := []) hB0 (by simp) 3 rfl
  have f0_4 := cellE (S := []) hB0 (by simp) 4 rfl
  have f0_5 := cellE (S := []) hB0 (by simp) 5 rfl
  have f0_6 := cellE (S := []) hB0 (by simp) 6 rfl
  have f0_7 := cellE (S := []) hB0 (by simp) 7 rfl
  have f0_8 := cellE (S := []) hB0 (by simp) 8 rfl
  clear hB0
  have hsz' := Nat.le_of_eq hsz.symm; have hsz'' := Nat.le_of_eq hsz; clear hsz
  by_cases hb0 : 6 < (p.lots.length : Int)
  · skip
    go_wp2_with (first | (go_at_call 62; refine (containsFuncL_c (fun l => !isLotB l) 63 #[] a cap p.lots _ (hs.ext (Ex.trans hr0 (by assumption))) (fun x _ w _ => check1_c _ _) (fun w x => by kernel_rfl)).mono ?_; rintro e w1 ⟨rfl, h1⟩; replace h1 : Ex [] W w1 := Ex.trans (by first | (with_reducible assumption) | (repeat (with_reducible first | exact Ex.refl _ _ | assumption | refine Ex.alloc ?_ _ | refine Ex.drew ?_ | refine Ex.drewN ?_ _ | refine Ex.setCell ?_ (by first | (left; simp; done) | (right; simp; done) | (right; simp; omega)) _ | refine Ex.trans ?_ (by assumption)))) (h1.ex _)) | (go_at_call 64; refine (isRange_c _ _ _ _).mono ?_; rintro e w1 ⟨rfl, h1⟩; replace h1 : Ex [] W w1 := Ex.trans (by first | (with_reducible assumption) | (repeat (with_reducible first | exact Ex.refl _ _ | assumption | refine Ex.alloc ?_ _ | refine Ex.drew ?_ | refine Ex.drewN ?_ _ | refine Ex.setCell ?_ (by first | (left; simp; done) | (right; simp; done) | (right; simp; omega)) _ | refine Ex.trans ?_ (by assumption)))) (h1.ex _)) | (go_at_call 55; refine (areBounds_c p.target _).mono ?_; rintro e w1 ⟨rfl, h1⟩; replace h1 : Ex [] W w1 := Ex.trans (by first | (with_reducible assumption) | (repeat (with_reducible first | exact Ex.refl _ _ | assumption | refine Ex.alloc ?_ _ | refine Ex.drew ?_ | refine Ex.drewN ?_ _ | refine Ex.setCell ?_ (by first | (left; simp; done) | (right; simp; done) | (right; simp; omega)) _ | refine Ex.trans ?_ (by assumption)))) (h1.ex _)))
    go_returns
    exact ⟨by simp [checkE, *], by (repeat (with_reducible first | exact Ex.refl _ _ | assumption | exact Ex.trans hr0 (by assumption) | refine Ex.alloc ?_ _ | refine Ex.drew ?_ | refine Ex.drewN ?_ _ | refine Ex.setCell ?_ (by first | (left; simp; done) | (right; simp; done) | (right; simp; omega)) _ | refine Ex.trans ?_ (by assumption)))⟩
  · skip
    cases hb1 : p.lots.any (fun l => !isLotB l)
    case false =>
      cases hb2 : isRangeB p.mass.lo p.mass.hi 1000000000
      case false =>
        go_wp2_with (first | (go_at_call 62; refine (containsFuncL_c (fun l => !isLotB l) 63 #[] a cap p.lots _ (hs.ext (Ex.trans hr0 (by assumption))) (fun x _ w _ => check1_c _ _) (fun w x => by kernel_rfl)).mono ?_; rintro e w1 ⟨rfl, h1⟩; replace h1 : Ex [] W w1 := Ex.trans (by first | (with_reducible assumption) | (repeat (with_reducible first | exact Ex.refl _ _ | assumption | refine Ex.alloc ?_ _ | refine Ex.drew ?_ | refine Ex.drewN ?_ _ | refine Ex.setCell ?_ (by first | (left; simp; done) | (right; simp; done) | (right; simp; omega)) _ | refine Ex.trans ?_ (by assumption)))) (h1.ex _)) | (go_at_call 64; refine (isRange_c _ _ _ _).mono ?_; rintro e w1 ⟨rfl, h1⟩; replace h1 : Ex [] W w1 := Ex.trans (by first | (with_reducible assumption) | (repeat (with_reducible first | exact Ex.refl _ _ | assumption | refine Ex.alloc ?_ _ | refine Ex.drew ?_ | refine Ex.drewN ?_ _ | refine Ex.setCell ?_ (by first | (left; simp; done) | (right; simp; done) | (right; simp; omega)) _ | refine Ex.trans ?_ (by assumption)))) (h1.ex _)) | (go_at_call 55; refine (areBounds_c p.target _).mono ?_; rintro e w1 ⟨rfl, h1⟩; replace h1 : Ex [] W w1 := Ex.trans (by first | (with_reducible assumption) | (repeat (with_reducible first | exact Ex.refl _ _ | assumption | refine Ex.alloc ?_ _ | refine Ex.drew ?_ | refine Ex.drewN ?_ _ | refine Ex.setCell ?_ (by first | (left; simp; done) | (right; simp; done) | (right; simp; omega)) _ | refine Ex.trans ?_ (by assumption)))) (h1.ex _)))
        go_returns
        exact ⟨by simp [checkE, *], by (repeat (with_reducible first | exact Ex.refl _ _ | assumption | exact Ex.trans hr0 (by assumption) | refine Ex.alloc ?_ _ | refine Ex.drew ?_ | refine Ex.drewN ?_ _ | refine Ex.setCell ?_ (by first | (left; simp; done) | (right; simp; done) | (right; simp; omega)) _ | refine Ex.trans ?_ (by assumption)))⟩
      case true =>
        cases hb3 : areBoundsB p.target
        case false =>
          go_wp2_with (first | (go_at_call 62; refine (containsFuncL_c (fun l => !isLotB l) 63 #[] a cap p.lots _ (hs.ext (Ex.trans hr0 (by assumption))) (fun x _ w _ => check1_c _ _) (fun w x => by kernel_rfl)).mono ?_; rintro e w1 ⟨rfl, h1⟩; replace h1 : Ex [] W w1 := Ex.trans (by first | (with_reducible assumption) | (repeat (with_reducible first | exact Ex.refl _ _ | assumption | refine Ex.alloc ?_ _ | refine Ex.drew ?_ | refine Ex.drewN ?_ _ | refine Ex.setCell ?_ (by first | (left; simp; done) | (right; simp; done) | (right; simp; omega)) _ | refine Ex.trans ?_ (by assumption)))) (h1.ex _)) | (go_at_call 64; refine (isRange_c _ _ _ _).mono ?_; rintro e w1 ⟨rfl, h1⟩; replace h1 : Ex [] W w1 := Ex.trans (by first | (with_reducible assumption) | (repeat (with_reducible first | exact Ex.refl _ _ | assumption | refine Ex.alloc ?_ _ | refine Ex.drew ?_ | refine Ex.drewN ?_ _ | refine Ex.setCell ?_ (by first | (left; simp; done) | (right; simp; done) | (right; simp; omega)) _ | refine Ex.trans ?_ (by assumption)))) (h1.ex _)) | (go_at_call 55; refine (areBounds_c p.target _).mono ?_; rintro e w1 ⟨rfl, h1⟩; replace h1 : Ex [] W w1 := Ex.trans (by first | (with_reducible assumption) | (repeat (with_reducible first | exact Ex.refl _ _ | assumption | refine Ex.alloc ?_ _ | refine Ex.drew ?_ | refine Ex.drewN ?_ _ | refine Ex.setCell ?_ (by first | (left; simp; done) | (right; simp; done) | (right; simp; omega)) _ | refine Ex.trans ?_ (by assumption)))) (h1.ex _)))
          go_returns
          exact ⟨by simp [checkE, *], by (repeat (with_reducible first | exact Ex.refl _ _ | assumption | exact Ex.trans hr0 (by assumption) | refine Ex.alloc ?_ _ | refine Ex.drew ?_ | refine Ex.drewN ?_ _ | refine Ex.setCell ?_ (by first | (left; simp; done) | (right; simp; done) | (right; simp; omega)) _ | refine Ex.trans ?_ (by assumption)))⟩
        case true =>
          go_wp2_with (first | (go_at_call 62; refine (containsFuncL_c (fun l => !isLotB l) 63 #[] a cap p.lots _ (hs.ext (Ex.trans hr0 (by assumption))) (fun x _ w _ => check1_c _ _) (fun w x => by kernel_rfl)).mono ?_; rintro e w1 ⟨rfl, h1⟩; replace h1 : Ex [] W w1 := Ex.trans (by first | (with_reducible assumption) | (repeat (with_reducible first | exact Ex.refl _ _ | assumption | refine Ex.alloc ?_ _ | refine Ex.drew ?_ | refine Ex.drewN ?_ _ | refine Ex.setCell ?_ (by first | (left; simp; done) | (right; simp; done) | (right; simp; omega)) _ | refine Ex.trans ?_ (by assumption)))) (h1.ex _)) | (go_at_call 64; refine (isRange_c _ _ _ _).mono ?_; rintro e w1 ⟨rfl, h1⟩; replace h1 : Ex [] W w1 := Ex.trans (by first | (with_reducible assumption) | (repeat (with_reducible first | exact Ex.refl _ _ | assumption | refine Ex.alloc ?_ _ | refine Ex.drew ?_ | refine Ex.drewN ?_ _ | refine Ex.setCell ?_ (by first | (left; simp; done) | (right; simp; done) | (right; simp; omega)) _ | refine Ex.trans ?_ (by assumption)))) (h1.ex _)) | (go_at_call 55; refine (areBounds_c p.target _).mono ?_; rintro e w1 ⟨rfl, h1⟩; replace h1 : Ex [] W w1 := Ex.trans (by first | (with_reducible assumption) | (repeat (with_reducible first | exact Ex.refl _ _ | assumption | refine Ex.alloc ?_ _ | refine Ex.drew ?_ | refine Ex.drewN ?_ _ | refine Ex.setCell ?_ (by first | (left; simp; done) | (right; simp; done) | (right; simp; omega)) _ | refine Ex.trans ?_ (by assumption)))) (h1.ex _)))
          go_returns
          exact ⟨by simp [checkE, *], by (repeat (with_reducible first | exact Ex.refl _ _ | assumption | exact Ex.trans hr0 (by assumption) | refine Ex.alloc ?_ _ | refine Ex.drew ?_ | refine Ex.drewN ?_ _ | refine Ex.setCell ?_ (by first | (left; simp; done) | (right; simp; done) | (right; simp; omega)) _ | refine Ex.trans ?_ (by assumption)))⟩
    case true =>
      go_wp2_with (first | (go_at_call 62; refine (containsFuncL_c (fun l => !isLotB l) 63 #[] a cap p.lots _ (hs.ext (Ex.trans hr0 (by assumption))) (fun x _ w _ => check1_c _ _) (fun w x => by kernel_rfl)).mono ?_; rintro e w1 ⟨rfl, h1⟩; replace h1 : Ex [] W w1 := Ex.trans (by first | (with_reducible assumption) | (repeat (with_reducible first | exact Ex.refl _ _ | assumption | refine Ex.alloc ?_ _ | refine Ex.drew ?_ | refine Ex.drewN ?_ _ | refine Ex.setCell ?_ (by first | (left; simp; done) | (right; simp; done) | (right; simp; omega)) _ | refine Ex.trans ?_ (by assumption)))) (h1.ex _)) | (go_at_call 64; refine (isRange_c _ _ _ _).mono ?_; rintro e w1 ⟨rfl, h1⟩; replace h1 : Ex [] W w1 := Ex.trans (by first | (with_reducible assumption) | (repeat (with_reducible first | exact Ex.refl _ _ | assumption | refine Ex.alloc ?_ _ | refine Ex.drew ?_ | refine Ex.drewN ?_ _ | refine Ex.setCell ?_ (by first | (left; simp; done) | (right; simp; done) | (right; simp; omega)) _ | refine Ex.trans ?_ (by assumption)))) (h1.ex _)) | (go_at_call 55; refine (areBounds_c p.target _).mono ?_; rintro e w1 ⟨rfl, h1⟩; replace h1 : Ex [] W w1 := Ex.trans (by first | (with_reducible assumption) | (repeat (with_reducible first | exact Ex.refl _ _ | assumption | refine Ex.alloc ?_ _ | refine Ex.drew ?_ | refine Ex.drewN ?_ _ | refine Ex.setCell ?_ (by first | (left; simp; done) | (right; simp; done) | (right; simp; omega)) _ | refine Ex.trans ?_ (by assumption)))) (h1.ex _)))
      go_returns
      exact ⟨by simp [checkE, *], by (repeat (with_reducible first | exact Ex.refl _ _ | assumption | exact Ex.trans hr0 (by assumption) | refine Ex.alloc ?_ _ | refine Ex.drew ?_ | refine Ex.drewN ?_ _ | refine Ex.setCell ?_ (by first | (left; simp; done) | (right; simp; done) | (right; simp; omega)) _ | refine Ex.trans ?_ (by assumption)))⟩
end Go.Proofs.Ythmicafabimfkaa


namespace Go.Proofs.Ythmicafabimfkaa
open Go.RowKit
def addPile (p : Pile) (l : Lot) (n : Int) : Pile := ⟨wrap64 (p.mass + wrap64 (n * l.mass)), ⟨⟨wrap64 (p.con.a.lo + wrap64 (n * l.con.a.lo)), wrap64 (p.con.a.hi + wrap64 (n * l.con.a.hi))⟩, ⟨wrap64 (p.con.b.lo + wrap64 (n * l.con.b.lo)), wrap64 (p.con.b.hi + wrap64 (n * l.con.b.hi))⟩, ⟨wrap64 (p.con.c.lo + wrap64 (n * l.con.c.lo)), wrap64 (p.con.c.hi + wrap64 (n * l.con.c.hi))⟩⟩⟩
set_option maxHeartbeats 4000000 in
theorem put0_c (p : Pile) (l : Lot) (n : Int) (b : Nat) (T : TypeId) (w : World) (hB : w.heap[b]? = some (.cells #[.int .i64 p.mass, .int .i64 p.con.a.lo, .int .i64 p.con.a.hi, .int .i64 p.con.b.lo, .int .i64 p.con.b.hi, .int .i64 p.con.c.lo, .int .i64 p.con.c.hi] T (0, 0))) :
    Calls Try.prog 27 #[.pointer (some ⟨b, 0, none⟩), .agg #[.int .i64 l.count, .int .i64 l.mass, .int .i64 l.con.a.lo, .int .i64 l.con.a.hi, .int .i64 l.con.b.lo, .int .i64 l.con.b.hi, .int .i64 l.con.c.lo, .int .i64 l.con.c.hi, .int .i64 l.cost], .int .i64 n] w (fun e w' => e = .returned (.tuple #[]) ∧ Ex [b] w w' ∧ w'.heap[b]? = some (.cells #[.int .i64 (addPile p l n).mass, .int .i64 (addPile p l n).con.a.lo, .int .i64 (addPile p l n).con.a.hi, .int .i64 (addPile p l n).con.b.lo, .int .i64 (addPile p l n).con.b.hi, .int .i64 (addPile p l n).con.c.lo, .int .i64 (addPile p l n).con.c.hi] T (0, 0))) := by
  have hlt := lt_of_block hB
  have k0 := blk_cell hB 0 rfl
  have z0 := blk_free hB 0
  have k1 := blk_cell hB 1 rfl
  have z1 := blk_free hB 1
  have k2 := blk_cell hB 2 rfl
  have z2 := blk_free hB 2
  have k3 := blk_cell hB 3 rfl
  have z3 := blk_free hB 3
  have k4 := blk_cell hB 4 rfl
  have z4 := blk_free hB 4
  have k5 := blk_cell hB 5 rfl
  have z5 := blk_free hB 5
  have k6 := blk_cell hB 6 rfl
  have z6 := blk_free hB 6
  have hB' := Lib.hid hB; clear hB
  go_enter Try.func27, Try.ntmps27
  go_wp2
  go_region
  go_wp2
  refine wp_loop_rounds 4 ?_
  iterate 3 (rw [rounds_succ]; go_wp2; go_region; go_wp2; go_region; go_wp2)
  rw [rounds_succ]
  go_wp2
  go_returns
  refine ⟨rfl, by (repeat (with_reducible first | exact Ex.refl _ _ | assumption | refine Ex.alloc ?_ _ | refine Ex.drew ?_ | refine Ex.drewN ?_ _ | refine Ex.setCell ?_ (by first | (left; simp; done) | (right; simp; done) | (right; simp; omega)) _ | refine Ex.trans ?_ (by assumption))), ?_⟩
  repeat (with_reducible refine blk_drew ?_)
  refine blk_to (blk_alloc (blk_set (blk_set (blk_set (blk_set (blk_set (blk_set (blk_set hB'.out 0 _) 1 _) 2 _) 3 _) 4 _) 5 _) 6 _)) ?_
  kernel_rfl
end Go.Proofs.Ythmicafabimfkaa


namespace Go.Proofs.Ythmicafabimfkaa
open Go.RowKit
def Rng.zero : Rng := ⟨0, 0⟩
def Bnds.zero : Bnds := ⟨.zero, .zero, .zero⟩
def Pile.zero : Pile := ⟨0, .zero⟩
def Lot.zero : Lot := ⟨0, 0, .zero, 0⟩
end Go.Proofs.Ythmicafabimfkaa


namespace Go.Proofs.Ythmicafabimfkaa
open Go.RowKit
end Go.Proofs.Ythmicafabimfkaa


namespace Go.Proofs.Ythmicafabimfkaa
open Go.RowKit
end Go.Proofs.Ythmicafabimfkaa


namespace Go.Proofs.Ythmicafabimfkaa
open Go.RowKit
structure Mar where
  (m0 m1 m2 m3 m4 m5 m6 m7 : Int)
  deriving DecidableEq
def Mar.zero : Mar := ⟨0, 0, 0, 0, 0, 0, 0, 0⟩
def Mar.list (m : Mar) : List Int := [m.m0, m.m1, m.m2, m.m3, m.m4, m.m5, m.m6, m.m7]
def Mar.cells (m : Mar) : List Value := [.int .i64 m.m0, .int .i64 m.m1, .int .i64 m.m2, .int .i64 m.m3, .int .i64 m.m4, .int .i64 m.m5, .int .i64 m.m6, .int .i64 m.m7]
def baseM (p : Recipe) : Mar := ⟨wrap64 (-p.mass.lo), p.mass.hi, 0, 0, 0, 0, 0, 0⟩
def plusM (a b : Mar) (n : Int) : Mar := ⟨wrap64 (a.m0 + wrap64 (n * b.m0)), wrap64 (a.m1 + wrap64 (n * b.m1)), wrap64 (a.m2 + wrap64 (n * b.m2)), wrap64 (a.m3 + wrap64 (n * b.m3)), wrap64 (a.m4 + wrap64 (n * b.m4)), wrap64 (a.m5 + wrap64 (n * b.m5)), wrap64 (a.m6 + wrap64 (n * b.m6)), wrap64 (a.m7 + wrap64 (n * b.m7))⟩
def ofM (p : Recipe) (x : Pile) : Mar := ⟨x.mass, wrap64 (-x.mass), wrap64 (wrap64 (p.target.a.hi * x.mass) - wrap64 (1000000 * x.con.a.hi)), wrap64 (wrap64 (1000000 * x.con.a.lo) - wrap64 (p.target.a.lo * x.mass)), wrap64 (wrap64 (p.target.b.hi * x.mass) - wrap64 (1000000 * x.con.b.hi)), wrap64 (wrap64 (1000000 * x.con.b.lo) - wrap64 (p.target.b.lo * x.mass)), wrap64 (wrap64 (p.target.c.hi * x.mass) - wrap64 (1000000 * x.con.c.hi)), wrap64 (wrap64 (1000000 * x.con.c.lo) - wrap64 (p.target.c.lo * x.mass))⟩
def brokenM (m : Mar) : Int := idxOf (fun n => decide (n < 0)) m.list 0
set_option maxHeartbeats 2000000 in
theorem plus_c (a b : Mar) (n : Int) (w : World) :
    Calls Try.prog 49 #[.agg #[.int .i64 a.m0, .int .i64 a.m1, .int .i64 a.m2, .int .i64 a.m3, .int .i64 a.m4, .int .i64 a.m5, .int .i64 a.m6, .int .i64 a.m7], .agg #[.int .i64 b.m0, .int .i64 b.m1, .int .i64 b.m2, .int .i64 b.m3, .int .i64 b.m4, .int .i64 b.m5, .int .i64 b.m6, .int .i64 b.m7], .int .i64 n] w (Ret (.agg #[.int .i64 ((plusM a b n).m0), .int .i64 ((plusM a b n).m1), .int .i64 ((plusM a b n).m2), .int .i64 ((plusM a b n).m3), .int .i64 ((plusM a b n).m4), .int .i64 ((plusM a b n).m5), .int .i64 ((plusM a b n).m6), .int .i64 ((plusM a b n).m7)]) w) := by
  go_enter Try.func49, Try.ntmps49
  go_wp2
  refine wp_loop_rounds 9 ?_
  iterate 8 (rw [rounds_succ]; go_wp2; go_region; go_wp2)
  rw [rounds_succ]
  go_wp2
  go_returns
  exact ⟨rfl, by (repeat (with_reducible first | exact Ex.refl _ _ | assumption | refine Ex.alloc ?_ _ | refine Ex.drew ?_ | refine Ex.drewN ?_ _ | refine Ex.setCell ?_ (by first | (left; simp; done) | (right; simp; done) | (right; simp; omega)) _ | refine Ex.trans ?_ (by assumption)))⟩
set_option maxHeartbeats 1000000 in
theorem base_c (p : Recipe) (a : Option Addr) (cap : Nat) (w : World) :
    Calls Try.prog 48 #[.agg #[.slice a p.lots.length cap, .int .i64 p.mass.lo, .int .i64 p.mass.hi, .int .i64 p.target.a.lo, .int .i64 p.target.a.hi, .int .i64 p.target.b.lo, .int .i64 p.target.b.hi, .int .i64 p.target.c.lo, .int .i64 p.target.c.hi]] w (Ret (.agg #[.int .i64 ((baseM p).m0), .int .i64 ((baseM p).m1), .int .i64 ((baseM p).m2), .int .i64 ((baseM p).m3), .int .i64 ((baseM p).m4), .int .i64 ((baseM p).m5), .int .i64 ((baseM p).m6), .int .i64 ((baseM p).m7)]) w) := by
  go_enter Try.func48, Try.ntmps48
  go_wp2
  go_returns
  exact ⟨rfl, by (repeat (with_reducible first | exact Ex.refl _ _ | assumption | refine Ex.alloc ?_ _ | refine Ex.drew ?_ | refine Ex.drewN ?_ _ | refine Ex.setCell ?_ (by first | (left; simp; done) | (right; simp; done) | (right; simp; omega)) _ | refine Ex.trans ?_ (by assumption)))⟩
set_option maxRecDepth 100000 in
set_option maxHeartbeats 4000000 in
theorem of_c (p : Recipe) (x : Pile) (a : Option Addr) (cap : Nat) (w : World) :
    Calls Try.prog 50 #[.agg #[.slice a p.lots.length cap, .int .i64 p.mass.lo, .int .i64 p.mass.hi, .int .i64 p.target.a.lo, .int .i64 p.target.a.hi, .int .i64 p.target.b.lo, .int .i64 p.target.b.hi, .int .i64 p.target.c.lo, .int .i64 p.target.c.hi], .agg #[.int .i64 x.mass, .int .i64 x.con.a.lo, .int .i64 x.con.a.hi, .int .i64 x.con.b.lo, .int .i64 x.con.b.hi, .int .i64 x.con.c.lo, .int .i64 x.con.c.hi]] w (Ret (.agg #[.int .i64 ((ofM p x).m0), .int .i64 ((ofM p x).m1), .int .i64 ((ofM p x).m2), .int .i64 ((ofM p x).m3), .int .i64 ((ofM p x).m4), .int .i64 ((ofM p x).m5), .int .i64 ((ofM p x).m6), .int .i64 ((ofM p x).m7)]) w) := by
  have ix0 : ∀ w, (Instr.index 29 (.agg #[.int .i64 p.target.a.lo, .int .i64 p.target.a.hi, .int .i64 p.target.b.lo, .int .i64 p.target.b.hi, .int .i64 p.target.c.lo, .int .i64 p.target.c.hi]) (.int .i64 0)).run Try.prog w = .ok (.agg #[.int .i64 p.target.a.lo, .int .i64 p.target.a.hi]) w := fun _ => by kernel_rfl
  have ix1 : ∀ w, (Instr.index 29 (.agg #[.int .i64 p.target.a.lo, .int .i64 p.target.a.hi, .int .i64 p.target.b.lo, .int .i64 p.target.b.hi, .int .i64 p.target.c.lo, .int .i64 p.target.c.hi]) (.int .i64 1)).run Try.prog w = .ok (.agg #[.int .i64 p.target.b.lo, .int .i64 p.target.b.hi]) w := fun _ => by kernel_rfl
  have ix2 : ∀ w, (Instr.index 29 (.agg #[.int .i64 p.target.a.lo, .int .i64 p.target.a.hi, .int .i64 p.target.b.lo, .int .i64 p.target.b.hi, .int .i64 p.target.c.lo, .int .i64 p.target.c.hi]) (.int .i64 2)).run Try.prog w = .ok (.agg #[.int .i64 p.target.c.lo, .int .i64 p.target.c.hi]) w := fun _ => by kernel_rfl
  have wl0 : IntKind.i64.wrap 0 = 0 := by decide
  have wl1 : IntKind.i64.wrap 1 = 1 := by decide
  have wl2 : IntKind.i64.wrap 2 = 2 := by decide
  have wl3 : IntKind.i64.wrap 3 = 3 := by decide
  have wl4 : IntKind.i64.wrap 4 = 4 := by decide
  have wl5 : IntKind.i64.wrap 5 = 5 := by decide
  have wl6 : IntKind.i64.wrap 6 = 6 := by decide
  have wl7 : IntKind.i64.wrap 7 = 7 := by decide
  go_enter Try.func50, Try.ntmps50
  go_wp2
  go_region
  go_wp2
  refine wp_loop_rounds 4 ?_
  iterate 3 (rw [rounds_succ]; go_wp2; (refine region_tail 16 (by kernel_rfl) (by kernel_rfl) ?_; simp only [List.take_succ_cons, List.take_zero, List.drop_succ_cons, List.drop_zero]; (repeat still_step); refine wpStill_nil ?_); go_wp2; (refine region_tail 16 (by kernel_rfl) (by kernel_rfl) ?_; simp only [List.take_succ_cons, List.take_zero, List.drop_succ_cons, List.drop_zero]; (repeat still_step); refine wpStill_nil ?_); go_wp2)
  rw [rounds_succ]
  go_wp2
  go_returns
  exact ⟨rfl, by (repeat (with_reducible first | exact Ex.refl _ _ | assumption | refine Ex.alloc ?_ _ | refine Ex.drew ?_ | refine Ex.drewN ?_ _ | refine Ex.setCell ?_ (by first | (left; simp; done) | (right; simp; done) | (right; simp; omega)) _ | refine Ex.trans ?_ (by assumption)))⟩
set_option maxHeartbeats 400000 in
theorem broken1_c (n : Int) (w : World) : Calls Try.prog 68 #[.int .i64 n] w (Ret (.bool (decide (n < 0))) w) := by
  go_enter Try.func68, Try.ntmps68
  go_wp2
  go_returns
  exact ⟨rfl, Ex.refl _ _⟩
set_option maxHeartbeats 400000 in
theorem broken_c (m : Mar) (w : World) : Calls Try.prog 45 #[.agg #[.int .i64 m.m0, .int .i64 m.m1, .int .i64 m.m2, .int .i64 m.m3, .int .i64 m.m4, .int .i64 m.m5, .int .i64 m.m6, .int .i64 m.m7]] w (Ret (.int .i64 (brokenM m)) w) := by
  go_enter Try.func45, Try.ntmps45
  go_wp2_with fail
  refine (indexFuncI_c (fun n => decide (n < 0)) 68 #[] _ _ m.list _ (Sl.block (blk_new _ _) (by simp [Mar.list]) ?_) (fun x _ w _ => broken1_c _ _) (fun w x => by kernel_rfl)).mono ?_
  · intro i hi j v hv
    match i, hi, j with
    | 0, _, 0 | 1, _, 0 | 2, _, 0 | 3, _, 0 | 4, _, 0 | 5, _, 0 | 6, _, 0 | 7, _, 0 => exact hv
    | _, _, j + 1 => simp [intCells] at hv
    | i + 8, hi, 0 => simp [Mar.list] at hi; omega
  rintro e w1 ⟨rfl, hE1⟩
  go_wp2_with fail
  go_returns
  exact ⟨rfl, ((Ex.refl _ _).alloc _).trans hE1⟩
end Go.Proofs.Ythmicafabimfkaa


namespace Go.Proofs.Ythmicafabimfkaa
open Go.RowKit
end Go.Proofs.Ythmicafabimfkaa
