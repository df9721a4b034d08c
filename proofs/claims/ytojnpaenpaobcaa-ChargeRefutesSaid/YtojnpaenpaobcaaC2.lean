/- The charge package: lots, piles. No condition. -/
import Derived.Test.YtojnpaenpaobcaaC1
import Derived.Handy
namespace Go.Proofs.Ytojnpaenpaobcaa
open Go.RowKit

structure Lot where
  count : Int
  mass : Int
  con : Bnds
  cost : Int
  deriving DecidableEq
structure Pile where
  mass : Int
  con : Bnds
  deriving DecidableEq
structure Recipe where
  lots : List Lot
  mass : Rng
  target : Bnds
  deriving DecidableEq
def Lot.cells (l : Lot) : List Value := [.int .i64 l.count, .int .i64 l.mass, .int .i64 l.con.a.lo, .int .i64 l.con.a.hi, .int .i64 l.con.b.lo, .int .i64 l.con.b.hi, .int .i64 l.con.c.lo, .int .i64 l.con.c.hi, .int .i64 l.cost]
def Pile.cells (l : Pile) : List Value := [.int .i64 l.mass, .int .i64 l.con.a.lo, .int .i64 l.con.a.hi, .int .i64 l.con.b.lo, .int .i64 l.con.b.hi, .int .i64 l.con.c.lo, .int .i64 l.con.c.hi]
def isLotB (l : Lot) : Bool := withinB l.count 0 1000 && withinB l.mass 1 1000000 && areBoundsB l.con && withinB l.cost 0 1000000

set_option maxHeartbeats 400000 in
theorem isLot_c (l : Lot) (w : World) :
    Calls Try.prog 53 #[.agg #[.int .i64 l.count, .int .i64 l.mass, .int .i64 l.con.a.lo, .int .i64 l.con.a.hi, .int .i64 l.con.b.lo, .int .i64 l.con.b.hi, .int .i64 l.con.c.lo, .int .i64 l.con.c.hi, .int .i64 l.cost]] w (Ret (.bool (isLotB l)) w) := by
  unfold isLotB
  go_enter Try.func53, Try.ntmps53
  go_upto_region 1 with (fail)
  refine wp_at (fun W => Ext w W ∧ w.heap.size + 1 = W.heap.size ∧ W.heap[w.heap.size]? = some (.cells #[.int .i64 l.count, .int .i64 l.mass, .int .i64 l.con.a.lo, .int .i64 l.con.a.hi, .int .i64 l.con.b.lo, .int .i64 l.con.b.hi, .int .i64 l.con.c.lo, .int .i64 l.con.c.hi, .int .i64 l.cost] 43 (0, 0))) ⟨by (repeat (with_reducible first | exact Ex.refl _ _ | assumption | refine Ex.alloc ?_ _ | refine Ex.drew ?_ | refine Ex.drewN ?_ _ | refine Ex.setCell ?_ (by first | (left; simp; done) | (right; simp; done) | (right; simp; omega)) _ | refine Ex.trans ?_ (by assumption))), by simp, blk_new _ _⟩ (fun W hW => ?_)
  obtain ⟨hr0, hsz, hB0⟩ := hW
  have hr : Ex [] W W := Ex.refl _ _
  have f0_0 := cellE (S := []) hB0 (by simp) 0 rfl
  have f0_1 := cellE (S := []) hB0 (by simp) 1 rfl
  have f0_2 := cellE (S := []) hB0 (by simp) 2 rfl
  have f0_3 := cellE (S := []) hB0 (by simp) 3 rfl
  have f0_4 := cellE (S := []) hB0 (by simp) 4 rfl
  have f0_5 := cellE (S := []) hB0 (by simp) 5 rfl
  have f0_6 := cellE (S := []) hB0 (by simp) 6 rfl
  have f0_7 := cellE (S := []) hB0 (by simp) 7 rfl
  have f0_8 := cellE (S := []) hB0 (by simp) 8 rfl
  clear hB0
  have hsz' := Nat.le_of_eq hsz.symm; have hsz'' := Nat.le_of_eq hsz; clear hsz
  go_wp2_with (first | (go_at_call 88; refine (within_c _ _ _ _).mono ?_; rintro e w1 ⟨rfl, h1⟩; replace h1 : Ex [] W w1 := Ex.trans (by first | (with_reducible assumption) | (repeat (with_reducible first | exact Ex.refl _ _ | assumption | refine Ex.alloc ?_ _ | refine Ex.drew ?_ | refine Ex.drewN ?_ _ | refine Ex.setCell ?_ (by first | (left; simp; done) | (right; simp; done) | (right; simp; omega)) _ | refine Ex.trans ?_ (by assumption)))) (h1.ex _)) | (go_at_call 55; refine (areBounds_c l.con _).mono ?_; rintro e w1 ⟨rfl, h1⟩; replace h1 : Ex [] W w1 := Ex.trans (by first | (with_reducible assumption) | (repeat (with_reducible first | exact Ex.refl _ _ | assumption | refine Ex.alloc ?_ _ | refine Ex.drew ?_ | refine Ex.drewN ?_ _ | refine Ex.setCell ?_ (by first | (left; simp; done) | (right; simp; done) | (right; simp; omega)) _ | refine Ex.trans ?_ (by assumption)))) (h1.ex _)))
  all_goals go_returns
  all_goals (refine ⟨?_, by (repeat (with_reducible first | exact Ex.refl _ _ | assumption | exact Ex.trans hr0 (by assumption) | refine Ex.alloc ?_ _ | refine Ex.drew ?_ | refine Ex.drewN ?_ _ | refine Ex.setCell ?_ (by first | (left; simp; done) | (right; simp; done) | (right; simp; omega)) _ | refine Ex.trans ?_ (by assumption)))⟩; simp [*])

set_option maxHeartbeats 400000 in
theorem check1_c (l : Lot) (w : World) :
    Calls Try.prog 52 #[.agg #[.int .i64 l.count, .int .i64 l.mass, .int .i64 l.con.a.lo, .int .i64 l.con.a.hi, .int .i64 l.con.b.lo, .int .i64 l.con.b.hi, .int .i64 l.con.c.lo, .int .i64 l.con.c.hi, .int .i64 l.cost]] w (Ret (.bool (!isLotB l)) w) := by
  go_enter Try.func52, Try.ntmps52
  go_upto_region 1 with (fail)
  refine wp_at (fun W => Ext w W ∧ w.heap.size + 1 = W.heap.size ∧ W.heap[w.heap.size]? = some (.cells #[.int .i64 l.count, .int .i64 l.mass, .int .i64 l.con.a.lo, .int .i64 l.con.a.hi, .int .i64 l.con.b.lo, .int .i64 l.con.b.hi, .int .i64 l.con.c.lo, .int .i64 l.con.c.hi, .int .i64 l.cost] 43 (0, 0))) ⟨by (repeat (with_reducible first | exact Ex.refl _ _ | assumption | refine Ex.alloc ?_ _ | refine Ex.drew ?_ | refine Ex.drewN ?_ _ | refine Ex.setCell ?_ (by first | (left; simp; done) | (right; simp; done) | (right; simp; omega)) _ | refine Ex.trans ?_ (by assumption))), by simp, blk_new _ _⟩ (fun W hW => ?_)
  obtain ⟨hr0, hsz, hB0⟩ := hW
  have hr : Ex [] W W := Ex.refl _ _
  have f0_0 := cellE (S := []) hB0 (by simp) 0 rfl
  have f0_1 := cellE (S := []) hB0 (by simp) 1 rfl
  have f0_2 := cellE (S := []) hB0 (by simp) 2 rfl
  have f0_3 := cellE (S := []) hB0 (by simp) 3 rfl
  have f0_4 := cellE (S := []) hB0 (by simp) 4 rfl
  have f0_5 := cellE (S := []) hB0 (by simp) 5 rfl
  have f0_6 := cellE (S := []) hB0 (by simp) 6 rfl
  have f0_7 := cellE (S := []) hB0 (by simp) 7 rfl
  have f0_8 := cellE (S := []) hB0 (by simp) 8 rfl
  clear hB0
  have hsz' := Nat.le_of_eq hsz.symm; have hsz'' := Nat.le_of_eq hsz; clear hsz
  go_wp2_with (first | (go_at_call 53; refine (isLot_c l _).mono ?_; rintro e w1 ⟨rfl, h1⟩; replace h1 : Ex [] W w1 := Ex.trans (by first | (with_reducible assumption) | (repeat (with_reducible first | exact Ex.refl _ _ | assumption | refine Ex.alloc ?_ _ | refine Ex.drew ?_ | refine Ex.drewN ?_ _ | refine Ex.setCell ?_ (by first | (left; simp; done) | (right; simp; done) | (right; simp; omega)) _ | refine Ex.trans ?_ (by assumption)))) (h1.ex _)))
  go_returns
  exact ⟨rfl, by (repeat (with_reducible first | exact Ex.refl _ _ | assumption | exact Ex.trans hr0 (by assumption) | refine Ex.alloc ?_ _ | refine Ex.drew ?_ | refine Ex.drewN ?_ _ | refine Ex.setCell ?_ (by first | (left; simp; done) | (right; simp; done) | (right; simp; omega)) _ | refine Ex.trans ?_ (by assumption)))⟩

set_option maxHeartbeats 1000000 in
theorem indexFuncL_c (p : Lot → Bool) (g : Nat) (cap0 : Array Value) (a : Option Addr) (cap : Nat) (xs : List Lot) (w : World) (hs : Sl 9 Lot.cells w a cap xs)
    (hg : ∀ x : Lot, x ∈ xs → ∀ w', Ext w w' → Calls Try.prog g (#[.agg #[.int .i64 x.count, .int .i64 x.mass, .int .i64 x.con.a.lo, .int .i64 x.con.a.hi, .int .i64 x.con.b.lo, .int .i64 x.con.b.hi, .int .i64 x.con.c.lo, .int .i64 x.con.c.hi, .int .i64 x.cost]] ++ cap0) w' (Ret (.bool (p x)) w'))
    (hgo : ∀ w x, (callFunc g (#[x] ++ cap0)).run Try.prog w = .ok (.enter g (#[x] ++ cap0)) w) :
    Calls Try.prog 87 #[.slice a xs.length cap, .func (.func g) #[] cap0] w (Ret (.int .i64 (idxOf p xs 0)) w) := by
  have hle := hs.le; have hb := hs.big
  have hg' := Lib.hid hg; clear hg
  go_enter Try.func87, Try.ntmps87
  go_wp2_with fail
  go_loopw [8] (fun i wr => ∃ k : Nat, k ≤ xs.length ∧ i = .int .i64 k ∧ Ext w wr ∧ idxOf p xs 0 = idxOf p (xs.drop k) k) (fun i _ => xs.length - (intOf i).toNat)
  case atStart => exact ⟨0, by omega, rfl, Ex.refl _ _, rfl⟩
  case round =>
    obtain ⟨k, hk, rfl, hE, hi⟩ := hrel
    have hi' := Lib.hid hi; clear hi
    by_cases hlt : k < xs.length
    · obtain ⟨b, off, rfl, hbw, hc⟩ := hs.cells (by omega)
      have c0 := hE.cell (by simp) (hc k (by omega) 0 _ rfl)
      rw [Nat.add_zero] at c0
      have c1 := hE.cell (by simp) (hc k (by omega) 1 _ rfl)
      have c2 := hE.cell (by simp) (hc k (by omega) 2 _ rfl)
      have c3 := hE.cell (by simp) (hc k (by omega) 3 _ rfl)
      have c4 := hE.cell (by simp) (hc k (by omega) 4 _ rfl)
      have c5 := hE.cell (by simp) (hc k (by omega) 5 _ rfl)
      have c6 := hE.cell (by simp) (hc k (by omega) 6 _ rfl)
      have c7 := hE.cell (by simp) (hc k (by omega) 7 _ rfl)
      have c8 := hE.cell (by simp) (hc k (by omega) 8 _ rfl)
      clear hc
      cases hp : p xs[k]
      all_goals
        have hp' := Lib.hid hp; clear hp
        go_wp2_with fail
        refine (hg'.out xs[k] (List.getElem_mem _) _ hE).mono ?_
        rintro e w1 ⟨rfl, hE1⟩
        rw [hp'.out]
        go_wp2_with fail
      · go_roundw
        case rel => exact ⟨k + 1, by omega, by go_num, hE.trans hE1, by rw [hi'.out, idxOf_drop p xs k hlt, hp'.out]; rfl⟩
        case measure => simp [intOf]; omega
      · go_ret
        exact ⟨by rw [hi'.out, idxOf_drop p xs k hlt, hp'.out]; rfl, hE.trans hE1⟩
    · go_wp2_with fail
      go_ret
      exact ⟨by rw [hi'.out, idxOf_end p xs k hlt]; rfl, hE⟩

set_option maxHeartbeats 400000 in
theorem containsFuncL_c (p : Lot → Bool) (g : Nat) (cap0 : Array Value) (a : Option Addr) (cap : Nat) (xs : List Lot) (w : World) (hs : Sl 9 Lot.cells w a cap xs)
    (hg : ∀ x : Lot, x ∈ xs → ∀ w', Ext w w' → Calls Try.prog g (#[.agg #[.int .i64 x.count, .int .i64 x.mass, .int .i64 x.con.a.lo, .int .i64 x.con.a.hi, .int .i64 x.con.b.lo, .int .i64 x.con.b.hi, .int .i64 x.con.c.lo, .int .i64 x.con.c.hi, .int .i64 x.cost]] ++ cap0) w' (Ret (.bool (p x)) w'))
    (hgo : ∀ w x, (callFunc g (#[x] ++ cap0)).run Try.prog w = .ok (.enter g (#[x] ++ cap0)) w) :
    Calls Try.prog 51 #[.slice a xs.length cap, .func (.func g) #[] cap0] w (Ret (.bool (xs.any p)) w) := by
  have hg' := Lib.hid hg; clear hg
  go_enter Try.func51, Try.ntmps51
  go_wp2_with fail
  refine (indexFuncL_c p g cap0 a cap xs _ hs hg'.out hgo).mono ?_
  rintro e w1 ⟨rfl, hE1⟩
  go_wp2_with fail
  go_ret
  exact ⟨by rw [← idxOf_neg p xs 0]; rfl, hE1⟩

set_option maxHeartbeats 1000000 in
theorem indexFuncI_c (p : Int → Bool) (g : Nat) (cap0 : Array Value) (a : Option Addr) (cap : Nat) (xs : List Int) (w : World) (hs : Sl 1 intCells w a cap xs)
    (hg : ∀ x : Int, x ∈ xs → ∀ w', Ext w w' → Calls Try.prog g (#[.int .i64 x] ++ cap0) w' (Ret (.bool (p x)) w'))
    (hgo : ∀ w x, (callFunc g (#[x] ++ cap0)).run Try.prog w = .ok (.enter g (#[x] ++ cap0)) w) :
    Calls Try.prog 91 #[.slice a xs.length cap, .func (.func g) #[] cap0] w (Ret (.int .i64 (idxOf p xs 0)) w) := by
  have hle := hs.le; have hb := hs.big
  have hg' := Lib.hid hg; clear hg
  go_enter Try.func91, Try.ntmps91
  go_wp2_with fail
  go_loopw [8] (fun i wr => ∃ k : Nat, k ≤ xs.length ∧ i = .int .i64 k ∧ Ext w wr ∧ idxOf p xs 0 = idxOf p (xs.drop k) k) (fun i _ => xs.length - (intOf i).toNat)
  case atStart => exact ⟨0, by omega, rfl, Ex.refl _ _, rfl⟩
  case round =>
    obtain ⟨k, hk, rfl, hE, hi⟩ := hrel
    have hi' := Lib.hid hi; clear hi
    by_cases hlt : k < xs.length
    · obtain ⟨b, off, rfl, hbw, hc⟩ := hs.cells (by omega)
      have c0 := hE.cell (by simp) (hc k (by omega) 0 _ rfl)
      rw [Nat.add_zero] at c0
      rw [Nat.mul_one] at c0
      clear hc
      cases hp : p xs[k]
      all_goals
        have hp' := Lib.hid hp; clear hp
        go_wp2_with fail
        refine (hg'.out xs[k] (List.getElem_mem _) _ hE).mono ?_
        rintro e w1 ⟨rfl, hE1⟩
        rw [hp'.out]
        go_wp2_with fail
      · go_roundw
        case rel => exact ⟨k + 1, by omega, by go_num, hE.trans hE1, by rw [hi'.out, idxOf_drop p xs k hlt, hp'.out]; rfl⟩
        case measure => simp [intOf]; omega
      · go_ret
        exact ⟨by rw [hi'.out, idxOf_drop p xs k hlt, hp'.out]; rfl, hE.trans hE1⟩
    · go_wp2_with fail
      go_ret
      exact ⟨by rw [hi'.out, idxOf_end p xs k hlt]; rfl, hE⟩
end Go.Proofs.Ytojnpaenpaobcaa
