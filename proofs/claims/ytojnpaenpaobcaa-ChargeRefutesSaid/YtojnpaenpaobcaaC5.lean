/- Charges. No condition. -/
import Derived.Test.YtojnpaenpaobcaaC4
namespace Go.Proofs.Ytojnpaenpaobcaa
open Go.RowKit

def Rng.zero : Rng := ⟨0, 0⟩
def Bnds.zero : Bnds := ⟨.zero, .zero, .zero⟩
def Pile.zero : Pile := ⟨0, .zero⟩
def Lot.zero : Lot := ⟨0, 0, .zero, 0⟩
/-- The first k numbers are numbers of pieces of their lots. -/
def okTo (lots : List Lot) (counts : List Int) : Nat → Bool
  | 0 => true
  | k + 1 => okTo lots counts k && decide (k < lots.length) && withinB (nth counts 0 k) 0 (nth lots .zero k).count
def isChargeB (lots : List Lot) (counts : List Int) : Bool := okTo lots counts counts.length && decide (counts.length = lots.length)
theorem okTo_mono (lots : List Lot) (counts : List Int) {k n : Nat} (h : k ≤ n) (hn : okTo lots counts n = true) : okTo lots counts k = true := by
  induction n with
  | zero => rw [show k = 0 from by omega]; exact hn
  | succ n ih =>
    by_cases e : k = n + 1
    · subst e; exact hn
    · simp only [okTo, Bool.and_eq_true] at hn
      exact ih (by omega) hn.1.1
theorem isCharge_no (lots : List Lot) (counts : List Int) {k : Nat} (h : k ≤ counts.length) (hn : okTo lots counts k = false) : isChargeB lots counts = false := by
  cases hc : okTo lots counts counts.length
  · simp [isChargeB, hc]
  · rw [okTo_mono lots counts h hc] at hn; cases hn

set_option maxHeartbeats 1000000 in
theorem isCharge_c (p : Recipe) (counts : List Int) (a c : Option Addr) (cap cap' : Nat) (w : World) (hs : SlL w a cap p.lots) (hc : SlI w c cap' counts) :
    Calls Try.prog 56 #[.agg #[.slice a p.lots.length cap, .int .i64 p.mass.lo, .int .i64 p.mass.hi, .int .i64 p.target.a.lo, .int .i64 p.target.a.hi, .int .i64 p.target.b.lo, .int .i64 p.target.b.hi, .int .i64 p.target.c.lo, .int .i64 p.target.c.hi], .slice c counts.length cap'] w (Ret (.bool (isChargeB p.lots counts)) w) := by
  have hle := hs.le; have hb := hs.big; have hle' := hc.le; have hb' := hc.big
  go_enter Try.func56, Try.ntmps56
  go_upto_region 1 with (fail)
  refine wp_at (fun W => Ext w W ∧ w.heap.size + 1 = W.heap.size ∧ W.heap[w.heap.size]? = some (.cells #[.slice a p.lots.length cap, .int .i64 p.mass.lo, .int .i64 p.mass.hi, .int .i64 p.target.a.lo, .int .i64 p.target.a.hi, .int .i64 p.target.b.lo, .int .i64 p.target.b.hi, .int .i64 p.target.c.lo, .int .i64 p.target.c.hi] 28 (0, 0))) ⟨by (repeat (with_reducible first | exact Ex.refl _ _ | assumption | refine Ex.alloc ?_ _ | refine Ex.drew ?_ | refine Ex.drewN ?_ _ | refine Ex.setCell ?_ (by first | (left; simp; done) | (right; simp; done) | (right; simp; omega)) _ | refine Ex.trans ?_ (by assumption))), by simp, blk_new _ _⟩ (fun W hW => ?_)
  obtain ⟨hr0, hsz, hB0⟩ := hW
  have hr : Ex [] W W := Ex.refl _ _
  have f0_0 := cellE (S := []) hB0 (by simp) 0 rfl
  have f0_1 := cellE (S := []) hB0 (by simp) 1 rfl
  have f0_2 := cellE (S := []) hB0 (by simp) 2 rfl
  have f0_3 := cellE (S := []) hB0 (by simp) 3 rfl
  have f0_4 := cellE (S := []) hB0 (by simp) 4 rfl
  have f0_5 := cellE (S := []) hB0 (by simp) 5 rfl
  have f0_6 := cellE (S := []) hB0 (by simp) 6 rfl
  have f0_7 := cellE (S := []) hB0 (by simp) 7 rfl
  have f0_8 := cellE (S := []) hB0 (by simp) 8 rfl
  clear hB0
  have hsz' := Nat.le_of_eq hsz.symm; have hsz'' := Nat.le_of_eq hsz; clear hsz
  go_wp2_with fail
  go_loopg [9] (counts.length) (fun g i wr => ∃ k : Nat, g = counts.length - k ∧ k ≤ counts.length ∧ i = .int .i64 k ∧ Ext W wr ∧ okTo p.lots counts k = true)
  case atStart => exact ⟨0, rfl, by omega, rfl, Ex.refl _ _, rfl⟩
  case round =>
    obtain ⟨k, rfl, hk, rfl, hE, hi⟩ := hrel
    have hi' := Lib.hid hi; clear hi
    by_cases hlt : k < counts.length
    · obtain ⟨b, off, rfl, hbw, hcc⟩ := hc.cells (by omega)
      have c0 := (hr0.trans hE).cell (by simp) (hcc k (by omega) 0 _ rfl)
      rw [Nat.add_zero, Nat.mul_one, nth_eq counts 0] at c0
      clear hcc
      by_cases hlo : k < p.lots.length
      · obtain ⟨b2, off2, rfl, hbw2, hss⟩ := hs.cells (by omega)
        have d0 := (hr0.trans hE).cell (by simp) (hss k (by omega) 0 _ rfl)
        rw [Nat.add_zero, nth_eq p.lots .zero] at d0
        clear hss
        cases hp : withinB (nth counts 0 k) 0 (nth p.lots .zero k).count
        all_goals
          go_wp2_with (go_at_call 88; refine (within_c _ _ _ _).mono ?_; rintro e w1 ⟨rfl, h1⟩)
        · go_ret
          exact ⟨by rw [isCharge_no p.lots counts (k := k + 1) (by omega) (by simp only [okTo, hp, Bool.and_false])]; rfl, hr0.trans (hE.trans h1)⟩
        · go_roundg (counts.length - (k + 1))
          case rel => exact ⟨k + 1, rfl, by omega, by go_num, hE.trans h1, by simp [okTo, hi'.out, hlo, hp]⟩
          case measure => omega
      · go_wp2_with fail
        go_ret
        exact ⟨by rw [isCharge_no p.lots counts (k := k + 1) (by omega) (by simp [okTo, hlo])]; rfl, hr0.trans hE⟩
    · go_wp2_with fail
      go_ret
      have hi := hi'.out
      rw [show k = counts.length from by omega] at hi
      refine ⟨?_, hr0.trans hE⟩
      simp only [isChargeB, hi, Bool.true_and]
      refine congrArg (fun b => Ending.returned (Value.bool b)) ?_
      rw [Bool.eq_iff_iff]
      simp
      try omega
end Go.Proofs.Ytojnpaenpaobcaa
