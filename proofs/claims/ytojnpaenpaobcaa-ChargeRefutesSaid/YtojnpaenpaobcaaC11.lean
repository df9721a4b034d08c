/- Methods of a table. No condition. -/
import Derived.Test.YtojnpaenpaobcaaC10
namespace Go.Proofs.Ytojnpaenpaobcaa
open Go.RowKit

/-- Whether the product of all numbers of choices passes the limit; as the code reckons it. -/
def manyFrom : List Lot → Int → Bool
  | [], _ => false
  | l :: ls, n => let m := wrap64 (n * wrap64 (l.count + 1)); if 20000 < m then true else manyFrom ls m
theorem manyFrom_drop (lots : List Lot) (k : Nat) (n : Int) (h : k < lots.length) : manyFrom (lots.drop k) n = if 20000 < wrap64 (n * wrap64 ((nth lots .zero k).count + 1)) then true else manyFrom (lots.drop (k + 1)) (wrap64 (n * wrap64 ((nth lots .zero k).count + 1))) := by
  rw [List.drop_eq_getElem_cons h, manyFrom, nth_eq lots .zero k h]
theorem manyFrom_end (lots : List Lot) (k : Nat) (n : Int) (h : ¬ k < lots.length) : manyFrom (lots.drop k) n = false := by
  rw [List.drop_of_length_le (by omega), manyFrom]
def manyM (p : Recipe) : Bool := manyFrom p.lots 1

set_option maxHeartbeats 1000000 in
theorem many_c (p : Recipe) (a : Option Addr) (cap : Nat) (a2 : Option Addr) (n2 cap2 : Nat) (w : World) (hs : SlL w a cap p.lots) :
    Calls Try.prog 67 #[.agg #[.slice a p.lots.length cap, .int .i64 p.mass.lo, .int .i64 p.mass.hi, .int .i64 p.target.a.lo, .int .i64 p.target.a.hi, .int .i64 p.target.b.lo, .int .i64 p.target.b.hi, .int .i64 p.target.c.lo, .int .i64 p.target.c.hi, .slice a2 n2 cap2]] w (Ret (.bool (manyM p)) w) := by
  have hle := hs.le; have hb := hs.big
  go_enter Try.func67, Try.ntmps67
  go_upto_region 1 with (fail)
  refine wp_at (fun W => Ext w W ∧ w.heap.size + 1 = W.heap.size ∧ W.heap[w.heap.size]? = some (.cells #[.slice a p.lots.length cap, .int .i64 p.mass.lo, .int .i64 p.mass.hi, .int .i64 p.target.a.lo, .int .i64 p.target.a.hi, .int .i64 p.target.b.lo, .int .i64 p.target.b.hi, .int .i64 p.target.c.lo, .int .i64 p.target.c.hi, .slice a2 n2 cap2] 119 (0, 0))) ⟨by (repeat (with_reducible first | exact Ex.refl _ _ | assumption | refine Ex.alloc ?_ _ | refine Ex.drew ?_ | refine Ex.drewN ?_ _ | refine Ex.setCell ?_ (by first | (left; simp; done) | (right; simp; done) | (right; simp; omega)) _ | refine Ex.trans ?_ (by assumption))), by simp, blk_new _ _⟩ (fun W hW => ?_)
  obtain ⟨hr0, hsz, hB0⟩ := hW
  have hr : Ex [] W W := Ex.refl _ _
  have f0_0 := cellE (S := []) hB0 (by first | (simp; done) | (simp; omega)) 0 rfl
  have f0_1 := cellE (S := []) hB0 (by first | (simp; done) | (simp; omega)) 1 rfl
  have f0_2 := cellE (S := []) hB0 (by first | (simp; done) | (simp; omega)) 2 rfl
  have f0_3 := cellE (S := []) hB0 (by first | (simp; done) | (simp; omega)) 3 rfl
  have f0_4 := cellE (S := []) hB0 (by first | (simp; done) | (simp; omega)) 4 rfl
  have f0_5 := cellE (S := []) hB0 (by first | (simp; done) | (simp; omega)) 5 rfl
  have f0_6 := cellE (S := []) hB0 (by first | (simp; done) | (simp; omega)) 6 rfl
  have f0_7 := cellE (S := []) hB0 (by first | (simp; done) | (simp; omega)) 7 rfl
  have f0_8 := cellE (S := []) hB0 (by first | (simp; done) | (simp; omega)) 8 rfl
  have f0_9 := cellE (S := []) hB0 (by first | (simp; done) | (simp; omega)) 9 rfl
  clear hB0
  have hsz' := Nat.le_of_eq hsz.symm; have hsz'' := Nat.le_of_eq hsz; clear hsz
  go_wp2_with fail
  go_loopg [3, 10] (p.lots.length) (fun g n i wr => ∃ (k : Nat) (m : Int), g = p.lots.length - k ∧ k ≤ p.lots.length ∧ n = .int .i64 m ∧ i = .int .i64 k ∧ Ext W wr ∧ manyM p = manyFrom (p.lots.drop k) m)
  case atStart => exact ⟨0, 1, rfl, by omega, rfl, rfl, Ex.refl _ _, rfl⟩
  case round =>
    obtain ⟨k, m, rfl, hk, rfl, rfl, hE, hi⟩ := hrel
    have hi' := Lib.hid hi; clear hi
    by_cases hlt : k < p.lots.length
    · obtain ⟨b2, off2, rfl, hbw2, hss⟩ := hs.cells (by omega)
      have d0 := (hr0.trans hE).cell (by simp) (hss k (by omega) 0 _ rfl)
      rw [Nat.add_zero, nth_eq p.lots .zero] at d0
      have d1 := (hr0.trans hE).cell (by simp) (hss k (by omega) 1 _ rfl)
      rw [nth_eq p.lots .zero] at d1
      have d2 := (hr0.trans hE).cell (by simp) (hss k (by omega) 2 _ rfl)
      rw [nth_eq p.lots .zero] at d2
      have d3 := (hr0.trans hE).cell (by simp) (hss k (by omega) 3 _ rfl)
      rw [nth_eq p.lots .zero] at d3
      have d4 := (hr0.trans hE).cell (by simp) (hss k (by omega) 4 _ rfl)
      rw [nth_eq p.lots .zero] at d4
      have d5 := (hr0.trans hE).cell (by simp) (hss k (by omega) 5 _ rfl)
      rw [nth_eq p.lots .zero] at d5
      have d6 := (hr0.trans hE).cell (by simp) (hss k (by omega) 6 _ rfl)
      rw [nth_eq p.lots .zero] at d6
      have d7 := (hr0.trans hE).cell (by simp) (hss k (by omega) 7 _ rfl)
      rw [nth_eq p.lots .zero] at d7
      have d8 := (hr0.trans hE).cell (by simp) (hss k (by omega) 8 _ rfl)
      rw [nth_eq p.lots .zero] at d8
      clear hss
      by_cases hm : 20000 < wrap64 (m * wrap64 ((nth p.lots .zero k).count + 1))
      · go_wp2_with fail
        go_returns
        exact ⟨by rw [hi'.out, manyFrom_drop p.lots k m hlt, if_pos hm]; rfl, hr0.trans (hE.alloc _)⟩
      · go_wp2_with fail
        go_roundg (p.lots.length - (k + 1))
        case rel => exact ⟨k + 1, _, rfl, by omega, rfl, by go_num, hE.alloc _, by rw [hi'.out, manyFrom_drop p.lots k m hlt, if_neg (by omega)]⟩
        case measure => omega
    · go_wp2_with fail
      go_returns
      exact ⟨by rw [hi'.out, manyFrom_end p.lots k m hlt]; rfl, hr0.trans hE⟩

/-- What the first k numbers of pieces cost; as the code reckons it. -/
def costTo (lots : List Lot) (counts : List Int) : Nat → Int
  | 0 => 0
  | k + 1 => wrap64 (costTo lots counts k + wrap64 (nth counts 0 k * (nth lots .zero k).cost))
def costM (lots : List Lot) (counts : List Int) : Int := costTo lots counts counts.length

set_option maxHeartbeats 1000000 in
theorem cost_c (p : Recipe) (a : Option Addr) (cap : Nat) (a2 : Option Addr) (n2 cap2 : Nat) (counts : List Int) (c : Option Addr) (cap' : Nat) (w : World) (hs : SlL w a cap p.lots) (hc : SlI w c cap' counts) (hn : counts.length ≤ p.lots.length) :
    Calls Try.prog 69 #[.agg #[.slice a p.lots.length cap, .int .i64 p.mass.lo, .int .i64 p.mass.hi, .int .i64 p.target.a.lo, .int .i64 p.target.a.hi, .int .i64 p.target.b.lo, .int .i64 p.target.b.hi, .int .i64 p.target.c.lo, .int .i64 p.target.c.hi, .slice a2 n2 cap2], .slice c counts.length cap'] w (Ret (.int .i64 (costM p.lots counts)) w) := by
  have hle := hs.le; have hb := hs.big; have hle' := hc.le; have hb' := hc.big
  go_enter Try.func69, Try.ntmps69
  go_upto_region 1 with (fail)
  refine wp_at (fun W => Ext w W ∧ w.heap.size + 1 = W.heap.size ∧ W.heap[w.heap.size]? = some (.cells #[.slice a p.lots.length cap, .int .i64 p.mass.lo, .int .i64 p.mass.hi, .int .i64 p.target.a.lo, .int .i64 p.target.a.hi, .int .i64 p.target.b.lo, .int .i64 p.target.b.hi, .int .i64 p.target.c.lo, .int .i64 p.target.c.hi, .slice a2 n2 cap2] 119 (0, 0))) ⟨by (repeat (with_reducible first | exact Ex.refl _ _ | assumption | refine Ex.alloc ?_ _ | refine Ex.drew ?_ | refine Ex.drewN ?_ _ | refine Ex.setCell ?_ (by first | (left; simp; done) | (right; simp; done) | (right; simp; omega)) _ | refine Ex.trans ?_ (by assumption))), by simp, blk_new _ _⟩ (fun W hW => ?_)
  obtain ⟨hr0, hsz, hB0⟩ := hW
  have hr : Ex [] W W := Ex.refl _ _
  have f0_0 := cellE (S := []) hB0 (by first | (simp; done) | (simp; omega)) 0 rfl
  have f0_1 := cellE (S := []) hB0 (by first | (simp; done) | (simp; omega)) 1 rfl
  have f0_2 := cellE (S := []) hB0 (by first | (simp; done) | (simp; omega)) 2 rfl
  have f0_3 := cellE (S := []) hB0 (by first | (simp; done) | (simp; omega)) 3 rfl
  have f0_4 := cellE (S := []) hB0 (by first | (simp; done) | (simp; omega)) 4 rfl
  have f0_5 := cellE (S := []) hB0 (by first | (simp; done) | (simp; omega)) 5 rfl
  have f0_6 := cellE (S := []) hB0 (by first | (simp; done) | (simp; omega)) 6 rfl
  have f0_7 := cellE (S := []) hB0 (by first | (simp; done) | (simp; omega)) 7 rfl
  have f0_8 := cellE (S := []) hB0 (by first | (simp; done) | (simp; omega)) 8 rfl
  have f0_9 := cellE (S := []) hB0 (by first | (simp; done) | (simp; omega)) 9 rfl
  clear hB0
  have hsz' := Nat.le_of_eq hsz.symm; have hsz'' := Nat.le_of_eq hsz; clear hsz
  go_wp2_with fail
  go_loopg [4, 9] (counts.length) (fun g n i wr => ∃ (k : Nat), g = counts.length - k ∧ k ≤ counts.length ∧ n = .int .i64 (costTo p.lots counts k) ∧ i = .int .i64 k ∧ Ext W wr)
  case atStart => exact ⟨0, rfl, by omega, rfl, rfl, Ex.refl _ _⟩
  case round =>
    obtain ⟨k, rfl, hk, rfl, rfl, hE⟩ := hrel
    by_cases hlt : k < counts.length
    · obtain ⟨b, off, rfl, hbw, hcc⟩ := hc.cells (by omega)
      have c0 := (hr0.trans hE).cell (by simp) (hcc k (by omega) 0 _ rfl)
      rw [Nat.add_zero, Nat.mul_one, nth_eq counts 0] at c0
      clear hcc
      obtain ⟨b2, off2, rfl, hbw2, hss⟩ := hs.cells (by omega)
      have d8 := (hr0.trans hE).cell (by simp) (hss k (by omega) 8 _ rfl)
      rw [nth_eq p.lots .zero] at d8
      clear hss
      go_wp2_with fail
      go_roundg (counts.length - (k + 1))
      case rel => exact ⟨k + 1, rfl, by omega, rfl, by go_num, hE⟩
      case measure => omega
    · go_wp2_with fail
      go_returns
      exact ⟨by unfold costM; rw [show k = counts.length from by omega]; rfl, hr0.trans hE⟩

theorem eiInt : EI Try.prog 29 3 1 8 := EI.mk' (z := .int .i64 0) (by kernel_rfl) (by kernel_rfl) (by rfl) (by omega)
theorem intCells_len (n : Int) : (intCells n).length = 1 := rfl
theorem intCells_one (n : Int) : ∀ u ∈ intCells n, u.oneCell' = true := by simp [intCells, Value.oneCell']
end Go.Proofs.Ytojnpaenpaobcaa
