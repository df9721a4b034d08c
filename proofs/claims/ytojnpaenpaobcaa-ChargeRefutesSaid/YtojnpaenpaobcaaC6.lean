/- Charges are weighed. No condition. -/
import Derived.Test.YtojnpaenpaobcaaC5
import Derived.Test.YtojnpaenpaobcaaB2
namespace Go.Proofs.Ytojnpaenpaobcaa
open Go.RowKit

/-- The pile of the first k numbers of pieces. -/
def weighTo (lots : List Lot) (counts : List Int) : Nat → Pile
  | 0 => .zero
  | k + 1 => addPile (weighTo lots counts k) (nth lots .zero k) (nth counts 0 k)
def weighM (lots : List Lot) (counts : List Int) : Pile := weighTo lots counts counts.length

set_option maxHeartbeats 1000000 in
theorem weigh_c (p : Recipe) (counts : List Int) (a c : Option Addr) (cap cap' : Nat) (w : World) (hs : SlL w a cap p.lots) (hc : SlI w c cap' counts) (hn : counts.length ≤ p.lots.length) :
    Calls Try.prog 57 #[.agg #[.slice a p.lots.length cap, .int .i64 p.mass.lo, .int .i64 p.mass.hi, .int .i64 p.target.a.lo, .int .i64 p.target.a.hi, .int .i64 p.target.b.lo, .int .i64 p.target.b.hi, .int .i64 p.target.c.lo, .int .i64 p.target.c.hi], .slice c counts.length cap'] w (Ret (.agg #[.int .i64 ((weighM p.lots counts).mass), .int .i64 ((weighM p.lots counts).con.a.lo), .int .i64 ((weighM p.lots counts).con.a.hi), .int .i64 ((weighM p.lots counts).con.b.lo), .int .i64 ((weighM p.lots counts).con.b.hi), .int .i64 ((weighM p.lots counts).con.c.lo), .int .i64 ((weighM p.lots counts).con.c.hi)]) w) := by
  have hle := hs.le; have hb := hs.big; have hle' := hc.le; have hb' := hc.big
  go_enter Try.func57, Try.ntmps57
  go_upto_region 1 with (fail)
  refine wp_at (fun W => Ext w W ∧ w.heap.size + 2 = W.heap.size ∧ W.heap[w.heap.size]? = some (.cells #[.slice a p.lots.length cap, .int .i64 p.mass.lo, .int .i64 p.mass.hi, .int .i64 p.target.a.lo, .int .i64 p.target.a.hi, .int .i64 p.target.b.lo, .int .i64 p.target.b.hi, .int .i64 p.target.c.lo, .int .i64 p.target.c.hi] 28 (0, 0)) ∧ W.heap[w.heap.size + 1]? = some (.cells #[.int .i64 0, .int .i64 0, .int .i64 0, .int .i64 0, .int .i64 0, .int .i64 0, .int .i64 0] 36 (0, 0))) ⟨by (repeat (with_reducible first | exact Ex.refl _ _ | assumption | refine Ex.alloc ?_ _ | refine Ex.drew ?_ | refine Ex.drewN ?_ _ | refine Ex.setCell ?_ (by first | (left; simp; done) | (right; simp; done) | (right; simp; omega)) _ | refine Ex.trans ?_ (by assumption))), by simp, blk_alloc (blk_new _ _), by have h := blk_new ((w).alloc (.cells #[.slice a p.lots.length cap, .int .i64 p.mass.lo, .int .i64 p.mass.hi, .int .i64 p.target.a.lo, .int .i64 p.target.a.hi, .int .i64 p.target.b.lo, .int .i64 p.target.b.hi, .int .i64 p.target.c.lo, .int .i64 p.target.c.hi] 28 (0, 0))) (.cells #[.int .i64 0, .int .i64 0, .int .i64 0, .int .i64 0, .int .i64 0, .int .i64 0, .int .i64 0] 36 (0, 0)); simpa using h⟩ (fun W hW => ?_)
  obtain ⟨hr0, hsz, hB0, hB1⟩ := hW
  have hr : Ex [w.heap.size + 1] W W := Ex.refl _ _
  have f0_0 := cellE (S := [w.heap.size + 1]) hB0 (by simp) 0 rfl
  have f0_1 := cellE (S := [w.heap.size + 1]) hB0 (by simp) 1 rfl
  have f0_2 := cellE (S := [w.heap.size + 1]) hB0 (by simp) 2 rfl
  have f0_3 := cellE (S := [w.heap.size + 1]) hB0 (by simp) 3 rfl
  have f0_4 := cellE (S := [w.heap.size + 1]) hB0 (by simp) 4 rfl
  have f0_5 := cellE (S := [w.heap.size + 1]) hB0 (by simp) 5 rfl
  have f0_6 := cellE (S := [w.heap.size + 1]) hB0 (by simp) 6 rfl
  have f0_7 := cellE (S := [w.heap.size + 1]) hB0 (by simp) 7 rfl
  have f0_8 := cellE (S := [w.heap.size + 1]) hB0 (by simp) 8 rfl
  clear hB0
  have hsz' := Nat.le_of_eq hsz.symm; have hsz'' := Nat.le_of_eq hsz; clear hsz
  have hB1' := Lib.hid hB1; clear hB1
  go_wp2_with fail
  go_loopg [9] (counts.length) (fun g i wr => ∃ k : Nat, g = counts.length - k ∧ k ≤ counts.length ∧ i = .int .i64 k ∧ Ex [w.heap.size + 1] W wr ∧ wr.heap[w.heap.size + 1]? = some (.cells #[.int .i64 ((weighTo p.lots counts k).mass), .int .i64 ((weighTo p.lots counts k).con.a.lo), .int .i64 ((weighTo p.lots counts k).con.a.hi), .int .i64 ((weighTo p.lots counts k).con.b.lo), .int .i64 ((weighTo p.lots counts k).con.b.hi), .int .i64 ((weighTo p.lots counts k).con.c.lo), .int .i64 ((weighTo p.lots counts k).con.c.hi)] 36 (0, 0)))
  case atStart => exact ⟨0, rfl, by omega, rfl, Ex.refl _ _, hB1'.out⟩
  case round =>
    obtain ⟨k, rfl, hk, rfl, hE, hO⟩ := hrel
    by_cases hlt : k < counts.length
    · obtain ⟨b, off, rfl, hbw, hcc⟩ := hc.cells (by omega)
      have c0 := hE.cell (by simp; omega) (hr0.cell (by simp) (hcc k (by omega) 0 _ rfl))
      rw [Nat.add_zero, Nat.mul_one, nth_eq counts 0] at c0
      clear hcc
      obtain ⟨b2, off2, rfl, hbw2, hss⟩ := hs.cells (by omega)
      have d0 := hE.cell (by simp; omega) (hr0.cell (by simp) (hss k (by omega) 0 _ rfl))
      rw [Nat.add_zero, nth_eq p.lots .zero] at d0
      have d1 := hE.cell (by simp; omega) (hr0.cell (by simp) (hss k (by omega) 1 _ rfl))
      rw [nth_eq p.lots .zero] at d1
      have d2 := hE.cell (by simp; omega) (hr0.cell (by simp) (hss k (by omega) 2 _ rfl))
      rw [nth_eq p.lots .zero] at d2
      have d3 := hE.cell (by simp; omega) (hr0.cell (by simp) (hss k (by omega) 3 _ rfl))
      rw [nth_eq p.lots .zero] at d3
      have d4 := hE.cell (by simp; omega) (hr0.cell (by simp) (hss k (by omega) 4 _ rfl))
      rw [nth_eq p.lots .zero] at d4
      have d5 := hE.cell (by simp; omega) (hr0.cell (by simp) (hss k (by omega) 5 _ rfl))
      rw [nth_eq p.lots .zero] at d5
      have d6 := hE.cell (by simp; omega) (hr0.cell (by simp) (hss k (by omega) 6 _ rfl))
      rw [nth_eq p.lots .zero] at d6
      have d7 := hE.cell (by simp; omega) (hr0.cell (by simp) (hss k (by omega) 7 _ rfl))
      rw [nth_eq p.lots .zero] at d7
      have d8 := hE.cell (by simp; omega) (hr0.cell (by simp) (hss k (by omega) 8 _ rfl))
      rw [nth_eq p.lots .zero] at d8
      clear hss
      have hO' := Lib.hid hO; clear hO
      go_wp2_with fail
      refine (put0_c (weighTo p.lots counts k) (nth p.lots .zero k) (nth counts 0 k) _ _ _ hO'.out).mono ?_
      rintro e w1 ⟨rfl, h1, hO1⟩
      have hO1' := Lib.hid hO1; clear hO1
      go_wp2_with fail
      go_roundg (counts.length - (k + 1))
      case rel => exact ⟨k + 1, rfl, by omega, by go_num, hE.trans h1, hO1'.out⟩
      case measure => omega
    · have hO2 : wr.heap[w.heap.size + 1]? = some (.cells #[.int .i64 ((weighM p.lots counts).mass), .int .i64 ((weighM p.lots counts).con.a.lo), .int .i64 ((weighM p.lots counts).con.a.hi), .int .i64 ((weighM p.lots counts).con.b.lo), .int .i64 ((weighM p.lots counts).con.b.hi), .int .i64 ((weighM p.lots counts).con.c.lo), .int .i64 ((weighM p.lots counts).con.c.hi)] 36 (0, 0)) := by unfold weighM; rw [← show k = counts.length from by omega]; exact hO
      have e0 := blk_cell (v := .int .i64 ((weighM p.lots counts).mass)) hO2 0 rfl
      have z0 := blk_free hO2 0
      have s0 := setCell_self e0
      have e1 := blk_cell (v := .int .i64 ((weighM p.lots counts).con.a.lo)) hO2 1 rfl
      have z1 := blk_free hO2 1
      have s1 := setCell_self e1
      have e2 := blk_cell (v := .int .i64 ((weighM p.lots counts).con.a.hi)) hO2 2 rfl
      have z2 := blk_free hO2 2
      have s2 := setCell_self e2
      have e3 := blk_cell (v := .int .i64 ((weighM p.lots counts).con.b.lo)) hO2 3 rfl
      have z3 := blk_free hO2 3
      have s3 := setCell_self e3
      have e4 := blk_cell (v := .int .i64 ((weighM p.lots counts).con.b.hi)) hO2 4 rfl
      have z4 := blk_free hO2 4
      have s4 := setCell_self e4
      have e5 := blk_cell (v := .int .i64 ((weighM p.lots counts).con.c.lo)) hO2 5 rfl
      have z5 := blk_free hO2 5
      have s5 := setCell_self e5
      have e6 := blk_cell (v := .int .i64 ((weighM p.lots counts).con.c.hi)) hO2 6 rfl
      have z6 := blk_free hO2 6
      have s6 := setCell_self e6
      clear hO hO2
      go_wp2_with fail
      (try simp only [Exit.inBlock, Exit.then])
      refine bodyPost_ret (v := .agg #[.int .i64 ((weighM p.lots counts).mass), .int .i64 ((weighM p.lots counts).con.a.lo), .int .i64 ((weighM p.lots counts).con.a.hi), .int .i64 ((weighM p.lots counts).con.b.lo), .int .i64 ((weighM p.lots counts).con.b.hi), .int .i64 ((weighM p.lots counts).con.c.lo), .int .i64 ((weighM p.lots counts).con.c.hi)]) (by simp [results, Try.results57, go_sem, e0, e1, e2, e3, e4, e5, e6]) rfl ⟨rfl, ?_⟩
      skip
      have h9 : Ex [w.heap.size + 1] w wr := (hr0.ex _).trans hE
      have h8 := h9.fresh (T := []) (by simp)
      exact h8
end Go.Proofs.Ytojnpaenpaobcaa
