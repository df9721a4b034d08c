/- The reference: Weigh. No condition. -/
import Derived.Test.YtojnpaenpaobcaaD2
import Derived.Test.YtojnpaenpaobcaaC6
import Derived.Test.YtojnpaenpaobcaaB3
namespace Go.Proofs.Ytojnpaenpaobcaa
open Go.RowKit
attribute [local irreducible] wpYield wpPlan

set_option maxRecDepth 100000 in
set_option maxHeartbeats 16000000 in
theorem refWeigh_c (lots : List Lot) (counts : List Int) (a c : Option Addr) (cap cap' : Nat) (w : World) (hs : SlL w a cap lots) (hc : SlI w c cap' counts) (hn : counts.length ≤ lots.length) :
    Calls Try.prog 21 #[.slice a lots.length cap, .slice c counts.length cap'] w (Ret (.agg #[.int .i64 ((weighM lots counts).mass), .int .i64 ((weighM lots counts).con.a.lo), .int .i64 ((weighM lots counts).con.a.hi), .int .i64 ((weighM lots counts).con.b.lo), .int .i64 ((weighM lots counts).con.b.hi), .int .i64 ((weighM lots counts).con.c.lo), .int .i64 ((weighM lots counts).con.c.hi)]) w) := by
  have hle := hs.le; have hb := hs.big; have hle' := hc.le; have hb' := hc.big
  go_enter Try.func21, Try.ntmps21
  go_upto_region 2 with fail
  refine wp_at (fun W => Ext w W ∧ w.heap.size + 2 = W.heap.size ∧ W.heap[w.heap.size]? = some (.cells #[.int .i64 0, .int .i64 0, .int .i64 0, .int .i64 0, .int .i64 0, .int .i64 0, .int .i64 0] 36 (0, 0)) ∧ W.heap[w.heap.size + 1]? = some (.cells #[.int .i64 0, .int .i64 0, .int .i64 0, .int .i64 0, .int .i64 0, .int .i64 0, .int .i64 0] 36 (0, 0))) ⟨by (repeat (with_reducible first | exact Ex.refl _ _ | assumption | exact Ex.mono (by assumption) (by simp; done) | refine Ex.alloc ?_ _ | refine Ex.drew ?_ | refine Ex.drewN ?_ _ | refine Ex.setCell ?_ (by first | (left; simp; done) | (right; simp; done) | (right; simp; omega)) _ | refine Ex.trans ?_ (by assumption))), by simp, by exact blk_alloc (blk_new _ _), by have h := blk_new (w.alloc (.cells #[.int .i64 0, .int .i64 0, .int .i64 0, .int .i64 0, .int .i64 0, .int .i64 0, .int .i64 0] 36 (0, 0))) (.cells #[.int .i64 0, .int .i64 0, .int .i64 0, .int .i64 0, .int .i64 0, .int .i64 0, .int .i64 0] 36 (0, 0)); simpa using h⟩ (fun W hW => ?_)
  obtain ⟨hr0, hsz, hB0, hB1⟩ := hW
  have hsz' := Nat.le_of_eq hsz.symm; have hsz'' := Nat.le_of_eq hsz; clear hsz
  have hB0' := Lib.hid hB0; have hB1' := Lib.hid hB1; clear hB0 hB1
  go_wp2_with fail
  go_loopg [6] (counts.length) (fun g i wr => ∃ (k : Nat) (pp : Pile), g = counts.length - k ∧ k ≤ counts.length ∧ i = .int .i64 k ∧ pp = weighTo lots counts k ∧ Ex [w.heap.size + 1] W wr ∧ wr.heap[w.heap.size + 1]? = some (.cells #[.int .i64 pp.mass, .int .i64 pp.con.a.lo, .int .i64 pp.con.a.hi, .int .i64 pp.con.b.lo, .int .i64 pp.con.b.hi, .int .i64 pp.con.c.lo, .int .i64 pp.con.c.hi] 36 (0, 0)))
  case atStart => exact ⟨0, _, rfl, by omega, rfl, rfl, Ex.refl _ _, hB1'.out⟩
  case round =>
    obtain ⟨k, pp, rfl, hk, rfl, hpp, hE, hT⟩ := hrel
    have hpp' := Lib.hid hpp; clear hpp
    have hT' := Lib.hid hT; clear hT
    by_cases hlt : k < counts.length
    · have hlt2 : k < lots.length := by omega
      have hk0 : (0 : Int) ≤ (k : Int) := by omega
      have hk1 : (k : Int) < (counts.length : Int) := by omega
      have hk2 : (k : Int) < (lots.length : Int) := by omega
      obtain ⟨b2, off2, rfl, hbw2, hss⟩ := hs.cells (by omega)
      have l0 : ∀ w', Ex [w.heap.size + 1] W w' → w'.cell? ⟨b2, off2 + k * 9 + 1, none⟩ = some (.int .i64 (nth lots .zero k).mass) := fun w' h => by
        have := h.cell (by simp; omega) (hr0.cell (by simp) (hss k hlt2 1 _ rfl))
        rwa [nth_eq lots .zero] at this
      have l1 : ∀ w', Ex [w.heap.size + 1] W w' → w'.cell? ⟨b2, off2 + k * 9 + 2, none⟩ = some (.int .i64 (nth lots .zero k).con.a.lo) := fun w' h => by
        have := h.cell (by simp; omega) (hr0.cell (by simp) (hss k hlt2 2 _ rfl))
        rwa [nth_eq lots .zero] at this
      have l2 : ∀ w', Ex [w.heap.size + 1] W w' → w'.cell? ⟨b2, off2 + k * 9 + 3, none⟩ = some (.int .i64 (nth lots .zero k).con.a.hi) := fun w' h => by
        have := h.cell (by simp; omega) (hr0.cell (by simp) (hss k hlt2 3 _ rfl))
        rwa [nth_eq lots .zero] at this
      have l3 : ∀ w', Ex [w.heap.size + 1] W w' → w'.cell? ⟨b2, off2 + k * 9 + 4, none⟩ = some (.int .i64 (nth lots .zero k).con.b.lo) := fun w' h => by
        have := h.cell (by simp; omega) (hr0.cell (by simp) (hss k hlt2 4 _ rfl))
        rwa [nth_eq lots .zero] at this
      have l4 : ∀ w', Ex [w.heap.size + 1] W w' → w'.cell? ⟨b2, off2 + k * 9 + 5, none⟩ = some (.int .i64 (nth lots .zero k).con.b.hi) := fun w' h => by
        have := h.cell (by simp; omega) (hr0.cell (by simp) (hss k hlt2 5 _ rfl))
        rwa [nth_eq lots .zero] at this
      have l5 : ∀ w', Ex [w.heap.size + 1] W w' → w'.cell? ⟨b2, off2 + k * 9 + 6, none⟩ = some (.int .i64 (nth lots .zero k).con.c.lo) := fun w' h => by
        have := h.cell (by simp; omega) (hr0.cell (by simp) (hss k hlt2 6 _ rfl))
        rwa [nth_eq lots .zero] at this
      have l6 : ∀ w', Ex [w.heap.size + 1] W w' → w'.cell? ⟨b2, off2 + k * 9 + 7, none⟩ = some (.int .i64 (nth lots .zero k).con.c.hi) := fun w' h => by
        have := h.cell (by simp; omega) (hr0.cell (by simp) (hss k hlt2 7 _ rfl))
        rwa [nth_eq lots .zero] at this
      clear hss
      obtain ⟨b3, off3, rfl, hbw3, hcc⟩ := hc.cells (by omega)
      have c0 : ∀ w', Ex [w.heap.size + 1] W w' → w'.cell? ⟨b3, off3 + k, none⟩ = some (.int .i64 (nth counts 0 k)) := fun w' h => by
        have := h.cell (by simp; omega) (hr0.cell (by simp) (hcc k hlt 0 _ rfl))
        rwa [Nat.add_zero, Nat.mul_one, nth_eq counts 0] at this
      clear hcc
      go_upto_region 5 with fail
      have hrwr : Ex [] wr wr := Ex.refl _ _
      have q0 := cellE (S := []) hT'.out (by simp) 0 rfl
      have q1 := freeE (S := []) hT'.out (by simp) 0
      have q2 := fun w' (h : Ex [] wr w') => l0 w' (hE.trans (h.mono (by simp)))
      have q3 := fun w' (h : Ex [] wr w') => c0 w' (hE.trans (h.mono (by simp)))
      refine region_plan (fun w' => Ex [] wr w') [.pu [0, 2, 3, 4, 6, 7, 8, 9], .st [1, 5, 10], .pu [11, 12, 13], .tl [14]] (by kernel_rfl) (by kernel_rfl) (Ex.drew (by first | (with_reducible assumption) | (repeat (with_reducible first | exact Ex.refl _ _ | assumption | exact Ex.mono (by assumption) (by simp; done) | refine Ex.alloc ?_ _ | refine Ex.drew ?_ | refine Ex.drewN ?_ _ | refine Ex.setCell ?_ (by first | (left; simp; done) | (right; simp; done) | (right; simp; omega)) _ | refine Ex.trans ?_ (by assumption))))) ?_
      refine plan_pu (fun K hK => ?_)
      simp only [pick, List.drop_succ_cons, List.drop_zero, List.take_succ_cons, List.take_zero, List.cons_append, List.nil_append]
      iterate 8 (first | (refine wpYield_want ?_ (by rfl) (fun w' hS' => ?_) ?_; rotate_left; ((try dsimp only at hS'); go_simp; try with_reducible rfl); simp only [Act.put, List.setIfInBounds_toArray, List.set_cons_zero, List.set_cons_succ]) | (refine wpYield_skip (by rfl) ?_; simp only [Act.put, List.setIfInBounds_toArray, List.set_cons_zero, List.set_cons_succ]))
      refine wpYield_nil (hK _ ?_)
      clear hK K
      refine plan_st (fun K hK => ?_)
      simp only [pick, List.drop_succ_cons, List.drop_zero, List.take_succ_cons, List.take_zero, List.cons_append, List.nil_append]
      iterate 3 (first | (refine wpYield_want ?_ (by rfl) (fun w' hS' => ?_) ?_; rotate_left; ((try dsimp only at hS'); go_simp; try with_reducible rfl); simp only [Act.put, List.setIfInBounds_toArray, List.set_cons_zero, List.set_cons_succ]) | (refine wpYield_skip (by rfl) ?_; simp only [Act.put, List.setIfInBounds_toArray, List.set_cons_zero, List.set_cons_succ]))
      refine wpYield_nil (hK _ ?_)
      clear hK K
      refine plan_pu (fun K hK => ?_)
      simp only [pick, List.drop_succ_cons, List.drop_zero, List.take_succ_cons, List.take_zero, List.cons_append, List.nil_append]
      iterate 3 (first | (refine wpYield_want ?_ (by rfl) (fun w' hS' => ?_) ?_; rotate_left; ((try dsimp only at hS'); go_simp; try with_reducible rfl); simp only [Act.put, List.setIfInBounds_toArray, List.set_cons_zero, List.set_cons_succ]) | (refine wpYield_skip (by rfl) ?_; simp only [Act.put, List.setIfInBounds_toArray, List.set_cons_zero, List.set_cons_succ]))
      refine wpYield_nil (hK _ ?_)
      clear hK K
      refine plan_tl (fun K hK => ?_)
      simp only [pick, List.drop_succ_cons, List.drop_zero, List.take_succ_cons, List.take_zero, List.cons_append, List.nil_append]
      go_wp2_with fail
      try refine ⟨rfl, hK _ _ ?_⟩
      try clear hK K
      refine plan_nil ?_
      go_upto_region 6 with fail
      refine wp_at (fun Y => Ex [w.heap.size + 1] W Y ∧ Y.heap[w.heap.size + 1]? = some (.cells #[.int .i64 (wrap64 (pp.mass + wrap64 (nth counts 0 k * (nth lots .zero k).mass))), .int .i64 pp.con.a.lo, .int .i64 pp.con.a.hi, .int .i64 pp.con.b.lo, .int .i64 pp.con.b.hi, .int .i64 pp.con.c.lo, .int .i64 pp.con.c.hi] 36 (0, 0))) ⟨(hE.drew).setCell (.inl (by simp)) _, blk_to (blk_set (blk_drew hT'.out) 0 _) (by kernel_rfl)⟩ (fun Y1 hY => ?_)
      obtain ⟨hY1, hT1⟩ := hY
      have hT1' := Lib.hid hT1; clear hT1 hE hT' hrwr q0 q1 q2 q3
      go_wp2_with fail
      refine wp_loop_rounds 4 ?_
      rw [rounds_succ]
      go_upto_region 9 with fail
      have hrY1 : Ex [] Y1 Y1 := Ex.refl _ _
      have q0 := cellE (S := []) hT1'.out (by simp) 1 rfl
      have q1 := freeE (S := []) hT1'.out (by simp) 1
      have q2 := fun w' (h : Ex [] Y1 w') => l1 w' (hY1.trans (h.mono (by simp)))
      have q3 := fun w' (h : Ex [] Y1 w') => c0 w' (hY1.trans (h.mono (by simp)))
      refine region_plan (fun w' => Ex [] Y1 w') [.pu [0, 1, 2, 3, 5, 6, 7, 9, 10, 11, 12, 13, 14, 15, 19], .st [4, 8, 16], .pu [17, 18, 20, 21], .tl [22]] (by kernel_rfl) (by kernel_rfl) (Ex.drew (by first | (with_reducible assumption) | (repeat (with_reducible first | exact Ex.refl _ _ | assumption | exact Ex.mono (by assumption) (by simp; done) | refine Ex.alloc ?_ _ | refine Ex.drew ?_ | refine Ex.drewN ?_ _ | refine Ex.setCell ?_ (by first | (left; simp; done) | (right; simp; done) | (right; simp; omega)) _ | refine Ex.trans ?_ (by assumption))))) ?_
      refine plan_pu (fun K hK => ?_)
      simp only [pick, List.drop_succ_cons, List.drop_zero, List.take_succ_cons, List.take_zero, List.cons_append, List.nil_append]
      iterate 15 (first | (refine wpYield_want ?_ (by rfl) (fun w' hS' => ?_) ?_; rotate_left; ((try dsimp only at hS'); go_simp; try with_reducible rfl); simp only [Act.put, List.setIfInBounds_toArray, List.set_cons_zero, List.set_cons_succ]) | (refine wpYield_skip (by rfl) ?_; simp only [Act.put, List.setIfInBounds_toArray, List.set_cons_zero, List.set_cons_succ]))
      refine wpYield_nil (hK _ ?_)
      clear hK K
      refine plan_st (fun K hK => ?_)
      simp only [pick, List.drop_succ_cons, List.drop_zero, List.take_succ_cons, List.take_zero, List.cons_append, List.nil_append]
      iterate 3 (first | (refine wpYield_want ?_ (by rfl) (fun w' hS' => ?_) ?_; rotate_left; ((try dsimp only at hS'); go_simp; try with_reducible rfl); simp only [Act.put, List.setIfInBounds_toArray, List.set_cons_zero, List.set_cons_succ]) | (refine wpYield_skip (by rfl) ?_; simp only [Act.put, List.setIfInBounds_toArray, List.set_cons_zero, List.set_cons_succ]))
      refine wpYield_nil (hK _ ?_)
      clear hK K
      refine plan_pu (fun K hK => ?_)
      simp only [pick, List.drop_succ_cons, List.drop_zero, List.take_succ_cons, List.take_zero, List.cons_append, List.nil_append]
      iterate 4 (first | (refine wpYield_want ?_ (by rfl) (fun w' hS' => ?_) ?_; rotate_left; ((try dsimp only at hS'); go_simp; try with_reducible rfl); simp only [Act.put, List.setIfInBounds_toArray, List.set_cons_zero, List.set_cons_succ]) | (refine wpYield_skip (by rfl) ?_; simp only [Act.put, List.setIfInBounds_toArray, List.set_cons_zero, List.set_cons_succ]))
      refine wpYield_nil (hK _ ?_)
      clear hK K
      refine plan_tl (fun K hK => ?_)
      simp only [pick, List.drop_succ_cons, List.drop_zero, List.take_succ_cons, List.take_zero, List.cons_append, List.nil_append]
      go_wp2_with fail
      try refine ⟨rfl, hK _ _ ?_⟩
      try clear hK K
      refine plan_nil ?_
      go_upto_region 10 with fail
      refine wp_at (fun Y => Ex [w.heap.size + 1] W Y ∧ Y.heap[w.heap.size + 1]? = some (.cells #[.int .i64 (wrap64 (pp.mass + wrap64 (nth counts 0 k * (nth lots .zero k).mass))), .int .i64 (wrap64 (pp.con.a.lo + wrap64 (nth counts 0 k * (nth lots .zero k).con.a.lo))), .int .i64 pp.con.a.hi, .int .i64 pp.con.b.lo, .int .i64 pp.con.b.hi, .int .i64 pp.con.c.lo, .int .i64 pp.con.c.hi] 36 (0, 0))) ⟨(hY1.drew).setCell (.inl (by simp)) _, blk_to (blk_set (blk_drew hT1'.out) 1 _) (by kernel_rfl)⟩ (fun Y2 hY => ?_)
      obtain ⟨hY2, hT2⟩ := hY
      have hT2' := Lib.hid hT2; clear hT2 hY1 hT1' hrY1 q0 q1 q2 q3
      have hrY2 : Ex [] Y2 Y2 := Ex.refl _ _
      have q0 := cellE (S := []) hT2'.out (by simp) 2 rfl
      have q1 := freeE (S := []) hT2'.out (by simp) 2
      have q2 := fun w' (h : Ex [] Y2 w') => l2 w' (hY2.trans (h.mono (by simp)))
      have q3 := fun w' (h : Ex [] Y2 w') => c0 w' (hY2.trans (h.mono (by simp)))
      refine region_plan (fun w' => Ex [] Y2 w') [.pu [0, 1, 2, 3, 5, 6, 7, 9, 10, 11, 12, 13, 14, 15, 19], .st [4, 8, 16], .pu [17, 18, 20, 21], .tl [22]] (by kernel_rfl) (by kernel_rfl) (Ex.drew (by first | (with_reducible assumption) | (repeat (with_reducible first | exact Ex.refl _ _ | assumption | exact Ex.mono (by assumption) (by simp; done) | refine Ex.alloc ?_ _ | refine Ex.drew ?_ | refine Ex.drewN ?_ _ | refine Ex.setCell ?_ (by first | (left; simp; done) | (right; simp; done) | (right; simp; omega)) _ | refine Ex.trans ?_ (by assumption))))) ?_
      refine plan_pu (fun K hK => ?_)
      simp only [pick, List.drop_succ_cons, List.drop_zero, List.take_succ_cons, List.take_zero, List.cons_append, List.nil_append]
      iterate 15 (first | (refine wpYield_want ?_ (by rfl) (fun w' hS' => ?_) ?_; rotate_left; ((try dsimp only at hS'); go_simp; try with_reducible rfl); simp only [Act.put, List.setIfInBounds_toArray, List.set_cons_zero, List.set_cons_succ]) | (refine wpYield_skip (by rfl) ?_; simp only [Act.put, List.setIfInBounds_toArray, List.set_cons_zero, List.set_cons_succ]))
      refine wpYield_nil (hK _ ?_)
      clear hK K
      refine plan_st (fun K hK => ?_)
      simp only [pick, List.drop_succ_cons, List.drop_zero, List.take_succ_cons, List.take_zero, List.cons_append, List.nil_append]
      iterate 3 (first | (refine wpYield_want ?_ (by rfl) (fun w' hS' => ?_) ?_; rotate_left; ((try dsimp only at hS'); go_simp; try with_reducible rfl); simp only [Act.put, List.setIfInBounds_toArray, List.set_cons_zero, List.set_cons_succ]) | (refine wpYield_skip (by rfl) ?_; simp only [Act.put, List.setIfInBounds_toArray, List.set_cons_zero, List.set_cons_succ]))
      refine wpYield_nil (hK _ ?_)
      clear hK K
      refine plan_pu (fun K hK => ?_)
      simp only [pick, List.drop_succ_cons, List.drop_zero, List.take_succ_cons, List.take_zero, List.cons_append, List.nil_append]
      iterate 4 (first | (refine wpYield_want ?_ (by rfl) (fun w' hS' => ?_) ?_; rotate_left; ((try dsimp only at hS'); go_simp; try with_reducible rfl); simp only [Act.put, List.setIfInBounds_toArray, List.set_cons_zero, List.set_cons_succ]) | (refine wpYield_skip (by rfl) ?_; simp only [Act.put, List.setIfInBounds_toArray, List.set_cons_zero, List.set_cons_succ]))
      refine wpYield_nil (hK _ ?_)
      clear hK K
      refine plan_tl (fun K hK => ?_)
      simp only [pick, List.drop_succ_cons, List.drop_zero, List.take_succ_cons, List.take_zero, List.cons_append, List.nil_append]
      go_wp2_with fail
      try refine ⟨rfl, hK _ _ ?_⟩
      try clear hK K
      refine plan_nil ?_
      go_upto_region 8 with fail
      refine wp_at (fun Y => Ex [w.heap.size + 1] W Y ∧ Y.heap[w.heap.size + 1]? = some (.cells #[.int .i64 (wrap64 (pp.mass + wrap64 (nth counts 0 k * (nth lots .zero k).mass))), .int .i64 (wrap64 (pp.con.a.lo + wrap64 (nth counts 0 k * (nth lots .zero k).con.a.lo))), .int .i64 (wrap64 (pp.con.a.hi + wrap64 (nth counts 0 k * (nth lots .zero k).con.a.hi))), .int .i64 pp.con.b.lo, .int .i64 pp.con.b.hi, .int .i64 pp.con.c.lo, .int .i64 pp.con.c.hi] 36 (0, 0))) ⟨(hY2.drew).setCell (.inl (by simp)) _, blk_to (blk_set (blk_drew hT2'.out) 2 _) (by kernel_rfl)⟩ (fun Y3 hY => ?_)
      obtain ⟨hY3, hT3⟩ := hY
      have hT3' := Lib.hid hT3; clear hT3 hY2 hT2' hrY2 q0 q1 q2 q3
      go_wp2_with fail
      rw [rounds_succ]
      go_upto_region 9 with fail
      have hrY3 : Ex [] Y3 Y3 := Ex.refl _ _
      have q0 := cellE (S := []) hT3'.out (by simp) 3 rfl
      have q1 := freeE (S := []) hT3'.out (by simp) 3
      have q2 := fun w' (h : Ex [] Y3 w') => l3 w' (hY3.trans (h.mono (by simp)))
      have q3 := fun w' (h : Ex [] Y3 w') => c0 w' (hY3.trans (h.mono (by simp)))
      refine region_plan (fun w' => Ex [] Y3 w') [.pu [0, 1, 2, 3, 5, 6, 7, 9, 10, 11, 12, 13, 14, 15, 19], .st [4, 8, 16], .pu [17, 18, 20, 21], .tl [22]] (by kernel_rfl) (by kernel_rfl) (Ex.drew (by first | (with_reducible assumption) | (repeat (with_reducible first | exact Ex.refl _ _ | assumption | exact Ex.mono (by assumption) (by simp; done) | refine Ex.alloc ?_ _ | refine Ex.drew ?_ | refine Ex.drewN ?_ _ | refine Ex.setCell ?_ (by first | (left; simp; done) | (right; simp; done) | (right; simp; omega)) _ | refine Ex.trans ?_ (by assumption))))) ?_
      refine plan_pu (fun K hK => ?_)
      simp only [pick, List.drop_succ_cons, List.drop_zero, List.take_succ_cons, List.take_zero, List.cons_append, List.nil_append]
      iterate 15 (first | (refine wpYield_want ?_ (by rfl) (fun w' hS' => ?_) ?_; rotate_left; ((try dsimp only at hS'); go_simp; try with_reducible rfl); simp only [Act.put, List.setIfInBounds_toArray, List.set_cons_zero, List.set_cons_succ]) | (refine wpYield_skip (by rfl) ?_; simp only [Act.put, List.setIfInBounds_toArray, List.set_cons_zero, List.set_cons_succ]))
      refine wpYield_nil (hK _ ?_)
      clear hK K
      refine plan_st (fun K hK => ?_)
      simp only [pick, List.drop_succ_cons, List.drop_zero, List.take_succ_cons, List.take_zero, List.cons_append, List.nil_append]
      iterate 3 (first | (refine wpYield_want ?_ (by rfl) (fun w' hS' => ?_) ?_; rotate_left; ((try dsimp only at hS'); go_simp; try with_reducible rfl); simp only [Act.put, List.setIfInBounds_toArray, List.set_cons_zero, List.set_cons_succ]) | (refine wpYield_skip (by rfl) ?_; simp only [Act.put, List.setIfInBounds_toArray, List.set_cons_zero, List.set_cons_succ]))
      refine wpYield_nil (hK _ ?_)
      clear hK K
      refine plan_pu (fun K hK => ?_)
      simp only [pick, List.drop_succ_cons, List.drop_zero, List.take_succ_cons, List.take_zero, List.cons_append, List.nil_append]
      iterate 4 (first | (refine wpYield_want ?_ (by rfl) (fun w' hS' => ?_) ?_; rotate_left; ((try dsimp only at hS'); go_simp; try with_reducible rfl); simp only [Act.put, List.setIfInBounds_toArray, List.set_cons_zero, List.set_cons_succ]) | (refine wpYield_skip (by rfl) ?_; simp only [Act.put, List.setIfInBounds_toArray, List.set_cons_zero, List.set_cons_succ]))
      refine wpYield_nil (hK _ ?_)
      clear hK K
      refine plan_tl (fun K hK => ?_)
      simp only [pick, List.drop_succ_cons, List.drop_zero, List.take_succ_cons, List.take_zero, List.cons_append, List.nil_append]
      go_wp2_with fail
      try refine ⟨rfl, hK _ _ ?_⟩
      try clear hK K
      refine plan_nil ?_
      go_upto_region 10 with fail
      refine wp_at (fun Y => Ex [w.heap.size + 1] W Y ∧ Y.heap[w.heap.size + 1]? = some (.cells #[.int .i64 (wrap64 (pp.mass + wrap64 (nth counts 0 k * (nth lots .zero k).mass))), .int .i64 (wrap64 (pp.con.a.lo + wrap64 (nth counts 0 k * (nth lots .zero k).con.a.lo))), .int .i64 (wrap64 (pp.con.a.hi + wrap64 (nth counts 0 k * (nth lots .zero k).con.a.hi))), .int .i64 (wrap64 (pp.con.b.lo + wrap64 (nth counts 0 k * (nth lots .zero k).con.b.lo))), .int .i64 pp.con.b.hi, .int .i64 pp.con.c.lo, .int .i64 pp.con.c.hi] 36 (0, 0))) ⟨(hY3.drew).setCell (.inl (by simp)) _, blk_to (blk_set (blk_drew hT3'.out) 3 _) (by kernel_rfl)⟩ (fun Y4 hY => ?_)
      obtain ⟨hY4, hT4⟩ := hY
      have hT4' := Lib.hid hT4; clear hT4 hY3 hT3' hrY3 q0 q1 q2 q3
      have hrY4 : Ex [] Y4 Y4 := Ex.refl _ _
      have q0 := cellE (S := []) hT4'.out (by simp) 4 rfl
      have q1 := freeE (S := []) hT4'.out (by simp) 4
      have q2 := fun w' (h : Ex [] Y4 w') => l4 w' (hY4.trans (h.mono (by simp)))
      have q3 := fun w' (h : Ex [] Y4 w') => c0 w' (hY4.trans (h.mono (by simp)))
      refine region_plan (fun w' => Ex [] Y4 w') [.pu [0, 1, 2, 3, 5, 6, 7, 9, 10, 11, 12, 13, 14, 15, 19], .st [4, 8, 16], .pu [17, 18, 20, 21], .tl [22]] (by kernel_rfl) (by kernel_rfl) (Ex.drew (by first | (with_reducible assumption) | (repeat (with_reducible first | exact Ex.refl _ _ | assumption | exact Ex.mono (by assumption) (by simp; done) | refine Ex.alloc ?_ _ | refine Ex.drew ?_ | refine Ex.drewN ?_ _ | refine Ex.setCell ?_ (by first | (left; simp; done) | (right; simp; done) | (right; simp; omega)) _ | refine Ex.trans ?_ (by assumption))))) ?_
      refine plan_pu (fun K hK => ?_)
      simp only [pick, List.drop_succ_cons, List.drop_zero, List.take_succ_cons, List.take_zero, List.cons_append, List.nil_append]
      iterate 15 (first | (refine wpYield_want ?_ (by rfl) (fun w' hS' => ?_) ?_; rotate_left; ((try dsimp only at hS'); go_simp; try with_reducible rfl); simp only [Act.put, List.setIfInBounds_toArray, List.set_cons_zero, List.set_cons_succ]) | (refine wpYield_skip (by rfl) ?_; simp only [Act.put, List.setIfInBounds_toArray, List.set_cons_zero, List.set_cons_succ]))
      refine wpYield_nil (hK _ ?_)
      clear hK K
      refine plan_st (fun K hK => ?_)
      simp only [pick, List.drop_succ_cons, List.drop_zero, List.take_succ_cons, List.take_zero, List.cons_append, List.nil_append]
      iterate 3 (first | (refine wpYield_want ?_ (by rfl) (fun w' hS' => ?_) ?_; rotate_left; ((try dsimp only at hS'); go_simp; try with_reducible rfl); simp only [Act.put, List.setIfInBounds_toArray, List.set_cons_zero, List.set_cons_succ]) | (refine wpYield_skip (by rfl) ?_; simp only [Act.put, List.setIfInBounds_toArray, List.set_cons_zero, List.set_cons_succ]))
      refine wpYield_nil (hK _ ?_)
      clear hK K
      refine plan_pu (fun K hK => ?_)
      simp only [pick, List.drop_succ_cons, List.drop_zero, List.take_succ_cons, List.take_zero, List.cons_append, List.nil_append]
      iterate 4 (first | (refine wpYield_want ?_ (by rfl) (fun w' hS' => ?_) ?_; rotate_left; ((try dsimp only at hS'); go_simp; try with_reducible rfl); simp only [Act.put, List.setIfInBounds_toArray, List.set_cons_zero, List.set_cons_succ]) | (refine wpYield_skip (by rfl) ?_; simp only [Act.put, List.setIfInBounds_toArray, List.set_cons_zero, List.set_cons_succ]))
      refine wpYield_nil (hK _ ?_)
      clear hK K
      refine plan_tl (fun K hK => ?_)
      simp only [pick, List.drop_succ_cons, List.drop_zero, List.take_succ_cons, List.take_zero, List.cons_append, List.nil_append]
      go_wp2_with fail
      try refine ⟨rfl, hK _ _ ?_⟩
      try clear hK K
      refine plan_nil ?_
      go_upto_region 8 with fail
      refine wp_at (fun Y => Ex [w.heap.size + 1] W Y ∧ Y.heap[w.heap.size + 1]? = some (.cells #[.int .i64 (wrap64 (pp.mass + wrap64 (nth counts 0 k * (nth lots .zero k).mass))), .int .i64 (wrap64 (pp.con.a.lo + wrap64 (nth counts 0 k * (nth lots .zero k).con.a.lo))), .int .i64 (wrap64 (pp.con.a.hi + wrap64 (nth counts 0 k * (nth lots .zero k).con.a.hi))), .int .i64 (wrap64 (pp.con.b.lo + wrap64 (nth counts 0 k * (nth lots .zero k).con.b.lo))), .int .i64 (wrap64 (pp.con.b.hi + wrap64 (nth counts 0 k * (nth lots .zero k).con.b.hi))), .int .i64 pp.con.c.lo, .int .i64 pp.con.c.hi] 36 (0, 0))) ⟨(hY4.drew).setCell (.inl (by simp)) _, blk_to (blk_set (blk_drew hT4'.out) 4 _) (by kernel_rfl)⟩ (fun Y5 hY => ?_)
      obtain ⟨hY5, hT5⟩ := hY
      have hT5' := Lib.hid hT5; clear hT5 hY4 hT4' hrY4 q0 q1 q2 q3
      go_wp2_with fail
      rw [rounds_succ]
      go_upto_region 9 with fail
      have hrY5 : Ex [] Y5 Y5 := Ex.refl _ _
      have q0 := cellE (S := []) hT5'.out (by simp) 5 rfl
      have q1 := freeE (S := []) hT5'.out (by simp) 5
      have q2 := fun w' (h : Ex [] Y5 w') => l5 w' (hY5.trans (h.mono (by simp)))
      have q3 := fun w' (h : Ex [] Y5 w') => c0 w' (hY5.trans (h.mono (by simp)))
      refine region_plan (fun w' => Ex [] Y5 w') [.pu [0, 1, 2, 3, 5, 6, 7, 9, 10, 11, 12, 13, 14, 15, 19], .st [4, 8, 16], .pu [17, 18, 20, 21], .tl [22]] (by kernel_rfl) (by kernel_rfl) (Ex.drew (by first | (with_reducible assumption) | (repeat (with_reducible first | exact Ex.refl _ _ | assumption | exact Ex.mono (by assumption) (by simp; done) | refine Ex.alloc ?_ _ | refine Ex.drew ?_ | refine Ex.drewN ?_ _ | refine Ex.setCell ?_ (by first | (left; simp; done) | (right; simp; done) | (right; simp; omega)) _ | refine Ex.trans ?_ (by assumption))))) ?_
      refine plan_pu (fun K hK => ?_)
      simp only [pick, List.drop_succ_cons, List.drop_zero, List.take_succ_cons, List.take_zero, List.cons_append, List.nil_append]
      iterate 15 (first | (refine wpYield_want ?_ (by rfl) (fun w' hS' => ?_) ?_; rotate_left; ((try dsimp only at hS'); go_simp; try with_reducible rfl); simp only [Act.put, List.setIfInBounds_toArray, List.set_cons_zero, List.set_cons_succ]) | (refine wpYield_skip (by rfl) ?_; simp only [Act.put, List.setIfInBounds_toArray, List.set_cons_zero, List.set_cons_succ]))
      refine wpYield_nil (hK _ ?_)
      clear hK K
      refine plan_st (fun K hK => ?_)
      simp only [pick, List.drop_succ_cons, List.drop_zero, List.take_succ_cons, List.take_zero, List.cons_append, List.nil_append]
      iterate 3 (first | (refine wpYield_want ?_ (by rfl) (fun w' hS' => ?_) ?_; rotate_left; ((try dsimp only at hS'); go_simp; try with_reducible rfl); simp only [Act.put, List.setIfInBounds_toArray, List.set_cons_zero, List.set_cons_succ]) | (refine wpYield_skip (by rfl) ?_; simp only [Act.put, List.setIfInBounds_toArray, List.set_cons_zero, List.set_cons_succ]))
      refine wpYield_nil (hK _ ?_)
      clear hK K
      refine plan_pu (fun K hK => ?_)
      simp only [pick, List.drop_succ_cons, List.drop_zero, List.take_succ_cons, List.take_zero, List.cons_append, List.nil_append]
      iterate 4 (first | (refine wpYield_want ?_ (by rfl) (fun w' hS' => ?_) ?_; rotate_left; ((try dsimp only at hS'); go_simp; try with_reducible rfl); simp only [Act.put, List.setIfInBounds_toArray, List.set_cons_zero, List.set_cons_succ]) | (refine wpYield_skip (by rfl) ?_; simp only [Act.put, List.setIfInBounds_toArray, List.set_cons_zero, List.set_cons_succ]))
      refine wpYield_nil (hK _ ?_)
      clear hK K
      refine plan_tl (fun K hK => ?_)
      simp only [pick, List.drop_succ_cons, List.drop_zero, List.take_succ_cons, List.take_zero, List.cons_append, List.nil_append]
      go_wp2_with fail
      try refine ⟨rfl, hK _ _ ?_⟩
      try clear hK K
      refine plan_nil ?_
      go_upto_region 10 with fail
      refine wp_at (fun Y => Ex [w.heap.size + 1] W Y ∧ Y.heap[w.heap.size + 1]? = some (.cells #[.int .i64 (wrap64 (pp.mass + wrap64 (nth counts 0 k * (nth lots .zero k).mass))), .int .i64 (wrap64 (pp.con.a.lo + wrap64 (nth counts 0 k * (nth lots .zero k).con.a.lo))), .int .i64 (wrap64 (pp.con.a.hi + wrap64 (nth counts 0 k * (nth lots .zero k).con.a.hi))), .int .i64 (wrap64 (pp.con.b.lo + wrap64 (nth counts 0 k * (nth lots .zero k).con.b.lo))), .int .i64 (wrap64 (pp.con.b.hi + wrap64 (nth counts 0 k * (nth lots .zero k).con.b.hi))), .int .i64 (wrap64 (pp.con.c.lo + wrap64 (nth counts 0 k * (nth lots .zero k).con.c.lo))), .int .i64 pp.con.c.hi] 36 (0, 0))) ⟨(hY5.drew).setCell (.inl (by simp)) _, blk_to (blk_set (blk_drew hT5'.out) 5 _) (by kernel_rfl)⟩ (fun Y6 hY => ?_)
      obtain ⟨hY6, hT6⟩ := hY
      have hT6' := Lib.hid hT6; clear hT6 hY5 hT5' hrY5 q0 q1 q2 q3
      have hrY6 : Ex [] Y6 Y6 := Ex.refl _ _
      have q0 := cellE (S := []) hT6'.out (by simp) 6 rfl
      have q1 := freeE (S := []) hT6'.out (by simp) 6
      have q2 := fun w' (h : Ex [] Y6 w') => l6 w' (hY6.trans (h.mono (by simp)))
      have q3 := fun w' (h : Ex [] Y6 w') => c0 w' (hY6.trans (h.mono (by simp)))
      refine region_plan (fun w' => Ex [] Y6 w') [.pu [0, 1, 2, 3, 5, 6, 7, 9, 10, 11, 12, 13, 14, 15, 19], .st [4, 8, 16], .pu [17, 18, 20, 21], .tl [22]] (by kernel_rfl) (by kernel_rfl) (Ex.drew (by first | (with_reducible assumption) | (repeat (with_reducible first | exact Ex.refl _ _ | assumption | exact Ex.mono (by assumption) (by simp; done) | refine Ex.alloc ?_ _ | refine Ex.drew ?_ | refine Ex.drewN ?_ _ | refine Ex.setCell ?_ (by first | (left; simp; done) | (right; simp; done) | (right; simp; omega)) _ | refine Ex.trans ?_ (by assumption))))) ?_
      refine plan_pu (fun K hK => ?_)
      simp only [pick, List.drop_succ_cons, List.drop_zero, List.take_succ_cons, List.take_zero, List.cons_append, List.nil_append]
      iterate 15 (first | (refine wpYield_want ?_ (by rfl) (fun w' hS' => ?_) ?_; rotate_left; ((try dsimp only at hS'); go_simp; try with_reducible rfl); simp only [Act.put, List.setIfInBounds_toArray, List.set_cons_zero, List.set_cons_succ]) | (refine wpYield_skip (by rfl) ?_; simp only [Act.put, List.setIfInBounds_toArray, List.set_cons_zero, List.set_cons_succ]))
      refine wpYield_nil (hK _ ?_)
      clear hK K
      refine plan_st (fun K hK => ?_)
      simp only [pick, List.drop_succ_cons, List.drop_zero, List.take_succ_cons, List.take_zero, List.cons_append, List.nil_append]
      iterate 3 (first | (refine wpYield_want ?_ (by rfl) (fun w' hS' => ?_) ?_; rotate_left; ((try dsimp only at hS'); go_simp; try with_reducible rfl); simp only [Act.put, List.setIfInBounds_toArray, List.set_cons_zero, List.set_cons_succ]) | (refine wpYield_skip (by rfl) ?_; simp only [Act.put, List.setIfInBounds_toArray, List.set_cons_zero, List.set_cons_succ]))
      refine wpYield_nil (hK _ ?_)
      clear hK K
      refine plan_pu (fun K hK => ?_)
      simp only [pick, List.drop_succ_cons, List.drop_zero, List.take_succ_cons, List.take_zero, List.cons_append, List.nil_append]
      iterate 4 (first | (refine wpYield_want ?_ (by rfl) (fun w' hS' => ?_) ?_; rotate_left; ((try dsimp only at hS'); go_simp; try with_reducible rfl); simp only [Act.put, List.setIfInBounds_toArray, List.set_cons_zero, List.set_cons_succ]) | (refine wpYield_skip (by rfl) ?_; simp only [Act.put, List.setIfInBounds_toArray, List.set_cons_zero, List.set_cons_succ]))
      refine wpYield_nil (hK _ ?_)
      clear hK K
      refine plan_tl (fun K hK => ?_)
      simp only [pick, List.drop_succ_cons, List.drop_zero, List.take_succ_cons, List.take_zero, List.cons_append, List.nil_append]
      go_wp2_with fail
      try refine ⟨rfl, hK _ _ ?_⟩
      try clear hK K
      refine plan_nil ?_
      go_upto_region 8 with fail
      refine wp_at (fun Y => Ex [w.heap.size + 1] W Y ∧ Y.heap[w.heap.size + 1]? = some (.cells #[.int .i64 (wrap64 (pp.mass + wrap64 (nth counts 0 k * (nth lots .zero k).mass))), .int .i64 (wrap64 (pp.con.a.lo + wrap64 (nth counts 0 k * (nth lots .zero k).con.a.lo))), .int .i64 (wrap64 (pp.con.a.hi + wrap64 (nth counts 0 k * (nth lots .zero k).con.a.hi))), .int .i64 (wrap64 (pp.con.b.lo + wrap64 (nth counts 0 k * (nth lots .zero k).con.b.lo))), .int .i64 (wrap64 (pp.con.b.hi + wrap64 (nth counts 0 k * (nth lots .zero k).con.b.hi))), .int .i64 (wrap64 (pp.con.c.lo + wrap64 (nth counts 0 k * (nth lots .zero k).con.c.lo))), .int .i64 (wrap64 (pp.con.c.hi + wrap64 (nth counts 0 k * (nth lots .zero k).con.c.hi)))] 36 (0, 0))) ⟨(hY6.drew).setCell (.inl (by simp)) _, blk_to (blk_set (blk_drew hT6'.out) 6 _) (by kernel_rfl)⟩ (fun Y7 hY => ?_)
      obtain ⟨hY7, hT7⟩ := hY
      have hT7' := Lib.hid hT7; clear hT7 hY6 hT6' hrY6 q0 q1 q2 q3
      go_wp2_with fail
      rw [rounds_succ]
      go_wp2_with fail
      go_roundg (counts.length - (k + 1))
      case rel => exact ⟨k + 1, _, rfl, by omega, by go_num, (by rw [weighTo, ← hpp'.out]), hY7, hT7'.out⟩
      case measure => omega
    · have hB0x := hE.heap (by simp) hB0'.out
      have hTx := hT'.out
      have e0 := blk_cell (v := .int .i64 pp.mass) hTx 0 rfl
      have e1 := blk_cell (v := .int .i64 pp.con.a.lo) hTx 1 rfl
      have e2 := blk_cell (v := .int .i64 pp.con.a.hi) hTx 2 rfl
      have e3 := blk_cell (v := .int .i64 pp.con.b.lo) hTx 3 rfl
      have e4 := blk_cell (v := .int .i64 pp.con.b.hi) hTx 4 rfl
      have e5 := blk_cell (v := .int .i64 pp.con.c.lo) hTx 5 rfl
      have e6 := blk_cell (v := .int .i64 pp.con.c.hi) hTx 6 rfl
      have k0 := blk_cell (v := .int .i64 0) hB0x 0 rfl
      have z0 := blk_free hB0x 0
      have k1 := blk_cell (v := .int .i64 0) hB0x 1 rfl
      have z1 := blk_free hB0x 1
      have k2 := blk_cell (v := .int .i64 0) hB0x 2 rfl
      have z2 := blk_free hB0x 2
      have k3 := blk_cell (v := .int .i64 0) hB0x 3 rfl
      have z3 := blk_free hB0x 3
      have k4 := blk_cell (v := .int .i64 0) hB0x 4 rfl
      have z4 := blk_free hB0x 4
      have k5 := blk_cell (v := .int .i64 0) hB0x 5 rfl
      have z5 := blk_free hB0x 5
      have k6 := blk_cell (v := .int .i64 0) hB0x 6 rfl
      have z6 := blk_free hB0x 6
      have hTy := Lib.hid hTx; clear hTx
      have hB0y := Lib.hid hB0x; clear hB0x
      go_wp2_with fail
      (try simp only [Exit.inBlock, Exit.then])
      refine ret_at (fun Y => Ex [w.heap.size, w.heap.size + 1] W Y ∧ Y.heap[w.heap.size]? = some (.cells #[.int .i64 pp.mass, .int .i64 pp.con.a.lo, .int .i64 pp.con.a.hi, .int .i64 pp.con.b.lo, .int .i64 pp.con.b.hi, .int .i64 pp.con.c.lo, .int .i64 pp.con.c.hi] 36 (0, 0))) ⟨((((((((hE.mono (by simp)).setCell (.inl (by simp)) _).setCell (.inl (by simp)) _).setCell (.inl (by simp)) _).setCell (.inl (by simp)) _).setCell (.inl (by simp)) _).setCell (.inl (by simp)) _).setCell (.inl (by simp)) _), ?_⟩ (fun Y hY => ?_)
      · refine blk_to (blk_set (blk_set (blk_set (blk_set (blk_set (blk_set (blk_set (hB0y.out) 0 _) 1 _) 2 _) 3 _) 4 _) 5 _) 6 _) ?_
        kernel_rfl
      obtain ⟨hX1, hX2⟩ := hY
      have x0 := blk_cell (v := .int .i64 pp.mass) hX2 0 rfl
      have x1 := blk_cell (v := .int .i64 pp.con.a.lo) hX2 1 rfl
      have x2 := blk_cell (v := .int .i64 pp.con.a.hi) hX2 2 rfl
      have x3 := blk_cell (v := .int .i64 pp.con.b.lo) hX2 3 rfl
      have x4 := blk_cell (v := .int .i64 pp.con.b.hi) hX2 4 rfl
      have x5 := blk_cell (v := .int .i64 pp.con.c.lo) hX2 5 rfl
      have x6 := blk_cell (v := .int .i64 pp.con.c.hi) hX2 6 rfl
      exact bodyPost_ret (v := .agg #[.int .i64 pp.mass, .int .i64 pp.con.a.lo, .int .i64 pp.con.a.hi, .int .i64 pp.con.b.lo, .int .i64 pp.con.b.hi, .int .i64 pp.con.c.lo, .int .i64 pp.con.c.hi]) (by simp [results, Try.results21, go_sem, x0, x1, x2, x3, x4, x5, x6]) rfl ⟨by unfold weighM; rw [show counts.length = k from by omega, ← hpp'.out], hr0.trans_fresh hX1 (by simp)⟩
end Go.Proofs.Ytojnpaenpaobcaa
