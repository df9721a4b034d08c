/- The greatest margins of a box. No condition. -/
import Derived.Test.YtojnpaenpaobcaaC14
namespace Go.Proofs.Ytojnpaenpaobcaa
open Go.RowKit

def Mar.zero : Mar := ⟨0, 0, 0, 0, 0, 0, 0, 0⟩
def addBox (m o : Mar) (lo hi : Int) : Mar := ⟨wrap64 (m.m0 + mx (wrap64 (o.m0 * lo)) (wrap64 (o.m0 * hi))), wrap64 (m.m1 + mx (wrap64 (o.m1 * lo)) (wrap64 (o.m1 * hi))), wrap64 (m.m2 + mx (wrap64 (o.m2 * lo)) (wrap64 (o.m2 * hi))), wrap64 (m.m3 + mx (wrap64 (o.m3 * lo)) (wrap64 (o.m3 * hi))), wrap64 (m.m4 + mx (wrap64 (o.m4 * lo)) (wrap64 (o.m4 * hi))), wrap64 (m.m5 + mx (wrap64 (o.m5 * lo)) (wrap64 (o.m5 * hi))), wrap64 (m.m6 + mx (wrap64 (o.m6 * lo)) (wrap64 (o.m6 * hi))), wrap64 (m.m7 + mx (wrap64 (o.m7 * lo)) (wrap64 (o.m7 * hi)))⟩
def greatTo (p : Recipe) (ones : List Mar) (lows highs : List Int) : Nat → Mar
  | 0 => baseM p
  | k + 1 => addBox (greatTo p ones lows highs k) (nth ones .zero k) (nth lows 0 k) (nth highs 0 k)
def greatM (p : Recipe) (ones : List Mar) (lows highs : List Int) : Mar := greatTo p ones lows highs ones.length

set_option maxRecDepth 100000 in
set_option maxHeartbeats 8000000 in
theorem greatest_c (p : Recipe) (a : Option Addr) (cap : Nat) (a2 : Option Addr) (cap2 : Nat) (ones : List Mar) (la ha : Option Addr) (lc hc : Nat) (lows highs : List Int) (w : World) (hs : Sl 8 Mar.cells w a2 cap2 ones) (hl : SlI w la lc lows) (hh : SlI w ha hc highs) (hi1 : ones.length ≤ lows.length) (hi2 : ones.length ≤ highs.length) :
    Calls Try.prog 95 #[.agg #[.slice a p.lots.length cap, .int .i64 p.mass.lo, .int .i64 p.mass.hi, .int .i64 p.target.a.lo, .int .i64 p.target.a.hi, .int .i64 p.target.b.lo, .int .i64 p.target.b.hi, .int .i64 p.target.c.lo, .int .i64 p.target.c.hi, .slice a2 ones.length cap2], .agg #[.slice la lows.length lc, .slice ha highs.length hc]] w (Ret (.agg #[.int .i64 ((greatM p ones lows highs).m0), .int .i64 ((greatM p ones lows highs).m1), .int .i64 ((greatM p ones lows highs).m2), .int .i64 ((greatM p ones lows highs).m3), .int .i64 ((greatM p ones lows highs).m4), .int .i64 ((greatM p ones lows highs).m5), .int .i64 ((greatM p ones lows highs).m6), .int .i64 ((greatM p ones lows highs).m7)]) w) := by
  have hle := hs.le; have hb := hs.big; have hle1 := hl.le; have hb1 := hl.big; have hle2 := hh.le; have hb2 := hh.big
  go_enter Try.func95, Try.ntmps95
  go_upto_region 1 with (fail)
  refine wp_at (fun W => Ext w W ∧ w.heap.size + 3 = W.heap.size ∧ W.heap[w.heap.size]? = some (.cells #[.slice a p.lots.length cap, .int .i64 p.mass.lo, .int .i64 p.mass.hi, .int .i64 p.target.a.lo, .int .i64 p.target.a.hi, .int .i64 p.target.b.lo, .int .i64 p.target.b.hi, .int .i64 p.target.c.lo, .int .i64 p.target.c.hi, .slice a2 ones.length cap2] 119 (0, 0)) ∧ W.heap[w.heap.size + 1]? = some (.cells #[.slice la lows.length lc, .slice ha highs.length hc] 128 (0, 0)) ∧ W.heap[w.heap.size + 1 + 1]? = some (.cells #[.int .i64 0, .int .i64 0, .int .i64 0, .int .i64 0, .int .i64 0, .int .i64 0, .int .i64 0, .int .i64 0] 110 (0, 0))) ⟨by (repeat (with_reducible first | exact Ex.refl _ _ | assumption | exact Ex.mono (by assumption) (by simp; done) | refine Ex.alloc ?_ _ | refine Ex.drew ?_ | refine Ex.drewN ?_ _ | refine Ex.setCell ?_ (by first | (left; simp; done) | (right; simp; done) | (right; simp; omega)) _ | refine Ex.trans ?_ (by assumption))), by simp, blk_alloc (blk_alloc (blk_new _ _)), blk_alloc (by have h := blk_new ((w).alloc (.cells #[.slice a p.lots.length cap, .int .i64 p.mass.lo, .int .i64 p.mass.hi, .int .i64 p.target.a.lo, .int .i64 p.target.a.hi, .int .i64 p.target.b.lo, .int .i64 p.target.b.hi, .int .i64 p.target.c.lo, .int .i64 p.target.c.hi, .slice a2 ones.length cap2] 119 (0, 0))) (.cells #[.slice la lows.length lc, .slice ha highs.length hc] 128 (0, 0)); simpa using h), by have h := blk_new (((w).alloc (.cells #[.slice a p.lots.length cap, .int .i64 p.mass.lo, .int .i64 p.mass.hi, .int .i64 p.target.a.lo, .int .i64 p.target.a.hi, .int .i64 p.target.b.lo, .int .i64 p.target.b.hi, .int .i64 p.target.c.lo, .int .i64 p.target.c.hi, .slice a2 ones.length cap2] 119 (0, 0))).alloc (.cells #[.slice la lows.length lc, .slice ha highs.length hc] 128 (0, 0))) (.cells #[.int .i64 0, .int .i64 0, .int .i64 0, .int .i64 0, .int .i64 0, .int .i64 0, .int .i64 0, .int .i64 0] 110 (0, 0)); simpa using h⟩ (fun W hW => ?_)
  obtain ⟨hr0, hsz, hB0, hB1, hB2⟩ := hW
  have hr : Ex [] W W := Ex.refl _ _
  have f0_0 := cellE (S := []) hB0 (by first | (simp; done) | (simp; omega)) 0 rfl
  have f0_1 := cellE (S := []) hB0 (by first | (simp; done) | (simp; omega)) 1 rfl
  have f0_2 := cellE (S := []) hB0 (by first | (simp; done) | (simp; omega)) 2 rfl
  have f0_3 := cellE (S := []) hB0 (by first | (simp; done) | (simp; omega)) 3 rfl
  have f0_4 := cellE (S := []) hB0 (by first | (simp; done) | (simp; omega)) 4 rfl
  have f0_5 := cellE (S := []) hB0 (by first | (simp; done) | (simp; omega)) 5 rfl
  have f0_6 := cellE (S := []) hB0 (by first | (simp; done) | (simp; omega)) 6 rfl
  have f0_7 := cellE (S := []) hB0 (by first | (simp; done) | (simp; omega)) 7 rfl
  have f0_8 := cellE (S := []) hB0 (by first | (simp; done) | (simp; omega)) 8 rfl
  have f0_9 := cellE (S := []) hB0 (by first | (simp; done) | (simp; omega)) 9 rfl
  have f1_0 := cellE (S := []) hB1 (by first | (simp; done) | (simp; omega)) 0 rfl
  have f1_1 := cellE (S := []) hB1 (by first | (simp; done) | (simp; omega)) 1 rfl
  clear hB0 hB1
  have hsz' := Nat.le_of_eq hsz.symm; have hsz'' := Nat.le_of_eq hsz; clear hsz
  have hB2' := Lib.hid hB2; clear hB2
  have wl : ∀ n : Int, 0 ≤ n → n < 9 → IntKind.i64.wrap n = n := fun n h1 h2 => by rw [IntKind.wrap_i64]; omega
  go_upto_region 2 with (go_at_call 58; refine (base_c p a cap _).mono ?_; rintro e w1 ⟨rfl, h1⟩; replace h1 : Ext W w1 := h1)
  refine wp_at (fun X => Ext W X ∧ w1.heap.size < X.heap.size ∧ W.heap.size ≤ w1.heap.size ∧ X.heap[w1.heap.size]? = some (.cells #[.int .i64 ((baseM p).m0), .int .i64 ((baseM p).m1), .int .i64 ((baseM p).m2), .int .i64 ((baseM p).m3), .int .i64 ((baseM p).m4), .int .i64 ((baseM p).m5), .int .i64 ((baseM p).m6), .int .i64 ((baseM p).m7)] 110 (0, 0))) ⟨h1.alloc _, lt_of_block (blk_new _ _), h1.size, blk_new _ _⟩ (fun X hX => ?_)
  obtain ⟨h1X, hgX, hgW, hG⟩ := hX
  clear h1
  obtain ⟨gm, hgm⟩ : ∃ gm, gm = w1.heap.size := ⟨_, rfl⟩
  rw [← hgm] at hgX hgW hG ⊢
  clear hgm
  have hG' := Lib.hid hG; clear hG
  have hrX : Ex [] X X := Ex.refl _ _
  replace f0_0 := fun w' (h : Ex [] X w') => f0_0 w' (h1X.trans h)
  replace f0_1 := fun w' (h : Ex [] X w') => f0_1 w' (h1X.trans h)
  replace f0_2 := fun w' (h : Ex [] X w') => f0_2 w' (h1X.trans h)
  replace f0_3 := fun w' (h : Ex [] X w') => f0_3 w' (h1X.trans h)
  replace f0_4 := fun w' (h : Ex [] X w') => f0_4 w' (h1X.trans h)
  replace f0_5 := fun w' (h : Ex [] X w') => f0_5 w' (h1X.trans h)
  replace f0_6 := fun w' (h : Ex [] X w') => f0_6 w' (h1X.trans h)
  replace f0_7 := fun w' (h : Ex [] X w') => f0_7 w' (h1X.trans h)
  replace f0_8 := fun w' (h : Ex [] X w') => f0_8 w' (h1X.trans h)
  replace f0_9 := fun w' (h : Ex [] X w') => f0_9 w' (h1X.trans h)
  replace f1_0 := fun w' (h : Ex [gm] X w') => f1_0 w' (h1X.trans_fresh h (by simp; omega))
  replace f1_1 := fun w' (h : Ex [gm] X w') => f1_1 w' (h1X.trans_fresh h (by simp; omega))
  go_upto_region 3 with fail
  go_wp2_with fail
  go_loopg [16] (ones.length) (fun g i wr => ∃ (k : Nat) (mm : Mar), g = ones.length - k ∧ k ≤ ones.length ∧ i = .int .i64 k ∧ mm = greatTo p ones lows highs k ∧ Ex [gm] X wr ∧ wr.heap[gm]? = some (.cells #[.int .i64 mm.m0, .int .i64 mm.m1, .int .i64 mm.m2, .int .i64 mm.m3, .int .i64 mm.m4, .int .i64 mm.m5, .int .i64 mm.m6, .int .i64 mm.m7] 110 (0, 0)))
  case atStart => exact ⟨0, _, rfl, by omega, rfl, rfl, Ex.refl _ _, hG'.out⟩
  case round =>
    obtain ⟨k, mm, rfl, hk, rfl, hmm, hE, hT⟩ := hrel
    have hmm' := Lib.hid hmm; clear hmm
    have hgr := lt_of_block hT
    have hgr' := Nat.ne_of_lt hgr
    by_cases hlt : k < ones.length
    · obtain ⟨b2, off2, rfl, hbw2, hss⟩ := hs.cells (by omega)
      have d0 := hE.cell (by simp; omega) (h1X.cell (by simp) (hr0.cell (by simp) (hss k (by omega) 0 _ rfl)))
      rw [Nat.add_zero, nth_eq ones .zero] at d0
      have d1 := hE.cell (by simp; omega) (h1X.cell (by simp) (hr0.cell (by simp) (hss k (by omega) 1 _ rfl)))
      rw [nth_eq ones .zero] at d1
      have d2 := hE.cell (by simp; omega) (h1X.cell (by simp) (hr0.cell (by simp) (hss k (by omega) 2 _ rfl)))
      rw [nth_eq ones .zero] at d2
      have d3 := hE.cell (by simp; omega) (h1X.cell (by simp) (hr0.cell (by simp) (hss k (by omega) 3 _ rfl)))
      rw [nth_eq ones .zero] at d3
      have d4 := hE.cell (by simp; omega) (h1X.cell (by simp) (hr0.cell (by simp) (hss k (by omega) 4 _ rfl)))
      rw [nth_eq ones .zero] at d4
      have d5 := hE.cell (by simp; omega) (h1X.cell (by simp) (hr0.cell (by simp) (hss k (by omega) 5 _ rfl)))
      rw [nth_eq ones .zero] at d5
      have d6 := hE.cell (by simp; omega) (h1X.cell (by simp) (hr0.cell (by simp) (hss k (by omega) 6 _ rfl)))
      rw [nth_eq ones .zero] at d6
      have d7 := hE.cell (by simp; omega) (h1X.cell (by simp) (hr0.cell (by simp) (hss k (by omega) 7 _ rfl)))
      rw [nth_eq ones .zero] at d7
      clear hss
      obtain ⟨mo, hmo⟩ : ∃ mo, mo = nth ones Mar.zero k := ⟨_, rfl⟩
      rw [← hmo] at d0 d1 d2 d3 d4 d5 d6 d7
      have hmo' := Lib.hid hmo; clear hmo
      obtain ⟨bl, offl, rfl, hbl, hll⟩ := hl.cells (by omega)
      have hlx : ∀ w', Ex [gm] X w' → w'.cell? ⟨bl, offl + k, none⟩ = some (.int .i64 (nth lows 0 k)) := fun w' h => by
        have c0 := (hr0.trans h1X).trans_fresh h (by simp; omega) |>.cell (by simp) (hll k (by omega) 0 _ rfl)
        rwa [Nat.add_zero, Nat.mul_one, nth_eq lows 0] at c0
      clear hll
      obtain ⟨bh, offh, rfl, hbh, hhh⟩ := hh.cells (by omega)
      have hhx : ∀ w', Ex [gm] X w' → w'.cell? ⟨bh, offh + k, none⟩ = some (.int .i64 (nth highs 0 k)) := fun w' h => by
        have c0 := (hr0.trans h1X).trans_fresh h (by simp; omega) |>.cell (by simp) (hhh k (by omega) 0 _ rfl)
        rwa [Nat.add_zero, Nat.mul_one, nth_eq highs 0] at c0
      clear hhh
      have hk0 : (0 : Int) ≤ (k : Int) := by omega
      have hk1 : (k : Int) < (lows.length : Int) := by omega
      have hk2 : (k : Int) < (highs.length : Int) := by omega
      have ix0 : ∀ w, (Instr.index 110 (.agg #[.int .i64 mo.m0, .int .i64 mo.m1, .int .i64 mo.m2, .int .i64 mo.m3, .int .i64 mo.m4, .int .i64 mo.m5, .int .i64 mo.m6, .int .i64 mo.m7]) (.int .i64 0)).run Try.prog w = .ok (.int .i64 mo.m0) w := fun _ => by kernel_rfl
      have ix1 : ∀ w, (Instr.index 110 (.agg #[.int .i64 mo.m0, .int .i64 mo.m1, .int .i64 mo.m2, .int .i64 mo.m3, .int .i64 mo.m4, .int .i64 mo.m5, .int .i64 mo.m6, .int .i64 mo.m7]) (.int .i64 1)).run Try.prog w = .ok (.int .i64 mo.m1) w := fun _ => by kernel_rfl
      have ix2 : ∀ w, (Instr.index 110 (.agg #[.int .i64 mo.m0, .int .i64 mo.m1, .int .i64 mo.m2, .int .i64 mo.m3, .int .i64 mo.m4, .int .i64 mo.m5, .int .i64 mo.m6, .int .i64 mo.m7]) (.int .i64 2)).run Try.prog w = .ok (.int .i64 mo.m2) w := fun _ => by kernel_rfl
      have ix3 : ∀ w, (Instr.index 110 (.agg #[.int .i64 mo.m0, .int .i64 mo.m1, .int .i64 mo.m2, .int .i64 mo.m3, .int .i64 mo.m4, .int .i64 mo.m5, .int .i64 mo.m6, .int .i64 mo.m7]) (.int .i64 3)).run Try.prog w = .ok (.int .i64 mo.m3) w := fun _ => by kernel_rfl
      have ix4 : ∀ w, (Instr.index 110 (.agg #[.int .i64 mo.m0, .int .i64 mo.m1, .int .i64 mo.m2, .int .i64 mo.m3, .int .i64 mo.m4, .int .i64 mo.m5, .int .i64 mo.m6, .int .i64 mo.m7]) (.int .i64 4)).run Try.prog w = .ok (.int .i64 mo.m4) w := fun _ => by kernel_rfl
      have ix5 : ∀ w, (Instr.index 110 (.agg #[.int .i64 mo.m0, .int .i64 mo.m1, .int .i64 mo.m2, .int .i64 mo.m3, .int .i64 mo.m4, .int .i64 mo.m5, .int .i64 mo.m6, .int .i64 mo.m7]) (.int .i64 5)).run Try.prog w = .ok (.int .i64 mo.m5) w := fun _ => by kernel_rfl
      have ix6 : ∀ w, (Instr.index 110 (.agg #[.int .i64 mo.m0, .int .i64 mo.m1, .int .i64 mo.m2, .int .i64 mo.m3, .int .i64 mo.m4, .int .i64 mo.m5, .int .i64 mo.m6, .int .i64 mo.m7]) (.int .i64 6)).run Try.prog w = .ok (.int .i64 mo.m6) w := fun _ => by kernel_rfl
      have ix7 : ∀ w, (Instr.index 110 (.agg #[.int .i64 mo.m0, .int .i64 mo.m1, .int .i64 mo.m2, .int .i64 mo.m3, .int .i64 mo.m4, .int .i64 mo.m5, .int .i64 mo.m6, .int .i64 mo.m7]) (.int .i64 7)).run Try.prog w = .ok (.int .i64 mo.m7) w := fun _ => by kernel_rfl
      go_upto_region 5 with fail
      refine wp_at (fun Y => Ex [gm] X Y ∧ Y.heap[gm]? = some (.cells #[.int .i64 mm.m0, .int .i64 mm.m1, .int .i64 mm.m2, .int .i64 mm.m3, .int .i64 mm.m4, .int .i64 mm.m5, .int .i64 mm.m6, .int .i64 mm.m7] 110 (0, 0)) ∧ Y.heap[wr.heap.size]? = some (.cells #[.int .i64 mo.m0, .int .i64 mo.m1, .int .i64 mo.m2, .int .i64 mo.m3, .int .i64 mo.m4, .int .i64 mo.m5, .int .i64 mo.m6, .int .i64 mo.m7] 110 (0, 0))) ⟨hE.alloc _, blk_alloc hT, blk_new _ _⟩ (fun Y0 hY => ?_)
      obtain ⟨hY0, hB0, hC⟩ := hY
      have c0 := blk_cell hC 0 rfl
      have c1 := blk_cell hC 1 rfl
      have c2 := blk_cell hC 2 rfl
      have c3 := blk_cell hC 3 rfl
      have c4 := blk_cell hC 4 rfl
      have c5 := blk_cell hC 5 rfl
      have c6 := blk_cell hC 6 rfl
      have c7 := blk_cell hC 7 rfl
      clear hC d0 d1 d2 d3 d4 d5 d6 d7 hT hE
      go_wp2_with fail
      clear c0 c1 c2 c3 c4 c5 c6 c7
      refine wp_loop_rounds 9 ?_
      rw [rounds_succ]
      go_wp2_with fail
      have hrY0 : Ex [] Y0 Y0 := Ex.refl _ _
      have q0 := cellE (S := []) hB0 (by simp) 0 rfl
      have q1 := freeE (S := []) hB0 (by simp) 0
      have q2 := fun w' (h : Ex [] Y0 w') => hlx w' (hY0.trans (h.mono (by simp)))
      have q3 := fun w' (h : Ex [] Y0 w') => hhx w' (hY0.trans (h.mono (by simp)))
      have q4 := fun w' (h : Ex [] Y0 w') => f1_0 w' (hY0.trans (h.mono (by simp)))
      have q5 := fun w' (h : Ex [] Y0 w') => f1_1 w' (hY0.trans (h.mono (by simp)))
      have hB0' := Lib.hid hB0; clear hB0
      refine region_plan (fun w' => Ex [] Y0 w') [.pu [0, 1, 3, 4, 6, 10, 11, 13], .st [2, 5, 12], .pu [7, 14], .st [8, 15], .pu [9, 16, 17, 18, 19], .tl [20]] (by kernel_rfl) (by kernel_rfl) (Ex.drew (by first | (with_reducible assumption) | (repeat (with_reducible first | exact Ex.refl _ _ | assumption | exact Ex.mono (by assumption) (by simp; done) | refine Ex.alloc ?_ _ | refine Ex.drew ?_ | refine Ex.drewN ?_ _ | refine Ex.setCell ?_ (by first | (left; simp; done) | (right; simp; done) | (right; simp; omega)) _ | refine Ex.trans ?_ (by assumption))))) ?_
      refine plan_pu (fun K hK => ?_)
      simp only [pick, List.drop_succ_cons, List.drop_zero, List.take_succ_cons, List.take_zero, List.cons_append, List.nil_append]
      iterate 8 (first | (refine wpYield_want ?_ (by rfl) (fun w' hS' => ?_) ?_; rotate_left; ((try dsimp only at hS'); go_simp; try with_reducible rfl); simp only [Act.put, List.setIfInBounds_toArray, List.set_cons_zero, List.set_cons_succ]) | (refine wpYield_skip (by rfl) ?_; simp only [Act.put, List.setIfInBounds_toArray, List.set_cons_zero, List.set_cons_succ]))
      try simp only [ite_mx]
      refine wpYield_nil (hK _ ?_)
      clear hK K
      refine plan_st (fun K hK => ?_)
      simp only [pick, List.drop_succ_cons, List.drop_zero, List.take_succ_cons, List.take_zero, List.cons_append, List.nil_append]
      iterate 3 (first | (refine wpYield_want ?_ (by rfl) (fun w' hS' => ?_) ?_; rotate_left; ((try dsimp only at hS'); go_simp; try with_reducible rfl); simp only [Act.put, List.setIfInBounds_toArray, List.set_cons_zero, List.set_cons_succ]) | (refine wpYield_skip (by rfl) ?_; simp only [Act.put, List.setIfInBounds_toArray, List.set_cons_zero, List.set_cons_succ]))
      try simp only [ite_mx]
      refine wpYield_nil (hK _ ?_)
      clear hK K
      refine plan_pu (fun K hK => ?_)
      simp only [pick, List.drop_succ_cons, List.drop_zero, List.take_succ_cons, List.take_zero, List.cons_append, List.nil_append]
      iterate 2 (first | (refine wpYield_want ?_ (by rfl) (fun w' hS' => ?_) ?_; rotate_left; ((try dsimp only at hS'); go_simp; try with_reducible rfl); simp only [Act.put, List.setIfInBounds_toArray, List.set_cons_zero, List.set_cons_succ]) | (refine wpYield_skip (by rfl) ?_; simp only [Act.put, List.setIfInBounds_toArray, List.set_cons_zero, List.set_cons_succ]))
      try simp only [ite_mx]
      refine wpYield_nil (hK _ ?_)
      clear hK K
      refine plan_st (fun K hK => ?_)
      simp only [pick, List.drop_succ_cons, List.drop_zero, List.take_succ_cons, List.take_zero, List.cons_append, List.nil_append]
      iterate 2 (first | (refine wpYield_want ?_ (by rfl) (fun w' hS' => ?_) ?_; rotate_left; ((try dsimp only at hS'); go_simp; try with_reducible rfl); simp only [Act.put, List.setIfInBounds_toArray, List.set_cons_zero, List.set_cons_succ]) | (refine wpYield_skip (by rfl) ?_; simp only [Act.put, List.setIfInBounds_toArray, List.set_cons_zero, List.set_cons_succ]))
      try simp only [ite_mx]
      refine wpYield_nil (hK _ ?_)
      clear hK K
      refine plan_pu (fun K hK => ?_)
      simp only [pick, List.drop_succ_cons, List.drop_zero, List.take_succ_cons, List.take_zero, List.cons_append, List.nil_append]
      iterate 5 (first | (refine wpYield_want ?_ (by rfl) (fun w' hS' => ?_) ?_; rotate_left; ((try dsimp only at hS'); go_simp; try with_reducible rfl); simp only [Act.put, List.setIfInBounds_toArray, List.set_cons_zero, List.set_cons_succ]) | (refine wpYield_skip (by rfl) ?_; simp only [Act.put, List.setIfInBounds_toArray, List.set_cons_zero, List.set_cons_succ]))
      try simp only [ite_mx]
      refine wpYield_nil (hK _ ?_)
      clear hK K
      refine plan_tl (fun K hK => ?_)
      simp only [pick, List.drop_succ_cons, List.drop_zero, List.take_succ_cons, List.take_zero, List.cons_append, List.nil_append]
      go_wp2_with fail
      try refine ⟨rfl, hK _ _ ?_⟩
      try clear hK K
      refine plan_nil ?_
      go_upto_region 9 with fail
      refine wp_at (fun Y => Ex [gm] X Y ∧ Y.heap[gm]? = some (.cells #[.int .i64 (wrap64 (mm.m0 + mx (wrap64 (mo.m0 * nth lows 0 k)) (wrap64 (mo.m0 * nth highs 0 k)))), .int .i64 mm.m1, .int .i64 mm.m2, .int .i64 mm.m3, .int .i64 mm.m4, .int .i64 mm.m5, .int .i64 mm.m6, .int .i64 mm.m7] 110 (0, 0))) ⟨(hY0.drew).setCell (.inl (by simp)) _, blk_to (blk_set (blk_drew hB0'.out) 0 _) (by kernel_rfl)⟩ (fun Y1 hY => ?_)
      obtain ⟨hY1, hB1⟩ := hY
      clear hY0 hrY0 q0 q1 q2 q3 q4 q5 hB0'
      go_wp2_with fail
      rw [rounds_succ]
      go_wp2_with fail
      have hrY1 : Ex [] Y1 Y1 := Ex.refl _ _
      have q0 := cellE (S := []) hB1 (by simp) 1 rfl
      have q1 := freeE (S := []) hB1 (by simp) 1
      have q2 := fun w' (h : Ex [] Y1 w') => hlx w' (hY1.trans (h.mono (by simp)))
      have q3 := fun w' (h : Ex [] Y1 w') => hhx w' (hY1.trans (h.mono (by simp)))
      have q4 := fun w' (h : Ex [] Y1 w') => f1_0 w' (hY1.trans (h.mono (by simp)))
      have q5 := fun w' (h : Ex [] Y1 w') => f1_1 w' (hY1.trans (h.mono (by simp)))
      have hB1' := Lib.hid hB1; clear hB1
      refine region_plan (fun w' => Ex [] Y1 w') [.pu [0, 1, 3, 4, 6, 10, 11, 13], .st [2, 5, 12], .pu [7, 14], .st [8, 15], .pu [9, 16, 17, 18, 19], .tl [20]] (by kernel_rfl) (by kernel_rfl) (Ex.drew (by first | (with_reducible assumption) | (repeat (with_reducible first | exact Ex.refl _ _ | assumption | exact Ex.mono (by assumption) (by simp; done) | refine Ex.alloc ?_ _ | refine Ex.drew ?_ | refine Ex.drewN ?_ _ | refine Ex.setCell ?_ (by first | (left; simp; done) | (right; simp; done) | (right; simp; omega)) _ | refine Ex.trans ?_ (by assumption))))) ?_
      refine plan_pu (fun K hK => ?_)
      simp only [pick, List.drop_succ_cons, List.drop_zero, List.take_succ_cons, List.take_zero, List.cons_append, List.nil_append]
      iterate 8 (first | (refine wpYield_want ?_ (by rfl) (fun w' hS' => ?_) ?_; rotate_left; ((try dsimp only at hS'); go_simp; try with_reducible rfl); simp only [Act.put, List.setIfInBounds_toArray, List.set_cons_zero, List.set_cons_succ]) | (refine wpYield_skip (by rfl) ?_; simp only [Act.put, List.setIfInBounds_toArray, List.set_cons_zero, List.set_cons_succ]))
      try simp only [ite_mx]
      refine wpYield_nil (hK _ ?_)
      clear hK K
      refine plan_st (fun K hK => ?_)
      simp only [pick, List.drop_succ_cons, List.drop_zero, List.take_succ_cons, List.take_zero, List.cons_append, List.nil_append]
      iterate 3 (first | (refine wpYield_want ?_ (by rfl) (fun w' hS' => ?_) ?_; rotate_left; ((try dsimp only at hS'); go_simp; try with_reducible rfl); simp only [Act.put, List.setIfInBounds_toArray, List.set_cons_zero, List.set_cons_succ]) | (refine wpYield_skip (by rfl) ?_; simp only [Act.put, List.setIfInBounds_toArray, List.set_cons_zero, List.set_cons_succ]))
      try simp only [ite_mx]
      refine wpYield_nil (hK _ ?_)
      clear hK K
      refine plan_pu (fun K hK => ?_)
      simp only [pick, List.drop_succ_cons, List.drop_zero, List.take_succ_cons, List.take_zero, List.cons_append, List.nil_append]
      iterate 2 (first | (refine wpYield_want ?_ (by rfl) (fun w' hS' => ?_) ?_; rotate_left; ((try dsimp only at hS'); go_simp; try with_reducible rfl); simp only [Act.put, List.setIfInBounds_toArray, List.set_cons_zero, List.set_cons_succ]) | (refine wpYield_skip (by rfl) ?_; simp only [Act.put, List.setIfInBounds_toArray, List.set_cons_zero, List.set_cons_succ]))
      try simp only [ite_mx]
      refine wpYield_nil (hK _ ?_)
      clear hK K
      refine plan_st (fun K hK => ?_)
      simp only [pick, List.drop_succ_cons, List.drop_zero, List.take_succ_cons, List.take_zero, List.cons_append, List.nil_append]
      iterate 2 (first | (refine wpYield_want ?_ (by rfl) (fun w' hS' => ?_) ?_; rotate_left; ((try dsimp only at hS'); go_simp; try with_reducible rfl); simp only [Act.put, List.setIfInBounds_toArray, List.set_cons_zero, List.set_cons_succ]) | (refine wpYield_skip (by rfl) ?_; simp only [Act.put, List.setIfInBounds_toArray, List.set_cons_zero, List.set_cons_succ]))
      try simp only [ite_mx]
      refine wpYield_nil (hK _ ?_)
      clear hK K
      refine plan_pu (fun K hK => ?_)
      simp only [pick, List.drop_succ_cons, List.drop_zero, List.take_succ_cons, List.take_zero, List.cons_append, List.nil_append]
      iterate 5 (first | (refine wpYield_want ?_ (by rfl) (fun w' hS' => ?_) ?_; rotate_left; ((try dsimp only at hS'); go_simp; try with_reducible rfl); simp only [Act.put, List.setIfInBounds_toArray, List.set_cons_zero, List.set_cons_succ]) | (refine wpYield_skip (by rfl) ?_; simp only [Act.put, List.setIfInBounds_toArray, List.set_cons_zero, List.set_cons_succ]))
      try simp only [ite_mx]
      refine wpYield_nil (hK _ ?_)
      clear hK K
      refine plan_tl (fun K hK => ?_)
      simp only [pick, List.drop_succ_cons, List.drop_zero, List.take_succ_cons, List.take_zero, List.cons_append, List.nil_append]
      go_wp2_with fail
      try refine ⟨rfl, hK _ _ ?_⟩
      try clear hK K
      refine plan_nil ?_
      go_upto_region 9 with fail
      refine wp_at (fun Y => Ex [gm] X Y ∧ Y.heap[gm]? = some (.cells #[.int .i64 (wrap64 (mm.m0 + mx (wrap64 (mo.m0 * nth lows 0 k)) (wrap64 (mo.m0 * nth highs 0 k)))), .int .i64 (wrap64 (mm.m1 + mx (wrap64 (mo.m1 * nth lows 0 k)) (wrap64 (mo.m1 * nth highs 0 k)))), .int .i64 mm.m2, .int .i64 mm.m3, .int .i64 mm.m4, .int .i64 mm.m5, .int .i64 mm.m6, .int .i64 mm.m7] 110 (0, 0))) ⟨(hY1.drew).setCell (.inl (by simp)) _, blk_to (blk_set (blk_drew hB1'.out) 1 _) (by kernel_rfl)⟩ (fun Y2 hY => ?_)
      obtain ⟨hY2, hB2⟩ := hY
      clear hY1 hrY1 q0 q1 q2 q3 q4 q5 hB1'
      go_wp2_with fail
      rw [rounds_succ]
      go_wp2_with fail
      have hrY2 : Ex [] Y2 Y2 := Ex.refl _ _
      have q0 := cellE (S := []) hB2 (by simp) 2 rfl
      have q1 := freeE (S := []) hB2 (by simp) 2
      have q2 := fun w' (h : Ex [] Y2 w') => hlx w' (hY2.trans (h.mono (by simp)))
      have q3 := fun w' (h : Ex [] Y2 w') => hhx w' (hY2.trans (h.mono (by simp)))
      have q4 := fun w' (h : Ex [] Y2 w') => f1_0 w' (hY2.trans (h.mono (by simp)))
      have q5 := fun w' (h : Ex [] Y2 w') => f1_1 w' (hY2.trans (h.mono (by simp)))
      have hB2' := Lib.hid hB2; clear hB2
      refine region_plan (fun w' => Ex [] Y2 w') [.pu [0, 1, 3, 4, 6, 10, 11, 13], .st [2, 5, 12], .pu [7, 14], .st [8, 15], .pu [9, 16, 17, 18, 19], .tl [20]] (by kernel_rfl) (by kernel_rfl) (Ex.drew (by first | (with_reducible assumption) | (repeat (with_reducible first | exact Ex.refl _ _ | assumption | exact Ex.mono (by assumption) (by simp; done) | refine Ex.alloc ?_ _ | refine Ex.drew ?_ | refine Ex.drewN ?_ _ | refine Ex.setCell ?_ (by first | (left; simp; done) | (right; simp; done) | (right; simp; omega)) _ | refine Ex.trans ?_ (by assumption))))) ?_
      refine plan_pu (fun K hK => ?_)
      simp only [pick, List.drop_succ_cons, List.drop_zero, List.take_succ_cons, List.take_zero, List.cons_append, List.nil_append]
      iterate 8 (first | (refine wpYield_want ?_ (by rfl) (fun w' hS' => ?_) ?_; rotate_left; ((try dsimp only at hS'); go_simp; try with_reducible rfl); simp only [Act.put, List.setIfInBounds_toArray, List.set_cons_zero, List.set_cons_succ]) | (refine wpYield_skip (by rfl) ?_; simp only [Act.put, List.setIfInBounds_toArray, List.set_cons_zero, List.set_cons_succ]))
      try simp only [ite_mx]
      refine wpYield_nil (hK _ ?_)
      clear hK K
      refine plan_st (fun K hK => ?_)
      simp only [pick, List.drop_succ_cons, List.drop_zero, List.take_succ_cons, List.take_zero, List.cons_append, List.nil_append]
      iterate 3 (first | (refine wpYield_want ?_ (by rfl) (fun w' hS' => ?_) ?_; rotate_left; ((try dsimp only at hS'); go_simp; try with_reducible rfl); simp only [Act.put, List.setIfInBounds_toArray, List.set_cons_zero, List.set_cons_succ]) | (refine wpYield_skip (by rfl) ?_; simp only [Act.put, List.setIfInBounds_toArray, List.set_cons_zero, List.set_cons_succ]))
      try simp only [ite_mx]
      refine wpYield_nil (hK _ ?_)
      clear hK K
      refine plan_pu (fun K hK => ?_)
      simp only [pick, List.drop_succ_cons, List.drop_zero, List.take_succ_cons, List.take_zero, List.cons_append, List.nil_append]
      iterate 2 (first | (refine wpYield_want ?_ (by rfl) (fun w' hS' => ?_) ?_; rotate_left; ((try dsimp only at hS'); go_simp; try with_reducible rfl); simp only [Act.put, List.setIfInBounds_toArray, List.set_cons_zero, List.set_cons_succ]) | (refine wpYield_skip (by rfl) ?_; simp only [Act.put, List.setIfInBounds_toArray, List.set_cons_zero, List.set_cons_succ]))
      try simp only [ite_mx]
      refine wpYield_nil (hK _ ?_)
      clear hK K
      refine plan_st (fun K hK => ?_)
      simp only [pick, List.drop_succ_cons, List.drop_zero, List.take_succ_cons, List.take_zero, List.cons_append, List.nil_append]
      iterate 2 (first | (refine wpYield_want ?_ (by rfl) (fun w' hS' => ?_) ?_; rotate_left; ((try dsimp only at hS'); go_simp; try with_reducible rfl); simp only [Act.put, List.setIfInBounds_toArray, List.set_cons_zero, List.set_cons_succ]) | (refine wpYield_skip (by rfl) ?_; simp only [Act.put, List.setIfInBounds_toArray, List.set_cons_zero, List.set_cons_succ]))
      try simp only [ite_mx]
      refine wpYield_nil (hK _ ?_)
      clear hK K
      refine plan_pu (fun K hK => ?_)
      simp only [pick, List.drop_succ_cons, List.drop_zero, List.take_succ_cons, List.take_zero, List.cons_append, List.nil_append]
      iterate 5 (first | (refine wpYield_want ?_ (by rfl) (fun w' hS' => ?_) ?_; rotate_left; ((try dsimp only at hS'); go_simp; try with_reducible rfl); simp only [Act.put, List.setIfInBounds_toArray, List.set_cons_zero, List.set_cons_succ]) | (refine wpYield_skip (by rfl) ?_; simp only [Act.put, List.setIfInBounds_toArray, List.set_cons_zero, List.set_cons_succ]))
      try simp only [ite_mx]
      refine wpYield_nil (hK _ ?_)
      clear hK K
      refine plan_tl (fun K hK => ?_)
      simp only [pick, List.drop_succ_cons, List.drop_zero, List.take_succ_cons, List.take_zero, List.cons_append, List.nil_append]
      go_wp2_with fail
      try refine ⟨rfl, hK _ _ ?_⟩
      try clear hK K
      refine plan_nil ?_
      go_upto_region 9 with fail
      refine wp_at (fun Y => Ex [gm] X Y ∧ Y.heap[gm]? = some (.cells #[.int .i64 (wrap64 (mm.m0 + mx (wrap64 (mo.m0 * nth lows 0 k)) (wrap64 (mo.m0 * nth highs 0 k)))), .int .i64 (wrap64 (mm.m1 + mx (wrap64 (mo.m1 * nth lows 0 k)) (wrap64 (mo.m1 * nth highs 0 k)))), .int .i64 (wrap64 (mm.m2 + mx (wrap64 (mo.m2 * nth lows 0 k)) (wrap64 (mo.m2 * nth highs 0 k)))), .int .i64 mm.m3, .int .i64 mm.m4, .int .i64 mm.m5, .int .i64 mm.m6, .int .i64 mm.m7] 110 (0, 0))) ⟨(hY2.drew).setCell (.inl (by simp)) _, blk_to (blk_set (blk_drew hB2'.out) 2 _) (by kernel_rfl)⟩ (fun Y3 hY => ?_)
      obtain ⟨hY3, hB3⟩ := hY
      clear hY2 hrY2 q0 q1 q2 q3 q4 q5 hB2'
      go_wp2_with fail
      rw [rounds_succ]
      go_wp2_with fail
      have hrY3 : Ex [] Y3 Y3 := Ex.refl _ _
      have q0 := cellE (S := []) hB3 (by simp) 3 rfl
      have q1 := freeE (S := []) hB3 (by simp) 3
      have q2 := fun w' (h : Ex [] Y3 w') => hlx w' (hY3.trans (h.mono (by simp)))
      have q3 := fun w' (h : Ex [] Y3 w') => hhx w' (hY3.trans (h.mono (by simp)))
      have q4 := fun w' (h : Ex [] Y3 w') => f1_0 w' (hY3.trans (h.mono (by simp)))
      have q5 := fun w' (h : Ex [] Y3 w') => f1_1 w' (hY3.trans (h.mono (by simp)))
      have hB3' := Lib.hid hB3; clear hB3
      refine region_plan (fun w' => Ex [] Y3 w') [.pu [0, 1, 3, 4, 6, 10, 11, 13], .st [2, 5, 12], .pu [7, 14], .st [8, 15], .pu [9, 16, 17, 18, 19], .tl [20]] (by kernel_rfl) (by kernel_rfl) (Ex.drew (by first | (with_reducible assumption) | (repeat (with_reducible first | exact Ex.refl _ _ | assumption | exact Ex.mono (by assumption) (by simp; done) | refine Ex.alloc ?_ _ | refine Ex.drew ?_ | refine Ex.drewN ?_ _ | refine Ex.setCell ?_ (by first | (left; simp; done) | (right; simp; done) | (right; simp; omega)) _ | refine Ex.trans ?_ (by assumption))))) ?_
      refine plan_pu (fun K hK => ?_)
      simp only [pick, List.drop_succ_cons, List.drop_zero, List.take_succ_cons, List.take_zero, List.cons_append, List.nil_append]
      iterate 8 (first | (refine wpYield_want ?_ (by rfl) (fun w' hS' => ?_) ?_; rotate_left; ((try dsimp only at hS'); go_simp; try with_reducible rfl); simp only [Act.put, List.setIfInBounds_toArray, List.set_cons_zero, List.set_cons_succ]) | (refine wpYield_skip (by rfl) ?_; simp only [Act.put, List.setIfInBounds_toArray, List.set_cons_zero, List.set_cons_succ]))
      try simp only [ite_mx]
      refine wpYield_nil (hK _ ?_)
      clear hK K
      refine plan_st (fun K hK => ?_)
      simp only [pick, List.drop_succ_cons, List.drop_zero, List.take_succ_cons, List.take_zero, List.cons_append, List.nil_append]
      iterate 3 (first | (refine wpYield_want ?_ (by rfl) (fun w' hS' => ?_) ?_; rotate_left; ((try dsimp only at hS'); go_simp; try with_reducible rfl); simp only [Act.put, List.setIfInBounds_toArray, List.set_cons_zero, List.set_cons_succ]) | (refine wpYield_skip (by rfl) ?_; simp only [Act.put, List.setIfInBounds_toArray, List.set_cons_zero, List.set_cons_succ]))
      try simp only [ite_mx]
      refine wpYield_nil (hK _ ?_)
      clear hK K
      refine plan_pu (fun K hK => ?_)
      simp only [pick, List.drop_succ_cons, List.drop_zero, List.take_succ_cons, List.take_zero, List.cons_append, List.nil_append]
      iterate 2 (first | (refine wpYield_want ?_ (by rfl) (fun w' hS' => ?_) ?_; rotate_left; ((try dsimp only at hS'); go_simp; try with_reducible rfl); simp only [Act.put, List.setIfInBounds_toArray, List.set_cons_zero, List.set_cons_succ]) | (refine wpYield_skip (by rfl) ?_; simp only [Act.put, List.setIfInBounds_toArray, List.set_cons_zero, List.set_cons_succ]))
      try simp only [ite_mx]
      refine wpYield_nil (hK _ ?_)
      clear hK K
      refine plan_st (fun K hK => ?_)
      simp only [pick, List.drop_succ_cons, List.drop_zero, List.take_succ_cons, List.take_zero, List.cons_append, List.nil_append]
      iterate 2 (first | (refine wpYield_want ?_ (by rfl) (fun w' hS' => ?_) ?_; rotate_left; ((try dsimp only at hS'); go_simp; try with_reducible rfl); simp only [Act.put, List.setIfInBounds_toArray, List.set_cons_zero, List.set_cons_succ]) | (refine wpYield_skip (by rfl) ?_; simp only [Act.put, List.setIfInBounds_toArray, List.set_cons_zero, List.set_cons_succ]))
      try simp only [ite_mx]
      refine wpYield_nil (hK _ ?_)
      clear hK K
      refine plan_pu (fun K hK => ?_)
      simp only [pick, List.drop_succ_cons, List.drop_zero, List.take_succ_cons, List.take_zero, List.cons_append, List.nil_append]
      iterate 5 (first | (refine wpYield_want ?_ (by rfl) (fun w' hS' => ?_) ?_; rotate_left; ((try dsimp only at hS'); go_simp; try with_reducible rfl); simp only [Act.put, List.setIfInBounds_toArray, List.set_cons_zero, List.set_cons_succ]) | (refine wpYield_skip (by rfl) ?_; simp only [Act.put, List.setIfInBounds_toArray, List.set_cons_zero, List.set_cons_succ]))
      try simp only [ite_mx]
      refine wpYield_nil (hK _ ?_)
      clear hK K
      refine plan_tl (fun K hK => ?_)
      simp only [pick, List.drop_succ_cons, List.drop_zero, List.take_succ_cons, List.take_zero, List.cons_append, List.nil_append]
      go_wp2_with fail
      try refine ⟨rfl, hK _ _ ?_⟩
      try clear hK K
      refine plan_nil ?_
      go_upto_region 9 with fail
      refine wp_at (fun Y => Ex [gm] X Y ∧ Y.heap[gm]? = some (.cells #[.int .i64 (wrap64 (mm.m0 + mx (wrap64 (mo.m0 * nth lows 0 k)) (wrap64 (mo.m0 * nth highs 0 k)))), .int .i64 (wrap64 (mm.m1 + mx (wrap64 (mo.m1 * nth lows 0 k)) (wrap64 (mo.m1 * nth highs 0 k)))), .int .i64 (wrap64 (mm.m2 + mx (wrap64 (mo.m2 * nth lows 0 k)) (wrap64 (mo.m2 * nth highs 0 k)))), .int .i64 (wrap64 (mm.m3 + mx (wrap64 (mo.m3 * nth lows 0 k)) (wrap64 (mo.m3 * nth highs 0 k)))), .int .i64 mm.m4, .int .i64 mm.m5, .int .i64 mm.m6, .int .i64 mm.m7] 110 (0, 0))) ⟨(hY3.drew).setCell (.inl (by simp)) _, blk_to (blk_set (blk_drew hB3'.out) 3 _) (by kernel_rfl)⟩ (fun Y4 hY => ?_)
      obtain ⟨hY4, hB4⟩ := hY
      clear hY3 hrY3 q0 q1 q2 q3 q4 q5 hB3'
      go_wp2_with fail
      rw [rounds_succ]
      go_wp2_with fail
      have hrY4 : Ex [] Y4 Y4 := Ex.refl _ _
      have q0 := cellE (S := []) hB4 (by simp) 4 rfl
      have q1 := freeE (S := []) hB4 (by simp) 4
      have q2 := fun w' (h : Ex [] Y4 w') => hlx w' (hY4.trans (h.mono (by simp)))
      have q3 := fun w' (h : Ex [] Y4 w') => hhx w' (hY4.trans (h.mono (by simp)))
      have q4 := fun w' (h : Ex [] Y4 w') => f1_0 w' (hY4.trans (h.mono (by simp)))
      have q5 := fun w' (h : Ex [] Y4 w') => f1_1 w' (hY4.trans (h.mono (by simp)))
      have hB4' := Lib.hid hB4; clear hB4
      refine region_plan (fun w' => Ex [] Y4 w') [.pu [0, 1, 3, 4, 6, 10, 11, 13], .st [2, 5, 12], .pu [7, 14], .st [8, 15], .pu [9, 16, 17, 18, 19], .tl [20]] (by kernel_rfl) (by kernel_rfl) (Ex.drew (by first | (with_reducible assumption) | (repeat (with_reducible first | exact Ex.refl _ _ | assumption | exact Ex.mono (by assumption) (by simp; done) | refine Ex.alloc ?_ _ | refine Ex.drew ?_ | refine Ex.drewN ?_ _ | refine Ex.setCell ?_ (by first | (left; simp; done) | (right; simp; done) | (right; simp; omega)) _ | refine Ex.trans ?_ (by assumption))))) ?_
      refine plan_pu (fun K hK => ?_)
      simp only [pick, List.drop_succ_cons, List.drop_zero, List.take_succ_cons, List.take_zero, List.cons_append, List.nil_append]
      iterate 8 (first | (refine wpYield_want ?_ (by rfl) (fun w' hS' => ?_) ?_; rotate_left; ((try dsimp only at hS'); go_simp; try with_reducible rfl); simp only [Act.put, List.setIfInBounds_toArray, List.set_cons_zero, List.set_cons_succ]) | (refine wpYield_skip (by rfl) ?_; simp only [Act.put, List.setIfInBounds_toArray, List.set_cons_zero, List.set_cons_succ]))
      try simp only [ite_mx]
      refine wpYield_nil (hK _ ?_)
      clear hK K
      refine plan_st (fun K hK => ?_)
      simp only [pick, List.drop_succ_cons, List.drop_zero, List.take_succ_cons, List.take_zero, List.cons_append, List.nil_append]
      iterate 3 (first | (refine wpYield_want ?_ (by rfl) (fun w' hS' => ?_) ?_; rotate_left; ((try dsimp only at hS'); go_simp; try with_reducible rfl); simp only [Act.put, List.setIfInBounds_toArray, List.set_cons_zero, List.set_cons_succ]) | (refine wpYield_skip (by rfl) ?_; simp only [Act.put, List.setIfInBounds_toArray, List.set_cons_zero, List.set_cons_succ]))
      try simp only [ite_mx]
      refine wpYield_nil (hK _ ?_)
      clear hK K
      refine plan_pu (fun K hK => ?_)
      simp only [pick, List.drop_succ_cons, List.drop_zero, List.take_succ_cons, List.take_zero, List.cons_append, List.nil_append]
      iterate 2 (first | (refine wpYield_want ?_ (by rfl) (fun w' hS' => ?_) ?_; rotate_left; ((try dsimp only at hS'); go_simp; try with_reducible rfl); simp only [Act.put, List.setIfInBounds_toArray, List.set_cons_zero, List.set_cons_succ]) | (refine wpYield_skip (by rfl) ?_; simp only [Act.put, List.setIfInBounds_toArray, List.set_cons_zero, List.set_cons_succ]))
      try simp only [ite_mx]
      refine wpYield_nil (hK _ ?_)
      clear hK K
      refine plan_st (fun K hK => ?_)
      simp only [pick, List.drop_succ_cons, List.drop_zero, List.take_succ_cons, List.take_zero, List.cons_append, List.nil_append]
      iterate 2 (first | (refine wpYield_want ?_ (by rfl) (fun w' hS' => ?_) ?_; rotate_left; ((try dsimp only at hS'); go_simp; try with_reducible rfl); simp only [Act.put, List.setIfInBounds_toArray, List.set_cons_zero, List.set_cons_succ]) | (refine wpYield_skip (by rfl) ?_; simp only [Act.put, List.setIfInBounds_toArray, List.set_cons_zero, List.set_cons_succ]))
      try simp only [ite_mx]
      refine wpYield_nil (hK _ ?_)
      clear hK K
      refine plan_pu (fun K hK => ?_)
      simp only [pick, List.drop_succ_cons, List.drop_zero, List.take_succ_cons, List.take_zero, List.cons_append, List.nil_append]
      iterate 5 (first | (refine wpYield_want ?_ (by rfl) (fun w' hS' => ?_) ?_; rotate_left; ((try dsimp only at hS'); go_simp; try with_reducible rfl); simp only [Act.put, List.setIfInBounds_toArray, List.set_cons_zero, List.set_cons_succ]) | (refine wpYield_skip (by rfl) ?_; simp only [Act.put, List.setIfInBounds_toArray, List.set_cons_zero, List.set_cons_succ]))
      try simp only [ite_mx]
      refine wpYield_nil (hK _ ?_)
      clear hK K
      refine plan_tl (fun K hK => ?_)
      simp only [pick, List.drop_succ_cons, List.drop_zero, List.take_succ_cons, List.take_zero, List.cons_append, List.nil_append]
      go_wp2_with fail
      try refine ⟨rfl, hK _ _ ?_⟩
      try clear hK K
      refine plan_nil ?_
      go_upto_region 9 with fail
      refine wp_at (fun Y => Ex [gm] X Y ∧ Y.heap[gm]? = some (.cells #[.int .i64 (wrap64 (mm.m0 + mx (wrap64 (mo.m0 * nth lows 0 k)) (wrap64 (mo.m0 * nth highs 0 k)))), .int .i64 (wrap64 (mm.m1 + mx (wrap64 (mo.m1 * nth lows 0 k)) (wrap64 (mo.m1 * nth highs 0 k)))), .int .i64 (wrap64 (mm.m2 + mx (wrap64 (mo.m2 * nth lows 0 k)) (wrap64 (mo.m2 * nth highs 0 k)))), .int .i64 (wrap64 (mm.m3 + mx (wrap64 (mo.m3 * nth lows 0 k)) (wrap64 (mo.m3 * nth highs 0 k)))), .int .i64 (wrap64 (mm.m4 + mx (wrap64 (mo.m4 * nth lows 0 k)) (wrap64 (mo.m4 * nth highs 0 k)))), .int .i64 mm.m5, .int .i64 mm.m6, .int .i64 mm.m7] 110 (0, 0))) ⟨(hY4.drew).setCell (.inl (by simp)) _, blk_to (blk_set (blk_drew hB4'.out) 4 _) (by kernel_rfl)⟩ (fun Y5 hY => ?_)
      obtain ⟨hY5, hB5⟩ := hY
      clear hY4 hrY4 q0 q1 q2 q3 q4 q5 hB4'
      go_wp2_with fail
      rw [rounds_succ]
      go_wp2_with fail
      have hrY5 : Ex [] Y5 Y5 := Ex.refl _ _
      have q0 := cellE (S := []) hB5 (by simp) 5 rfl
      have q1 := freeE (S := []) hB5 (by simp) 5
      have q2 := fun w' (h : Ex [] Y5 w') => hlx w' (hY5.trans (h.mono (by simp)))
      have q3 := fun w' (h : Ex [] Y5 w') => hhx w' (hY5.trans (h.mono (by simp)))
      have q4 := fun w' (h : Ex [] Y5 w') => f1_0 w' (hY5.trans (h.mono (by simp)))
      have q5 := fun w' (h : Ex [] Y5 w') => f1_1 w' (hY5.trans (h.mono (by simp)))
      have hB5' := Lib.hid hB5; clear hB5
      refine region_plan (fun w' => Ex [] Y5 w') [.pu [0, 1, 3, 4, 6, 10, 11, 13], .st [2, 5, 12], .pu [7, 14], .st [8, 15], .pu [9, 16, 17, 18, 19], .tl [20]] (by kernel_rfl) (by kernel_rfl) (Ex.drew (by first | (with_reducible assumption) | (repeat (with_reducible first | exact Ex.refl _ _ | assumption | exact Ex.mono (by assumption) (by simp; done) | refine Ex.alloc ?_ _ | refine Ex.drew ?_ | refine Ex.drewN ?_ _ | refine Ex.setCell ?_ (by first | (left; simp; done) | (right; simp; done) | (right; simp; omega)) _ | refine Ex.trans ?_ (by assumption))))) ?_
      refine plan_pu (fun K hK => ?_)
      simp only [pick, List.drop_succ_cons, List.drop_zero, List.take_succ_cons, List.take_zero, List.cons_append, List.nil_append]
      iterate 8 (first | (refine wpYield_want ?_ (by rfl) (fun w' hS' => ?_) ?_; rotate_left; ((try dsimp only at hS'); go_simp; try with_reducible rfl); simp only [Act.put, List.setIfInBounds_toArray, List.set_cons_zero, List.set_cons_succ]) | (refine wpYield_skip (by rfl) ?_; simp only [Act.put, List.setIfInBounds_toArray, List.set_cons_zero, List.set_cons_succ]))
      try simp only [ite_mx]
      refine wpYield_nil (hK _ ?_)
      clear hK K
      refine plan_st (fun K hK => ?_)
      simp only [pick, List.drop_succ_cons, List.drop_zero, List.take_succ_cons, List.take_zero, List.cons_append, List.nil_append]
      iterate 3 (first | (refine wpYield_want ?_ (by rfl) (fun w' hS' => ?_) ?_; rotate_left; ((try dsimp only at hS'); go_simp; try with_reducible rfl); simp only [Act.put, List.setIfInBounds_toArray, List.set_cons_zero, List.set_cons_succ]) | (refine wpYield_skip (by rfl) ?_; simp only [Act.put, List.setIfInBounds_toArray, List.set_cons_zero, List.set_cons_succ]))
      try simp only [ite_mx]
      refine wpYield_nil (hK _ ?_)
      clear hK K
      refine plan_pu (fun K hK => ?_)
      simp only [pick, List.drop_succ_cons, List.drop_zero, List.take_succ_cons, List.take_zero, List.cons_append, List.nil_append]
      iterate 2 (first | (refine wpYield_want ?_ (by rfl) (fun w' hS' => ?_) ?_; rotate_left; ((try dsimp only at hS'); go_simp; try with_reducible rfl); simp only [Act.put, List.setIfInBounds_toArray, List.set_cons_zero, List.set_cons_succ]) | (refine wpYield_skip (by rfl) ?_; simp only [Act.put, List.setIfInBounds_toArray, List.set_cons_zero, List.set_cons_succ]))
      try simp only [ite_mx]
      refine wpYield_nil (hK _ ?_)
      clear hK K
      refine plan_st (fun K hK => ?_)
      simp only [pick, List.drop_succ_cons, List.drop_zero, List.take_succ_cons, List.take_zero, List.cons_append, List.nil_append]
      iterate 2 (first | (refine wpYield_want ?_ (by rfl) (fun w' hS' => ?_) ?_; rotate_left; ((try dsimp only at hS'); go_simp; try with_reducible rfl); simp only [Act.put, List.setIfInBounds_toArray, List.set_cons_zero, List.set_cons_succ]) | (refine wpYield_skip (by rfl) ?_; simp only [Act.put, List.setIfInBounds_toArray, List.set_cons_zero, List.set_cons_succ]))
      try simp only [ite_mx]
      refine wpYield_nil (hK _ ?_)
      clear hK K
      refine plan_pu (fun K hK => ?_)
      simp only [pick, List.drop_succ_cons, List.drop_zero, List.take_succ_cons, List.take_zero, List.cons_append, List.nil_append]
      iterate 5 (first | (refine wpYield_want ?_ (by rfl) (fun w' hS' => ?_) ?_; rotate_left; ((try dsimp only at hS'); go_simp; try with_reducible rfl); simp only [Act.put, List.setIfInBounds_toArray, List.set_cons_zero, List.set_cons_succ]) | (refine wpYield_skip (by rfl) ?_; simp only [Act.put, List.setIfInBounds_toArray, List.set_cons_zero, List.set_cons_succ]))
      try simp only [ite_mx]
      refine wpYield_nil (hK _ ?_)
      clear hK K
      refine plan_tl (fun K hK => ?_)
      simp only [pick, List.drop_succ_cons, List.drop_zero, List.take_succ_cons, List.take_zero, List.cons_append, List.nil_append]
      go_wp2_with fail
      try refine ⟨rfl, hK _ _ ?_⟩
      try clear hK K
      refine plan_nil ?_
      go_upto_region 9 with fail
      refine wp_at (fun Y => Ex [gm] X Y ∧ Y.heap[gm]? = some (.cells #[.int .i64 (wrap64 (mm.m0 + mx (wrap64 (mo.m0 * nth lows 0 k)) (wrap64 (mo.m0 * nth highs 0 k)))), .int .i64 (wrap64 (mm.m1 + mx (wrap64 (mo.m1 * nth lows 0 k)) (wrap64 (mo.m1 * nth highs 0 k)))), .int .i64 (wrap64 (mm.m2 + mx (wrap64 (mo.m2 * nth lows 0 k)) (wrap64 (mo.m2 * nth highs 0 k)))), .int .i64 (wrap64 (mm.m3 + mx (wrap64 (mo.m3 * nth lows 0 k)) (wrap64 (mo.m3 * nth highs 0 k)))), .int .i64 (wrap64 (mm.m4 + mx (wrap64 (mo.m4 * nth lows 0 k)) (wrap64 (mo.m4 * nth highs 0 k)))), .int .i64 (wrap64 (mm.m5 + mx (wrap64 (mo.m5 * nth lows 0 k)) (wrap64 (mo.m5 * nth highs 0 k)))), .int .i64 mm.m6, .int .i64 mm.m7] 110 (0, 0))) ⟨(hY5.drew).setCell (.inl (by simp)) _, blk_to (blk_set (blk_drew hB5'.out) 5 _) (by kernel_rfl)⟩ (fun Y6 hY => ?_)
      obtain ⟨hY6, hB6⟩ := hY
      clear hY5 hrY5 q0 q1 q2 q3 q4 q5 hB5'
      go_wp2_with fail
      rw [rounds_succ]
      go_wp2_with fail
      have hrY6 : Ex [] Y6 Y6 := Ex.refl _ _
      have q0 := cellE (S := []) hB6 (by simp) 6 rfl
      have q1 := freeE (S := []) hB6 (by simp) 6
      have q2 := fun w' (h : Ex [] Y6 w') => hlx w' (hY6.trans (h.mono (by simp)))
      have q3 := fun w' (h : Ex [] Y6 w') => hhx w' (hY6.trans (h.mono (by simp)))
      have q4 := fun w' (h : Ex [] Y6 w') => f1_0 w' (hY6.trans (h.mono (by simp)))
      have q5 := fun w' (h : Ex [] Y6 w') => f1_1 w' (hY6.trans (h.mono (by simp)))
      have hB6' := Lib.hid hB6; clear hB6
      refine region_plan (fun w' => Ex [] Y6 w') [.pu [0, 1, 3, 4, 6, 10, 11, 13], .st [2, 5, 12], .pu [7, 14], .st [8, 15], .pu [9, 16, 17, 18, 19], .tl [20]] (by kernel_rfl) (by kernel_rfl) (Ex.drew (by first | (with_reducible assumption) | (repeat (with_reducible first | exact Ex.refl _ _ | assumption | exact Ex.mono (by assumption) (by simp; done) | refine Ex.alloc ?_ _ | refine Ex.drew ?_ | refine Ex.drewN ?_ _ | refine Ex.setCell ?_ (by first | (left; simp; done) | (right; simp; done) | (right; simp; omega)) _ | refine Ex.trans ?_ (by assumption))))) ?_
      refine plan_pu (fun K hK => ?_)
      simp only [pick, List.drop_succ_cons, List.drop_zero, List.take_succ_cons, List.take_zero, List.cons_append, List.nil_append]
      iterate 8 (first | (refine wpYield_want ?_ (by rfl) (fun w' hS' => ?_) ?_; rotate_left; ((try dsimp only at hS'); go_simp; try with_reducible rfl); simp only [Act.put, List.setIfInBounds_toArray, List.set_cons_zero, List.set_cons_succ]) | (refine wpYield_skip (by rfl) ?_; simp only [Act.put, List.setIfInBounds_toArray, List.set_cons_zero, List.set_cons_succ]))
      try simp only [ite_mx]
      refine wpYield_nil (hK _ ?_)
      clear hK K
      refine plan_st (fun K hK => ?_)
      simp only [pick, List.drop_succ_cons, List.drop_zero, List.take_succ_cons, List.take_zero, List.cons_append, List.nil_append]
      iterate 3 (first | (refine wpYield_want ?_ (by rfl) (fun w' hS' => ?_) ?_; rotate_left; ((try dsimp only at hS'); go_simp; try with_reducible rfl); simp only [Act.put, List.setIfInBounds_toArray, List.set_cons_zero, List.set_cons_succ]) | (refine wpYield_skip (by rfl) ?_; simp only [Act.put, List.setIfInBounds_toArray, List.set_cons_zero, List.set_cons_succ]))
      try simp only [ite_mx]
      refine wpYield_nil (hK _ ?_)
      clear hK K
      refine plan_pu (fun K hK => ?_)
      simp only [pick, List.drop_succ_cons, List.drop_zero, List.take_succ_cons, List.take_zero, List.cons_append, List.nil_append]
      iterate 2 (first | (refine wpYield_want ?_ (by rfl) (fun w' hS' => ?_) ?_; rotate_left; ((try dsimp only at hS'); go_simp; try with_reducible rfl); simp only [Act.put, List.setIfInBounds_toArray, List.set_cons_zero, List.set_cons_succ]) | (refine wpYield_skip (by rfl) ?_; simp only [Act.put, List.setIfInBounds_toArray, List.set_cons_zero, List.set_cons_succ]))
      try simp only [ite_mx]
      refine wpYield_nil (hK _ ?_)
      clear hK K
      refine plan_st (fun K hK => ?_)
      simp only [pick, List.drop_succ_cons, List.drop_zero, List.take_succ_cons, List.take_zero, List.cons_append, List.nil_append]
      iterate 2 (first | (refine wpYield_want ?_ (by rfl) (fun w' hS' => ?_) ?_; rotate_left; ((try dsimp only at hS'); go_simp; try with_reducible rfl); simp only [Act.put, List.setIfInBounds_toArray, List.set_cons_zero, List.set_cons_succ]) | (refine wpYield_skip (by rfl) ?_; simp only [Act.put, List.setIfInBounds_toArray, List.set_cons_zero, List.set_cons_succ]))
      try simp only [ite_mx]
      refine wpYield_nil (hK _ ?_)
      clear hK K
      refine plan_pu (fun K hK => ?_)
      simp only [pick, List.drop_succ_cons, List.drop_zero, List.take_succ_cons, List.take_zero, List.cons_append, List.nil_append]
      iterate 5 (first | (refine wpYield_want ?_ (by rfl) (fun w' hS' => ?_) ?_; rotate_left; ((try dsimp only at hS'); go_simp; try with_reducible rfl); simp only [Act.put, List.setIfInBounds_toArray, List.set_cons_zero, List.set_cons_succ]) | (refine wpYield_skip (by rfl) ?_; simp only [Act.put, List.setIfInBounds_toArray, List.set_cons_zero, List.set_cons_succ]))
      try simp only [ite_mx]
      refine wpYield_nil (hK _ ?_)
      clear hK K
      refine plan_tl (fun K hK => ?_)
      simp only [pick, List.drop_succ_cons, List.drop_zero, List.take_succ_cons, List.take_zero, List.cons_append, List.nil_append]
      go_wp2_with fail
      try refine ⟨rfl, hK _ _ ?_⟩
      try clear hK K
      refine plan_nil ?_
      go_upto_region 9 with fail
      refine wp_at (fun Y => Ex [gm] X Y ∧ Y.heap[gm]? = some (.cells #[.int .i64 (wrap64 (mm.m0 + mx (wrap64 (mo.m0 * nth lows 0 k)) (wrap64 (mo.m0 * nth highs 0 k)))), .int .i64 (wrap64 (mm.m1 + mx (wrap64 (mo.m1 * nth lows 0 k)) (wrap64 (mo.m1 * nth highs 0 k)))), .int .i64 (wrap64 (mm.m2 + mx (wrap64 (mo.m2 * nth lows 0 k)) (wrap64 (mo.m2 * nth highs 0 k)))), .int .i64 (wrap64 (mm.m3 + mx (wrap64 (mo.m3 * nth lows 0 k)) (wrap64 (mo.m3 * nth highs 0 k)))), .int .i64 (wrap64 (mm.m4 + mx (wrap64 (mo.m4 * nth lows 0 k)) (wrap64 (mo.m4 * nth highs 0 k)))), .int .i64 (wrap64 (mm.m5 + mx (wrap64 (mo.m5 * nth lows 0 k)) (wrap64 (mo.m5 * nth highs 0 k)))), .int .i64 (wrap64 (mm.m6 + mx (wrap64 (mo.m6 * nth lows 0 k)) (wrap64 (mo.m6 * nth highs 0 k)))), .int .i64 mm.m7] 110 (0, 0))) ⟨(hY6.drew).setCell (.inl (by simp)) _, blk_to (blk_set (blk_drew hB6'.out) 6 _) (by kernel_rfl)⟩ (fun Y7 hY => ?_)
      obtain ⟨hY7, hB7⟩ := hY
      clear hY6 hrY6 q0 q1 q2 q3 q4 q5 hB6'
      go_wp2_with fail
      rw [rounds_succ]
      go_wp2_with fail
      have hrY7 : Ex [] Y7 Y7 := Ex.refl _ _
      have q0 := cellE (S := []) hB7 (by simp) 7 rfl
      have q1 := freeE (S := []) hB7 (by simp) 7
      have q2 := fun w' (h : Ex [] Y7 w') => hlx w' (hY7.trans (h.mono (by simp)))
      have q3 := fun w' (h : Ex [] Y7 w') => hhx w' (hY7.trans (h.mono (by simp)))
      have q4 := fun w' (h : Ex [] Y7 w') => f1_0 w' (hY7.trans (h.mono (by simp)))
      have q5 := fun w' (h : Ex [] Y7 w') => f1_1 w' (hY7.trans (h.mono (by simp)))
      have hB7' := Lib.hid hB7; clear hB7
      refine region_plan (fun w' => Ex [] Y7 w') [.pu [0, 1, 3, 4, 6, 10, 11, 13], .st [2, 5, 12], .pu [7, 14], .st [8, 15], .pu [9, 16, 17, 18, 19], .tl [20]] (by kernel_rfl) (by kernel_rfl) (Ex.drew (by first | (with_reducible assumption) | (repeat (with_reducible first | exact Ex.refl _ _ | assumption | exact Ex.mono (by assumption) (by simp; done) | refine Ex.alloc ?_ _ | refine Ex.drew ?_ | refine Ex.drewN ?_ _ | refine Ex.setCell ?_ (by first | (left; simp; done) | (right; simp; done) | (right; simp; omega)) _ | refine Ex.trans ?_ (by assumption))))) ?_
      refine plan_pu (fun K hK => ?_)
      simp only [pick, List.drop_succ_cons, List.drop_zero, List.take_succ_cons, List.take_zero, List.cons_append, List.nil_append]
      iterate 8 (first | (refine wpYield_want ?_ (by rfl) (fun w' hS' => ?_) ?_; rotate_left; ((try dsimp only at hS'); go_simp; try with_reducible rfl); simp only [Act.put, List.setIfInBounds_toArray, List.set_cons_zero, List.set_cons_succ]) | (refine wpYield_skip (by rfl) ?_; simp only [Act.put, List.setIfInBounds_toArray, List.set_cons_zero, List.set_cons_succ]))
      try simp only [ite_mx]
      refine wpYield_nil (hK _ ?_)
      clear hK K
      refine plan_st (fun K hK => ?_)
      simp only [pick, List.drop_succ_cons, List.drop_zero, List.take_succ_cons, List.take_zero, List.cons_append, List.nil_append]
      iterate 3 (first | (refine wpYield_want ?_ (by rfl) (fun w' hS' => ?_) ?_; rotate_left; ((try dsimp only at hS'); go_simp; try with_reducible rfl); simp only [Act.put, List.setIfInBounds_toArray, List.set_cons_zero, List.set_cons_succ]) | (refine wpYield_skip (by rfl) ?_; simp only [Act.put, List.setIfInBounds_toArray, List.set_cons_zero, List.set_cons_succ]))
      try simp only [ite_mx]
      refine wpYield_nil (hK _ ?_)
      clear hK K
      refine plan_pu (fun K hK => ?_)
      simp only [pick, List.drop_succ_cons, List.drop_zero, List.take_succ_cons, List.take_zero, List.cons_append, List.nil_append]
      iterate 2 (first | (refine wpYield_want ?_ (by rfl) (fun w' hS' => ?_) ?_; rotate_left; ((try dsimp only at hS'); go_simp; try with_reducible rfl); simp only [Act.put, List.setIfInBounds_toArray, List.set_cons_zero, List.set_cons_succ]) | (refine wpYield_skip (by rfl) ?_; simp only [Act.put, List.setIfInBounds_toArray, List.set_cons_zero, List.set_cons_succ]))
      try simp only [ite_mx]
      refine wpYield_nil (hK _ ?_)
      clear hK K
      refine plan_st (fun K hK => ?_)
      simp only [pick, List.drop_succ_cons, List.drop_zero, List.take_succ_cons, List.take_zero, List.cons_append, List.nil_append]
      iterate 2 (first | (refine wpYield_want ?_ (by rfl) (fun w' hS' => ?_) ?_; rotate_left; ((try dsimp only at hS'); go_simp; try with_reducible rfl); simp only [Act.put, List.setIfInBounds_toArray, List.set_cons_zero, List.set_cons_succ]) | (refine wpYield_skip (by rfl) ?_; simp only [Act.put, List.setIfInBounds_toArray, List.set_cons_zero, List.set_cons_succ]))
      try simp only [ite_mx]
      refine wpYield_nil (hK _ ?_)
      clear hK K
      refine plan_pu (fun K hK => ?_)
      simp only [pick, List.drop_succ_cons, List.drop_zero, List.take_succ_cons, List.take_zero, List.cons_append, List.nil_append]
      iterate 5 (first | (refine wpYield_want ?_ (by rfl) (fun w' hS' => ?_) ?_; rotate_left; ((try dsimp only at hS'); go_simp; try with_reducible rfl); simp only [Act.put, List.setIfInBounds_toArray, List.set_cons_zero, List.set_cons_succ]) | (refine wpYield_skip (by rfl) ?_; simp only [Act.put, List.setIfInBounds_toArray, List.set_cons_zero, List.set_cons_succ]))
      try simp only [ite_mx]
      refine wpYield_nil (hK _ ?_)
      clear hK K
      refine plan_tl (fun K hK => ?_)
      simp only [pick, List.drop_succ_cons, List.drop_zero, List.take_succ_cons, List.take_zero, List.cons_append, List.nil_append]
      go_wp2_with fail
      try refine ⟨rfl, hK _ _ ?_⟩
      try clear hK K
      refine plan_nil ?_
      go_upto_region 9 with fail
      refine wp_at (fun Y => Ex [gm] X Y ∧ Y.heap[gm]? = some (.cells #[.int .i64 (wrap64 (mm.m0 + mx (wrap64 (mo.m0 * nth lows 0 k)) (wrap64 (mo.m0 * nth highs 0 k)))), .int .i64 (wrap64 (mm.m1 + mx (wrap64 (mo.m1 * nth lows 0 k)) (wrap64 (mo.m1 * nth highs 0 k)))), .int .i64 (wrap64 (mm.m2 + mx (wrap64 (mo.m2 * nth lows 0 k)) (wrap64 (mo.m2 * nth highs 0 k)))), .int .i64 (wrap64 (mm.m3 + mx (wrap64 (mo.m3 * nth lows 0 k)) (wrap64 (mo.m3 * nth highs 0 k)))), .int .i64 (wrap64 (mm.m4 + mx (wrap64 (mo.m4 * nth lows 0 k)) (wrap64 (mo.m4 * nth highs 0 k)))), .int .i64 (wrap64 (mm.m5 + mx (wrap64 (mo.m5 * nth lows 0 k)) (wrap64 (mo.m5 * nth highs 0 k)))), .int .i64 (wrap64 (mm.m6 + mx (wrap64 (mo.m6 * nth lows 0 k)) (wrap64 (mo.m6 * nth highs 0 k)))), .int .i64 (wrap64 (mm.m7 + mx (wrap64 (mo.m7 * nth lows 0 k)) (wrap64 (mo.m7 * nth highs 0 k))))] 110 (0, 0))) ⟨(hY7.drew).setCell (.inl (by simp)) _, blk_to (blk_set (blk_drew hB7'.out) 7 _) (by kernel_rfl)⟩ (fun Y8 hY => ?_)
      obtain ⟨hY8, hB8⟩ := hY
      clear hY7 hrY7 q0 q1 q2 q3 q4 q5 hB7'
      go_wp2_with fail
      rw [rounds_succ]
      go_wp2_with fail
      go_roundg (ones.length - (k + 1))
      case rel => exact ⟨k + 1, _, rfl, by omega, by go_num, by rw [greatTo, ← hmm'.out, ← hmo'.out], hY8, hB8⟩
      case measure => omega
    · have g0 : Ext w wr := (hr0.trans h1X).trans_fresh hE (by intro x hx; right; simp at hx; omega)
      have hB2x := hE.heap (by simp; omega) (h1X.heap (by simp) hB2'.out)
      have e0 := blk_cell (v := .int .i64 mm.m0) hT 0 rfl
      have e1 := blk_cell (v := .int .i64 mm.m1) hT 1 rfl
      have e2 := blk_cell (v := .int .i64 mm.m2) hT 2 rfl
      have e3 := blk_cell (v := .int .i64 mm.m3) hT 3 rfl
      have e4 := blk_cell (v := .int .i64 mm.m4) hT 4 rfl
      have e5 := blk_cell (v := .int .i64 mm.m5) hT 5 rfl
      have e6 := blk_cell (v := .int .i64 mm.m6) hT 6 rfl
      have e7 := blk_cell (v := .int .i64 mm.m7) hT 7 rfl
      have k0 := blk_cell (v := .int .i64 0) hB2x 0 rfl
      have z0 := blk_free hB2x 0
      have k1 := blk_cell (v := .int .i64 0) hB2x 1 rfl
      have z1 := blk_free hB2x 1
      have k2 := blk_cell (v := .int .i64 0) hB2x 2 rfl
      have z2 := blk_free hB2x 2
      have k3 := blk_cell (v := .int .i64 0) hB2x 3 rfl
      have z3 := blk_free hB2x 3
      have k4 := blk_cell (v := .int .i64 0) hB2x 4 rfl
      have z4 := blk_free hB2x 4
      have k5 := blk_cell (v := .int .i64 0) hB2x 5 rfl
      have z5 := blk_free hB2x 5
      have k6 := blk_cell (v := .int .i64 0) hB2x 6 rfl
      have z6 := blk_free hB2x 6
      have k7 := blk_cell (v := .int .i64 0) hB2x 7 rfl
      have z7 := blk_free hB2x 7
      have hB2y := Lib.hid hB2x; clear hB2x
      clear hT
      go_wp2_with fail
      (try simp only [Exit.inBlock, Exit.then])
      refine ret_at (fun Y => Ext w Y ∧ Y.heap[w.heap.size + 1 + 1]? = some (.cells #[.int .i64 mm.m0, .int .i64 mm.m1, .int .i64 mm.m2, .int .i64 mm.m3, .int .i64 mm.m4, .int .i64 mm.m5, .int .i64 mm.m6, .int .i64 mm.m7] 110 (0, 0))) ⟨?_, ?_⟩ (fun Y hY => ?_)
      · (repeat (with_reducible first | exact Ex.refl _ _ | assumption | exact Ex.mono (by assumption) (by simp; done) | refine Ex.alloc ?_ _ | refine Ex.drew ?_ | refine Ex.drewN ?_ _ | refine Ex.setCell ?_ (by first | (left; simp; done) | (right; simp; done) | (right; simp; omega)) _ | refine Ex.trans ?_ (by assumption)))
      · refine blk_to (blk_set (blk_set (blk_set (blk_set (blk_set (blk_set (blk_set (blk_set (hB2y.out) 0 _) 1 _) 2 _) 3 _) 4 _) 5 _) 6 _) 7 _) ?_
        kernel_rfl
      obtain ⟨hX1, hX2⟩ := hY
      have x0 := blk_cell (v := .int .i64 mm.m0) hX2 0 rfl
      have x1 := blk_cell (v := .int .i64 mm.m1) hX2 1 rfl
      have x2 := blk_cell (v := .int .i64 mm.m2) hX2 2 rfl
      have x3 := blk_cell (v := .int .i64 mm.m3) hX2 3 rfl
      have x4 := blk_cell (v := .int .i64 mm.m4) hX2 4 rfl
      have x5 := blk_cell (v := .int .i64 mm.m5) hX2 5 rfl
      have x6 := blk_cell (v := .int .i64 mm.m6) hX2 6 rfl
      have x7 := blk_cell (v := .int .i64 mm.m7) hX2 7 rfl
      exact bodyPost_ret (v := .agg #[.int .i64 mm.m0, .int .i64 mm.m1, .int .i64 mm.m2, .int .i64 mm.m3, .int .i64 mm.m4, .int .i64 mm.m5, .int .i64 mm.m6, .int .i64 mm.m7]) (by simp [results, Try.results95, go_sem, x0, x1, x2, x3, x4, x5, x6, x7]) rfl ⟨by unfold greatM; rw [show ones.length = k from by omega, ← hmm'.out], hX1⟩
end Go.Proofs.Ytojnpaenpaobcaa
