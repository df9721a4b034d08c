/- The table of a recipe. No condition. -/
import Derived.Test.YthmicafabimfkaaWOC9
import Derived.Test.YthmicafabimfkaaWQB3
import Derived.Test.YthmicafabimfkaaWQB4
import Derived.WalkSpells

namespace Go.Proofs.Ythmicafabimfkaa
open Go.RowKit
def oneM (p : Recipe) (l : Lot) : Mar := ofM p (addPile .zero l 1)
def onesM (p : Recipe) : List Mar := p.lots.map (oneM p)
theorem Mar.len (m : Mar) : m.cells.length = 8 := rfl
theorem Mar.one (m : Mar) : ∀ u ∈ m.cells, u.oneCell' = true := by simp [Mar.cells, Value.oneCell']
theorem eiMar : EI Try.prog 101 108 8 64 := EI.mk' (z := .agg #[.int .i64 0, .int .i64 0, .int .i64 0, .int .i64 0, .int .i64 0, .int .i64 0, .int .i64 0, .int .i64 0]) (by kernel_rfl) (by kernel_rfl) (by rfl) (by omega)
theorem ones_to (p : Recipe) (k : Nat) (h : k < p.lots.length) : (onesM p).take (k + 1) = (onesM p).take k ++ [oneM p (nth p.lots .zero k)] := by
  rw [List.take_succ_eq_append_getElem (by simpa [onesM] using h)]
  simp [onesM, nth_eq p.lots .zero k h]
set_option maxRecDepth 100000 in
set_option maxHeartbeats 4000000 in
theorem newTable_c (p : Recipe) (a : Option Addr) (cap : Nat) (w : World) (hs : SlL w a cap p.lots) (hn : p.lots.length ≤ 1000) :
    Calls Try.prog 41 #[.agg #[.slice a p.lots.length cap, .int .i64 p.mass.lo, .int .i64 p.mass.hi, .int .i64 p.target.a.lo, .int .i64 p.target.a.hi, .int .i64 p.target.b.lo, .int .i64 p.target.b.hi, .int .i64 p.target.c.lo, .int .i64 p.target.c.hi]] w (fun e w' => ∃ a' c', e = .returned (.agg #[.slice a p.lots.length cap, .int .i64 p.mass.lo, .int .i64 p.mass.hi, .int .i64 p.target.a.lo, .int .i64 p.target.a.hi, .int .i64 p.target.b.lo, .int .i64 p.target.b.hi, .int .i64 p.target.c.lo, .int .i64 p.target.c.hi, .slice a' (onesM p).length c']) ∧ Sl 8 Mar.cells w' a' c' (onesM p) ∧ Ext w w') := by
  have hle := hs.le; have hb := hs.big
  go_enter Try.func41, Try.ntmps41
  go_upto_region 2 with (fail)
  refine wp_at (fun W => Ext w W ∧ w.heap.size + 3 = W.heap.size ∧ W.heap[w.heap.size]? = some (.cells #[.slice a p.lots.length cap, .int .i64 p.mass.lo, .int .i64 p.mass.hi, .int .i64 p.target.a.lo, .int .i64 p.target.a.hi, .int .i64 p.target.b.lo, .int .i64 p.target.b.hi, .int .i64 p.target.c.lo, .int .i64 p.target.c.hi] 65 (0, 0)) ∧ W.heap[w.heap.size + 1]? = some (.cells #[.slice none 0 0, .int .i64 0, .int .i64 0, .int .i64 0, .int .i64 0, .int .i64 0, .int .i64 0, .int .i64 0, .int .i64 0, .slice none 0 0] 103 (0, 0)) ∧ W.heap[w.heap.size + 1 + 1]? = some (.cells #[.slice a p.lots.length cap, .int .i64 p.mass.lo, .int .i64 p.mass.hi, .int .i64 p.target.a.lo, .int .i64 p.target.a.hi, .int .i64 p.target.b.lo, .int .i64 p.target.b.hi, .int .i64 p.target.c.lo, .int .i64 p.target.c.hi, .slice none 0 0] 103 (0, 0))) ⟨by (repeat (with_reducible first | exact Ex.refl _ _ | assumption | refine Ex.alloc ?_ _ | refine Ex.drew ?_ | refine Ex.drewN ?_ _ | refine Ex.setCell ?_ (by first | (left; simp; done) | (right; simp; done) | (right; simp; omega)) _ | refine Ex.trans ?_ (by assumption))), by simp, blk_alloc (blk_alloc (blk_new _ _)), blk_alloc (by have h := blk_new ((w).alloc (.cells #[.slice a p.lots.length cap, .int .i64 p.mass.lo, .int .i64 p.mass.hi, .int .i64 p.target.a.lo, .int .i64 p.target.a.hi, .int .i64 p.target.b.lo, .int .i64 p.target.b.hi, .int .i64 p.target.c.lo, .int .i64 p.target.c.hi] 65 (0, 0))) (.cells #[.slice none 0 0, .int .i64 0, .int .i64 0, .int .i64 0, .int .i64 0, .int .i64 0, .int .i64 0, .int .i64 0, .int .i64 0, .slice none 0 0] 103 (0, 0)); simpa using h), by have h := blk_new (((w).alloc (.cells #[.slice a p.lots.length cap, .int .i64 p.mass.lo, .int .i64 p.mass.hi, .int .i64 p.target.a.lo, .int .i64 p.target.a.hi, .int .i64 p.target.b.lo, .int .i64 p.target.b.hi, .int .i64 p.target.c.lo, .int .i64 p.target.c.hi] 65 (0, 0))).alloc (.cells #[.slice none 0 0, .int .i64 0, .int .i64 0, .int .i64 0, .int .i64 0, .int .i64 0, .int .i64 0, .int .i64 0, .int .i64 0, .slice none 0 0] 103 (0, 0))) (.cells #[.slice a p.lots.length cap, .int .i64 p.mass.lo, .int .i64 p.mass.hi, .int .i64 p.target.a.lo, .int .i64 p.target.a.hi, .int .i64 p.target.b.lo, .int .i64 p.target.b.hi, .int .i64 p.target.c.lo, .int .i64 p.target.c.hi, .slice none 0 0] 103 (0, 0)); simpa using h⟩ (fun W hW => ?_)
  obtain ⟨hr0, hsz, hB0, hB1, hB2⟩ := hW
  have hr : Ex [w.heap.size + 1 + 1] W W := Ex.refl _ _
  have f0_0 := cellE (S := [w.heap.size + 1 + 1]) hB0 (by first | (simp; done) | (simp; omega)) 0 rfl
  have f0_1 := cellE (S := [w.heap.size + 1 + 1]) hB0 (by first | (simp; done) | (simp; omega)) 1 rfl
  have f0_2 := cellE (S := [w.heap.size + 1 + 1]) hB0 (by first | (simp; done) | (simp; omega)) 2 rfl
  have f0_3 := cellE (S := [w.heap.size + 1 + 1]) hB0 (by first | (simp; done) | (simp; omega)) 3 rfl
  have f0_4 := cellE (S := [w.heap.size + 1 + 1]) hB0 (by first | (simp; done) | (simp; omega)) 4 rfl
  have f0_5 := cellE (S := [w.heap.size + 1 + 1]) hB0 (by first | (simp; done) | (simp; omega)) 5 rfl
  have f0_6 := cellE (S := [w.heap.size + 1 + 1]) hB0 (by first | (simp; done) | (simp; omega)) 6 rfl
  have f0_7 := cellE (S := [w.heap.size + 1 + 1]) hB0 (by first | (simp; done) | (simp; omega)) 7 rfl
  have f0_8 := cellE (S := [w.heap.size + 1 + 1]) hB0 (by first | (simp; done) | (simp; omega)) 8 rfl
  have f1_0 := cellE (S := [w.heap.size + 1 + 1]) hB1 (by first | (simp; done) | (simp; omega)) 0 rfl
  have f1_1 := cellE (S := [w.heap.size + 1 + 1]) hB1 (by first | (simp; done) | (simp; omega)) 1 rfl
  have f1_2 := cellE (S := [w.heap.size + 1 + 1]) hB1 (by first | (simp; done) | (simp; omega)) 2 rfl
  have f1_3 := cellE (S := [w.heap.size + 1 + 1]) hB1 (by first | (simp; done) | (simp; omega)) 3 rfl
  have f1_4 := cellE (S := [w.heap.size + 1 + 1]) hB1 (by first | (simp; done) | (simp; omega)) 4 rfl
  have f1_5 := cellE (S := [w.heap.size + 1 + 1]) hB1 (by first | (simp; done) | (simp; omega)) 5 rfl
  have f1_6 := cellE (S := [w.heap.size + 1 + 1]) hB1 (by first | (simp; done) | (simp; omega)) 6 rfl
  have f1_7 := cellE (S := [w.heap.size + 1 + 1]) hB1 (by first | (simp; done) | (simp; omega)) 7 rfl
  have f1_8 := cellE (S := [w.heap.size + 1 + 1]) hB1 (by first | (simp; done) | (simp; omega)) 8 rfl
  have f1_9 := cellE (S := [w.heap.size + 1 + 1]) hB1 (by first | (simp; done) | (simp; omega)) 9 rfl
  have z1_0 := freeE (S := [w.heap.size + 1 + 1]) hB1 (by first | (simp; done) | (simp; omega)) 0
  have z1_1 := freeE (S := [w.heap.size + 1 + 1]) hB1 (by first | (simp; done) | (simp; omega)) 1
  have z1_2 := freeE (S := [w.heap.size + 1 + 1]) hB1 (by first | (simp; done) | (simp; omega)) 2
  have z1_3 := freeE (S := [w.heap.size + 1 + 1]) hB1 (by first | (simp; done) | (simp; omega)) 3
  have z1_4 := freeE (S := [w.heap.size + 1 + 1]) hB1 (by first | (simp; done) | (simp; omega)) 4
  have z1_5 := freeE (S := [w.heap.size + 1 + 1]) hB1 (by first | (simp; done) | (simp; omega)) 5
  have z1_6 := freeE (S := [w.heap.size + 1 + 1]) hB1 (by first | (simp; done) | (simp; omega)) 6
  have z1_7 := freeE (S := [w.heap.size + 1 + 1]) hB1 (by first | (simp; done) | (simp; omega)) 7
  have z1_8 := freeE (S := [w.heap.size + 1 + 1]) hB1 (by first | (simp; done) | (simp; omega)) 8
  have z1_9 := freeE (S := [w.heap.size + 1 + 1]) hB1 (by first | (simp; done) | (simp; omega)) 9
  clear hB0
  have hsz' := Nat.le_of_eq hsz.symm; have hsz'' := Nat.le_of_eq hsz; clear hsz
  have hB2' := Lib.hid hB2; clear hB2
  have hB1' := Lib.hid hB1; clear hB1
  go_wp2_with fail
  go_loopg [12] (p.lots.length) (fun g i wr => ∃ (k : Nat) (v : Value), g = p.lots.length - k ∧ k ≤ p.lots.length ∧ i = .int .i64 k ∧ Ex [w.heap.size + 1 + 1] W wr ∧ wr.heap[w.heap.size + 1 + 1]? = some (.cells #[.slice a p.lots.length cap, .int .i64 p.mass.lo, .int .i64 p.mass.hi, .int .i64 p.target.a.lo, .int .i64 p.target.a.hi, .int .i64 p.target.b.lo, .int .i64 p.target.b.hi, .int .i64 p.target.c.lo, .int .i64 p.target.c.hi, v] 103 (0, 0)) ∧ Own 108 8 Mar.cells W.heap.size wr v ((onesM p).take k))
  case atStart => exact ⟨0, _, rfl, by omega, rfl, Ex.refl _ _, hB2'.out, Own.nil _⟩
  case round =>
    obtain ⟨k, v, rfl, hk, rfl, hE, hT, hO⟩ := hrel
    by_cases hlt : k < p.lots.length
    · obtain ⟨b2, off2, rfl, hbw2, hss⟩ := hs.cells (by omega)
      have d0 := hE.cell (by simp; omega) (hr0.cell (by simp) (hss k (by omega) 0 _ rfl))
      rw [Nat.add_zero, nth_eq p.lots .zero] at d0
      have d1 := hE.cell (by simp; omega) (hr0.cell (by simp) (hss k (by omega) 1 _ rfl))
      rw [nth_eq p.lots .zero] at d1
      have d2 := hE.cell (by simp; omega) (hr0.cell (by simp) (hss k (by omega) 2 _ rfl))
      rw [nth_eq p.lots .zero] at d2
      have d3 := hE.cell (by simp; omega) (hr0.cell (by simp) (hss k (by omega) 3 _ rfl))
      rw [nth_eq p.lots .zero] at d3
      have d4 := hE.cell (by simp; omega) (hr0.cell (by simp) (hss k (by omega) 4 _ rfl))
      rw [nth_eq p.lots .zero] at d4
      have d5 := hE.cell (by simp; omega) (hr0.cell (by simp) (hss k (by omega) 5 _ rfl))
      rw [nth_eq p.lots .zero] at d5
      have d6 := hE.cell (by simp; omega) (hr0.cell (by simp) (hss k (by omega) 6 _ rfl))
      rw [nth_eq p.lots .zero] at d6
      have d7 := hE.cell (by simp; omega) (hr0.cell (by simp) (hss k (by omega) 7 _ rfl))
      rw [nth_eq p.lots .zero] at d7
      have d8 := hE.cell (by simp; omega) (hr0.cell (by simp) (hss k (by omega) 8 _ rfl))
      rw [nth_eq p.lots .zero] at d8
      clear hss
      have hT' := Lib.hid hT; clear hT
      obtain ⟨L, hL⟩ : ∃ L, (onesM p).take k = L := ⟨_, rfl⟩
      rw [hL] at hO
      have hLl : L.length ≤ 1000 := by rw [← hL]; simp [onesM]; omega
      have hL' := Lib.hid hL; clear hL
      have hO' := Lib.hid hO; clear hO
      go_upto_region 6 with fail
      have hp := put0_c Pile.zero (nth p.lots .zero k) 1 (wr.heap.size + 1) 31 _ (heap_alloc2_new wr (.cells #[.int .i64 ((nth p.lots .zero k).count), .int .i64 ((nth p.lots .zero k).mass), .int .i64 ((nth p.lots .zero k).con.a.lo), .int .i64 ((nth p.lots .zero k).con.a.hi), .int .i64 ((nth p.lots .zero k).con.b.lo), .int .i64 ((nth p.lots .zero k).con.b.hi), .int .i64 ((nth p.lots .zero k).con.c.lo), .int .i64 ((nth p.lots .zero k).con.c.hi), .int .i64 ((nth p.lots .zero k).cost)] 33 (0, 0)) (.cells #[.int .i64 0, .int .i64 0, .int .i64 0, .int .i64 0, .int .i64 0, .int .i64 0, .int .i64 0] 31 (0, 0)))
      have hp' := Lib.hid hp; clear hp
      go_wp2_with fail
      refine hp'.out.mono ?_
      clear hp'
      rintro e w1 ⟨rfl, h1, hP⟩
      have hP' := Lib.hid hP; clear hP
      go_upto_region 7 with fail
      have hw0 : Ex [w.heap.size + 1 + 1] W (wr.alloc (.cells #[.int .i64 ((nth p.lots .zero k).count), .int .i64 ((nth p.lots .zero k).mass), .int .i64 ((nth p.lots .zero k).con.a.lo), .int .i64 ((nth p.lots .zero k).con.a.hi), .int .i64 ((nth p.lots .zero k).con.b.lo), .int .i64 ((nth p.lots .zero k).con.b.hi), .int .i64 ((nth p.lots .zero k).con.c.lo), .int .i64 ((nth p.lots .zero k).con.c.hi), .int .i64 ((nth p.lots .zero k).cost)] 33 (0, 0))) := hE.alloc _
      have hw1 : Ex [wr.heap.size + 1] wr w1 := (((Ex.refl _ _).alloc _).alloc _).trans h1
      refine wp_at (fun X => Ex [w.heap.size + 1 + 1] W X ∧ X.heap[w.heap.size + 1 + 1]? = some (.cells #[.slice (some ⟨b2, off2, none⟩) p.lots.length cap, .int .i64 p.mass.lo, .int .i64 p.mass.hi, .int .i64 p.target.a.lo, .int .i64 p.target.a.hi, .int .i64 p.target.b.lo, .int .i64 p.target.b.hi, .int .i64 p.target.c.lo, .int .i64 p.target.c.hi, v] 103 (0, 0)) ∧ X.heap[wr.heap.size + 1]? = some (.cells #[.int .i64 ((addPile .zero (nth p.lots .zero k) 1).mass), .int .i64 ((addPile .zero (nth p.lots .zero k) 1).con.a.lo), .int .i64 ((addPile .zero (nth p.lots .zero k) 1).con.a.hi), .int .i64 ((addPile .zero (nth p.lots .zero k) 1).con.b.lo), .int .i64 ((addPile .zero (nth p.lots .zero k) 1).con.b.hi), .int .i64 ((addPile .zero (nth p.lots .zero k) 1).con.c.lo), .int .i64 ((addPile .zero (nth p.lots .zero k) 1).con.c.hi)] 31 (0, 0)) ∧ Own 108 8 Mar.cells W.heap.size X v L ∧ wr.heap.size + 1 < X.heap.size) ⟨hE.trans_fresh hw1 ?_, hw1.heap ?_ hT'.out, hP'.out, hO'.out.ex hw1 ?_, lt_of_block hP'.out⟩ (fun X hX => ?_)
      · intro x hx; right; have := hE.size; simp at hx; omega
      · have := lt_of_block hT'.out; simp; omega
      · intro g hg; have := hO'.out.lt hg; simp; omega
      obtain ⟨hX1, hX2, hX3, hX4, hX5⟩ := hX
      have hXs := hX1.size
      have hE' := Lib.hid hE; clear hE
      have hX1' := hX1
      replace f0_0 := fun w' (h : Ex [] X w') => f0_0 w' (hX1.trans (h.mono (by simp)))
      replace f0_1 := fun w' (h : Ex [] X w') => f0_1 w' (hX1.trans (h.mono (by simp)))
      replace f0_2 := fun w' (h : Ex [] X w') => f0_2 w' (hX1.trans (h.mono (by simp)))
      replace f0_3 := fun w' (h : Ex [] X w') => f0_3 w' (hX1.trans (h.mono (by simp)))
      replace f0_4 := fun w' (h : Ex [] X w') => f0_4 w' (hX1.trans (h.mono (by simp)))
      replace f0_5 := fun w' (h : Ex [] X w') => f0_5 w' (hX1.trans (h.mono (by simp)))
      replace f0_6 := fun w' (h : Ex [] X w') => f0_6 w' (hX1.trans (h.mono (by simp)))
      replace f0_7 := fun w' (h : Ex [] X w') => f0_7 w' (hX1.trans (h.mono (by simp)))
      replace f0_8 := fun w' (h : Ex [] X w') => f0_8 w' (hX1.trans (h.mono (by simp)))
      have q_0 := cellE (S := []) hX2 (by first | (simp; done) | (simp; omega)) 0 rfl
      have q_1 := cellE (S := []) hX2 (by first | (simp; done) | (simp; omega)) 1 rfl
      have q_2 := cellE (S := []) hX2 (by first | (simp; done) | (simp; omega)) 2 rfl
      have q_3 := cellE (S := []) hX2 (by first | (simp; done) | (simp; omega)) 3 rfl
      have q_4 := cellE (S := []) hX2 (by first | (simp; done) | (simp; omega)) 4 rfl
      have q_5 := cellE (S := []) hX2 (by first | (simp; done) | (simp; omega)) 5 rfl
      have q_6 := cellE (S := []) hX2 (by first | (simp; done) | (simp; omega)) 6 rfl
      have q_7 := cellE (S := []) hX2 (by first | (simp; done) | (simp; omega)) 7 rfl
      have q_8 := cellE (S := []) hX2 (by first | (simp; done) | (simp; omega)) 8 rfl
      have q_9 := cellE (S := []) hX2 (by first | (simp; done) | (simp; omega)) 9 rfl
      have m_0 := cellE (S := []) hX3 (by first | (simp; done) | (simp; omega)) 0 rfl
      have m_1 := cellE (S := []) hX3 (by first | (simp; done) | (simp; omega)) 1 rfl
      have m_2 := cellE (S := []) hX3 (by first | (simp; done) | (simp; omega)) 2 rfl
      have m_3 := cellE (S := []) hX3 (by first | (simp; done) | (simp; omega)) 3 rfl
      have m_4 := cellE (S := []) hX3 (by first | (simp; done) | (simp; omega)) 4 rfl
      have m_5 := cellE (S := []) hX3 (by first | (simp; done) | (simp; omega)) 5 rfl
      have m_6 := cellE (S := []) hX3 (by first | (simp; done) | (simp; omega)) 6 rfl
      have hrX : Ex [] X X := Ex.refl _ _
      have zf := freeE (S := []) hX2 (by simp) 9
      have hX2' := Lib.hid hX2; have hX3' := Lib.hid hX3; clear hX2 hX3
      clear hT' hw0 hw1 hP' h1 hO'
      refine region_plan (fun w' => Ex [] X w') [.pu [0], .st [1, 2, 3], .mv 4, .mv 5, .tl [6], .pu [7], .tl [8]] (by kernel_rfl) (by kernel_rfl) (Ex.drew (by first | (with_reducible assumption) | (repeat (with_reducible first | exact Ex.refl _ _ | assumption | refine Ex.alloc ?_ _ | refine Ex.drew ?_ | refine Ex.drewN ?_ _ | refine Ex.setCell ?_ (by first | (left; simp; done) | (right; simp; done) | (right; simp; omega)) _ | refine Ex.trans ?_ (by assumption))))) ?_
      refine plan_pu (fun K hK => ?_)
      simp only [pick, List.drop_succ_cons, List.drop_zero, List.take_succ_cons, List.take_zero, List.cons_append, List.nil_append]
      iterate 1 (first | (refine wpYield_want ?_ (by rfl) (fun w' hS' => ?_) ?_; rotate_left; ((try dsimp only at hS'); go_simp; try with_reducible rfl); simp only [Act.put, List.setIfInBounds_toArray, List.set_cons_zero, List.set_cons_succ]) | (refine wpYield_skip (by rfl) ?_; simp only [Act.put, List.setIfInBounds_toArray, List.set_cons_zero, List.set_cons_succ]))
      refine wpYield_nil (hK _ ?_)
      clear hK K
      refine plan_st (fun K hK => ?_)
      simp only [pick, List.drop_succ_cons, List.drop_zero, List.take_succ_cons, List.take_zero, List.cons_append, List.nil_append]
      iterate 3 (first | (refine wpYield_want ?_ (by rfl) (fun w' hS' => ?_) ?_; rotate_left; ((try dsimp only at hS'); go_simp; try with_reducible rfl); simp only [Act.put, List.setIfInBounds_toArray, List.set_cons_zero, List.set_cons_succ]) | (refine wpYield_skip (by rfl) ?_; simp only [Act.put, List.setIfInBounds_toArray, List.set_cons_zero, List.set_cons_succ]))
      refine wpYield_nil (hK _ ?_)
      clear hK K
      refine plan_mv (fun K hK => ?_)
      simp only [pick, List.drop_succ_cons, List.drop_zero, List.take_succ_cons, List.take_zero, List.cons_append, List.nil_append]
      go_wp2_with (first | (go_at_call 50; refine (of_c p (addPile .zero (nth p.lots .zero k) 1) _ _ _).mono ?_; rintro e w1 ⟨rfl, h1⟩; replace h1 : Ex [] X w1 := Ex.trans (by first | (with_reducible assumption) | (repeat (with_reducible first | exact Ex.refl _ _ | assumption | refine Ex.alloc ?_ _ | refine Ex.drew ?_ | refine Ex.drewN ?_ _ | refine Ex.setCell ?_ (by first | (left; simp; done) | (right; simp; done) | (right; simp; omega)) _ | refine Ex.trans ?_ (by assumption)))) (h1.ex _)))
      first | refine hK _ _ (by first | (with_reducible assumption) | (repeat (with_reducible first | exact Ex.refl _ _ | assumption | refine Ex.alloc ?_ _ | refine Ex.drew ?_ | refine Ex.drewN ?_ _ | refine Ex.setCell ?_ (by first | (left; simp; done) | (right; simp; done) | (right; simp; omega)) _ | refine Ex.trans ?_ (by assumption)))) ?_ | refine ⟨rfl, hK _ _ (by first | (with_reducible assumption) | (repeat (with_reducible first | exact Ex.refl _ _ | assumption | refine Ex.alloc ?_ _ | refine Ex.drew ?_ | refine Ex.drewN ?_ _ | refine Ex.setCell ?_ (by first | (left; simp; done) | (right; simp; done) | (right; simp; omega)) _ | refine Ex.trans ?_ (by assumption)))) ?_⟩
      clear hK K
      refine plan_mv (fun K hK => ?_)
      simp only [pick, List.drop_succ_cons, List.drop_zero, List.take_succ_cons, List.take_zero, List.cons_append, List.nil_append]
      go_wp2_with (first | (go_at_call 50; refine (of_c p (addPile .zero (nth p.lots .zero k) 1) _ _ _).mono ?_; rintro e w1 ⟨rfl, h1⟩; replace h1 : Ex [] X w1 := Ex.trans (by first | (with_reducible assumption) | (repeat (with_reducible first | exact Ex.refl _ _ | assumption | refine Ex.alloc ?_ _ | refine Ex.drew ?_ | refine Ex.drewN ?_ _ | refine Ex.setCell ?_ (by first | (left; simp; done) | (right; simp; done) | (right; simp; omega)) _ | refine Ex.trans ?_ (by assumption)))) (h1.ex _)))
      first | refine hK _ _ (by first | (with_reducible assumption) | (repeat (with_reducible first | exact Ex.refl _ _ | assumption | refine Ex.alloc ?_ _ | refine Ex.drew ?_ | refine Ex.drewN ?_ _ | refine Ex.setCell ?_ (by first | (left; simp; done) | (right; simp; done) | (right; simp; omega)) _ | refine Ex.trans ?_ (by assumption)))) ?_ | refine ⟨rfl, hK _ _ (by first | (with_reducible assumption) | (repeat (with_reducible first | exact Ex.refl _ _ | assumption | refine Ex.alloc ?_ _ | refine Ex.drew ?_ | refine Ex.drewN ?_ _ | refine Ex.setCell ?_ (by first | (left; simp; done) | (right; simp; done) | (right; simp; omega)) _ | refine Ex.trans ?_ (by assumption)))) ?_⟩
      clear hK K
      refine plan_tl (fun K hK => ?_)
      simp only [pick, List.drop_succ_cons, List.drop_zero, List.take_succ_cons, List.take_zero, List.cons_append, List.nil_append]
      go_wp2_with (first | (at_builtin; refine wpList_push (base := W.heap.size) eiMar Mar.len Mar.one rfl _ _ rfl v L (by rfl) (hX4.ext (h1.alloc _)) w1.heap.size (oneM p (nth p.lots .zero k)) (by rfl) (fun j u hu => blk_cell (blk_new _ _) j (by simpa [Mar.cells, oneM] using hu)) (by omega) (by omega) (by have := h1.size; simp; omega) ?_; intro g c2 w2 hO2 hx2 hg2 hlt2; have hT2 := hx2.heap (fun hm => by have := hX4.base_le (by simpa using hm); omega) ((h1.alloc _).heap (by simp) hX2'.out); have zc := blk_cell hT2 9 rfl; have zf2 := blk_free hT2 9; have hT2' := Lib.hid hT2; clear hT2))
      try refine ⟨rfl, hK _ _ ?_⟩
      try clear hK K
      refine plan_pu (fun K hK => ?_)
      simp only [pick, List.drop_succ_cons, List.drop_zero, List.take_succ_cons, List.take_zero, List.cons_append, List.nil_append]
      iterate 1 (first | (refine wpYield_want ?_ (by rfl) (fun w' hS' => ?_) ?_; rotate_left; ((try dsimp only at hS'); go_simp; try with_reducible rfl); simp only [Act.put, List.setIfInBounds_toArray, List.set_cons_zero, List.set_cons_succ]) | (refine wpYield_skip (by rfl) ?_; simp only [Act.put, List.setIfInBounds_toArray, List.set_cons_zero, List.set_cons_succ]))
      refine wpYield_nil (hK _ ?_)
      clear hK K
      refine plan_tl (fun K hK => ?_)
      simp only [pick, List.drop_succ_cons, List.drop_zero, List.take_succ_cons, List.take_zero, List.cons_append, List.nil_append]
      go_wp2_with (first | (at_builtin; refine wpList_push (base := W.heap.size) eiMar Mar.len Mar.one rfl _ _ rfl v L (by rfl) (hX4.ext (h1.alloc _)) w1.heap.size (oneM p (nth p.lots .zero k)) (by rfl) (fun j u hu => blk_cell (blk_new _ _) j (by simpa [Mar.cells, oneM] using hu)) (by omega) (by omega) (by have := h1.size; simp; omega) ?_; intro g c2 w2 hO2 hx2 hg2 hlt2; have hT2 := hx2.heap (fun hm => by have := hX4.base_le (by simpa using hm); omega) ((h1.alloc _).heap (by simp) hX2'.out); have zc := blk_cell hT2 9 rfl; have zf2 := blk_free hT2 9; have hT2' := Lib.hid hT2; clear hT2))
      try refine ⟨rfl, hK _ _ ?_⟩
      try clear hK K
      refine plan_nil ?_
      go_wp2_with fail
      go_roundg (p.lots.length - (k + 1))
      case rel =>
        have e1 : Ex [w.heap.size + 1 + 1] W w2 := ((hX1'.trans (h1.ex _)).alloc _).trans_fresh hx2 (fun x hx => .inr (hX4.base_le (by simpa using hx)))
        refine ⟨k + 1, _, rfl, by omega, by go_num, e1.setCell (.inl (by simp)) _, blk_to (blk_set hT2'.out 9 _) (by kernel_rfl), (hO2.ex (S := [w.heap.size + 1 + 1]) ((Ex.refl _ _).setCell (.inl (by simp)) _) ?_).cong (by rw [ones_to p k hlt, hL'.out])⟩
        intro g' hg'
        have := hO2.base_le hg'
        simp; omega
      case measure => omega
    · have hO2 := hO.cong (List.take_of_length_le (l := onesM p) (by simp [onesM]; omega))
      obtain ⟨a', c', rfl, hSl, hbb⟩ := hO2.sl Mar.len
      have e0 := blk_cell (v := .slice a p.lots.length cap) hT 0 rfl
      have e1 := blk_cell (v := .int .i64 p.mass.lo) hT 1 rfl
      have e2 := blk_cell (v := .int .i64 p.mass.hi) hT 2 rfl
      have e3 := blk_cell (v := .int .i64 p.target.a.lo) hT 3 rfl
      have e4 := blk_cell (v := .int .i64 p.target.a.hi) hT 4 rfl
      have e5 := blk_cell (v := .int .i64 p.target.b.lo) hT 5 rfl
      have e6 := blk_cell (v := .int .i64 p.target.b.hi) hT 6 rfl
      have e7 := blk_cell (v := .int .i64 p.target.c.lo) hT 7 rfl
      have e8 := blk_cell (v := .int .i64 p.target.c.hi) hT 8 rfl
      have e9 := blk_cell (v := .slice a' (onesM p).length c') hT 9 rfl
      have g0 : Ext w wr := ((hr0.ex _).trans hE).fresh (T := []) (by intro x hx; right; simp at hx; omega)
      clear hT hO hO2
      go_wp2_with fail
      (try simp only [Exit.inBlock, Exit.then])
      have hsS : ∀ b, a' = some b → b.block ∉ [w.heap.size + 1] := fun b hb => (by have := hbb b hb; simp; omega)
      refine ret_at (fun X => Ext w X ∧ X.heap[w.heap.size + 1]? = some (.cells #[.slice a p.lots.length cap, .int .i64 p.mass.lo, .int .i64 p.mass.hi, .int .i64 p.target.a.lo, .int .i64 p.target.a.hi, .int .i64 p.target.b.lo, .int .i64 p.target.b.hi, .int .i64 p.target.c.lo, .int .i64 p.target.c.hi, .slice a' (onesM p).length c'] 103 (0, 0)) ∧ Sl 8 Mar.cells X a' c' (onesM p)) ⟨?_, ?_, ?_⟩ (fun X hX => ?_)
      · (repeat (with_reducible first | exact Ex.refl _ _ | assumption | refine Ex.alloc ?_ _ | refine Ex.drew ?_ | refine Ex.drewN ?_ _ | refine Ex.setCell ?_ (by first | (left; simp; done) | (right; simp; done) | (right; simp; omega)) _ | refine Ex.trans ?_ (by assumption)))
      · refine blk_to (blk_set (blk_set (blk_set (blk_set (blk_set (blk_set (blk_set (blk_set (blk_set (blk_set (hE.heap (by first | (simp; done) | (simp; omega)) hB1'.out) 0 _) 1 _) 2 _) 3 _) 4 _) 5 _) 6 _) 7 _) 8 _) 9 _) ?_
        kernel_rfl
      · refine hSl.ex (S := [w.heap.size + 1]) ?_ hsS
        (repeat (with_reducible first | exact Ex.refl _ _ | assumption | refine Ex.alloc ?_ _ | refine Ex.drew ?_ | refine Ex.drewN ?_ _ | refine Ex.setCell ?_ (by first | (left; simp; done) | (right; simp; done) | (right; simp; omega)) _ | refine Ex.trans ?_ (by assumption)))
      obtain ⟨hX1, hX2, hX3⟩ := hX
      have x0 := blk_cell (v := .slice a p.lots.length cap) hX2 0 rfl
      have x1 := blk_cell (v := .int .i64 p.mass.lo) hX2 1 rfl
      have x2 := blk_cell (v := .int .i64 p.mass.hi) hX2 2 rfl
      have x3 := blk_cell (v := .int .i64 p.target.a.lo) hX2 3 rfl
      have x4 := blk_cell (v := .int .i64 p.target.a.hi) hX2 4 rfl
      have x5 := blk_cell (v := .int .i64 p.target.b.lo) hX2 5 rfl
      have x6 := blk_cell (v := .int .i64 p.target.b.hi) hX2 6 rfl
      have x7 := blk_cell (v := .int .i64 p.target.c.lo) hX2 7 rfl
      have x8 := blk_cell (v := .int .i64 p.target.c.hi) hX2 8 rfl
      have x9 := blk_cell (v := .slice a' (onesM p).length c') hX2 9 rfl
      exact bodyPost_ret (v := .agg #[.slice a p.lots.length cap, .int .i64 p.mass.lo, .int .i64 p.mass.hi, .int .i64 p.target.a.lo, .int .i64 p.target.a.hi, .int .i64 p.target.b.lo, .int .i64 p.target.b.hi, .int .i64 p.target.c.lo, .int .i64 p.target.c.hi, .slice a' (onesM p).length c']) (by simp [results, Try.results41, go_sem, x0, x1, x2, x3, x4, x5, x6, x7, x8, x9]) rfl ⟨a', c', rfl, hX3, hX1⟩
end Go.Proofs.Ythmicafabimfkaa


namespace Go.Proofs.Ythmicafabimfkaa
open Go.RowKit
/-- Whether the product of all numbers of choices passes the limit; as the code reckons it. -/
def manyFrom : List Lot → Int → Bool
  | [], _ => false
  | l :: ls, n => let m := wrap64 (n * wrap64 (l.count + 1)); if 20000 < m then true else manyFrom ls m
theorem manyFrom_drop (lots : List Lot) (k : Nat) (n : Int) (h : k < lots.length) : manyFrom (lots.drop k) n = if 20000 < wrap64 (n * wrap64 ((nth lots .zero k).count + 1)) then true else manyFrom (lots.drop (k + 1)) (wrap64 (n * wrap64 ((nth lots .zero k).count + 1))) := by
  rw [List.drop_eq_getElem_cons h, manyFrom, nth_eq lots .zero k h]
theorem manyFrom_end (lots : List Lot) (k : Nat) (n : Int) (h : ¬ k < lots.length) : manyFrom (lots.drop k) n = false := by
  rw [List.drop_of_length_le (by omega), manyFrom]
def manyM (p : Recipe) : Bool := manyFrom p.lots 1
set_option maxHeartbeats 1000000 in
theorem many_c (p : Recipe) (a : Option Addr) (cap : Nat) (a2 : Option Addr) (n2 cap2 : Nat) (w : World) (hs : SlL w a cap p.lots) :
    Calls Try.prog 42 #[.agg #[.slice a p.lots.length cap, .int .i64 p.mass.lo, .int .i64 p.mass.hi, .int .i64 p.target.a.lo, .int .i64 p.target.a.hi, .int .i64 p.target.b.lo, .int .i64 p.target.b.hi, .int .i64 p.target.c.lo, .int .i64 p.target.c.hi, .slice a2 n2 cap2]] w (Ret (.bool (manyM p)) w) := by
  have hle := hs.le; have hb := hs.big
  go_enter Try.func42, Try.ntmps42
  go_upto_region 1 with (fail)
  refine wp_at (fun W => Ext w W ∧ w.heap.size + 1 = W.heap.size ∧ W.heap[w.heap.size]? = some (.cells #[.slice a p.lots.length cap, .int .i64 p.mass.lo, .int .i64 p.mass.hi, .int .i64 p.target.a.lo, .int .i64 p.target.a.hi, .int .i64 p.target.b.lo, .int .i64 p.target.b.hi, .int .i64 p.target.c.lo, .int .i64 p.target.c.hi, .slice a2 n2 cap2] 103 (0, 0))) ⟨by (repeat (with_reducible first | exact Ex.refl _ _ | assumption | refine Ex.alloc ?_ _ | refine Ex.drew ?_ | refine Ex.drewN ?_ _ | refine Ex.setCell ?_ (by first | (left; simp; done) | (right; simp; done) | (right; simp; omega)) _ | refine Ex.trans ?_ (by assumption))), by simp, blk_new _ _⟩ (fun W hW => ?_)
  obtain ⟨hr0, hsz, hB0⟩ := hW
  have hr : Ex [] W W := Ex.refl _ _
  have f0_0 := cellE (S := []) hB0 (by first | (simp; done) | (simp; omega)) 0 rfl
  have f0_1 := cellE (S := []) hB0 (by first | (simp; done) | (simp; omega)) 1 rfl
  have f0_2 := cellE (S := []) hB0 (by first | (simp; done) | (simp; omega)) 2 rfl
  have f0_3 := cellE (S := []) hB0 (by first | (simp; done) | (simp; omega)) 3 rfl
  have f0_4 := cellE (S := []) hB0 (by first | (simp; done) | (simp; omega)) 4 rfl
  have f0_5 := cellE (S := []) hB0 (by first | (simp; done) | (simp; omega)) 5 rfl
  have f0_6 := cellE (S := []) hB0 (by first | (simp; done) | (simp; omega)) 6 rfl
  have f0_7 := cellE (S := []) hB0 (by first | (simp; done) | (simp; omega)) 7 rfl
  have f0_8 := cellE (S := []) hB0 (by first | (simp; done) | (simp; omega)) 8 rfl
  have f0_9 := cellE (S := []) hB0 (by first | (simp; done) | (simp; omega)) 9 rfl
  clear hB0
  have hsz' := Nat.le_of_eq hsz.symm; have hsz'' := Nat.le_of_eq hsz; clear hsz
  go_wp2_with fail
  go_loopg [3, 10] (p.lots.length) (fun g n i wr => ∃ (k : Nat) (m : Int), g = p.lots.length - k ∧ k ≤ p.lots.length ∧ n = .int .i64 m ∧ i = .int .i64 k ∧ Ext W wr ∧ manyM p = manyFrom (p.lots.drop k) m)
  case atStart => exact ⟨0, 1, rfl, by omega, rfl, rfl, Ex.refl _ _, rfl⟩
  case round =>
    obtain ⟨k, m, rfl, hk, rfl, rfl, hE, hi⟩ := hrel
    have hi' := Lib.hid hi; clear hi
    by_cases hlt : k < p.lots.length
    · obtain ⟨b2, off2, rfl, hbw2, hss⟩ := hs.cells (by omega)
      have d0 := (hr0.trans hE).cell (by simp) (hss k (by omega) 0 _ rfl)
      rw [Nat.add_zero, nth_eq p.lots .zero] at d0
      have d1 := (hr0.trans hE).cell (by simp) (hss k (by omega) 1 _ rfl)
      rw [nth_eq p.lots .zero] at d1
      have d2 := (hr0.trans hE).cell (by simp) (hss k (by omega) 2 _ rfl)
      rw [nth_eq p.lots .zero] at d2
      have d3 := (hr0.trans hE).cell (by simp) (hss k (by omega) 3 _ rfl)
      rw [nth_eq p.lots .zero] at d3
      have d4 := (hr0.trans hE).cell (by simp) (hss k (by omega) 4 _ rfl)
      rw [nth_eq p.lots .zero] at d4
      have d5 := (hr0.trans hE).cell (by simp) (hss k (by omega) 5 _ rfl)
      rw [nth_eq p.lots .zero] at d5
      have d6 := (hr0.trans hE).cell (by simp) (hss k (by omega) 6 _ rfl)
      rw [nth_eq p.lots .zero] at d6
      have d7 := (hr0.trans hE).cell (by simp) (hss k (by omega) 7 _ rfl)
      rw [nth_eq p.lots .zero] at d7
      have d8 := (hr0.trans hE).cell (by simp) (hss k (by omega) 8 _ rfl)
      rw [nth_eq p.lots .zero] at d8
      clear hss
      by_cases hm : 20000 < wrap64 (m * wrap64 ((nth p.lots .zero k).count + 1))
      · go_wp2_with fail
        go_returns
        exact ⟨by rw [hi'.out, manyFrom_drop p.lots k m hlt, if_pos hm]; rfl, hr0.trans (hE.alloc _)⟩
      · go_wp2_with fail
        go_roundg (p.lots.length - (k + 1))
        case rel => exact ⟨k + 1, _, rfl, by omega, rfl, by go_num, hE.alloc _, by rw [hi'.out, manyFrom_drop p.lots k m hlt, if_neg (by omega)]⟩
        case measure => omega
    · go_wp2_with fail
      go_returns
      exact ⟨by rw [hi'.out, manyFrom_end p.lots k m hlt]; rfl, hr0.trans hE⟩
/-- What the first k numbers of pieces cost; as the code reckons it. -/
def costTo (lots : List Lot) (counts : List Int) : Nat → Int
  | 0 => 0
  | k + 1 => wrap64 (costTo lots counts k + wrap64 (nth counts 0 k * (nth lots .zero k).cost))
def costM (lots : List Lot) (counts : List Int) : Int := costTo lots counts counts.length
set_option maxHeartbeats 1000000 in
theorem cost_c (p : Recipe) (a : Option Addr) (cap : Nat) (a2 : Option Addr) (n2 cap2 : Nat) (counts : List Int) (c : Option Addr) (cap' : Nat) (w : World) (hs : SlL w a cap p.lots) (hc : SlI w c cap' counts) (hn : counts.length ≤ p.lots.length) :
    Calls Try.prog 44 #[.agg #[.slice a p.lots.length cap, .int .i64 p.mass.lo, .int .i64 p.mass.hi, .int .i64 p.target.a.lo, .int .i64 p.target.a.hi, .int .i64 p.target.b.lo, .int .i64 p.target.b.hi, .int .i64 p.target.c.lo, .int .i64 p.target.c.hi, .slice a2 n2 cap2], .slice c counts.length cap'] w (Ret (.int .i64 (costM p.lots counts)) w) := by
  have hle := hs.le; have hb := hs.big; have hle' := hc.le; have hb' := hc.big
  go_enter Try.func44, Try.ntmps44
  go_upto_region 1 with (fail)
  refine wp_at (fun W => Ext w W ∧ w.heap.size + 1 = W.heap.size ∧ W.heap[w.heap.size]? = some (.cells #[.slice a p.lots.length cap, .int .i64 p.mass.lo, .int .i64 p.mass.hi, .int .i64 p.target.a.lo, .int .i64 p.target.a.hi, .int .i64 p.target.b.lo, .int .i64 p.target.b.hi, .int .i64 p.target.c.lo, .int .i64 p.target.c.hi, .slice a2 n2 cap2] 103 (0, 0))) ⟨by (repeat (with_reducible first | exact Ex.refl _ _ | assumption | refine Ex.alloc ?_ _ | refine Ex.drew ?_ | refine Ex.drewN ?_ _ | refine Ex.setCell ?_ (by first | (left; simp; done) | (right; simp; done) | (right; simp; omega)) _ | refine Ex.trans ?_ (by assumption))), by simp, blk_new _ _⟩ (fun W hW => ?_)
  obtain ⟨hr0, hsz, hB0⟩ := hW
  have hr : Ex [] W W := Ex.refl _ _
  have f0_0 := cellE (S := []) hB0 (by first | (simp; done) | (simp; omega)) 0 rfl
  have f0_1 := cellE (S := []) hB0 (by first | (simp; done) | (simp; omega)) 1 rfl
  have f0_2 := cellE (S := []) hB0 (by first | (simp; done) | (simp; omega)) 2 rfl
  have f0_3 := cellE (S := []) hB0 (by first | (simp; done) | (simp; omega)) 3 rfl
  have f0_4 := cellE (S := []) hB0 (by first | (simp; done) | (simp; omega)) 4 rfl
  have f0_5 := cellE (S := []) hB0 (by first | (simp; done) | (simp; omega)) 5 rfl
  have f0_6 := cellE (S := []) hB0 (by first | (simp; done) | (simp; omega)) 6 rfl
  have f0_7 := cellE (S := []) hB0 (by first | (simp; done) | (simp; omega)) 7 rfl
  have f0_8 := cellE (S := []) hB0 (by first | (simp; done) | (simp; omega)) 8 rfl
  have f0_9 := cellE (S := []) hB0 (by first | (simp; done) | (simp; omega)) 9 rfl
  clear hB0
  have hsz' := Nat.le_of_eq hsz.symm; have hsz'' := Nat.le_of_eq hsz; clear hsz
  go_wp2_with fail
  go_loopg [4, 9] (counts.length) (fun g n i wr => ∃ (k : Nat), g = counts.length - k ∧ k ≤ counts.length ∧ n = .int .i64 (costTo p.lots counts k) ∧ i = .int .i64 k ∧ Ext W wr)
  case atStart => exact ⟨0, rfl, by omega, rfl, rfl, Ex.refl _ _⟩
  case round =>
    obtain ⟨k, rfl, hk, rfl, rfl, hE⟩ := hrel
    by_cases hlt : k < counts.length
    · obtain ⟨b, off, rfl, hbw, hcc⟩ := hc.cells (by omega)
      have c0 := (hr0.trans hE).cell (by simp) (hcc k (by omega) 0 _ rfl)
      rw [Nat.add_zero, Nat.mul_one, nth_eq counts 0] at c0
      clear hcc
      obtain ⟨b2, off2, rfl, hbw2, hss⟩ := hs.cells (by omega)
      have d8 := (hr0.trans hE).cell (by simp) (hss k (by omega) 8 _ rfl)
      rw [nth_eq p.lots .zero] at d8
      clear hss
      go_wp2_with fail
      go_roundg (counts.length - (k + 1))
      case rel => exact ⟨k + 1, rfl, by omega, rfl, by go_num, hE⟩
      case measure => omega
    · go_wp2_with fail
      go_returns
      exact ⟨by unfold costM; rw [show k = counts.length from by omega]; rfl, hr0.trans hE⟩
theorem eiInt : EI Try.prog 34 3 1 8 := EI.mk' (z := .int .i64 0) (by kernel_rfl) (by kernel_rfl) (by rfl) (by omega)
theorem intCells_len (n : Int) : (intCells n).length = 1 := rfl
theorem intCells_one (n : Int) : ∀ u ∈ intCells n, u.oneCell' = true := by simp [intCells, Value.oneCell']
end Go.Proofs.Ythmicafabimfkaa


namespace Go.Proofs.Ythmicafabimfkaa
open Go.RowKit
set_option maxHeartbeats 1000000 in
theorem cloneI_c (a : Option Addr) (cap : Nat) (xs : List Int) (w : World) (hs : Sl 1 intCells w a cap xs) (hn : xs.length ≤ 100000000) :
    Calls Try.prog 46 #[.slice a xs.length cap] w (fun e w' => ∃ a' c', e = .returned (.slice a' xs.length c') ∧ Own 3 1 intCells w.heap.size w' (.slice a' xs.length c') xs ∧ Ext w w') := by
  have hle := hs.le; have hb := hs.big
  have hnil := @Lib.run_eql_slice_nil Try.prog
  cases a with
  | none =>
    have h0 : xs = [] := List.length_eq_zero_iff.1 (Nat.eq_zero_of_not_pos fun h => by obtain ⟨b, off, h1, _⟩ := hs.cells h; cases h1)
    subst h0
    go_enter Try.func46, Try.ntmps46
    go_wp2_with fail
    go_returns
    exact ⟨_, _, rfl, Own.nil _, Ex.refl _ _⟩
  | some b =>
    go_enter Try.func46, Try.ntmps46
    go_wp2_with (at_builtin; refine wpList_appendAny (base := w.heap.size) eiInt intCells_len intCells_one rfl _ _ rfl _ [] (by rfl) (Own.empty (Nat.le_refl _)) (some b) cap xs (by rfl) (hs.ext ((Ex.refl _ _).alloc _)) (by simp; omega) (by simp; omega) (by simp) ?_; intro v w1 hO hx hg hv; obtain ⟨a', c', rfl⟩ := hv; simp only [List.length_nil, Nat.zero_add, List.nil_append] at hO)
    go_returns
    refine ⟨a', c', by simp, hO, ?_⟩
    have h9 : Ex [] w (w.alloc (.cells #[] 3 (0, 0))) := (Ex.refl _ _).alloc _
    exact h9.trans_fresh hx (fun x hx => .inr (by simp [Value.ownBlock] at hx; omega))
end Go.Proofs.Ythmicafabimfkaa
