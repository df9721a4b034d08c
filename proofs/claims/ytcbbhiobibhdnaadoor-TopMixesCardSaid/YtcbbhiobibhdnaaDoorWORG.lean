/- The table of a recipe. No condition. -/
import Derived.Test.YtcbbhiobibhdnaaDoorWOC9
import Derived.Test.YtcbbhiobibhdnaaDoorWQB3
import Derived.Test.YtcbbhiobibhdnaaDoorWQB4
import Derived.WalkSpells
import Derived.RangeFuncNested
import Derived.RangeFuncBound
import Derived.RangeFuncCalls
import Derived.RangeFuncLeaves

namespace Go.Proofs.YtcbbhiobibhdnaaDoor
open Go.RowKit
def xRT (p : Recipe) (l : Lot) : Mar := ofM p (xBo .zero l 1)
def xBu (p : Recipe) : List Mar := p.lots.map (xRT p)
theorem Mar.len (m : Mar) : m.cells.length = 8 := rfl
theorem Mar.one (m : Mar) : ∀ u ∈ m.cells, u.oneCell' = true := by simp [Mar.cells, Value.oneCell']
theorem eiMar : EI Tryd.prog 117 124 8 64 := EI.mk' (z := .agg #[.int .i64 0, .int .i64 0, .int .i64 0, .int .i64 0, .int .i64 0, .int .i64 0, .int .i64 0, .int .i64 0]) (by kernel_rfl) (by kernel_rfl) (by rfl) (by omega)
theorem ones_to (p : Recipe) (k : Nat) (h : k < p.lots.length) : (xBu p).take (k + 1) = (xBu p).take k ++ [xRT p (nth p.lots .zero k)] := by
 rw [List.take_succ_eq_append_getElem (by simpa [xBu] using h)]
 simp [xBu, xAG p.lots .zero k h]
set_option maxRecDepth 100000 in
set_option maxHeartbeats 4000000 in
theorem xOq (p : Recipe) (a : Option Addr) (cap : Nat) (w : World) (hs : SlL w a cap p.lots) (hn : p.lots.length ≤ 1000) :
  Calls Tryd.prog 40 #[.agg #[.slice a p.lots.length cap, .int .i64 p.mass.lo, .int .i64 p.mass.hi, .int .i64 p.target.a.lo, .int .i64 p.target.a.hi, .int .i64 p.target.b.lo, .int .i64 p.target.b.hi, .int .i64 p.target.c.lo, .int .i64 p.target.c.hi]] w (fun e w' => ∃ a' c', e = .returned (.agg #[.slice a p.lots.length cap, .int .i64 p.mass.lo, .int .i64 p.mass.hi, .int .i64 p.target.a.lo, .int .i64 p.target.a.hi, .int .i64 p.target.b.lo, .int .i64 p.target.b.hi, .int .i64 p.target.c.lo, .int .i64 p.target.c.hi, .slice a' (xBu p).length c']) ∧ Sl 8 Mar.cells w' a' c' (xBu p) ∧ Ext w w') := by
 have hle := hs.le; have hb := hs.big
 go_enter Tryd.func40, Tryd.ntmps40
 go_upto_region 2 with (fail)
 refine xFC (fun W => Ext w W ∧ w.heap.size + 3 = W.heap.size ∧ W.heap[w.heap.size]? = some (.cells #[.slice a p.lots.length cap, .int .i64 p.mass.lo, .int .i64 p.mass.hi, .int .i64 p.target.a.lo, .int .i64 p.target.a.hi, .int .i64 p.target.b.lo, .int .i64 p.target.b.hi, .int .i64 p.target.c.lo, .int .i64 p.target.c.hi] 62 (0, 0)) ∧ W.heap[w.heap.size + 1]? = some (.cells #[.slice none 0 0, .int .i64 0, .int .i64 0, .int .i64 0, .int .i64 0, .int .i64 0, .int .i64 0, .int .i64 0, .int .i64 0, .slice none 0 0] 119 (0, 0)) ∧ W.heap[w.heap.size + 1 + 1]? = some (.cells #[.slice a p.lots.length cap, .int .i64 p.mass.lo, .int .i64 p.mass.hi, .int .i64 p.target.a.lo, .int .i64 p.target.a.hi, .int .i64 p.target.b.lo, .int .i64 p.target.b.hi, .int .i64 p.target.c.lo, .int .i64 p.target.c.hi, .slice none 0 0] 119 (0, 0))) ⟨by (repeat (with_reducible first | exact Ex.refl _ _ | assumption | refine Ex.alloc ?_ _ | refine Ex.drew ?_ | refine Ex.drewN ?_ _ | refine Ex.setCell ?_ (by first | (left; simp; done) | (right; simp; done) | (right; simp; omega)) _ | refine Ex.trans ?_ (by assumption))), by simp, xBN (xBN (xAB _ _)), xBN (by have h := xAB ((w).alloc (.cells #[.slice a p.lots.length cap, .int .i64 p.mass.lo, .int .i64 p.mass.hi, .int .i64 p.target.a.lo, .int .i64 p.target.a.hi, .int .i64 p.target.b.lo, .int .i64 p.target.b.hi, .int .i64 p.target.c.lo, .int .i64 p.target.c.hi] 62 (0, 0))) (.cells #[.slice none 0 0, .int .i64 0, .int .i64 0, .int .i64 0, .int .i64 0, .int .i64 0, .int .i64 0, .int .i64 0, .int .i64 0, .slice none 0 0] 119 (0, 0)); simpa using h), by have h := xAB (((w).alloc (.cells #[.slice a p.lots.length cap, .int .i64 p.mass.lo, .int .i64 p.mass.hi, .int .i64 p.target.a.lo, .int .i64 p.target.a.hi, .int .i64 p.target.b.lo, .int .i64 p.target.b.hi, .int .i64 p.target.c.lo, .int .i64 p.target.c.hi] 62 (0, 0))).alloc (.cells #[.slice none 0 0, .int .i64 0, .int .i64 0, .int .i64 0, .int .i64 0, .int .i64 0, .int .i64 0, .int .i64 0, .int .i64 0, .slice none 0 0] 119 (0, 0))) (.cells #[.slice a p.lots.length cap, .int .i64 p.mass.lo, .int .i64 p.mass.hi, .int .i64 p.target.a.lo, .int .i64 p.target.a.hi, .int .i64 p.target.b.lo, .int .i64 p.target.b.hi, .int .i64 p.target.c.lo, .int .i64 p.target.c.hi, .slice none 0 0] 119 (0, 0)); simpa using h⟩ (fun W hW => ?_)
 obtain ⟨hr0, hsz, hB0, hB1, hB2⟩ := hW
 have hr : Ex [w.heap.size + 1 + 1] W W := Ex.refl _ _
 have f0_0 := xAh (S := [w.heap.size + 1 + 1]) hB0 (by first | (simp; done) | (simp; omega)) 0 rfl
 have f0_1 := xAh (S := [w.heap.size + 1 + 1]) hB0 (by first | (simp; done) | (simp; omega)) 1 rfl
 have f0_2 := xAh (S := [w.heap.size + 1 + 1]) hB0 (by first | (simp; done) | (simp; omega)) 2 rfl
 have f0_3 := xAh (S := [w.heap.size + 1 + 1]) hB0 (by first | (simp; done) | (simp; omega)) 3 rfl
 have f0_4 := xAh (S := [w.heap.size + 1 + 1]) hB0 (by first | (simp; done) | (simp; omega)) 4 rfl
 have f0_5 := xAh (S := [w.heap.size + 1 + 1]) hB0 (by first | (simp; done) | (simp; omega)) 5 rfl
 have f0_6 := xAh (S := [w.heap.size + 1 + 1]) hB0 (by first | (simp; done) | (simp; omega)) 6 rfl
 have f0_7 := xAh (S := [w.heap.size + 1 + 1]) hB0 (by first | (simp; done) | (simp; omega)) 7 rfl
 have f0_8 := xAh (S := [w.heap.size + 1 + 1]) hB0 (by first | (simp; done) | (simp; omega)) 8 rfl
 have f1_0 := xAh (S := [w.heap.size + 1 + 1]) hB1 (by first | (simp; done) | (simp; omega)) 0 rfl
 have f1_1 := xAh (S := [w.heap.size + 1 + 1]) hB1 (by first | (simp; done) | (simp; omega)) 1 rfl
 have f1_2 := xAh (S := [w.heap.size + 1 + 1]) hB1 (by first | (simp; done) | (simp; omega)) 2 rfl
 have f1_3 := xAh (S := [w.heap.size + 1 + 1]) hB1 (by first | (simp; done) | (simp; omega)) 3 rfl
 have f1_4 := xAh (S := [w.heap.size + 1 + 1]) hB1 (by first | (simp; done) | (simp; omega)) 4 rfl
 have f1_5 := xAh (S := [w.heap.size + 1 + 1]) hB1 (by first | (simp; done) | (simp; omega)) 5 rfl
 have f1_6 := xAh (S := [w.heap.size + 1 + 1]) hB1 (by first | (simp; done) | (simp; omega)) 6 rfl
 have f1_7 := xAh (S := [w.heap.size + 1 + 1]) hB1 (by first | (simp; done) | (simp; omega)) 7 rfl
 have f1_8 := xAh (S := [w.heap.size + 1 + 1]) hB1 (by first | (simp; done) | (simp; omega)) 8 rfl
 have f1_9 := xAh (S := [w.heap.size + 1 + 1]) hB1 (by first | (simp; done) | (simp; omega)) 9 rfl
 have z1_0 := xDp (S := [w.heap.size + 1 + 1]) hB1 (by first | (simp; done) | (simp; omega)) 0
 have z1_1 := xDp (S := [w.heap.size + 1 + 1]) hB1 (by first | (simp; done) | (simp; omega)) 1
 have z1_2 := xDp (S := [w.heap.size + 1 + 1]) hB1 (by first | (simp; done) | (simp; omega)) 2
 have z1_3 := xDp (S := [w.heap.size + 1 + 1]) hB1 (by first | (simp; done) | (simp; omega)) 3
 have z1_4 := xDp (S := [w.heap.size + 1 + 1]) hB1 (by first | (simp; done) | (simp; omega)) 4
 have z1_5 := xDp (S := [w.heap.size + 1 + 1]) hB1 (by first | (simp; done) | (simp; omega)) 5
 have z1_6 := xDp (S := [w.heap.size + 1 + 1]) hB1 (by first | (simp; done) | (simp; omega)) 6
 have z1_7 := xDp (S := [w.heap.size + 1 + 1]) hB1 (by first | (simp; done) | (simp; omega)) 7
 have z1_8 := xDp (S := [w.heap.size + 1 + 1]) hB1 (by first | (simp; done) | (simp; omega)) 8
 have z1_9 := xDp (S := [w.heap.size + 1 + 1]) hB1 (by first | (simp; done) | (simp; omega)) 9
 clear hB0
 have hsz' := Nat.le_of_eq hsz.symm; have hsz'' := Nat.le_of_eq hsz; clear hsz
 have hB2' := Lib.hid hB2; clear hB2
 have hB1' := Lib.hid hB1; clear hB1
 go_wp2_with fail
 go_loopg [12] (p.lots.length) (fun g i wr => ∃ (k : Nat) (v : Value), g = p.lots.length - k ∧ k ≤ p.lots.length ∧ i = .int .i64 k ∧ Ex [w.heap.size + 1 + 1] W wr ∧ wr.heap[w.heap.size + 1 + 1]? = some (.cells #[.slice a p.lots.length cap, .int .i64 p.mass.lo, .int .i64 p.mass.hi, .int .i64 p.target.a.lo, .int .i64 p.target.a.hi, .int .i64 p.target.b.lo, .int .i64 p.target.b.hi, .int .i64 p.target.c.lo, .int .i64 p.target.c.hi, v] 119 (0, 0)) ∧ Own 124 8 Mar.cells W.heap.size wr v ((xBu p).take k))
 case atStart => exact ⟨0, _, rfl, by omega, rfl, Ex.refl _ _, hB2'.out, Own.nil _⟩
 case round =>
  obtain ⟨k, v, rfl, hk, rfl, hE, hT, hO⟩ := hrel
  by_cases hlt : k < p.lots.length
  ·obtain ⟨b2, off2, rfl, hbw2, hss⟩ := hs.cells (by omega)
   have d0 := hE.cell (by simp; omega) (hr0.cell (by simp) (hss k (by omega) 0 _ rfl))
   rw [Nat.add_zero, xAG p.lots .zero] at d0
   have d1 := hE.cell (by simp; omega) (hr0.cell (by simp) (hss k (by omega) 1 _ rfl))
   rw [xAG p.lots .zero] at d1
   have d2 := hE.cell (by simp; omega) (hr0.cell (by simp) (hss k (by omega) 2 _ rfl))
   rw [xAG p.lots .zero] at d2
   have d3 := hE.cell (by simp; omega) (hr0.cell (by simp) (hss k (by omega) 3 _ rfl))
   rw [xAG p.lots .zero] at d3
   have d4 := hE.cell (by simp; omega) (hr0.cell (by simp) (hss k (by omega) 4 _ rfl))
   rw [xAG p.lots .zero] at d4
   have d5 := hE.cell (by simp; omega) (hr0.cell (by simp) (hss k (by omega) 5 _ rfl))
   rw [xAG p.lots .zero] at d5
   have d6 := hE.cell (by simp; omega) (hr0.cell (by simp) (hss k (by omega) 6 _ rfl))
   rw [xAG p.lots .zero] at d6
   have d7 := hE.cell (by simp; omega) (hr0.cell (by simp) (hss k (by omega) 7 _ rfl))
   rw [xAG p.lots .zero] at d7
   have d8 := hE.cell (by simp; omega) (hr0.cell (by simp) (hss k (by omega) 8 _ rfl))
   rw [xAG p.lots .zero] at d8
   clear hss
   have hT' := Lib.hid hT; clear hT
   obtain ⟨L, hL⟩ : ∃ L, (xBu p).take k = L := ⟨_, rfl⟩
   rw [hL] at hO
   have hLl : L.length ≤ 1000 := by rw [← hL]; simp [xBu]; omega
   have hL' := Lib.hid hL; clear hL
   have hO' := Lib.hid hO; clear hO
   go_upto_region 6 with fail
   have hp := put0_c Pile.zero (nth p.lots .zero k) 1 (wr.heap.size + 1) 67 _ (heap_alloc2_new wr (.cells #[.int .i64 ((nth p.lots .zero k).count), .int .i64 ((nth p.lots .zero k).mass), .int .i64 ((nth p.lots .zero k).con.a.lo), .int .i64 ((nth p.lots .zero k).con.a.hi), .int .i64 ((nth p.lots .zero k).con.b.lo), .int .i64 ((nth p.lots .zero k).con.b.hi), .int .i64 ((nth p.lots .zero k).con.c.lo), .int .i64 ((nth p.lots .zero k).con.c.hi), .int .i64 ((nth p.lots .zero k).cost)] 95 (0, 0)) (.cells #[.int .i64 0, .int .i64 0, .int .i64 0, .int .i64 0, .int .i64 0, .int .i64 0, .int .i64 0] 67 (0, 0)))
   have hp' := Lib.hid hp; clear hp
   go_wp2_with fail
   refine hp'.out.mono ?_
   clear hp'
   rintro e w1 ⟨rfl, h1, hP⟩
   have hP' := Lib.hid hP; clear hP
   go_upto_region 7 with fail
   have hw0 : Ex [w.heap.size + 1 + 1] W (wr.alloc (.cells #[.int .i64 ((nth p.lots .zero k).count), .int .i64 ((nth p.lots .zero k).mass), .int .i64 ((nth p.lots .zero k).con.a.lo), .int .i64 ((nth p.lots .zero k).con.a.hi), .int .i64 ((nth p.lots .zero k).con.b.lo), .int .i64 ((nth p.lots .zero k).con.b.hi), .int .i64 ((nth p.lots .zero k).con.c.lo), .int .i64 ((nth p.lots .zero k).con.c.hi), .int .i64 ((nth p.lots .zero k).cost)] 95 (0, 0))) := hE.alloc _
   have hw1 : Ex [wr.heap.size + 1] wr w1 := (((Ex.refl _ _).alloc _).alloc _).trans h1
   refine xFC (fun X => Ex [w.heap.size + 1 + 1] W X ∧ X.heap[w.heap.size + 1 + 1]? = some (.cells #[.slice (some ⟨b2, off2, none⟩) p.lots.length cap, .int .i64 p.mass.lo, .int .i64 p.mass.hi, .int .i64 p.target.a.lo, .int .i64 p.target.a.hi, .int .i64 p.target.b.lo, .int .i64 p.target.b.hi, .int .i64 p.target.c.lo, .int .i64 p.target.c.hi, v] 119 (0, 0)) ∧ X.heap[wr.heap.size + 1]? = some (.cells #[.int .i64 ((xBo .zero (nth p.lots .zero k) 1).mass), .int .i64 ((xBo .zero (nth p.lots .zero k) 1).con.a.lo), .int .i64 ((xBo .zero (nth p.lots .zero k) 1).con.a.hi), .int .i64 ((xBo .zero (nth p.lots .zero k) 1).con.b.lo), .int .i64 ((xBo .zero (nth p.lots .zero k) 1).con.b.hi), .int .i64 ((xBo .zero (nth p.lots .zero k) 1).con.c.lo), .int .i64 ((xBo .zero (nth p.lots .zero k) 1).con.c.hi)] 67 (0, 0)) ∧ Own 124 8 Mar.cells W.heap.size X v L ∧ wr.heap.size + 1 < X.heap.size) ⟨hE.trans_fresh hw1 ?_, hw1.heap ?_ hT'.out, hP'.out, hO'.out.ex hw1 ?_, lt_of_block hP'.out⟩ (fun X hX => ?_)
   ·intro x hx; right; have := hE.size; simp at hx; omega
   ·have := lt_of_block hT'.out; simp; omega
   ·intro g hg; have := hO'.out.lt hg; simp; omega
   obtain ⟨hX1, hX2, hX3, hX4, hX5⟩ := hX
   have hXs := hX1.size
   have hE' := Lib.hid hE; clear hE
   have hX1' := hX1
   replace f0_0 := fun w' (h : Ex [] X w') => f0_0 w' (hX1.trans (h.mono (by simp)))
   replace f0_1 := fun w' (h : Ex [] X w') => f0_1 w' (hX1.trans (h.mono (by simp)))
   replace f0_2 := fun w' (h : Ex [] X w') => f0_2 w' (hX1.trans (h.mono (by simp)))
   replace f0_3 := fun w' (h : Ex [] X w') => f0_3 w' (hX1.trans (h.mono (by simp)))
   replace f0_4 := fun w' (h : Ex [] X w') => f0_4 w' (hX1.trans (h.mono (by simp)))
   replace f0_5 := fun w' (h : Ex [] X w') => f0_5 w' (hX1.trans (h.mono (by simp)))
   replace f0_6 := fun w' (h : Ex [] X w') => f0_6 w' (hX1.trans (h.mono (by simp)))
   replace f0_7 := fun w' (h : Ex [] X w') => f0_7 w' (hX1.trans (h.mono (by simp)))
   replace f0_8 := fun w' (h : Ex [] X w') => f0_8 w' (hX1.trans (h.mono (by simp)))
   have q_0 := xAh (S := []) hX2 (by first | (simp; done) | (simp; omega)) 0 rfl
   have q_1 := xAh (S := []) hX2 (by first | (simp; done) | (simp; omega)) 1 rfl
   have q_2 := xAh (S := []) hX2 (by first | (simp; done) | (simp; omega)) 2 rfl
   have q_3 := xAh (S := []) hX2 (by first | (simp; done) | (simp; omega)) 3 rfl
   have q_4 := xAh (S := []) hX2 (by first | (simp; done) | (simp; omega)) 4 rfl
   have q_5 := xAh (S := []) hX2 (by first | (simp; done) | (simp; omega)) 5 rfl
   have q_6 := xAh (S := []) hX2 (by first | (simp; done) | (simp; omega)) 6 rfl
   have q_7 := xAh (S := []) hX2 (by first | (simp; done) | (simp; omega)) 7 rfl
   have q_8 := xAh (S := []) hX2 (by first | (simp; done) | (simp; omega)) 8 rfl
   have q_9 := xAh (S := []) hX2 (by first | (simp; done) | (simp; omega)) 9 rfl
   have m_0 := xAh (S := []) hX3 (by first | (simp; done) | (simp; omega)) 0 rfl
   have m_1 := xAh (S := []) hX3 (by first | (simp; done) | (simp; omega)) 1 rfl
   have m_2 := xAh (S := []) hX3 (by first | (simp; done) | (simp; omega)) 2 rfl
   have m_3 := xAh (S := []) hX3 (by first | (simp; done) | (simp; omega)) 3 rfl
   have m_4 := xAh (S := []) hX3 (by first | (simp; done) | (simp; omega)) 4 rfl
   have m_5 := xAh (S := []) hX3 (by first | (simp; done) | (simp; omega)) 5 rfl
   have m_6 := xAh (S := []) hX3 (by first | (simp; done) | (simp; omega)) 6 rfl
   have hrX : Ex [] X X := Ex.refl _ _
   have zf := xDp (S := []) hX2 (by simp) 9
   have hX2' := Lib.hid hX2; have hX3' := Lib.hid hX3; clear hX2 hX3
   clear hT' hw0 hw1 hP' h1 hO'
   refine xEu (fun w' => Ex [] X w') [.pu [0], .st [1, 2, 3], .mv 4, .mv 5, .tl [6], .pu [7], .tl [8]] (by kernel_rfl) (by kernel_rfl) (Ex.drew (by first | (with_reducible assumption) | (repeat (with_reducible first | exact Ex.refl _ _ | assumption | refine Ex.alloc ?_ _ | refine Ex.drew ?_ | refine Ex.drewN ?_ _ | refine Ex.setCell ?_ (by first | (left; simp; done) | (right; simp; done) | (right; simp; omega)) _ | refine Ex.trans ?_ (by assumption))))) ?_
   refine xFK (fun K hK => ?_)
   simp only [pick, List.drop_succ_cons, List.drop_zero, List.take_succ_cons, List.take_zero, List.cons_append, List.nil_append]
   iterate 1 (first | (refine xAR ?_ (by rfl) (fun w' hS' => ?_) ?_; rotate_left; ((try dsimp only at hS'); go_simp; try with_reducible rfl); simp only [Act.put, List.setIfInBounds_toArray, List.set_cons_zero, List.set_cons_succ]) | (refine xA5 (by rfl) ?_; simp only [Act.put, List.setIfInBounds_toArray, List.set_cons_zero, List.set_cons_succ]))
   refine xAX (hK _ ?_)
   clear hK K
   refine xJH (fun K hK => ?_)
   simp only [pick, List.drop_succ_cons, List.drop_zero, List.take_succ_cons, List.take_zero, List.cons_append, List.nil_append]
   iterate 3 (first | (refine xAR ?_ (by rfl) (fun w' hS' => ?_) ?_; rotate_left; ((try dsimp only at hS'); go_simp; try with_reducible rfl); simp only [Act.put, List.setIfInBounds_toArray, List.set_cons_zero, List.set_cons_succ]) | (refine xA5 (by rfl) ?_; simp only [Act.put, List.setIfInBounds_toArray, List.set_cons_zero, List.set_cons_succ]))
   refine xAX (hK _ ?_)
   clear hK K
   refine xDN (fun K hK => ?_)
   simp only [pick, List.drop_succ_cons, List.drop_zero, List.take_succ_cons, List.take_zero, List.cons_append, List.nil_append]
   go_wp2_with (first | (go_at_call 76; refine (of_c p (xBo .zero (nth p.lots .zero k) 1) _ _ _).mono ?_; rintro e w1 ⟨rfl, h1⟩; replace h1 : Ex [] X w1 := Ex.trans (by first | (with_reducible assumption) | (repeat (with_reducible first | exact Ex.refl _ _ | assumption | refine Ex.alloc ?_ _ | refine Ex.drew ?_ | refine Ex.drewN ?_ _ | refine Ex.setCell ?_ (by first | (left; simp; done) | (right; simp; done) | (right; simp; omega)) _ | refine Ex.trans ?_ (by assumption)))) (h1.ex _)))
   first | refine hK _ _ (by first | (with_reducible assumption) | (repeat (with_reducible first | exact Ex.refl _ _ | assumption | refine Ex.alloc ?_ _ | refine Ex.drew ?_ | refine Ex.drewN ?_ _ | refine Ex.setCell ?_ (by first | (left; simp; done) | (right; simp; done) | (right; simp; omega)) _ | refine Ex.trans ?_ (by assumption)))) ?_ | refine ⟨rfl, hK _ _ (by first | (with_reducible assumption) | (repeat (with_reducible first | exact Ex.refl _ _ | assumption | refine Ex.alloc ?_ _ | refine Ex.drew ?_ | refine Ex.drewN ?_ _ | refine Ex.setCell ?_ (by first | (left; simp; done) | (right; simp; done) | (right; simp; omega)) _ | refine Ex.trans ?_ (by assumption)))) ?_⟩
   clear hK K
   refine xDN (fun K hK => ?_)
   simp only [pick, List.drop_succ_cons, List.drop_zero, List.take_succ_cons, List.take_zero, List.cons_append, List.nil_append]
   go_wp2_with (first | (go_at_call 76; refine (of_c p (xBo .zero (nth p.lots .zero k) 1) _ _ _).mono ?_; rintro e w1 ⟨rfl, h1⟩; replace h1 : Ex [] X w1 := Ex.trans (by first | (with_reducible assumption) | (repeat (with_reducible first | exact Ex.refl _ _ | assumption | refine Ex.alloc ?_ _ | refine Ex.drew ?_ | refine Ex.drewN ?_ _ | refine Ex.setCell ?_ (by first | (left; simp; done) | (right; simp; done) | (right; simp; omega)) _ | refine Ex.trans ?_ (by assumption)))) (h1.ex _)))
   first | refine hK _ _ (by first | (with_reducible assumption) | (repeat (with_reducible first | exact Ex.refl _ _ | assumption | refine Ex.alloc ?_ _ | refine Ex.drew ?_ | refine Ex.drewN ?_ _ | refine Ex.setCell ?_ (by first | (left; simp; done) | (right; simp; done) | (right; simp; omega)) _ | refine Ex.trans ?_ (by assumption)))) ?_ | refine ⟨rfl, hK _ _ (by first | (with_reducible assumption) | (repeat (with_reducible first | exact Ex.refl _ _ | assumption | refine Ex.alloc ?_ _ | refine Ex.drew ?_ | refine Ex.drewN ?_ _ | refine Ex.setCell ?_ (by first | (left; simp; done) | (right; simp; done) | (right; simp; omega)) _ | refine Ex.trans ?_ (by assumption)))) ?_⟩
   clear hK K
   refine xPw (fun K hK => ?_)
   simp only [pick, List.drop_succ_cons, List.drop_zero, List.take_succ_cons, List.take_zero, List.cons_append, List.nil_append]
   go_wp2_with (first | (at_builtin; refine xG2 (base := W.heap.size) eiMar Mar.len Mar.one rfl _ _ rfl v L (by rfl) (hX4.ext (h1.alloc _)) w1.heap.size (xRT p (nth p.lots .zero k)) (by rfl) (fun j u hu => xAf (xAB _ _) j (by simpa [Mar.cells, xRT] using hu)) (by omega) (by omega) (by have := h1.size; simp; omega) ?_; intro g c2 w2 hO2 hx2 hg2 hlt2; have hT2 := hx2.heap (fun hm => by have := hX4.base_le (by simpa using hm); omega) ((h1.alloc _).heap (by simp) hX2'.out); have zc := xAf hT2 9 rfl; have zf2 := xBG hT2 9; have hT2' := Lib.hid hT2; clear hT2))
   try refine ⟨rfl, hK _ _ ?_⟩
   try clear hK K
   refine xFK (fun K hK => ?_)
   simp only [pick, List.drop_succ_cons, List.drop_zero, List.take_succ_cons, List.take_zero, List.cons_append, List.nil_append]
   iterate 1 (first | (refine xAR ?_ (by rfl) (fun w' hS' => ?_) ?_; rotate_left; ((try dsimp only at hS'); go_simp; try with_reducible rfl); simp only [Act.put, List.setIfInBounds_toArray, List.set_cons_zero, List.set_cons_succ]) | (refine xA5 (by rfl) ?_; simp only [Act.put, List.setIfInBounds_toArray, List.set_cons_zero, List.set_cons_succ]))
   refine xAX (hK _ ?_)
   clear hK K
   refine xPw (fun K hK => ?_)
   simp only [pick, List.drop_succ_cons, List.drop_zero, List.take_succ_cons, List.take_zero, List.cons_append, List.nil_append]
   go_wp2_with (first | (at_builtin; refine xG2 (base := W.heap.size) eiMar Mar.len Mar.one rfl _ _ rfl v L (by rfl) (hX4.ext (h1.alloc _)) w1.heap.size (xRT p (nth p.lots .zero k)) (by rfl) (fun j u hu => xAf (xAB _ _) j (by simpa [Mar.cells, xRT] using hu)) (by omega) (by omega) (by have := h1.size; simp; omega) ?_; intro g c2 w2 hO2 hx2 hg2 hlt2; have hT2 := hx2.heap (fun hm => by have := hX4.base_le (by simpa using hm); omega) ((h1.alloc _).heap (by simp) hX2'.out); have zc := xAf hT2 9 rfl; have zf2 := xBG hT2 9; have hT2' := Lib.hid hT2; clear hT2))
   try refine ⟨rfl, hK _ _ ?_⟩
   try clear hK K
   refine xJI ?_
   go_wp2_with fail
   go_roundg (p.lots.length - (k + 1))
   case rel =>
    have e1 : Ex [w.heap.size + 1 + 1] W w2 := ((hX1'.trans (h1.ex _)).alloc _).trans_fresh hx2 (fun x hx => .inr (hX4.base_le (by simpa using hx)))
    refine ⟨k + 1, _, rfl, by omega, by go_num, e1.setCell (.inl (by simp)) _, xRB (xAJ hT2'.out 9 _) (by kernel_rfl), (hO2.ex (S := [w.heap.size + 1 + 1]) ((Ex.refl _ _).setCell (.inl (by simp)) _) ?_).cong (by rw [ones_to p k hlt, hL'.out])⟩
    intro g' hg'
    have := hO2.base_le hg'
    simp; omega
   case measure => omega
  ·have hO2 := hO.cong (List.take_of_length_le (l := xBu p) (by simp [xBu]; omega))
   obtain ⟨a', c', rfl, hSl, hbb⟩ := hO2.sl Mar.len
   have e0 := xAf (v := .slice a p.lots.length cap) hT 0 rfl
   have e1 := xAf (v := .int .i64 p.mass.lo) hT 1 rfl
   have e2 := xAf (v := .int .i64 p.mass.hi) hT 2 rfl
   have e3 := xAf (v := .int .i64 p.target.a.lo) hT 3 rfl
   have e4 := xAf (v := .int .i64 p.target.a.hi) hT 4 rfl
   have e5 := xAf (v := .int .i64 p.target.b.lo) hT 5 rfl
   have e6 := xAf (v := .int .i64 p.target.b.hi) hT 6 rfl
   have e7 := xAf (v := .int .i64 p.target.c.lo) hT 7 rfl
   have e8 := xAf (v := .int .i64 p.target.c.hi) hT 8 rfl
   have e9 := xAf (v := .slice a' (xBu p).length c') hT 9 rfl
   have g0 : Ext w wr := ((hr0.ex _).trans hE).fresh (T := []) (by intro x hx; right; simp at hx; omega)
   clear hT hO hO2
   go_wp2_with fail
   (try simp only [Exit.inBlock, Exit.then])
   have hsS : ∀ b, a' = some b → b.block ∉ [w.heap.size + 1] := fun b hb => (by have := hbb b hb; simp; omega)
   refine ret_at (fun X => Ext w X ∧ X.heap[w.heap.size + 1]? = some (.cells #[.slice a p.lots.length cap, .int .i64 p.mass.lo, .int .i64 p.mass.hi, .int .i64 p.target.a.lo, .int .i64 p.target.a.hi, .int .i64 p.target.b.lo, .int .i64 p.target.b.hi, .int .i64 p.target.c.lo, .int .i64 p.target.c.hi, .slice a' (xBu p).length c'] 119 (0, 0)) ∧ Sl 8 Mar.cells X a' c' (xBu p)) ⟨?_, ?_, ?_⟩ (fun X hX => ?_)
   ·(repeat (with_reducible first | exact Ex.refl _ _ | assumption | refine Ex.alloc ?_ _ | refine Ex.drew ?_ | refine Ex.drewN ?_ _ | refine Ex.setCell ?_ (by first | (left; simp; done) | (right; simp; done) | (right; simp; omega)) _ | refine Ex.trans ?_ (by assumption)))
   ·refine xRB (xAJ (xAJ (xAJ (xAJ (xAJ (xAJ (xAJ (xAJ (xAJ (xAJ (hE.heap (by first | (simp; done) | (simp; omega)) hB1'.out) 0 _) 1 _) 2 _) 3 _) 4 _) 5 _) 6 _) 7 _) 8 _) 9 _) ?_
    kernel_rfl
   ·refine hSl.ex (S := [w.heap.size + 1]) ?_ hsS
    (repeat (with_reducible first | exact Ex.refl _ _ | assumption | refine Ex.alloc ?_ _ | refine Ex.drew ?_ | refine Ex.drewN ?_ _ | refine Ex.setCell ?_ (by first | (left; simp; done) | (right; simp; done) | (right; simp; omega)) _ | refine Ex.trans ?_ (by assumption)))
   obtain ⟨hX1, hX2, hX3⟩ := hX
   have x0 := xAf (v := .slice a p.lots.length cap) hX2 0 rfl
   have x1 := xAf (v := .int .i64 p.mass.lo) hX2 1 rfl
   have x2 := xAf (v := .int .i64 p.mass.hi) hX2 2 rfl
   have x3 := xAf (v := .int .i64 p.target.a.lo) hX2 3 rfl
   have x4 := xAf (v := .int .i64 p.target.a.hi) hX2 4 rfl
   have x5 := xAf (v := .int .i64 p.target.b.lo) hX2 5 rfl
   have x6 := xAf (v := .int .i64 p.target.b.hi) hX2 6 rfl
   have x7 := xAf (v := .int .i64 p.target.c.lo) hX2 7 rfl
   have x8 := xAf (v := .int .i64 p.target.c.hi) hX2 8 rfl
   have x9 := xAf (v := .slice a' (xBu p).length c') hX2 9 rfl
   exact bodyPost_ret (v := .agg #[.slice a p.lots.length cap, .int .i64 p.mass.lo, .int .i64 p.mass.hi, .int .i64 p.target.a.lo, .int .i64 p.target.a.hi, .int .i64 p.target.b.lo, .int .i64 p.target.b.hi, .int .i64 p.target.c.lo, .int .i64 p.target.c.hi, .slice a' (xBu p).length c']) (by simp [results, Tryd.results40, go_sem, x0, x1, x2, x3, x4, x5, x6, x7, x8, x9]) rfl ⟨a', c', rfl, hX3, hX1⟩
end Go.Proofs.YtcbbhiobibhdnaaDoor


namespace Go.Proofs.YtcbbhiobibhdnaaDoor
open Go.RowKit
/-- Whether the product of all numbers of choices passes the limit; as the code reckons it. -/
def xCO : List Lot → Int → Bool
 | [], _ => false
 | l :: ls, n => let m := wrap64 (n * wrap64 (l.count + 1)); if 20000 < m then true else xCO ls m
theorem xFc (lots : List Lot) (k : Nat) (n : Int) (h : k < lots.length) : xCO (lots.drop k) n = if 20000 < wrap64 (n * wrap64 ((nth lots .zero k).count + 1)) then true else xCO (lots.drop (k + 1)) (wrap64 (n * wrap64 ((nth lots .zero k).count + 1))) := by
 rw [List.drop_eq_getElem_cons h, xCO, xAG lots .zero k h]
theorem xK2 (lots : List Lot) (k : Nat) (n : Int) (h : ¬ k < lots.length) : xCO (lots.drop k) n = false := by
 rw [List.drop_of_length_le (by omega), xCO]
def xOs (p : Recipe) : Bool := xCO p.lots 1
set_option maxHeartbeats 1000000 in
theorem many_c (p : Recipe) (a : Option Addr) (cap : Nat) (a2 : Option Addr) (n2 cap2 : Nat) (w : World) (hs : SlL w a cap p.lots) :
  Calls Tryd.prog 41 #[.agg #[.slice a p.lots.length cap, .int .i64 p.mass.lo, .int .i64 p.mass.hi, .int .i64 p.target.a.lo, .int .i64 p.target.a.hi, .int .i64 p.target.b.lo, .int .i64 p.target.b.hi, .int .i64 p.target.c.lo, .int .i64 p.target.c.hi, .slice a2 n2 cap2]] w (Ret (.bool (xOs p)) w) := by
 have hle := hs.le; have hb := hs.big
 go_enter Tryd.func41, Tryd.ntmps41
 go_upto_region 1 with (fail)
 refine xFC (fun W => Ext w W ∧ w.heap.size + 1 = W.heap.size ∧ W.heap[w.heap.size]? = some (.cells #[.slice a p.lots.length cap, .int .i64 p.mass.lo, .int .i64 p.mass.hi, .int .i64 p.target.a.lo, .int .i64 p.target.a.hi, .int .i64 p.target.b.lo, .int .i64 p.target.b.hi, .int .i64 p.target.c.lo, .int .i64 p.target.c.hi, .slice a2 n2 cap2] 119 (0, 0))) ⟨by (repeat (with_reducible first | exact Ex.refl _ _ | assumption | refine Ex.alloc ?_ _ | refine Ex.drew ?_ | refine Ex.drewN ?_ _ | refine Ex.setCell ?_ (by first | (left; simp; done) | (right; simp; done) | (right; simp; omega)) _ | refine Ex.trans ?_ (by assumption))), by simp, xAB _ _⟩ (fun W hW => ?_)
 obtain ⟨hr0, hsz, hB0⟩ := hW
 have hr : Ex [] W W := Ex.refl _ _
 have f0_0 := xAh (S := []) hB0 (by first | (simp; done) | (simp; omega)) 0 rfl
 have f0_1 := xAh (S := []) hB0 (by first | (simp; done) | (simp; omega)) 1 rfl
 have f0_2 := xAh (S := []) hB0 (by first | (simp; done) | (simp; omega)) 2 rfl
 have f0_3 := xAh (S := []) hB0 (by first | (simp; done) | (simp; omega)) 3 rfl
 have f0_4 := xAh (S := []) hB0 (by first | (simp; done) | (simp; omega)) 4 rfl
 have f0_5 := xAh (S := []) hB0 (by first | (simp; done) | (simp; omega)) 5 rfl
 have f0_6 := xAh (S := []) hB0 (by first | (simp; done) | (simp; omega)) 6 rfl
 have f0_7 := xAh (S := []) hB0 (by first | (simp; done) | (simp; omega)) 7 rfl
 have f0_8 := xAh (S := []) hB0 (by first | (simp; done) | (simp; omega)) 8 rfl
 have f0_9 := xAh (S := []) hB0 (by first | (simp; done) | (simp; omega)) 9 rfl
 clear hB0
 have hsz' := Nat.le_of_eq hsz.symm; have hsz'' := Nat.le_of_eq hsz; clear hsz
 go_wp2_with fail
 go_loopg [3, 10] (p.lots.length) (fun g n i wr => ∃ (k : Nat) (m : Int), g = p.lots.length - k ∧ k ≤ p.lots.length ∧ n = .int .i64 m ∧ i = .int .i64 k ∧ Ext W wr ∧ xOs p = xCO (p.lots.drop k) m)
 case atStart => exact ⟨0, 1, rfl, by omega, rfl, rfl, Ex.refl _ _, rfl⟩
 case round =>
  obtain ⟨k, m, rfl, hk, rfl, rfl, hE, hi⟩ := hrel
  have hi' := Lib.hid hi; clear hi
  by_cases hlt : k < p.lots.length
  ·obtain ⟨b2, off2, rfl, hbw2, hss⟩ := hs.cells (by omega)
   have d0 := (hr0.trans hE).cell (by simp) (hss k (by omega) 0 _ rfl)
   rw [Nat.add_zero, xAG p.lots .zero] at d0
   have d1 := (hr0.trans hE).cell (by simp) (hss k (by omega) 1 _ rfl)
   rw [xAG p.lots .zero] at d1
   have d2 := (hr0.trans hE).cell (by simp) (hss k (by omega) 2 _ rfl)
   rw [xAG p.lots .zero] at d2
   have d3 := (hr0.trans hE).cell (by simp) (hss k (by omega) 3 _ rfl)
   rw [xAG p.lots .zero] at d3
   have d4 := (hr0.trans hE).cell (by simp) (hss k (by omega) 4 _ rfl)
   rw [xAG p.lots .zero] at d4
   have d5 := (hr0.trans hE).cell (by simp) (hss k (by omega) 5 _ rfl)
   rw [xAG p.lots .zero] at d5
   have d6 := (hr0.trans hE).cell (by simp) (hss k (by omega) 6 _ rfl)
   rw [xAG p.lots .zero] at d6
   have d7 := (hr0.trans hE).cell (by simp) (hss k (by omega) 7 _ rfl)
   rw [xAG p.lots .zero] at d7
   have d8 := (hr0.trans hE).cell (by simp) (hss k (by omega) 8 _ rfl)
   rw [xAG p.lots .zero] at d8
   clear hss
   by_cases hm : 20000 < wrap64 (m * wrap64 ((nth p.lots .zero k).count + 1))
   ·go_wp2_with fail
    go_returns
    exact ⟨by rw [hi'.out, xFc p.lots k m hlt, if_pos hm]; rfl, hr0.trans (hE.alloc _)⟩
   ·go_wp2_with fail
    go_roundg (p.lots.length - (k + 1))
    case rel => exact ⟨k + 1, _, rfl, by omega, rfl, by go_num, hE.alloc _, by rw [hi'.out, xFc p.lots k m hlt, if_neg (by omega)]⟩
    case measure => omega
  ·go_wp2_with fail
   go_returns
   exact ⟨by rw [hi'.out, xK2 p.lots k m hlt]; rfl, hr0.trans hE⟩
/-- What the first k numbers of pieces cost; as the code reckons it. -/
def xQX (lots : List Lot) (counts : List Int) : Nat → Int
 | 0 => 0
 | k + 1 => wrap64 (xQX lots counts k + wrap64 (nth counts 0 k * (nth lots .zero k).cost))
def xH0 (lots : List Lot) (counts : List Int) : Int := xQX lots counts counts.length
set_option maxHeartbeats 1000000 in
theorem cost_c (p : Recipe) (a : Option Addr) (cap : Nat) (a2 : Option Addr) (n2 cap2 : Nat) (counts : List Int) (c : Option Addr) (cap' : Nat) (w : World) (hs : SlL w a cap p.lots) (hc : SlI w c cap' counts) (hn : counts.length ≤ p.lots.length) :
  Calls Tryd.prog 43 #[.agg #[.slice a p.lots.length cap, .int .i64 p.mass.lo, .int .i64 p.mass.hi, .int .i64 p.target.a.lo, .int .i64 p.target.a.hi, .int .i64 p.target.b.lo, .int .i64 p.target.b.hi, .int .i64 p.target.c.lo, .int .i64 p.target.c.hi, .slice a2 n2 cap2], .slice c counts.length cap'] w (Ret (.int .i64 (xH0 p.lots counts)) w) := by
 have hle := hs.le; have hb := hs.big; have hle' := hc.le; have hb' := hc.big
 go_enter Tryd.func43, Tryd.ntmps43
 go_upto_region 1 with (fail)
 refine xFC (fun W => Ext w W ∧ w.heap.size + 1 = W.heap.size ∧ W.heap[w.heap.size]? = some (.cells #[.slice a p.lots.length cap, .int .i64 p.mass.lo, .int .i64 p.mass.hi, .int .i64 p.target.a.lo, .int .i64 p.target.a.hi, .int .i64 p.target.b.lo, .int .i64 p.target.b.hi, .int .i64 p.target.c.lo, .int .i64 p.target.c.hi, .slice a2 n2 cap2] 119 (0, 0))) ⟨by (repeat (with_reducible first | exact Ex.refl _ _ | assumption | refine Ex.alloc ?_ _ | refine Ex.drew ?_ | refine Ex.drewN ?_ _ | refine Ex.setCell ?_ (by first | (left; simp; done) | (right; simp; done) | (right; simp; omega)) _ | refine Ex.trans ?_ (by assumption))), by simp, xAB _ _⟩ (fun W hW => ?_)
 obtain ⟨hr0, hsz, hB0⟩ := hW
 have hr : Ex [] W W := Ex.refl _ _
 have f0_0 := xAh (S := []) hB0 (by first | (simp; done) | (simp; omega)) 0 rfl
 have f0_1 := xAh (S := []) hB0 (by first | (simp; done) | (simp; omega)) 1 rfl
 have f0_2 := xAh (S := []) hB0 (by first | (simp; done) | (simp; omega)) 2 rfl
 have f0_3 := xAh (S := []) hB0 (by first | (simp; done) | (simp; omega)) 3 rfl
 have f0_4 := xAh (S := []) hB0 (by first | (simp; done) | (simp; omega)) 4 rfl
 have f0_5 := xAh (S := []) hB0 (by first | (simp; done) | (simp; omega)) 5 rfl
 have f0_6 := xAh (S := []) hB0 (by first | (simp; done) | (simp; omega)) 6 rfl
 have f0_7 := xAh (S := []) hB0 (by first | (simp; done) | (simp; omega)) 7 rfl
 have f0_8 := xAh (S := []) hB0 (by first | (simp; done) | (simp; omega)) 8 rfl
 have f0_9 := xAh (S := []) hB0 (by first | (simp; done) | (simp; omega)) 9 rfl
 clear hB0
 have hsz' := Nat.le_of_eq hsz.symm; have hsz'' := Nat.le_of_eq hsz; clear hsz
 go_wp2_with fail
 go_loopg [4, 9] (counts.length) (fun g n i wr => ∃ (k : Nat), g = counts.length - k ∧ k ≤ counts.length ∧ n = .int .i64 (xQX p.lots counts k) ∧ i = .int .i64 k ∧ Ext W wr)
 case atStart => exact ⟨0, rfl, by omega, rfl, rfl, Ex.refl _ _⟩
 case round =>
  obtain ⟨k, rfl, hk, rfl, rfl, hE⟩ := hrel
  by_cases hlt : k < counts.length
  ·obtain ⟨b, off, rfl, hbw, hcc⟩ := hc.cells (by omega)
   have c0 := (hr0.trans hE).cell (by simp) (hcc k (by omega) 0 _ rfl)
   rw [Nat.add_zero, Nat.mul_one, xAG counts 0] at c0
   clear hcc
   obtain ⟨b2, off2, rfl, hbw2, hss⟩ := hs.cells (by omega)
   have d8 := (hr0.trans hE).cell (by simp) (hss k (by omega) 8 _ rfl)
   rw [xAG p.lots .zero] at d8
   clear hss
   go_wp2_with fail
   go_roundg (counts.length - (k + 1))
   case rel => exact ⟨k + 1, rfl, by omega, rfl, by go_num, hE⟩
   case measure => omega
  ·go_wp2_with fail
   go_returns
   exact ⟨by unfold xH0; rw [show k = counts.length from by omega]; rfl, hr0.trans hE⟩
theorem eiInt : EI Tryd.prog 64 3 1 8 := EI.mk' (z := .int .i64 0) (by kernel_rfl) (by kernel_rfl) (by rfl) (by omega)
theorem xBU (n : Int) : (intCells n).length = 1 := rfl
theorem xCh (n : Int) : ∀ u ∈ intCells n, u.oneCell' = true := by simp [intCells, Value.oneCell']
end Go.Proofs.YtcbbhiobibhdnaaDoor


namespace Go.Proofs.YtcbbhiobibhdnaaDoor
open Go.RowKit
set_option maxHeartbeats 1000000 in
theorem xS9 (a : Option Addr) (cap : Nat) (xs : List Int) (w : World) (hs : Sl 1 intCells w a cap xs) (hn : xs.length ≤ 100000000) :
  Calls Tryd.prog 45 #[.slice a xs.length cap] w (fun e w' => ∃ a' c', e = .returned (.slice a' xs.length c') ∧ Own 3 1 intCells w.heap.size w' (.slice a' xs.length c') xs ∧ Ext w w') := by
 have hle := hs.le; have hb := hs.big
 have hnil := @Lib.run_eql_slice_nil Tryd.prog
 cases a with
 | none =>
  have h0 : xs = [] := List.length_eq_zero_iff.1 (Nat.eq_zero_of_not_pos fun h => by obtain ⟨b, off, h1, _⟩ := hs.cells h; cases h1)
  subst h0
  go_enter Tryd.func45, Tryd.ntmps45
  go_wp2_with fail
  go_returns
  exact ⟨_, _, rfl, Own.nil _, Ex.refl _ _⟩
 | some b =>
  go_enter Tryd.func45, Tryd.ntmps45
  go_wp2_with (at_builtin; refine xGy (base := w.heap.size) eiInt xBU xCh rfl _ _ rfl _ [] (by rfl) (Own.empty (Nat.le_refl _)) (some b) cap xs (by rfl) (hs.ext ((Ex.refl _ _).alloc _)) (by simp; omega) (by simp; omega) (by simp) ?_; intro v w1 hO hx hg hv; obtain ⟨a', c', rfl⟩ := hv; simp only [List.length_nil, Nat.zero_add, List.nil_append] at hO)
  go_returns
  refine ⟨a', c', by simp, hO, ?_⟩
  have h9 : Ex [] w (w.alloc (.cells #[] 3 (0, 0))) := (Ex.refl _ _).alloc _
  exact h9.trans_fresh hx (fun x hx => .inr (by simp [Value.ownBlock] at hx; omega))
end Go.Proofs.YtcbbhiobibhdnaaDoor


namespace Go.Proofs.YtcbbhiobibhdnaaDoor
open Go.RowKit
theorem Ex.putObj {S : List Nat} {a w : World} (h : Ex S a w) {l : Nat} (hl : l ∈ S) (o : Obj) : Ex S a (w.putObj l o) :=
 ⟨h.os, h.tape, h.output, by have := h.size; simpa [World.putObj] using this, fun k hk hs => by
  rw [World.putObj_heap_other (by intro e; subst e; exact hs hl)]; exact h.block k hk hs⟩
theorem xPr {P : Program} {α : Type} {gop : Operand} {ps : Array Tmp} {assign body : Code} {Q : Exit → Act → World → Prop} {a : Act} {w : World} {gf : Nat} {lb : Array Value}
  (hg : a.eval gop = .func (.func gf) #[] lb) (eg : ∀ args w, (callFunc gf args).run P w = .ok (.enter gf args) w)
  (encs : Nat → α → Array Value) (hps : ∀ γ x, (encs γ x).size = ps.size) (xs : List α) (SB : List Nat) (hSB : ∀ x ∈ SB, x < w.heap.size)
  (I : Nat → List α → World → Prop) (C : Nat → α → World → Prop) (A : Nat → α → Act → World → Prop)
  (hI : ∀ γ pre W W', I γ pre W → Ex [w.heap.size + 1] W W' → I γ pre W') (hC : ∀ γ x W W', w.heap.size + 2 ≤ γ → C γ x W → Ex [w.heap.size + 1] W W' → C γ x W') (hA : ∀ γ x b W W', A γ x b W → Ex [w.heap.size + 1] W W' → A γ x b W')
  (hI0 : ∀ γ W, w.heap.size + 2 ≤ γ → Ext w W → I γ [] W) (hIg : ∀ γ pre W W', w.heap.size + 2 ≤ γ → I γ pre W → Ex [γ] W W' → I γ pre W')
  (hseq : ∀ (W1 : World) (J : Nat → List α → World → Prop), Ext w W1 → W1.heap.size = w.heap.size + 2 →
   (∀ γ W, W1.heap.size ≤ γ → Ext W1 W → J γ [] W) → (∀ γ pre W W', J γ pre W → Ex [γ] W W' → J γ pre W') →
   (∀ γ, W1.heap.size ≤ γ → ∀ pre x W, J γ pre W → C γ x W → YieldAt Fence.wide 4 P (w.heap.size + 1) (encs γ x) W (fun e W' => e = .returned (.bool true) ∧ J γ (pre ++ [x]) W' ∧ Ex ((w.heap.size + 1) :: SB) W W')) →
   Calls P gf (#[.func (.yield (w.heap.size + 1)) #[] #[]] ++ lb) W1 (fun e w' => (∃ v, e = .returned v) ∧ ∃ γ, W1.heap.size ≤ γ ∧ J γ xs w'))
  (hassign : ∀ γ pre x W, w.heap.size + 2 ≤ γ → w.heap.size + 1 < W.heap.size → I γ pre W → C γ x W → assign.wpIn (Fence.wide.inRound (w.heap.size + 1)) 4 P (Exit.then (fun a₁ w₁ => Ext W w₁ ∧ A γ x a₁ w₁) (fun _ _ _ => False)) { tmps := (ps.zip (encs γ x)).foldl (fun t (p, v) => t.setIfInBounds p v) a.tmps, defers := [] } W)
  (hbody : ∀ γ pre x a₁ W, w.heap.size + 2 ≤ γ → I γ pre W → C γ x W → A γ x a₁ W → body.wpIn (Fence.wide.inRound (w.heap.size + 1)) 4 P (fun e _ W' => e = .normal ∧ I γ (pre ++ [x]) W' ∧ Ex SB W W') a₁ W)
  (hdone : ∀ γ W, w.heap.size + 2 ≤ γ → I γ xs W → W.heap[w.heap.size]? = some (.deferred (some [])) → Q .normal { a with defers := { target := .collected w.heap.size, args := #[] } :: a.defers } W) :
  (Code.rangeFunc gop ps assign body).wp P Q a w := by
 refine (wpIn_wide (n := 5)).1 ?_
 refine wpIn_rangeFunc ?_
 intro fn hfn
 obtain ⟨rec, hrec⟩ : ∃ rec : LoopState → Loop, rec = fun st => { state := st, pending := none, fn, tmps := a.tmps, params := ps, assign, body, defers := w.heap.size } := ⟨_, rfl⟩
 obtain ⟨W1, hW1⟩ : ∃ W1, (w.alloc (.deferred (some []))).alloc (.loop (rec .ready)) = W1 := ⟨_, rfl⟩
 have hE1 : Ext w W1 := by rw [← hW1]; exact ((Ex.refl _ _).alloc _).alloc _
 have hs1 : W1.heap.size = w.heap.size + 2 := by rw [← hW1]; simp
 have hL1 : W1.heap[w.heap.size + 1]? = some (.loop (rec .ready)) := by
  rw [← hW1]; have := World.alloc_heap_new (w.alloc (.deferred (some []))) (.loop (rec .ready)); rwa [World.size_alloc] at this
 have hK1 : W1.heap[w.heap.size]? = some (.deferred (some [])) := by
  rw [← hW1]; exact xBN (xAB _ _)
 refine ⟨w.heap.size + 1, [{ target := .collected w.heap.size, args := #[] }], W1, { target := .fn (.func gf) lb, args := #[.func (.yield (w.heap.size + 1)) #[] #[]] }, W1, gf,
  #[.func (.yield (w.heap.size + 1)) #[] #[]] ++ lb, W1, ?_, ?_, ?_, ?_, fun h => (by cases h), ?_⟩
 ·rw [← hW1, hrec]; exact run_enterLoop_outer _ _ _ _ _
 ·simp only [resolve, hg]
  simp [go_sem]
 ·intro f' hf'; trivial
 ·simp [invoke, go_sem, eg]
 ·refine callsIn_wide.2 ((hseq W1 (fun γ pre W => (w.heap.size + 2 ≤ γ → I γ pre W) ∧ (w.heap.size + 2 ≤ γ → W.heap[w.heap.size + 1]? = some (.loop (rec .ready))) ∧ (w.heap.size + 2 ≤ γ → W.heap[w.heap.size]? = some (.deferred (some [])))) hE1 hs1 ?_ ?_ ?_).mono ?_)
  ·intro γ W hγ hW
   exact ⟨fun h => hI0 γ W h (hE1.trans hW), fun _ => hW.heap (by simp) hL1, fun _ => hW.heap (by simp) hK1⟩
  ·intro γ pre W W' ⟨h1, h2, h3⟩ hx
   exact ⟨fun h => hIg γ pre W W' h (h1 h) hx, fun h => hx.heap (by simp; omega) (h2 h), fun h => hx.heap (by simp; omega) (h3 h)⟩
  ·intro γ hγ pre x W ⟨h1, h2, h3⟩ hc
   have hγ' : w.heap.size + 2 ≤ γ := by omega
   have hi := h1 hγ'; have hl := h2 hγ'; have hk := h3 hγ'
   have hy := run_yield (P := P) (args := encs γ x) hl (by rw [hrec]; exact hps γ x)
   rw [hrec] at hy
   refine ⟨fn, _, assign, body, hy, roundIn_of_wpIn hfn (wpIn_mono (hassign γ pre x W hγ' (lt_of_block hl) hi hc) ?_)⟩
   rintro e a1 w1 hp
   cases e with
   | normal =>
    obtain ⟨hx1, hA1⟩ := hp
    have hl1 := hx1.heap (by simp) hl
    have hlt := lt_of_block hl1
    refine ⟨_, run_beginRound hl1 (by rw [hrec]), ?_⟩
    have hx2 : Ex [w.heap.size + 1] w1 (w1.putObj (w.heap.size + 1) (.loop { rec .ready with state := .busy })) := (Ex.refl _ _).putObj (by simp) _
    have hl2 : (w1.putObj (w.heap.size + 1) (.loop { rec .ready with state := .busy })).heap[w.heap.size + 1]? = some (.loop { rec .ready with state := .busy }) := World.putObj_heap_same hlt
    have hx1' : Ex [w.heap.size + 1] W w1 := hx1.ex _
    have hx12 := hx1'.trans hx2
    refine wpIn_mono (hbody γ pre x a1 _ hγ' (hI _ _ _ _ hi hx12) (hC _ _ _ _ hγ' hc hx12) (hA _ _ _ _ _ hA1 hx2)) ?_
    rintro e a3 W3 ⟨rfl, hi3, hx3⟩
    have hl3 := hx3.heap (fun hm => absurd (hSB _ hm) (by omega)) hl2
    have hk3 := hx3.heap (fun hm => absurd (hSB _ hm) (by omega)) (hx12.heap (by simp) hk)
    have hlt3 := lt_of_block hl3
    have hr := run_endRound (P := P) none hl3
    have hx4 : Ex [w.heap.size + 1] W3 (W3.putObj (w.heap.size + 1) (.loop { rec .ready with state := .ready, pending := none })) := (Ex.refl _ _).putObj (by simp) _
    refine ⟨_, _, hr, rfl, ⟨fun _ => hI _ _ _ _ hi3 hx4, fun _ => ?_, fun _ => hx4.heap (by simp) hk3⟩, ?_⟩
    ·have h9 := World.putObj_heap_same (o := .loop { rec .ready with state := .ready, pending := none }) hlt3
     rw [hrec] at h9 ⊢
     exact h9
    ·refine Ex.trans (hx12.mono (by simp)) (Ex.trans (hx3.mono (fun x hx => by simp [hx])) ?_)
     exact hx4.mono (by simp)
   | ret => exact hp.elim
   | exit id => exact hp.elim
   | goto t => exact hp.elim
   | panic ch => exact hp.elim
   | outgrown => exact hp.elim
  ·rintro e W2 ⟨⟨v, rfl⟩, γ, hγ, h1, h2, h3⟩
   have hγ' : w.heap.size + 2 ≤ γ := by omega
   have hl := h2 hγ'
   have hx4 : ∀ o, Ex [w.heap.size + 1] W2 (W2.putObj (w.heap.size + 1) o) := fun o => (Ex.refl _ _).putObj (by simp) _
   have hend := run_endLoop (P := P) hl (by rw [hrec]; simp)
   have hp : (rec .ready).pending = none := by rw [hrec]
   rw [hp] at hend
   exact ⟨none, _, hend, hdone γ _ hγ' (hI _ _ _ _ (h1 hγ') (hx4 _)) ((hx4 _).heap (by simp) (h3 hγ'))⟩
theorem xKU {F : Fence} {n : Nat} {P : Program} {fn : Func} {R : Ending → World → Prop} {a : Act} {w : World} {v : Value}
  (hr : (results fn a.tmps).run P w = .ok v w) (hd : a.defers = []) (hR : R (.returned v) w) : bodyPostM F n P fn R .ret a w := by
 change LeavesInM F n P fn a.tmps R a.defers .returning w
 rw [hd]
 exact ⟨v, hr, hR⟩
theorem xIK {F : Fence} {n : Nat} {P : Program} {fn : Func} {R : Ending → World → Prop} {a : Act} {w : World} {v : Value} {D : Nat}
  (hd : a.defers = [{ target := .collected D, args := #[] }]) (hk : w.heap[D]? = some (.deferred (some [])))
  (hr : ∀ w', Ex [D] w w' → (results fn a.tmps).run P w' = .ok v w') (hR : ∀ w', Ex [D] w w' → R (.returned v) w') : bodyPostM F n P fn R .ret a w := by
 change LeavesInM F n P fn a.tmps R a.defers .returning w
 rw [hd]
 have hx : Ex [D] w (w.putObj D (.deferred none)) := (Ex.refl _ _).putObj (by simp) _
 exact ⟨by simp, .inl ⟨D, _, rfl, run_takeDeferred hk, v, hr _ hx, hR _ hx⟩⟩
theorem xL0 {Fe : Fence} {n : Nat} {P : Program} {fn : Func} {R : Ending → World → Prop} {a : Act} {X : World} (F : World → Prop) (h : F X) (k : ∀ W, F W → bodyPostM Fe n P fn R .ret a W) : bodyPostM Fe n P fn R .ret a X := k X h
theorem xLC {P : Program} {f : FuncId} {fn : Func} {c : Code} {args : Array Value} {w : World} {R : Ending → World → Prop}
  (hf : P.funcs[f]? = some fn) (hb : fn.body = some c) (h : c.wp P (bodyPostM Fence.wide 5 P fn R) { tmps := args ++ Array.replicate (fn.ntmps - args.size) undef, defers := [] } w) : Calls P f args w R :=
 callsIn_wide.1 (callsIn_of_wp_marks (n := 5) hf hb trivial (wpIn_wide.2 h))
end Go.Proofs.YtcbbhiobibhdnaaDoor
