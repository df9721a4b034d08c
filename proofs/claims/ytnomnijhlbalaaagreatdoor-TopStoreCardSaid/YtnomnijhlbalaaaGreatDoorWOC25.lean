/- A part of the proof of the theorem of the last file. No condition. By an AI agent. -/
import Derived.Test.YtnomnijhlbalaaaGreatDoorWOC9
import Derived.WalkSpells
import Derived.Laws.OwnMore
import Derived.RangeFuncNested
import Derived.RangeFuncBound
import Derived.RangeFuncCalls
import Derived.RangeFuncLeaves
import Derived.Shelf.Abstract
import Derived.Shelf.RegionOpen
import Derived.OwnWalkIn
import Derived.TacticsInMore
import Derived.LoopNIn
import Derived.LoopIn
namespace Go.Proofs.YtnomnijhlbalaaaGreatDoor
open Go.RowKit
def oneM (p : Recipe) (l : Lot) : Mar := ofM p (xBr .zero l 1)
def xBG (p : Recipe) : List Mar := p.lots.map (oneM p)
theorem Mar.len (m : Mar) : m.cells.length = 8 := rfl
theorem Mar.one (m : Mar) : ∀ u ∈ m.cells, u.oneCell' = true := by simp [Mar.cells, Value.oneCell']
theorem eiMar : EI Tryz.prog 149 156 8 64 := EI.mk' (z := .agg #[.int .i64 0, .int .i64 0, .int .i64 0, .int .i64 0, .int .i64 0, .int .i64 0, .int .i64 0, .int .i64 0]) (by kernel_rfl) (by kernel_rfl) (by rfl) (by omega)
theorem ones_to (p : Recipe) (k : Nat) (h : k < p.lots.length) : (xBG p).take (k + 1) = (xBG p).take k ++ [oneM p (nth p.lots .zero k)] := by
 rw [List.take_succ_eq_append_getElem (by simpa [xBG] using h)];simp [xBG, xAG p.lots .zero k h]
set_option maxRecDepth 100000 in
set_option maxHeartbeats 4000000 in
theorem xRq (p : Recipe) (a : Option Addr) (cap : Nat) (w : World) (hs : SlL w a cap p.lots) (hn : p.lots.length <= 1000) :
  Calls Tryz.prog 41 #[.agg #[.slice a p.lots.length cap, .int .i64 p.mass.lo, .int .i64 p.mass.hi, .int .i64 p.target.a.lo, .int .i64 p.target.a.hi, .int .i64 p.target.b.lo, .int .i64 p.target.b.hi, .int .i64 p.target.c.lo, .int .i64 p.target.c.hi]] w (fun e w' => ∃ a' c', e = .returned (.agg #[.slice a p.lots.length cap, .int .i64 p.mass.lo, .int .i64 p.mass.hi, .int .i64 p.target.a.lo, .int .i64 p.target.a.hi, .int .i64 p.target.b.lo, .int .i64 p.target.b.hi, .int .i64 p.target.c.lo, .int .i64 p.target.c.hi, .slice a' (xBG p).length c']) /\ Sl 8 Mar.cells w' a' c' (xBG p) /\ Ext w w') := by
 have hle := hs.le; have hb := hs.big
 go_enter Tryz.func41, Tryz.ntmps41
 go_upto_region 2 with (fail)
 refine xF9 (fun W => Ext w W /\ w.heap.size + 3 = W.heap.size /\ W.heap[w.heap.size]? = some (.cells #[.slice a p.lots.length cap, .int .i64 p.mass.lo, .int .i64 p.mass.hi, .int .i64 p.target.a.lo, .int .i64 p.target.a.hi, .int .i64 p.target.b.lo, .int .i64 p.target.b.hi, .int .i64 p.target.c.lo, .int .i64 p.target.c.hi] 32 (0, 0)) /\ W.heap[w.heap.size + 1]? = some (.cells #[.slice none 0 0, .int .i64 0, .int .i64 0, .int .i64 0, .int .i64 0, .int .i64 0, .int .i64 0, .int .i64 0, .int .i64 0, .slice none 0 0] 151 (0, 0)) /\ W.heap[w.heap.size + 1 + 1]? = some (.cells #[.slice a p.lots.length cap, .int .i64 p.mass.lo, .int .i64 p.mass.hi, .int .i64 p.target.a.lo, .int .i64 p.target.a.hi, .int .i64 p.target.b.lo, .int .i64 p.target.b.hi, .int .i64 p.target.c.lo, .int .i64 p.target.c.hi, .slice none 0 0] 151 (0, 0))) ⟨by (exact exI), by simp, xBB (xBB (xAq _ _)), xBB (by have h := xAq ((w).alloc (.cells #[.slice a p.lots.length cap, .int .i64 p.mass.lo, .int .i64 p.mass.hi, .int .i64 p.target.a.lo, .int .i64 p.target.a.hi, .int .i64 p.target.b.lo, .int .i64 p.target.b.hi, .int .i64 p.target.c.lo, .int .i64 p.target.c.hi] 32 (0, 0))) (.cells #[.slice none 0 0, .int .i64 0, .int .i64 0, .int .i64 0, .int .i64 0, .int .i64 0, .int .i64 0, .int .i64 0, .int .i64 0, .slice none 0 0] 151 (0, 0)); simpa using h), by have h := xAq (((w).alloc (.cells #[.slice a p.lots.length cap, .int .i64 p.mass.lo, .int .i64 p.mass.hi, .int .i64 p.target.a.lo, .int .i64 p.target.a.hi, .int .i64 p.target.b.lo, .int .i64 p.target.b.hi, .int .i64 p.target.c.lo, .int .i64 p.target.c.hi] 32 (0, 0))).alloc (.cells #[.slice none 0 0, .int .i64 0, .int .i64 0, .int .i64 0, .int .i64 0, .int .i64 0, .int .i64 0, .int .i64 0, .int .i64 0, .slice none 0 0] 151 (0, 0))) (.cells #[.slice a p.lots.length cap, .int .i64 p.mass.lo, .int .i64 p.mass.hi, .int .i64 p.target.a.lo, .int .i64 p.target.a.hi, .int .i64 p.target.b.lo, .int .i64 p.target.b.hi, .int .i64 p.target.c.lo, .int .i64 p.target.c.hi, .slice none 0 0] 151 (0, 0)); simpa using h⟩ (fun W hW => ?_);obtain ⟨hr0, hsz, hB0, hB1, hB2⟩ := hW;have hr : Ex [w.heap.size + 1 + 1] W W := Ex.refl _ _;have f0_0 := cE (S := [w.heap.size + 1 + 1]) hB0 0 rfl;have f0_1 := cE (S := [w.heap.size + 1 + 1]) hB0 1 rfl;have f0_2 := cE (S := [w.heap.size + 1 + 1]) hB0 2 rfl;have f0_3 := cE (S := [w.heap.size + 1 + 1]) hB0 3 rfl;have f0_4 := cE (S := [w.heap.size + 1 + 1]) hB0 4 rfl;have f0_5 := cE (S := [w.heap.size + 1 + 1]) hB0 5 rfl;have f0_6 := cE (S := [w.heap.size + 1 + 1]) hB0 6 rfl;have f0_7 := cE (S := [w.heap.size + 1 + 1]) hB0 7 rfl;have f0_8 := cE (S := [w.heap.size + 1 + 1]) hB0 8 rfl;have f1_0 := cE (S := [w.heap.size + 1 + 1]) hB1 0 rfl;have f1_1 := cE (S := [w.heap.size + 1 + 1]) hB1 1 rfl;have f1_2 := cE (S := [w.heap.size + 1 + 1]) hB1 2 rfl;have f1_3 := cE (S := [w.heap.size + 1 + 1]) hB1 3 rfl;have f1_4 := cE (S := [w.heap.size + 1 + 1]) hB1 4 rfl;have f1_5 := cE (S := [w.heap.size + 1 + 1]) hB1 5 rfl;have f1_6 := cE (S := [w.heap.size + 1 + 1]) hB1 6 rfl;have f1_7 := cE (S := [w.heap.size + 1 + 1]) hB1 7 rfl;have f1_8 := cE (S := [w.heap.size + 1 + 1]) hB1 8 rfl;have f1_9 := cE (S := [w.heap.size + 1 + 1]) hB1 9 rfl;have z1_0 := xDY (S := [w.heap.size + 1 + 1]) hB1 (by first | (simp; done) | (simp; omega)) 0
 have z1_1 := xDY (S := [w.heap.size + 1 + 1]) hB1 (by first | (simp; done) | (simp; omega)) 1
 have z1_2 := xDY (S := [w.heap.size + 1 + 1]) hB1 (by first | (simp; done) | (simp; omega)) 2
 have z1_3 := xDY (S := [w.heap.size + 1 + 1]) hB1 (by first | (simp; done) | (simp; omega)) 3
 have z1_4 := xDY (S := [w.heap.size + 1 + 1]) hB1 (by first | (simp; done) | (simp; omega)) 4
 have z1_5 := xDY (S := [w.heap.size + 1 + 1]) hB1 (by first | (simp; done) | (simp; omega)) 5
 have z1_6 := xDY (S := [w.heap.size + 1 + 1]) hB1 (by first | (simp; done) | (simp; omega)) 6
 have z1_7 := xDY (S := [w.heap.size + 1 + 1]) hB1 (by first | (simp; done) | (simp; omega)) 7
 have z1_8 := xDY (S := [w.heap.size + 1 + 1]) hB1 (by first | (simp; done) | (simp; omega)) 8
 have z1_9 := xDY (S := [w.heap.size + 1 + 1]) hB1 (by first | (simp; done) | (simp; omega)) 9
 clear hB0;have hsz' := Nat.le_of_eq hsz.symm; have hsz'' := Nat.le_of_eq hsz; clear hsz;have hB2' := Lib.hid hB2; clear hB2;have hB1' := Lib.hid hB1; clear hB1
 go_wp2_with fail
 go_loopg [12] (p.lots.length) (fun g i wr => ∃ (k : Nat) (v : Value), g = p.lots.length - k /\ k <= p.lots.length /\ i = .int .i64 k /\ Ex [w.heap.size + 1 + 1] W wr /\ wr.heap[w.heap.size + 1 + 1]? = some (.cells #[.slice a p.lots.length cap, .int .i64 p.mass.lo, .int .i64 p.mass.hi, .int .i64 p.target.a.lo, .int .i64 p.target.a.hi, .int .i64 p.target.b.lo, .int .i64 p.target.b.hi, .int .i64 p.target.c.lo, .int .i64 p.target.c.hi, v] 151 (0, 0)) /\ Own 156 8 Mar.cells W.heap.size wr v ((xBG p).take k))
 case atStart => exact ⟨0, _, rfl, by omega, rfl, Ex.refl _ _, hB2'.out, Own.nil _⟩
 case round =>
  obtain ⟨k, v, rfl, hk, rfl, hE, hT, hO⟩ := hrel;by_cases hlt : k < p.lots.length
  ·obtain ⟨b2, off2, rfl, hbw2, hss⟩ := hs.cells (by omega);have d0 := hE.cell (by simp; omega) (hr0.cell (by simp) (hss k (by omega) 0 _ rfl));rw [Nat.add_zero, xAG p.lots .zero] at d0;have d1 := hE.cell (by simp; omega) (hr0.cell (by simp) (hss k (by omega) 1 _ rfl));rw [xAG p.lots .zero] at d1;have d2 := hE.cell (by simp; omega) (hr0.cell (by simp) (hss k (by omega) 2 _ rfl));rw [xAG p.lots .zero] at d2;have d3 := hE.cell (by simp; omega) (hr0.cell (by simp) (hss k (by omega) 3 _ rfl));rw [xAG p.lots .zero] at d3;have d4 := hE.cell (by simp; omega) (hr0.cell (by simp) (hss k (by omega) 4 _ rfl));rw [xAG p.lots .zero] at d4;have d5 := hE.cell (by simp; omega) (hr0.cell (by simp) (hss k (by omega) 5 _ rfl));rw [xAG p.lots .zero] at d5;have d6 := hE.cell (by simp; omega) (hr0.cell (by simp) (hss k (by omega) 6 _ rfl));rw [xAG p.lots .zero] at d6;have d7 := hE.cell (by simp; omega) (hr0.cell (by simp) (hss k (by omega) 7 _ rfl));rw [xAG p.lots .zero] at d7;have d8 := hE.cell (by simp; omega) (hr0.cell (by simp) (hss k (by omega) 8 _ rfl));rw [xAG p.lots .zero] at d8;clear hss;have hT' := Lib.hid hT; clear hT;obtain ⟨L, hL⟩ : ∃ L, (xBG p).take k = L := ⟨_, rfl⟩;rw [hL] at hO;have hLl : L.length <= 1000 := by rw [<- hL]; simp [xBG]; omega
   have hL' := Lib.hid hL; clear hL;have hO' := Lib.hid hO; clear hO
   go_upto_region 6 with fail
   have hp := put0_c Pile.zero (nth p.lots .zero k) 1 (wr.heap.size + 1) 65 _ (heap_alloc2_new wr (.cells #[.int .i64 ((nth p.lots .zero k).count), .int .i64 ((nth p.lots .zero k).mass), .int .i64 ((nth p.lots .zero k).con.a.lo), .int .i64 ((nth p.lots .zero k).con.a.hi), .int .i64 ((nth p.lots .zero k).con.b.lo), .int .i64 ((nth p.lots .zero k).con.b.hi), .int .i64 ((nth p.lots .zero k).con.c.lo), .int .i64 ((nth p.lots .zero k).con.c.hi), .int .i64 ((nth p.lots .zero k).cost)] 40 (0, 0)) (.cells #[.int .i64 0, .int .i64 0, .int .i64 0, .int .i64 0, .int .i64 0, .int .i64 0, .int .i64 0] 65 (0, 0)));have hp' := Lib.hid hp; clear hp
   go_wp2_with fail
   refine hp'.out.mono ?_;clear hp'
   rintro e w1 ⟨rfl, h1, hP⟩
   have hP' := Lib.hid hP; clear hP
   go_upto_region 7 with fail
   have hw0 : Ex [w.heap.size + 1 + 1] W (wr.alloc (.cells #[.int .i64 ((nth p.lots .zero k).count), .int .i64 ((nth p.lots .zero k).mass), .int .i64 ((nth p.lots .zero k).con.a.lo), .int .i64 ((nth p.lots .zero k).con.a.hi), .int .i64 ((nth p.lots .zero k).con.b.lo), .int .i64 ((nth p.lots .zero k).con.b.hi), .int .i64 ((nth p.lots .zero k).con.c.lo), .int .i64 ((nth p.lots .zero k).con.c.hi), .int .i64 ((nth p.lots .zero k).cost)] 40 (0, 0))) := hE.alloc _;have hw1 : Ex [wr.heap.size + 1] wr w1 := (((Ex.refl _ _).alloc _).alloc _).trans h1;refine xF9 (fun X => Ex [w.heap.size + 1 + 1] W X /\ X.heap[w.heap.size + 1 + 1]? = some (.cells #[.slice (some ⟨b2, off2, none⟩) p.lots.length cap, .int .i64 p.mass.lo, .int .i64 p.mass.hi, .int .i64 p.target.a.lo, .int .i64 p.target.a.hi, .int .i64 p.target.b.lo, .int .i64 p.target.b.hi, .int .i64 p.target.c.lo, .int .i64 p.target.c.hi, v] 151 (0, 0)) /\ X.heap[wr.heap.size + 1]? = some (.cells #[.int .i64 ((xBr .zero (nth p.lots .zero k) 1).mass), .int .i64 ((xBr .zero (nth p.lots .zero k) 1).con.a.lo), .int .i64 ((xBr .zero (nth p.lots .zero k) 1).con.a.hi), .int .i64 ((xBr .zero (nth p.lots .zero k) 1).con.b.lo), .int .i64 ((xBr .zero (nth p.lots .zero k) 1).con.b.hi), .int .i64 ((xBr .zero (nth p.lots .zero k) 1).con.c.lo), .int .i64 ((xBr .zero (nth p.lots .zero k) 1).con.c.hi)] 65 (0, 0)) /\ Own 156 8 Mar.cells W.heap.size X v L /\ wr.heap.size + 1 < X.heap.size) ⟨hE.trans_fresh hw1 ?_, hw1.heap ?_ hT'.out, hP'.out, hO'.out.ex hw1 ?_, lt_of_block hP'.out⟩ (fun X hX => ?_)
   ·intro x hx; right; have := hE.size; simp at hx; omega
   ·have := lt_of_block hT'.out; simp; omega
   ·intro g hg; have := hO'.out.lt hg; simp; omega
   obtain ⟨hX1, hX2, hX3, hX4, hX5⟩ := hX;have hXs := hX1.size;have hE' := Lib.hid hE; clear hE;have hX1' := hX1;replace f0_0 := fun w' (h : Ex [] X w') => f0_0 w' (hX1.trans (h.mono (by simp)));replace f0_1 := fun w' (h : Ex [] X w') => f0_1 w' (hX1.trans (h.mono (by simp)));replace f0_2 := fun w' (h : Ex [] X w') => f0_2 w' (hX1.trans (h.mono (by simp)));replace f0_3 := fun w' (h : Ex [] X w') => f0_3 w' (hX1.trans (h.mono (by simp)));replace f0_4 := fun w' (h : Ex [] X w') => f0_4 w' (hX1.trans (h.mono (by simp)));replace f0_5 := fun w' (h : Ex [] X w') => f0_5 w' (hX1.trans (h.mono (by simp)));replace f0_6 := fun w' (h : Ex [] X w') => f0_6 w' (hX1.trans (h.mono (by simp)));replace f0_7 := fun w' (h : Ex [] X w') => f0_7 w' (hX1.trans (h.mono (by simp)));replace f0_8 := fun w' (h : Ex [] X w') => f0_8 w' (hX1.trans (h.mono (by simp)));have q_0 := cE (S := []) hX2 0 rfl;have q_1 := cE (S := []) hX2 1 rfl;have q_2 := cE (S := []) hX2 2 rfl;have q_3 := cE (S := []) hX2 3 rfl;have q_4 := cE (S := []) hX2 4 rfl;have q_5 := cE (S := []) hX2 5 rfl;have q_6 := cE (S := []) hX2 6 rfl;have q_7 := cE (S := []) hX2 7 rfl;have q_8 := cE (S := []) hX2 8 rfl;have q_9 := cE (S := []) hX2 9 rfl;have m_0 := cE (S := []) hX3 0 rfl;have m_1 := cE (S := []) hX3 1 rfl;have m_2 := cE (S := []) hX3 2 rfl;have m_3 := cE (S := []) hX3 3 rfl;have m_4 := cE (S := []) hX3 4 rfl;have m_5 := cE (S := []) hX3 5 rfl;have m_6 := cE (S := []) hX3 6 rfl;have hrX : Ex [] X X := Ex.refl _ _;have zf := xDY (S := []) hX2 (by simp) 9;have hX2' := Lib.hid hX2; have hX3' := Lib.hid hX3; clear hX2 hX3;clear hT' hw0 hw1 hP' h1 hO';refine xE9 (fun w' => Ex [] X w') [.pu [0], .st [1, 2, 3], .mv 4, .mv 5, .tl [6], .pu [7], .tl [8]] (by kernel_rfl) (by kernel_rfl) (Ex.drew exI) ?_;refine xGj (fun K hK => ?_);simp only [pick, List.drop_succ_cons, List.drop_zero, List.take_succ_cons, List.take_zero, List.cons_append, List.nil_append]
   iterate 1 (first | (refine xAP ?_ (by rfl) (fun w' hS' => ?_) ?_; rotate_left; ((try dsimp only at hS'); go_simp; try with_reducible rfl); simp only [Act.put, List.setIfInBounds_toArray, List.set_cons_zero, List.set_cons_succ]) | (refine xA4 (by rfl) ?_; simp only [Act.put, List.setIfInBounds_toArray, List.set_cons_zero, List.set_cons_succ]))
   refine xAW (hK _ ?_);clear hK K;refine xKJ (fun K hK => ?_);simp only [pick, List.drop_succ_cons, List.drop_zero, List.take_succ_cons, List.take_zero, List.cons_append, List.nil_append]
   iterate 3 (first | (refine xAP ?_ (by rfl) (fun w' hS' => ?_) ?_; rotate_left; ((try dsimp only at hS'); go_simp; try with_reducible rfl); simp only [Act.put, List.setIfInBounds_toArray, List.set_cons_zero, List.set_cons_succ]) | (refine xA4 (by rfl) ?_; simp only [Act.put, List.setIfInBounds_toArray, List.set_cons_zero, List.set_cons_succ]))
   refine xAW (hK _ ?_);clear hK K;refine xEj (fun K hK => ?_);simp only [pick, List.drop_succ_cons, List.drop_zero, List.take_succ_cons, List.take_zero, List.cons_append, List.nil_append]
   go_wp2_with (first | (go_at_call 109; refine (of_c p (xBr .zero (nth p.lots .zero k) 1) _ _ _).mono ?_; rintro e w1 ⟨rfl, h1⟩; replace h1 : Ex [] X w1 := Ex.trans exI (h1.ex _)))
   first | refine hK _ _ exI ?_ | refine ⟨rfl, hK _ _ exI ?_⟩
   clear hK K;refine xEj (fun K hK => ?_);simp only [pick, List.drop_succ_cons, List.drop_zero, List.take_succ_cons, List.take_zero, List.cons_append, List.nil_append]
   go_wp2_with (first | (go_at_call 109; refine (of_c p (xBr .zero (nth p.lots .zero k) 1) _ _ _).mono ?_; rintro e w1 ⟨rfl, h1⟩; replace h1 : Ex [] X w1 := Ex.trans exI (h1.ex _)))
   first | refine hK _ _ exI ?_ | refine ⟨rfl, hK _ _ exI ?_⟩
   clear hK K;refine xTt (fun K hK => ?_);simp only [pick, List.drop_succ_cons, List.drop_zero, List.take_succ_cons, List.take_zero, List.cons_append, List.nil_append]
   go_wp2_with (first | (at_builtin; refine xHJ (base := W.heap.size) eiMar Mar.len Mar.one rfl _ _ rfl v L (by rfl) (hX4.ext (h1.alloc _)) w1.heap.size (oneM p (nth p.lots .zero k)) (by rfl) (fun j u hu => xAb (xAq _ _) j (by simpa [Mar.cells, oneM] using hu)) (by omega) (by omega) (by have := h1.size; simp; omega) ?_; intro g c2 w2 hO2 hx2 hg2 hlt2; have hT2 := hx2.heap (fun hm => by have := hX4.base_le (by simpa using hm); omega) ((h1.alloc _).heap (by simp) hX2'.out); have zc := xAb hT2 9 rfl; have zf2 := xBv hT2 9; have hT2' := Lib.hid hT2; clear hT2))
   try refine ⟨rfl, hK _ _ ?_⟩
   try clear hK K
   refine xGj (fun K hK => ?_);simp only [pick, List.drop_succ_cons, List.drop_zero, List.take_succ_cons, List.take_zero, List.cons_append, List.nil_append]
   iterate 1 (first | (refine xAP ?_ (by rfl) (fun w' hS' => ?_) ?_; rotate_left; ((try dsimp only at hS'); go_simp; try with_reducible rfl); simp only [Act.put, List.setIfInBounds_toArray, List.set_cons_zero, List.set_cons_succ]) | (refine xA4 (by rfl) ?_; simp only [Act.put, List.setIfInBounds_toArray, List.set_cons_zero, List.set_cons_succ]))
   refine xAW (hK _ ?_);clear hK K;refine xTt (fun K hK => ?_);simp only [pick, List.drop_succ_cons, List.drop_zero, List.take_succ_cons, List.take_zero, List.cons_append, List.nil_append]
   go_wp2_with (first | (at_builtin; refine xHJ (base := W.heap.size) eiMar Mar.len Mar.one rfl _ _ rfl v L (by rfl) (hX4.ext (h1.alloc _)) w1.heap.size (oneM p (nth p.lots .zero k)) (by rfl) (fun j u hu => xAb (xAq _ _) j (by simpa [Mar.cells, oneM] using hu)) (by omega) (by omega) (by have := h1.size; simp; omega) ?_; intro g c2 w2 hO2 hx2 hg2 hlt2; have hT2 := hx2.heap (fun hm => by have := hX4.base_le (by simpa using hm); omega) ((h1.alloc _).heap (by simp) hX2'.out); have zc := xAb hT2 9 rfl; have zf2 := xBv hT2 9; have hT2' := Lib.hid hT2; clear hT2))
   try refine ⟨rfl, hK _ _ ?_⟩
   try clear hK K
   refine xKK ?_
   go_wp2_with fail
   go_roundg (p.lots.length - (k + 1))
   case rel =>
    have e1 : Ex [w.heap.size + 1 + 1] W w2 := ((hX1'.trans (h1.ex _)).alloc _).trans_fresh hx2 (fun x hx => .inr (hX4.base_le (by simpa using hx)));refine ⟨k + 1, _, rfl, by omega, by go_num, e1.setCell (.inl (by simp)) _, xVx (xAF hT2'.out 9 _) (by kernel_rfl), (hO2.ex (S := [w.heap.size + 1 + 1]) ((Ex.refl _ _).setCell (.inl (by simp)) _) ?_).cong (by rw [ones_to p k hlt, hL'.out])⟩;intro g' hg';have := hO2.base_le hg';simp; omega
   case measure => omega
  ·have hO2 := hO.cong (List.take_of_length_le (l := xBG p) (by simp [xBG]; omega));obtain ⟨a', c', rfl, hSl, hbb⟩ := hO2.sl Mar.len;have e0 := xAb (v := .slice a p.lots.length cap) hT 0 rfl;have e1 := xAb (v := .int .i64 p.mass.lo) hT 1 rfl;have e2 := xAb (v := .int .i64 p.mass.hi) hT 2 rfl;have e3 := xAb (v := .int .i64 p.target.a.lo) hT 3 rfl;have e4 := xAb (v := .int .i64 p.target.a.hi) hT 4 rfl;have e5 := xAb (v := .int .i64 p.target.b.lo) hT 5 rfl;have e6 := xAb (v := .int .i64 p.target.b.hi) hT 6 rfl;have e7 := xAb (v := .int .i64 p.target.c.lo) hT 7 rfl;have e8 := xAb (v := .int .i64 p.target.c.hi) hT 8 rfl;have e9 := xAb (v := .slice a' (xBG p).length c') hT 9 rfl;have g0 : Ext w wr := ((hr0.ex _).trans hE).fresh (T := []) (by intro x hx; right; simp at hx; omega);clear hT hO hO2
   go_wp2_with fail
   (try simp only [Exit.inBlock, Exit.then])
   have hsS : ∀ b, a' = some b -> b.block ∉ [w.heap.size + 1] := fun b hb => (by have := hbb b hb; simp; omega);refine ret_at (fun X => Ext w X /\ X.heap[w.heap.size + 1]? = some (.cells #[.slice a p.lots.length cap, .int .i64 p.mass.lo, .int .i64 p.mass.hi, .int .i64 p.target.a.lo, .int .i64 p.target.a.hi, .int .i64 p.target.b.lo, .int .i64 p.target.b.hi, .int .i64 p.target.c.lo, .int .i64 p.target.c.hi, .slice a' (xBG p).length c'] 151 (0, 0)) /\ Sl 8 Mar.cells X a' c' (xBG p)) ⟨?_, ?_, ?_⟩ (fun X hX => ?_)
   ·(exact exI)
   ·refine xVx (xAF (xAF (xAF (xAF (xAF (xAF (xAF (xAF (xAF (xAF (hE.heap (by first | (simp; done) | (simp; omega)) hB1'.out) 0 _) 1 _) 2 _) 3 _) 4 _) 5 _) 6 _) 7 _) 8 _) 9 _) ?_
    kernel_rfl
   ·refine hSl.ex (S := [w.heap.size + 1]) ?_ hsS
    (exact exI)
   obtain ⟨hX1, hX2, hX3⟩ := hX;have x0 := xAb (v := .slice a p.lots.length cap) hX2 0 rfl;have x1 := xAb (v := .int .i64 p.mass.lo) hX2 1 rfl;have x2 := xAb (v := .int .i64 p.mass.hi) hX2 2 rfl;have x3 := xAb (v := .int .i64 p.target.a.lo) hX2 3 rfl;have x4 := xAb (v := .int .i64 p.target.a.hi) hX2 4 rfl;have x5 := xAb (v := .int .i64 p.target.b.lo) hX2 5 rfl;have x6 := xAb (v := .int .i64 p.target.b.hi) hX2 6 rfl;have x7 := xAb (v := .int .i64 p.target.c.lo) hX2 7 rfl;have x8 := xAb (v := .int .i64 p.target.c.hi) hX2 8 rfl;have x9 := xAb (v := .slice a' (xBG p).length c') hX2 9 rfl;exact bodyPost_ret (v := .agg #[.slice a p.lots.length cap, .int .i64 p.mass.lo, .int .i64 p.mass.hi, .int .i64 p.target.a.lo, .int .i64 p.target.a.hi, .int .i64 p.target.b.lo, .int .i64 p.target.b.hi, .int .i64 p.target.c.lo, .int .i64 p.target.c.hi, .slice a' (xBG p).length c']) (by simp [results, Tryz.results41, go_sem, x0, x1, x2, x3, x4, x5, x6, x7, x8, x9]) rfl ⟨a', c', rfl, hX3, hX1⟩
def xC7 : List Lot -> Int -> Bool
 | [], _ => false
 | l :: ls, n => let m := wrap64 (n * wrap64 (l.count + 1)); if 20000 < m then true else xC7 ls m
theorem xFN (lots : List Lot) (k : Nat) (n : Int) (h : k < lots.length) : xC7 (lots.drop k) n = if 20000 < wrap64 (n * wrap64 ((nth lots .zero k).count + 1)) then true else xC7 (lots.drop (k + 1)) (wrap64 (n * wrap64 ((nth lots .zero k).count + 1))) := by
 rw [List.drop_eq_getElem_cons h, xC7, xAG lots .zero k h]
theorem xMM (lots : List Lot) (k : Nat) (n : Int) (h : ¬ k < lots.length) : xC7 (lots.drop k) n = false := by
 rw [List.drop_of_length_le (by omega), xC7]
def xT1 (p : Recipe) : Bool := xC7 p.lots 1
set_option maxHeartbeats 1000000 in
theorem many_c (p : Recipe) (a : Option Addr) (cap : Nat) (a2 : Option Addr) (n2 cap2 : Nat) (w : World) (hs : SlL w a cap p.lots) :
  Calls Tryz.prog 42 #[.agg #[.slice a p.lots.length cap, .int .i64 p.mass.lo, .int .i64 p.mass.hi, .int .i64 p.target.a.lo, .int .i64 p.target.a.hi, .int .i64 p.target.b.lo, .int .i64 p.target.b.hi, .int .i64 p.target.c.lo, .int .i64 p.target.c.hi, .slice a2 n2 cap2]] w (Ret (.bool (xT1 p)) w) := by
 have hle := hs.le; have hb := hs.big
 go_enter Tryz.func42, Tryz.ntmps42
 go_upto_region 1 with (fail)
 refine xF9 (fun W => Ext w W /\ w.heap.size + 1 = W.heap.size /\ W.heap[w.heap.size]? = some (.cells #[.slice a p.lots.length cap, .int .i64 p.mass.lo, .int .i64 p.mass.hi, .int .i64 p.target.a.lo, .int .i64 p.target.a.hi, .int .i64 p.target.b.lo, .int .i64 p.target.b.hi, .int .i64 p.target.c.lo, .int .i64 p.target.c.hi, .slice a2 n2 cap2] 151 (0, 0))) ⟨by (exact exI), by simp, xAq _ _⟩ (fun W hW => ?_);obtain ⟨hr0, hsz, hB0⟩ := hW;have hr : Ex [] W W := Ex.refl _ _;have f0_0 := cE (S := []) hB0 0 rfl;have f0_1 := cE (S := []) hB0 1 rfl;have f0_2 := cE (S := []) hB0 2 rfl;have f0_3 := cE (S := []) hB0 3 rfl;have f0_4 := cE (S := []) hB0 4 rfl;have f0_5 := cE (S := []) hB0 5 rfl;have f0_6 := cE (S := []) hB0 6 rfl;have f0_7 := cE (S := []) hB0 7 rfl;have f0_8 := cE (S := []) hB0 8 rfl;have f0_9 := cE (S := []) hB0 9 rfl;clear hB0;have hsz' := Nat.le_of_eq hsz.symm; have hsz'' := Nat.le_of_eq hsz; clear hsz
 go_wp2_with fail
 go_loopg [3, 10] (p.lots.length) (fun g n i wr => ∃ (k : Nat) (m : Int), g = p.lots.length - k /\ k <= p.lots.length /\ n = .int .i64 m /\ i = .int .i64 k /\ Ext W wr /\ xT1 p = xC7 (p.lots.drop k) m)
 case atStart => exact ⟨0, 1, rfl, by omega, rfl, rfl, Ex.refl _ _, rfl⟩
 case round =>
  obtain ⟨k, m, rfl, hk, rfl, rfl, hE, hi⟩ := hrel;have hi' := Lib.hid hi; clear hi;by_cases hlt : k < p.lots.length
  ·obtain ⟨b2, off2, rfl, hbw2, hss⟩ := hs.cells (by omega);have d0 := (hr0.trans hE).cell (by simp) (hss k (by omega) 0 _ rfl);rw [Nat.add_zero, xAG p.lots .zero] at d0;have d1 := (hr0.trans hE).cell (by simp) (hss k (by omega) 1 _ rfl);rw [xAG p.lots .zero] at d1;have d2 := (hr0.trans hE).cell (by simp) (hss k (by omega) 2 _ rfl);rw [xAG p.lots .zero] at d2;have d3 := (hr0.trans hE).cell (by simp) (hss k (by omega) 3 _ rfl);rw [xAG p.lots .zero] at d3;have d4 := (hr0.trans hE).cell (by simp) (hss k (by omega) 4 _ rfl);rw [xAG p.lots .zero] at d4;have d5 := (hr0.trans hE).cell (by simp) (hss k (by omega) 5 _ rfl);rw [xAG p.lots .zero] at d5;have d6 := (hr0.trans hE).cell (by simp) (hss k (by omega) 6 _ rfl);rw [xAG p.lots .zero] at d6;have d7 := (hr0.trans hE).cell (by simp) (hss k (by omega) 7 _ rfl);rw [xAG p.lots .zero] at d7;have d8 := (hr0.trans hE).cell (by simp) (hss k (by omega) 8 _ rfl);rw [xAG p.lots .zero] at d8;clear hss;by_cases hm : 20000 < wrap64 (m * wrap64 ((nth p.lots .zero k).count + 1))
   ·go_wp2_with fail
    go_returns
    exact ⟨by rw [hi'.out, xFN p.lots k m hlt, if_pos hm]; rfl, hr0.trans (hE.alloc _)⟩
   ·go_wp2_with fail
    go_roundg (p.lots.length - (k + 1))
    case rel => exact ⟨k + 1, _, rfl, by omega, rfl, by go_num, hE.alloc _, by rw [hi'.out, xFN p.lots k m hlt, if_neg (by omega)]⟩
    case measure => omega
  ·go_wp2_with fail
   go_returns
   exact ⟨by rw [hi'.out, xMM p.lots k m hlt]; rfl, hr0.trans hE⟩
def xG5 (lots : List Lot) (counts : List Int) : Nat -> Int
 | 0 => 0
 | k + 1 => wrap64 (xG5 lots counts k + wrap64 (nth counts 0 k * (nth lots .zero k).cost))
def xGF (lots : List Lot) (counts : List Int) : Int := xG5 lots counts counts.length
set_option maxHeartbeats 1000000 in
theorem cost_c (p : Recipe) (a : Option Addr) (cap : Nat) (a2 : Option Addr) (n2 cap2 : Nat) (counts : List Int) (c : Option Addr) (cap' : Nat) (w : World) (hs : SlL w a cap p.lots) (hc : SlI w c cap' counts) (hn : counts.length <= p.lots.length) :
  Calls Tryz.prog 44 #[.agg #[.slice a p.lots.length cap, .int .i64 p.mass.lo, .int .i64 p.mass.hi, .int .i64 p.target.a.lo, .int .i64 p.target.a.hi, .int .i64 p.target.b.lo, .int .i64 p.target.b.hi, .int .i64 p.target.c.lo, .int .i64 p.target.c.hi, .slice a2 n2 cap2], .slice c counts.length cap'] w (Ret (.int .i64 (xGF p.lots counts)) w) := by
 have hle := hs.le; have hb := hs.big; have hle' := hc.le; have hb' := hc.big
 go_enter Tryz.func44, Tryz.ntmps44
 go_upto_region 1 with (fail)
 refine xF9 (fun W => Ext w W /\ w.heap.size + 1 = W.heap.size /\ W.heap[w.heap.size]? = some (.cells #[.slice a p.lots.length cap, .int .i64 p.mass.lo, .int .i64 p.mass.hi, .int .i64 p.target.a.lo, .int .i64 p.target.a.hi, .int .i64 p.target.b.lo, .int .i64 p.target.b.hi, .int .i64 p.target.c.lo, .int .i64 p.target.c.hi, .slice a2 n2 cap2] 151 (0, 0))) ⟨by (exact exI), by simp, xAq _ _⟩ (fun W hW => ?_);obtain ⟨hr0, hsz, hB0⟩ := hW;have hr : Ex [] W W := Ex.refl _ _;have f0_0 := cE (S := []) hB0 0 rfl;have f0_1 := cE (S := []) hB0 1 rfl;have f0_2 := cE (S := []) hB0 2 rfl;have f0_3 := cE (S := []) hB0 3 rfl;have f0_4 := cE (S := []) hB0 4 rfl;have f0_5 := cE (S := []) hB0 5 rfl;have f0_6 := cE (S := []) hB0 6 rfl;have f0_7 := cE (S := []) hB0 7 rfl;have f0_8 := cE (S := []) hB0 8 rfl;have f0_9 := cE (S := []) hB0 9 rfl;clear hB0;have hsz' := Nat.le_of_eq hsz.symm; have hsz'' := Nat.le_of_eq hsz; clear hsz
 go_wp2_with fail
 go_loopg [4, 9] (counts.length) (fun g n i wr => ∃ (k : Nat), g = counts.length - k /\ k <= counts.length /\ n = .int .i64 (xG5 p.lots counts k) /\ i = .int .i64 k /\ Ext W wr)
 case atStart => exact ⟨0, rfl, by omega, rfl, rfl, Ex.refl _ _⟩
 case round =>
  obtain ⟨k, rfl, hk, rfl, rfl, hE⟩ := hrel;by_cases hlt : k < counts.length
  ·obtain ⟨b, off, rfl, hbw, hcc⟩ := hc.cells (by omega);have c0 := (hr0.trans hE).cell (by simp) (hcc k (by omega) 0 _ rfl);rw [Nat.add_zero, Nat.mul_one, xAG counts 0] at c0;clear hcc;obtain ⟨b2, off2, rfl, hbw2, hss⟩ := hs.cells (by omega);have d8 := (hr0.trans hE).cell (by simp) (hss k (by omega) 8 _ rfl);rw [xAG p.lots .zero] at d8;clear hss
   go_wp2_with fail
   go_roundg (counts.length - (k + 1))
   case rel => exact ⟨k + 1, rfl, by omega, rfl, by go_num, hE⟩
   case measure => omega
  ·go_wp2_with fail
   go_returns
   exact ⟨by unfold xGF; rw [show k = counts.length from by omega]; rfl, hr0.trans hE⟩
theorem eiInt : EI Tryz.prog 45 3 1 8 := EI.mk' (z := .int .i64 0) (by kernel_rfl) (by kernel_rfl) (by rfl) (by omega)
theorem xBL (n : Int) : (intCells n).length = 1 := rfl
theorem xCn (n : Int) : ∀ u ∈ intCells n, u.oneCell' = true := by simp [intCells, Value.oneCell']
set_option maxHeartbeats 1000000 in
theorem xXG (a : Option Addr) (cap : Nat) (xs : List Int) (w : World) (hs : Sl 1 intCells w a cap xs) (hn : xs.length <= 100000000) :
  Calls Tryz.prog 46 #[.slice a xs.length cap] w (fun e w' => ∃ a' c', e = .returned (.slice a' xs.length c') /\ Own 3 1 intCells w.heap.size w' (.slice a' xs.length c') xs /\ Ext w w') := by
 have hle := hs.le; have hb := hs.big;have hnil := @Lib.run_eql_slice_nil Tryz.prog
 cases a with
 | none =>
  have h0 : xs = [] := List.length_eq_zero_iff.1 (Nat.eq_zero_of_not_pos fun h => by obtain ⟨b, off, h1, _⟩ := hs.cells h; cases h1);subst h0
  go_enter Tryz.func46, Tryz.ntmps46
  go_wp2_with fail
  go_returns
  exact ⟨_, _, rfl, Own.nil _, Ex.refl _ _⟩
 | some b =>
  go_enter Tryz.func46, Tryz.ntmps46
  go_wp2_with (at_builtin; refine xHb (base := w.heap.size) eiInt xBL xCn rfl _ _ rfl _ [] (by rfl) (Own.empty (Nat.le_refl _)) (some b) cap xs (by rfl) (hs.ext ((Ex.refl _ _).alloc _)) (by simp; omega) (by simp; omega) (by simp) ?_; intro v w1 hO hx hg hv; obtain ⟨a', c', rfl⟩ := hv; simp only [List.length_nil, Nat.zero_add, List.nil_append] at hO)
  go_returns
  refine ⟨a', c', by simp, hO, ?_⟩;have h9 : Ex [] w (w.alloc (.cells #[] 3 (0, 0))) := (Ex.refl _ _).alloc _;exact h9.trans_fresh hx (fun x hx => .inr (by simp [Value.ownBlock] at hx; omega))
theorem blk_at (w : World) (o : Obj) {b : Nat} (h : b = w.heap.size) : (w.alloc o).heap[b]? = some o := h ▸ xAq w o
def mx (x y : Int) : Int := if x < y then y else x
section
variable {α : Type} {P : Program} {t T k bytes : Nat} {f : α -> List Value} {base : Nat}
theorem xBO (he : EI P t T k bytes) (hf : ∀ x : α, (f x).length = k) (h1 : ∀ (x : α), ∀ u ∈ f x, u.oneCell' = true) {ops : Array Oper} {rest : List Oper} {o : Oper} {a : Act} {w : World} {Q : Exit -> Act -> World -> Prop} (hgd : o.guard = none) (s x : Operand)
  (ho : o.op = .call { callee := .builtin .append, args := #[s, x], argTypes := #[t, t] }) (g n cap : Nat) (xs : List α) (hn : xs.length = n) (hs : a.eval s = .slice (some ⟨g, 0, none⟩) n cap) (hown : Own T k f base w (.slice (some ⟨g, 0, none⟩) n cap) xs)
  (b : Nat) (y : α) (hx : a.eval x = .slice (some ⟨b, 0, none⟩) 1 1) (hnews : ∀ j u, (f y)[j]? = some u -> w.cell? ⟨b, j, none⟩ = some u) (hroom : n + 1 <= cap)
  (h : ∀ w', Own T k f base w' (.slice (some ⟨g, 0, none⟩) (n + 1) cap) (xs ++ [y]) -> Ex [g] w w' -> wpList P ops Q rest (a.put o.dst (.slice (some ⟨g, 0, none⟩) (n + 1) cap)) w') : wpList P ops Q (o :: rest) a w := by
 obtain ⟨i, z, hi, hz, hsz, hby, hzs⟩ := he.ex;subst hn;obtain ⟨w', hr, ho1, hg⟩ := run_append_fits (P := P) w base t o.type T i k he.ht hi hsz g xs.length cap (xs.flatMap f) hown ⟨b, 0, none⟩ 1 1 (f y) (by rw [hf]; omega) (by
  intro j u hu;have hadd : (⟨b, 0, none⟩ : Addr).add j = ⟨b, j, none⟩ := by unfold Addr.add; split <;> simp_all
  rw [hadd]; exact hnews j u hu) (h1 y) hroom
 refine wpList_plain hgd fun K hK => ?_;unfold Oper.wp execOp;simp only [ho, resolve, invoke, builtin, Sem.run_bind, Sem.run_pure, Result.andThen_ok, List.map_toArray, List.map_cons, List.map_nil, hs, hx, hr];refine hK _ _ (h w' ?_ (Ex.of_grown hg));unfold Own;rw [show (xs ++ [y]).flatMap f = xs.flatMap f ++ f y by simp, show (xs ++ [y]).length = xs.length + 1 by simp];exact ho1
end
section
attribute [local irreducible] xAO xBl
attribute [local go_sem] Oper.semAt_some
def xA2 (p : Recipe) (ones : List Mar) : Nat -> List Int -> Mar -> List (List Int × Mar)
 | 0, c, m => [(c, m)]
 | r + 1, c, m => (List.range ((nth p.lots .zero c.length).count + 1).toNat).flatMap fun (j : Nat) => xA2 p ones r (c ++ [(j : Int)]) (xFb m (nth ones .zero c.length) j)
theorem xDW (c : List Int) : (c.flatMap intCells).length = c.length := by
 induction c with
 | nil => rfl
 | cons x c ih => simp only [List.flatMap_cons, List.length_append, ih, List.length_cons, xBL]; omega
theorem Own.toSl {α : Type} {T k : Nat} {f : α -> List Value} {base : Nat} {w : World} {a : Option Addr} {n cap : Nat} {xs : List α} (h : Own T k f base w (.slice a n cap) xs) (hf : ∀ x : α, (f x).length = k) : Sl k f w a cap xs := by
 obtain ⟨a', c', e, h2, _⟩ := h.sl hf;simp only [Value.slice.injEq] at e;obtain ⟨rfl, _, rfl⟩ := e;exact h2
theorem Sl.ex0 {α : Type} {k : Nat} {f : α -> List Value} {S : List Nat} {w w' : World} {a : Option Addr} {cap : Nat} {xs : List α} (h : Sl k f w a cap xs) (hE : Ex S w w') (hs : 0 < xs.length -> ∀ b, a = some b -> b.block ∉ S) : Sl k f w' a cap xs :=
 ⟨h.le, h.big, fun h0 => by
  obtain ⟨b, off, ha, hb, hc⟩ := h.cells h0;exact ⟨b, off, ha, Nat.lt_of_lt_of_le hb hE.size, fun i hi j v hv => hE.cell (hs h0 _ ha) (hc i hi j v hv)⟩⟩
theorem Own.before {base g k cap : Nat} {w : World} {c : List Int} {x : Int} (h : Own 3 1 intCells base w (.slice (some ⟨g, 0, none⟩) (k + 1) cap) (c ++ [x])) (hk : c.length = k) : Own 3 1 intCells base w (.slice (some ⟨g, 0, none⟩) k cap) c := by
 obtain ⟨h1, h2⟩ := h;rcases h2 with ⟨h2, _⟩ | ⟨g', cap', cur, e, hb, hg, hn, hc, hs, ht⟩
 ·cases h2
 ·simp only [Value.slice.injEq, Option.some.injEq, Addr.mk.injEq] at e;obtain ⟨⟨rfl, _⟩, _, rfl⟩ := e;refine ⟨by rw [xDW]; omega, .inr ⟨g, cap, cur, by rw [hk], hb, hg, by simp at hn; omega, hc, hs, ?_⟩⟩;have h3 : (cur.toList.take ((c ++ [x]).length * 1)).take (c.length * 1) = ((c ++ [x]).flatMap intCells).take (c.length * 1) := by rw [ht]
  rw [List.take_take, show min (c.length * 1) ((c ++ [x]).length * 1) = c.length * 1 by simp] at h3;rw [h3, List.flatMap_append, List.take_append_of_le_length (by rw [xDW]; omega)];exact List.take_of_length_le (by rw [xDW]; omega)
structure Env (p : Recipe) (a : Option Addr) (cap : Nat) (a2 : Option Addr) (cap2 : Nat) (ones : List Mar) (l bt by_ be : Nat) (w : World) : Prop where
 t : w.heap[bt]? = some (.cells #[.slice a p.lots.length cap, .int .i64 p.mass.lo, .int .i64 p.mass.hi, .int .i64 p.target.a.lo, .int .i64 p.target.a.hi, .int .i64 p.target.b.lo, .int .i64 p.target.b.hi, .int .i64 p.target.c.lo, .int .i64 p.target.c.hi, .slice a2 ones.length cap2] 151 (0, 0))
 y : w.heap[by_]? = some (.cells #[.func (.yield l) #[] #[]] 195 (0, 0))
 e : w.heap[be]? = some (.cells #[.func (.func 111) #[] #[.pointer (some ⟨bt, 0, none⟩), .pointer (some ⟨by_, 0, none⟩), .pointer (some ⟨be, 0, none⟩)]] 195 (0, 0))
 lots : SlL w a cap p.lots
 ones_ : Sl 8 Mar.cells w a2 cap2 ones
end
section
attribute [local irreducible] xAO xBl
attribute [local go_sem] Oper.semAt_some
set_option maxRecDepth 100000 in
set_option maxHeartbeats 8000000 in
theorem xJi (p : Recipe) (a : Option Addr) (cap : Nat) (a2 : Option Addr) (cap2 : Nat) (ones : List Mar) (hcnt : ∀ k, k < p.lots.length -> 0 <= (nth p.lots .zero k).count /\ (nth p.lots .zero k).count <= 1000) (hlen : p.lots.length <= 1000) (hon : Hid (ones.length = p.lots.length)) (l g bt by_ be base : Nat) (SB SG : List Nat) (hgS : g ∈ SG) (hSB : ∀ x ∈ SB, x ∈ SG) (hgB : g ∉ SB) (hEnv : ∀ W W', Env p a cap a2 cap2 ones l bt by_ be W -> Ex SG W W' -> Env p a cap a2 cap2 ones l bt by_ be W') (J : List (List Int × Mar) -> World -> Prop) (hJE : ∀ pre W W', J pre W -> Ex [g] W W' -> J pre W') (hY : ∀ pre c m W, J pre W -> c.length = p.lots.length /\ g < W.heap.size -> SlI W (some ⟨g, 0, none⟩) p.lots.length c -> YieldAt Fence.wide 4 Tryz.prog l #[.slice (some ⟨g, 0, none⟩) p.lots.length p.lots.length, .agg #[.int .i64 m.m0, .int .i64 m.m1, .int .i64 m.m2, .int .i64 m.m3, .int .i64 m.m4, .int .i64 m.m5, .int .i64 m.m6, .int .i64 m.m7]] W (fun e W' => e = .returned (.bool true) /\ J (pre ++ [(c, m)]) W' /\ Ex SB W W')) (k : Nat) (c : List Int) (m : Mar) (pre : List (List Int × Mar)) (w : World) (hkr : Hid (k + 0 = p.lots.length)) (hck : Hid (c.length = k)) (hk : k <= p.lots.length) (hSw : ∀ x ∈ SG, x < w.heap.size) (hE : Env p a cap a2 cap2 ones l bt by_ be w) (hJ : J pre w) (hO : Own 3 1 intCells base w (.slice (some ⟨g, 0, none⟩) k p.lots.length) c) :
  Calls Tryz.prog 111 #[.slice (some ⟨g, 0, none⟩) k p.lots.length, .agg #[.int .i64 m.m0, .int .i64 m.m1, .int .i64 m.m2, .int .i64 m.m3, .int .i64 m.m4, .int .i64 m.m5, .int .i64 m.m6, .int .i64 m.m7], .pointer (some ⟨bt, 0, none⟩), .pointer (some ⟨by_, 0, none⟩), .pointer (some ⟨be, 0, none⟩)] w (fun e w' => e = .returned (.bool true) /\ J (pre ++ xA2 p ones 0 c m) w' /\ Ex SG w w' /\ Own 3 1 intCells base w' (.slice (some ⟨g, 0, none⟩) k p.lots.length) c) := by
 obtain rfl : k = p.lots.length := by have := hkr.out; omega
 have hg := hO.lt rfl;have hgb : base <= g := hO.base_le rfl
 go_enter Tryz.func111, Tryz.ntmps111
 go_upto_region 1 with (fail)
 refine xF9 (fun W => Ext w W /\ w.heap.size + 1 = W.heap.size /\ W.heap[w.heap.size]? = some (.cells #[.int .i64 m.m0, .int .i64 m.m1, .int .i64 m.m2, .int .i64 m.m3, .int .i64 m.m4, .int .i64 m.m5, .int .i64 m.m6, .int .i64 m.m7] 156 (0, 0))) ⟨by (exact exI), by simp, xAq _ _⟩ (fun W hW => ?_);obtain ⟨hr0, hsz, hB0⟩ := hW;have hr : Ex [] W W := Ex.refl _ _;have f0_0 := cE (S := []) hB0 0 rfl;have f0_1 := cE (S := []) hB0 1 rfl;have f0_2 := cE (S := []) hB0 2 rfl;have f0_3 := cE (S := []) hB0 3 rfl;have f0_4 := cE (S := []) hB0 4 rfl;have f0_5 := cE (S := []) hB0 5 rfl;have f0_6 := cE (S := []) hB0 6 rfl;have f0_7 := cE (S := []) hB0 7 rfl;clear hB0;have hsz' := Nat.le_of_eq hsz.symm; have hsz'' := Nat.le_of_eq hsz; clear hsz;have hEW := hEnv _ _ hE (hr0.ex SG);have e0 := xAp (S := []) hEW.t (by simp) 0 rfl;have e1 := xAp (S := []) hEW.y (by simp) 0 rfl;have hJW := hJE _ _ _ hJ (hr0.ex [g]);have hOW := hO.ext hr0
 go_upto_region 3 with fail
 obtain ⟨fn, tm, assign, body, hy, hR⟩ := hY pre c m W hJW ⟨hck.out, hOW.lt rfl⟩ (hck.out ▸ (hOW.cong rfl).toSl (fun _ => rfl));have hR' := Lib.hid hR; clear hR;refine (wpIn_wide (n := 5)).1 ?_
 gi_wp2
 refine hR'.out.mono ?_
 rintro e w1 ⟨rfl, hJ1, h1⟩
 gi_wp2
 go_wp2
 go_returns
 exact ⟨rfl, hJ1, (hr0.ex SG).trans (h1.mono hSB), hOW.ex h1 (fun g' hg' => by simp only [Value.ownBlock, Option.some.injEq] at hg'; subst hg'; exact hgB)⟩
end
end Go.Proofs.YtnomnijhlbalaaaGreatDoor
