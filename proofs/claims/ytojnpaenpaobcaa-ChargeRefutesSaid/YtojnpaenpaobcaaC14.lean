/- The box of all charges. No condition. -/
import Derived.Test.YtojnpaenpaobcaaC12
import Derived.Test.YtojnpaenpaobcaaB5
namespace Go.Proofs.Ytojnpaenpaobcaa
open Go.RowKit

def lowsM (p : Recipe) : List Int := List.replicate p.lots.length 0
def highsM (p : Recipe) : List Int := p.lots.map (fun l => l.count)
theorem highsM_to (p : Recipe) (k : Nat) (h : k < p.lots.length) : (highsM p).take (k + 1) = (highsM p).take k ++ [(nth p.lots .zero k).count] := by
  rw [List.take_succ_eq_append_getElem (by simpa [highsM] using h)]
  simp [highsM, nth_eq p.lots .zero k h]

set_option maxRecDepth 100000 in
set_option maxHeartbeats 4000000 in
theorem whole_c (p : Recipe) (a : Option Addr) (cap : Nat) (a2 : Option Addr) (n2 cap2 : Nat) (w : World) (hs : SlL w a cap p.lots) (hn : p.lots.length ≤ 1000) :
    Calls Try.prog 74 #[.agg #[.slice a p.lots.length cap, .int .i64 p.mass.lo, .int .i64 p.mass.hi, .int .i64 p.target.a.lo, .int .i64 p.target.a.hi, .int .i64 p.target.b.lo, .int .i64 p.target.b.hi, .int .i64 p.target.c.lo, .int .i64 p.target.c.hi, .slice a2 n2 cap2]] w (fun e w' => ∃ a1 c1 a3 c3, e = .returned (.agg #[.slice a1 (lowsM p).length c1, .slice a3 (highsM p).length c3]) ∧ SlI w' a1 c1 (lowsM p) ∧ SlI w' a3 c3 (highsM p) ∧ Ext w w') := by
  have hle := hs.le; have hb := hs.big
  go_enter Try.func74, Try.ntmps74
  go_upto_region 1 with (fail)
  refine wp_at (fun W => Ext w W ∧ w.heap.size + 2 = W.heap.size ∧ W.heap[w.heap.size]? = some (.cells #[.slice a p.lots.length cap, .int .i64 p.mass.lo, .int .i64 p.mass.hi, .int .i64 p.target.a.lo, .int .i64 p.target.a.hi, .int .i64 p.target.b.lo, .int .i64 p.target.b.hi, .int .i64 p.target.c.lo, .int .i64 p.target.c.hi, .slice a2 n2 cap2] 119 (0, 0)) ∧ W.heap[w.heap.size + 1]? = some (.cells #[.slice none 0 0, .slice none 0 0] 128 (0, 0))) ⟨by (repeat (with_reducible first | exact Ex.refl _ _ | assumption | exact Ex.mono (by assumption) (by simp; done) | refine Ex.alloc ?_ _ | refine Ex.drew ?_ | refine Ex.drewN ?_ _ | refine Ex.setCell ?_ (by first | (left; simp; done) | (right; simp; done) | (right; simp; omega)) _ | refine Ex.trans ?_ (by assumption))), by simp, blk_alloc (blk_new _ _), by have h := blk_new ((w).alloc (.cells #[.slice a p.lots.length cap, .int .i64 p.mass.lo, .int .i64 p.mass.hi, .int .i64 p.target.a.lo, .int .i64 p.target.a.hi, .int .i64 p.target.b.lo, .int .i64 p.target.b.hi, .int .i64 p.target.c.lo, .int .i64 p.target.c.hi, .slice a2 n2 cap2] 119 (0, 0))) (.cells #[.slice none 0 0, .slice none 0 0] 128 (0, 0)); simpa using h⟩ (fun W hW => ?_)
  obtain ⟨hr0, hsz, hB0, hB1⟩ := hW
  have hr : Ex [] W W := Ex.refl _ _
  have f0_0 := cellE (S := []) hB0 (by first | (simp; done) | (simp; omega)) 0 rfl
  have f0_1 := cellE (S := []) hB0 (by first | (simp; done) | (simp; omega)) 1 rfl
  have f0_2 := cellE (S := []) hB0 (by first | (simp; done) | (simp; omega)) 2 rfl
  have f0_3 := cellE (S := []) hB0 (by first | (simp; done) | (simp; omega)) 3 rfl
  have f0_4 := cellE (S := []) hB0 (by first | (simp; done) | (simp; omega)) 4 rfl
  have f0_5 := cellE (S := []) hB0 (by first | (simp; done) | (simp; omega)) 5 rfl
  have f0_6 := cellE (S := []) hB0 (by first | (simp; done) | (simp; omega)) 6 rfl
  have f0_7 := cellE (S := []) hB0 (by first | (simp; done) | (simp; omega)) 7 rfl
  have f0_8 := cellE (S := []) hB0 (by first | (simp; done) | (simp; omega)) 8 rfl
  have f0_9 := cellE (S := []) hB0 (by first | (simp; done) | (simp; omega)) 9 rfl
  clear hB0
  have hsz' := Nat.le_of_eq hsz.symm; have hsz'' := Nat.le_of_eq hsz; clear hsz
  have hB1' := Lib.hid hB1; clear hB1
  go_upto_region 2 with (at_make; go_loud (refine wpList_make1 (f := intCells) (base := W.heap.size) eiInt (.int .i64 0) (by kernel_rfl) rfl (0 : Int) rfl rfl _ _ rfl p.lots.length (by rfl) (by rfl) (by omega) (by omega) (by omega) ?_); intro w1 hO1 h1 hlt1)
  go_upto_region 2 with fail
  refine wp_at (fun X => Ext W X ∧ w1.heap.size < X.heap.size ∧ W.heap.size < w1.heap.size ∧ X.heap[w1.heap.size]? = some (.cells #[.slice (some ⟨W.heap.size, 0, none⟩) p.lots.length p.lots.length, .slice none 0 0] 128 (0, 0)) ∧ Own 3 1 intCells W.heap.size X (.slice (some ⟨W.heap.size, 0, none⟩) p.lots.length p.lots.length) (lowsM p)) ⟨h1.alloc _, lt_of_block (blk_new _ _), hlt1, blk_new _ _, Own.ext (by simpa [lowsM] using hO1) ((Ex.refl _ _).alloc _)⟩ (fun X hX => ?_)
  obtain ⟨h1X, hgX, hgW, hG, hOl⟩ := hX
  clear hO1 h1 hlt1
  have hG' := Lib.hid hG; clear hG
  have hrX : Ex [] X X := Ex.refl _ _
  replace f0_0 := fun w' (h : Ex [] X w') => f0_0 w' (h1X.trans h)
  go_wp2_with fail
  go_loopg [16] (p.lots.length) (fun g i wr => ∃ (k : Nat) (v : Value), g = p.lots.length - k ∧ k ≤ p.lots.length ∧ i = .int .i64 k ∧ Ex [w1.heap.size] X wr ∧ wr.heap[w1.heap.size]? = some (.cells #[.slice (some ⟨W.heap.size, 0, none⟩) p.lots.length p.lots.length, v] 128 (0, 0)) ∧ Own 3 1 intCells X.heap.size wr v ((highsM p).take k))
  case atStart => exact ⟨0, _, rfl, by omega, rfl, Ex.refl _ _, hG'.out, Own.nil _⟩
  case round =>
    obtain ⟨k, v, rfl, hk, rfl, hE, hT, hO⟩ := hrel
    by_cases hlt : k < p.lots.length
    · obtain ⟨b2, off2, rfl, hbw2, hss⟩ := hs.cells (by omega)
      have d0 := (hr0.trans (h1X.trans_fresh hE (by simp; omega))).cell (by simp) (hss k (by omega) 0 _ rfl)
      rw [Nat.add_zero, nth_eq p.lots .zero] at d0
      have d1 := (hr0.trans (h1X.trans_fresh hE (by simp; omega))).cell (by simp) (hss k (by omega) 1 _ rfl)
      rw [nth_eq p.lots .zero] at d1
      have d2 := (hr0.trans (h1X.trans_fresh hE (by simp; omega))).cell (by simp) (hss k (by omega) 2 _ rfl)
      rw [nth_eq p.lots .zero] at d2
      have d3 := (hr0.trans (h1X.trans_fresh hE (by simp; omega))).cell (by simp) (hss k (by omega) 3 _ rfl)
      rw [nth_eq p.lots .zero] at d3
      have d4 := (hr0.trans (h1X.trans_fresh hE (by simp; omega))).cell (by simp) (hss k (by omega) 4 _ rfl)
      rw [nth_eq p.lots .zero] at d4
      have d5 := (hr0.trans (h1X.trans_fresh hE (by simp; omega))).cell (by simp) (hss k (by omega) 5 _ rfl)
      rw [nth_eq p.lots .zero] at d5
      have d6 := (hr0.trans (h1X.trans_fresh hE (by simp; omega))).cell (by simp) (hss k (by omega) 6 _ rfl)
      rw [nth_eq p.lots .zero] at d6
      have d7 := (hr0.trans (h1X.trans_fresh hE (by simp; omega))).cell (by simp) (hss k (by omega) 7 _ rfl)
      rw [nth_eq p.lots .zero] at d7
      have d8 := (hr0.trans (h1X.trans_fresh hE (by simp; omega))).cell (by simp) (hss k (by omega) 8 _ rfl)
      rw [nth_eq p.lots .zero] at d8
      clear hss
      have hgr := lt_of_block hT
      have e0 := blk_cell (v := .slice (some ⟨W.heap.size, 0, none⟩) p.lots.length p.lots.length) hT 0 rfl
      have z0 := blk_free hT 0
      have e1 := blk_cell (v := v) hT 1 rfl
      have z1 := blk_free hT 1
      have hO' := Lib.hid hO; have hT' := Lib.hid hT; clear hO hT
      obtain ⟨L, hL, hLl⟩ : ∃ L, L = (highsM p).take k ∧ L.length ≤ 1000 := ⟨_, rfl, by simp [highsM]; omega⟩
      rw [← hL] at hO'
      have hL' := Lib.hid hL; clear hL
      go_wp2_with (at_builtin; go_loud (refine wpList_push (base := X.heap.size) eiInt intCells_len intCells_one rfl _ _ rfl v L (by rfl) (hO'.out.ext (((Ex.refl _ _).alloc _).alloc _)) (wr.heap.size + 1) (nth p.lots .zero k).count (by rfl) (fun j u hu => blk_cell (cs := #[.int .i64 (nth p.lots .zero k).count]) (blk_at _ _ (by simp)) j (by simpa [intCells] using hu)) (by omega) (by omega) (by have := hE.size; simp; omega) ?_); intro g c2 w2 hO2 hx2 hg2 hlt2; have hT2 := hx2.heap (fun hm => by have := hO'.out.base_le (by simpa using hm); omega) (blk_alloc (blk_alloc hT'.out)); have zc := blk_cell hT2 1 rfl; have zf2 := blk_free hT2 1; have hT2' := Lib.hid hT2; clear hT2)
      go_roundg (p.lots.length - (k + 1))
      case rel =>
        have e1 : Ex [w1.heap.size] X w2 := ((hE.alloc _).alloc _).trans_fresh hx2 (fun x hx => .inr (hO'.out.base_le (by simpa using hx)))
        refine ⟨k + 1, _, rfl, by omega, by go_num, e1.setCell (.inl (by simp)) _, blk_to (blk_set hT2'.out 1 _) (by kernel_rfl), (hO2.ex (S := [w1.heap.size]) ((Ex.refl _ _).setCell (.inl (by simp)) _) ?_).cong (by rw [highsM_to p k hlt, hL'.out])⟩
        intro g' hg'
        have := hO2.base_le hg'
        simp; omega
      case measure => omega
    · have hO2 := hO.cong (List.take_of_length_le (l := highsM p) (by simp [highsM]; omega))
      obtain ⟨a', c', rfl, hSl, hbb⟩ := hO2.sl intCells_len
      obtain ⟨al, cl, el, hSl1, hbl⟩ := (hOl.ex (S := [w1.heap.size]) hE (fun g hg => by simp [Value.ownBlock] at hg; simp; omega)).sl intCells_len
      simp only [Value.slice.injEq] at el
      obtain ⟨rfl, el1, rfl⟩ := el
      have el1' := Lib.hid el1; clear el1
      have e0 := blk_cell (v := .slice (some ⟨W.heap.size, 0, none⟩) p.lots.length p.lots.length) hT 0 rfl
      have e1 := blk_cell (v := .slice a' (highsM p).length c') hT 1 rfl
      have hgr := lt_of_block hT
      have g0 : Ext w wr := (hr0.trans h1X).trans_fresh hE (by intro x hx; right; simp at hx; omega)
      have hB1'' := hE.heap (by simp; omega) (h1X.heap (by simp) hB1'.out)
      have k0 := blk_free hB1'' 0
      have k1 := blk_free hB1'' 1
      have l0 := blk_cell hB1'' 0 rfl
      have l1 := blk_cell hB1'' 1 rfl
      have hB1x := Lib.hid hB1''; clear hB1''
      clear hT hO hO2
      go_wp2_with fail
      (try simp only [Exit.inBlock, Exit.then])
      refine ret_at (fun Y => Ext w Y ∧ Y.heap[w.heap.size + 1]? = some (.cells #[.slice (some ⟨W.heap.size, 0, none⟩) p.lots.length p.lots.length, .slice a' (highsM p).length c'] 128 (0, 0)) ∧ SlI Y a' c' (highsM p) ∧ SlI Y (some ⟨W.heap.size, 0, none⟩) p.lots.length (lowsM p)) ⟨?_, ?_, ?_, ?_⟩ (fun Y hY => ?_)
      · exact (g0.setCell (.inr (by simp)) _).setCell (.inr (by simp)) _
      · refine blk_to (blk_set (blk_set hB1x.out 0 _) 1 _) ?_
        kernel_rfl
      · exact hSl.ex (S := [w.heap.size + 1]) (((Ex.refl _ _).setCell (.inl (by simp)) _).setCell (.inl (by simp)) _) (fun b hb => by have := hbb b hb; simp; omega)
      · exact hSl1.ex (S := [w.heap.size + 1]) (((Ex.refl _ _).setCell (.inl (by simp)) _).setCell (.inl (by simp)) _) (fun b hb => by have := hbl b hb; simp; omega)
      obtain ⟨hX1, hX2, hX3, hX4⟩ := hY
      have x0 := blk_cell (v := .slice (some ⟨W.heap.size, 0, none⟩) p.lots.length p.lots.length) hX2 0 rfl
      have x1 := blk_cell (v := .slice a' (highsM p).length c') hX2 1 rfl
      exact bodyPost_ret (v := .agg #[.slice (some ⟨W.heap.size, 0, none⟩) p.lots.length p.lots.length, .slice a' (highsM p).length c']) (by simp [results, Try.results74, go_sem, x0, x1]) rfl ⟨_, _, _, _, by rw [← el1'.out], hX4, hX3, hX1⟩
end Go.Proofs.Ytojnpaenpaobcaa
