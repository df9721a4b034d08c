/- A part of the proof of the theorem of the last file. No condition. By an AI agent. -/
import Derived.Test.YtnomnijhlbalaaaGreatDoorWW3Q0
set_option maxRecDepth 100000
set_option maxHeartbeats 4000000
namespace Go.Proofs.YtnomnijhlbalaaaGreatDoor
namespace M3
open Go.RowKit U8
section
variable (F : Nat) (hF : 2000 < F)
include hF
theorem xDd (l : List Tst) (hl : l.length <= 200) (c : Tco) : ∀ (j k i : Nat) (d m so go dd e : Int) (a f : Int × (Int × (Int × (Int × (Int × (Int × Int)))))), i + j = l.length -> j < k -> run (l.drop i) m -> 0 <= m /\ m <= 1000000000 -> 0 <= d -> d + 1000000000000 * j <= 400000000000000 -> ∃ t, xAy F k ((d, m, ((l.length - 0) : Int), (i : Int)), (l, a, so, go, dd, e, f, c)) = some t
 | j, 0, _, _, _, _, _, _, _, _, _, _, h, _, _, _, _ => by omega
 | 0, k + 1, i, d, m, so, go, dd, e, a, f, h, _, _, _, _, _ => by
  simp only [xAy];rw [xAH (show ¬ (i : Int) < (l.length - 0 : Int) by omega)];exact ⟨_, rfl⟩
 | j + 1, k + 1, i, d, m, so, go, dd, e, a, f, h, hj, hr, hm, hd, hD => by
  have hi : i < l.length := by omega
  have hx : nth l zS i = nth l zS i := rfl;rw [xCZ hi zS] at hr;simp only [xAy];rw [xAQ (show (i : Int) < (l.length - 0 : Int) by omega), show inB (i : Int) (l.length - 0) = true from xDZ hi, Int.toNat_natCast];generalize hx : nth l zS i = x at hr ⊢;obtain ⟨hs, hg0, hg1, hr'⟩ := hr;simp only [cond_true];rw [xXr F hF hs hg0 hm.2 (by omega), xAd];have hq := xFi (xJ8 sp1 hs) hg0 hd;generalize hr0 : ch (s1 x.2.2) x d m = r at hq ⊢;have hn := xIS (xJ8 sp1 hs) hg0 hd (n := pn c x r) (by rw [hr0]; exact xHH c x hq.2.1);rw [show xBA F (i : Int) r.1 r.2 c l = some (pn c x r, c) from xDC F hi hx, xAd];have hw : 0 <= nx x d (pn c x r) /\ nx x d (pn c x r) <= 1000000000000000 := ⟨hn.2.1, by omega⟩;rcases xYF hs with k1 | k1 | k1 | k1
  ·obtain ⟨b1, b2, b3, b4⟩ := q1 k1;simp only [b1, b2, b3, b4, cond_true, cond_false];rw [xAq F (stM hs) hm, xAd, xMA (by omega) hw, wI i hi hl];exact xDd l hl c j k (i + 1) _ _ _ _ _ _ _ _ (by omega) (by omega) hr' ⟨hg0, hg1⟩ hn.2.1 (by omega)
  ·obtain ⟨b1, b2, b3, b4⟩ := q2 k1;simp only [b1, b2, b3, b4, cond_true, cond_false];rw [xAq F (stM hs) hm, xAd, xMB (by omega) hw, wI i hi hl];exact xDd l hl c j k (i + 1) _ _ _ _ _ _ _ _ (by omega) (by omega) hr' ⟨hg0, hg1⟩ hn.2.1 (by omega)
  ·obtain ⟨b1, b2, b3, b4⟩ := q3 k1;simp only [b1, b2, b3, b4, cond_true, cond_false];rw [xAq F (stM hs) hm, xAd, xMB (by omega) hw, wI i hi hl];exact xDd l hl c j k (i + 1) _ _ _ _ _ _ _ _ (by omega) (by omega) hr' ⟨hg0, hg1⟩ hn.2.1 (by omega)
  ·obtain ⟨b1, b2, b3, b4⟩ := q4 k1;simp only [b1, b2, b3, b4, cond_true, cond_false];rw [xAq F (stM hs) hm, xAd, xMA (by omega) hw, wI i hi hl];exact xDd l hl c j k (i + 1) _ _ _ _ _ _ _ _ (by omega) (by omega) hr' ⟨hg0, hg1⟩ hn.2.1 (by omega)
theorem tot1 (l : List Tst) (hl : l.length <= 200) (a : Tfr) (hm : 0 <= a.1 /\ a.1 <= 1000000000) (ha : okR (s1 a.2) 1000000000000) (hr : run l a.1) (c : Tco) : ∃ t, xCS F a c l = some t := by
 obtain ⟨c0, c1⟩ := c;obtain ⟨h1, h2, h3⟩ := ha;unfold xCS;cases c0
 ·obtain ⟨t, h⟩ := xDd F hF l hl (false, c1) l.length F 0 (s1 a.2).1 a.1 0 0 (s1 a.2).1 (s1 a.2).1 (a.1, (a.2.1.1, (a.2.1.2, (a.2.2.1.1, (a.2.2.1.2, a.2.2.2))))) (a.1, (a.2.1.1, (a.2.1.2, (a.2.2.1.1, (a.2.2.1.2, a.2.2.2))))) (by omega) (by omega) hr hm h1 (by omega);exact ⟨_, xAc rfl (xAc h rfl)⟩
 ·obtain ⟨t, h⟩ := xDd F hF l hl (true, c1) l.length F 0 (s1 a.2).2 a.1 0 0 (s1 a.2).2 (s1 a.2).2 (a.1, (a.2.1.1, (a.2.1.2, (a.2.2.1.1, (a.2.2.1.2, a.2.2.2))))) (a.1, (a.2.1.1, (a.2.1.2, (a.2.2.1.1, (a.2.2.1.2, a.2.2.2))))) (by omega) (by omega) hr hm (by omega) (by omega);exact ⟨_, xAc rfl (xAc h rfl)⟩
theorem fil1_a (l : List Tst) (hl : l.length <= 200) (c : Tco) (R : (Int × T_2)) (sls : List Tfr) (a f : Int × (Int × (Int × (Int × (Int × (Int × Int)))))) (e : Int) : ∀ (j k i : Nat) (d m : Int) (ts : List (Int × Tc3)), i + j = l.length -> j < k -> run (l.drop i) m -> 0 <= m /\ m <= 1000000000 -> 0 <= d -> d + 1000000000000 * j <= 400000000000000 -> ∃ ts', xBg F k ((d, m, ((l.length - 0) : Int), (i : Int)), (l, R, sls, a, ts, e, f, c)) = some (l, R, sls, a, ts', e, f, c) /\ (∀ q, q < j -> xAI (.i .i64) (0, (0, 0)) ((i : Int) + (q : Int)) ts' = nth (tr s1 c (l.drop i) m d) z3 q) /\ (∀ w : Int, w < i -> xAI (.i .i64) (0, (0, 0)) w ts' = xAI (.i .i64) (0, (0, 0)) w ts)
 | j, 0, _, _, _, _, _, h, _, _, _, _ => by omega
 | 0, k + 1, i, d, m, ts, h, _, _, _, _, _ => by
  simp only [xBg];rw [xAH (show ¬ (i : Int) < (l.length - 0 : Int) by omega)];exact ⟨_, rfl, fun q hq => absurd hq (by omega), fun _ _ => rfl⟩
 | j + 1, k + 1, i, d, m, ts, h, hj, hr, hm, hd, hD => by
  have hi : i < l.length := by omega
  rw [xCZ hi zS] at hr ⊢;simp only [xBg];rw [xAQ (show (i : Int) < (l.length - 0 : Int) by omega), show inB (i : Int) (l.length - 0) = true from xDZ hi, Int.toNat_natCast];generalize hx : nth l zS i = x at hr ⊢;obtain ⟨hs, hg0, hg1, hr'⟩ := hr;simp only [cond_true];rw [xXr F hF hs hg0 hm.2 (by omega), xAd];have hq := xFi (xJ8 sp1 hs) hg0 hd;rw [tr];generalize hr0 : ch (s1 x.2.2) x d m = r at hq ⊢;have hn := xIS (xJ8 sp1 hs) hg0 hd (n := pn c x r) (by rw [hr0]; exact xHH c x hq.2.1);rw [show xBA F (i : Int) r.1 r.2 c l = some (pn c x r, c) from xDC F hi hx, xAd];have hw : 0 <= nx x d (pn c x r) /\ nx x d (pn c x r) <= 1000000000000000 := ⟨hn.2.1, by omega⟩;obtain ⟨ts', e1, e2, e3⟩ := fil1_a l hl c R sls a f e j k (i + 1) (nx x d (pn c x r)) (gm m x) (xF2 (.i .i64) (i : Int) (r.1, (r.2, nx x d (pn c x r))) ts) (by omega) (by omega) hr' ⟨hg0, hg1⟩ hn.2.1 (by omega);refine ⟨ts', ?_, fun q hq' => ?_, fun w hw' => ?_⟩;rotate_left
  ·cases q with
   | zero =>
    rw [show (i : Int) + ((0 : Nat) : Int) = (i : Int) by omega, e3 _ (by omega), xMh];rfl
   | succ q =>
    rw [show (i : Int) + ((q + 1 : Nat) : Int) = ((i + 1 : Nat) : Int) + (q : Int) by omega, e2 q (by omega)];rfl
  ·rw [e3 w (by omega), xFb _ (by omega)]
  rcases xYF hs with k1 | k1 | k1 | k1
  ·obtain ⟨b1, b2, b3, b4⟩ := q1 k1;simp only [b1, b2, b3, b4, cond_true, cond_false];rw [xAq F (stM hs) hm, xAd, xMA (by omega) hw, wI i hi hl];exact e1
  ·obtain ⟨b1, b2, b3, b4⟩ := q2 k1;simp only [b1, b2, b3, b4, cond_true, cond_false];rw [xAq F (stM hs) hm, xAd, xMB (by omega) hw, wI i hi hl];exact e1
  ·obtain ⟨b1, b2, b3, b4⟩ := q3 k1;simp only [b1, b2, b3, b4, cond_true, cond_false];rw [xAq F (stM hs) hm, xAd, xMB (by omega) hw, wI i hi hl];exact e1
  ·obtain ⟨b1, b2, b3, b4⟩ := q4 k1;simp only [b1, b2, b3, b4, cond_true, cond_false];rw [xAq F (stM hs) hm, xAd, xMA (by omega) hw, wI i hi hl];exact e1
theorem xOr (l : List Tst) (hl : l.length <= 200) (a f : Int × (Int × (Int × (Int × (Int × (Int × Int)))))) (e : Int) (ts : List (Int × Tc3)) : ∀ (j k i : Nat) (d dr m : Int) (R : (Int × T_2)) (sls : List Tfr) (kk : Nat), i + j = l.length -> j < k -> run (l.drop i) m -> 0 <= m /\ m <= 1000000000 -> 0 <= d -> d + 1000000000000 * j <= 400000000000000 -> (∀ q, q < j -> xAI (.i .i64) (0, (0, 0)) ((i : Int) + (q : Int)) ts = nth (tr s1 xCn (l.drop i) m dr) z3 q) -> kk + (sl s1 (l.drop i) m d dr).length <= sls.length -> sls.length <= 200 -> ∃ R' kk', xAs F k ((d, m, ((l.length - 0) : Int), (i : Int)), (l, R, sls, a, (kk : Int), ts, e, f, xBr)) = some (l, R', xCQ xPi sls kk (sl s1 (l.drop i) m d dr), a, kk', ts, e, f, xBr) /\ R'.1 = R.1
 | j, 0, _, _, _, _, _, _, _, h, _, _, _, _, _, _, _, _ => by omega
 | 0, k + 1, i, d, dr, m, R, sls, kk, h, _, _, _, _, _, _, _, _ => by
  simp only [xAs, nS, nI, g6, n3];rw [xAH (show ¬ (i : Int) < (l.length - 0 : Int) by omega), List.drop_eq_nil_of_le (by omega)];exact ⟨_, _, rfl, rfl⟩
 | j + 1, k + 1, i, d, dr, m, R, sls, kk, h, hj, hr, hm, hd, hD, ht, hk, hk2 => by
  have hi : i < l.length := by omega
  rw [xCZ hi zS] at hr hk ht ⊢;simp only [xAs, nS, nI, g6, n3];rw [xAQ (show (i : Int) < (l.length - 0 : Int) by omega), show inB (i : Int) (l.length - 0) = true from xDZ hi, Int.toNat_natCast];generalize hx : nth l zS i = x at hr hk ht ⊢;obtain ⟨hs, hg0, hg1, hr'⟩ := hr;simp only [cond_true];have ht0 : xAI (.i .i64) (0, (0, 0)) (i : Int) ts = ((ch (s1 x.2.2) x dr m).1, ((ch (s1 x.2.2) x dr m).2, nx x dr (pn xCn x (ch (s1 x.2.2) x dr m)))) := by
   have h0 := ht 0 (by omega);rw [show (i : Int) + ((0 : Nat) : Int) = (i : Int) by omega] at h0;exact h0
  have ht' : ∀ q, q < j -> xAI (.i .i64) (0, (0, 0)) (((i + 1 : Nat) : Int) + (q : Int)) ts = nth (tr s1 xCn (l.drop (i + 1)) (gm m x) (nx x dr (pn xCn x (ch (s1 x.2.2) x dr m)))) z3 q := by
   intro q hq;have h0 := ht (q + 1) (by omega);rw [show (i : Int) + ((q + 1 : Nat) : Int) = ((i + 1 : Nat) : Int) + (q : Int) by omega] at h0;exact h0
  rw [ht0];rw [xXr F hF hs hg0 hm.2 (by omega), xAd];have hq := xFi (xJ8 sp1 hs) hg0 hd;rw [sl] at hk ⊢;generalize hr0 : ch (s1 x.2.2) x d m = r at hq hk ⊢;generalize ch (s1 x.2.2) x dr m = rr at hk ht' ⊢;have hn := xIS (xJ8 sp1 hs) hg0 hd (n := pn xBr x r) (by rw [hr0]; exact xHH xBr x hq.2.1);rw [show xBA F (i : Int) r.1 r.2 xBr l = some (pn xBr x r, xBr) from xDC F hi hx, xAd];have hw : 0 <= nx x d (pn xBr x r) /\ nx x d (pn xBr x r) <= 1000000000000000 := ⟨hn.2.1, by omega⟩;rcases xYF hs with k1 | k1 | k1 | k1
  ·obtain ⟨b1, b2, b3, b4⟩ := q1 k1;rw [if_pos k1, List.length_cons] at hk;rw [if_pos k1];simp only [b1, b2, b3, b4, cond_true, cond_false];rw [xAq F (stM hs) hm, xAd, show inB (kk : Int) (sls.length - 0) = true from xDZ (by omega), xMA (by omega) hw, wI i hi hl, w64 ((kk : Int) + 1) (by omega), Int.toNat_natCast];exact xOr l hl a f e ts j k (i + 1) _ _ _ _ (sls.set kk (xPi (nth sls zF kk) (r.1, rr.2))) (kk + 1) (by omega) (by omega) hr' ⟨hg0, hg1⟩ hn.2.1 (by omega) ht' (by rw [List.length_set]; omega) (by rw [List.length_set]; omega)
  ·obtain ⟨b1, b2, b3, b4⟩ := q2 k1;rw [if_neg (by omega)] at hk;rw [if_neg (show ¬ x.1 = 1 by omega)];simp only [b1, b2, b3, b4, cond_true, cond_false];rw [xAq F (stM hs) hm, xAd, xMB (by omega) hw, wI i hi hl];exact xOr l hl a f e ts j k (i + 1) _ _ _ _ sls kk (by omega) (by omega) hr' ⟨hg0, hg1⟩ hn.2.1 (by omega) ht' hk hk2
  ·obtain ⟨b1, b2, b3, b4⟩ := q3 k1;rw [if_neg (by omega)] at hk;rw [if_neg (show ¬ x.1 = 1 by omega)];simp only [b1, b2, b3, b4, cond_true, cond_false];rw [xAq F (stM hs) hm, xAd, xMB (by omega) hw, wI i hi hl];exact xOr l hl a f e ts j k (i + 1) _ _ _ _ sls kk (by omega) (by omega) hr' ⟨hg0, hg1⟩ hn.2.1 (by omega) ht' hk hk2
  ·obtain ⟨b1, b2, b3, b4⟩ := q4 k1;rw [if_neg (by omega)] at hk;rw [if_neg (show ¬ x.1 = 1 by omega)];simp only [b1, b2, b3, b4, cond_true, cond_false];rw [xAq F (stM hs) hm, xAd, xMA (by omega) hw, wI i hi hl];exact xOr l hl a f e ts j k (i + 1) _ _ _ _ sls kk (by omega) (by omega) hr' ⟨hg0, hg1⟩ hn.2.1 (by omega) ht' hk hk2
theorem fil1 (l : List Tst) (hl : l.length <= 200) (a : Tfr) (hm : 0 <= a.1 /\ a.1 <= 1000000000) (ha : okR (s1 a.2) 1000000000000) (hr : run l a.1) (R : Tfr × (Tb × (Tb × Tb))) (sls : List Tfr) (hk : (sl s1 l a.1 (s1 a.2).1 (s1 a.2).2).length <= sls.length) (hk2 : sls.length <= 200) : ∃ R', xJI F a l R sls = some (R', xCQ xPi sls 0 (sl s1 l a.1 (s1 a.2).1 (s1 a.2).2)) /\ R'.1 = R.1.1 := by
 obtain ⟨h1, h2, h3⟩ := id ha;unfold xJI;have h0 := fun R0 => fil1_a F hF l hl xCn R0 sls (a.1, (a.2.1.1, (a.2.1.2, (a.2.2.1.1, (a.2.2.1.2, a.2.2.2))))) (a.1, (a.2.1.1, (a.2.1.2, (a.2.2.1.1, (a.2.2.1.2, a.2.2.2))))) (s1 a.2).2 l.length F 0 (s1 a.2).2 a.1 [] (by omega) (by omega) hr hm (by omega) (by omega);obtain ⟨ts, e1, e2, _⟩ := h0 _;obtain ⟨R1, kk, e3, e8⟩ := xOr F hF l hl (a.1, (a.2.1.1, (a.2.1.2, (a.2.2.1.1, (a.2.2.1.2, a.2.2.2))))) (a.1, (a.2.1.1, (a.2.1.2, (a.2.2.1.1, (a.2.2.1.2, a.2.2.2))))) (s1 a.2).1 ts l.length F 0 (s1 a.2).1 (s1 a.2).2 a.1 _ sls 0 (by omega) (by omega) hr hm h1 (by omega) e2 (by rw [List.drop_zero]; omega) hk2;obtain ⟨t1, e4⟩ := tot1 F hF l hl a hm ha hr (false, (false, true));obtain ⟨t2, e5⟩ := tot1 F hF l hl a hm ha hr (true, (true, false));obtain ⟨t3, e6⟩ := tot1 F hF l hl a hm ha hr (false, (true, false));obtain ⟨t4, e7⟩ := tot1 F hF l hl a hm ha hr (true, (false, true));exact ⟨_, xAc e1 (xAc e3 (xAc e4 (xAc e5 (xAc e6 (xAc e7 rfl))))), e8⟩
end
end M3
namespace M3
open Go.RowKit U8
section
variable (F : Nat) (hF : 2000 < F)
include hF
theorem xDc (l : List Tst) (hl : l.length <= 200) (c : Tco) : ∀ (j k i : Nat) (d m so go dd e : Int) (a f : Int × (Int × (Int × (Int × (Int × (Int × Int)))))), i + j = l.length -> j < k -> run (l.drop i) m -> 0 <= m /\ m <= 1000000000 -> 0 <= d -> d + 1000000000000 * j <= 400000000000000 -> ∃ t, xAx F k ((d, m, ((l.length - 0) : Int), (i : Int)), (l, a, so, go, dd, e, f, c)) = some t
 | j, 0, _, _, _, _, _, _, _, _, _, _, h, _, _, _, _ => by omega
 | 0, k + 1, i, d, m, so, go, dd, e, a, f, h, _, _, _, _, _ => by
  simp only [xAx];rw [xAH (show ¬ (i : Int) < (l.length - 0 : Int) by omega)];exact ⟨_, rfl⟩
 | j + 1, k + 1, i, d, m, so, go, dd, e, a, f, h, hj, hr, hm, hd, hD => by
  have hi : i < l.length := by omega
  have hx : nth l zS i = nth l zS i := rfl;rw [xCZ hi zS] at hr;simp only [xAx];rw [xAQ (show (i : Int) < (l.length - 0 : Int) by omega), show inB (i : Int) (l.length - 0) = true from xDZ hi, Int.toNat_natCast];generalize hx : nth l zS i = x at hr ⊢;obtain ⟨hs, hg0, hg1, hr'⟩ := hr;simp only [cond_true];rw [xXq F hF hs hg0 hm.2 (by omega), xAd];have hq := xFi (xJ8 sp2 hs) hg0 hd;generalize hr0 : ch (s2 x.2.2) x d m = r at hq ⊢;have hn := xIS (xJ8 sp2 hs) hg0 hd (n := pn c x r) (by rw [hr0]; exact xHH c x hq.2.1);rw [show xBA F (i : Int) r.1 r.2 c l = some (pn c x r, c) from xDC F hi hx, xAd];have hw : 0 <= nx x d (pn c x r) /\ nx x d (pn c x r) <= 1000000000000000 := ⟨hn.2.1, by omega⟩;rcases xYF hs with k1 | k1 | k1 | k1
  ·obtain ⟨b1, b2, b3, b4⟩ := q1 k1;simp only [b1, b2, b3, b4, cond_true, cond_false];rw [xAq F (stM hs) hm, xAd, xMA (by omega) hw, wI i hi hl];exact xDc l hl c j k (i + 1) _ _ _ _ _ _ _ _ (by omega) (by omega) hr' ⟨hg0, hg1⟩ hn.2.1 (by omega)
  ·obtain ⟨b1, b2, b3, b4⟩ := q2 k1;simp only [b1, b2, b3, b4, cond_true, cond_false];rw [xAq F (stM hs) hm, xAd, xMB (by omega) hw, wI i hi hl];exact xDc l hl c j k (i + 1) _ _ _ _ _ _ _ _ (by omega) (by omega) hr' ⟨hg0, hg1⟩ hn.2.1 (by omega)
  ·obtain ⟨b1, b2, b3, b4⟩ := q3 k1;simp only [b1, b2, b3, b4, cond_true, cond_false];rw [xAq F (stM hs) hm, xAd, xMB (by omega) hw, wI i hi hl];exact xDc l hl c j k (i + 1) _ _ _ _ _ _ _ _ (by omega) (by omega) hr' ⟨hg0, hg1⟩ hn.2.1 (by omega)
  ·obtain ⟨b1, b2, b3, b4⟩ := q4 k1;simp only [b1, b2, b3, b4, cond_true, cond_false];rw [xAq F (stM hs) hm, xAd, xMA (by omega) hw, wI i hi hl];exact xDc l hl c j k (i + 1) _ _ _ _ _ _ _ _ (by omega) (by omega) hr' ⟨hg0, hg1⟩ hn.2.1 (by omega)
theorem tot2 (l : List Tst) (hl : l.length <= 200) (a : Tfr) (hm : 0 <= a.1 /\ a.1 <= 1000000000) (ha : okR (s2 a.2) 1000000000000) (hr : run l a.1) (c : Tco) : ∃ t, xCR F a c l = some t := by
 obtain ⟨c0, c1⟩ := c;obtain ⟨h1, h2, h3⟩ := ha;unfold xCR;cases c0
 ·obtain ⟨t, h⟩ := xDc F hF l hl (false, c1) l.length F 0 (s2 a.2).1 a.1 0 0 (s2 a.2).1 (s2 a.2).1 (a.1, (a.2.1.1, (a.2.1.2, (a.2.2.1.1, (a.2.2.1.2, a.2.2.2))))) (a.1, (a.2.1.1, (a.2.1.2, (a.2.2.1.1, (a.2.2.1.2, a.2.2.2))))) (by omega) (by omega) hr hm h1 (by omega);exact ⟨_, xAc rfl (xAc h rfl)⟩
 ·obtain ⟨t, h⟩ := xDc F hF l hl (true, c1) l.length F 0 (s2 a.2).2 a.1 0 0 (s2 a.2).2 (s2 a.2).2 (a.1, (a.2.1.1, (a.2.1.2, (a.2.2.1.1, (a.2.2.1.2, a.2.2.2))))) (a.1, (a.2.1.1, (a.2.1.2, (a.2.2.1.1, (a.2.2.1.2, a.2.2.2))))) (by omega) (by omega) hr hm (by omega) (by omega);exact ⟨_, xAc rfl (xAc h rfl)⟩
theorem fil2_a (l : List Tst) (hl : l.length <= 200) (c : Tco) (R : (Int × T_2)) (sls : List Tfr) (a f : Int × (Int × (Int × (Int × (Int × (Int × Int)))))) (e : Int) : ∀ (j k i : Nat) (d m : Int) (ts : List (Int × Tc3)), i + j = l.length -> j < k -> run (l.drop i) m -> 0 <= m /\ m <= 1000000000 -> 0 <= d -> d + 1000000000000 * j <= 400000000000000 -> ∃ ts', xBf F k ((d, m, ((l.length - 0) : Int), (i : Int)), (l, R, sls, a, ts, e, f, c)) = some (l, R, sls, a, ts', e, f, c) /\ (∀ q, q < j -> xAI (.i .i64) (0, (0, 0)) ((i : Int) + (q : Int)) ts' = nth (tr s2 c (l.drop i) m d) z3 q) /\ (∀ w : Int, w < i -> xAI (.i .i64) (0, (0, 0)) w ts' = xAI (.i .i64) (0, (0, 0)) w ts)
 | j, 0, _, _, _, _, _, h, _, _, _, _ => by omega
 | 0, k + 1, i, d, m, ts, h, _, _, _, _, _ => by
  simp only [xBf];rw [xAH (show ¬ (i : Int) < (l.length - 0 : Int) by omega)];exact ⟨_, rfl, fun q hq => absurd hq (by omega), fun _ _ => rfl⟩
 | j + 1, k + 1, i, d, m, ts, h, hj, hr, hm, hd, hD => by
  have hi : i < l.length := by omega
  rw [xCZ hi zS] at hr ⊢;simp only [xBf];rw [xAQ (show (i : Int) < (l.length - 0 : Int) by omega), show inB (i : Int) (l.length - 0) = true from xDZ hi, Int.toNat_natCast];generalize hx : nth l zS i = x at hr ⊢;obtain ⟨hs, hg0, hg1, hr'⟩ := hr;simp only [cond_true];rw [xXq F hF hs hg0 hm.2 (by omega), xAd];have hq := xFi (xJ8 sp2 hs) hg0 hd;rw [tr];generalize hr0 : ch (s2 x.2.2) x d m = r at hq ⊢;have hn := xIS (xJ8 sp2 hs) hg0 hd (n := pn c x r) (by rw [hr0]; exact xHH c x hq.2.1);rw [show xBA F (i : Int) r.1 r.2 c l = some (pn c x r, c) from xDC F hi hx, xAd];have hw : 0 <= nx x d (pn c x r) /\ nx x d (pn c x r) <= 1000000000000000 := ⟨hn.2.1, by omega⟩;obtain ⟨ts', e1, e2, e3⟩ := fil2_a l hl c R sls a f e j k (i + 1) (nx x d (pn c x r)) (gm m x) (xF2 (.i .i64) (i : Int) (r.1, (r.2, nx x d (pn c x r))) ts) (by omega) (by omega) hr' ⟨hg0, hg1⟩ hn.2.1 (by omega);refine ⟨ts', ?_, fun q hq' => ?_, fun w hw' => ?_⟩;rotate_left
  ·cases q with
   | zero =>
    rw [show (i : Int) + ((0 : Nat) : Int) = (i : Int) by omega, e3 _ (by omega), xMh];rfl
   | succ q =>
    rw [show (i : Int) + ((q + 1 : Nat) : Int) = ((i + 1 : Nat) : Int) + (q : Int) by omega, e2 q (by omega)];rfl
  ·rw [e3 w (by omega), xFb _ (by omega)]
  rcases xYF hs with k1 | k1 | k1 | k1
  ·obtain ⟨b1, b2, b3, b4⟩ := q1 k1;simp only [b1, b2, b3, b4, cond_true, cond_false];rw [xAq F (stM hs) hm, xAd, xMA (by omega) hw, wI i hi hl];exact e1
  ·obtain ⟨b1, b2, b3, b4⟩ := q2 k1;simp only [b1, b2, b3, b4, cond_true, cond_false];rw [xAq F (stM hs) hm, xAd, xMB (by omega) hw, wI i hi hl];exact e1
  ·obtain ⟨b1, b2, b3, b4⟩ := q3 k1;simp only [b1, b2, b3, b4, cond_true, cond_false];rw [xAq F (stM hs) hm, xAd, xMB (by omega) hw, wI i hi hl];exact e1
  ·obtain ⟨b1, b2, b3, b4⟩ := q4 k1;simp only [b1, b2, b3, b4, cond_true, cond_false];rw [xAq F (stM hs) hm, xAd, xMA (by omega) hw, wI i hi hl];exact e1
theorem xOq (l : List Tst) (hl : l.length <= 200) (a f : Int × (Int × (Int × (Int × (Int × (Int × Int)))))) (e : Int) (ts : List (Int × Tc3)) : ∀ (j k i : Nat) (d dr m : Int) (R : (Int × T_2)) (sls : List Tfr) (kk : Nat), i + j = l.length -> j < k -> run (l.drop i) m -> 0 <= m /\ m <= 1000000000 -> 0 <= d -> d + 1000000000000 * j <= 400000000000000 -> (∀ q, q < j -> xAI (.i .i64) (0, (0, 0)) ((i : Int) + (q : Int)) ts = nth (tr s2 xCn (l.drop i) m dr) z3 q) -> kk + (sl s2 (l.drop i) m d dr).length <= sls.length -> sls.length <= 200 -> ∃ R' kk', xAr F k ((d, m, ((l.length - 0) : Int), (i : Int)), (l, R, sls, a, (kk : Int), ts, e, f, xBr)) = some (l, R', xCQ xTk sls kk (sl s2 (l.drop i) m d dr), a, kk', ts, e, f, xBr) /\ R'.1 = R.1
 | j, 0, _, _, _, _, _, _, _, h, _, _, _, _, _, _, _, _ => by omega
 | 0, k + 1, i, d, dr, m, R, sls, kk, h, _, _, _, _, _, _, _, _ => by
  simp only [xAr, nS, nI, g6, n3];rw [xAH (show ¬ (i : Int) < (l.length - 0 : Int) by omega), List.drop_eq_nil_of_le (by omega)];exact ⟨_, _, rfl, rfl⟩
 | j + 1, k + 1, i, d, dr, m, R, sls, kk, h, hj, hr, hm, hd, hD, ht, hk, hk2 => by
  have hi : i < l.length := by omega
  rw [xCZ hi zS] at hr hk ht ⊢;simp only [xAr, nS, nI, g6, n3];rw [xAQ (show (i : Int) < (l.length - 0 : Int) by omega), show inB (i : Int) (l.length - 0) = true from xDZ hi, Int.toNat_natCast];generalize hx : nth l zS i = x at hr hk ht ⊢;obtain ⟨hs, hg0, hg1, hr'⟩ := hr;simp only [cond_true];have ht0 : xAI (.i .i64) (0, (0, 0)) (i : Int) ts = ((ch (s2 x.2.2) x dr m).1, ((ch (s2 x.2.2) x dr m).2, nx x dr (pn xCn x (ch (s2 x.2.2) x dr m)))) := by
   have h0 := ht 0 (by omega);rw [show (i : Int) + ((0 : Nat) : Int) = (i : Int) by omega] at h0;exact h0
  have ht' : ∀ q, q < j -> xAI (.i .i64) (0, (0, 0)) (((i + 1 : Nat) : Int) + (q : Int)) ts = nth (tr s2 xCn (l.drop (i + 1)) (gm m x) (nx x dr (pn xCn x (ch (s2 x.2.2) x dr m)))) z3 q := by
   intro q hq;have h0 := ht (q + 1) (by omega);rw [show (i : Int) + ((q + 1 : Nat) : Int) = ((i + 1 : Nat) : Int) + (q : Int) by omega] at h0;exact h0
  rw [ht0];rw [xXq F hF hs hg0 hm.2 (by omega), xAd];have hq := xFi (xJ8 sp2 hs) hg0 hd;rw [sl] at hk ⊢;generalize hr0 : ch (s2 x.2.2) x d m = r at hq hk ⊢;generalize ch (s2 x.2.2) x dr m = rr at hk ht' ⊢;have hn := xIS (xJ8 sp2 hs) hg0 hd (n := pn xBr x r) (by rw [hr0]; exact xHH xBr x hq.2.1);rw [show xBA F (i : Int) r.1 r.2 xBr l = some (pn xBr x r, xBr) from xDC F hi hx, xAd];have hw : 0 <= nx x d (pn xBr x r) /\ nx x d (pn xBr x r) <= 1000000000000000 := ⟨hn.2.1, by omega⟩;rcases xYF hs with k1 | k1 | k1 | k1
  ·obtain ⟨b1, b2, b3, b4⟩ := q1 k1;rw [if_pos k1, List.length_cons] at hk;rw [if_pos k1];simp only [b1, b2, b3, b4, cond_true, cond_false];rw [xAq F (stM hs) hm, xAd, show inB (kk : Int) (sls.length - 0) = true from xDZ (by omega), xMA (by omega) hw, wI i hi hl, w64 ((kk : Int) + 1) (by omega), Int.toNat_natCast];exact xOq l hl a f e ts j k (i + 1) _ _ _ _ (sls.set kk (xTk (nth sls zF kk) (r.1, rr.2))) (kk + 1) (by omega) (by omega) hr' ⟨hg0, hg1⟩ hn.2.1 (by omega) ht' (by rw [List.length_set]; omega) (by rw [List.length_set]; omega)
  ·obtain ⟨b1, b2, b3, b4⟩ := q2 k1;rw [if_neg (by omega)] at hk;rw [if_neg (show ¬ x.1 = 1 by omega)];simp only [b1, b2, b3, b4, cond_true, cond_false];rw [xAq F (stM hs) hm, xAd, xMB (by omega) hw, wI i hi hl];exact xOq l hl a f e ts j k (i + 1) _ _ _ _ sls kk (by omega) (by omega) hr' ⟨hg0, hg1⟩ hn.2.1 (by omega) ht' hk hk2
  ·obtain ⟨b1, b2, b3, b4⟩ := q3 k1;rw [if_neg (by omega)] at hk;rw [if_neg (show ¬ x.1 = 1 by omega)];simp only [b1, b2, b3, b4, cond_true, cond_false];rw [xAq F (stM hs) hm, xAd, xMB (by omega) hw, wI i hi hl];exact xOq l hl a f e ts j k (i + 1) _ _ _ _ sls kk (by omega) (by omega) hr' ⟨hg0, hg1⟩ hn.2.1 (by omega) ht' hk hk2
  ·obtain ⟨b1, b2, b3, b4⟩ := q4 k1;rw [if_neg (by omega)] at hk;rw [if_neg (show ¬ x.1 = 1 by omega)];simp only [b1, b2, b3, b4, cond_true, cond_false];rw [xAq F (stM hs) hm, xAd, xMA (by omega) hw, wI i hi hl];exact xOq l hl a f e ts j k (i + 1) _ _ _ _ sls kk (by omega) (by omega) hr' ⟨hg0, hg1⟩ hn.2.1 (by omega) ht' hk hk2
theorem fil2 (l : List Tst) (hl : l.length <= 200) (a : Tfr) (hm : 0 <= a.1 /\ a.1 <= 1000000000) (ha : okR (s2 a.2) 1000000000000) (hr : run l a.1) (R : Tfr × (Tb × (Tb × Tb))) (sls : List Tfr) (hk : (sl s2 l a.1 (s2 a.2).1 (s2 a.2).2).length <= sls.length) (hk2 : sls.length <= 200) : ∃ R', xJE F a l R sls = some (R', xCQ xTk sls 0 (sl s2 l a.1 (s2 a.2).1 (s2 a.2).2)) /\ R'.1 = R.1.1 := by
 obtain ⟨h1, h2, h3⟩ := id ha;unfold xJE;have h0 := fun R0 => fil2_a F hF l hl xCn R0 sls (a.1, (a.2.1.1, (a.2.1.2, (a.2.2.1.1, (a.2.2.1.2, a.2.2.2))))) (a.1, (a.2.1.1, (a.2.1.2, (a.2.2.1.1, (a.2.2.1.2, a.2.2.2))))) (s2 a.2).2 l.length F 0 (s2 a.2).2 a.1 [] (by omega) (by omega) hr hm (by omega) (by omega);obtain ⟨ts, e1, e2, _⟩ := h0 _;obtain ⟨R1, kk, e3, e8⟩ := xOq F hF l hl (a.1, (a.2.1.1, (a.2.1.2, (a.2.2.1.1, (a.2.2.1.2, a.2.2.2))))) (a.1, (a.2.1.1, (a.2.1.2, (a.2.2.1.1, (a.2.2.1.2, a.2.2.2))))) (s2 a.2).1 ts l.length F 0 (s2 a.2).1 (s2 a.2).2 a.1 _ sls 0 (by omega) (by omega) hr hm h1 (by omega) e2 (by rw [List.drop_zero]; omega) hk2;obtain ⟨t1, e4⟩ := tot2 F hF l hl a hm ha hr (false, (false, true));obtain ⟨t2, e5⟩ := tot2 F hF l hl a hm ha hr (true, (true, false));obtain ⟨t3, e6⟩ := tot2 F hF l hl a hm ha hr (false, (true, false));obtain ⟨t4, e7⟩ := tot2 F hF l hl a hm ha hr (true, (false, true));exact ⟨_, xAc e1 (xAc e3 (xAc e4 (xAc e5 (xAc e6 (xAc e7 rfl))))), e8⟩
end
end M3
namespace M3
open Go.RowKit U8
abbrev RT := Int × T_2
def zB : Tb := ((0, 0), ((0, 0), (0, 0)))
theorem xQG : ∀ (l : List Tst) (m : Int), run l m -> 0 <= m /\ m <= 1000000000 -> 0 <= l.foldl gm m /\ l.foldl gm m <= 1000000000
 | [], _, _, h => h
 | x :: l, m, hr, _ => xQG l (gm m x) hr.2.2.2 ⟨hr.2.1, hr.2.2.1⟩
def okC (r : Tr) : Prop := 0 <= r.1 /\ r.1 <= r.2 /\ r.2 <= 201000000000000
def fr0 : List Tst -> List Tfr
 | [] => []
 | x :: l => if x.1 = 1 then (x.2.1, zB) :: fr0 l else fr0 l
theorem xJy (b : Tb -> Tr) : ∀ (l : List Tst) (m dp dr : Int), (sl b l m dp dr).length = (fr0 l).length
 | [], _, _, _ => rfl
 | x :: l, m, dp, dr => by
  rw [sl, fr0];split
  ·rw [List.length_cons, List.length_cons, xJy b l]
  ·exact xJy b l _ _ _
theorem xOe : ∀ l : List Tst, (fr0 l).length <= l.length
 | [] => Nat.le_refl _
 | x :: l => by
  have ih := xOe l;rw [fr0];split <;> simp only [List.length_cons] <;> omega
theorem xRI : ∀ (l : List Tst) (m : Int), run l m -> ∀ f, f ∈ fr0 l -> 1 <= f.1 /\ f.1 <= 1000000000
 | [], _, _ => fun f h => by cases h
 | x :: l, m, hr => by
  obtain ⟨hs, _, _, hr'⟩ := hr;have ih := xRI l _ hr';rw [fr0];split
  ·rename_i k1;intro f hf;rcases List.mem_cons.1 hf with e | e
   ·rw [e];rcases hs with ⟨_, h, _⟩ | ⟨k, _⟩ | ⟨k, _⟩ | ⟨k, _⟩
    ·exact h
    ·omega
    ·omega
    ·omega
   ·exact ih f e
  ·exact ih
theorem ob_exq {α β : Type} {x : Option α} {f : α -> Option β} {Q : Option β -> Prop} {y : α} (h : x = some y) (h2 : Q (f y)) : Q (ob x f) := by rw [h]; exact h2
theorem xUW {α β ι : Type} {x : Option α} {f : α -> Option β} {Q : Option β -> Prop} {P : ι -> Prop} (g : ι -> α) (h : ∃ n, x = some (g n) /\ P n) (h2 : ∀ n, P n -> Q (f (g n))) : Q (ob x f) := by
 obtain ⟨n, h4, h5⟩ := h;rw [h4];exact h2 n h5
theorem nth_in {α : Type} {l : List α} {i : Nat} (h : i < l.length) (d : α) : nth l d i ∈ l := by
 rw [<- xND l d i h]; exact List.getElem_mem h
section
variable (F : Nat)
theorem preL (l : List Tst) (hl : l.length <= 200) (m1 : Tfr) : ∀ (j k i : Nat) (r : Int × (Int × (Int × (Int × (Int × (Int × Int)))))) (acc : List Tfr), i + j = l.length -> j < k -> run (l.drop i) r.1 -> 0 <= r.1 /\ r.1 <= 1000000000 -> acc.length <= i -> ∃ r', xBM F ((l.length - 0) : Int) l m1 k (i : Int) r acc = some (l, (m1, ((r', r.2), acc ++ fr0 (l.drop i)))) /\ r' = (l.drop i).foldl gm r.1
 | j, 0, _, _, _, _, h, _, _, _ => by omega
 | 0, k + 1, i, r, acc, h, _, _, _, _ => by
  simp only [xBM];rw [xAH (show ¬ (i : Int) < (l.length - 0 : Int) by omega), List.drop_eq_nil_of_le (show l.length <= i by omega), fr0, List.append_nil];exact ⟨_, rfl, rfl⟩
 | j + 1, k + 1, i, r, acc, h, hj, hr, hm, ha => by
  have hi : i < l.length := by omega
  rw [xCZ hi zS] at hr ⊢;simp only [xBM];rw [xAQ (show (i : Int) < (l.length - 0 : Int) by omega), show inB (i : Int) (l.length - 0) = true from xDZ hi, Int.toNat_natCast, wI i hi hl];generalize nth l zS i = x at hr ⊢;obtain ⟨hs, hg0, hg1, hr'⟩ := hr;have hlen : ∀ c : Tfr, (xA8 (acc.length - 0) (c :: []).length) = true := by
   intro c;show xA8 _ _ = true;unfold xA8;rw [xAQ (by simp only [List.length_cons, List.length_nil]; omega)]
  rw [hlen, xAq F (stM hs) hm, xAd, xAd, fr0];by_cases k1 : x.1 = 1
  ·rw [if_pos k1, bq k1];obtain ⟨r', e, e'⟩ := preL l hl m1 j k (i + 1) (gm r.1 x, r.2) (acc ++ ((x.2.1, zB) :: [])) (by omega) (by omega) hr' ⟨hg0, hg1⟩ (by simp only [List.length_append, List.length_cons, List.length_nil]; omega);rw [List.append_assoc] at e;exact ⟨r', e, e'⟩
  ·rw [if_neg k1, bn k1];exact preL l hl m1 j k (i + 1) (gm r.1 x, r.2) acc (by omega) (by omega) hr' ⟨hg0, hg1⟩ (by omega)
variable (hF : 2000 < F)
include hF
theorem xPj (m : Tfr) (l : List Tst) (hc : xAJ F m l = some 0) (hl : l.length <= 200) (hm : 0 <= m.1 /\ m.1 <= 1000000000) (hB : okB m.2 1000000000000) (hr : run l m.1) : ∃ (R : RT) (sls : List Tfr), xAX F m l = some ((R, 0), sls) /\ (0 <= R.1 /\ R.1 <= 1000000000) /\ sls.length = (fr0 l).length /\ ∀ i : Nat, i < sls.length -> (1 <= (nth sls zF i).1 /\ (nth sls zF i).1 <= 1000000000) /\ okC (nth sls zF i).2.1 /\ okC (nth sls zF i).2.2.1 /\ okC (nth sls zF i).2.2.2 := by
 obtain ⟨r', e0, er⟩ := preL F l hl m l.length F 0 (m.1, (m.2.1.1, (m.2.1.2, (m.2.2.1.1, (m.2.2.1.2, m.2.2.2))))) [] (by omega) (by omega) hr hm (Nat.le_refl _);have n0 := xJy s0 l m.1 (s0 m.2).1 (s0 m.2).2;have n1 := xJy s1 l m.1 (s1 m.2).1 (s1 m.2).2;have n2 := xJy s2 l m.1 (s2 m.2).1 (s2 m.2).2;have nl := xOe l;have f0 := fun R => fil0 F hF l hl m hm hB.1 hr R (fr0 l) (by omega) (by omega);have p0 := xHX xMC (sl s0 l m.1 (s0 m.2).1 (s0 m.2).2) (fr0 l) 0;have f1 := fun R => fil1 F hF l hl m hm hB.2.1 hr R (xCQ xMC (fr0 l) 0 (sl s0 l m.1 (s0 m.2).1 (s0 m.2).2)) (by omega) (by omega);have p1 := xHX xPi (sl s1 l m.1 (s1 m.2).1 (s1 m.2).2) (xCQ xMC (fr0 l) 0 (sl s0 l m.1 (s0 m.2).1 (s0 m.2).2)) 0;have f2 := fun R => fil2 F hF l hl m hm hB.2.2 hr R (xCQ xPi (xCQ xMC (fr0 l) 0 (sl s0 l m.1 (s0 m.2).1 (s0 m.2).2)) 0 (sl s1 l m.1 (s1 m.2).1 (s1 m.2).2)) (by omega) (by omega);have p2 := xHX xTk (sl s2 l m.1 (s2 m.2).1 (s2 m.2).2) (xCQ xPi (xCQ xMC (fr0 l) 0 (sl s0 l m.1 (s0 m.2).1 (s0 m.2).2)) 0 (sl s1 l m.1 (s1 m.2).1 (s1 m.2).2)) 0;have key : ∃ R : RT, xAX F m l = some ((R, 0), xCQ xTk (xCQ xPi (xCQ xMC (fr0 l) 0 (sl s0 l m.1 (s0 m.2).1 (s0 m.2).2)) 0 (sl s1 l m.1 (s1 m.2).1 (s1 m.2).2)) 0 (sl s2 l m.1 (s2 m.2).1 (s2 m.2).2)) /\ R.1 = l.foldl gm m.1 := by
  unfold xAX;refine ob_exq (Q := fun o => ∃ R : RT, o = some ((R, 0), xCQ xTk (xCQ xPi (xCQ xMC (fr0 l) 0 (sl s0 l m.1 (s0 m.2).1 (s0 m.2).2)) 0 (sl s1 l m.1 (s1 m.2).1 (s1 m.2).2)) 0 (sl s2 l m.1 (s2 m.2).1 (s2 m.2).2)) /\ R.1 = l.foldl gm m.1) hc ?_;rw [show ((0 : Int) != 0) = false from rfl, cond_false];refine ob_exq (Q := fun o => ∃ R : RT, o = some ((R, 0), xCQ xTk (xCQ xPi (xCQ xMC (fr0 l) 0 (sl s0 l m.1 (s0 m.2).1 (s0 m.2).2)) 0 (sl s1 l m.1 (s1 m.2).1 (s1 m.2).2)) 0 (sl s2 l m.1 (s2 m.2).1 (s2 m.2).2)) /\ R.1 = l.foldl gm m.1) e0 ?_;refine xUW (Q := fun o => ∃ R : RT, o = some ((R, 0), xCQ xTk (xCQ xPi (xCQ xMC (fr0 l) 0 (sl s0 l m.1 (s0 m.2).1 (s0 m.2).2)) 0 (sl s1 l m.1 (s1 m.2).1 (s1 m.2).2)) 0 (sl s2 l m.1 (s2 m.2).1 (s2 m.2).2)) /\ R.1 = l.foldl gm m.1) (fun R' => (R', _)) (f0 _) (fun R0 g0 => ?_);refine xUW (Q := fun o => ∃ R : RT, o = some ((R, 0), xCQ xTk (xCQ xPi (xCQ xMC (fr0 l) 0 (sl s0 l m.1 (s0 m.2).1 (s0 m.2).2)) 0 (sl s1 l m.1 (s1 m.2).1 (s1 m.2).2)) 0 (sl s2 l m.1 (s2 m.2).1 (s2 m.2).2)) /\ R.1 = l.foldl gm m.1) (fun R' => (R', _)) (f1 _) (fun R1 g1 => ?_);refine xUW (Q := fun o => ∃ R : RT, o = some ((R, 0), xCQ xTk (xCQ xPi (xCQ xMC (fr0 l) 0 (sl s0 l m.1 (s0 m.2).1 (s0 m.2).2)) 0 (sl s1 l m.1 (s1 m.2).1 (s1 m.2).2)) 0 (sl s2 l m.1 (s2 m.2).1 (s2 m.2).2)) /\ R.1 = l.foldl gm m.1) (fun R' => (R', _)) (f2 _) (fun R2 g2 => ?_);exact ⟨_, rfl, g2.trans (g1.trans (g0.trans er))⟩
 obtain ⟨R, key, kr⟩ := key;refine ⟨R, xCQ xTk (xCQ xPi (xCQ xMC (fr0 l) 0 (sl s0 l m.1 (s0 m.2).1 (s0 m.2).2)) 0 (sl s1 l m.1 (s1 m.2).1 (s1 m.2).2)) 0 (sl s2 l m.1 (s2 m.2).1 (s2 m.2).2), ?_, by rw [kr]; exact xQG l m.1 hr hm, by omega, fun i h => ?_⟩;rotate_left
 ·have a2 := xHW xTk (sl s2 l m.1 (s2 m.2).1 (s2 m.2).2) (xCQ xPi (xCQ xMC (fr0 l) 0 (sl s0 l m.1 (s0 m.2).1 (s0 m.2).2)) 0 (sl s1 l m.1 (s1 m.2).1 (s1 m.2).2)) 0 i (by omega) (by omega);have a1 := xHW xPi (sl s1 l m.1 (s1 m.2).1 (s1 m.2).2) (xCQ xMC (fr0 l) 0 (sl s0 l m.1 (s0 m.2).1 (s0 m.2).2)) 0 i (by omega) (by omega);have a0 := xHW xMC (sl s0 l m.1 (s0 m.2).1 (s0 m.2).2) (fr0 l) 0 i (by omega) (by omega);rw [Nat.zero_add] at a0 a1 a2;rw [a2, a1, a0];have hx : (l.length : Int) <= 200 := by omega
  have g0 := xYL sp0 l m.1 (s0 m.2).1 (s0 m.2).2 hr hB.1.1 hB.1.2.1 _ (List.getElem_mem (show i < (sl s0 l m.1 (s0 m.2).1 (s0 m.2).2).length by omega));have g1 := xYL sp1 l m.1 (s1 m.2).1 (s1 m.2).2 hr hB.2.1.1 hB.2.1.2.1 _ (List.getElem_mem (show i < (sl s1 l m.1 (s1 m.2).1 (s1 m.2).2).length by omega));have g2 := xYL sp2 l m.1 (s2 m.2).1 (s2 m.2).2 hr hB.2.2.1 hB.2.2.2.1 _ (List.getElem_mem (show i < (sl s2 l m.1 (s2 m.2).1 (s2 m.2).2).length by omega));have k0 : (s0 m.2).2 <= 1000000000000 := hB.1.2.2;have k1 : (s1 m.2).2 <= 1000000000000 := hB.2.1.2.2;have k2 : (s2 m.2).2 <= 1000000000000 := hB.2.2.2.2;exact ⟨xRI l m.1 hr (nth (fr0 l) zF i) (nth_in (by omega) _), ⟨g0.1, g0.2.1, Int.le_trans g0.2.2 (by omega)⟩, ⟨g1.1, g1.2.1, Int.le_trans g1.2.2 (by omega)⟩, ⟨g2.1, g2.2.1, Int.le_trans g2.2.2 (by omega)⟩⟩
 ·exact key
end
end M3
end Go.Proofs.YtnomnijhlbalaaaGreatDoor
