/- Plain laws: the course that the statement makes is a true one. No condition. -/
import Derived.Test.YtcbbhiobibhdnaaDoorWXM8
import Derived.Test.YtcbbhiobibhdnaaDoorWV4

namespace Go.Proofs.YtcbbhiobibhdnaaDoor
namespace M3
open Go.RowKit U8
set_option maxRecDepth 100000
set_option maxHeartbeats 4000000
theorem ob_ex {α β ι : Type} {x : Option α} {f : α → Option β} {P : ι → Prop} {Q : Option β → Prop} (g : ι → α) (h : ∃ n, P n ∧ x = some (g n)) (h2 : ∀ n, P n → Q (f (g n))) : Q (ob x f) := by
  obtain ⟨n, h3, h4⟩ := h
  rw [h4]
  exact h2 n h3
theorem ob_to {α β : Type} {x : Option α} {f : α → Option β} {Q : Option β → Prop} {y : α} (h : x = some y) (h2 : Q (f y)) : Q (ob x f) := by rw [h]; exact h2
def isT (t : List Int) : Prop := ∀ v, v ∈ t → 0 ≤ v ∧ v ≤ 255
section
variable (F : Nat)
theorem place_eq {t : List Int} (ht : isT t) {i : Int} (hi : 0 ≤ i) : ∃ v, place_S F i t = some v ∧ 0 ≤ v ∧ v ≤ 255 := by
  unfold place_S
  by_cases h : t.length = 0
  · rw [show (((t.length - 0) : Int) == 0) = true from beq_iff_eq.2 (by omega)]
    exact ⟨0, rfl, by omega⟩
  · rw [show (((t.length - 0) : Int) == 0) = false from beq_eq_false_iff_ne.2 (by omega)]
    simp only [cond_false, Bool.not_false, cond_true]
    have h1 : 0 ≤ Int.tmod i ((t.length - 0) : Int) := Int.tmod_nonneg _ hi
    have h2 : Int.tmod i ((t.length - 0) : Int) < ((t.length - 0) : Int) := Int.tmod_lt_of_pos _ (by omega)
    generalize Int.tmod i ((t.length - 0) : Int) = q at h1 h2
    obtain ⟨q, rfl⟩ := Int.eq_ofNat_of_zero_le h1
    rw [show inB (q : Int) (t.length - 0) = true from inB_t (show q < t.length by omega), Int.toNat_natCast]
    refine ⟨_, rfl, ht _ ?_⟩
    rw [← nth_eq t 0 q (by omega)]
    exact List.getElem_mem _
theorem at_eq {r : Tr} {m : Int} (h : okR r m) (hm : m ≤ 1000000000000) {v : Int} (hv : 0 ≤ v ∧ v ≤ 255) : ∃ k, (IntKind.wrap IntKind.i64 (r.1 + (IntKind.wrap IntKind.i64 (Int.tdiv (IntKind.wrap IntKind.i64 ((IntKind.wrap IntKind.i64 (r.2 - r.1)) * (IntKind.wrap IntKind.i64 v))) (255 : Int))))) = k ∧ r.1 ≤ k ∧ k ≤ r.2 := by
  obtain ⟨h1, h2, h3⟩ := h
  have p1 : 0 ≤ (r.2 - r.1) * v := Int.mul_nonneg (by omega) hv.1
  have p2 : (r.2 - r.1) * v ≤ (r.2 - r.1) * 255 := Int.mul_le_mul_of_nonneg_left hv.2 (by omega)
  rw [w64 (r.2 - r.1) (by omega), w64 v (by omega), w64 ((r.2 - r.1) * v) (by omega), Int.tdiv_eq_ediv_of_nonneg p1]
  rw [w64 ((r.2 - r.1) * v / 255) (by omega), w64 _ (by omega)]
  exact ⟨_, rfl, by omega, by omega⟩
section
variable (hF : 2000 < F)
include hF
/-- A true choice of a step that freezes. -/
theorem crs1 {x : Tst} {r : Tr} {d m k : Int} (h : stR x r) (hm : 0 ≤ gm m x) (hm2 : m ≤ 1000000000) (hd : 0 ≤ d ∧ d ≤ 400000000000000) (k1 : x.1 = 1) (hne : ¬ x.2.1 = m) (hk : r.1 ≤ k ∧ k ≤ r.2) : ∃ n z, mulDiv_S F d (IntKind.wrap IntKind.i64 (k * x.2.1)) (IntKind.wrap IntKind.i64 ((10000 : Int) * m)) (3 : Int) = some (n, (z, 0)) ∧ inR (if d < n then d else n) (ch r x d m) := by
  rcases h with ⟨_, h1, h2, h3, h4⟩ | ⟨e, _⟩ | ⟨e, _⟩ | ⟨e, _⟩
  · have hb := frz h1.1 k1 hm hne
    have hM : x.2.1 ≤ m := by rw [gm, if_pos k1] at hm; omega
    obtain ⟨q1, q2⟩ := sh_b (s := k) (k := x.2.1) (m := m) (by omega) (by omega) (by omega)
    have q3 := cl2 (b := 10000 * m) (by omega) hd.1 q2
    obtain ⟨n, z, e1, e2, e3⟩ := mdI3 F hF (u := d) (a := k * x.2.1) (b := 10000 * m) (by omega) (by omega) (by omega) (by omega)
    refine ⟨n, z, ?_, ?_⟩
    · rw [w64 _ (by omega), w64 _ (by omega)]
      exact e1
    · rw [mi_eq]
      unfold ch
      rw [if_pos k1, if_neg hne]
      exact pN_in hb hd.1 (mul_lr hk.1 (by omega)) (mul_lr hk.2 (by omega)) e2 e3
  · omega
  · omega
  · omega
theorem crs4 {x : Tst} {r : Tr} {d m k : Int} (h : stR x r) (hd : 0 ≤ d ∧ d ≤ 400000000000000) (k4 : x.1 = 4) (hk : r.1 ≤ k ∧ k ≤ r.2) : ∃ n z, mulDiv_S F d k (10000 : Int) (3 : Int) = some (n, (z, 0)) ∧ inR n (ch r x d m) := by
  rcases h with ⟨e, _⟩ | ⟨e, _⟩ | ⟨e, _⟩ | ⟨_, h1, h2, h3, h4⟩
  · omega
  · omega
  · omega
  · have q3 := cl_le (u := d) (a := k) (b := 10000) (by omega) hd.1 (by omega)
    obtain ⟨n, z, e1, e2, e3⟩ := mdI3 F hF (u := d) (a := k) (b := 10000) (by omega) (by omega) (by omega) (by omega)
    refine ⟨n, z, e1, ?_⟩
    have := pN_in (show (0 : Int) < 10000 by omega) hd.1 hk.1 hk.2 e2 e3
    rw [show mi n d = n by unfold mi; split <;> omega] at this
    unfold ch
    rw [if_neg (by omega), if_pos k4]
    exact this
end
theorem crs2 {x : Tst} {r : Tr} {d m k : Int} (k2 : x.1 = 2 ∨ x.1 = 3) (hk : r.1 ≤ k ∧ k ≤ r.2) : inR k (ch r x d m) := by
  unfold ch
  rw [if_neg (by omega), if_neg (by omega)]
  exact hk
theorem crs1e {x : Tst} {r : Tr} {d m : Int} (k1 : x.1 = 1) (h : x.2.1 = m) : inR d (ch r x d m) := by
  unfold ch
  rw [if_pos k1, if_pos h]
  exact ⟨Int.le_refl _, Int.le_refl _⟩
theorem stR_ok {x : Tst} {r : Tr} (h : stR x r) : okR r 1000000000000 := by
  unfold okR
  rcases h with ⟨_, _, h2, h3, h4⟩ | ⟨_, _, h2, h3, h4⟩ | ⟨_, _, h2, h3, h4⟩ | ⟨_, _, h2, h3, h4⟩ <;> omega
def CQ (l : List Tst) (t : List Int) (out : List Tc3) (i j : Nat) (m : Int) (d : Tc3) (o : Option (List Tst × (List Int × List Tc3))) : Prop := ∃ cs : List Tc3, o = some (l, (t, out ++ cs)) ∧ cs.length = j ∧ Tru s0 (l.drop i) (cs.map g0) m d.1 ∧ Tru s1 (l.drop i) (cs.map g1) m d.2.1 ∧ Tru s2 (l.drop i) (cs.map g2) m d.2.2
theorem CQ_c {l : List Tst} {t : List Int} {out : List Tc3} {i j : Nat} {m : Int} {d : Tc3} {o : Option (List Tst × (List Int × List Tc3))} {x : Tst} (hi : i < l.length) (hx : nth l zS i = x) {n0 n1 n2 : Int} (h0 : inR n0 (ch (s0 x.2.2) x d.1 m)) (h1 : inR n1 (ch (s1 x.2.2) x d.2.1 m)) (h2 : inR n2 (ch (s2 x.2.2) x d.2.2 m)) (h : CQ l t (out ++ ((n0, (n1, n2)) :: [])) (i + 1) j (gm m x) (nx x d.1 n0, (nx x d.2.1 n1, nx x d.2.2 n2)) o) : CQ l t out i (j + 1) m d o := by
  obtain ⟨cs, e1, e2, e3, e4, e5⟩ := h
  refine ⟨(n0, (n1, n2)) :: cs, ?_, ?_, ?_, ?_, ?_⟩
  · rw [e1, List.append_assoc]; rfl
  · rw [List.length_cons, e2]
  · rw [drop_c hi zS, hx]; exact ⟨h0, e3⟩
  · rw [drop_c hi zS, hx]; exact ⟨h1, e4⟩
  · rw [drop_c hi zS, hx]; exact ⟨h2, e5⟩
variable (hF : 2000 < F)
include hF
theorem crsL (l : List Tst) (hl : l.length ≤ 200) (t : List Int) (ht : isT t) : ∀ (j k i : Nat) (m : Int) (d : Tc3) (out : List Tc3), i + j = l.length → j < k → run (l.drop i) m → 0 ≤ m ∧ m ≤ 1000000000 → (0 ≤ d.1 ∧ d.1 + 1000000000000 * j ≤ 400000000000000) → (0 ≤ d.2.1 ∧ d.2.1 + 1000000000000 * j ≤ 400000000000000) → (0 ≤ d.2.2 ∧ d.2.2 + 1000000000000 * j ≤ 400000000000000) → out.length ≤ i → CQ l t out i j m d (course_L0 F k m (i : Int) l t d out)
  | j, 0, _, _, _, _, _, h, _, _, _, _, _, _ => by omega
  | 0, k + 1, i, m, d, out, h, _, _, _, _, _, _, _ => by
    simp only [course_L0]
    rw [dec_f (show ¬ (i : Int) < (l.length - 0 : Int) by omega)]
    refine ⟨[], ?_, rfl, ?_, ?_, ?_⟩
    · rw [List.append_nil]; rfl
    · rw [List.drop_eq_nil_of_le (by omega)]; exact trivial
    · rw [List.drop_eq_nil_of_le (by omega)]; exact trivial
    · rw [List.drop_eq_nil_of_le (by omega)]; exact trivial
  | j + 1, k + 1, i, m, d, out, h, hj, hr, hm, hd0, hd1, hd2, ho => by
    have hi : i < l.length := by omega
    rw [drop_c hi zS] at hr
    obtain ⟨d0, d1, d2⟩ := d
    dsimp only at hd0 hd1 hd2
    have hin : inB (i : Int) (l.length - 0) = true := inB_t hi
    simp only [course_L0]
    rw [dec_t (show (i : Int) < (l.length - 0 : Int) by omega), cond_true]
    generalize hx : nth l zS i = x at hr
    obtain ⟨hs, hg0, hg1, hr'⟩ := hr
    obtain ⟨v0, hv0, hv0b⟩ := place_eq F ht (i := 3 * (i : Int) + 0 + 7) (by omega)
    obtain ⟨v1, hv1, hv1b⟩ := place_eq F ht (i := 3 * (i : Int) + 1 + 7) (by omega)
    obtain ⟨v2, hv2, hv2b⟩ := place_eq F ht (i := 3 * (i : Int) + 2 + 7) (by omega)
    have hp : ∀ q : Int, 0 ≤ q ∧ q ≤ 2 → IntKind.wrap IntKind.i64 ((IntKind.wrap IntKind.i64 ((IntKind.wrap IntKind.i64 ((3 : Int) * (i : Int))) + q)) + (7 : Int)) = 3 * (i : Int) + q + 7 := by
      intro q hq
      rw [w64 (3 * (i : Int)) (by omega), w64 (3 * (i : Int) + q) (by omega), w64 (3 * (i : Int) + q + 7) (by omega)]
    have R0 := st_R sp0 hs
    have R1 := st_R sp1 hs
    have R2 := st_R sp2 hs
    obtain ⟨a0, ha0, ha0b⟩ := at_eq (stR_ok R0) (Int.le_refl _) hv0b
    obtain ⟨a1, ha1, ha1b⟩ := at_eq (stR_ok R1) (Int.le_refl _) hv1b
    obtain ⟨a2, ha2, ha2b⟩ := at_eq (stR_ok R2) (Int.le_refl _) hv2b
    unfold s0 at ha0
    unfold s1 at ha1
    unfold s2 at ha2
    have hlen : ∀ c : Tc3, (bif false then (lenOk2 (out.length - 0) (c :: []).length) else (lenOk (out.length - 0) (c :: []).length)) = true := by
      intro c
      show lenOk _ _ = true
      unfold lenOk
      rw [dec_t (by simp only [List.length_cons, List.length_nil]; omega)]
    rcases stK4 hs with k1 | k1 | k1 | k1
    · have b1 : (x.1 == 1) = true := bq k1
      have b2 : (x.1 == 2) = false := bn (by omega)
      have b3 : (x.1 == 3) = false := bn (by omega)
      have b4 : (x.1 == 4) = false := bn (by omega)
      by_cases hM : x.2.1 = m
      · have bm : (x.2.1 != m) = false := by simp [hM]
        refine ob_ex (Q := CQ l t out i (j + 1) m (d0, (d1, d2))) (P := fun n => inR n (ch (s0 x.2.2) x d0 m)) (fun n : Int => ((m, (i : Int)), (l, (t, ((nx x d0 n, (d1, d2)), (out, (n, (0, 0)))))))) ?_ (fun n0 hn0 => ?_)
        · skip
          rw [hin, Int.toNat_natCast, hx, hp 0 (by omega), hv0, ob_some, ha0]
          simp only [b1, b4, cond_true, cond_false]
          rw [bm]
          have hn : inR d0 (ch (s0 x.2.2) x d0 m) := crs1e k1 hM
          have hw := nx_in R0 hg0 (by omega) hn
          exact ⟨d0, hn, congrArg (fun q => some ((m, (i : Int)), (l, (t, ((q, (d1, d2)), (out, (d0, (0, 0)))))))) (wSub (x := x) (d := d0) (n := d0) (by omega) ⟨hw.2.1, by omega⟩)⟩
        refine ob_ex (Q := CQ l t out i (j + 1) m (d0, (d1, d2))) (P := fun n => inR n (ch (s1 x.2.2) x d1 m)) (fun n : Int => ((m, (i : Int)), (l, (t, ((nx x d0 n0, (nx x d1 n, d2)), (out, (n0, (n, 0)))))))) ?_ (fun n1 hn1 => ?_)
        · dsimp only
          rw [hin, Int.toNat_natCast, hx, hp 1 (by omega), hv1, ob_some, ha1]
          simp only [b1, b4, cond_true, cond_false]
          rw [bm]
          have hn : inR d1 (ch (s1 x.2.2) x d1 m) := crs1e k1 hM
          have hw := nx_in R1 hg0 (by omega) hn
          exact ⟨d1, hn, congrArg (fun q => some ((m, (i : Int)), (l, (t, ((nx x d0 n0, (q, d2)), (out, (n0, (d1, 0)))))))) (wSub (x := x) (d := d1) (n := d1) (by omega) ⟨hw.2.1, by omega⟩)⟩
        refine ob_ex (Q := CQ l t out i (j + 1) m (d0, (d1, d2))) (P := fun n => inR n (ch (s2 x.2.2) x d2 m)) (fun n : Int => ((m, (i : Int)), (l, (t, ((nx x d0 n0, (nx x d1 n1, nx x d2 n)), (out, (n0, (n1, n)))))))) ?_ (fun n2 hn2 => ?_)
        · dsimp only
          rw [hin, Int.toNat_natCast, hx, hp 2 (by omega), hv2, ob_some, ha2]
          simp only [b1, b4, cond_true, cond_false]
          rw [bm]
          have hn : inR d2 (ch (s2 x.2.2) x d2 m) := crs1e k1 hM
          have hw := nx_in R2 hg0 (by omega) hn
          exact ⟨d2, hn, congrArg (fun q => some ((m, (i : Int)), (l, (t, ((nx x d0 n0, (nx x d1 n1, q)), (out, (n0, (n1, d2)))))))) (wSub (x := x) (d := d2) (n := d2) (by omega) ⟨hw.2.1, by omega⟩)⟩
        refine ob_to (Q := CQ l t out i (j + 1) m (d0, (d1, d2))) (y := ((gm m x, (i : Int)), (l, (t, ((nx x d0 n0, (nx x d1 n1, nx x d2 n2)), (out, (n0, (n1, n2)))))))) ?_ ?_
        · dsimp only
          rw [hin, Int.toNat_natCast, hx]
          simp only [b1, b2, cond_true, cond_false]
          rw [gm, if_pos k1] at hg0 hg1 ⊢
          rw [w64 (m - x.2.1) (by omega)]
        · dsimp only
          rw [hlen, wI i hi hl]
          have w0 := nx_in R0 hg0 (show 0 ≤ d0 by omega) hn0
          have w1 := nx_in R1 hg0 (show 0 ≤ d1 by omega) hn1
          have w2 := nx_in R2 hg0 (show 0 ≤ d2 by omega) hn2
          exact CQ_c hi hx hn0 hn1 hn2 (crsL l hl t ht j k (i + 1) (gm m x) _ _ (by omega) (by omega) hr' ⟨hg0, hg1⟩ ⟨w0.2.1, by dsimp only; omega⟩ ⟨w1.2.1, by dsimp only; omega⟩ ⟨w2.2.1, by dsimp only; omega⟩ (by simp only [List.length_append, List.length_cons, List.length_nil]; omega))
      · have bm : (x.2.1 != m) = true := by simp [hM]
        refine ob_ex (Q := CQ l t out i (j + 1) m (d0, (d1, d2))) (P := fun n => inR n (ch (s0 x.2.2) x d0 m)) (fun n : Int => ((m, (i : Int)), (l, (t, ((nx x d0 n, (d1, d2)), (out, (n, (0, 0)))))))) ?_ (fun n0 hn0 => ?_)
        · skip
          rw [hin, Int.toNat_natCast, hx, hp 0 (by omega), hv0, ob_some, ha0]
          simp only [b1, b4, cond_true, cond_false]
          rw [bm]
          obtain ⟨n, z, e1, hn⟩ := crs1 F hF R0 hg0 hm.2 (d := d0) (by omega) k1 hM ha0b
          have hw := nx_in R0 hg0 (by omega) hn
          exact ⟨_, hn, ob_at e1 (congrArg (fun q => some ((m, (i : Int)), (l, (t, ((q, (d1, d2)), (out, ((if d0 < n then d0 else n), (0, 0)))))))) (wSub (x := x) (d := d0) (n := (if d0 < n then d0 else n)) (by omega) ⟨hw.2.1, by omega⟩))⟩
        refine ob_ex (Q := CQ l t out i (j + 1) m (d0, (d1, d2))) (P := fun n => inR n (ch (s1 x.2.2) x d1 m)) (fun n : Int => ((m, (i : Int)), (l, (t, ((nx x d0 n0, (nx x d1 n, d2)), (out, (n0, (n, 0)))))))) ?_ (fun n1 hn1 => ?_)
        · dsimp only
          rw [hin, Int.toNat_natCast, hx, hp 1 (by omega), hv1, ob_some, ha1]
          simp only [b1, b4, cond_true, cond_false]
          rw [bm]
          obtain ⟨n, z, e1, hn⟩ := crs1 F hF R1 hg0 hm.2 (d := d1) (by omega) k1 hM ha1b
          have hw := nx_in R1 hg0 (by omega) hn
          exact ⟨_, hn, ob_at e1 (congrArg (fun q => some ((m, (i : Int)), (l, (t, ((nx x d0 n0, (q, d2)), (out, (n0, ((if d1 < n then d1 else n), 0)))))))) (wSub (x := x) (d := d1) (n := (if d1 < n then d1 else n)) (by omega) ⟨hw.2.1, by omega⟩))⟩
        refine ob_ex (Q := CQ l t out i (j + 1) m (d0, (d1, d2))) (P := fun n => inR n (ch (s2 x.2.2) x d2 m)) (fun n : Int => ((m, (i : Int)), (l, (t, ((nx x d0 n0, (nx x d1 n1, nx x d2 n)), (out, (n0, (n1, n)))))))) ?_ (fun n2 hn2 => ?_)
        · dsimp only
          rw [hin, Int.toNat_natCast, hx, hp 2 (by omega), hv2, ob_some, ha2]
          simp only [b1, b4, cond_true, cond_false]
          rw [bm]
          obtain ⟨n, z, e1, hn⟩ := crs1 F hF R2 hg0 hm.2 (d := d2) (by omega) k1 hM ha2b
          have hw := nx_in R2 hg0 (by omega) hn
          exact ⟨_, hn, ob_at e1 (congrArg (fun q => some ((m, (i : Int)), (l, (t, ((nx x d0 n0, (nx x d1 n1, q)), (out, (n0, (n1, (if d2 < n then d2 else n))))))))) (wSub (x := x) (d := d2) (n := (if d2 < n then d2 else n)) (by omega) ⟨hw.2.1, by omega⟩))⟩
        refine ob_to (Q := CQ l t out i (j + 1) m (d0, (d1, d2))) (y := ((gm m x, (i : Int)), (l, (t, ((nx x d0 n0, (nx x d1 n1, nx x d2 n2)), (out, (n0, (n1, n2)))))))) ?_ ?_
        · dsimp only
          rw [hin, Int.toNat_natCast, hx]
          simp only [b1, b2, cond_true, cond_false]
          rw [gm, if_pos k1] at hg0 hg1 ⊢
          rw [w64 (m - x.2.1) (by omega)]
        · dsimp only
          rw [hlen, wI i hi hl]
          have w0 := nx_in R0 hg0 (show 0 ≤ d0 by omega) hn0
          have w1 := nx_in R1 hg0 (show 0 ≤ d1 by omega) hn1
          have w2 := nx_in R2 hg0 (show 0 ≤ d2 by omega) hn2
          exact CQ_c hi hx hn0 hn1 hn2 (crsL l hl t ht j k (i + 1) (gm m x) _ _ (by omega) (by omega) hr' ⟨hg0, hg1⟩ ⟨w0.2.1, by dsimp only; omega⟩ ⟨w1.2.1, by dsimp only; omega⟩ ⟨w2.2.1, by dsimp only; omega⟩ (by simp only [List.length_append, List.length_cons, List.length_nil]; omega))
    · have b1 : (x.1 == 1) = false := bn (by omega)
      have b2 : (x.1 == 2) = true := bq k1
      have b3 : (x.1 == 3) = false := bn (by omega)
      have b4 : (x.1 == 4) = false := bn (by omega)
      refine ob_ex (Q := CQ l t out i (j + 1) m (d0, (d1, d2))) (P := fun n => inR n (ch (s0 x.2.2) x d0 m)) (fun n : Int => ((m, (i : Int)), (l, (t, ((nx x d0 n, (d1, d2)), (out, (n, (0, 0)))))))) ?_ (fun n0 hn0 => ?_)
      · skip
        rw [hin, Int.toNat_natCast, hx, hp 0 (by omega), hv0, ob_some, ha0]
        simp only [b1, b4, cond_true, cond_false]
        have hn : inR a0 (ch (s0 x.2.2) x d0 m) := crs2 (by omega) ha0b
        have hw := nx_in R0 hg0 (by omega) hn
        exact ⟨_, hn, congrArg (fun q => some ((m, (i : Int)), (l, (t, ((q, (d1, d2)), (out, (a0, (0, 0)))))))) (wAdd (x := x) (d := d0) (n := a0) (by omega) ⟨hw.2.1, by omega⟩)⟩
      refine ob_ex (Q := CQ l t out i (j + 1) m (d0, (d1, d2))) (P := fun n => inR n (ch (s1 x.2.2) x d1 m)) (fun n : Int => ((m, (i : Int)), (l, (t, ((nx x d0 n0, (nx x d1 n, d2)), (out, (n0, (n, 0)))))))) ?_ (fun n1 hn1 => ?_)
      · dsimp only
        rw [hin, Int.toNat_natCast, hx, hp 1 (by omega), hv1, ob_some, ha1]
        simp only [b1, b4, cond_true, cond_false]
        have hn : inR a1 (ch (s1 x.2.2) x d1 m) := crs2 (by omega) ha1b
        have hw := nx_in R1 hg0 (by omega) hn
        exact ⟨_, hn, congrArg (fun q => some ((m, (i : Int)), (l, (t, ((nx x d0 n0, (q, d2)), (out, (n0, (a1, 0)))))))) (wAdd (x := x) (d := d1) (n := a1) (by omega) ⟨hw.2.1, by omega⟩)⟩
      refine ob_ex (Q := CQ l t out i (j + 1) m (d0, (d1, d2))) (P := fun n => inR n (ch (s2 x.2.2) x d2 m)) (fun n : Int => ((m, (i : Int)), (l, (t, ((nx x d0 n0, (nx x d1 n1, nx x d2 n)), (out, (n0, (n1, n)))))))) ?_ (fun n2 hn2 => ?_)
      · dsimp only
        rw [hin, Int.toNat_natCast, hx, hp 2 (by omega), hv2, ob_some, ha2]
        simp only [b1, b4, cond_true, cond_false]
        have hn : inR a2 (ch (s2 x.2.2) x d2 m) := crs2 (by omega) ha2b
        have hw := nx_in R2 hg0 (by omega) hn
        exact ⟨_, hn, congrArg (fun q => some ((m, (i : Int)), (l, (t, ((nx x d0 n0, (nx x d1 n1, q)), (out, (n0, (n1, a2)))))))) (wAdd (x := x) (d := d2) (n := a2) (by omega) ⟨hw.2.1, by omega⟩)⟩
      refine ob_to (Q := CQ l t out i (j + 1) m (d0, (d1, d2))) (y := ((gm m x, (i : Int)), (l, (t, ((nx x d0 n0, (nx x d1 n1, nx x d2 n2)), (out, (n0, (n1, n2)))))))) ?_ ?_
      · dsimp only
        rw [hin, Int.toNat_natCast, hx]
        simp only [b1, b2, cond_true, cond_false]
        rw [gm, if_neg (by omega), if_pos k1] at hg0 hg1 ⊢
        rw [w64 (m + x.2.1) (by omega)]
      · dsimp only
        rw [hlen, wI i hi hl]
        have w0 := nx_in R0 hg0 (show 0 ≤ d0 by omega) hn0
        have w1 := nx_in R1 hg0 (show 0 ≤ d1 by omega) hn1
        have w2 := nx_in R2 hg0 (show 0 ≤ d2 by omega) hn2
        exact CQ_c hi hx hn0 hn1 hn2 (crsL l hl t ht j k (i + 1) (gm m x) _ _ (by omega) (by omega) hr' ⟨hg0, hg1⟩ ⟨w0.2.1, by dsimp only; omega⟩ ⟨w1.2.1, by dsimp only; omega⟩ ⟨w2.2.1, by dsimp only; omega⟩ (by simp only [List.length_append, List.length_cons, List.length_nil]; omega))
    · have b1 : (x.1 == 1) = false := bn (by omega)
      have b2 : (x.1 == 2) = false := bn (by omega)
      have b3 : (x.1 == 3) = true := bq k1
      have b4 : (x.1 == 4) = false := bn (by omega)
      refine ob_ex (Q := CQ l t out i (j + 1) m (d0, (d1, d2))) (P := fun n => inR n (ch (s0 x.2.2) x d0 m)) (fun n : Int => ((m, (i : Int)), (l, (t, ((nx x d0 n, (d1, d2)), (out, (n, (0, 0)))))))) ?_ (fun n0 hn0 => ?_)
      · skip
        rw [hin, Int.toNat_natCast, hx, hp 0 (by omega), hv0, ob_some, ha0]
        simp only [b1, b4, cond_true, cond_false]
        have hn : inR a0 (ch (s0 x.2.2) x d0 m) := crs2 (by omega) ha0b
        have hw := nx_in R0 hg0 (by omega) hn
        exact ⟨_, hn, congrArg (fun q => some ((m, (i : Int)), (l, (t, ((q, (d1, d2)), (out, (a0, (0, 0)))))))) (wAdd (x := x) (d := d0) (n := a0) (by omega) ⟨hw.2.1, by omega⟩)⟩
      refine ob_ex (Q := CQ l t out i (j + 1) m (d0, (d1, d2))) (P := fun n => inR n (ch (s1 x.2.2) x d1 m)) (fun n : Int => ((m, (i : Int)), (l, (t, ((nx x d0 n0, (nx x d1 n, d2)), (out, (n0, (n, 0)))))))) ?_ (fun n1 hn1 => ?_)
      · dsimp only
        rw [hin, Int.toNat_natCast, hx, hp 1 (by omega), hv1, ob_some, ha1]
        simp only [b1, b4, cond_true, cond_false]
        have hn : inR a1 (ch (s1 x.2.2) x d1 m) := crs2 (by omega) ha1b
        have hw := nx_in R1 hg0 (by omega) hn
        exact ⟨_, hn, congrArg (fun q => some ((m, (i : Int)), (l, (t, ((nx x d0 n0, (q, d2)), (out, (n0, (a1, 0)))))))) (wAdd (x := x) (d := d1) (n := a1) (by omega) ⟨hw.2.1, by omega⟩)⟩
      refine ob_ex (Q := CQ l t out i (j + 1) m (d0, (d1, d2))) (P := fun n => inR n (ch (s2 x.2.2) x d2 m)) (fun n : Int => ((m, (i : Int)), (l, (t, ((nx x d0 n0, (nx x d1 n1, nx x d2 n)), (out, (n0, (n1, n)))))))) ?_ (fun n2 hn2 => ?_)
      · dsimp only
        rw [hin, Int.toNat_natCast, hx, hp 2 (by omega), hv2, ob_some, ha2]
        simp only [b1, b4, cond_true, cond_false]
        have hn : inR a2 (ch (s2 x.2.2) x d2 m) := crs2 (by omega) ha2b
        have hw := nx_in R2 hg0 (by omega) hn
        exact ⟨_, hn, congrArg (fun q => some ((m, (i : Int)), (l, (t, ((nx x d0 n0, (nx x d1 n1, q)), (out, (n0, (n1, a2)))))))) (wAdd (x := x) (d := d2) (n := a2) (by omega) ⟨hw.2.1, by omega⟩)⟩
      refine ob_to (Q := CQ l t out i (j + 1) m (d0, (d1, d2))) (y := ((gm m x, (i : Int)), (l, (t, ((nx x d0 n0, (nx x d1 n1, nx x d2 n2)), (out, (n0, (n1, n2)))))))) ?_ ?_
      · dsimp only
        rw [hin, Int.toNat_natCast, hx]
        simp only [b1, b2, cond_true, cond_false]
        rw [gm, if_neg (by omega), if_neg (by omega)]
      · dsimp only
        rw [hlen, wI i hi hl]
        have w0 := nx_in R0 hg0 (show 0 ≤ d0 by omega) hn0
        have w1 := nx_in R1 hg0 (show 0 ≤ d1 by omega) hn1
        have w2 := nx_in R2 hg0 (show 0 ≤ d2 by omega) hn2
        exact CQ_c hi hx hn0 hn1 hn2 (crsL l hl t ht j k (i + 1) (gm m x) _ _ (by omega) (by omega) hr' ⟨hg0, hg1⟩ ⟨w0.2.1, by dsimp only; omega⟩ ⟨w1.2.1, by dsimp only; omega⟩ ⟨w2.2.1, by dsimp only; omega⟩ (by simp only [List.length_append, List.length_cons, List.length_nil]; omega))
    · have b1 : (x.1 == 1) = false := bn (by omega)
      have b2 : (x.1 == 2) = false := bn (by omega)
      have b3 : (x.1 == 3) = false := bn (by omega)
      have b4 : (x.1 == 4) = true := bq k1
      refine ob_ex (Q := CQ l t out i (j + 1) m (d0, (d1, d2))) (P := fun n => inR n (ch (s0 x.2.2) x d0 m)) (fun n : Int => ((m, (i : Int)), (l, (t, ((nx x d0 n, (d1, d2)), (out, (n, (0, 0)))))))) ?_ (fun n0 hn0 => ?_)
      · skip
        rw [hin, Int.toNat_natCast, hx, hp 0 (by omega), hv0, ob_some, ha0]
        simp only [b1, b4, cond_true, cond_false]
        obtain ⟨n, z, e1, hn⟩ := crs4 F hF R0 (d := d0) (m := m) (by omega) k1 ha0b
        have hw := nx_in R0 hg0 (by omega) hn
        exact ⟨_, hn, ob_at e1 (congrArg (fun q => some ((m, (i : Int)), (l, (t, ((q, (d1, d2)), (out, (n, (0, 0)))))))) (wSub (x := x) (d := d0) (n := n) (by omega) ⟨hw.2.1, by omega⟩))⟩
      refine ob_ex (Q := CQ l t out i (j + 1) m (d0, (d1, d2))) (P := fun n => inR n (ch (s1 x.2.2) x d1 m)) (fun n : Int => ((m, (i : Int)), (l, (t, ((nx x d0 n0, (nx x d1 n, d2)), (out, (n0, (n, 0)))))))) ?_ (fun n1 hn1 => ?_)
      · dsimp only
        rw [hin, Int.toNat_natCast, hx, hp 1 (by omega), hv1, ob_some, ha1]
        simp only [b1, b4, cond_true, cond_false]
        obtain ⟨n, z, e1, hn⟩ := crs4 F hF R1 (d := d1) (m := m) (by omega) k1 ha1b
        have hw := nx_in R1 hg0 (by omega) hn
        exact ⟨_, hn, ob_at e1 (congrArg (fun q => some ((m, (i : Int)), (l, (t, ((nx x d0 n0, (q, d2)), (out, (n0, (n, 0)))))))) (wSub (x := x) (d := d1) (n := n) (by omega) ⟨hw.2.1, by omega⟩))⟩
      refine ob_ex (Q := CQ l t out i (j + 1) m (d0, (d1, d2))) (P := fun n => inR n (ch (s2 x.2.2) x d2 m)) (fun n : Int => ((m, (i : Int)), (l, (t, ((nx x d0 n0, (nx x d1 n1, nx x d2 n)), (out, (n0, (n1, n)))))))) ?_ (fun n2 hn2 => ?_)
      · dsimp only
        rw [hin, Int.toNat_natCast, hx, hp 2 (by omega), hv2, ob_some, ha2]
        simp only [b1, b4, cond_true, cond_false]
        obtain ⟨n, z, e1, hn⟩ := crs4 F hF R2 (d := d2) (m := m) (by omega) k1 ha2b
        have hw := nx_in R2 hg0 (by omega) hn
        exact ⟨_, hn, ob_at e1 (congrArg (fun q => some ((m, (i : Int)), (l, (t, ((nx x d0 n0, (nx x d1 n1, q)), (out, (n0, (n1, n)))))))) (wSub (x := x) (d := d2) (n := n) (by omega) ⟨hw.2.1, by omega⟩))⟩
      refine ob_to (Q := CQ l t out i (j + 1) m (d0, (d1, d2))) (y := ((gm m x, (i : Int)), (l, (t, ((nx x d0 n0, (nx x d1 n1, nx x d2 n2)), (out, (n0, (n1, n2)))))))) ?_ ?_
      · dsimp only
        rw [hin, Int.toNat_natCast, hx]
        simp only [b1, b2, cond_true, cond_false]
        rw [gm, if_neg (by omega), if_neg (by omega)]
      · dsimp only
        rw [hlen, wI i hi hl]
        have w0 := nx_in R0 hg0 (show 0 ≤ d0 by omega) hn0
        have w1 := nx_in R1 hg0 (show 0 ≤ d1 by omega) hn1
        have w2 := nx_in R2 hg0 (show 0 ≤ d2 by omega) hn2
        exact CQ_c hi hx hn0 hn1 hn2 (crsL l hl t ht j k (i + 1) (gm m x) _ _ (by omega) (by omega) hr' ⟨hg0, hg1⟩ ⟨w0.2.1, by dsimp only; omega⟩ ⟨w1.2.1, by dsimp only; omega⟩ ⟨w2.2.1, by dsimp only; omega⟩ (by simp only [List.length_append, List.length_cons, List.length_nil]; omega))
theorem course_eq (l : List Tst) (hl : l.length ≤ 200) (t : List Int) (ht : isT t) (m : Tfr) (hm : 0 ≤ m.1 ∧ m.1 ≤ 1000000000) (hr : run l m.1) (st : Tc3) (h0 : 0 ≤ st.1 ∧ st.1 ≤ 1000000000000) (h1 : 0 ≤ st.2.1 ∧ st.2.1 ≤ 1000000000000) (h2 : 0 ≤ st.2.2 ∧ st.2.2 ≤ 1000000000000) : ∃ cs : List Tc3, course_S F m st l t = some cs ∧ cs.length = l.length ∧ Tru s0 l (cs.map g0) m.1 st.1 ∧ Tru s1 l (cs.map g1) m.1 st.2.1 ∧ Tru s2 l (cs.map g2) m.1 st.2.2 := by
  obtain ⟨cs, e1, e2⟩ := crsL F hF l hl t ht l.length F 0 m.1 st [] (by omega) (by omega) hr hm (by omega) (by omega) (by omega) (Nat.le_refl _)
  refine ⟨cs, ?_, e2⟩
  unfold course_S
  exact ob_at e1 rfl
end
end M3
end Go.Proofs.YtcbbhiobibhdnaaDoor


namespace Go.Proofs.YtcbbhiobibhdnaaDoor
namespace M3
open Go.RowKit U8
set_option maxRecDepth 100000
set_option maxHeartbeats 4000000
section
variable (F : Nat)
theorem cmp_eq (p q : Nat) : compare_S F (((p / 18446744073709551616 : Nat) : Int), ((p % 18446744073709551616 : Nat) : Int)) (((q / 18446744073709551616 : Nat) : Int), ((q % 18446744073709551616 : Nat) : Int)) = some (if q < p then 1 else if p = q then 0 else -1) := by
  have hp := Nat.div_add_mod p 18446744073709551616
  have hq := Nat.div_add_mod q 18446744073709551616
  have hp2 : p % 18446744073709551616 < 18446744073709551616 := Nat.mod_lt _ (by decide)
  have hq2 : q % 18446744073709551616 < 18446744073709551616 := Nat.mod_lt _ (by decide)
  generalize p / 18446744073709551616 = a at *
  generalize p % 18446744073709551616 = b at *
  generalize q / 18446744073709551616 = c at *
  generalize q % 18446744073709551616 = d at *
  unfold compare_S
  dsimp only
  by_cases h1 : (a : Int) > (c : Int)
  · rw [dec_t h1, if_pos (by omega)]
    rfl
  · rw [dec_f h1]
    by_cases h2 : (a : Int) = (c : Int)
    · rw [bq h2]
      by_cases h3 : (b : Int) > (d : Int)
      · rw [dec_t h3, if_pos (by omega)]
        rfl
      · rw [dec_f h3, if_neg (by omega)]
        by_cases h4 : (b : Int) = (d : Int)
        · rw [if_pos (by omega)]
          show (bif (((a : Int) == (c : Int)) && ((b : Int) == (d : Int))) then _ else _) = _
          rw [bq h2, bq h4]
          rfl
        · rw [if_neg (by omega)]
          show (bif (((a : Int) == (c : Int)) && ((b : Int) == (d : Int))) then _ else _) = _
          rw [bq h2, bn h4]
          rfl
    · rw [bn h2, if_neg (by omega), if_neg (by omega)]
      show (bif (((a : Int) == (c : Int)) && ((b : Int) == (d : Int))) then _ else _) = _
      rw [bn h2]
      rfl
theorem over_eqN (c m k : Nat) (hc : c ≤ 1000000000000000) (hm : m ≤ 1000000000000000) (hk : k ≤ 1000000000000000) : mOver_S F c m k = some (decide (k * m < c * 1000000)) := by
  have e : mOver_S F c m k = ob (compare_S F (mh (IntKind.wrap IntKind.u64 (c : Int)) (IntKind.wrap IntKind.u64 (1000000 : Int)), IntKind.wrap IntKind.u64 (IntKind.wrap IntKind.u64 (c : Int) * IntKind.wrap IntKind.u64 (1000000 : Int))) (mh (IntKind.wrap IntKind.u64 (k : Int)) (IntKind.wrap IntKind.u64 (m : Int)), IntKind.wrap IntKind.u64 (IntKind.wrap IntKind.u64 (k : Int) * IntKind.wrap IntKind.u64 (m : Int)))) (fun r => some (decide (r > 0))) := rfl
  rw [e, show (1000000 : Int) = ((1000000 : Nat) : Int) from rfl, u64N c (by omega), u64N 1000000 (by omega), u64N k (by omega), u64N m (by omega), mh_eq _ _ (by omega) (by omega), mh_eq _ _ (by omega) (by omega), ml_eq, ml_eq, cmp_eq, ob_some]
  by_cases h : k * m < c * 1000000
  · rw [if_pos h, dec_t h]; rfl
  · rw [if_neg h, dec_f h]
    by_cases h2 : c * 1000000 = k * m
    · rw [if_pos h2]; rfl
    · rw [if_neg h2]; rfl
theorem below_eqN (c m k : Nat) (hc : c ≤ 1000000000000000) (hm : m ≤ 1000000000000000) (hk : k ≤ 1000000000000000) : below_S F c m k = some (decide (c * 1000000 < k * m)) := by
  have e : below_S F c m k = ob (compare_S F (mh (IntKind.wrap IntKind.u64 (c : Int)) (IntKind.wrap IntKind.u64 (1000000 : Int)), IntKind.wrap IntKind.u64 (IntKind.wrap IntKind.u64 (c : Int) * IntKind.wrap IntKind.u64 (1000000 : Int))) (mh (IntKind.wrap IntKind.u64 (k : Int)) (IntKind.wrap IntKind.u64 (m : Int)), IntKind.wrap IntKind.u64 (IntKind.wrap IntKind.u64 (k : Int) * IntKind.wrap IntKind.u64 (m : Int)))) (fun r => some (decide (r < 0))) := rfl
  rw [e, show (1000000 : Int) = ((1000000 : Nat) : Int) from rfl, u64N c (by omega), u64N 1000000 (by omega), u64N k (by omega), u64N m (by omega), mh_eq _ _ (by omega) (by omega), mh_eq _ _ (by omega) (by omega), ml_eq, ml_eq, cmp_eq, ob_some]
  by_cases h : k * m < c * 1000000
  · rw [if_pos h, dec_f (show ¬ c * 1000000 < k * m by omega)]; rfl
  · rw [if_neg h]
    by_cases h2 : c * 1000000 = k * m
    · rw [if_pos h2, dec_f (show ¬ c * 1000000 < k * m by omega)]; rfl
    · rw [if_neg h2, dec_t (show c * 1000000 < k * m by omega)]; rfl
def nb (c : Int) : Prop := 0 ≤ c ∧ c ≤ 1000000000000000
theorem over_eq {c m k : Int} (hc : nb c) (hm : nb m) (hk : nb k) : mOver_S F c m k = some (decide (k * m < c * 1000000)) := by
  obtain ⟨c, rfl⟩ := Int.eq_ofNat_of_zero_le hc.1
  obtain ⟨m, rfl⟩ := Int.eq_ofNat_of_zero_le hm.1
  obtain ⟨k, rfl⟩ := Int.eq_ofNat_of_zero_le hk.1
  unfold nb at hc hm hk
  rw [over_eqN F c m k (by omega) (by omega) (by omega)]
  refine congrArg some (decide_eq_decide.2 ?_)
  rw [← Int.natCast_mul]
  omega
theorem below_eq {c m k : Int} (hc : nb c) (hm : nb m) (hk : nb k) : below_S F c m k = some (decide (c * 1000000 < k * m)) := by
  obtain ⟨c, rfl⟩ := Int.eq_ofNat_of_zero_le hc.1
  obtain ⟨m, rfl⟩ := Int.eq_ofNat_of_zero_le hm.1
  obtain ⟨k, rfl⟩ := Int.eq_ofNat_of_zero_le hk.1
  unfold nb at hc hm hk
  rw [below_eqN F c m k (by omega) (by omega) (by omega)]
  refine congrArg some (decide_eq_decide.2 ?_)
  rw [← Int.natCast_mul]
  omega
theorem meets_eq {c m : Int} {t : Tr} (hc : nb c) (hm : nb m) (h1 : nb t.1) (h2 : nb t.2) : meets_S F c m t = some (decide (t.1 * m ≤ c * 1000000 ∧ c * 1000000 ≤ t.2 * m)) := by
  unfold meets_S
  rw [over_eq F hc hm h2, ob_some]
  by_cases h : t.2 * m < c * 1000000
  · rw [dec_t h, dec_f (show ¬ (t.1 * m ≤ c * 1000000 ∧ c * 1000000 ≤ t.2 * m) by omega)]
    rfl
  · rw [dec_f h, below_eq F hc hm h1]
    show some (!decide (c * 1000000 < t.1 * m)) = _
    by_cases h3 : c * 1000000 < t.1 * m
    · rw [dec_t h3, dec_f (show ¬ (t.1 * m ≤ c * 1000000 ∧ c * 1000000 ≤ t.2 * m) by omega)]
      rfl
    · rw [dec_f h3, dec_t (show (t.1 * m ≤ c * 1000000 ∧ c * 1000000 ≤ t.2 * m) by omega)]
      rfl
/-- Rounded up, as a bound. -/
theorem cl_ge {u a b : Int} (hb : 0 < b) : u * a ≤ cl u a b * b := by
  have h1 := Int.emod_add_mul_ediv (u * a + (b - 1)) b
  have h2 := Int.emod_lt_of_pos (u * a + (b - 1)) hb
  unfold cl
  rw [Int.mul_comm ((u * a + (b - 1)) / b) b]
  omega
theorem cl_le_iff {u a b t : Int} (hb : 0 < b) : cl u a b ≤ t ↔ u * a ≤ t * b := by
  unfold cl
  constructor
  · intro h
    have h1 := cl_ge (u := u) (a := a) hb
    have h2 : cl u a b * b ≤ t * b := Int.mul_le_mul_of_nonneg_right h (by omega)
    omega
  · intro h
    have h1 : (u * a + (b - 1)) / b ≤ (t * b + (b - 1)) / b := Int.ediv_le_ediv hb (by omega)
    rw [Int.add_comm (t * b), Int.add_mul_ediv_right _ _ (by omega), Int.ediv_eq_zero_of_lt (a := b - 1) (by omega) (by omega)] at h1
    omega
theorem le_fl_iff {u a b t : Int} (hb : 0 < b) : t ≤ fl u a b ↔ t * b ≤ u * a := by
  unfold fl
  exact Int.le_ediv_iff_mul_le hb
variable (hF : 2000 < F)
include hF
theorem some_eq {c t : Tr} {m : Int} (hc : 0 ≤ c.1 ∧ c.1 ≤ c.2 ∧ c.2 ≤ 1000000000000000) (hm : 1 ≤ m ∧ m ≤ 1000000000) (ht : okR t 1000000000000) : ∃ b, some__S F c m t = some b ∧ (b = true → ∃ n, c.1 ≤ n ∧ n ≤ c.2 ∧ t.1 * m ≤ n * 1000000 ∧ n * 1000000 ≤ t.2 * m) := by
  obtain ⟨t1, t2, t3⟩ := ht
  unfold some__S
  obtain ⟨z, e⟩ := mdI2 F hF (u := t.1) (a := m) (b := 1000000) (by omega) (by omega) (by omega)
  have hg := cl_ge (u := t.1) (a := m) (b := 1000000) (by omega)
  have hp := pos (u := t.1) (a := m) (b := 1000000) (by omega) t1 (by omega)
  rw [e, ob_some]
  by_cases hq : cl t.1 m 1000000 ≤ 1000000000000000
  · rw [if_pos hq]
    generalize cl t.1 m 1000000 = q at hq hg hp
    show ∃ b, (bif (decide ((if c.1 > q then c.1 else q) ≤ c.2)) then _ else _) = some b ∧ _
    have hx : c.1 ≤ (if c.1 > q then c.1 else q) ∧ q ≤ (if c.1 > q then c.1 else q) := by split <;> omega
    dsimp only
    generalize (if c.1 > q then c.1 else q) = n at hx
    by_cases hn : n ≤ c.2
    · rw [dec_t hn]
      show ∃ b, ob (mOver_S F n m t.2) _ = some b ∧ _
      rw [over_eq F ⟨by omega, by omega⟩ ⟨by omega, by omega⟩ ⟨by omega, by omega⟩, ob_some]
      refine ⟨_, rfl, fun hb => ⟨n, hx.1, hn, by omega, ?_⟩⟩
      have hb' : ¬ t.2 * m < n * 1000000 := by
        intro h
        rw [dec_t h] at hb
        cases hb
      omega
    · rw [dec_f hn]
      exact ⟨false, rfl, fun h => by cases h⟩
  · rw [if_neg hq]
    exact ⟨false, rfl, fun h => by cases h⟩
/-- Concentration: an error, or both ends. -/
theorem conc_any (x : Tfr) (hm : 1 ≤ x.1 ∧ x.1 ≤ 1000000000) : ∃ v e, conc0_S F x = some (v, e) ∧ (e = 0 → okR x.2.1 1000000000000 ∧ v = (fl x.2.1.1 1000000 x.1, cl x.2.1.2 1000000 x.1) ∧ cl x.2.1.2 1000000 x.1 ≤ 1000000000000000) := by
  unfold conc0_S
  rw [within_eq, dec_t hm, ob_some, isR_eq]
  by_cases hr : okR x.2.1 1000000000000
  · rw [dec_t hr]
    obtain ⟨h1, h2, h3⟩ := id hr
    obtain ⟨z1, e1⟩ := mdI1 F hF (u := x.2.1.1) (a := 1000000) (b := x.1) (by omega) (by omega) (by omega)
    obtain ⟨z2, e2⟩ := mdI2 F hF (u := x.2.1.2) (a := 1000000) (b := x.1) (by omega) (by omega) (by omega)
    show ∃ v e, ob (mulDiv_S F x.2.1.1 1000000 x.1 1) (fun r2 => ob (mulDiv_S F x.2.1.2 1000000 x.1 2) (fun r3 => _)) = some (v, e) ∧ _
    rw [e1, e2, ob_some, ob_some]
    by_cases q1 : fl x.2.1.1 1000000 x.1 ≤ 1000000000000000
    · rw [if_pos q1]
      by_cases q2 : cl x.2.1.2 1000000 x.1 ≤ 1000000000000000
      · rw [if_pos q2]
        exact ⟨_, _, rfl, fun _ => ⟨hr, rfl, q2⟩⟩
      · rw [if_neg q2]
        exact ⟨_, 10, rfl, fun h => by cases h⟩
    · rw [if_neg q1]
      exact ⟨_, 10, rfl, fun h => by cases h⟩
  · rw [dec_f hr]
    exact ⟨_, 2, rfl, fun h => by cases h⟩
theorem conc_one (x : Tfr) (hm : 1 ≤ x.1 ∧ x.1 ≤ 1000000000) (hr : okR x.2.1 1000000000000) (hq : cl x.2.1.2 1000000 x.1 ≤ 1000000000000000) : conc0_S F x = some ((fl x.2.1.1 1000000 x.1, cl x.2.1.2 1000000 x.1), 0) := by
  obtain ⟨h1, h2, h3⟩ := id hr
  unfold conc0_S
  rw [within_eq, dec_t hm, ob_some, isR_eq, dec_t hr]
  obtain ⟨z1, e1⟩ := mdI1 F hF (u := x.2.1.1) (a := 1000000) (b := x.1) (by omega) (by omega) (by omega)
  obtain ⟨z2, e2⟩ := mdI2 F hF (u := x.2.1.2) (a := 1000000) (b := x.1) (by omega) (by omega) (by omega)
  have q1 : fl x.2.1.1 1000000 x.1 ≤ 1000000000000000 := by
    have a1 := fl_u (a := 1000000) (show 0 < x.1 by omega) (by omega) h2
    have a2 := fl_cl (u := x.2.1.2) (a := 1000000) (show 0 < x.1 by omega)
    omega
  show ob (mulDiv_S F x.2.1.1 1000000 x.1 1) (fun r2 => ob (mulDiv_S F x.2.1.2 1000000 x.1 2) (fun r3 => _)) = _
  rw [e1, e2, ob_some, ob_some, if_pos q1, if_pos hq]
  rfl
end
/-! ## A wafer with one value that is not 0 -/
def gauge5 : ByteArray := (ByteArray.mk (Array.mk (103 :: (97 :: (117 :: (103 :: (101 :: [])))))))
theorem isG (F : Nat) : isGauge_S F gauge5 = some true := by kernel_rfl
def bigR : Tr := (-1000000000000000, 1000000000000000)
def wfD (c : Tr) : (Tr × (Tr × (Tr × (Tr × (Tr × Tr))))) × (Int × (ByteArray × (ByteArray × (ByteArray × (ByteArray × (ByteArray × ByteArray)))))) := ((c, ((0, 0), ((0, 0), ((0, 0), ((0, 0), (0, 0)))))), (1, (gauge5, (gauge5, (gauge5, (gauge5, (gauge5, gauge5)))))))
def spD (t : Tr) : (Tr × (Tr × (Tr × (Tr × (Tr × Tr))))) × Int := ((t, (bigR, (bigR, (bigR, (bigR, bigR))))), 31)
section
variable (F : Nat)
theorem rng1 {r : Tr} (h : okR r 1000000000000000) : areRanges1_S F r = some false := by
  obtain ⟨h1, h2, h3⟩ := h
  unfold areRanges1_S
  rw [dec_f (show ¬ r.1 < -1000000000000000 by omega), dec_f (show ¬ r.1 > r.2 by omega), dec_f (show ¬ r.2 > 1000000000000000 by omega)]
  rfl
theorem spOk {t : Tr} (h : okR t 1000000000000000) : isSpec_S F (spD t) = some true := by
  unfold isSpec_S areRanges_S
  show ob (ob (areRanges1_S F t) _) _ = _
  rw [rng1 F h]
  rfl
theorem wfOk {c : Tr} (h : okR c 1000000000000000) : isWafer_S F (wfD c) = some true := by
  have hg : isWafer1_S F gauge5 = some false := by unfold isWafer1_S; rw [isG]; rfl
  have h1 : areRanges_S F (wfD c).1 = some true := by
    unfold areRanges_S
    show ob (areRanges1_S F c) _ = _
    rw [rng1 F h]
    rfl
  unfold isWafer_S
  refine ob_at h1 ?_
  rw [cond_true]
  refine ob_at (y := true) (by kernel_rfl) ?_
  rw [cond_true]
  refine ob_at hg ?_
  rw [cond_false]
  refine ob_at hg ?_
  rw [cond_false]
  refine ob_at hg ?_
  rw [cond_false]
  refine ob_at hg ?_
  rw [cond_false]
  refine ob_at hg ?_
  rw [cond_false]
  refine ob_at hg ?_
  rw [cond_false]
/-- Passes: the grade of the one value. -/
theorem passes_eq {c t : Tr} (hc : okR c 1000000000000000) (ht : okR t 1000000000000000) : passes_S F (spD t) (wfD c) = some (if t.1 ≤ c.1 ∧ c.2 ≤ t.2 then 1 else if c.2 < t.1 ∨ t.2 < c.1 then 3 else 2, 0) := by
  unfold passes_S
  refine ob_at (ob_at (spOk F ht) (ob_at (wfOk F hc) rfl)) ?_
  show ob (fault_S F (spD t) (wfD c)) _ = _
  have hn : never_S F (spD t) (wfD c) = some (decide (c.2 < t.1 ∨ t.2 < c.1)) := by
    unfold never_S
    show (bif decide (c.2 < t.1) then _ else bif decide (c.1 > t.2) then _ else _) = _
    by_cases h1 : c.2 < t.1
    · rw [dec_t h1, dec_t (show c.2 < t.1 ∨ t.2 < c.1 from Or.inl h1)]; rfl
    · rw [dec_f h1]
      by_cases h2 : c.1 > t.2
      · rw [dec_t h2, dec_t (show c.2 < t.1 ∨ t.2 < c.1 from Or.inr h2)]; rfl
      · rw [dec_f h2, dec_f (show ¬ (c.2 < t.1 ∨ t.2 < c.1) by omega)]; kernel_rfl
  have hf : ∃ f, fault_S F (spD t) (wfD c) = some f ∧ (f < 0 ↔ t.1 ≤ c.1 ∧ c.2 ≤ t.2) := by
    unfold fault_S
    show ∃ f, (bif decide (c.1 < t.1) then _ else bif decide (c.2 > t.2) then _ else _) = some f ∧ _
    by_cases h1 : c.1 < t.1
    · rw [dec_t h1]; exact ⟨0, rfl, by omega⟩
    · rw [dec_f h1]
      by_cases h2 : c.2 > t.2
      · rw [dec_t h2]; exact ⟨0, rfl, by omega⟩
      · rw [dec_f h2]; exact ⟨-1, by kernel_rfl, by omega⟩
  obtain ⟨f, e, hf⟩ := hf
  rw [e, ob_some]
  by_cases h : t.1 ≤ c.1 ∧ c.2 ≤ t.2
  · rw [if_pos h, dec_t (hf.2 h)]; rfl
  · rw [if_neg h, dec_f (fun h' => h (hf.1 h'))]
    show ob (never_S F (spD t) (wfD c)) _ = _
    rw [hn, ob_some]
    by_cases h2 : c.2 < t.1 ∨ t.2 < c.1
    · rw [dec_t h2, if_pos h2]; rfl
    · rw [dec_f h2, if_neg h2]; rfl
end
end M3
end Go.Proofs.YtcbbhiobibhdnaaDoor


namespace Go.Proofs.YtcbbhiobibhdnaaDoor
namespace M3
open Go.RowKit U8
set_option maxRecDepth 100000
set_option maxHeartbeats 4000000
def zB : Tb := ((0, 0), ((0, 0), (0, 0)))
/-- The slices before their contents are filled in. -/
def fr0 : List Tst → List Tfr
  | [] => []
  | x :: l => if x.1 = 1 then (x.2.1, zB) :: fr0 l else fr0 l
theorem fr0_len (b : Tb → Tr) : ∀ (l : List Tst) (m dp dr : Int), (sl b l m dp dr).length = (fr0 l).length
  | [], _, _, _ => rfl
  | x :: l, m, dp, dr => by
    rw [sl, fr0]
    split
    · rw [List.length_cons, List.length_cons, fr0_len b l]
    · exact fr0_len b l _ _ _
theorem fr0_le : ∀ l : List Tst, (fr0 l).length ≤ l.length
  | [] => Nat.le_refl _
  | x :: l => by
    have ih := fr0_le l
    rw [fr0]
    split <;> simp only [List.length_cons] <;> omega
theorem fr0_mass : ∀ (l : List Tst) (m : Int), run l m → ∀ f, f ∈ fr0 l → 1 ≤ f.1 ∧ f.1 ≤ 1000000000
  | [], _, _ => fun f h => by cases h
  | x :: l, m, hr => by
    obtain ⟨hs, _, _, hr'⟩ := hr
    have ih := fr0_mass l _ hr'
    rw [fr0]
    split
    · rename_i k1
      intro f hf
      rcases List.mem_cons.1 hf with e | e
      · rw [e]
        rcases hs with ⟨_, h, _⟩ | ⟨k, _⟩ | ⟨k, _⟩ | ⟨k, _⟩
        · exact h
        · omega
        · omega
        · omega
      · exact ih f e
    · exact ih
theorem ob_exq {α β : Type} {x : Option α} {f : α → Option β} {Q : Option β → Prop} {y : α} (h : x = some y) (h2 : Q (f y)) : Q (ob x f) := by rw [h]; exact h2
theorem ob_exx {α β ι : Type} {x : Option α} {f : α → Option β} {Q : Option β → Prop} (g : ι → α) (h : ∃ n, x = some (g n)) (h2 : ∀ n, Q (f (g n))) : Q (ob x f) := by
  obtain ⟨n, h4⟩ := h
  rw [h4]
  exact h2 n
theorem nth_in {α : Type} {l : List α} {i : Nat} (h : i < l.length) (d : α) : nth l d i ∈ l := by
  rw [← nth_eq l d i h]; exact List.getElem_mem h
section
variable (F : Nat)
theorem preL (l : List Tst) (hl : l.length ≤ 200) (m1 : Tfr) : ∀ (j k i : Nat) (r : Int × (Int × (Int × (Int × (Int × (Int × Int)))))) (acc : List Tfr), i + j = l.length → j < k → run (l.drop i) r.1 → 0 ≤ r.1 ∧ r.1 ≤ 1000000000 → acc.length ≤ i → ∃ r', predict_L0 F ((l.length - 0) : Int) l m1 k (i : Int) r acc = some (l, (m1, ((r', r.2), acc ++ fr0 (l.drop i))))
  | j, 0, _, _, _, _, h, _, _, _ => by omega
  | 0, k + 1, i, r, acc, h, _, _, _, _ => by
    simp only [predict_L0]
    rw [dec_f (show ¬ (i : Int) < (l.length - 0 : Int) by omega), List.drop_eq_nil_of_le (show l.length ≤ i by omega), fr0, List.append_nil]
    exact ⟨_, rfl⟩
  | j + 1, k + 1, i, r, acc, h, hj, hr, hm, ha => by
    have hi : i < l.length := by omega
    rw [drop_c hi zS] at hr ⊢
    simp only [predict_L0]
    rw [dec_t (show (i : Int) < (l.length - 0 : Int) by omega), show inB (i : Int) (l.length - 0) = true from inB_t hi, Int.toNat_natCast, wI i hi hl]
    generalize nth l zS i = x at hr ⊢
    obtain ⟨hs, hg0, hg1, hr'⟩ := hr
    have hlen : ∀ c : Tfr, (bif false then (lenOk2 (acc.length - 0) (c :: []).length) else (lenOk (acc.length - 0) (c :: []).length)) = true := by
      intro c
      show lenOk _ _ = true
      unfold lenOk
      rw [dec_t (by simp only [List.length_cons, List.length_nil]; omega)]
    rw [hlen, grown_eq F (stM hs) hm, ob_some, ob_some, fr0]
    by_cases k1 : x.1 = 1
    · rw [if_pos k1, bq k1]
      obtain ⟨r', e⟩ := preL l hl m1 j k (i + 1) (gm r.1 x, r.2) (acc ++ ((x.2.1, zB) :: [])) (by omega) (by omega) hr' ⟨hg0, hg1⟩ (by simp only [List.length_append, List.length_cons, List.length_nil]; omega)
      rw [List.append_assoc] at e
      exact ⟨r', e⟩
    · rw [if_neg k1, bn k1]
      exact preL l hl m1 j k (i + 1) (gm r.1 x, r.2) acc (by omega) (by omega) hr' ⟨hg0, hg1⟩ (by omega)
theorem predict_no (m : Tfr) (l : List Tst) {e : Int} (hc : mCheck_S F m l = some e) (he : e ≠ 0) : ∃ R, predict_S F m l = some ((R, e), []) := by
  unfold predict_S
  refine ob_exq (Q := fun o => ∃ R, o = some ((R, e), [])) hc ?_
  rw [show (e != 0) = true by simp [he], cond_true]
  exact ⟨_, rfl⟩
variable (hF : 2000 < F)
include hF
/-- Predict: the masses and the contents of the first species. -/
theorem predict_ok (m : Tfr) (l : List Tst) (hc : mCheck_S F m l = some 0) (hl : l.length ≤ 200) (hm : 0 ≤ m.1 ∧ m.1 ≤ 1000000000) (hB : okB m.2 1000000000000) (hr : run l m.1) : ∃ R sls, predict_S F m l = some ((R, 0), sls) ∧ sls.length = (sl s0 l m.1 (s0 m.2).1 (s0 m.2).2).length ∧ sls.length ≤ 200 ∧ ∀ (i : Nat) (h : i < (sl s0 l m.1 (s0 m.2).1 (s0 m.2).2).length), (nth sls zF i).2.1 = (sl s0 l m.1 (s0 m.2).1 (s0 m.2).2)[i] ∧ (1 ≤ (nth sls zF i).1 ∧ (nth sls zF i).1 ≤ 1000000000) := by
  obtain ⟨r', e0⟩ := preL F l hl m l.length F 0 (m.1, (m.2.1.1, (m.2.1.2, (m.2.2.1.1, (m.2.2.1.2, m.2.2.2))))) [] (by omega) (by omega) hr hm (Nat.le_refl _)
  have n0 := fr0_len s0 l m.1 (s0 m.2).1 (s0 m.2).2
  have n1 := fr0_len s1 l m.1 (s1 m.2).1 (s1 m.2).2
  have n2 := fr0_len s2 l m.1 (s2 m.2).1 (s2 m.2).2
  have nl := fr0_le l
  have f0 := fun R => fil0 F hF l hl m hm hB.1 hr R (fr0 l) (by omega) (by omega)
  have p0 := puts_len put0 (sl s0 l m.1 (s0 m.2).1 (s0 m.2).2) (fr0 l) 0
  have f1 := fun R => fil1 F hF l hl m hm hB.2.1 hr R (puts put0 (fr0 l) 0 (sl s0 l m.1 (s0 m.2).1 (s0 m.2).2)) (by omega) (by omega)
  have p1 := puts_len put1 (sl s1 l m.1 (s1 m.2).1 (s1 m.2).2) (puts put0 (fr0 l) 0 (sl s0 l m.1 (s0 m.2).1 (s0 m.2).2)) 0
  have f2 := fun R => fil2 F hF l hl m hm hB.2.2 hr R (puts put1 (puts put0 (fr0 l) 0 (sl s0 l m.1 (s0 m.2).1 (s0 m.2).2)) 0 (sl s1 l m.1 (s1 m.2).1 (s1 m.2).2)) (by omega) (by omega)
  have p2 := puts_len put2 (sl s2 l m.1 (s2 m.2).1 (s2 m.2).2) (puts put1 (puts put0 (fr0 l) 0 (sl s0 l m.1 (s0 m.2).1 (s0 m.2).2)) 0 (sl s1 l m.1 (s1 m.2).1 (s1 m.2).2)) 0
  have key : ∃ R, predict_S F m l = some ((R, 0), puts put2 (puts put1 (puts put0 (fr0 l) 0 (sl s0 l m.1 (s0 m.2).1 (s0 m.2).2)) 0 (sl s1 l m.1 (s1 m.2).1 (s1 m.2).2)) 0 (sl s2 l m.1 (s2 m.2).1 (s2 m.2).2)) := by
    unfold predict_S
    refine ob_exq (Q := fun o => ∃ R, o = some ((R, 0), puts put2 (puts put1 (puts put0 (fr0 l) 0 (sl s0 l m.1 (s0 m.2).1 (s0 m.2).2)) 0 (sl s1 l m.1 (s1 m.2).1 (s1 m.2).2)) 0 (sl s2 l m.1 (s2 m.2).1 (s2 m.2).2))) hc ?_
    rw [show ((0 : Int) != 0) = false from rfl, cond_false]
    refine ob_exq (Q := fun o => ∃ R, o = some ((R, 0), puts put2 (puts put1 (puts put0 (fr0 l) 0 (sl s0 l m.1 (s0 m.2).1 (s0 m.2).2)) 0 (sl s1 l m.1 (s1 m.2).1 (s1 m.2).2)) 0 (sl s2 l m.1 (s2 m.2).1 (s2 m.2).2))) e0 ?_
    refine ob_exx (Q := fun o => ∃ R, o = some ((R, 0), puts put2 (puts put1 (puts put0 (fr0 l) 0 (sl s0 l m.1 (s0 m.2).1 (s0 m.2).2)) 0 (sl s1 l m.1 (s1 m.2).1 (s1 m.2).2)) 0 (sl s2 l m.1 (s2 m.2).1 (s2 m.2).2))) (fun R' => (R', _)) (f0 _) (fun R0 => ?_)
    refine ob_exx (Q := fun o => ∃ R, o = some ((R, 0), puts put2 (puts put1 (puts put0 (fr0 l) 0 (sl s0 l m.1 (s0 m.2).1 (s0 m.2).2)) 0 (sl s1 l m.1 (s1 m.2).1 (s1 m.2).2)) 0 (sl s2 l m.1 (s2 m.2).1 (s2 m.2).2))) (fun R' => (R', _)) (f1 _) (fun R1 => ?_)
    refine ob_exx (Q := fun o => ∃ R, o = some ((R, 0), puts put2 (puts put1 (puts put0 (fr0 l) 0 (sl s0 l m.1 (s0 m.2).1 (s0 m.2).2)) 0 (sl s1 l m.1 (s1 m.2).1 (s1 m.2).2)) 0 (sl s2 l m.1 (s2 m.2).1 (s2 m.2).2))) (fun R' => (R', _)) (f2 _) (fun R2 => ?_)
    exact ⟨_, rfl⟩
  obtain ⟨R, key⟩ := key
  refine ⟨R, puts put2 (puts put1 (puts put0 (fr0 l) 0 (sl s0 l m.1 (s0 m.2).1 (s0 m.2).2)) 0 (sl s1 l m.1 (s1 m.2).1 (s1 m.2).2)) 0 (sl s2 l m.1 (s2 m.2).1 (s2 m.2).2), ?_, by omega, by omega, fun i h => ?_⟩
  rotate_left
  · have a2 := puts_nth put2 (sl s2 l m.1 (s2 m.2).1 (s2 m.2).2) (puts put1 (puts put0 (fr0 l) 0 (sl s0 l m.1 (s0 m.2).1 (s0 m.2).2)) 0 (sl s1 l m.1 (s1 m.2).1 (s1 m.2).2)) 0 i (by omega) (by omega)
    have a1 := puts_nth put1 (sl s1 l m.1 (s1 m.2).1 (s1 m.2).2) (puts put0 (fr0 l) 0 (sl s0 l m.1 (s0 m.2).1 (s0 m.2).2)) 0 i (by omega) (by omega)
    have a0 := puts_nth put0 (sl s0 l m.1 (s0 m.2).1 (s0 m.2).2) (fr0 l) 0 i (by omega) (by omega)
    rw [Nat.zero_add] at a0 a1 a2
    rw [a2, a1, a0]
    exact ⟨rfl, fr0_mass l m.1 hr (nth (fr0 l) zF i) (nth_in (by omega) _)⟩
  · exact key
end
def SU (t : Tr) (f : Tfr) : Prop := (t.1 * f.1 ≤ f.2.1.1 * 1000000 ∧ f.2.1.1 * 1000000 ≤ t.2 * f.1) ∧ (t.1 * f.1 ≤ f.2.1.2 * 1000000 ∧ f.2.1.2 * 1000000 ≤ t.2 * f.1)
def GR (t : Tr) (f : Tfr) (g : Int) : Prop := (g = 1 ∧ SU t f) ∨ (g = 2 ∧ ¬ SU t f ∧ ∃ n, f.2.1.1 ≤ n ∧ n ≤ f.2.1.2 ∧ t.1 * f.1 ≤ n * 1000000 ∧ n * 1000000 ≤ t.2 * f.1) ∨ (g = 3 ∧ ¬ SU t f)
section
variable (F : Nat) (hF : 2000 < F)
include hF
theorem jdgL (sls : List Tfr) (hl : sls.length ≤ 200) (hs : ∀ f, f ∈ sls → (1 ≤ f.1 ∧ f.1 ≤ 1000000000) ∧ 0 ≤ f.2.1.1 ∧ f.2.1.1 ≤ f.2.1.2 ∧ f.2.1.2 ≤ 1000000000000000) (t : Tr) (ht : okR t 1000000000000) (l : List Tst) : ∀ (j k i : Nat) (out : List Int), i + j = sls.length → j < k → out.length ≤ i → ∃ gs, judge0_L0 F k ((sls.length - 0) : Int) (i : Int) l t out sls = some (l, out ++ gs) ∧ F2 (GR t) (sls.drop i) gs
  | j, 0, _, _, _, h, _ => by omega
  | 0, k + 1, i, out, h, _, _ => by
    simp only [judge0_L0]
    rw [dec_f (show ¬ (i : Int) < (sls.length - 0 : Int) by omega), List.drop_eq_nil_of_le (show sls.length ≤ i by omega)]
    exact ⟨[], by rw [List.append_nil]; rfl, F2.nil⟩
  | j + 1, k + 1, i, out, h, hj, ho => by
    have hi : i < sls.length := by omega
    rw [drop_c hi zF]
    simp only [judge0_L0]
    rw [dec_t (show (i : Int) < (sls.length - 0 : Int) by omega), show inB (i : Int) (sls.length - 0) = true from inB_t hi, Int.toNat_natCast]
    have hx := hs _ (nth_in hi zF)
    generalize nth sls zF i = f at hx ⊢
    obtain ⟨hm, h1, h2, h3⟩ := hx
    obtain ⟨t1, t2, t3⟩ := id ht
    have hlen : ∀ c : Int, (bif false then (lenOk2 (out.length - 0) (c :: []).length) else (lenOk (out.length - 0) (c :: []).length)) = true := by
      intro c
      show lenOk _ _ = true
      unfold lenOk
      rw [dec_t (by simp only [List.length_cons, List.length_nil]; omega)]
    have fin : ∀ g : Int, GR t f g → ∃ gs, judge0_L0 F k ((sls.length - 0) : Int) (IntKind.wrap IntKind.i64 ((i : Int) + 1)) l t (out ++ (g :: [])) sls = some (l, out ++ gs) ∧ F2 (GR t) (f :: sls.drop (i + 1)) gs := by
      intro g hg
      rw [wI i hi hl]
      obtain ⟨gs, e1, e2⟩ := jdgL sls hl hs t ht l j k (i + 1) (out ++ (g :: [])) (by omega) (by omega) (by simp only [List.length_append, List.length_cons, List.length_nil]; omega)
      rw [List.append_assoc] at e1
      exact ⟨g :: gs, e1, F2.cons hg e2⟩
    have tail : ∀ (g : Int) (X : Option ((Int × (Int × Int)) × (List Tst × (Tr × (List Int × List Tfr))))), GR t f g → X = some ((g, (((sls.length - 0) : Int), (i : Int))), (l, (t, (out, sls)))) → ∃ gs, ob X (fun s2 => (bif (bif false then (lenOk2 (s2.2.2.2.1.length - 0) (s2.1.1 :: []).length) else (lenOk (s2.2.2.2.1.length - 0) (s2.1.1 :: []).length)) then (judge0_L0 F k s2.1.2.1 (IntKind.wrap IntKind.i64 (s2.1.2.2 + (1 : Int))) s2.2.1 s2.2.2.1 (s2.2.2.2.1 ++ (s2.1.1 :: [])) s2.2.2.2.2) else none)) = some (l, out ++ gs) ∧ F2 (GR t) (f :: sls.drop (i + 1)) gs := by
      intro g X hg hX
      obtain ⟨gs, e1, e2⟩ := fin g hg
      refine ⟨gs, ob_at hX ?_, e2⟩
      rw [hlen, cond_true]
      exact e1
    rw [cond_true]
    obtain ⟨b, e3, e4⟩ := some_eq F hF (c := f.2.1) (t := t) (m := f.1) ⟨h1, h2, h3⟩ hm ht
    have m1 := meets_eq F (c := f.2.1.1) (m := f.1) (t := t) ⟨by omega, by omega⟩ ⟨by omega, by omega⟩ ⟨by omega, by omega⟩ ⟨by omega, by omega⟩
    have m2 := meets_eq F (c := f.2.1.2) (m := f.1) (t := t) ⟨by omega, by omega⟩ ⟨by omega, by omega⟩ ⟨by omega, by omega⟩ ⟨by omega, by omega⟩
    by_cases q : SU t f
    · refine tail 1 _ (Or.inl ⟨rfl, q⟩) ?_
      rw [dec_t q.1] at m1
      rw [dec_t q.2] at m2
      refine ob_at (y := ((((sls.length - 0) : Int), ((i : Int), true)), (l, (t, (out, (f, (f.2.1, sls))))))) (ob_at m1 ?_) ?_
      · rw [cond_true]
        exact ob_at m2 rfl
      · rfl
    · refine tail (bif b then 2 else 3) _ ?_ ?_
      · cases b with
        | true => exact Or.inr (Or.inl ⟨rfl, q, e4 rfl⟩)
        | false => exact Or.inr (Or.inr ⟨rfl, q⟩)
      · refine ob_at (y := ((((sls.length - 0) : Int), ((i : Int), false)), (l, (t, (out, (f, (f.2.1, sls))))))) ?_ ?_
        · refine ob_at m1 ?_
          by_cases q1 : t.1 * f.1 ≤ f.2.1.1 * 1000000 ∧ f.2.1.1 * 1000000 ≤ t.2 * f.1
          · rw [dec_t q1, cond_true]
            refine ob_at m2 ?_
            rw [dec_f (fun h => q ⟨q1, h⟩)]
          · rw [dec_f q1, cond_false]
        · dsimp only
          rw [cond_false]
          refine ob_at e3 ?_
          cases b <;> rfl
theorem judge_ok (m : Tfr) (l : List Tst) {R : Int × (Int × (Int × (Int × (Int × (Int × (Int × (Int × (Int × (Int × (Int × (Int × (Int × (Int × (Int × (Int × (Int × (Int × (Int × (Int × (Int × (Int × (Int × (Int × Int)))))))))))))))))))))))} {sls : List Tfr} (hp : predict_S F m l = some ((R, 0), sls)) (hl : sls.length ≤ 200) (hs : ∀ f, f ∈ sls → (1 ≤ f.1 ∧ f.1 ≤ 1000000000) ∧ 0 ≤ f.2.1.1 ∧ f.2.1.1 ≤ f.2.1.2 ∧ f.2.1.2 ≤ 1000000000000000) (t : Tr) : (∃ e, judge0_S F m t l = some (e, []) ∧ e ≠ 0) ∨ okR t 1000000000000 ∧ ∃ gs, judge0_S F m t l = some (0, gs) ∧ F2 (GR t) sls gs := by
  unfold judge0_S
  by_cases ht : okR t 1000000000000
  · right
    obtain ⟨gs, e1, e2⟩ := jdgL F hF sls hl hs t ht l sls.length F 0 [] (by omega) (by omega) (Nat.le_refl _)
    refine ⟨ht, gs, ?_, e2⟩
    refine ob_at hp ?_
    rw [show ((0 : Int) != 0) = false from rfl, cond_false, isR_eq, dec_t ht, ob_some, Bool.not_true, cond_false]
    exact ob_at e1 rfl
  · left
    refine ⟨2, ob_at hp ?_, by decide⟩
    rw [show ((0 : Int) != 0) = false from rfl, cond_false, isR_eq, dec_f ht, ob_some, Bool.not_false, cond_true]
end
section
variable (F : Nat)
theorem judge_no (m : Tfr) (l : List Tst) {R : Int × (Int × (Int × (Int × (Int × (Int × (Int × (Int × (Int × (Int × (Int × (Int × (Int × (Int × (Int × (Int × (Int × (Int × (Int × (Int × (Int × (Int × (Int × (Int × Int)))))))))))))))))))))))} {e : Int} (hp : predict_S F m l = some ((R, e), [])) (he : e ≠ 0) (t : Tr) : judge0_S F m t l = some (e, []) := by
  unfold judge0_S
  refine ob_at hp ?_
  rw [show (e != 0) = true by simp [he], cond_true]
end
end M3
end Go.Proofs.YtcbbhiobibhdnaaDoor


namespace Go.Proofs.YtcbbhiobibhdnaaDoor
namespace M3
open Go.RowKit U8
set_option maxRecDepth 100000
set_option maxHeartbeats 4000000
abbrev TR : Type := Int × (Int × (Int × (Int × (Int × (Int × (Int × (Int × (Int × (Int × (Int × (Int × (Int × (Int × (Int × (Int × (Int × (Int × (Int × (Int × (Int × (Int × (Int × (Int × Int)))))))))))))))))))))))
theorem SU_iff {t : Tr} {f : Tfr} (hm : 1 ≤ f.1 ∧ f.1 ≤ 1000000000) (h : f.2.1.1 ≤ f.2.1.2) : (t.1 ≤ fl f.2.1.1 1000000 f.1 ∧ cl f.2.1.2 1000000 f.1 ≤ t.2) ↔ SU t f := by
  unfold SU
  rw [le_fl_iff (show 0 < f.1 by omega), cl_le_iff (show 0 < f.1 by omega)]
  omega
theorem never_3 {t : Tr} {f : Tfr} {g : Int} (hm : 1 ≤ f.1 ∧ f.1 ≤ 1000000000) (h : f.2.1.1 ≤ f.2.1.2) (hg : GR t f g) (hn : cl f.2.1.2 1000000 f.1 < t.1 ∨ t.2 < fl f.2.1.1 1000000 f.1) : g = 3 := by
  have no : ¬ ∃ n, f.2.1.1 ≤ n ∧ n ≤ f.2.1.2 ∧ t.1 * f.1 ≤ n * 1000000 ∧ n * 1000000 ≤ t.2 * f.1 := by
    rintro ⟨n, n1, n2, n3, n4⟩
    rcases hn with q | q
    · have q' : cl f.2.1.2 1000000 f.1 ≤ t.1 - 1 := by omega
      rw [cl_le_iff (show 0 < f.1 by omega), Int.sub_mul] at q'
      omega
    · have q' : t.2 + 1 ≤ fl f.2.1.1 1000000 f.1 := by omega
      rw [le_fl_iff (show 0 < f.1 by omega), Int.add_mul] at q'
      omega
  rcases hg with ⟨e, s1, s2⟩ | ⟨e, _, ex⟩ | ⟨e, _⟩
  · exact absurd ⟨f.2.1.1, Int.le_refl _, h, s1.1, s1.2⟩ no
  · exact absurd ex no
  · exact e
section
variable (F : Nat) (hF : 2000 < F)
include hF
/-- What is known of one slice. -/
def D1 (t : Tr) (f : Tfr) (g : Int) (a : Tc3) : Prop := (1 ≤ f.1 ∧ f.1 ≤ 1000000000) ∧ (0 ≤ f.2.1.1 ∧ f.2.1.1 ≤ f.2.1.2) ∧ GR t f g ∧ inR a.1 f.2.1
theorem dopL (l : List Tst) (tt : List Int) (t : Tr) (ht : okR t 1000000000000) (R : TR) (gs : List Int) (a : List Tc3) (sls : List Tfr) (hg : gs.length = a.length) (hs : sls.length = a.length) (hl : a.length ≤ 200) (H : ∀ i, i < a.length → D1 t (nth sls zF i) (nth gs 0 i) (nth a zC i)) : ∀ (j k i : Nat), i + j = a.length → j < k → tDoped_L0 F k (i : Int) l tt t R gs a (spD t) sls = some (.inr (l, tt))
  | j, 0, _, _, h => by omega
  | 0, k + 1, i, h, _ => by
    simp only [tDoped_L0]
    rw [dec_f (show ¬ (i : Int) < (a.length - 0 : Int) by omega)]
    rfl
  | j + 1, k + 1, i, h, hj => by
    have hi : i < a.length := by omega
    have ih := dopL l tt t ht R gs a sls hg hs hl H j k (i + 1) (by omega) (by omega)
    have hH := H i hi
    simp only [tDoped_L0]
    rw [dec_t (show (i : Int) < (a.length - 0 : Int) by omega), show inB (i : Int) (sls.length - 0) = true from inB_t (by omega), Int.toNat_natCast, cond_true, cond_true]
    have hin1 : inB (i : Int) (a.length - 0) = true := inB_t hi
    have hin2 : inB (i : Int) (gs.length - 0) = true := inB_t (by omega)
    have hin3 : inB (i : Int) (sls.length - 0) = true := inB_t (by omega)
    generalize hf : nth sls zF i = f at hH ⊢
    generalize hgi : nth gs (0 : Int) i = g at hH
    generalize ha : nth a zC i = c at hH
    obtain ⟨hm, ⟨hc1, hc2⟩, hGR, hin⟩ := hH
    obtain ⟨v, e, e1, e2⟩ := conc_any F hF f hm
    refine ob_at e1 ?_
    by_cases he : e = 0
    · obtain ⟨r1, r2, r3⟩ := e2 he
      obtain ⟨b1, b2, b3⟩ := id r1
      obtain ⟨t1, t2, t3⟩ := id ht
      subst he
      have hv : okR v 1000000000000000 := by
        rw [r2]
        have a1 := fl_u (a := 1000000) (show 0 < f.1 by omega) (by omega) b2
        have a2 := fl_cl (u := f.2.1.2) (a := 1000000) (show 0 < f.1 by omega)
        have a3 := pos (u := f.2.1.1) (a := 1000000) (show 0 < f.1 by omega) b1 (by omega)
        exact ⟨a3.1, by dsimp only; omega, r3⟩
      have hp := passes_eq F hv (show okR t 1000000000000000 from ⟨t1, t2, by omega⟩)
      have hsu : (t.1 ≤ v.1 ∧ v.2 ≤ t.2) ↔ SU t f := by rw [r2]; exact SU_iff hm hc2
      have hne : v.2 < t.1 ∨ t.2 < v.1 → g = 3 := by rw [r2]; exact never_3 hm hc2 hGR
      rw [show ((0 : Int) != 0) = false from rfl, cond_false]
      refine ob_at hp ?_
      refine ob_at (y := (((i : Int), ((if t.1 ≤ v.1 ∧ v.2 ≤ t.2 then 1 else if v.2 < t.1 ∨ t.2 < v.1 then 3 else 2), false)), (l, (tt, (t, (R, (gs, (a, (spD t, sls))))))))) ?_ ?_
      · dsimp only
        rw [show ((0 : Int) != 0) = false from rfl, cond_false, hin2, cond_true]
        by_cases hq : t.1 ≤ v.1 ∧ v.2 ≤ t.2
        · rw [if_pos hq]
          have hg1 : g = 1 := by
            rcases hGR with ⟨q, _⟩ | ⟨_, q, _⟩ | ⟨_, q⟩
            · exact q
            · exact absurd (hsu.1 hq) q
            · exact absurd (hsu.1 hq) q
          rw [hg1]
          rfl
        · rw [if_neg hq]
          have hg1 : (g == 1) = false := by
            rcases hGR with ⟨_, q⟩ | ⟨q, _⟩ | ⟨q, _⟩
            · exact absurd (hsu.2 q) hq
            · rw [q]; rfl
            · rw [q]; rfl
          rw [hg1]
          by_cases hq2 : v.2 < t.1 ∨ t.2 < v.1
          · rw [if_pos hq2, hne hq2]
            rfl
          · rw [if_neg hq2]
            rfl
      · dsimp only
        rw [cond_false, hin1, cond_true, hin3, Int.toNat_natCast, hf, ha]
        unfold inR at hin
        have o1 : okR ((c.1, c.1) : Tr) 1000000000000 := ⟨by dsimp only; omega, Int.le_refl _, by dsimp only; omega⟩
        have q1 := fl_u (a := 1000000) (show 0 < f.1 by omega) (by omega) hin.1
        have q2 := cl_u (a := 1000000) (show 0 < f.1 by omega) (by omega) hin.2
        have oc := conc_one F hF (f.1, ((c.1, c.1), ((0, 0), (0, 0)))) hm o1 (by dsimp only; omega)
        refine ob_at oc ?_
        refine ob_at (y := (((i : Int), false), (l, (tt, (t, (R, (gs, (a, (spD t, sls))))))))) ?_ ?_
        · dsimp only
          rw [show ((0 : Int) != 0) = false from rfl, cond_false]
          by_cases hq : t.1 ≤ v.1 ∧ v.2 ≤ t.2
          · rw [if_pos hq, show ((1 : Int) == 1) = true from rfl, cond_true]
            rw [r2] at hq
            dsimp only at hq
            rw [dec_f (show ¬ fl c.1 1000000 f.1 < t.1 by omega), dec_f (show ¬ cl c.1 1000000 f.1 > t.2 by omega)]
            rfl
          · rw [if_neg hq]
            split <;> rfl
        · dsimp only
          rw [cond_false, wI i hi hl]
          exact ih
    · rw [show (e != 0) = true by simp [he], cond_true, wI i hi hl]
      exact ih
end
/-- The law. -/
theorem doped_law (F : Nat) (hF : 2000 < F) (m : Tfr) (t : Tr) (l : List Tst) (tt : List Int) (hk : ∀ x ∈ l, 0 ≤ x.1 ∧ x.1 ≤ 255) (htt : isT tt) : tDoped_S F m t l tt = some true := by
  unfold tDoped_S
  by_cases h40 : l.length ≤ 40
  · rw [dec_f (show ¬ (l.length - 0 : Int) > 40 by omega), cond_false]
    have hst : stepsOf_S F l = some l := by
      unfold stepsOf_S
      have : lenOk 0 l.length = true := by unfold lenOk; rw [dec_t (by omega)]
      show (bif lenOk 0 l.length then _ else _) = _
      rw [this]
      rfl
    obtain ⟨e, e1, e2⟩ := check_eq F hF m l hk
    refine ob_at hst ?_
    by_cases he : e = 0
    · obtain ⟨hl, hm, hB, hr⟩ := e2 he
      subst he
      obtain ⟨R, sls, p1, p2, p3, p4⟩ := predict_ok F hF m l e1 hl hm hB hr
      refine ob_at p1 (ob_at hst ?_)
      have hsl := sl_ok sp0 l m.1 (s0 m.2).1 (s0 m.2).2 hr hB.1.1 hB.1.2.1
      have hB0 := hB.1.2.2
      have hS : ∀ i, i < sls.length → (1 ≤ (nth sls zF i).1 ∧ (nth sls zF i).1 ≤ 1000000000) ∧ 0 ≤ (nth sls zF i).2.1.1 ∧ (nth sls zF i).2.1.1 ≤ (nth sls zF i).2.1.2 ∧ (nth sls zF i).2.1.2 ≤ 1000000000000000 := by
        intro i hi
        obtain ⟨q1, q2⟩ := p4 i (by omega)
        rw [q1]
        have := hsl _ (List.getElem_mem (show i < (sl s0 l m.1 (s0 m.2).1 (s0 m.2).2).length by omega))
        have hB0' : (s0 m.2).2 ≤ 1000000000000 := hB0
        exact ⟨q2, this.1, this.2.1, by omega⟩
      have hS' : ∀ f, f ∈ sls → (1 ≤ f.1 ∧ f.1 ≤ 1000000000) ∧ 0 ≤ f.2.1.1 ∧ f.2.1.1 ≤ f.2.1.2 ∧ f.2.1.2 ≤ 1000000000000000 := by
        intro f hf
        obtain ⟨i, hi, rfl⟩ := List.mem_iff_getElem.1 hf
        rw [nth_eq sls zF i hi]
        exact hS i hi
      rcases judge_ok F hF m l p1 p3 hS' t with ⟨e, j1, j2⟩ | ⟨ht, gs, j1, j2⟩
      · refine ob_at j1 ?_
        rw [show ((0 : Int) != 0) = false from rfl, cond_false, show (e != 0) = true by simp [j2]]
        rfl
      · refine ob_at j1 ?_
        rw [show ((0 : Int) != 0) = false from rfl, cond_false, cond_false]
        obtain ⟨v0, hv0, hv0b⟩ := place_eq F htt (i := 0) (by omega)
        obtain ⟨v1, hv1, hv1b⟩ := place_eq F htt (i := 1) (by omega)
        obtain ⟨v2, hv2, hv2b⟩ := place_eq F htt (i := 2) (by omega)
        refine ob_at hv0 (ob_at hv1 (ob_at hv2 (ob_at hst ?_)))
        obtain ⟨a0, ha0, ha0b⟩ := at_eq hB.1 (Int.le_refl _) hv0b
        obtain ⟨a1, ha1, ha1b⟩ := at_eq hB.2.1 (Int.le_refl _) hv1b
        obtain ⟨a2, ha2, ha2b⟩ := at_eq hB.2.2 (Int.le_refl _) hv2b
        rw [ha0, ha1, ha2]
        obtain ⟨k1, k2, k3⟩ := hB.1
        obtain ⟨k4, k5, k6⟩ := hB.2.1
        obtain ⟨k7, k8, k9⟩ := hB.2.2
        obtain ⟨cs, c1, c2, c3, c4, c5⟩ := course_eq F hF l hl tt htt m hm hr (a0, (a1, a2)) (by dsimp only; omega) (by dsimp only; omega) (by dsimp only; omega)
        refine ob_at c1 ?_
        obtain ⟨en, f1⟩ := follow_eq F hF l hl m hm hB hr e1 (a0, (a1, a2)) ha0b ha1b ha2b cs c2 c3 c4 c5
        refine ob_at f1 ?_
        have hfz : (fz l cs).length = sls.length := by rw [p2]; exact fz_len s0 l cs m.1 _ _ c2
        have hgs : sls.length = gs.length := j2.len
        have bt := between sp0 l (cs.map g0) m.1 (s0 m.2).1 a0 (s0 m.2).2 hr c3 k1 ha0b.1 ha0b.2
        rw [fz_map] at bt
        have loop := dopL F hF l tt t ht R gs (fz l cs) sls (by omega) (by omega) (by omega) (by
          intro i hi
          have q := hS i (by omega)
          have q4 := p4 i (by omega)
          refine ⟨q.1, ⟨q.2.1, q.2.2.1⟩, ?_, ?_⟩
          · rw [← nth_eq sls zF i (by omega), ← nth_eq gs 0 i (by omega)]
            exact j2.get i _ _
          · rw [q4.1]
            have := bt.get i (by omega) (by rw [List.length_map]; omega)
            rw [List.getElem_map] at this
            rw [← nth_eq (fz l cs) zC i hi]
            exact this) (fz l cs).length F 0 (by omega) (by omega)
        refine ob_at (y := (false, (l, (tt, (t, (R, (gs, (fz l cs, sls)))))))) ?_ ?_
        · dsimp only
          rw [show ((0 : Int) != 0) = false from rfl, cond_false, hfz, show (((sls.length - 0) : Int) != ((sls.length - 0) : Int)) = false by simp, cond_false, ← hgs, show (((sls.length - 0) : Int) != ((sls.length - 0) : Int)) = false by simp]
        · rw [cond_false]
          exact ob_at loop rfl
    · obtain ⟨R, p1⟩ := predict_no F m l e1 he
      have j1 := judge_no F m l p1 he t
      refine ob_at p1 (ob_at hst (ob_at j1 ?_))
      rw [show (e != 0) = true by simp [he], cond_true]
      rfl
  · rw [dec_t (show (l.length - 0 : Int) > 40 by omega)]
    rfl
end M3
end Go.Proofs.YtcbbhiobibhdnaaDoor
