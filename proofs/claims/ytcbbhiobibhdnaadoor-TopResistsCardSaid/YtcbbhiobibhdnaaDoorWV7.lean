/- Plain laws: the course that the statement makes is a true one. No condition. -/
import Derived.Test.YtcbbhiobibhdnaaDoorWXM10
import Derived.Test.YtcbbhiobibhdnaaDoorWV4

namespace Go.Proofs.YtcbbhiobibhdnaaDoor
namespace M3
open Go.RowKit U8
set_option maxRecDepth 100000
set_option maxHeartbeats 4000000
theorem ob_ex {α β ι : Type} {x : Option α} {f : α → Option β} {P : ι → Prop} {Q : Option β → Prop} (g : ι → α) (h : ∃ n, P n ∧ x = some (g n)) (h2 : ∀ n, P n → Q (f (g n))) : Q (ob x f) := by
  obtain ⟨n, h3, h4⟩ := h
  rw [h4]
  exact h2 n h3
theorem ob_to {α β : Type} {x : Option α} {f : α → Option β} {Q : Option β → Prop} {y : α} (h : x = some y) (h2 : Q (f y)) : Q (ob x f) := by rw [h]; exact h2
def isT (t : List Int) : Prop := ∀ v, v ∈ t → 0 ≤ v ∧ v ≤ 255
section
variable (F : Nat)
theorem place_eq {t : List Int} (ht : isT t) {i : Int} (hi : 0 ≤ i) : ∃ v, place_S F i t = some v ∧ 0 ≤ v ∧ v ≤ 255 := by
  unfold place_S
  by_cases h : t.length = 0
  · rw [show (((t.length - 0) : Int) == 0) = true from beq_iff_eq.2 (by omega)]
    exact ⟨0, rfl, by omega⟩
  · rw [show (((t.length - 0) : Int) == 0) = false from beq_eq_false_iff_ne.2 (by omega)]
    simp only [cond_false, Bool.not_false, cond_true]
    have h1 : 0 ≤ Int.tmod i ((t.length - 0) : Int) := Int.tmod_nonneg _ hi
    have h2 : Int.tmod i ((t.length - 0) : Int) < ((t.length - 0) : Int) := Int.tmod_lt_of_pos _ (by omega)
    generalize Int.tmod i ((t.length - 0) : Int) = q at h1 h2
    obtain ⟨q, rfl⟩ := Int.eq_ofNat_of_zero_le h1
    rw [show inB (q : Int) (t.length - 0) = true from inB_t (show q < t.length by omega), Int.toNat_natCast]
    refine ⟨_, rfl, ht _ ?_⟩
    rw [← nth_eq t 0 q (by omega)]
    exact List.getElem_mem _
theorem at_eq {r : Tr} {m : Int} (h : okR r m) (hm : m ≤ 1000000000000) {v : Int} (hv : 0 ≤ v ∧ v ≤ 255) : ∃ k, (IntKind.wrap IntKind.i64 (r.1 + (IntKind.wrap IntKind.i64 (Int.tdiv (IntKind.wrap IntKind.i64 ((IntKind.wrap IntKind.i64 (r.2 - r.1)) * (IntKind.wrap IntKind.i64 v))) (255 : Int))))) = k ∧ r.1 ≤ k ∧ k ≤ r.2 := by
  obtain ⟨h1, h2, h3⟩ := h
  have p1 : 0 ≤ (r.2 - r.1) * v := Int.mul_nonneg (by omega) hv.1
  have p2 : (r.2 - r.1) * v ≤ (r.2 - r.1) * 255 := Int.mul_le_mul_of_nonneg_left hv.2 (by omega)
  rw [w64 (r.2 - r.1) (by omega), w64 v (by omega), w64 ((r.2 - r.1) * v) (by omega), Int.tdiv_eq_ediv_of_nonneg p1]
  rw [w64 ((r.2 - r.1) * v / 255) (by omega), w64 _ (by omega)]
  exact ⟨_, rfl, by omega, by omega⟩
section
variable (hF : 2000 < F)
include hF
/-- A true choice of a step that freezes. -/
theorem crs1 {x : Tst} {r : Tr} {d m k : Int} (h : stR x r) (hm : 0 ≤ gm m x) (hm2 : m ≤ 1000000000) (hd : 0 ≤ d ∧ d ≤ 400000000000000) (k1 : x.1 = 1) (hne : ¬ x.2.1 = m) (hk : r.1 ≤ k ∧ k ≤ r.2) : ∃ n z, mulDiv_S F d (IntKind.wrap IntKind.i64 (k * x.2.1)) (IntKind.wrap IntKind.i64 ((10000 : Int) * m)) (3 : Int) = some (n, (z, 0)) ∧ inR (if d < n then d else n) (ch r x d m) := by
  rcases h with ⟨_, h1, h2, h3, h4⟩ | ⟨e, _⟩ | ⟨e, _⟩ | ⟨e, _⟩
  · have hb := frz h1.1 k1 hm hne
    have hM : x.2.1 ≤ m := by rw [gm, if_pos k1] at hm; omega
    obtain ⟨q1, q2⟩ := sh_b (s := k) (k := x.2.1) (m := m) (by omega) (by omega) (by omega)
    have q3 := cl2 (b := 10000 * m) (by omega) hd.1 q2
    obtain ⟨n, z, e1, e2, e3⟩ := mdI3 F hF (u := d) (a := k * x.2.1) (b := 10000 * m) (by omega) (by omega) (by omega) (by omega)
    refine ⟨n, z, ?_, ?_⟩
    · rw [w64 _ (by omega), w64 _ (by omega)]
      exact e1
    · rw [mi_eq]
      unfold ch
      rw [if_pos k1, if_neg hne]
      exact pN_in hb hd.1 (mul_lr hk.1 (by omega)) (mul_lr hk.2 (by omega)) e2 e3
  · omega
  · omega
  · omega
theorem crs4 {x : Tst} {r : Tr} {d m k : Int} (h : stR x r) (hd : 0 ≤ d ∧ d ≤ 400000000000000) (k4 : x.1 = 4) (hk : r.1 ≤ k ∧ k ≤ r.2) : ∃ n z, mulDiv_S F d k (10000 : Int) (3 : Int) = some (n, (z, 0)) ∧ inR n (ch r x d m) := by
  rcases h with ⟨e, _⟩ | ⟨e, _⟩ | ⟨e, _⟩ | ⟨_, h1, h2, h3, h4⟩
  · omega
  · omega
  · omega
  · have q3 := cl_le (u := d) (a := k) (b := 10000) (by omega) hd.1 (by omega)
    obtain ⟨n, z, e1, e2, e3⟩ := mdI3 F hF (u := d) (a := k) (b := 10000) (by omega) (by omega) (by omega) (by omega)
    refine ⟨n, z, e1, ?_⟩
    have := pN_in (show (0 : Int) < 10000 by omega) hd.1 hk.1 hk.2 e2 e3
    rw [show mi n d = n by unfold mi; split <;> omega] at this
    unfold ch
    rw [if_neg (by omega), if_pos k4]
    exact this
end
theorem crs2 {x : Tst} {r : Tr} {d m k : Int} (k2 : x.1 = 2 ∨ x.1 = 3) (hk : r.1 ≤ k ∧ k ≤ r.2) : inR k (ch r x d m) := by
  unfold ch
  rw [if_neg (by omega), if_neg (by omega)]
  exact hk
theorem crs1e {x : Tst} {r : Tr} {d m : Int} (k1 : x.1 = 1) (h : x.2.1 = m) : inR d (ch r x d m) := by
  unfold ch
  rw [if_pos k1, if_pos h]
  exact ⟨Int.le_refl _, Int.le_refl _⟩
theorem stR_ok {x : Tst} {r : Tr} (h : stR x r) : okR r 1000000000000 := by
  unfold okR
  rcases h with ⟨_, _, h2, h3, h4⟩ | ⟨_, _, h2, h3, h4⟩ | ⟨_, _, h2, h3, h4⟩ | ⟨_, _, h2, h3, h4⟩ <;> omega
def CQ (l : List Tst) (t : List Int) (out : List Tc3) (i j : Nat) (m : Int) (d : Tc3) (o : Option (List Tst × (List Int × List Tc3))) : Prop := ∃ cs : List Tc3, o = some (l, (t, out ++ cs)) ∧ cs.length = j ∧ Tru s0 (l.drop i) (cs.map g0) m d.1 ∧ Tru s1 (l.drop i) (cs.map g1) m d.2.1 ∧ Tru s2 (l.drop i) (cs.map g2) m d.2.2
theorem CQ_c {l : List Tst} {t : List Int} {out : List Tc3} {i j : Nat} {m : Int} {d : Tc3} {o : Option (List Tst × (List Int × List Tc3))} {x : Tst} (hi : i < l.length) (hx : nth l zS i = x) {n0 n1 n2 : Int} (h0 : inR n0 (ch (s0 x.2.2) x d.1 m)) (h1 : inR n1 (ch (s1 x.2.2) x d.2.1 m)) (h2 : inR n2 (ch (s2 x.2.2) x d.2.2 m)) (h : CQ l t (out ++ ((n0, (n1, n2)) :: [])) (i + 1) j (gm m x) (nx x d.1 n0, (nx x d.2.1 n1, nx x d.2.2 n2)) o) : CQ l t out i (j + 1) m d o := by
  obtain ⟨cs, e1, e2, e3, e4, e5⟩ := h
  refine ⟨(n0, (n1, n2)) :: cs, ?_, ?_, ?_, ?_, ?_⟩
  · rw [e1, List.append_assoc]; rfl
  · rw [List.length_cons, e2]
  · rw [drop_c hi zS, hx]; exact ⟨h0, e3⟩
  · rw [drop_c hi zS, hx]; exact ⟨h1, e4⟩
  · rw [drop_c hi zS, hx]; exact ⟨h2, e5⟩
variable (hF : 2000 < F)
include hF
theorem crsL (l : List Tst) (hl : l.length ≤ 200) (t : List Int) (ht : isT t) : ∀ (j k i : Nat) (m : Int) (d : Tc3) (out : List Tc3), i + j = l.length → j < k → run (l.drop i) m → 0 ≤ m ∧ m ≤ 1000000000 → (0 ≤ d.1 ∧ d.1 + 1000000000000 * j ≤ 400000000000000) → (0 ≤ d.2.1 ∧ d.2.1 + 1000000000000 * j ≤ 400000000000000) → (0 ≤ d.2.2 ∧ d.2.2 + 1000000000000 * j ≤ 400000000000000) → out.length ≤ i → CQ l t out i j m d (course_L0 F k m (i : Int) l t d out)
  | j, 0, _, _, _, _, _, h, _, _, _, _, _, _ => by omega
  | 0, k + 1, i, m, d, out, h, _, _, _, _, _, _, _ => by
    simp only [course_L0]
    rw [dec_f (show ¬ (i : Int) < (l.length - 0 : Int) by omega)]
    refine ⟨[], ?_, rfl, ?_, ?_, ?_⟩
    · rw [List.append_nil]; rfl
    · rw [List.drop_eq_nil_of_le (by omega)]; exact trivial
    · rw [List.drop_eq_nil_of_le (by omega)]; exact trivial
    · rw [List.drop_eq_nil_of_le (by omega)]; exact trivial
  | j + 1, k + 1, i, m, d, out, h, hj, hr, hm, hd0, hd1, hd2, ho => by
    have hi : i < l.length := by omega
    rw [drop_c hi zS] at hr
    obtain ⟨d0, d1, d2⟩ := d
    dsimp only at hd0 hd1 hd2
    have hin : inB (i : Int) (l.length - 0) = true := inB_t hi
    simp only [course_L0]
    rw [dec_t (show (i : Int) < (l.length - 0 : Int) by omega), cond_true]
    generalize hx : nth l zS i = x at hr
    obtain ⟨hs, hg0, hg1, hr'⟩ := hr
    obtain ⟨v0, hv0, hv0b⟩ := place_eq F ht (i := 3 * (i : Int) + 0 + 7) (by omega)
    obtain ⟨v1, hv1, hv1b⟩ := place_eq F ht (i := 3 * (i : Int) + 1 + 7) (by omega)
    obtain ⟨v2, hv2, hv2b⟩ := place_eq F ht (i := 3 * (i : Int) + 2 + 7) (by omega)
    have hp : ∀ q : Int, 0 ≤ q ∧ q ≤ 2 → IntKind.wrap IntKind.i64 ((IntKind.wrap IntKind.i64 ((IntKind.wrap IntKind.i64 ((3 : Int) * (i : Int))) + q)) + (7 : Int)) = 3 * (i : Int) + q + 7 := by
      intro q hq
      rw [w64 (3 * (i : Int)) (by omega), w64 (3 * (i : Int) + q) (by omega), w64 (3 * (i : Int) + q + 7) (by omega)]
    have R0 := st_R sp0 hs
    have R1 := st_R sp1 hs
    have R2 := st_R sp2 hs
    obtain ⟨a0, ha0, ha0b⟩ := at_eq (stR_ok R0) (Int.le_refl _) hv0b
    obtain ⟨a1, ha1, ha1b⟩ := at_eq (stR_ok R1) (Int.le_refl _) hv1b
    obtain ⟨a2, ha2, ha2b⟩ := at_eq (stR_ok R2) (Int.le_refl _) hv2b
    unfold s0 at ha0
    unfold s1 at ha1
    unfold s2 at ha2
    have hlen : ∀ c : Tc3, (bif false then (lenOk2 (out.length - 0) (c :: []).length) else (lenOk (out.length - 0) (c :: []).length)) = true := by
      intro c
      show lenOk _ _ = true
      unfold lenOk
      rw [dec_t (by simp only [List.length_cons, List.length_nil]; omega)]
    rcases stK4 hs with k1 | k1 | k1 | k1
    · have b1 : (x.1 == 1) = true := bq k1
      have b2 : (x.1 == 2) = false := bn (by omega)
      have b3 : (x.1 == 3) = false := bn (by omega)
      have b4 : (x.1 == 4) = false := bn (by omega)
      by_cases hM : x.2.1 = m
      · have bm : (x.2.1 != m) = false := by simp [hM]
        refine ob_ex (Q := CQ l t out i (j + 1) m (d0, (d1, d2))) (P := fun n => inR n (ch (s0 x.2.2) x d0 m)) (fun n : Int => ((m, (i : Int)), (l, (t, ((nx x d0 n, (d1, d2)), (out, (n, (0, 0)))))))) ?_ (fun n0 hn0 => ?_)
        · skip
          rw [hin, Int.toNat_natCast, hx, hp 0 (by omega), hv0, ob_some, ha0]
          simp only [b1, b4, cond_true, cond_false]
          rw [bm]
          have hn : inR d0 (ch (s0 x.2.2) x d0 m) := crs1e k1 hM
          have hw := nx_in R0 hg0 (by omega) hn
          exact ⟨d0, hn, congrArg (fun q => some ((m, (i : Int)), (l, (t, ((q, (d1, d2)), (out, (d0, (0, 0)))))))) (wSub (x := x) (d := d0) (n := d0) (by omega) ⟨hw.2.1, by omega⟩)⟩
        refine ob_ex (Q := CQ l t out i (j + 1) m (d0, (d1, d2))) (P := fun n => inR n (ch (s1 x.2.2) x d1 m)) (fun n : Int => ((m, (i : Int)), (l, (t, ((nx x d0 n0, (nx x d1 n, d2)), (out, (n0, (n, 0)))))))) ?_ (fun n1 hn1 => ?_)
        · dsimp only
          rw [hin, Int.toNat_natCast, hx, hp 1 (by omega), hv1, ob_some, ha1]
          simp only [b1, b4, cond_true, cond_false]
          rw [bm]
          have hn : inR d1 (ch (s1 x.2.2) x d1 m) := crs1e k1 hM
          have hw := nx_in R1 hg0 (by omega) hn
          exact ⟨d1, hn, congrArg (fun q => some ((m, (i : Int)), (l, (t, ((nx x d0 n0, (q, d2)), (out, (n0, (d1, 0)))))))) (wSub (x := x) (d := d1) (n := d1) (by omega) ⟨hw.2.1, by omega⟩)⟩
        refine ob_ex (Q := CQ l t out i (j + 1) m (d0, (d1, d2))) (P := fun n => inR n (ch (s2 x.2.2) x d2 m)) (fun n : Int => ((m, (i : Int)), (l, (t, ((nx x d0 n0, (nx x d1 n1, nx x d2 n)), (out, (n0, (n1, n)))))))) ?_ (fun n2 hn2 => ?_)
        · dsimp only
          rw [hin, Int.toNat_natCast, hx, hp 2 (by omega), hv2, ob_some, ha2]
          simp only [b1, b4, cond_true, cond_false]
          rw [bm]
          have hn : inR d2 (ch (s2 x.2.2) x d2 m) := crs1e k1 hM
          have hw := nx_in R2 hg0 (by omega) hn
          exact ⟨d2, hn, congrArg (fun q => some ((m, (i : Int)), (l, (t, ((nx x d0 n0, (nx x d1 n1, q)), (out, (n0, (n1, d2)))))))) (wSub (x := x) (d := d2) (n := d2) (by omega) ⟨hw.2.1, by omega⟩)⟩
        refine ob_to (Q := CQ l t out i (j + 1) m (d0, (d1, d2))) (y := ((gm m x, (i : Int)), (l, (t, ((nx x d0 n0, (nx x d1 n1, nx x d2 n2)), (out, (n0, (n1, n2)))))))) ?_ ?_
        · dsimp only
          rw [hin, Int.toNat_natCast, hx]
          simp only [b1, b2, cond_true, cond_false]
          rw [gm, if_pos k1] at hg0 hg1 ⊢
          rw [w64 (m - x.2.1) (by omega)]
        · dsimp only
          rw [hlen, wI i hi hl]
          have w0 := nx_in R0 hg0 (show 0 ≤ d0 by omega) hn0
          have w1 := nx_in R1 hg0 (show 0 ≤ d1 by omega) hn1
          have w2 := nx_in R2 hg0 (show 0 ≤ d2 by omega) hn2
          exact CQ_c hi hx hn0 hn1 hn2 (crsL l hl t ht j k (i + 1) (gm m x) _ _ (by omega) (by omega) hr' ⟨hg0, hg1⟩ ⟨w0.2.1, by dsimp only; omega⟩ ⟨w1.2.1, by dsimp only; omega⟩ ⟨w2.2.1, by dsimp only; omega⟩ (by simp only [List.length_append, List.length_cons, List.length_nil]; omega))
      · have bm : (x.2.1 != m) = true := by simp [hM]
        refine ob_ex (Q := CQ l t out i (j + 1) m (d0, (d1, d2))) (P := fun n => inR n (ch (s0 x.2.2) x d0 m)) (fun n : Int => ((m, (i : Int)), (l, (t, ((nx x d0 n, (d1, d2)), (out, (n, (0, 0)))))))) ?_ (fun n0 hn0 => ?_)
        · skip
          rw [hin, Int.toNat_natCast, hx, hp 0 (by omega), hv0, ob_some, ha0]
          simp only [b1, b4, cond_true, cond_false]
          rw [bm]
          obtain ⟨n, z, e1, hn⟩ := crs1 F hF R0 hg0 hm.2 (d := d0) (by omega) k1 hM ha0b
          have hw := nx_in R0 hg0 (by omega) hn
          exact ⟨_, hn, ob_at e1 (congrArg (fun q => some ((m, (i : Int)), (l, (t, ((q, (d1, d2)), (out, ((if d0 < n then d0 else n), (0, 0)))))))) (wSub (x := x) (d := d0) (n := (if d0 < n then d0 else n)) (by omega) ⟨hw.2.1, by omega⟩))⟩
        refine ob_ex (Q := CQ l t out i (j + 1) m (d0, (d1, d2))) (P := fun n => inR n (ch (s1 x.2.2) x d1 m)) (fun n : Int => ((m, (i : Int)), (l, (t, ((nx x d0 n0, (nx x d1 n, d2)), (out, (n0, (n, 0)))))))) ?_ (fun n1 hn1 => ?_)
        · dsimp only
          rw [hin, Int.toNat_natCast, hx, hp 1 (by omega), hv1, ob_some, ha1]
          simp only [b1, b4, cond_true, cond_false]
          rw [bm]
          obtain ⟨n, z, e1, hn⟩ := crs1 F hF R1 hg0 hm.2 (d := d1) (by omega) k1 hM ha1b
          have hw := nx_in R1 hg0 (by omega) hn
          exact ⟨_, hn, ob_at e1 (congrArg (fun q => some ((m, (i : Int)), (l, (t, ((nx x d0 n0, (q, d2)), (out, (n0, ((if d1 < n then d1 else n), 0)))))))) (wSub (x := x) (d := d1) (n := (if d1 < n then d1 else n)) (by omega) ⟨hw.2.1, by omega⟩))⟩
        refine ob_ex (Q := CQ l t out i (j + 1) m (d0, (d1, d2))) (P := fun n => inR n (ch (s2 x.2.2) x d2 m)) (fun n : Int => ((m, (i : Int)), (l, (t, ((nx x d0 n0, (nx x d1 n1, nx x d2 n)), (out, (n0, (n1, n)))))))) ?_ (fun n2 hn2 => ?_)
        · dsimp only
          rw [hin, Int.toNat_natCast, hx, hp 2 (by omega), hv2, ob_some, ha2]
          simp only [b1, b4, cond_true, cond_false]
          rw [bm]
          obtain ⟨n, z, e1, hn⟩ := crs1 F hF R2 hg0 hm.2 (d := d2) (by omega) k1 hM ha2b
          have hw := nx_in R2 hg0 (by omega) hn
          exact ⟨_, hn, ob_at e1 (congrArg (fun q => some ((m, (i : Int)), (l, (t, ((nx x d0 n0, (nx x d1 n1, q)), (out, (n0, (n1, (if d2 < n then d2 else n))))))))) (wSub (x := x) (d := d2) (n := (if d2 < n then d2 else n)) (by omega) ⟨hw.2.1, by omega⟩))⟩
        refine ob_to (Q := CQ l t out i (j + 1) m (d0, (d1, d2))) (y := ((gm m x, (i : Int)), (l, (t, ((nx x d0 n0, (nx x d1 n1, nx x d2 n2)), (out, (n0, (n1, n2)))))))) ?_ ?_
        · dsimp only
          rw [hin, Int.toNat_natCast, hx]
          simp only [b1, b2, cond_true, cond_false]
          rw [gm, if_pos k1] at hg0 hg1 ⊢
          rw [w64 (m - x.2.1) (by omega)]
        · dsimp only
          rw [hlen, wI i hi hl]
          have w0 := nx_in R0 hg0 (show 0 ≤ d0 by omega) hn0
          have w1 := nx_in R1 hg0 (show 0 ≤ d1 by omega) hn1
          have w2 := nx_in R2 hg0 (show 0 ≤ d2 by omega) hn2
          exact CQ_c hi hx hn0 hn1 hn2 (crsL l hl t ht j k (i + 1) (gm m x) _ _ (by omega) (by omega) hr' ⟨hg0, hg1⟩ ⟨w0.2.1, by dsimp only; omega⟩ ⟨w1.2.1, by dsimp only; omega⟩ ⟨w2.2.1, by dsimp only; omega⟩ (by simp only [List.length_append, List.length_cons, List.length_nil]; omega))
    · have b1 : (x.1 == 1) = false := bn (by omega)
      have b2 : (x.1 == 2) = true := bq k1
      have b3 : (x.1 == 3) = false := bn (by omega)
      have b4 : (x.1 == 4) = false := bn (by omega)
      refine ob_ex (Q := CQ l t out i (j + 1) m (d0, (d1, d2))) (P := fun n => inR n (ch (s0 x.2.2) x d0 m)) (fun n : Int => ((m, (i : Int)), (l, (t, ((nx x d0 n, (d1, d2)), (out, (n, (0, 0)))))))) ?_ (fun n0 hn0 => ?_)
      · skip
        rw [hin, Int.toNat_natCast, hx, hp 0 (by omega), hv0, ob_some, ha0]
        simp only [b1, b4, cond_true, cond_false]
        have hn : inR a0 (ch (s0 x.2.2) x d0 m) := crs2 (by omega) ha0b
        have hw := nx_in R0 hg0 (by omega) hn
        exact ⟨_, hn, congrArg (fun q => some ((m, (i : Int)), (l, (t, ((q, (d1, d2)), (out, (a0, (0, 0)))))))) (wAdd (x := x) (d := d0) (n := a0) (by omega) ⟨hw.2.1, by omega⟩)⟩
      refine ob_ex (Q := CQ l t out i (j + 1) m (d0, (d1, d2))) (P := fun n => inR n (ch (s1 x.2.2) x d1 m)) (fun n : Int => ((m, (i : Int)), (l, (t, ((nx x d0 n0, (nx x d1 n, d2)), (out, (n0, (n, 0)))))))) ?_ (fun n1 hn1 => ?_)
      · dsimp only
        rw [hin, Int.toNat_natCast, hx, hp 1 (by omega), hv1, ob_some, ha1]
        simp only [b1, b4, cond_true, cond_false]
        have hn : inR a1 (ch (s1 x.2.2) x d1 m) := crs2 (by omega) ha1b
        have hw := nx_in R1 hg0 (by omega) hn
        exact ⟨_, hn, congrArg (fun q => some ((m, (i : Int)), (l, (t, ((nx x d0 n0, (q, d2)), (out, (n0, (a1, 0)))))))) (wAdd (x := x) (d := d1) (n := a1) (by omega) ⟨hw.2.1, by omega⟩)⟩
      refine ob_ex (Q := CQ l t out i (j + 1) m (d0, (d1, d2))) (P := fun n => inR n (ch (s2 x.2.2) x d2 m)) (fun n : Int => ((m, (i : Int)), (l, (t, ((nx x d0 n0, (nx x d1 n1, nx x d2 n)), (out, (n0, (n1, n)))))))) ?_ (fun n2 hn2 => ?_)
      · dsimp only
        rw [hin, Int.toNat_natCast, hx, hp 2 (by omega), hv2, ob_some, ha2]
        simp only [b1, b4, cond_true, cond_false]
        have hn : inR a2 (ch (s2 x.2.2) x d2 m) := crs2 (by omega) ha2b
        have hw := nx_in R2 hg0 (by omega) hn
        exact ⟨_, hn, congrArg (fun q => some ((m, (i : Int)), (l, (t, ((nx x d0 n0, (nx x d1 n1, q)), (out, (n0, (n1, a2)))))))) (wAdd (x := x) (d := d2) (n := a2) (by omega) ⟨hw.2.1, by omega⟩)⟩
      refine ob_to (Q := CQ l t out i (j + 1) m (d0, (d1, d2))) (y := ((gm m x, (i : Int)), (l, (t, ((nx x d0 n0, (nx x d1 n1, nx x d2 n2)), (out, (n0, (n1, n2)))))))) ?_ ?_
      · dsimp only
        rw [hin, Int.toNat_natCast, hx]
        simp only [b1, b2, cond_true, cond_false]
        rw [gm, if_neg (by omega), if_pos k1] at hg0 hg1 ⊢
        rw [w64 (m + x.2.1) (by omega)]
      · dsimp only
        rw [hlen, wI i hi hl]
        have w0 := nx_in R0 hg0 (show 0 ≤ d0 by omega) hn0
        have w1 := nx_in R1 hg0 (show 0 ≤ d1 by omega) hn1
        have w2 := nx_in R2 hg0 (show 0 ≤ d2 by omega) hn2
        exact CQ_c hi hx hn0 hn1 hn2 (crsL l hl t ht j k (i + 1) (gm m x) _ _ (by omega) (by omega) hr' ⟨hg0, hg1⟩ ⟨w0.2.1, by dsimp only; omega⟩ ⟨w1.2.1, by dsimp only; omega⟩ ⟨w2.2.1, by dsimp only; omega⟩ (by simp only [List.length_append, List.length_cons, List.length_nil]; omega))
    · have b1 : (x.1 == 1) = false := bn (by omega)
      have b2 : (x.1 == 2) = false := bn (by omega)
      have b3 : (x.1 == 3) = true := bq k1
      have b4 : (x.1 == 4) = false := bn (by omega)
      refine ob_ex (Q := CQ l t out i (j + 1) m (d0, (d1, d2))) (P := fun n => inR n (ch (s0 x.2.2) x d0 m)) (fun n : Int => ((m, (i : Int)), (l, (t, ((nx x d0 n, (d1, d2)), (out, (n, (0, 0)))))))) ?_ (fun n0 hn0 => ?_)
      · skip
        rw [hin, Int.toNat_natCast, hx, hp 0 (by omega), hv0, ob_some, ha0]
        simp only [b1, b4, cond_true, cond_false]
        have hn : inR a0 (ch (s0 x.2.2) x d0 m) := crs2 (by omega) ha0b
        have hw := nx_in R0 hg0 (by omega) hn
        exact ⟨_, hn, congrArg (fun q => some ((m, (i : Int)), (l, (t, ((q, (d1, d2)), (out, (a0, (0, 0)))))))) (wAdd (x := x) (d := d0) (n := a0) (by omega) ⟨hw.2.1, by omega⟩)⟩
      refine ob_ex (Q := CQ l t out i (j + 1) m (d0, (d1, d2))) (P := fun n => inR n (ch (s1 x.2.2) x d1 m)) (fun n : Int => ((m, (i : Int)), (l, (t, ((nx x d0 n0, (nx x d1 n, d2)), (out, (n0, (n, 0)))))))) ?_ (fun n1 hn1 => ?_)
      · dsimp only
        rw [hin, Int.toNat_natCast, hx, hp 1 (by omega), hv1, ob_some, ha1]
        simp only [b1, b4, cond_true, cond_false]
        have hn : inR a1 (ch (s1 x.2.2) x d1 m) := crs2 (by omega) ha1b
        have hw := nx_in R1 hg0 (by omega) hn
        exact ⟨_, hn, congrArg (fun q => some ((m, (i : Int)), (l, (t, ((nx x d0 n0, (q, d2)), (out, (n0, (a1, 0)))))))) (wAdd (x := x) (d := d1) (n := a1) (by omega) ⟨hw.2.1, by omega⟩)⟩
      refine ob_ex (Q := CQ l t out i (j + 1) m (d0, (d1, d2))) (P := fun n => inR n (ch (s2 x.2.2) x d2 m)) (fun n : Int => ((m, (i : Int)), (l, (t, ((nx x d0 n0, (nx x d1 n1, nx x d2 n)), (out, (n0, (n1, n)))))))) ?_ (fun n2 hn2 => ?_)
      · dsimp only
        rw [hin, Int.toNat_natCast, hx, hp 2 (by omega), hv2, ob_some, ha2]
        simp only [b1, b4, cond_true, cond_false]
        have hn : inR a2 (ch (s2 x.2.2) x d2 m) := crs2 (by omega) ha2b
        have hw := nx_in R2 hg0 (by omega) hn
        exact ⟨_, hn, congrArg (fun q => some ((m, (i : Int)), (l, (t, ((nx x d0 n0, (nx x d1 n1, q)), (out, (n0, (n1, a2)))))))) (wAdd (x := x) (d := d2) (n := a2) (by omega) ⟨hw.2.1, by omega⟩)⟩
      refine ob_to (Q := CQ l t out i (j + 1) m (d0, (d1, d2))) (y := ((gm m x, (i : Int)), (l, (t, ((nx x d0 n0, (nx x d1 n1, nx x d2 n2)), (out, (n0, (n1, n2)))))))) ?_ ?_
      · dsimp only
        rw [hin, Int.toNat_natCast, hx]
        simp only [b1, b2, cond_true, cond_false]
        rw [gm, if_neg (by omega), if_neg (by omega)]
      · dsimp only
        rw [hlen, wI i hi hl]
        have w0 := nx_in R0 hg0 (show 0 ≤ d0 by omega) hn0
        have w1 := nx_in R1 hg0 (show 0 ≤ d1 by omega) hn1
        have w2 := nx_in R2 hg0 (show 0 ≤ d2 by omega) hn2
        exact CQ_c hi hx hn0 hn1 hn2 (crsL l hl t ht j k (i + 1) (gm m x) _ _ (by omega) (by omega) hr' ⟨hg0, hg1⟩ ⟨w0.2.1, by dsimp only; omega⟩ ⟨w1.2.1, by dsimp only; omega⟩ ⟨w2.2.1, by dsimp only; omega⟩ (by simp only [List.length_append, List.length_cons, List.length_nil]; omega))
    · have b1 : (x.1 == 1) = false := bn (by omega)
      have b2 : (x.1 == 2) = false := bn (by omega)
      have b3 : (x.1 == 3) = false := bn (by omega)
      have b4 : (x.1 == 4) = true := bq k1
      refine ob_ex (Q := CQ l t out i (j + 1) m (d0, (d1, d2))) (P := fun n => inR n (ch (s0 x.2.2) x d0 m)) (fun n : Int => ((m, (i : Int)), (l, (t, ((nx x d0 n, (d1, d2)), (out, (n, (0, 0)))))))) ?_ (fun n0 hn0 => ?_)
      · skip
        rw [hin, Int.toNat_natCast, hx, hp 0 (by omega), hv0, ob_some, ha0]
        simp only [b1, b4, cond_true, cond_false]
        obtain ⟨n, z, e1, hn⟩ := crs4 F hF R0 (d := d0) (m := m) (by omega) k1 ha0b
        have hw := nx_in R0 hg0 (by omega) hn
        exact ⟨_, hn, ob_at e1 (congrArg (fun q => some ((m, (i : Int)), (l, (t, ((q, (d1, d2)), (out, (n, (0, 0)))))))) (wSub (x := x) (d := d0) (n := n) (by omega) ⟨hw.2.1, by omega⟩))⟩
      refine ob_ex (Q := CQ l t out i (j + 1) m (d0, (d1, d2))) (P := fun n => inR n (ch (s1 x.2.2) x d1 m)) (fun n : Int => ((m, (i : Int)), (l, (t, ((nx x d0 n0, (nx x d1 n, d2)), (out, (n0, (n, 0)))))))) ?_ (fun n1 hn1 => ?_)
      · dsimp only
        rw [hin, Int.toNat_natCast, hx, hp 1 (by omega), hv1, ob_some, ha1]
        simp only [b1, b4, cond_true, cond_false]
        obtain ⟨n, z, e1, hn⟩ := crs4 F hF R1 (d := d1) (m := m) (by omega) k1 ha1b
        have hw := nx_in R1 hg0 (by omega) hn
        exact ⟨_, hn, ob_at e1 (congrArg (fun q => some ((m, (i : Int)), (l, (t, ((nx x d0 n0, (q, d2)), (out, (n0, (n, 0)))))))) (wSub (x := x) (d := d1) (n := n) (by omega) ⟨hw.2.1, by omega⟩))⟩
      refine ob_ex (Q := CQ l t out i (j + 1) m (d0, (d1, d2))) (P := fun n => inR n (ch (s2 x.2.2) x d2 m)) (fun n : Int => ((m, (i : Int)), (l, (t, ((nx x d0 n0, (nx x d1 n1, nx x d2 n)), (out, (n0, (n1, n)))))))) ?_ (fun n2 hn2 => ?_)
      · dsimp only
        rw [hin, Int.toNat_natCast, hx, hp 2 (by omega), hv2, ob_some, ha2]
        simp only [b1, b4, cond_true, cond_false]
        obtain ⟨n, z, e1, hn⟩ := crs4 F hF R2 (d := d2) (m := m) (by omega) k1 ha2b
        have hw := nx_in R2 hg0 (by omega) hn
        exact ⟨_, hn, ob_at e1 (congrArg (fun q => some ((m, (i : Int)), (l, (t, ((nx x d0 n0, (nx x d1 n1, q)), (out, (n0, (n1, n)))))))) (wSub (x := x) (d := d2) (n := n) (by omega) ⟨hw.2.1, by omega⟩))⟩
      refine ob_to (Q := CQ l t out i (j + 1) m (d0, (d1, d2))) (y := ((gm m x, (i : Int)), (l, (t, ((nx x d0 n0, (nx x d1 n1, nx x d2 n2)), (out, (n0, (n1, n2)))))))) ?_ ?_
      · dsimp only
        rw [hin, Int.toNat_natCast, hx]
        simp only [b1, b2, cond_true, cond_false]
        rw [gm, if_neg (by omega), if_neg (by omega)]
      · dsimp only
        rw [hlen, wI i hi hl]
        have w0 := nx_in R0 hg0 (show 0 ≤ d0 by omega) hn0
        have w1 := nx_in R1 hg0 (show 0 ≤ d1 by omega) hn1
        have w2 := nx_in R2 hg0 (show 0 ≤ d2 by omega) hn2
        exact CQ_c hi hx hn0 hn1 hn2 (crsL l hl t ht j k (i + 1) (gm m x) _ _ (by omega) (by omega) hr' ⟨hg0, hg1⟩ ⟨w0.2.1, by dsimp only; omega⟩ ⟨w1.2.1, by dsimp only; omega⟩ ⟨w2.2.1, by dsimp only; omega⟩ (by simp only [List.length_append, List.length_cons, List.length_nil]; omega))
theorem course_eq (l : List Tst) (hl : l.length ≤ 200) (t : List Int) (ht : isT t) (m : Tfr) (hm : 0 ≤ m.1 ∧ m.1 ≤ 1000000000) (hr : run l m.1) (st : Tc3) (h0 : 0 ≤ st.1 ∧ st.1 ≤ 1000000000000) (h1 : 0 ≤ st.2.1 ∧ st.2.1 ≤ 1000000000000) (h2 : 0 ≤ st.2.2 ∧ st.2.2 ≤ 1000000000000) : ∃ cs : List Tc3, course_S F m st l t = some cs ∧ cs.length = l.length ∧ Tru s0 l (cs.map g0) m.1 st.1 ∧ Tru s1 l (cs.map g1) m.1 st.2.1 ∧ Tru s2 l (cs.map g2) m.1 st.2.2 := by
  obtain ⟨cs, e1, e2⟩ := crsL F hF l hl t ht l.length F 0 m.1 st [] (by omega) (by omega) hr hm (by omega) (by omega) (by omega) (Nat.le_refl _)
  refine ⟨cs, ?_, e2⟩
  unfold course_S
  exact ob_at e1 rfl
end
end M3
end Go.Proofs.YtcbbhiobibhdnaaDoor


namespace Go.Proofs.YtcbbhiobibhdnaaDoor
namespace M3
open Go.RowKit U8
set_option maxRecDepth 100000
set_option maxHeartbeats 4000000
section
variable (F : Nat)
variable (hF : 2000 < F)
include hF
/-- Concentration: an error, or both ends. -/
theorem conc_any (x : Tfr) (hm : 1 ≤ x.1 ∧ x.1 ≤ 1000000000) : ∃ v e, conc0_S F x = some (v, e) ∧ (e = 0 → okR x.2.1 1000000000000 ∧ v = (fl x.2.1.1 1000000 x.1, cl x.2.1.2 1000000 x.1) ∧ cl x.2.1.2 1000000 x.1 ≤ 1000000000000000) := by
  unfold conc0_S
  rw [within_eq, dec_t hm, ob_some, isR_eq]
  by_cases hr : okR x.2.1 1000000000000
  · rw [dec_t hr]
    obtain ⟨h1, h2, h3⟩ := id hr
    obtain ⟨z1, e1⟩ := mdI1 F hF (u := x.2.1.1) (a := 1000000) (b := x.1) (by omega) (by omega) (by omega)
    obtain ⟨z2, e2⟩ := mdI2 F hF (u := x.2.1.2) (a := 1000000) (b := x.1) (by omega) (by omega) (by omega)
    show ∃ v e, ob (mulDiv_S F x.2.1.1 1000000 x.1 1) (fun r2 => ob (mulDiv_S F x.2.1.2 1000000 x.1 2) (fun r3 => _)) = some (v, e) ∧ _
    rw [e1, e2, ob_some, ob_some]
    by_cases q1 : fl x.2.1.1 1000000 x.1 ≤ 1000000000000000
    · rw [if_pos q1]
      by_cases q2 : cl x.2.1.2 1000000 x.1 ≤ 1000000000000000
      · rw [if_pos q2]
        exact ⟨_, _, rfl, fun _ => ⟨hr, rfl, q2⟩⟩
      · rw [if_neg q2]
        exact ⟨_, 10, rfl, fun h => by cases h⟩
    · rw [if_neg q1]
      exact ⟨_, 10, rfl, fun h => by cases h⟩
  · rw [dec_f hr]
    exact ⟨_, 2, rfl, fun h => by cases h⟩
end
/-! ## A wafer with one value that is not 0 -/
end M3
end Go.Proofs.YtcbbhiobibhdnaaDoor


namespace Go.Proofs.YtcbbhiobibhdnaaDoor
namespace M3
open Go.RowKit U8
set_option maxRecDepth 100000
set_option maxHeartbeats 4000000
def zB : Tb := ((0, 0), ((0, 0), (0, 0)))
/-- The slices before their contents are filled in. -/
def fr0 : List Tst → List Tfr
  | [] => []
  | x :: l => if x.1 = 1 then (x.2.1, zB) :: fr0 l else fr0 l
theorem fr0_len (b : Tb → Tr) : ∀ (l : List Tst) (m dp dr : Int), (sl b l m dp dr).length = (fr0 l).length
  | [], _, _, _ => rfl
  | x :: l, m, dp, dr => by
    rw [sl, fr0]
    split
    · rw [List.length_cons, List.length_cons, fr0_len b l]
    · exact fr0_len b l _ _ _
theorem fr0_le : ∀ l : List Tst, (fr0 l).length ≤ l.length
  | [] => Nat.le_refl _
  | x :: l => by
    have ih := fr0_le l
    rw [fr0]
    split <;> simp only [List.length_cons] <;> omega
theorem fr0_mass : ∀ (l : List Tst) (m : Int), run l m → ∀ f, f ∈ fr0 l → 1 ≤ f.1 ∧ f.1 ≤ 1000000000
  | [], _, _ => fun f h => by cases h
  | x :: l, m, hr => by
    obtain ⟨hs, _, _, hr'⟩ := hr
    have ih := fr0_mass l _ hr'
    rw [fr0]
    split
    · rename_i k1
      intro f hf
      rcases List.mem_cons.1 hf with e | e
      · rw [e]
        rcases hs with ⟨_, h, _⟩ | ⟨k, _⟩ | ⟨k, _⟩ | ⟨k, _⟩
        · exact h
        · omega
        · omega
        · omega
      · exact ih f e
    · exact ih
theorem ob_exq {α β : Type} {x : Option α} {f : α → Option β} {Q : Option β → Prop} {y : α} (h : x = some y) (h2 : Q (f y)) : Q (ob x f) := by rw [h]; exact h2
theorem ob_exx {α β ι : Type} {x : Option α} {f : α → Option β} {Q : Option β → Prop} (g : ι → α) (h : ∃ n, x = some (g n)) (h2 : ∀ n, Q (f (g n))) : Q (ob x f) := by
  obtain ⟨n, h4⟩ := h
  rw [h4]
  exact h2 n
theorem nth_in {α : Type} {l : List α} {i : Nat} (h : i < l.length) (d : α) : nth l d i ∈ l := by
  rw [← nth_eq l d i h]; exact List.getElem_mem h
section
variable (F : Nat)
theorem preL (l : List Tst) (hl : l.length ≤ 200) (m1 : Tfr) : ∀ (j k i : Nat) (r : Int × (Int × (Int × (Int × (Int × (Int × Int)))))) (acc : List Tfr), i + j = l.length → j < k → run (l.drop i) r.1 → 0 ≤ r.1 ∧ r.1 ≤ 1000000000 → acc.length ≤ i → ∃ r', predict_L0 F ((l.length - 0) : Int) l m1 k (i : Int) r acc = some (l, (m1, ((r', r.2), acc ++ fr0 (l.drop i))))
  | j, 0, _, _, _, _, h, _, _, _ => by omega
  | 0, k + 1, i, r, acc, h, _, _, _, _ => by
    simp only [predict_L0]
    rw [dec_f (show ¬ (i : Int) < (l.length - 0 : Int) by omega), List.drop_eq_nil_of_le (show l.length ≤ i by omega), fr0, List.append_nil]
    exact ⟨_, rfl⟩
  | j + 1, k + 1, i, r, acc, h, hj, hr, hm, ha => by
    have hi : i < l.length := by omega
    rw [drop_c hi zS] at hr ⊢
    simp only [predict_L0]
    rw [dec_t (show (i : Int) < (l.length - 0 : Int) by omega), show inB (i : Int) (l.length - 0) = true from inB_t hi, Int.toNat_natCast, wI i hi hl]
    generalize nth l zS i = x at hr ⊢
    obtain ⟨hs, hg0, hg1, hr'⟩ := hr
    have hlen : ∀ c : Tfr, (bif false then (lenOk2 (acc.length - 0) (c :: []).length) else (lenOk (acc.length - 0) (c :: []).length)) = true := by
      intro c
      show lenOk _ _ = true
      unfold lenOk
      rw [dec_t (by simp only [List.length_cons, List.length_nil]; omega)]
    rw [hlen, grown_eq F (stM hs) hm, ob_some, ob_some, fr0]
    by_cases k1 : x.1 = 1
    · rw [if_pos k1, bq k1]
      obtain ⟨r', e⟩ := preL l hl m1 j k (i + 1) (gm r.1 x, r.2) (acc ++ ((x.2.1, zB) :: [])) (by omega) (by omega) hr' ⟨hg0, hg1⟩ (by simp only [List.length_append, List.length_cons, List.length_nil]; omega)
      rw [List.append_assoc] at e
      exact ⟨r', e⟩
    · rw [if_neg k1, bn k1]
      exact preL l hl m1 j k (i + 1) (gm r.1 x, r.2) acc (by omega) (by omega) hr' ⟨hg0, hg1⟩ (by omega)
theorem predict_no (m : Tfr) (l : List Tst) {e : Int} (hc : mCheck_S F m l = some e) (he : e ≠ 0) : ∃ R, predict_S F m l = some ((R, e), []) := by
  unfold predict_S
  refine ob_exq (Q := fun o => ∃ R, o = some ((R, e), [])) hc ?_
  rw [show (e != 0) = true by simp [he], cond_true]
  exact ⟨_, rfl⟩
variable (hF : 2000 < F)
include hF
/-- Predict: the masses and the contents of the first species. -/
theorem predict_ok (m : Tfr) (l : List Tst) (hc : mCheck_S F m l = some 0) (hl : l.length ≤ 200) (hm : 0 ≤ m.1 ∧ m.1 ≤ 1000000000) (hB : okB m.2 1000000000000) (hr : run l m.1) : ∃ R sls, predict_S F m l = some ((R, 0), sls) ∧ sls.length = (sl s0 l m.1 (s0 m.2).1 (s0 m.2).2).length ∧ sls.length ≤ 200 ∧ ∀ (i : Nat) (h : i < (sl s0 l m.1 (s0 m.2).1 (s0 m.2).2).length), (nth sls zF i).2.1 = (sl s0 l m.1 (s0 m.2).1 (s0 m.2).2)[i] ∧ (1 ≤ (nth sls zF i).1 ∧ (nth sls zF i).1 ≤ 1000000000) := by
  obtain ⟨r', e0⟩ := preL F l hl m l.length F 0 (m.1, (m.2.1.1, (m.2.1.2, (m.2.2.1.1, (m.2.2.1.2, m.2.2.2))))) [] (by omega) (by omega) hr hm (Nat.le_refl _)
  have n0 := fr0_len s0 l m.1 (s0 m.2).1 (s0 m.2).2
  have n1 := fr0_len s1 l m.1 (s1 m.2).1 (s1 m.2).2
  have n2 := fr0_len s2 l m.1 (s2 m.2).1 (s2 m.2).2
  have nl := fr0_le l
  have f0 := fun R => fil0 F hF l hl m hm hB.1 hr R (fr0 l) (by omega) (by omega)
  have p0 := puts_len put0 (sl s0 l m.1 (s0 m.2).1 (s0 m.2).2) (fr0 l) 0
  have f1 := fun R => fil1 F hF l hl m hm hB.2.1 hr R (puts put0 (fr0 l) 0 (sl s0 l m.1 (s0 m.2).1 (s0 m.2).2)) (by omega) (by omega)
  have p1 := puts_len put1 (sl s1 l m.1 (s1 m.2).1 (s1 m.2).2) (puts put0 (fr0 l) 0 (sl s0 l m.1 (s0 m.2).1 (s0 m.2).2)) 0
  have f2 := fun R => fil2 F hF l hl m hm hB.2.2 hr R (puts put1 (puts put0 (fr0 l) 0 (sl s0 l m.1 (s0 m.2).1 (s0 m.2).2)) 0 (sl s1 l m.1 (s1 m.2).1 (s1 m.2).2)) (by omega) (by omega)
  have p2 := puts_len put2 (sl s2 l m.1 (s2 m.2).1 (s2 m.2).2) (puts put1 (puts put0 (fr0 l) 0 (sl s0 l m.1 (s0 m.2).1 (s0 m.2).2)) 0 (sl s1 l m.1 (s1 m.2).1 (s1 m.2).2)) 0
  have key : ∃ R, predict_S F m l = some ((R, 0), puts put2 (puts put1 (puts put0 (fr0 l) 0 (sl s0 l m.1 (s0 m.2).1 (s0 m.2).2)) 0 (sl s1 l m.1 (s1 m.2).1 (s1 m.2).2)) 0 (sl s2 l m.1 (s2 m.2).1 (s2 m.2).2)) := by
    unfold predict_S
    refine ob_exq (Q := fun o => ∃ R, o = some ((R, 0), puts put2 (puts put1 (puts put0 (fr0 l) 0 (sl s0 l m.1 (s0 m.2).1 (s0 m.2).2)) 0 (sl s1 l m.1 (s1 m.2).1 (s1 m.2).2)) 0 (sl s2 l m.1 (s2 m.2).1 (s2 m.2).2))) hc ?_
    rw [show ((0 : Int) != 0) = false from rfl, cond_false]
    refine ob_exq (Q := fun o => ∃ R, o = some ((R, 0), puts put2 (puts put1 (puts put0 (fr0 l) 0 (sl s0 l m.1 (s0 m.2).1 (s0 m.2).2)) 0 (sl s1 l m.1 (s1 m.2).1 (s1 m.2).2)) 0 (sl s2 l m.1 (s2 m.2).1 (s2 m.2).2))) e0 ?_
    refine ob_exx (Q := fun o => ∃ R, o = some ((R, 0), puts put2 (puts put1 (puts put0 (fr0 l) 0 (sl s0 l m.1 (s0 m.2).1 (s0 m.2).2)) 0 (sl s1 l m.1 (s1 m.2).1 (s1 m.2).2)) 0 (sl s2 l m.1 (s2 m.2).1 (s2 m.2).2))) (fun R' => (R', _)) (f0 _) (fun R0 => ?_)
    refine ob_exx (Q := fun o => ∃ R, o = some ((R, 0), puts put2 (puts put1 (puts put0 (fr0 l) 0 (sl s0 l m.1 (s0 m.2).1 (s0 m.2).2)) 0 (sl s1 l m.1 (s1 m.2).1 (s1 m.2).2)) 0 (sl s2 l m.1 (s2 m.2).1 (s2 m.2).2))) (fun R' => (R', _)) (f1 _) (fun R1 => ?_)
    refine ob_exx (Q := fun o => ∃ R, o = some ((R, 0), puts put2 (puts put1 (puts put0 (fr0 l) 0 (sl s0 l m.1 (s0 m.2).1 (s0 m.2).2)) 0 (sl s1 l m.1 (s1 m.2).1 (s1 m.2).2)) 0 (sl s2 l m.1 (s2 m.2).1 (s2 m.2).2))) (fun R' => (R', _)) (f2 _) (fun R2 => ?_)
    exact ⟨_, rfl⟩
  obtain ⟨R, key⟩ := key
  refine ⟨R, puts put2 (puts put1 (puts put0 (fr0 l) 0 (sl s0 l m.1 (s0 m.2).1 (s0 m.2).2)) 0 (sl s1 l m.1 (s1 m.2).1 (s1 m.2).2)) 0 (sl s2 l m.1 (s2 m.2).1 (s2 m.2).2), ?_, by omega, by omega, fun i h => ?_⟩
  rotate_left
  · have a2 := puts_nth put2 (sl s2 l m.1 (s2 m.2).1 (s2 m.2).2) (puts put1 (puts put0 (fr0 l) 0 (sl s0 l m.1 (s0 m.2).1 (s0 m.2).2)) 0 (sl s1 l m.1 (s1 m.2).1 (s1 m.2).2)) 0 i (by omega) (by omega)
    have a1 := puts_nth put1 (sl s1 l m.1 (s1 m.2).1 (s1 m.2).2) (puts put0 (fr0 l) 0 (sl s0 l m.1 (s0 m.2).1 (s0 m.2).2)) 0 i (by omega) (by omega)
    have a0 := puts_nth put0 (sl s0 l m.1 (s0 m.2).1 (s0 m.2).2) (fr0 l) 0 i (by omega) (by omega)
    rw [Nat.zero_add] at a0 a1 a2
    rw [a2, a1, a0]
    exact ⟨rfl, fr0_mass l m.1 hr (nth (fr0 l) zF i) (nth_in (by omega) _)⟩
  · exact key
end
section
variable (F : Nat) (hF : 2000 < F)
include hF
end
end M3
end Go.Proofs.YtcbbhiobibhdnaaDoor
