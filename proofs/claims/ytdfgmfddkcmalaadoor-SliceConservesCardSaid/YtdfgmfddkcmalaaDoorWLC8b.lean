/- Plain laws of SliceAll: whatever becomes of a block in a course lies between what becomes of it in two courses. No condition. -/
import Derived.Test.YtdfgmfddkcmalaaDoorWLF8d
import Derived.Test.YtdfgmfddkcmalaaDoorWLD8b
import Derived.Test.YtdfgmfddkcmalaaDoorWX8e

namespace Go.Proofs.YtdfgmfddkcmalaaDoor
open Go.RowKit
set_option maxRecDepth 100000
theorem sm_mono (f g : Nat → Int) : ∀ (q : Nat), (∀ i, i < q → f i ≤ g i) → sm f q ≤ sm g q
  | 0, _ => Int.le_refl _
  | q + 1, h => by
    have h1 := sm_mono f g q fun i hi => h i (by omega)
    have h2 := h q (by omega)
    unfold sm
    omega
/-- The numbers of a course lie in their ranges. -/
structure Bd (d0 d1 W0 W1 s0 s1 t : Int) (G H : List Int) (m : Nat) : Prop where
  hd : 0 ≤ d0
  hw : 0 ≤ W0
  t : d0 ≤ t ∧ t ≤ d1
  g : ∀ i, i < m → W0 ≤ nth G (0 : Int) i ∧ nth G (0 : Int) i ≤ W1
  h : ∀ i, i < m → s0 ≤ nth H (0 : Int) i ∧ nth H (0 : Int) i ≤ s1
theorem Bd.dl {d0 d1 W0 W1 s0 s1 t : Int} {G H : List Int} {m : Nat} (h : Bd d0 d1 W0 W1 s0 s1 t G H m) : ∀ i, i ≤ m → dAt d0 W1 i ≤ dl t G i ∧ YtdfgmfddkcmalaaDoor.dl t G i ≤ dAt d1 W0 i
  | 0, _ => by
    have := h.t; have := h.hd
    rw [dAt_0 (by omega), dAt_0 (by omega)]
    exact h.t
  | i + 1, hi => by
    have h1 := h.dl i (by omega)
    have h2 := h.g i (by omega)
    have := h.hd; have := h.hw; have := h.t
    rw [← dAt_succ (d := d0) (by omega) (by omega) i, ← dAt_succ (d := d1) (by omega) (by omega) i]
    show mx0 (dAt d0 W1 i - W1) ≤ mx0 (YtdfgmfddkcmalaaDoor.dl t G i - nth G (0 : Int) i) ∧ mx0 (YtdfgmfddkcmalaaDoor.dl t G i - nth G (0 : Int) i) ≤ mx0 (dAt d1 W0 i - W0)
    unfold mx0
    constructor <;> split <;> split <;> omega
theorem Bd.kg {d0 d1 W0 W1 s0 s1 t : Int} {G H : List Int} {m : Nat} (h : Bd d0 d1 W0 W1 s0 s1 t G H m) (b : WbT) (n : Int) {i : Nat} (hi : i < m) :
    kf b n d0 W1 s0 m i ≤ kg b n (YtdfgmfddkcmalaaDoor.dl t G) (sf H) m i ∧ YtdfgmfddkcmalaaDoor.kg b n (YtdfgmfddkcmalaaDoor.dl t G) (sf H) m i ≤ kf b n d1 W0 s1 m i := by
  have h1 := h.dl i (by omega)
  have h2 : s0 ≤ sf H i ∧ sf H i ≤ s1 := h.h i hi
  unfold kf YtdfgmfddkcmalaaDoor.kg mn
  by_cases hm : i + 1 = m
  · rw [if_pos hm, if_pos hm, if_pos hm]; constructor <;> split <;> split <;> omega
  · rw [if_neg hm, if_neg hm, if_neg hm]; omega
theorem Bd.slg {d0 d1 W0 W1 s0 s1 t : Int} {G H : List Int} {m : Nat} (h : Bd d0 d1 W0 W1 s0 s1 t G H m) (b : WbT) {i : Nat} (hi : i < m) :
    slf b d1 W0 s1 i ≤ slg b (YtdfgmfddkcmalaaDoor.dl t G) (sf H) i ∧ YtdfgmfddkcmalaaDoor.slg b (YtdfgmfddkcmalaaDoor.dl t G) (sf H) i ≤ slf b d0 W1 s0 i := by
  have h1 := h.dl i (by omega)
  have h2 : s0 ≤ sf H i ∧ sf H i ≤ s1 := h.h i hi
  unfold slf YtdfgmfddkcmalaaDoor.slg
  omega
theorem Bd.sm {d0 d1 W0 W1 s0 s1 t : Int} {G H : List Int} {m : Nat} (h : Bd d0 d1 W0 W1 s0 s1 t G H m) (b : WbT) (n : Int) :
    sm (kf b n d0 W1 s0 m) m ≤ sm (YtdfgmfddkcmalaaDoor.kg b n (YtdfgmfddkcmalaaDoor.dl t G) (sf H) m) m ∧ YtdfgmfddkcmalaaDoor.sm (YtdfgmfddkcmalaaDoor.kg b n (YtdfgmfddkcmalaaDoor.dl t G) (sf H) m) m ≤ YtdfgmfddkcmalaaDoor.sm (kf b n d1 W0 s1 m) m :=
  ⟨sm_mono _ _ m fun i hi => (h.kg b n hi).1, sm_mono _ _ m fun i hi => (h.kg b n hi).2⟩
theorem Bd.rs {d0 d1 W0 W1 s0 s1 t : Int} {G H : List Int} {m : Nat} (h : Bd d0 d1 W0 W1 s0 s1 t G H m) (b : WbT) (n : Int) :
    rsA b n d1 W0 s1 m m ≤ rsG b n (YtdfgmfddkcmalaaDoor.dl t G) (sf H) m m ∧ rsG b n (YtdfgmfddkcmalaaDoor.dl t G) (sf H) m m ≤ rsA b n d0 W1 s0 m m := by
  unfold rsA rsG
  rw [if_pos rfl, if_pos rfl, if_pos rfl]
  by_cases hm : m = 0
  · rw [if_pos hm, if_pos hm, if_pos hm]; omega
  · rw [if_neg hm, if_neg hm, if_neg hm]
    have := h.kg b n (show m - 1 < m by omega)
    omega
theorem bd_of {w : WrT} {b : WbT} {n : Int} (h : Vld w b n) {t : Int} {G H : List Int} {m : Nat} (hc : csOk w b t G H = true) (lG : G.length = m) (lH : H.length = m) :
    Bd w.1.1 w.1.2 w.2.1.1 w.2.1.2 b.2.2.2.1 b.2.2.2.2 t G H m := by
  have h1 := h.d; have h2 := h.e
  unfold csOk at hc
  rw [Bool.and_eq_true, Bool.and_eq_true] at hc
  obtain ⟨⟨c1, c2⟩, c3⟩ := hc
  unfold inOk at c1
  simp only [Bool.and_eq_true, decide_eq_true_eq] at c1
  exact ⟨by omega, by omega, c1, fun i hi => all_nth c2 (show i < G.length by omega), fun i hi => all_nth c3 (show i < H.length by omega)⟩
end Go.Proofs.YtdfgmfddkcmalaaDoor


namespace Go.Proofs.YtdfgmfddkcmalaaDoor
open Go.RowKit
set_option maxRecDepth 100000
theorem sm_split (f : Nat → Int) (m : Nat) : ∀ i, i ≤ m → sm f (lp m i) = f 0 + sm (fun j => f (2 * j + 1)) i + sm (fun j => f (2 * j + 2)) (if i < m then i else m - 1)
  | 0, _ => by
    rw [lp_0]
    have : (if 0 < m then 0 else m - 1) = 0 := by split <;> omega
    rw [this]
    show sm f 0 + f 0 = f 0 + 0 + 0
    show 0 + f 0 = f 0 + 0 + 0
    omega
  | i + 1, hi => by
    have h1 := sm_split f m i (by omega)
    have hl : lp m i = 2 * i + 1 := by unfold lp; rw [if_pos (by omega)]
    rw [if_pos (show i < m by omega), hl] at h1
    by_cases hm : i + 1 < m
    · have h2 : lp m (i + 1) = 2 * i + 1 + 1 + 1 := by unfold lp; rw [if_pos hm]; omega
      rw [h2, if_pos hm]
      show sm f (2 * i + 1) + f (2 * i + 1) + f (2 * i + 2) = f 0 + (sm (fun j => f (2 * j + 1)) i + f (2 * i + 1)) + (sm (fun j => f (2 * j + 2)) i + f (2 * i + 2))
      omega
    · have h2 : lp m (i + 1) = 2 * i + 1 + 1 := by unfold lp; rw [if_neg hm, if_neg (by omega)]; omega
      rw [h2, if_neg hm, show m - 1 = i by omega]
      show sm f (2 * i + 1) + f (2 * i + 1) = f 0 + (sm (fun j => f (2 * j + 1)) i + f (2 * i + 1)) + sm (fun j => f (2 * j + 2)) i
      omega
theorem sm_all (f : Nat → Int) (m s : Nat) (h : s = m - 1) : sm f (m + s + 2) = f 0 + sm (fun j => f (2 * j + 1)) m + sm (fun j => f (2 * j + 2)) s + f (m + s + 1) := by
  have h1 := sm_split f m m (by omega)
  rw [if_neg (by omega), lp_m h, ← h] at h1
  show sm f (m + s + 1) + f (m + s + 1) = _
  rw [h1]
theorem sm_congr (f g : Nat → Int) : ∀ (q : Nat), (∀ i, i < q → f i = g i) → sm f q = sm g q
  | 0, _ => rfl
  | q + 1, h => by
    show sm f q + f q = sm g q + g q
    rw [sm_congr f g q fun i hi => h i (by omega), h q (by omega)]
theorem ll_sum (T B : Int) (K S : List Int) (h : S.length = K.length - 1) : sm (ll T B K S) (K.length + S.length + 2) = T + sm (fun j => nth K (0 : Int) j) K.length + sm (fun j => nth S (0 : Int) j) S.length + B := by
  rw [sm_all _ K.length S.length h, sm_congr _ (fun j => nth K (0 : Int) j) K.length fun i hi => ll_k T B h hi, sm_congr _ (fun j => nth S (0 : Int) j) S.length fun i hi => ll_s T B h (by omega)]
  have e0 : ll T B K S 0 = T := by unfold ll; rw [if_pos rfl]
  have e1 : ll T B K S (K.length + S.length + 1) = B := by unfold ll; rw [if_neg (by omega), if_pos rfl]
  rw [e0, e1]
theorem ll_range {T B : Int} {K S : List Int} (h : S.length = K.length - 1) (hT : 0 ≤ T ∧ T ≤ 600000000) (hB : 0 ≤ B ∧ B ≤ 600000000) (hK : ∀ i, i < K.length → 0 ≤ nth K (0 : Int) i ∧ nth K (0 : Int) i ≤ 600000000) (hS : ∀ i, i < S.length → 0 ≤ nth S (0 : Int) i ∧ nth S (0 : Int) i ≤ 600000000) :
    ∀ i, i < K.length + S.length + 2 → 0 ≤ ll T B K S i ∧ ll T B K S i ≤ 600000000 := fun i hi => by
  unfold ll
  by_cases h0 : i = 0
  · rw [if_pos h0]; exact hT
  · rw [if_neg h0]
    by_cases h1 : i = K.length + S.length + 1
    · rw [if_pos h1]; exact hB
    · rw [if_neg h1]
      by_cases h2 : i % 2 = 1
      · rw [if_pos h2]; exact hK _ (by omega)
      · rw [if_neg h2]; exact hS _ (by omega)
/-- A course is as long as the block. -/
theorem course_sum {b : WbT} {n : Int} {D S : Nat → Int} {m : Nat} (h : Cg b n D S m) : mn n b.2.2.1 + rsG b n D S m m + sm (slg b D S) (m - 1) + sm (kg b n D S m) m = n := by
  have h1 := h.hst; have h2 := h.hn
  unfold rsG
  rw [if_pos rfl]
  by_cases hm : m = 0
  · subst hm
    have := h.hz rfl
    rw [if_pos rfl]
    show mn n b.2.2.1 + 0 + 0 + 0 = n
    unfold mn
    split <;> omega
  · rw [if_neg hm]
    obtain ⟨q, rfl⟩ : ∃ q, m = q + 1 := ⟨m - 1, by omega⟩
    have h3 := h.hpl 0 (by omega)
    have h4 : plc b 0 = b.2.2.1 := by unfold plc; simp
    have key : ∀ i, i ≤ q → sm (slg b D S) i + sm (kg b n D S (q + 1)) i = (i : Int) * b.1 := fun i => by
      induction i with
      | zero => intro _; simp [sm]
      | succ i ih =>
        intro hi
        have := ih (by omega)
        have e : ((i + 1 : Nat) : Int) * b.1 = (i : Int) * b.1 + b.1 := by rw [Int.natCast_add, Int.add_mul]; omega
        rw [e]
        have e2 : slg b D S i + kg b n D S (q + 1) i = b.1 := by unfold slg kg; rw [if_neg (by omega)]; omega
        show sm (slg b D S) i + slg b D S i + (sm (kg b n D S (q + 1)) i + kg b n D S (q + 1) i) = _
        omega
    have k := key q (Nat.le_refl _)
    rw [Nat.add_sub_cancel]
    show mn n b.2.2.1 + (n - plc b q - kg b n D S (q + 1) q) + sm (slg b D S) q + (sm (kg b n D S (q + 1)) q + kg b n D S (q + 1) q) = n
    have e3 : plc b q = b.2.2.1 + (q : Int) * b.1 := rfl
    have e4 : mn n b.2.2.1 = b.2.2.1 := by unfold mn; rw [if_neg (by omega)]
    omega
theorem total_same (F : Nat) (l : List Int) : ∀ (k : Nat) (v i : Int), total_L0 F l k v i = rSum_L0 F l k v i
  | 0, _, _ => rfl
  | k + 1, v, i => by
    show (bif decide (i < ((l.length - 0 : Nat) : Int)) then (bif inB i (l.length - 0) then total_L0 F l k (IntKind.wrap IntKind.i64 (v + nth l (0 : Int) i.toNat)) (IntKind.wrap IntKind.i64 (i + 1)) else none) else some (v, l)) = _
    rw [total_same F l k]
    rfl
theorem tot_loop (F : Nat) (f : Nat → Int) (q : Nat) (hq : q ≤ 2000) (h : ∀ i, i < q → 0 ≤ f i ∧ f i ≤ 1000000000000000) : ∀ (j k i : Nat), i + j = q → j < k →
    total_L0 F ((List.range q).map f) k (sm f i) i = some (sm f q, (List.range q).map f)
  | j, 0, i, _, hk => by omega
  | 0, k + 1, i, hi, _ => by
    have e : i = q := by omega
    subst e
    show (bif decide ((i : Int) < ((((List.range i).map f).length - 0 : Nat) : Int)) then _ else _) = _
    rw [len_map, dec_f (by omega)]; rfl
  | j + 1, k + 1, i, hi, hk => by
    have h1 := sm_range f 1000000000000000 i fun x hx => h x (by omega)
    have h2 := h i (by omega)
    have e1 : IntKind.wrap IntKind.i64 ((i : Int) + 1) = ((i + 1 : Nat) : Int) := by rw [w64 _ (by omega)]; omega
    have e2 : IntKind.wrap IntKind.i64 (sm f i + f i) = sm f (i + 1) := by rw [w64 _ (by omega)]; rfl
    show (bif decide ((i : Int) < ((((List.range q).map f).length - 0 : Nat) : Int)) then (bif inB (i : Int) (((List.range q).map f).length - 0) then total_L0 F ((List.range q).map f) k (IntKind.wrap IntKind.i64 (sm f i + nth ((List.range q).map f) (0 : Int) i)) (IntKind.wrap IntKind.i64 ((i : Int) + 1)) else none) else _) = _
    rw [nth_map _ _ _ (show i < q by omega), e1, e2, len_map, dec_t (by omega), inB_t (show i < q - 0 by omega)]
    simp only [cond_true]
    exact tot_loop F f q hq h j k (i + 1) (by omega) (by omega)
theorem total_eq (F : Nat) (hF : 2000 < F) (f : Nat → Int) (q : Nat) (hq : q ≤ 2000) (h : ∀ i, i < q → 0 ≤ f i ∧ f i ≤ 1000000000000000) : total_S F ((List.range q).map f) = some (sm f q) := by
  unfold total_S
  change ob (total_L0 F ((List.range q).map f) F (sm f 0) ((0 : Nat) : Int)) _ = _
  rw [tot_loop F f q hq h q F 0 (by omega) (by omega)]
theorem has_eq (F : Nat) (r : Int × Int) (n : Int) (h : r.1 ≤ n ∧ n ≤ r.2) : has_S F r n = some true := by
  unfold has_S
  rw [dec_t (show n ≥ r.1 from h.1), dec_t h.2]; rfl
/-- The shares lie within the whole. -/
theorem sh_range (n W : Int) (f : Nat → Int) (q : Nat) (hn : 0 ≤ n ∧ n ≤ 1000000000000000) (hW : 1 ≤ W) (hWs : W = sm f q) (hf : ∀ i, i < q → 0 ≤ f i) : ∀ i, i < q → 0 ≤ sh n W f i ∧ sh n W f i ≤ 1000000000000000 := fun i hi => by
  have r1 := sm_mono_le f q hf (q - (i + 1)) (i + 1) (by omega)
  have r2 := sm_mono_le f i (fun x hx => hf x (by omega)) i 0 (by omega)
  have r3 : sm f (i + 1) = sm f i + f i := rfl
  have r4 := hf i hi
  have z : sm f 0 = 0 := rfl
  have a1 : dv n W f i ≤ dv n W f (i + 1) := Int.ediv_le_ediv (by omega) (Int.mul_le_mul_of_nonneg_left (by omega) hn.1)
  have a2 : 0 ≤ dv n W f i := Int.ediv_nonneg (Int.mul_nonneg hn.1 (by omega)) (by omega)
  have a3 : dv n W f (i + 1) ≤ n := by
    have : n * sm f (i + 1) / W ≤ n * W / W := Int.ediv_le_ediv (by omega) (Int.mul_le_mul_of_nonneg_left (by omega) hn.1)
    rw [Int.mul_ediv_cancel _ (by omega)] at this
    exact this
  unfold sh
  omega
theorem sh_sum (n W : Int) (f : Nat → Int) : ∀ q, sm (sh n W f) q = dv n W f q
  | 0 => by
    show (0 : Int) = n * 0 / W
    rw [Int.mul_zero, Int.zero_ediv]
  | q + 1 => by
    show sm (sh n W f) q + sh n W f q = _
    rw [sh_sum n W f q]
    unfold sh
    omega
theorem dv_all (n W : Int) (f : Nat → Int) (q : Nat) (hW : 1 ≤ W) (hWs : W = sm f q) : dv n W f q = n := by
  unfold dv
  rw [← hWs, Int.mul_ediv_cancel _ (by omega)]
end Go.Proofs.YtdfgmfddkcmalaaDoor


namespace Go.Proofs.YtdfgmfddkcmalaaDoor
open Go.RowKit
set_option maxRecDepth 100000
abbrev C5 := (Int × Bool) × (List Int × (List Int × ((Int × Int) × (List Int × List Int))))
abbrev C7 := List Int × (List Int × ((Int × Int) × (PrT × (List Int × (List Int × List RgT)))))
noncomputable def cT5 (F : Nat) (s5 : C5) : Option Bool := (bif s5.1.2 then (some false) else (ob (divide_S F s5.1.1 s5.2.2.2.1 s5.2.2.2.2.1 s5.2.2.2.2.2) (fun r12 => (bif (decide (s5.1.1 < (0 : Int))) then (bif (r12.1.2.2 == (3 : Int)) then (some true) else (some false)) else (bif (decide (s5.1.1 > (1000000000000000 : Int))) then (bif (r12.1.2.2 == (3 : Int)) then (some true) else (some false)) else (bif (r12.1.2.2 == (0 : Int)) then (ob (total_S F r12.2.1) (fun r13 => (ob (total_S F r12.2.2) (fun r14 => (bif ((IntKind.wrap IntKind.i64 ((IntKind.wrap IntKind.i64 ((IntKind.wrap IntKind.i64 (r12.1.1 + r13)) + r14)) + r12.1.2.1)) == s5.1.1) then (bif (((r12.2.2.length - 0) : Int) == ((s5.2.2.2.2.1.length - 0) : Int)) then (bif (((r12.2.1.length - 0) : Int) == ((s5.2.2.2.2.2.length - 0) : Int)) then (some true) else (some false)) else (some false)) else (some false)))))) else (some false)))))))
noncomputable def cT4 (F : Nat) (s4 : (Int × Int) × C7) : Option Bool := (ob (ob (total_S F s4.2.2.2.2.2.2.1) (fun r8 => (ob (has_S F (s4.2.2.2.2.1.1, s4.2.2.2.2.1.2.1) r8) (fun r9 => (bif (!r9) then (some ((s4.1.1, true), (s4.2.1, s4.2.2.1, s4.2.2.2.1, s4.2.2.2.2.2.1, s4.2.2.2.2.2.2.1))) else (ob (has_S F (s4.2.2.2.2.1.2.2.1, s4.2.2.2.2.1.2.2.2.1) (IntKind.wrap IntKind.i64 (s4.2.2.2.1.1 + s4.2.2.2.1.2))) (fun r10 => (bif (!r10) then (some ((s4.1.1, true), (s4.2.1, s4.2.2.1, s4.2.2.2.1, s4.2.2.2.2.2.1, s4.2.2.2.2.2.2.1))) else (ob (has_S F (s4.2.2.2.2.1.2.2.2.2.1, s4.2.2.2.2.1.2.2.2.2.2.1) s4.1.2) (fun r11 => (some ((s4.1.1, (!r11)), (s4.2.1, s4.2.2.1, s4.2.2.2.1, s4.2.2.2.2.2.1, s4.2.2.2.2.2.2.1))))))))))))) (fun s5 => cT5 F s5))
noncomputable def cT1 (F : Nat) (s1 : (Int × (Int × Bool)) × C7) : Option Bool := (bif s1.1.2.2 then (some false) else (ob (sConserves_L0 F F s1.1.1 s1.1.2.1 (0 : Int) s1.2.1 s1.2.2.1 s1.2.2.2.1 s1.2.2.2.2.1 s1.2.2.2.2.2.1 s1.2.2.2.2.2.2.1 s1.2.2.2.2.2.2.2) (fun o_ => su o_ (fun s3 => (some s3.1)) (fun s4 => cT4 F s4))))
noncomputable def cT0 (F : Nat) (c : SwT) (mass : Int) (t_Wear t_Slurry : List Int) (r2 : ((Int × Int) × (Int × Int)) × (List Int × List Int)) (r4 : (PrT × Int) × List RgT) : Option Bool := (ob (bif (r4.1.2 != (0 : Int)) then (some ((mass, r2.1.2.1, true), (t_Wear, t_Slurry, (r2.1.1.1, r2.1.1.2), (r4.1.1.1, (r4.1.1.2.1, (r4.1.1.2.2.1, (r4.1.1.2.2.2.1, (r4.1.1.2.2.2.2.1, (r4.1.1.2.2.2.2.2.1, r4.1.1.2.2.2.2.2.2)))))), r2.2.1, r2.2.2, r4.2))) else (bif (((r2.2.1.length - 0) : Int) != ((r4.2.length - 0) : Int)) then (some ((mass, r2.1.2.1, true), (t_Wear, t_Slurry, (r2.1.1.1, r2.1.1.2), (r4.1.1.1, (r4.1.1.2.1, (r4.1.1.2.2.1, (r4.1.1.2.2.2.1, (r4.1.1.2.2.2.2.1, (r4.1.1.2.2.2.2.2.1, r4.1.1.2.2.2.2.2.2)))))), r2.2.1, r2.2.2, r4.2))) else (ob (total_S F r2.2.1) (fun r5 => (ob (total_S F r2.2.2) (fun r6 => (some ((mass, r2.1.2.1, ((IntKind.wrap IntKind.i64 ((IntKind.wrap IntKind.i64 ((IntKind.wrap IntKind.i64 (r2.1.1.1 + r2.1.1.2)) + r5)) + r6)) != c.2.2)), (t_Wear, t_Slurry, (r2.1.1.1, r2.1.1.2), (r4.1.1.1, (r4.1.1.2.1, (r4.1.1.2.2.1, (r4.1.1.2.2.2.1, (r4.1.1.2.2.2.2.1, (r4.1.1.2.2.2.2.2.1, r4.1.1.2.2.2.2.2.2)))))), r2.2.1, r2.2.2, r4.2))))))))) (fun s1 => cT1 F s1))
theorem cons_def (F : Nat) (c : SwT) (t mass : Int) (t_Wear t_Slurry : List Int) : sConserves_S F c t mass t_Wear t_Slurry = (bif (decide (((t_Wear.length - 0) : Int) > (250 : Int))) then (some true) else (bif (decide (((t_Slurry.length - 0) : Int) > (250 : Int))) then (some true) else (ob (ints_S F t_Wear) (fun r => (ob (ints_S F t_Slurry) (fun r1 => (ob (follow_S F c.1 c.2.1 c.2.2 t r r1) (fun r2 => (bif (r2.1.2.2 != (0 : Int)) then (ob (sameParts_S F (r2.1.1.1, r2.1.1.2) ((0 : Int), (0 : Int)) r2.2.1 r2.2.2 [] []) (fun r3 => (bif r3 then (bif (r2.1.2.1 == (0 : Int)) then (some true) else (some false)) else (some false)))) else (ob (predict_S F c.1 c.2.1 c.2.2) (fun r4 => cT0 F c mass t_Wear t_Slurry r2 r4))))))))))) := rfl
noncomputable def cIn (F : Nat) (mass1 d i : Int) (g0 g1 : List Int) (p : Int × Int) (x : PrT) (g3 g31 : List Int) (g4 : List RgT) : Option ((Int × (Int × (Int × Bool))) × C7) := (bif (inB i (g4.length - 0)) then (bif (inB i (g3.length - 0)) then (ob (has_S F (nth g4 (TC.dflt (TC.pair (TC.int IntKind.i64) (TC.int IntKind.i64))) i.toNat) (nth g3 (0 : Int) i.toNat)) (fun r7 => (bif (!r7) then (some ((mass1, d, i, true), (g0, g1, p, x, g3, g31, g4))) else (bif (decide (i > (0 : Int))) then (bif (inB i (g4.length - 0)) then (bif (inB (IntKind.wrap IntKind.i64 (i - (1 : Int))) (g4.length - 0)) then (bif (decide ((nth g4 (TC.dflt (TC.pair (TC.int IntKind.i64) (TC.int IntKind.i64))) i.toNat).1 < (nth g4 (TC.dflt (TC.pair (TC.int IntKind.i64) (TC.int IntKind.i64))) (IntKind.wrap IntKind.i64 (i - (1 : Int))).toNat).1)) then (some ((mass1, d, i, true), (g0, g1, p, x, g3, g31, g4))) else (bif (inB i (g4.length - 0)) then (bif (inB (IntKind.wrap IntKind.i64 (i - (1 : Int))) (g4.length - 0)) then (some ((mass1, d, i, (decide ((nth g4 (TC.dflt (TC.pair (TC.int IntKind.i64) (TC.int IntKind.i64))) i.toNat).2 < (nth g4 (TC.dflt (TC.pair (TC.int IntKind.i64) (TC.int IntKind.i64))) (IntKind.wrap IntKind.i64 (i - (1 : Int))).toNat).2))), (g0, g1, p, x, g3, g31, g4))) else none) else none)) else none) else none) else (some ((mass1, d, i, false), (g0, g1, p, x, g3, g31, g4))))))) else none) else none)
theorem cL_def (F n_ : Nat) (mass1 d i : Int) (g0 g1 : List Int) (p : Int × Int) (x : PrT) (g3 g31 : List Int) (g4 : List RgT) : sConserves_L0 F (n_ + 1) mass1 d i g0 g1 p x g3 g31 g4 = (bif (decide (i < ((g3.length - 0) : Int))) then (ob (cIn F mass1 d i g0 g1 p x g3 g31 g4) (fun s2 => (bif s2.1.2.2.2 then (some (.inl (false, (s2.2.1, s2.2.2.1)))) else (sConserves_L0 F n_ s2.1.1 s2.1.2.1 (IntKind.wrap IntKind.i64 (s2.1.2.2.1 + (1 : Int))) s2.2.1 s2.2.2.1 s2.2.2.2.1 s2.2.2.2.2.1 s2.2.2.2.2.2.1 s2.2.2.2.2.2.2.1 s2.2.2.2.2.2.2.2)))) else (some (.inr ((mass1, d), (g0, g1, p, x, g3, g31, g4))))) := rfl
theorem cIn_eq (F : Nat) (mass1 d : Int) (g0 g1 : List Int) (p : Int × Int) (x : PrT) (f : Nat → Int) (r : Nat → RgT) (q : Nat) (hq : q ≤ 2000) (hf : ∀ i, i < q → (r i).1 ≤ f i ∧ f i ≤ (r i).2) (hr : ∀ i, i + 1 < q → (r i).1 ≤ (r (i + 1)).1 ∧ (r i).2 ≤ (r (i + 1)).2) (g31 : List Int) (i : Nat) (hi : i < q) :
    cIn F mass1 d i g0 g1 p x ((List.range q).map f) g31 ((List.range q).map r) = some ((mass1, d, (i : Int), false), (g0, g1, p, x, ((List.range q).map f), g31, ((List.range q).map r))) := by
  unfold cIn
  rw [inB_t (show i < ((List.range q).map r).length - 0 by rw [len_rg]; omega), inB_t (show i < ((List.range q).map f).length - 0 by rw [len_rg]; omega), Int.toNat_natCast, nth_rg r _ q i hi, nth_rg f _ q i hi, has_eq F _ _ (hf i hi)]
  simp only [cond_true, Bool.not_true, cond_false]
  by_cases h0 : 0 < i
  · have e1 : IntKind.wrap IntKind.i64 ((i : Int) - 1) = ((i - 1 : Nat) : Int) := by rw [w64 _ (by omega)]; omega
    have h1 := hr (i - 1) (by omega)
    rw [show i - 1 + 1 = i by omega] at h1
    rw [dec_t (show (i : Int) > 0 by omega), e1, inB_t (show i - 1 < ((List.range q).map r).length - 0 by rw [len_rg]; omega), Int.toNat_natCast, nth_rg r _ q (i - 1) (by omega), dec_f (show ¬ (r i).1 < (r (i - 1)).1 by omega), dec_f (show ¬ (r i).2 < (r (i - 1)).2 by omega)]
    rfl
  · rw [dec_f (show ¬ (i : Int) > 0 by omega)]
    rfl
theorem cL_loop (F : Nat) (mass1 d : Int) (g0 g1 : List Int) (p : Int × Int) (x : PrT) (f : Nat → Int) (r : Nat → RgT) (q : Nat) (hq : q ≤ 2000) (hf : ∀ i, i < q → (r i).1 ≤ f i ∧ f i ≤ (r i).2) (hr : ∀ i, i + 1 < q → (r i).1 ≤ (r (i + 1)).1 ∧ (r i).2 ≤ (r (i + 1)).2) (g31 : List Int) : ∀ (j k i : Nat), i + j = q → j < k →
    sConserves_L0 F k mass1 d i g0 g1 p x ((List.range q).map f) g31 ((List.range q).map r) = some (.inr ((mass1, d), (g0, g1, p, x, ((List.range q).map f), g31, ((List.range q).map r))))
  | j, 0, i, _, hk => by omega
  | 0, k + 1, i, hi, _ => by
    have e : i = q := by omega
    subst e
    rw [cL_def]
    change (bif decide ((i : Int) < ((((List.range i).map f).length - 0 : Nat) : Int)) then _ else _) = _
    rw [len_map, dec_f (by omega)]; rfl
  | j + 1, k + 1, i, hi, hk => by
    have e1 : IntKind.wrap IntKind.i64 ((i : Int) + 1) = ((i + 1 : Nat) : Int) := by rw [w64 _ (by omega)]; omega
    rw [cL_def, cIn_eq F mass1 d g0 g1 p x f r q hq hf hr g31 i (by omega)]
    change (bif decide ((i : Int) < ((((List.range q).map f).length - 0 : Nat) : Int)) then sConserves_L0 F k mass1 d (IntKind.wrap IntKind.i64 ((i : Int) + 1)) g0 g1 p x ((List.range q).map f) g31 ((List.range q).map r) else _) = _
    rw [e1, len_map, dec_t (by omega)]
    exact cL_loop F mass1 d g0 g1 p x f r q hq hf hr g31 j k (i + 1) (by omega) (by omega)
theorem cT5_eq (F : Nat) (hF : 2000 < F) (mass : Int) (g0 g1 : List Int) {T B : Int} {K S : List Int} (p : Pv T B K S) : cT5 F ((mass, false), (g0, g1, (T, B), S, K)) = some true := by
  have h1 := p.h; have h2 := p.k; have h3 := p.w; have h4 := p.r
  unfold cT5
  by_cases hm : 0 ≤ mass ∧ mass ≤ 1000000000000000
  · change ob (divide_S F mass (T, B) S K) _ = _
    rw [divide_eq F hF p mass hm]
    change (bif decide (mass < 0) then _ else bif decide (mass > 1000000000000000) then _ else ob (total_S F _) _) = _
    rw [dec_f (by omega), dec_f (show ¬ mass > 1000000000000000 by omega)]
    have hs := sm_all (sh mass (sm (ll T B K S) (K.length + S.length + 2)) (ll T B K S)) K.length S.length h1
    rw [sh_sum, dv_all _ _ _ _ h3.1 rfl] at hs
    have hr := sh_range mass _ (ll T B K S) (K.length + S.length + 2) hm h3.1 rfl (fun i hi => (h4 i hi).1)
    generalize sm (ll T B K S) (K.length + S.length + 2) = W at *
    have ho : ∀ i, i < K.length → 0 ≤ od mass W (ll T B K S) i ∧ od mass W (ll T B K S) i ≤ 1000000000000000 := fun i hi => hr _ (by omega)
    have he : ∀ i, i < S.length → 0 ≤ ev mass W (ll T B K S) i ∧ ev mass W (ll T B K S) i ≤ 1000000000000000 := fun i hi => hr _ (by omega)
    change ob (total_S F ((List.range K.length).map (od mass W (ll T B K S)))) _ = _
    rw [total_eq F hF _ _ (by omega) ho]
    change ob (total_S F ((List.range S.length).map (ev mass W (ll T B K S)))) _ = _
    rw [total_eq F hF _ _ (by omega) he]
    have s1 := sm_range _ _ _ ho
    have s2 := sm_range _ _ _ he
    have s3 := hr 0 (by omega)
    have s4 := hr (K.length + S.length + 1) (by omega)
    have hs' : mass = sh mass W (ll T B K S) 0 + sm (od mass W (ll T B K S)) K.length + sm (ev mass W (ll T B K S)) S.length + sh mass W (ll T B K S) (K.length + S.length + 1) := hs
    change (bif (IntKind.wrap IntKind.i64 (IntKind.wrap IntKind.i64 (IntKind.wrap IntKind.i64 (sh mass W (ll T B K S) 0 + sm (od mass W (ll T B K S)) K.length) + sm (ev mass W (ll T B K S)) S.length) + sh mass W (ll T B K S) (K.length + S.length + 1)) == mass) then (bif ((((List.range S.length).map (ev mass W (ll T B K S))).length : Int) - 0 == (S.length : Int) - 0) then (bif ((((List.range K.length).map (od mass W (ll T B K S))).length : Int) - 0 == (K.length : Int) - 0) then some true else some false) else some false) else some false) = _
    generalize sh mass W (ll T B K S) 0 = a1 at *
    generalize sh mass W (ll T B K S) (K.length + S.length + 1) = a2 at *
    rw [len_map, len_map, beq_self_eq_true, beq_self_eq_true]
    generalize sm (od mass W (ll T B K S)) K.length = a3 at *
    generalize sm (ev mass W (ll T B K S)) S.length = a4 at *
    rw [w64 (a1 + a3) (by omega), w64 (a1 + a3 + a4) (by omega), w64 (a1 + a3 + a4 + a2) (by omega), show (a1 + a3 + a4 + a2 == mass) = true from beq_iff_eq.2 hs'.symm]
    rfl
  · have hd : divide_S F mass (T, B) S K = some ((0, (0, 3)), ([], [])) := by
      unfold divide_S
      rw [with_S, show inOk mass 0 1000000000000000 = false by
        unfold inOk
        rcases Int.lt_or_le mass 0 with x | x
        · rw [dec_f (show ¬ (0 : Int) ≤ mass by omega)]; rfl
        · rw [dec_t x, dec_f (show ¬ mass ≤ 1000000000000000 by omega)]; rfl]
      rfl
    change ob (divide_S F mass (T, B) S K) _ = _
    rw [hd]
    change (bif decide (mass < 0) then some true else bif decide (mass > 1000000000000000) then some true else _) = _
    rcases Int.lt_or_le mass 0 with x | x
    · rw [dec_t x]; rfl
    · rw [dec_f (show ¬ mass < 0 by omega), dec_t (show mass > 1000000000000000 by omega)]; rfl
theorem dAt_down {d wear : Int} (hw : 0 ≤ wear) (i : Nat) : dAt d wear (i + 1) ≤ dAt d wear i := by
  unfold dAt mx0
  have e : ((i + 1 : Nat) : Int) * wear = (i : Int) * wear + wear := by rw [Int.natCast_add, Int.add_mul]; omega
  rw [e]
  split <;> split <;> omega
theorem cons_fine (F : Nat) (hF : 2000 < F) {w : WrT} {b : WbT} {n : Int} (h0 : ckI w b n = 0) (t mass : Int) (G H : List Int) (lG : G.length = mU b n) (lH : H.length = mU b n) (hc : csOk w b t G H = true) (h250 : mU b n ≤ 250) : cT0 F (w, (b, n)) mass G H
    ((((mn n b.2.2.1, rsG b n (dl t G) (sf H) (mU b n) (mU b n)), (dl t G (mU b n), 0)), (sgs b (dl t G) (sf H) (mU b n) (mU b n), kgs b n (dl t G) (sf H) (mU b n) (mU b n))))
    ((prd w b n (mU b n), 0), rgl w b (mU b n - 1)) = some true := by
  have hv := vld_of h0
  have bd := bd_of hv hc lG lH
  obtain ⟨cg, hGr, ht⟩ := cg_of hv hc lG lH
  have h1 := hv.d; have h2 := hv.e
  have e1 : sgs b (dl t G) (sf H) (mU b n) (mU b n) = (List.range (mU b n - 1)).map (slg b (dl t G) (sf H)) := by unfold sgs; rw [if_neg (by omega)]
  have csum := course_sum cg
  have kr : ∀ i, i < mU b n → 0 ≤ kg b n (dl t G) (sf H) (mU b n) i ∧ kg b n (dl t G) (sf H) (mU b n) i ≤ 600000000 := fun i hi => by
    have a1 := cg.kgr hi; have a2 := cg.hd i (by omega); have a3 := cg.hs i hi
    omega
  have sr : ∀ i, i < mU b n - 1 → 0 ≤ slg b (dl t G) (sf H) i ∧ slg b (dl t G) (sf H) i ≤ 600000000 := fun i hi => by
    have a1 := cg.ht i (by omega); have a2 := cg.hd i (by omega); have a3 := cg.hs i (by omega); have a4 := cg.hp
    unfold slg
    omega
  have tr := top_range hv
  have rr : 0 ≤ rsG b n (dl t G) (sf H) (mU b n) (mU b n) ∧ rsG b n (dl t G) (sf H) (mU b n) (mU b n) ≤ 600000000 := by
    unfold rsG
    rw [if_pos rfl]
    by_cases hm : mU b n = 0
    · rw [if_pos hm]; omega
    · rw [if_neg hm]
      have a1 := cg.kgr (show mU b n - 1 < mU b n by omega)
      obtain ⟨p1, p2, p3⟩ := cg.plr (i := mU b n - 1) (by omega)
      have a3 := cg.hst; have a4 := cg.hn
      omega
  have kb := bd.sm b n
  have sb := fun i (hi : i < mU b n - 1) => bd.slg b (show i < mU b n by omega)
  have rb := bd.rs b n
  have wb := bd.dl (mU b n) (Nat.le_refl _)
  have hn := cg.hn
  have smk := sm_range _ _ _ kr
  have sms := sm_range _ _ _ sr
  have ek : kgs b n (dl t G) (sf H) (mU b n) (mU b n) = (List.range (mU b n)).map (kg b n (dl t G) (sf H) (mU b n)) := rfl
  rw [e1, ek]
  have pv : Pv (mn n b.2.2.1) (rsG b n (dl t G) (sf H) (mU b n) (mU b n)) ((List.range (mU b n)).map (kg b n (dl t G) (sf H) (mU b n))) ((List.range (mU b n - 1)).map (slg b (dl t G) (sf H))) := by
    have hh : ((List.range (mU b n - 1)).map (slg b (dl t G) (sf H))).length = ((List.range (mU b n)).map (kg b n (dl t G) (sf H) (mU b n))).length - 1 := by rw [len_map, len_map]
    have hw := ll_sum (mn n b.2.2.1) (rsG b n (dl t G) (sf H) (mU b n) (mU b n)) _ _ hh
    refine ⟨hh, by rw [len_map]; omega, fun hz => ?_, ll_range hh tr rr (fun i hi => ?_) (fun i hi => ?_), ?_⟩
    · rw [len_map] at hz
      unfold rsG
      rw [if_pos rfl, if_pos hz]
    · rw [len_map] at hi
      rw [nth_map _ _ _ hi]; exact kr i hi
    · rw [len_map] at hi
      rw [nth_map _ _ _ hi]; exact sr i hi
    · rw [hw, len_map, len_map, sm_congr _ (kg b n (dl t G) (sf H) (mU b n)) (mU b n) fun i hi => nth_map (kg b n (dl t G) (sf H) (mU b n)) _ _ hi, sm_congr _ (slg b (dl t G) (sf H)) (mU b n - 1) fun i hi => nth_map (slg b (dl t G) (sf H)) _ _ hi]
      omega
  have tk := total_eq F hF _ (mU b n) (by omega) (fun i hi => ⟨(kr i hi).1, by have := (kr i hi).2; omega⟩)
  have ts := total_eq F hF _ (mU b n - 1) (by omega) (fun i hi => ⟨(sr i hi).1, by have := (sr i hi).2; omega⟩)
  unfold cT0
  have lz : (((((List.range (mU b n - 1)).map (slg b (dl t G) (sf H))).length : Int) - 0) != (((rgl w b (mU b n - 1)).length : Int) - 0)) = false := by
    unfold rgl
    rw [len_rg, len_rg, bne_self_eq_false]
  change ob (bif (((((List.range (mU b n - 1)).map (slg b (dl t G) (sf H))).length : Int) - 0) != (((rgl w b (mU b n - 1)).length : Int) - 0)) then _ else ob (total_S F ((List.range (mU b n - 1)).map (slg b (dl t G) (sf H)))) (fun r5 => ob (total_S F ((List.range (mU b n)).map (kg b n (dl t G) (sf H) (mU b n)))) (fun r6 => some ((mass, (dl t G (mU b n)), (IntKind.wrap IntKind.i64 (IntKind.wrap IntKind.i64 (IntKind.wrap IntKind.i64 (mn n b.2.2.1 + rsG b n (dl t G) (sf H) (mU b n) (mU b n)) + r5) + r6)) != n), (G, H, (mn n b.2.2.1, rsG b n (dl t G) (sf H) (mU b n) (mU b n)), prd w b n (mU b n), ((List.range (mU b n - 1)).map (slg b (dl t G) (sf H))), ((List.range (mU b n)).map (kg b n (dl t G) (sf H) (mU b n))), rgl w b (mU b n - 1)))))) _ = _
  rw [lz, ts]
  change ob (ob (total_S F ((List.range (mU b n)).map (kg b n (dl t G) (sf H) (mU b n)))) _) _ = _
  rw [tk]
  change cT1 F ((mass, (dl t G (mU b n)), (IntKind.wrap IntKind.i64 (IntKind.wrap IntKind.i64 (IntKind.wrap IntKind.i64 (mn n b.2.2.1 + rsG b n (dl t G) (sf H) (mU b n) (mU b n)) + sm (slg b (dl t G) (sf H)) (mU b n - 1)) + sm (kg b n (dl t G) (sf H) (mU b n)) (mU b n)) != n)), (G, H, (mn n b.2.2.1, rsG b n (dl t G) (sf H) (mU b n) (mU b n)), prd w b n (mU b n), ((List.range (mU b n - 1)).map (slg b (dl t G) (sf H))), ((List.range (mU b n)).map (kg b n (dl t G) (sf H) (mU b n))), rgl w b (mU b n - 1))) = _
  have fl : (IntKind.wrap IntKind.i64 (IntKind.wrap IntKind.i64 (IntKind.wrap IntKind.i64 (mn n b.2.2.1 + rsG b n (dl t G) (sf H) (mU b n) (mU b n)) + sm (slg b (dl t G) (sf H)) (mU b n - 1)) + sm (kg b n (dl t G) (sf H) (mU b n)) (mU b n)) != n) = false := by
    rw [w64 (mn n b.2.2.1 + _) (by omega), w64 (mn n b.2.2.1 + _ + sm (slg b (dl t G) (sf H)) (mU b n - 1)) (by omega), w64 _ (by omega), csum, bne_self_eq_false]
  rw [fl]
  unfold cT1
  change ob (sConserves_L0 F F mass (dl t G (mU b n)) ((0 : Nat) : Int) G H (mn n b.2.2.1, rsG b n (dl t G) (sf H) (mU b n) (mU b n)) (prd w b n (mU b n)) ((List.range (mU b n - 1)).map (slg b (dl t G) (sf H))) ((List.range (mU b n)).map (kg b n (dl t G) (sf H) (mU b n))) ((List.range (mU b n - 1)).map (fun i => (slf b w.1.2 w.2.1.1 b.2.2.2.2 i, slf b w.1.1 w.2.1.2 b.2.2.2.1 i)))) _ = _
  rw [cL_loop F mass (dl t G (mU b n)) G H _ _ (slg b (dl t G) (sf H)) (fun i => (slf b w.1.2 w.2.1.1 b.2.2.2.2 i, slf b w.1.1 w.2.1.2 b.2.2.2.1 i)) (mU b n - 1) (by omega) sb (fun i hi => by
    have a1 := dAt_down (d := w.1.2) (wear := w.2.1.1) (by omega) i
    have a2 := dAt_down (d := w.1.1) (wear := w.2.1.2) (by omega) i
    show slf b w.1.2 w.2.1.1 b.2.2.2.2 i ≤ slf b w.1.2 w.2.1.1 b.2.2.2.2 (i + 1) ∧ slf b w.1.1 w.2.1.2 b.2.2.2.1 i ≤ slf b w.1.1 w.2.1.2 b.2.2.2.1 (i + 1)
    unfold slf
    omega) _ (mU b n - 1) F 0 (by omega) (by omega)]
  change cT4 F ((mass, dl t G (mU b n)), (G, H, (mn n b.2.2.1, rsG b n (dl t G) (sf H) (mU b n) (mU b n)), prd w b n (mU b n), ((List.range (mU b n - 1)).map (slg b (dl t G) (sf H))), ((List.range (mU b n)).map (kg b n (dl t G) (sf H) (mU b n))), _)) = _
  unfold cT4
  change ob (ob (total_S F ((List.range (mU b n)).map (kg b n (dl t G) (sf H) (mU b n)))) _) _ = _
  rw [tk]
  change ob (ob (has_S F (sm (kf b n w.1.1 w.2.1.2 b.2.2.2.1 (mU b n)) (mU b n), sm (kf b n w.1.2 w.2.1.1 b.2.2.2.2 (mU b n)) (mU b n)) (sm (kg b n (dl t G) (sf H) (mU b n)) (mU b n))) _) _ = _
  rw [has_eq F _ _ kb]
  change ob (ob (has_S F (mn n b.2.2.1 + rsA b n w.1.2 w.2.1.1 b.2.2.2.2 (mU b n) (mU b n), mn n b.2.2.1 + rsA b n w.1.1 w.2.1.2 b.2.2.2.1 (mU b n) (mU b n)) (IntKind.wrap IntKind.i64 (mn n b.2.2.1 + rsG b n (dl t G) (sf H) (mU b n) (mU b n)))) _) _ = _
  rw [w64 (mn n b.2.2.1 + _) (by omega), has_eq F _ _ (by simp only; omega)]
  change ob (ob (has_S F (dAt w.1.1 w.2.1.2 (mU b n), dAt w.1.2 w.2.1.1 (mU b n)) (dl t G (mU b n))) _) _ = _
  rw [has_eq F _ _ wb]
  exact cT5_eq F hF mass G H pv
theorem ints_eq' (F : Nat) (l : List Int) (h : l.length ≤ 250) : ints_S F l = some l := by
  unfold ints_S
  rw [lenOk_t (by omega)]
  rfl
theorem cons_bad (F : Nat) (hF : 2000 < F) (c : SwT) (t mass : Int) (G H : List Int) (e : Int) (he : (e != 0) = true) (hG : G.length ≤ 250) (hH : H.length ≤ 250) (hf : follow_S F c.1 c.2.1 c.2.2 t G H = some (((0, 0), (0, e)), ([], []))) : sConserves_S F c t mass G H = some true := by
  rw [cons_def, dec_f (show ¬ (G.length : Int) - 0 > 250 by omega), dec_f (show ¬ (H.length : Int) - 0 > 250 by omega), ints_eq' F G hG, ints_eq' F H hH]
  change ob (follow_S F c.1 c.2.1 c.2.2 t G H) _ = _
  rw [hf]
  change (bif (e != 0) then ob (sameParts_S F (0, 0) (0, 0) [] [] [] []) (fun r3 => (bif r3 then (bif ((0 : Int) == (0 : Int)) then (some true) else (some false)) else (some false))) else _) = _
  rw [he, sp_eq F hF (0, 0) [] [] (by decide) (by decide)]
  rfl
theorem sConserves_law0 (c : SwT) (t mass : Int) (G H : List Int) : sConserves_S 3000 c t mass G H = some true := by
  obtain ⟨w, b, n⟩ := c
  by_cases hG : G.length ≤ 250
  · by_cases hH : H.length ≤ 250
    · cases hk : (ckI w b n == 0) with
      | false => exact cons_bad 3000 (by decide) (w, (b, n)) t mass G H (ckI w b n) (by unfold bne; rw [hk]; rfl) hG hH (follow_bad 3000 w b n t G H hk)
      | true =>
        have h0 : ckI w b n = 0 := eq_of_beq hk
        by_cases hl : G.length = mU b n ∧ H.length = mU b n
        · cases hc : csOk w b t G H with
          | false => exact cons_bad 3000 (by decide) (w, (b, n)) t mass G H 30 rfl hG hH (follow_out 3000 (by decide) h0 t G H hl.1 hl.2 hc)
          | true =>
            rw [cons_def, dec_f (show ¬ (G.length : Int) - 0 > 250 by omega), dec_f (show ¬ (H.length : Int) - 0 > 250 by omega), ints_eq' 3000 G hG, ints_eq' 3000 H hH]
            change ob (follow_S 3000 w b n t G H) _ = _
            rw [follow_fine 3000 (by decide) h0 t G H hl.1 hl.2 hc]
            change ob (predict_S 3000 w b n) _ = _
            rw [predict_eq 3000 (by decide) h0]
            exact cons_fine 3000 (by decide) h0 t mass G H hl.1 hl.2 hc (by omega)
        · exact cons_bad 3000 (by decide) (w, (b, n)) t mass G H 2 rfl hG hH (follow_two 3000 h0 t G H hl)
    · rw [cons_def, dec_t (show (H.length : Int) - 0 > 250 by omega)]
      cases decide ((G.length : Int) - 0 > 250) <;> rfl
  · rw [cons_def, dec_t (show (G.length : Int) - 0 > 250 by omega)]
    rfl
end Go.Proofs.YtdfgmfddkcmalaaDoor
