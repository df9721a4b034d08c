/- Plain laws of SliceAll: whatever becomes of a block in a course lies between what becomes of it in two courses. No condition. -/
import Derived.Test.YtdfgmfddkcmalaaDoorWLF8d
import Derived.Test.YtdfgmfddkcmalaaDoorWX8c

namespace Go.Proofs.YtdfgmfddkcmalaaDoor
open Go.RowKit
set_option maxRecDepth 100000
theorem sm_mono (f g : Nat → Int) : ∀ (q : Nat), (∀ i, i < q → f i ≤ g i) → sm f q ≤ sm g q
  | 0, _ => Int.le_refl _
  | q + 1, h => by
    have h1 := sm_mono f g q fun i hi => h i (by omega)
    have h2 := h q (by omega)
    unfold sm
    omega
/-- The numbers of a course lie in their ranges. -/
structure Bd (d0 d1 W0 W1 s0 s1 t : Int) (G H : List Int) (m : Nat) : Prop where
  hd : 0 ≤ d0
  hw : 0 ≤ W0
  t : d0 ≤ t ∧ t ≤ d1
  g : ∀ i, i < m → W0 ≤ nth G (0 : Int) i ∧ nth G (0 : Int) i ≤ W1
  h : ∀ i, i < m → s0 ≤ nth H (0 : Int) i ∧ nth H (0 : Int) i ≤ s1
theorem Bd.dl {d0 d1 W0 W1 s0 s1 t : Int} {G H : List Int} {m : Nat} (h : Bd d0 d1 W0 W1 s0 s1 t G H m) : ∀ i, i ≤ m → dAt d0 W1 i ≤ dl t G i ∧ YtdfgmfddkcmalaaDoor.dl t G i ≤ dAt d1 W0 i
  | 0, _ => by
    have := h.t; have := h.hd
    rw [dAt_0 (by omega), dAt_0 (by omega)]
    exact h.t
  | i + 1, hi => by
    have h1 := h.dl i (by omega)
    have h2 := h.g i (by omega)
    have := h.hd; have := h.hw; have := h.t
    rw [← dAt_succ (d := d0) (by omega) (by omega) i, ← dAt_succ (d := d1) (by omega) (by omega) i]
    show mx0 (dAt d0 W1 i - W1) ≤ mx0 (YtdfgmfddkcmalaaDoor.dl t G i - nth G (0 : Int) i) ∧ mx0 (YtdfgmfddkcmalaaDoor.dl t G i - nth G (0 : Int) i) ≤ mx0 (dAt d1 W0 i - W0)
    unfold mx0
    constructor <;> split <;> split <;> omega
theorem Bd.kg {d0 d1 W0 W1 s0 s1 t : Int} {G H : List Int} {m : Nat} (h : Bd d0 d1 W0 W1 s0 s1 t G H m) (b : WbT) (n : Int) {i : Nat} (hi : i < m) :
    kf b n d0 W1 s0 m i ≤ kg b n (YtdfgmfddkcmalaaDoor.dl t G) (sf H) m i ∧ YtdfgmfddkcmalaaDoor.kg b n (YtdfgmfddkcmalaaDoor.dl t G) (sf H) m i ≤ kf b n d1 W0 s1 m i := by
  have h1 := h.dl i (by omega)
  have h2 : s0 ≤ sf H i ∧ sf H i ≤ s1 := h.h i hi
  unfold kf YtdfgmfddkcmalaaDoor.kg mn
  by_cases hm : i + 1 = m
  · rw [if_pos hm, if_pos hm, if_pos hm]; constructor <;> split <;> split <;> omega
  · rw [if_neg hm, if_neg hm, if_neg hm]; omega
theorem Bd.slg {d0 d1 W0 W1 s0 s1 t : Int} {G H : List Int} {m : Nat} (h : Bd d0 d1 W0 W1 s0 s1 t G H m) (b : WbT) {i : Nat} (hi : i < m) :
    slf b d1 W0 s1 i ≤ slg b (YtdfgmfddkcmalaaDoor.dl t G) (sf H) i ∧ YtdfgmfddkcmalaaDoor.slg b (YtdfgmfddkcmalaaDoor.dl t G) (sf H) i ≤ slf b d0 W1 s0 i := by
  have h1 := h.dl i (by omega)
  have h2 : s0 ≤ sf H i ∧ sf H i ≤ s1 := h.h i hi
  unfold slf YtdfgmfddkcmalaaDoor.slg
  omega
theorem Bd.sm {d0 d1 W0 W1 s0 s1 t : Int} {G H : List Int} {m : Nat} (h : Bd d0 d1 W0 W1 s0 s1 t G H m) (b : WbT) (n : Int) :
    sm (kf b n d0 W1 s0 m) m ≤ sm (YtdfgmfddkcmalaaDoor.kg b n (YtdfgmfddkcmalaaDoor.dl t G) (sf H) m) m ∧ YtdfgmfddkcmalaaDoor.sm (YtdfgmfddkcmalaaDoor.kg b n (YtdfgmfddkcmalaaDoor.dl t G) (sf H) m) m ≤ YtdfgmfddkcmalaaDoor.sm (kf b n d1 W0 s1 m) m :=
  ⟨sm_mono _ _ m fun i hi => (h.kg b n hi).1, sm_mono _ _ m fun i hi => (h.kg b n hi).2⟩
theorem Bd.rs {d0 d1 W0 W1 s0 s1 t : Int} {G H : List Int} {m : Nat} (h : Bd d0 d1 W0 W1 s0 s1 t G H m) (b : WbT) (n : Int) :
    rsA b n d1 W0 s1 m m ≤ rsG b n (YtdfgmfddkcmalaaDoor.dl t G) (sf H) m m ∧ rsG b n (YtdfgmfddkcmalaaDoor.dl t G) (sf H) m m ≤ rsA b n d0 W1 s0 m m := by
  unfold rsA rsG
  rw [if_pos rfl, if_pos rfl, if_pos rfl]
  by_cases hm : m = 0
  · rw [if_pos hm, if_pos hm, if_pos hm]; omega
  · rw [if_neg hm, if_neg hm, if_neg hm]
    have := h.kg b n (show m - 1 < m by omega)
    omega
theorem bd_of {w : WrT} {b : WbT} {n : Int} (h : Vld w b n) {t : Int} {G H : List Int} {m : Nat} (hc : csOk w b t G H = true) (lG : G.length = m) (lH : H.length = m) :
    Bd w.1.1 w.1.2 w.2.1.1 w.2.1.2 b.2.2.2.1 b.2.2.2.2 t G H m := by
  have h1 := h.d; have h2 := h.e
  unfold csOk at hc
  rw [Bool.and_eq_true, Bool.and_eq_true] at hc
  obtain ⟨⟨c1, c2⟩, c3⟩ := hc
  unfold inOk at c1
  simp only [Bool.and_eq_true, decide_eq_true_eq] at c1
  exact ⟨by omega, by omega, c1, fun i hi => all_nth c2 (show i < G.length by omega), fun i hi => all_nth c3 (show i < H.length by omega)⟩
end Go.Proofs.YtdfgmfddkcmalaaDoor


namespace Go.Proofs.YtdfgmfddkcmalaaDoor
open Go.RowKit
set_option maxRecDepth 100000
abbrev A8t := (Int × (Int × (Int × (Int × (Int × (Bool × Int)))))) × (SwT × (WrT × (RgT × (PrT × (PrT × (Int × (List RgT × (List RgT × (List Int × List Int)))))))))
abbrev A7t := (Int × (Int × (Int × (Int × (Int × (Bool × (Int × (Int × (Int × (Int × Int)))))))))) × (SwT × (WrT × (RgT × (PrT × (PrT × (Int × (List RgT × (List RgT × (List Int × List Int)))))))))
abbrev A9t := (Int × (Int × (Int × (Int × (Int × (Int × (Int × (Int × Bool)))))))) × (SwT × (WrT × (RgT × (PrT × (PrT × ((Int × Int) × (List Int × (List RgT × (List RgT × List Int)))))))))
abbrev A2o := Option (Bool ⊕ ((Int × (Int × (Int × Int))) × (SwT × (WrT × (RgT × (PrT × (PrT × (List RgT × List RgT))))))))
noncomputable def a9 (F n_ : Nat) (s9 : A9t) : A2o := (ob (sAll_L4 F s9.1.1 s9.1.2.1 s9.1.2.2.1 s9.1.2.2.2.1 s9.1.2.2.2.2.1 s9.1.2.2.2.2.2.1 s9.1.2.2.2.2.2.2.1 s9.1.2.2.2.2.2.2.2.1 s9.1.2.2.2.2.2.2.2.2 s9.2.1 s9.2.2.1 s9.2.2.2.1 s9.2.2.2.2.1 s9.2.2.2.2.2.1 s9.2.2.2.2.2.2.1 s9.2.2.2.2.2.2.2.1 s9.2.2.2.2.2.2.2.2.1 s9.2.2.2.2.2.2.2.2.2.2 F (0 : Int) s9.2.2.2.2.2.2.2.2.2.1) (fun s11 => (ob (total_S F s11.2.2.2.2.2.2.2.2.2.2) (fun r6 => (ob (grow_S F (s11.2.2.2.2.2.1.1, s11.2.2.2.2.2.1.2.1) r6 (decide (s11.1.2.2.1 > (0 : Int)))) (fun r7 => (ob (grow_S F (s11.2.2.2.2.2.1.2.2.1, s11.2.2.2.2.2.1.2.2.2.1) (IntKind.wrap IntKind.i64 (s11.2.2.2.2.2.2.1.1 + s11.2.2.2.2.2.2.1.2)) (decide (s11.1.2.2.1 > (0 : Int)))) (fun r8 => (ob (grow_S F (s11.2.2.2.2.2.1.2.2.2.2.1, s11.2.2.2.2.2.1.2.2.2.2.2.1) s11.1.2.2.2.2.2.1 (decide (s11.1.2.2.1 > (0 : Int)))) (fun r9 => (sAll_L2 F n_ s11.1.1 s11.1.2.1 (IntKind.wrap IntKind.i64 (s11.1.2.2.1 + (1 : Int))) s11.1.2.2.2.1 (IntKind.wrap IntKind.i64 (s11.1.2.2.2.2.1 + (1 : Int))) s11.2.1 s11.2.2.1 s11.2.2.2.1 s11.2.2.2.2.1 (r7.1, (r7.2, (r8.1, (r8.2, (r9.1, (r9.2, s11.2.2.2.2.2.1.2.2.2.2.2.2)))))) s11.2.2.2.2.2.2.2.2.1 s11.2.2.2.2.2.2.2.2.2.1)))))))))))
noncomputable def a8 (F n_ : Nat) (s8 : A8t) : A2o := (bif (!s8.1.2.2.2.2.2.1) then (sAll_L2 F n_ s8.1.1 s8.1.2.1 s8.1.2.2.1 s8.1.2.2.2.1 (IntKind.wrap IntKind.i64 (s8.1.2.2.2.2.1 + (1 : Int))) s8.2.1 s8.2.2.1 s8.2.2.2.1 s8.2.2.2.2.1 s8.2.2.2.2.2.1 s8.2.2.2.2.2.2.2.1 s8.2.2.2.2.2.2.2.2.1) else (ob (follow_S F s8.2.2.1 s8.2.1.2.1 s8.2.1.2.2 s8.2.2.2.2.2.2.1 s8.2.2.2.2.2.2.2.2.2.1 s8.2.2.2.2.2.2.2.2.2.2) (fun r4 => (bif (r4.1.2.2 != (0 : Int)) then (some (.inl false)) else (bif (((r4.2.1.length - 0) : Int) != ((s8.2.2.2.2.2.2.2.1.length - 0) : Int)) then (some (.inl false)) else (ob (bif (decide (s8.1.1 > (0 : Int))) then (bif (decide (s8.1.2.2.2.2.2.2 < s8.2.2.1.2.2)) then (some ((s8.1.1, (IntKind.wrap IntKind.i64 (s8.1.2.1 + (1 : Int))), s8.1.2.2.1, s8.1.2.2.2.1, s8.1.2.2.2.2.1, r4.1.2.1, ((r4.2.1.length - 0) : Int), ((s8.2.2.2.2.2.2.2.1.length - 0) : Int), (((r4.2.1.length - 0) : Int) != ((s8.2.2.2.2.2.2.2.1.length - 0) : Int))), (s8.2.1, s8.2.2.1, s8.2.2.2.1, s8.2.2.2.2.1, s8.2.2.2.2.2.1, (r4.1.1.1, r4.1.1.2), r4.2.1, s8.2.2.2.2.2.2.2.1, s8.2.2.2.2.2.2.2.2.1, r4.2.2))) else (some ((s8.1.1, s8.1.2.1, s8.1.2.2.1, s8.1.2.2.2.1, s8.1.2.2.2.2.1, r4.1.2.1, ((r4.2.1.length - 0) : Int), ((s8.2.2.2.2.2.2.2.1.length - 0) : Int), (((r4.2.1.length - 0) : Int) != ((s8.2.2.2.2.2.2.2.1.length - 0) : Int))), (s8.2.1, s8.2.2.1, s8.2.2.2.1, s8.2.2.2.2.1, s8.2.2.2.2.2.1, (r4.1.1.1, r4.1.1.2), r4.2.1, s8.2.2.2.2.2.2.2.1, s8.2.2.2.2.2.2.2.2.1, r4.2.2)))) else (some ((s8.1.1, s8.1.2.1, s8.1.2.2.1, s8.1.2.2.2.1, s8.1.2.2.2.2.1, r4.1.2.1, ((r4.2.1.length - 0) : Int), ((s8.2.2.2.2.2.2.2.1.length - 0) : Int), (((r4.2.1.length - 0) : Int) != ((s8.2.2.2.2.2.2.2.1.length - 0) : Int))), (s8.2.1, s8.2.2.1, s8.2.2.2.1, s8.2.2.2.2.1, s8.2.2.2.2.2.1, (r4.1.1.1, r4.1.1.2), r4.2.1, s8.2.2.2.2.2.2.2.1, s8.2.2.2.2.2.2.2.2.1, r4.2.2)))) (fun s9 => a9 F n_ s9)))))))
theorem aL2_def (F n_ : Nat) (m2 broken2 courses2 d1 k : Int) (c3 : SwT) (w2 : WrT) (s5 : RgT) (x2 found2 : PrT) (g42 g52 : List RgT) : sAll_L2 F (n_ + 1) m2 broken2 courses2 d1 k c3 w2 s5 x2 found2 g42 g52 = (ob (power_S F (6 : Int) m2) (fun r3 => (bif (decide (k < r3)) then (ob (sAll_L3 F F m2 broken2 courses2 d1 k true d1 (0 : Int) k c3 w2 s5 x2 found2 d1 g42 g52 [] []) (fun s8 => a8 F n_ s8)) else (some (.inr ((m2, broken2, courses2, d1), (c3, w2, s5, x2, found2, g42, g52))))))) := rfl
noncomputable def a3i (F : Nat) (m3 broken3 courses3 d2 k1 : Int) (ok : Bool) (last i n : Int) (c4 : SwT) (w3 : WrT) (s6 : RgT) (x3 found3 : PrT) (t : Int) (g43 g53 : List RgT) (g6 g61 : List Int) : Option A7t := (bif ok then (bif (decide ((IntKind.wrap IntKind.i64 (w3.2.1.1 + (Int.tmod n (3 : Int)))) ≤ w3.2.1.2)) then (some ((m3, broken3, courses3, d2, k1, (decide ((IntKind.wrap IntKind.i64 (s6.1 + (Int.tmod (IntKind.wrap IntKind.i64 (Int.tdiv n (3 : Int))) (2 : Int)))) ≤ s6.2)), last, i, (IntKind.wrap IntKind.i64 (Int.tdiv n (6 : Int))), (IntKind.wrap IntKind.i64 (w3.2.1.1 + (Int.tmod n (3 : Int)))), (IntKind.wrap IntKind.i64 (s6.1 + (Int.tmod (IntKind.wrap IntKind.i64 (Int.tdiv n (3 : Int))) (2 : Int))))), (c4, w3, s6, x3, found3, t, g43, g53, g6, g61))) else (some ((m3, broken3, courses3, d2, k1, false, last, i, (IntKind.wrap IntKind.i64 (Int.tdiv n (6 : Int))), (IntKind.wrap IntKind.i64 (w3.2.1.1 + (Int.tmod n (3 : Int)))), (IntKind.wrap IntKind.i64 (s6.1 + (Int.tmod (IntKind.wrap IntKind.i64 (Int.tdiv n (3 : Int))) (2 : Int))))), (c4, w3, s6, x3, found3, t, g43, g53, g6, g61)))) else (some ((m3, broken3, courses3, d2, k1, false, last, i, (IntKind.wrap IntKind.i64 (Int.tdiv n (6 : Int))), (IntKind.wrap IntKind.i64 (w3.2.1.1 + (Int.tmod n (3 : Int)))), (IntKind.wrap IntKind.i64 (s6.1 + (Int.tmod (IntKind.wrap IntKind.i64 (Int.tdiv n (3 : Int))) (2 : Int))))), (c4, w3, s6, x3, found3, t, g43, g53, g6, g61))))
noncomputable def a7 (F n_ : Nat) (s7 : A7t) : Option A8t := (bif (lenOk (s7.2.2.2.2.2.2.2.2.2.1.length - 0) (s7.1.2.2.2.2.2.2.2.2.2.1 :: []).length) then (bif (lenOk (s7.2.2.2.2.2.2.2.2.2.2.length - 0) (s7.1.2.2.2.2.2.2.2.2.2.2 :: []).length) then (bif (decide ((IntKind.wrap IntKind.i64 (s7.1.2.2.2.2.2.2.2.1 + (1 : Int))) < s7.1.1)) then (sAll_L3 F n_ s7.1.1 s7.1.2.1 s7.1.2.2.1 s7.1.2.2.2.1 s7.1.2.2.2.2.1 s7.1.2.2.2.2.2.1 (if (IntKind.wrap IntKind.i64 (s7.1.2.2.2.2.2.2.1 - s7.1.2.2.2.2.2.2.2.2.2.1)) > (0 : Int) then (IntKind.wrap IntKind.i64 (s7.1.2.2.2.2.2.2.1 - s7.1.2.2.2.2.2.2.2.2.2.1)) else (0 : Int)) (IntKind.wrap IntKind.i64 (s7.1.2.2.2.2.2.2.2.1 + (1 : Int))) s7.1.2.2.2.2.2.2.2.2.1 s7.2.1 s7.2.2.1 s7.2.2.2.1 s7.2.2.2.2.1 s7.2.2.2.2.2.1 s7.2.2.2.2.2.2.1 s7.2.2.2.2.2.2.2.1 s7.2.2.2.2.2.2.2.2.1 (s7.2.2.2.2.2.2.2.2.2.1 ++ (s7.1.2.2.2.2.2.2.2.2.2.1 :: [])) (s7.2.2.2.2.2.2.2.2.2.2 ++ (s7.1.2.2.2.2.2.2.2.2.2.2 :: []))) else (sAll_L3 F n_ s7.1.1 s7.1.2.1 s7.1.2.2.1 s7.1.2.2.2.1 s7.1.2.2.2.2.1 s7.1.2.2.2.2.2.1 s7.1.2.2.2.2.2.2.1 (IntKind.wrap IntKind.i64 (s7.1.2.2.2.2.2.2.2.1 + (1 : Int))) s7.1.2.2.2.2.2.2.2.2.1 s7.2.1 s7.2.2.1 s7.2.2.2.1 s7.2.2.2.2.1 s7.2.2.2.2.2.1 s7.2.2.2.2.2.2.1 s7.2.2.2.2.2.2.2.1 s7.2.2.2.2.2.2.2.2.1 (s7.2.2.2.2.2.2.2.2.2.1 ++ (s7.1.2.2.2.2.2.2.2.2.2.1 :: [])) (s7.2.2.2.2.2.2.2.2.2.2 ++ (s7.1.2.2.2.2.2.2.2.2.2.2 :: [])))) else none) else none)
theorem aL3_def (F n_ : Nat) (m3 broken3 courses3 d2 k1 : Int) (ok : Bool) (last i n : Int) (c4 : SwT) (w3 : WrT) (s6 : RgT) (x3 found3 : PrT) (t : Int) (g43 g53 : List RgT) (g6 g61 : List Int) : sAll_L3 F (n_ + 1) m3 broken3 courses3 d2 k1 ok last i n c4 w3 s6 x3 found3 t g43 g53 g6 g61 = (bif (decide (i < m3)) then (ob (a3i F m3 broken3 courses3 d2 k1 ok last i n c4 w3 s6 x3 found3 t g43 g53 g6 g61) (fun s7 => a7 F n_ s7)) else (some ((m3, broken3, courses3, d2, k1, ok, last), (c4, w3, s6, x3, found3, t, g43, g53, g6, g61)))) := rfl
noncomputable def a15 (F : Nat) (s15 : (Int × Int) × (PrT × (PrT × (List RgT × List RgT)))) : Option Bool := (ob (bif (s15.1.1 == (0 : Int)) then (some ((3 : Int), (s15.2.1, s15.2.2.1, s15.2.2.2.1, s15.2.2.2.2))) else (bif (s15.1.1 == s15.1.2) then (some ((1 : Int), (s15.2.1, s15.2.2.1, s15.2.2.2.1, s15.2.2.2.2))) else (some ((2 : Int), (s15.2.1, s15.2.2.1, s15.2.2.2.1, s15.2.2.2.2))))) (fun s16 => (ob (lsameRanges_S F s16.2.2.2.2 s16.2.2.2.1) (fun r10 => (bif r10 then (bif (bif false then (!((s16.2.2.1.1 == s16.2.1.1) && (s16.2.2.1.2.1 == s16.2.1.2.1))) else ((s16.2.2.1.1 == s16.2.1.1) && (s16.2.2.1.2.1 == s16.2.1.2.1))) then (bif (bif false then (!((s16.2.2.1.2.2.1 == s16.2.1.2.2.1) && (s16.2.2.1.2.2.2.1 == s16.2.1.2.2.2.1))) else ((s16.2.2.1.2.2.1 == s16.2.1.2.2.1) && (s16.2.2.1.2.2.2.1 == s16.2.1.2.2.2.1))) then (bif (bif false then (!((s16.2.2.1.2.2.2.2.1 == s16.2.1.2.2.2.2.1) && (s16.2.2.1.2.2.2.2.2.1 == s16.2.1.2.2.2.2.2.1))) else ((s16.2.2.1.2.2.2.2.1 == s16.2.1.2.2.2.2.1) && (s16.2.2.1.2.2.2.2.2.1 == s16.2.1.2.2.2.2.2.1))) then (bif (s16.2.1.2.2.2.2.2.2 == s16.1) then (some true) else (some false)) else (some false)) else (some false)) else (some false)) else (some false))))))
noncomputable def a3 (F : Nat) (s3 : (Int × (Int × Int)) × (SwT × (WrT × (RgT × (PrT × (PrT × (List RgT × List RgT))))))) : Option Bool := (bif (s3.1.1 == (4 : Int)) then (some false) else (ob (sAll_L1 F F s3.1.1 s3.1.2.1 s3.1.2.2 s3.2.2.1.1.1 s3.2.1 s3.2.2.1 s3.2.2.2.1 s3.2.2.2.2.1 s3.2.2.2.2.2.1 s3.2.2.2.2.2.2.1 s3.2.2.2.2.2.2.2) (fun o_ => su o_ (fun s14 => (some s14)) (fun s15 => a15 F s15))))
noncomputable def a1 (F : Nat) (s1 : Bool × (SwT × (WrT × RgT))) : Option Bool := (bif s1.1 then (some true) else (ob (predict_S F s1.2.2.1 s1.2.1.2.1 s1.2.1.2.2) (fun r => (bif (r.1.2 != (0 : Int)) then (bif (((r.2.length - 0) : Int) == (0 : Int)) then (some true) else (some false)) else (bif ((decide ((0 : Int) ≤ ((r.2.length - 0) : Int))) && (decide (((r.2.length - 0) : Int) ≤ (1000000 : Int)))) then (ob (sAll_L0 F (0 : Int) (0 : Int) s1.2.1 s1.2.2.1 s1.2.2.2 (r.1.1.1, (r.1.1.2.1, (r.1.1.2.2.1, (r.1.1.2.2.2.1, (r.1.1.2.2.2.2.1, (r.1.1.2.2.2.2.2.1, r.1.1.2.2.2.2.2.2)))))) ((0 : Int), ((0 : Int), ((0 : Int), ((0 : Int), ((0 : Int), ((0 : Int), (0 : Int))))))) r.2 (List.replicate ((r.2.length - 0) : Int).toNat ((0 : Int), (0 : Int))) F (0 : Int)) (fun s3 => a3 F s3)) else none)))))
theorem all_def (F : Nat) (c : SwT) : sAll_S F c = (ob (bif (decide ((IntKind.wrap IntKind.i64 (c.1.1.2 - c.1.1.1)) > (2 : Int))) then (some (true, (c, c.1, c.2.1.2.2.2))) else (bif (decide ((IntKind.wrap IntKind.i64 (c.1.2.1.2 - c.1.2.1.1)) > (2 : Int))) then (some (true, (c, c.1, c.2.1.2.2.2))) else (bif (decide ((IntKind.wrap IntKind.i64 (c.2.1.2.2.2.2 - c.2.1.2.2.2.1)) > (1 : Int))) then (some (true, (c, c.1, c.2.1.2.2.2))) else (some ((decide (c.2.1.2.1 > (3 : Int))), (c, c.1, c.2.1.2.2.2)))))) (fun s1 => a1 F s1)) := rfl
/-! The course with a number -/
def wrk (w : WrT) (k i : Nat) : Int := w.2.1.1 + ((k / 6 ^ i % 3 : Nat) : Int)
def slk (s : RgT) (k i : Nat) : Int := s.1 + ((k / 6 ^ i / 3 % 2 : Nat) : Int)
def okj (w : WrT) (s : RgT) (k j : Nat) : Bool := decide (wrk w k j ≤ w.2.1.2) && decide (slk s k j ≤ s.2)
def okk (w : WrT) (s : RgT) (k i : Nat) : Bool := (List.range i).all (okj w s k)
def Gk (w : WrT) (k m : Nat) : List Int := (List.range m).map (wrk w k)
def Hk (s : RgT) (k m : Nat) : List Int := (List.range m).map (slk s k)
theorem okk_succ (w : WrT) (s : RgT) (k i : Nat) : okk w s k (i + 1) = (okk w s k i && okj w s k i) := by
  unfold okk
  rw [List.range_succ, List.all_append]
  simp
theorem map_rs {α : Type} (f : Nat → α) (n : Nat) : (List.range (n + 1)).map f = (List.range n).map f ++ [f n] := by
  rw [List.range_succ, List.map_append]; rfl
theorem dl_nn {d : Int} {G : List Int} {m : Nat} (h0 : 0 ≤ d) (hG : ∀ i, i < m → 0 ≤ nth G (0 : Int) i) : ∀ i, i ≤ m → 0 ≤ dl d G i ∧ dl d G i ≤ d
  | 0, _ => ⟨h0, Int.le_refl _⟩
  | i + 1, hi => by
    have h1 := dl_nn h0 hG i (by omega)
    have h2 := hG i (by omega)
    show 0 ≤ mx0 (dl d G i - nth G (0 : Int) i) ∧ mx0 (dl d G i - nth G (0 : Int) i) ≤ d
    unfold mx0
    split <;> omega
theorem wrk_r {w : WrT} (hw : 0 ≤ w.2.1.1 ∧ w.2.1.1 ≤ 10000000) (k i : Nat) : 0 ≤ wrk w k i ∧ wrk w k i ≤ 10000002 := by
  have h1 : k / 6 ^ i % 3 < 3 := Nat.mod_lt _ (by decide)
  unfold wrk
  generalize k / 6 ^ i % 3 = z at *
  omega
theorem aL3_loop (F : Nat) (m : Nat) (hm : m ≤ 3) (br co d : Int) (hd : 0 ≤ d ∧ d ≤ 10000000) (k : Nat) (hk : k ≤ 1000) (c : SwT) (w : WrT) (hw : 0 ≤ w.2.1.1 ∧ w.2.1.1 ≤ 10000000) (s : RgT) (hs : 0 ≤ s.1 ∧ s.1 ≤ 10000000) (x fo : PrT) (g4 g5 : List RgT) : ∀ (j kk i : Nat), i + j = m → j < kk →
    sAll_L3 F kk m br co d k (okk w s k i) (dl d (Gk w k m) (if i < m then i else m - 1)) i ((k / 6 ^ i : Nat) : Int) c w s x fo d g4 g5 (Gk w k i) (Hk s k i) =
      some (((m : Int), (br, (co, (d, ((k : Int), (okk w s k m, dl d (Gk w k m) (m - 1))))))), (c, (w, (s, (x, (fo, (d, (g4, (g5, (Gk w k m, Hk s k m))))))))))
  | j, 0, i, _, hk => by omega
  | 0, kk + 1, i, hi, _ => by
    have e : i = m := by omega
    subst e
    rw [aL3_def, dec_f (by omega), if_neg (by omega)]
    rfl
  | j + 1, kk + 1, i, hi, hkk => by
    have e1 : IntKind.wrap IntKind.i64 ((i : Int) + 1) = ((i + 1 : Nat) : Int) := by rw [w64 _ (by omega)]; omega
    have hq : k / 6 ^ i ≤ 1000 := Nat.le_trans (Nat.div_le_self _ _) hk
    have hz0 : (0 : Int) ≤ ((k / 6 ^ i : Nat) : Int) := Int.natCast_nonneg _
    have m3 : Int.tmod ((k / 6 ^ i : Nat) : Int) 3 = ((k / 6 ^ i % 3 : Nat) : Int) := rfl
    have q3 : IntKind.wrap IntKind.i64 (Int.tdiv ((k / 6 ^ i : Nat) : Int) 3) = ((k / 6 ^ i / 3 : Nat) : Int) := by
      rw [show Int.tdiv ((k / 6 ^ i : Nat) : Int) 3 = ((k / 6 ^ i / 3 : Nat) : Int) from rfl, w64 _ (by omega)]
    have m2 : Int.tmod ((k / 6 ^ i / 3 : Nat) : Int) 2 = ((k / 6 ^ i / 3 % 2 : Nat) : Int) := rfl
    have q6 : IntKind.wrap IntKind.i64 (Int.tdiv ((k / 6 ^ i : Nat) : Int) 6) = ((k / 6 ^ (i + 1) : Nat) : Int) := by
      rw [show Int.tdiv ((k / 6 ^ i : Nat) : Int) 6 = ((k / 6 ^ i / 6 : Nat) : Int) from rfl, w64 _ (by omega), Nat.pow_succ, Nat.div_div_eq_div_mul]
    have w3 : IntKind.wrap IntKind.i64 (w.2.1.1 + ((k / 6 ^ i % 3 : Nat) : Int)) = wrk w k i := by rw [w64 _ (by omega)]; rfl
    have s3 : IntKind.wrap IntKind.i64 (s.1 + ((k / 6 ^ i / 3 % 2 : Nat) : Int)) = slk s k i := by rw [w64 _ (by omega)]; rfl
    have inn : a3i F m br co d k (okk w s k i) (dl d (Gk w k m) (if i < m then i else m - 1)) i ((k / 6 ^ i : Nat) : Int) c w s x fo d g4 g5 (Gk w k i) (Hk s k i) =
        some (((m : Int), (br, (co, (d, ((k : Int), (okk w s k (i + 1), (dl d (Gk w k m) (if i < m then i else m - 1), ((i : Int), (((k / 6 ^ (i + 1) : Nat) : Int), (wrk w k i, slk s k i)))))))))), (c, (w, (s, (x, (fo, (d, (g4, (g5, (Gk w k i, Hk s k i)))))))))) := by
      unfold a3i
      rw [m3, q3, m2, q6, w3, s3, okk_succ]
      unfold okj
      cases okk w s k i <;> cases decide (wrk w k i ≤ w.2.1.2) <;> rfl
    have gl : (Gk w k i).length = i := len_rg _ _
    have hl : (Hk s k i).length = i := len_rg _ _
    rw [aL3_def, inn, dec_t (by omega)]
    change a7 F kk (((m : Int), (br, (co, (d, ((k : Int), (okk w s k (i + 1), (dl d (Gk w k m) (if i < m then i else m - 1), ((i : Int), (((k / 6 ^ (i + 1) : Nat) : Int), (wrk w k i, slk s k i)))))))))), (c, (w, (s, (x, (fo, (d, (g4, (g5, (Gk w k i, Hk s k i)))))))))) = _
    unfold a7
    change (bif lenOk ((Gk w k i).length - 0) [wrk w k i].length then (bif lenOk ((Hk s k i).length - 0) [slk s k i].length then (bif decide (IntKind.wrap IntKind.i64 ((i : Int) + 1) < (m : Int)) then
      sAll_L3 F kk m br co d k (okk w s k (i + 1)) (mx0 (IntKind.wrap IntKind.i64 (dl d (Gk w k m) (if i < m then i else m - 1) - wrk w k i))) (IntKind.wrap IntKind.i64 ((i : Int) + 1)) ((k / 6 ^ (i + 1) : Nat) : Int) c w s x fo d g4 g5 (Gk w k i ++ [wrk w k i]) (Hk s k i ++ [slk s k i])
      else sAll_L3 F kk m br co d k (okk w s k (i + 1)) (dl d (Gk w k m) (if i < m then i else m - 1)) (IntKind.wrap IntKind.i64 ((i : Int) + 1)) ((k / 6 ^ (i + 1) : Nat) : Int) c w s x fo d g4 g5 (Gk w k i ++ [wrk w k i]) (Hk s k i ++ [slk s k i])) else none) else none) = _
    rw [e1, gl, hl, lenOk_t (show i - 0 + [wrk w k i].length ≤ 1000000 by simp; omega), lenOk_t (show i - 0 + [slk s k i].length ≤ 1000000 by simp; omega)]
    simp only [cond_true]
    rw [show Gk w k i ++ [wrk w k i] = Gk w k (i + 1) from (map_rs _ _).symm, show Hk s k i ++ [slk s k i] = Hk s k (i + 1) from (map_rs _ _).symm, if_pos (show i < m by omega)]
    have ih := aL3_loop F m hm br co d hd k hk c w hw s hs x fo g4 g5 j kk (i + 1) (by omega) (by omega)
    by_cases h1 : i + 1 < m
    · rw [dec_t (by omega)]
      have dr := dl_nn (m := m) (d := d) (G := Gk w k m) hd.1 (fun q hq' => by
        rw [show nth (Gk w k m) (0 : Int) q = wrk w k q from nth_map _ _ _ hq']; exact (wrk_r hw k q).1) i (by omega)
      have ew : wrk w k i = nth (Gk w k m) (0 : Int) i := (nth_map _ _ _ (show i < m by omega)).symm
      have ewr : 0 ≤ wrk w k i ∧ wrk w k i ≤ 10000002 := wrk_r hw k i
      rw [if_pos h1] at ih
      simp only [cond_true]
      rw [w64 (dl d (Gk w k m) i - wrk w k i) (by omega), ew]
      exact ih
    · rw [dec_f (by omega)]
      rw [if_neg h1, show m - 1 = i by omega] at ih
      simp only [cond_false]
      rw [show m - 1 = i by omega]
      exact ih
end Go.Proofs.YtdfgmfddkcmalaaDoor


namespace Go.Proofs.YtdfgmfddkcmalaaDoor
open Go.RowKit
set_option maxRecDepth 100000
def gw (b : Bool) (r : RgT) (n : Int) : RgT := bif b then ((if n < r.1 then n else r.1), (if n > r.2 then n else r.2)) else (n, n)
theorem grow_eq (F : Nat) (r : RgT) (n : Int) (b : Bool) : grow_S F r n b = some (gw b r n) := by
  unfold grow_S gw
  cases b <;> rfl
theorem set_map {α : Type} (f : Nat → α) (q i : Nat) (v : α) : List.set ((List.range q).map f) i v = (List.range q).map (fun j => if j = i then v else f j) := by
  apply List.ext_getElem
  · simp
  · intro j h1 h2
    rw [List.getElem_set]
    simp only [List.getElem_map, List.getElem_range]
    by_cases h : i = j
    · rw [if_pos h, if_pos h.symm]
    · rw [if_neg h, if_neg (fun x => h x.symm)]
theorem map_cg {α : Type} (f g : Nat → α) (q : Nat) (h : ∀ i, i < q → f i = g i) : (List.range q).map f = (List.range q).map g := by
  apply List.map_congr_left
  intro i hi
  exact h i (List.mem_range.1 hi)
theorem total_same (F : Nat) (l : List Int) : ∀ (k : Nat) (v i : Int), total_L0 F l k v i = rSum_L0 F l k v i
  | 0, _, _ => rfl
  | k + 1, v, i => by
    show (bif decide (i < ((l.length - 0 : Nat) : Int)) then (bif inB i (l.length - 0) then total_L0 F l k (IntKind.wrap IntKind.i64 (v + nth l (0 : Int) i.toNat)) (IntKind.wrap IntKind.i64 (i + 1)) else none) else some (v, l)) = _
    rw [total_same F l k]
    rfl
theorem totalS_eq (F : Nat) (f : Nat → Int) (q : Nat) (hq : q ≤ 2000) (hF : 2000 < F) (h : ∀ i, i < q → 0 ≤ f i ∧ f i ≤ 600000000) : total_S F ((List.range q).map f) = some (sm f q) := by
  have := rSum_loop F f q hq h q F 0 (by omega) (by omega)
  unfold total_S
  change ob (total_L0 F ((List.range q).map f) F (sm f 0) ((0 : Nat) : Int)) _ = _
  rw [total_same, this]
theorem aL4_loop (F : Nat) (m4 br co d k bh t1 t2 : Int) (t3 : Bool) (c : SwT) (w : WrT) (s : RgT) (x fo : PrT) (p : Int × Int) (fs : Nat → Int) (ga : Nat → RgT) (q : Nat) (hq : q ≤ 2000) (rg : List RgT) (kf : List Int) : ∀ (j kk i : Nat), i + j = q → j < kk →
    sAll_L4 F m4 br co d k bh t1 t2 t3 c w s x fo p ((List.range q).map fs) rg kf kk i ((List.range q).map (fun j => if j < i then gw (decide (co > 0)) (ga j) (fs j) else ga j)) =
      some ((m4, (br, (co, (d, (k, (bh, (t1, (t2, t3)))))))), (c, (w, (s, (x, (fo, (p, ((List.range q).map fs, (rg, ((List.range q).map (fun j => gw (decide (co > 0)) (ga j) (fs j)), kf))))))))))
  | j, 0, i, _, hk => by omega
  | 0, kk + 1, i, hi, _ => by
    have e : i = q := by omega
    subst e
    show (bif decide ((i : Int) < ((((List.range i).map fs).length - 0 : Nat) : Int)) then _ else _) = _
    rw [len_rg, dec_f (by omega), map_cg (fun j => if j < i then gw (decide (co > 0)) (ga j) (fs j) else ga j) (fun j => gw (decide (co > 0)) (ga j) (fs j)) i fun j hj => if_pos hj]; rfl
  | j + 1, kk + 1, i, hi, hk => by
    have e1 : IntKind.wrap IntKind.i64 ((i : Int) + 1) = ((i + 1 : Nat) : Int) := by rw [w64 _ (by omega)]; omega
    show (bif decide ((i : Int) < ((((List.range q).map fs).length - 0 : Nat) : Int)) then (bif inB (i : Int) (((List.range q).map (fun j => if j < i then gw (decide (co > 0)) (ga j) (fs j) else ga j)).length - 0) then (bif inB (i : Int) (((List.range q).map fs).length - 0) then ob (grow_S F (nth ((List.range q).map (fun j => if j < i then gw (decide (co > 0)) (ga j) (fs j) else ga j)) (TC.dflt (TC.pair (TC.int IntKind.i64) (TC.int IntKind.i64))) i) (nth ((List.range q).map fs) (0 : Int) i) (decide (co > 0)))
      (fun r5 => bif inB (i : Int) (((List.range q).map (fun j => if j < i then gw (decide (co > 0)) (ga j) (fs j) else ga j)).length - 0) then sAll_L4 F m4 br co d k bh t1 t2 t3 c w s x fo p ((List.range q).map fs) rg kf kk (IntKind.wrap IntKind.i64 ((i : Int) + 1)) (List.set ((List.range q).map (fun j => if j < i then gw (decide (co > 0)) (ga j) (fs j) else ga j)) i r5) else none) else none) else none) else _) = _
    rw [len_rg, len_rg, dec_t (by omega), inB_t (show i < q - 0 by omega), nth_rg _ _ q i (by omega), nth_rg fs _ q i (by omega), grow_eq, e1, if_neg (by omega)]
    simp only [cond_true]
    change sAll_L4 F m4 br co d k bh t1 t2 t3 c w s x fo p ((List.range q).map fs) rg kf kk ((i + 1 : Nat) : Int) (List.set ((List.range q).map (fun j => if j < i then gw (decide (co > 0)) (ga j) (fs j) else ga j)) i (gw (decide (co > 0)) (ga i) (fs i))) = _
    rw [set_map, map_cg (fun j_1 => if j_1 = i then gw (decide (co > 0)) (ga i) (fs i) else if j_1 < i then gw (decide (co > 0)) (ga j_1) (fs j_1) else ga j_1) (fun j => if j < i + 1 then gw (decide (co > 0)) (ga j) (fs j) else ga j) q fun j' _ => by
      by_cases h1 : j' = i
      · rw [if_pos h1, if_pos (by omega), h1]
      · by_cases h2 : j' < i
        · rw [if_neg h1, if_pos h2, if_pos (by omega)]
        · rw [if_neg h1, if_neg h2, if_neg (by omega)]]
    exact aL4_loop F m4 br co d k bh t1 t2 t3 c w s x fo p fs ga q hq rg kf j kk (i + 1) (by omega) (by omega)
theorem a9_eq (F n_ : Nat) (hF : 2000 < F) (m4 br co d k bh t1 t2 : Int) (t3 : Bool) (c : SwT) (w : WrT) (s : RgT) (x fo : PrT) (p : Int × Int) (fs fk : Nat → Int) (ga : Nat → RgT) (q m : Nat) (hq : q ≤ 2000) (hm : m ≤ 2000) (hk : ∀ i, i < m → 0 ≤ fk i ∧ fk i ≤ 600000000) (rg : List RgT) (hco : 0 ≤ co ∧ co ≤ 1000000) (hkk : 0 ≤ k ∧ k ≤ 1000000) (hp : 0 ≤ p.1 ∧ p.1 ≤ 600000000 ∧ 0 ≤ p.2 ∧ p.2 ≤ 600000000) :
    a9 F n_ ((m4, (br, (co, (d, (k, (bh, (t1, (t2, t3)))))))), (c, (w, (s, (x, (fo, (p, ((List.range q).map fs, (rg, ((List.range q).map ga, (List.range m).map fk)))))))))) =
      sAll_L2 F n_ m4 br (co + 1) d (k + 1) c w s x ((gw (decide (co > 0)) (fo.1, fo.2.1) (sm fk m)).1, ((gw (decide (co > 0)) (fo.1, fo.2.1) (sm fk m)).2, ((gw (decide (co > 0)) (fo.2.2.1, fo.2.2.2.1) (p.1 + p.2)).1, ((gw (decide (co > 0)) (fo.2.2.1, fo.2.2.2.1) (p.1 + p.2)).2, ((gw (decide (co > 0)) (fo.2.2.2.2.1, fo.2.2.2.2.2.1) bh).1, ((gw (decide (co > 0)) (fo.2.2.2.2.1, fo.2.2.2.2.2.1) bh).2, fo.2.2.2.2.2.2)))))) rg ((List.range q).map (fun j => gw (decide (co > 0)) (ga j) (fs j))) := by
  unfold a9
  have l4 := aL4_loop F m4 br co d k bh t1 t2 t3 c w s x fo p fs ga q hq rg ((List.range m).map fk) q F 0 (by omega) (by omega)
  rw [map_cg (fun j => if j < 0 then gw (decide (co > 0)) (ga j) (fs j) else ga j) ga q fun j _ => if_neg (by omega)] at l4
  change ob (sAll_L4 F m4 br co d k bh t1 t2 t3 c w s x fo p ((List.range q).map fs) rg ((List.range m).map fk) F ((0 : Nat) : Int) ((List.range q).map ga)) _ = _
  rw [l4]
  change ob (total_S F ((List.range m).map fk)) _ = _
  rw [totalS_eq F fk m hm hF hk]
  change ob (grow_S F (fo.1, fo.2.1) (sm fk m) (decide (co > 0))) _ = _
  rw [grow_eq]
  change ob (grow_S F (fo.2.2.1, fo.2.2.2.1) (IntKind.wrap IntKind.i64 (p.1 + p.2)) (decide (co > 0))) _ = _
  rw [grow_eq, w64 (p.1 + p.2) (by omega)]
  change ob (grow_S F (fo.2.2.2.2.1, fo.2.2.2.2.2.1) bh (decide (co > 0))) _ = _
  rw [grow_eq]
  change sAll_L2 F n_ m4 br (IntKind.wrap IntKind.i64 (co + 1)) d (IntKind.wrap IntKind.i64 (k + 1)) c w s x _ rg _ = _
  rw [w64 (co + 1) (by omega), w64 (k + 1) (by omega)]
/-! What is known of the courses that were tried -/
structure Qi (X : RgT) (f : Int → Nat → Int) (P : Int → Nat → Prop) (co : Int) (r : RgT) : Prop where
  a : co > 0 → X.1 ≤ r.1 ∧ r.2 ≤ X.2
  b : ∀ d k, P d k → r.1 ≤ f d k ∧ f d k ≤ r.2
theorem Qi.step {X : RgT} {f : Int → Nat → Int} {P P' : Int → Nat → Prop} {co : Int} {r : RgT} (h : Qi X f P co r) (hp : ∀ d k, P d k → co > 0) {d0 : Int} {k0 : Nat} (hX : X.1 ≤ f d0 k0 ∧ f d0 k0 ≤ X.2) (hP : ∀ d k, P' d k → P d k ∨ (d = d0 ∧ k = k0)) : Qi X f P' (co + 1) (gw (decide (co > 0)) r (f d0 k0)) := by
  by_cases hc : co > 0
  · have ha := h.a hc
    rw [dec_t hc]
    constructor
    · intro _
      show X.1 ≤ (if f d0 k0 < r.1 then f d0 k0 else r.1) ∧ (if f d0 k0 > r.2 then f d0 k0 else r.2) ≤ X.2
      constructor <;> split <;> omega
    · intro d k hd
      show (if f d0 k0 < r.1 then f d0 k0 else r.1) ≤ f d k ∧ f d k ≤ (if f d0 k0 > r.2 then f d0 k0 else r.2)
      rcases hP d k hd with h1 | ⟨rfl, rfl⟩
      · have := h.b d k h1
        constructor <;> split <;> omega
      · constructor <;> split <;> omega
  · rw [dec_f hc]
    constructor
    · intro _; exact hX
    · intro d k hd
      rcases hP d k hd with h1 | ⟨rfl, rfl⟩
      · exact absurd (hp d k h1) hc
      · exact ⟨Int.le_refl _, Int.le_refl _⟩
theorem Qi.skip {X : RgT} {f : Int → Nat → Int} {P P' : Int → Nat → Prop} {co : Int} {r : RgT} (h : Qi X f P co r) (hP : ∀ d k, P' d k → P d k) : Qi X f P' co r := ⟨h.a, fun d k x => h.b d k (hP d k x)⟩
theorem Qi.fin {X : RgT} {f : Int → Nat → Int} {P : Int → Nat → Prop} {co : Int} {r : RgT} (h : Qi X f P co r) (hc : co > 0) {d1 d2 : Int} {k1 k2 : Nat} (p1 : P d1 k1) (p2 : P d2 k2) (e1 : f d1 k1 = X.1) (e2 : f d2 k2 = X.2) : r = X := by
  have a := h.a hc
  have b1 := h.b _ _ p1
  have b2 := h.b _ _ p2
  exact Prod.ext (by omega) (by omega)
def fS (w : WrT) (b : WbT) (m i : Nat) (d : Int) (k : Nat) : Int := slg b (dl d (Gk w k m)) (sf (Hk b.2.2.2 k m)) i
def fK (w : WrT) (b : WbT) (n : Int) (m : Nat) (d : Int) (k : Nat) : Int := sm (kg b n (dl d (Gk w k m)) (sf (Hk b.2.2.2 k m)) m) m
def fE (w : WrT) (b : WbT) (n : Int) (m : Nat) (d : Int) (k : Nat) : Int := mn n b.2.2.1 + rsG b n (dl d (Gk w k m)) (sf (Hk b.2.2.2 k m)) m m
def fW (w : WrT) (m : Nat) (d : Int) (k : Nat) : Int := dl d (Gk w k m) m
def fB (w : WrT) (m : Nat) (d : Int) (k : Nat) : Bool := decide ((m : Int) > 0) && decide (dl d (Gk w k m) (m - 1) < w.2.2)
def Ty8 (w : WrT) (s : RgT) (m : Nat) (d : Int) (k : Nat) (d' : Int) (k' : Nat) : Prop := (d' < d ∨ (d' = d ∧ k' < k)) ∧ w.1.1 ≤ d' ∧ k' < 6 ^ m ∧ okk w s k' m = true
structure Iv8 (w : WrT) (b : WbT) (n : Int) (m : Nat) (P : Int → Nat → Prop) (br co : Int) (fo : PrT) (ga : Nat → RgT) : Prop where
  c : 0 ≤ br ∧ br ≤ co
  p : ∀ d k, P d k → co > 0
  K : Qi ((prd w b n m).1, (prd w b n m).2.1) (fK w b n m) P co (fo.1, fo.2.1)
  E : Qi ((prd w b n m).2.2.1, (prd w b n m).2.2.2.1) (fE w b n m) P co (fo.2.2.1, fo.2.2.2.1)
  W : Qi ((prd w b n m).2.2.2.2.1, (prd w b n m).2.2.2.2.2.1) (fW w m) P co (fo.2.2.2.2.1, fo.2.2.2.2.2.1)
  S : ∀ i, i < m - 1 → Qi (slf b w.1.2 w.2.1.1 b.2.2.2.2 i, slf b w.1.1 w.2.1.2 b.2.2.2.1 i) (fS w b m i) P co (ga i)
  b1 : ∀ d k, P d k → fB w m d k = true → br > 0
  b2 : ∀ d k, P d k → fB w m d k = false → br < co
  b3 : (∀ d k, w.1.1 ≤ d → d ≤ w.1.2 → okk w b.2.2.2 k m = true → fB w m d k = false) → br = 0
  b4 : (∀ d k, w.1.1 ≤ d → d ≤ w.1.2 → okk w b.2.2.2 k m = true → fB w m d k = true) → br = co
theorem Iv8.skip {w : WrT} {b : WbT} {n : Int} {m : Nat} {P P' : Int → Nat → Prop} {br co : Int} {fo : PrT} {ga : Nat → RgT} (h : Iv8 w b n m P br co fo ga) (hP : ∀ d k, P' d k → P d k) : Iv8 w b n m P' br co fo ga :=
  ⟨h.c, fun d k x => h.p d k (hP d k x), h.K.skip hP, h.E.skip hP, h.W.skip hP, fun i hi => (h.S i hi).skip hP, fun d k x => h.b1 d k (hP d k x), fun d k x => h.b2 d k (hP d k x), h.b3, h.b4⟩
theorem all_in (f : Nat → Int) (q : Nat) (a b : Int) (h : ∀ i, i < q → a ≤ f i ∧ f i ≤ b) : ((List.range q).map f).all (fun x => inOk x a b) = true := by
  rw [List.all_eq_true]
  intro x hx
  obtain ⟨i, hi, rfl⟩ := List.mem_map.1 hx
  have := h i (List.mem_range.1 hi)
  unfold inOk
  rw [dec_t this.1, dec_t this.2]; rfl
theorem okk_j {w : WrT} {s : RgT} {k m : Nat} (h : okk w s k m = true) {i : Nat} (hi : i < m) : wrk w k i ≤ w.2.1.2 ∧ slk s k i ≤ s.2 := by
  unfold okk at h
  have := List.all_eq_true.1 h i (List.mem_range.2 hi)
  unfold okj at this
  simpa using this
theorem csOk_k {w : WrT} {b : WbT} {n : Int} (h : Vld w b n) {d : Int} (hd : w.1.1 ≤ d ∧ d ≤ w.1.2) {k m : Nat} (ho : okk w b.2.2.2 k m = true) : csOk w b d (Gk w k m) (Hk b.2.2.2 k m) = true := by
  unfold csOk
  rw [show inOk d w.1.1 w.1.2 = true by unfold inOk; rw [dec_t hd.1, dec_t hd.2]; rfl]
  unfold Gk Hk
  rw [all_in _ _ _ _ fun i hi => ⟨by unfold wrk; omega, (okk_j ho hi).1⟩, all_in _ _ _ _ fun i hi => ⟨by unfold slk; omega, (okk_j ho hi).2⟩]
  rfl
theorem len_Gk (w : WrT) (k m : Nat) : (Gk w k m).length = m := len_rg _ _
theorem len_Hk (s : RgT) (k m : Nat) : (Hk s k m).length = m := len_rg _ _
/-- One course more. -/
theorem Iv8.step {w : WrT} {b : WbT} {n : Int} (hv : Vld w b n) {m : Nat} (P P' : Int → Nat → Prop) {br co : Int} {fo : PrT} {ga : Nat → RgT} (h : Iv8 w b n m P br co fo ga) {d0 : Int} {k0 : Nat} (hd : w.1.1 ≤ d0 ∧ d0 ≤ w.1.2) (ho : okk w b.2.2.2 k0 m = true) (hP : ∀ d k, P' d k → P d k ∨ (d = d0 ∧ k = k0)) :
    Iv8 w b n m P' (bif fB w m d0 k0 then br + 1 else br) (co + 1) ((gw (decide (co > 0)) (fo.1, fo.2.1) (fK w b n m d0 k0)).1, ((gw (decide (co > 0)) (fo.1, fo.2.1) (fK w b n m d0 k0)).2, ((gw (decide (co > 0)) (fo.2.2.1, fo.2.2.2.1) (fE w b n m d0 k0)).1, ((gw (decide (co > 0)) (fo.2.2.1, fo.2.2.2.1) (fE w b n m d0 k0)).2, ((gw (decide (co > 0)) (fo.2.2.2.2.1, fo.2.2.2.2.2.1) (fW w m d0 k0)).1, ((gw (decide (co > 0)) (fo.2.2.2.2.1, fo.2.2.2.2.2.1) (fW w m d0 k0)).2, fo.2.2.2.2.2.2))))))
      (fun j => gw (decide (co > 0)) (ga j) (fS w b m j d0 k0)) := by
  have bd := bd_of hv (csOk_k hv hd ho) (len_Gk w k0 m) (len_Hk b.2.2.2 k0 m)
  have hc := h.c
  have rs := bd.rs b n
  refine ⟨?_, fun d k _ => by omega, h.K.step h.p (bd.sm b n) hP, h.E.step h.p ?_ hP, h.W.step h.p (bd.dl m (Nat.le_refl _)) hP, fun i hi => (h.S i hi).step h.p (bd.slg b (by omega)) hP, ?_, ?_, ?_, ?_⟩
  · cases fB w m d0 k0 <;> simp only [cond_true, cond_false] <;> omega
  · show mn n b.2.2.1 + rsA b n w.1.2 w.2.1.1 b.2.2.2.2 m m ≤ fE w b n m d0 k0 ∧ fE w b n m d0 k0 ≤ mn n b.2.2.1 + rsA b n w.1.1 w.2.1.2 b.2.2.2.1 m m
    unfold fE
    omega
  · intro d k hd' hf
    rcases hP d k hd' with h1 | ⟨rfl, rfl⟩
    · have := h.b1 d k h1 hf
      cases fB w m d0 k0 <;> simp only [cond_true, cond_false] <;> omega
    · rw [hf]; simp only [cond_true]; omega
  · intro d k hd' hf
    rcases hP d k hd' with h1 | ⟨rfl, rfl⟩
    · have := h.b2 d k h1 hf
      cases fB w m d0 k0 <;> simp only [cond_true, cond_false] <;> omega
    · rw [hf]; simp only [cond_false]; omega
  · intro hx
    rw [hx d0 k0 hd.1 hd.2 ho]
    exact h.b3 hx
  · intro hx
    rw [hx d0 k0 hd.1 hd.2 ho]
    have := h.b4 hx
    simp only [cond_true]
    omega
end Go.Proofs.YtdfgmfddkcmalaaDoor
