/- Plain laws: what is known of a charge that Best returns: it is one, and all its margins are exact. No condition. -/
import Derived.Test.YtcbbhiobibhdnaaDoorWXN4
import Derived.Test.YtcbbhiobibhdnaaDoorWV6m

namespace Go.Proofs.YtcbbhiobibhdnaaDoor
namespace M3
open Go.RowKit U8
set_option maxRecDepth 100000
set_option maxHeartbeats 4000000
abbrev Tlo := Int × (Int × (Tb × Int))
abbrev Tpp := Tr × Tb
def LV (x : Tlo) : Prop := (0 ≤ x.1 ∧ x.1 ≤ 1000) ∧ (1 ≤ x.2.1 ∧ x.2.1 ≤ 1000000) ∧ okB x.2.2.1 100000000 ∧ (0 ≤ x.2.2.2 ∧ x.2.2.2 ≤ 1000000)
def PV (p : Tpp) : Prop := okR p.1 1000000000 ∧ okB p.2 100000000
theorem xLN {n a b : Int} : xDC n a b = true ↔ a ≤ n ∧ n ≤ b := by unfold xDC; simp
theorem xGd {r : Tr} {b : Int} : xBr r.1 r.2 b = true ↔ okR r b := by unfold xBr okR; simp [and_assoc]
theorem xEp {b : Tb} : xBl (toB b) = true ↔ okB b 100000000 := by
 unfold xBl okB toB
 simp only [Bool.and_eq_true, xGd, and_assoc]
theorem xOy {x : Tlo} : xBJ (xDz x) = true ↔ LV x := by
 unfold xBJ LV xDz
 simp only [Bool.and_eq_true, xLN, xEp, and_assoc]
theorem xMH {p : Tpp} {l : List Tlo} (h : xBD (xA2 p l) = 0) : l.length ≤ 6 ∧ (∀ x, x ∈ l → LV x) ∧ PV p := by
 unfold xBD xA2 at h
 simp only [List.length_map] at h
 by_cases h1 : 6 < (l.length : Int)
 ·rw [if_pos h1] at h; cases h
 ·rw [if_neg h1] at h
  by_cases h2 : ((l.map xDz).any (fun l => !xBJ l) || !xBr p.1.1 p.1.2 1000000000 || !xBl (toB p.2)) = true
  ·rw [if_pos h2] at h; cases h
  ·have h3 : ((l.map xDz).any (fun l => !xBJ l) || !xBr p.1.1 p.1.2 1000000000 || !xBl (toB p.2)) = false := by
    cases hh : ((l.map xDz).any (fun l => !xBJ l) || !xBr p.1.1 p.1.2 1000000000 || !xBl (toB p.2))
    ·rfl
    ·exact absurd hh h2
   simp only [Bool.or_eq_false_iff, Bool.not_eq_false'] at h3
   obtain ⟨⟨h4, h5⟩, h6⟩ := h3
   refine ⟨by omega, fun x hx => ?_, xGd.1 h5, xEp.1 h6⟩
   rw [← xOy]
   cases hh : xBJ (xDz x) with
   | true => rfl
   | false =>
    have : ((l.map xDz).any (fun l => !xBJ l)) = true := List.any_eq_true.2 ⟨xDz x, List.mem_map_of_mem hx, by simp [hh]⟩
    rw [h4] at this
    cases this
/-- A sum over the lots of a charge. -/
def sg (g : Tlo → Int) : List Tlo → List Int → Int
 | x :: l, c :: cs => c * g x + sg g l cs
 | _, _ => 0
theorem xHa (g : Tlo → Int) : ∀ (l : List Tlo) (c : List Int) (x : Tlo) (j : Int), l.length = c.length → sg g (l ++ [x]) (c ++ [j]) = sg g l c + j * g x
 | [], [], x, j, _ => by simp [sg]
 | [], _ :: _, _, _, h => by simp at h
 | _ :: _, [], _, _, h => by simp at h
 | y :: l, d :: c, x, j, h => by
  rw [List.cons_append, List.cons_append, sg, sg, xHa g l c x j (by simpa using h)]
  omega
def CH (l : List Tlo) (c : List Int) : Prop := F2 (fun x n => 0 ≤ n ∧ n ≤ x.1) l c
theorem CH_snoc {l : List Tlo} {c : List Int} {x : Tlo} {j : Int} (h : CH l c) (hj : 0 ≤ j ∧ j ≤ x.1) : CH (l ++ [x]) (c ++ [j]) := by
 unfold CH at *
 induction h with
 | nil => exact F2.cons hj F2.nil
 | cons h1 _ ih => exact F2.cons h1 ih
theorem xGK {g : Tlo → Int} {B : Int} (hB : 0 ≤ B) {l : List Tlo} {c : List Int} (h : CH l c) (hl : ∀ x, x ∈ l → LV x) (hg : ∀ x, LV x → -B ≤ g x ∧ g x ≤ B) : -(1000 * B * l.length) ≤ sg g l c ∧ sg g l c ≤ 1000 * B * l.length := by
 unfold CH at h
 induction h with
 | nil => simp [sg]
 | @cons x n l c h1 h2 ih =>
  have hx := hl x (by simp)
  obtain ⟨g1, g2⟩ := hg x hx
  have ih := ih (fun y hy => hl y (by simp [hy]))
  have hn : n ≤ 1000 := by have := hx.1.2; omega
  have a1 : n * g x ≤ n * B := Int.mul_le_mul_of_nonneg_left g2 h1.1
  have a2 : n * B ≤ 1000 * B := Int.mul_le_mul_of_nonneg_right hn hB
  have a3 : n * (-B) ≤ n * g x := Int.mul_le_mul_of_nonneg_left g1 h1.1
  rw [Int.mul_neg] at a3
  rw [sg, List.length_cons, show (1000 * B * ((l.length + 1 : Nat) : Int)) = 1000 * B * (l.length : Int) + 1000 * B by rw [Int.natCast_add, Int.mul_add]; simp]
  generalize 1000 * B * (l.length : Int) = K at *
  omega
theorem xKI {g : Tlo → Int} {l : List Tlo} {c : List Int} (h : CH l c) (hl : ∀ x, x ∈ l → LV x) (hg : ∀ x, LV x → 0 ≤ g x) : 0 ≤ sg g l c := by
 unfold CH at h
 induction h with
 | nil => simp [sg]
 | @cons x n l c h1 h2 ih =>
  rw [sg]
  have := Int.mul_nonneg h1.1 (hg x (hl x (by simp)))
  have := ih (fun y hy => hl y (by simp [hy]))
  omega
theorem sg_mono {g g' : Tlo → Int} {l : List Tlo} {c : List Int} (h : CH l c) (hl : ∀ x, x ∈ l → LV x) (hg : ∀ x, LV x → g x ≤ g' x) : sg g l c ≤ sg g' l c := by
 unfold CH at h
 induction h with
 | nil => simp [sg]
 | @cons x n l c h1 h2 ih =>
  rw [sg, sg]
  have := Int.mul_le_mul_of_nonneg_left (hg x (hl x (by simp))) h1.1
  have := ih (fun y hy => hl y (by simp [hy]))
  omega
theorem xPl (g g' : Tlo → Int) (a b : Int) : ∀ (l : List Tlo) (c : List Int), sg (fun x => a * g x - b * g' x) l c = a * sg g l c - b * sg g' l c
 | [], c => by cases c <;> simp [sg]
 | _ :: _, [] => by simp [sg]
 | x :: l, n :: c => by
  rw [sg, sg, sg, xPl g g' a b l c, Int.mul_add, Int.mul_add, Int.mul_sub, ← Int.mul_assoc n, ← Int.mul_assoc n, Int.mul_comm n a, Int.mul_comm n b, Int.mul_assoc a, Int.mul_assoc b]
  omega
def gM (x : Tlo) : Int := x.2.1
def gL (b : Tb → Tr) (x : Tlo) : Int := (b x.2.2.1).1
def gH (b : Tb → Tr) (x : Tlo) : Int := (b x.2.2.1).2
def gu (b : Tb → Tr) (p : Tpp) (x : Tlo) : Int := (b p.2).2 * gM x - 1000000 * gH b x
def gd (b : Tb → Tr) (p : Tpp) (x : Tlo) : Int := 1000000 * gL b x - (b p.2).1 * gM x
theorem xIC {n : Int} (h : -9223372036854775808 ≤ n ∧ n ≤ 9223372036854775807) : wrap64 n = n := by unfold wrap64; omega
theorem gu_b {b : Tb → Tr} (hb : Sp b) {p : Tpp} (hp : PV p) {x : Tlo} (hx : LV x) : -100000000000000 ≤ gu b p x ∧ gu b p x ≤ 100000000000000 := by
 obtain ⟨p1, p2, p3⟩ := hb _ _ hp.2
 obtain ⟨x1, x2, x3⟩ := hb _ _ hx.2.2.1
 have m1 := hx.2.1
 have a1 : 0 ≤ (b p.2).2 * gM x := Int.mul_nonneg (by omega) (by unfold gM; omega)
 have a2 : (b p.2).2 * gM x ≤ 100000000 * gM x := Int.mul_le_mul_of_nonneg_right p3 (by unfold gM; omega)
 unfold gu gH
 unfold gM at *
 omega
theorem gd_b {b : Tb → Tr} (hb : Sp b) {p : Tpp} (hp : PV p) {x : Tlo} (hx : LV x) : -100000000000000 ≤ gd b p x ∧ gd b p x ≤ 100000000000000 := by
 obtain ⟨p1, p2, p3⟩ := hb _ _ hp.2
 obtain ⟨x1, x2, x3⟩ := hb _ _ hx.2.2.1
 have m1 := hx.2.1
 have a1 : 0 ≤ (b p.2).1 * gM x := Int.mul_nonneg (by omega) (by unfold gM; omega)
 have a2 : (b p.2).1 * gM x ≤ 100000000 * gM x := Int.mul_le_mul_of_nonneg_right (by omega) (by unfold gM; omega)
 unfold gd gL
 unfold gM at *
 omega
theorem one_eq {p : Tpp} (l : List Tlo) (hp : PV p) {x : Tlo} (hx : LV x) : xRT (xA2 p l) (xDz x) = ⟨gM x, -gM x, gu s0 p x, gd s0 p x, gu s1 p x, gd s1 p x, gu s2 p x, gd s2 p x⟩ := by
 have m1 := hx.2.1
 have key : ∀ b : Tb → Tr, Sp b → wrap64 (0 + wrap64 (1 * (b x.2.2.1).1)) = gL b x ∧ wrap64 (0 + wrap64 (1 * (b x.2.2.1).2)) = gH b x ∧ wrap64 (wrap64 ((b p.2).2 * gM x) - wrap64 (1000000 * gH b x)) = gu b p x ∧ wrap64 (wrap64 (1000000 * gL b x) - wrap64 ((b p.2).1 * gM x)) = gd b p x := by
  intro b hb
  obtain ⟨p1, p2, p3⟩ := hb _ _ hp.2
  obtain ⟨x1, x2, x3⟩ := hb _ _ hx.2.2.1
  have a1 : 0 ≤ (b p.2).2 * gM x := Int.mul_nonneg (by omega) (by unfold gM; omega)
  have a2 : (b p.2).2 * gM x ≤ 100000000 * gM x := Int.mul_le_mul_of_nonneg_right p3 (by unfold gM; omega)
  have a3 : 0 ≤ (b p.2).1 * gM x := Int.mul_nonneg (by omega) (by unfold gM; omega)
  have a4 : (b p.2).1 * gM x ≤ 100000000 * gM x := Int.mul_le_mul_of_nonneg_right (by omega) (by unfold gM; omega)
  have mm : gM x = x.2.1 := rfl
  have hL : gL b x = (b x.2.2.1).1 := rfl
  have hH : gH b x = (b x.2.2.1).2 := rfl
  refine ⟨?_, ?_, ?_, ?_⟩
  ·rw [Int.one_mul, Int.zero_add, xIC (n := (b x.2.2.1).1) (by omega), xIC (by omega)]; rfl
  ·rw [Int.one_mul, Int.zero_add, xIC (n := (b x.2.2.1).2) (by omega), xIC (by omega)]; rfl
  ·rw [xIC (n := (b p.2).2 * gM x) (by omega), xIC (n := 1000000 * gH b x) (by omega), xIC (by omega)]; rfl
  ·rw [xIC (n := 1000000 * gL b x) (by omega), xIC (n := (b p.2).1 * gM x) (by omega), xIC (by omega)]; rfl
 obtain ⟨k1, k2, k3, k4⟩ := key s0 sp0
 obtain ⟨k5, k6, k7, k8⟩ := key s1 sp1
 obtain ⟨k9, k10, k11, k12⟩ := key s2 sp2
 have km : wrap64 (0 + wrap64 (1 * x.2.1)) = gM x := by
  rw [Int.one_mul, Int.zero_add, xIC (n := x.2.1) (by omega), xIC (by omega)]; rfl
 have kn : wrap64 (-gM x) = -gM x := xIC (by unfold gM; omega)
 have e : xBo .zero (xDz x) 1 = ⟨gM x, ⟨⟨gL s0 x, gH s0 x⟩, ⟨gL s1 x, gH s1 x⟩, ⟨gL s2 x, gH s2 x⟩⟩⟩ := by
  show Pile.mk (wrap64 (0 + wrap64 (1 * x.2.1))) ⟨⟨wrap64 (0 + wrap64 (1 * (s0 x.2.2.1).1)), wrap64 (0 + wrap64 (1 * (s0 x.2.2.1).2))⟩, ⟨wrap64 (0 + wrap64 (1 * (s1 x.2.2.1).1)), wrap64 (0 + wrap64 (1 * (s1 x.2.2.1).2))⟩, ⟨wrap64 (0 + wrap64 (1 * (s2 x.2.2.1).1)), wrap64 (0 + wrap64 (1 * (s2 x.2.2.1).2))⟩⟩ = _
  rw [km, k1, k2, k5, k6, k9, k10]
 unfold xRT
 rw [e]
 show Mar.mk (gM x) (wrap64 (-gM x)) (wrap64 (wrap64 ((s0 p.2).2 * gM x) - wrap64 (1000000 * gH s0 x))) (wrap64 (wrap64 (1000000 * gL s0 x) - wrap64 ((s0 p.2).1 * gM x))) (wrap64 (wrap64 ((s1 p.2).2 * gM x) - wrap64 (1000000 * gH s1 x))) (wrap64 (wrap64 (1000000 * gL s1 x) - wrap64 ((s1 p.2).1 * gM x))) (wrap64 (wrap64 ((s2 p.2).2 * gM x) - wrap64 (1000000 * gH s2 x))) (wrap64 (wrap64 (1000000 * gL s2 x) - wrap64 ((s2 p.2).1 * gM x))) = _
 rw [kn, k3, k4, k7, k8, k11, k12]
/-- The margins of a charge, exactly. -/
def MS (p : Tpp) (l : List Tlo) (c : List Int) : Mar := ⟨-p.1.1 + sg gM l c, p.1.2 - sg gM l c, sg (gu s0 p) l c, sg (gd s0 p) l c, sg (gu s1 p) l c, sg (gd s1 p) l c, sg (gu s2 p) l c, sg (gd s2 p) l c⟩
theorem plus_eq {p : Tpp} (L : List Tlo) (hp : PV p) {l : List Tlo} {c : List Int} {x : Tlo} {j : Int} (hl6 : l.length ≤ 6) (h : CH l c) (hl : ∀ y, y ∈ l → LV y) (hx : LV x) (hj : 0 ≤ j ∧ j ≤ x.1) : xDM (MS p l c) (xRT (xA2 p L) (xDz x)) j = MS p (l ++ [x]) (c ++ [j]) := by
 rw [one_eq L hp hx]
 have hlen : l.length = c.length := h.len
 obtain ⟨⟨q1, q2, q3⟩, _⟩ := id hp
 have m1 := hx.2.1
 have hj2 : j ≤ 1000 := by have := hx.1.2; omega
 have sM := xGK (g := gM) (B := 1000000) (by omega) h hl (fun y hy => by have := hy.2.1; unfold gM; omega)
 have jm1 : 0 ≤ j * gM x := Int.mul_nonneg hj.1 (by unfold gM; omega)
 have jm2 : j * gM x ≤ 1000 * gM x := Int.mul_le_mul_of_nonneg_right hj2 (by unfold gM; omega)
 have mm : gM x = x.2.1 := rfl
 have gen : ∀ g : Tlo → Int, (∀ y, LV y → -100000000000000 ≤ g y ∧ g y ≤ 100000000000000) → wrap64 (sg g l c + wrap64 (j * g x)) = sg g (l ++ [x]) (c ++ [j]) := by
  intro g hg
  have b1 := xGK (g := g) (B := 100000000000000) (by omega) h hl hg
  obtain ⟨g1, g2⟩ := hg x hx
  have a1 : j * g x ≤ j * 100000000000000 := Int.mul_le_mul_of_nonneg_left g2 hj.1
  have a3 : j * (-100000000000000) ≤ j * g x := Int.mul_le_mul_of_nonneg_left g1 hj.1
  rw [xHa g l c x j hlen, xIC (n := j * g x) (by omega), xIC (by omega)]
 unfold xDM MS
 dsimp only
 have e0 : wrap64 (-p.1.1 + sg gM l c + wrap64 (j * gM x)) = -p.1.1 + sg gM (l ++ [x]) (c ++ [j]) := by
  rw [xHa gM l c x j hlen, xIC (n := j * gM x) (by omega), xIC (by omega)]; omega
 have e1 : wrap64 (p.1.2 - sg gM l c + wrap64 (j * -gM x)) = p.1.2 - sg gM (l ++ [x]) (c ++ [j]) := by
  rw [xHa gM l c x j hlen, Int.mul_neg, xIC (n := -(j * gM x)) (by omega), xIC (by omega)]; omega
 rw [e0, e1, gen _ (fun y hy => gu_b sp0 hp hy), gen _ (fun y hy => gd_b sp0 hp hy), gen _ (fun y hy => gu_b sp1 hp hy), gen _ (fun y hy => gd_b sp1 hp hy), gen _ (fun y hy => gu_b sp2 hp hy), gen _ (fun y hy => gd_b sp2 hp hy)]
theorem xJu {L : List Tlo} {k : Nat} (h : k < L.length) : L.take (k + 1) = L.take k ++ [L[k]] := by
 rw [List.take_add_one, List.getElem?_eq_getElem h]; rfl
theorem xJi {p : Tpp} (L : List Tlo) (hp : PV p) (hL : ∀ x, x ∈ L → LV x) (h6 : L.length ≤ 6) : ∀ (r : Nat) (c : List Int), c.length + r = L.length → CH (L.take c.length) c → ∀ y, y ∈ xBa (xA2 p L) (xBu (xA2 p L)) r c (MS p (L.take c.length) c) → CH L y.1 ∧ y.2 = MS p L y.1
 | 0, c, h, hc => by
  intro y hy
  simp only [xBa, List.mem_singleton] at hy
  rw [hy]
  have e : L.take c.length = L := List.take_of_length_le (by omega)
  rw [e] at hc ⊢
  exact ⟨hc, rfl⟩
 | r + 1, c, h, hc => by
  intro y hy
  have hk : c.length < L.length := by omega
  simp only [xBa, List.mem_flatMap, List.mem_range] at hy
  obtain ⟨j, hj, hy⟩ := hy
  have e1 : nth (xA2 p L).lots .zero c.length = xDz L[c.length] := by
   rw [← xAG _ _ _ (show c.length < (xA2 p L).lots.length by unfold xA2; simp only [List.length_map]; omega)]
   unfold xA2
   simp only [List.getElem_map]
  have e2 : nth (xBu (xA2 p L)) .zero c.length = xRT (xA2 p L) (xDz L[c.length]) := by
   rw [← xAG _ _ _ (show c.length < (xBu (xA2 p L)).length by unfold xBu xA2; simp only [List.length_map]; omega)]
   unfold xBu xA2
   simp only [List.getElem_map]
  rw [e1] at hj
  have hx : LV L[c.length] := hL _ (List.getElem_mem hk)
  have hj' : 0 ≤ (j : Int) ∧ (j : Int) ≤ (L[c.length]).1 := by
   have h2 : (xDz L[c.length]).count = (L[c.length]).1 := rfl
   rw [h2] at hj
   have := hx.1
   omega
  rw [e2, plus_eq L hp (by rw [List.length_take]; omega) hc (fun y hy => hL y (List.mem_of_mem_take hy)) hx hj', ← xJu hk] at hy
  have hc2 := CH_snoc hc hj'
  rw [← xJu hk] at hc2
  have e3 : (c ++ [(j : Int)]).length = c.length + 1 := by simp
  exact xJi L hp hL h6 r (c ++ [(j : Int)]) (by rw [e3]; omega) (by rw [e3]; exact hc2) y (by rw [e3]; exact hy)
theorem xRD (lots : List Lot) (Q : List Int → Prop) : ∀ (l : List (List Int × Mar)) (st : Option (List Int × Int)), (∀ s, st = some s → Q s.1) → (∀ x, x ∈ l → xDY x.2 < 0 → Q x.1) → ∀ s, l.foldl (xA1 lots) st = some s → Q s.1
 | [], st, h, _ => h
 | x :: l, st, h, hx => by
  rw [List.foldl_cons]
  refine xRD lots Q l _ ?_ (fun y hy => hx y (by simp [hy]))
  intro s hs
  unfold xA1 at hs
  have h0 := hx x (by simp)
  cases st with
  | none =>
   dsimp only at hs
   split at hs
   ·rename_i hb; cases hs; exact h0 hb
   ·cases hs
  | some t =>
   dsimp only at hs
   split at hs
   ·rename_i hb
    split at hs
    ·cases hs; exact h0 hb
    ·cases hs; exact h _ rfl
   ·cases hs; exact h _ rfl
/-- A charge that Best returns. -/
structure BF (p : Tpp) (L : List Tlo) (c : List Int) : Prop where
 len : L.length ≤ 6
 lots : ∀ x, x ∈ L → LV x
 pv : PV p
 ch : CH L c
 mass : sg gM L c ≤ p.1.2
 u0 : 0 ≤ sg (gu s0 p) L c
 d0 : 0 ≤ sg (gd s0 p) L c
 u1 : 0 ≤ sg (gu s1 p) L c
 d1 : 0 ≤ sg (gd s1 p) L c
 u2 : 0 ≤ sg (gu s2 p) L c
 d2 : 0 ≤ sg (gd s2 p) L c
theorem xOL {m : Mar} (h : xDY m < 0) : ∀ n, n ∈ m.list → 0 ≤ n := by
 intro n hn
 unfold xDY at h
 have h1 := xFi (fun n => decide (n < 0)) m.list 0
 rw [decide_eq_false (by omega)] at h1
 have h2 : ¬ (m.list.any (fun n => decide (n < 0))) = true := by rw [← h1]; simp
 apply Int.not_lt.1
 intro h3
 exact h2 (List.any_eq_true.2 ⟨n, hn, by simp [h3]⟩)
theorem xON (p : Tpp) (L : List Tlo) : (xIc (xA2 p L) ≠ 0 → stL (xCJ (xA2 p L)) = []) ∧ (xIc (xA2 p L) = 0 → BF p L (stL (xCJ (xA2 p L)))) := by
 unfold xIc xCJ
 by_cases h : xBD (xA2 p L) = 0
 ·simp only [if_pos h]
  by_cases h2 : xOs (xA2 p L) = true
  ·simp only [if_pos h2]
   exact ⟨fun _ => rfl, fun h => by cases h⟩
  ·simp only [if_neg h2]
   cases hb : xBi (xA2 p L).lots (xBH (xA2 p L)) with
   | none => exact ⟨fun _ => rfl, fun h => by simp at h⟩
   | some s =>
    refine ⟨fun h => by simp at h, fun _ => ?_⟩
    obtain ⟨h6, hL, hp⟩ := xMH h
    have e0 : xCK (xA2 p L) = MS p (L.take 0) [] := by
     unfold xCK MS
     obtain ⟨⟨q1, q2, q3⟩, _⟩ := id hp
     show Mar.mk (wrap64 (-p.1.1)) p.1.2 0 0 0 0 0 0 = _
     rw [xIC (by omega), List.take_zero]
     simp [sg]
    refine xRD (xA2 p L).lots (BF p L) (xBH (xA2 p L)) none (fun s h => by cases h) ?_ s hb
    intro y hy hbr
    unfold xBH at hy
    rw [e0, show (xA2 p L).lots.length = L.length by unfold xA2; simp] at hy
    obtain ⟨hc, hm⟩ := xJi L hp hL h6 L.length [] (by simp) F2.nil y hy
    have hn := xOL hbr
    rw [hm] at hn
    have n1 := hn (p.1.2 - sg gM L y.1) (by simp [Mar.list, MS])
    exact ⟨h6, hL, hp, hc, by omega, hn _ (by simp [Mar.list, MS]), hn _ (by simp [Mar.list, MS]), hn _ (by simp [Mar.list, MS]), hn _ (by simp [Mar.list, MS]), hn _ (by simp [Mar.list, MS]), hn _ (by simp [Mar.list, MS])⟩
 ·simp only [if_neg h]
  exact ⟨fun _ => rfl, fun h' => absurd h' h⟩
end M3
end Go.Proofs.YtcbbhiobibhdnaaDoor


namespace Go.Proofs.YtcbbhiobibhdnaaDoor
namespace M3
open Go.RowKit U8
set_option maxRecDepth 100000
set_option maxHeartbeats 4000000
abbrev zL : Tlo := TC.dflt (TC.pair (TC.int IntKind.i64) (TC.pair (TC.int IntKind.i64) (TC.pair (TC.pair (TC.pair (TC.int IntKind.i64) (TC.int IntKind.i64)) (TC.pair (TC.pair (TC.int IntKind.i64) (TC.int IntKind.i64)) (TC.pair (TC.int IntKind.i64) (TC.int IntKind.i64)))) (TC.int IntKind.i64))))
section
variable (F : Nat)
theorem cW_t {n a b : Int} (h : a ≤ n ∧ n ≤ b) : xCk F n a b = some true := by
 unfold xCk
 rw [xAu (show n ≥ a from h.1), cond_true, xAu h.2]
theorem cR_t {r : Tr} {m : Int} (h : okR r m) : xBV F r m = some true := by
 obtain ⟨h1, h2, h3⟩ := h
 unfold xBV
 rw [xAu h1, cond_true, xAu h2, cond_true, xAu h3]
theorem cB_t {b : Tb} (h : okB b 100000000) : xF3 F b = some true := by
 obtain ⟨h1, h2, h3⟩ := h
 unfold xF3
 refine xAl (cR_t F h1) ?_
 rw [Bool.not_true, cond_false]
 refine xAl (cR_t F h2) ?_
 rw [Bool.not_true, cond_false]
 exact xAl (cR_t F h3) rfl
theorem lot_t {x : Tlo} (h : LV x) : xHC F x = some true := by
 obtain ⟨h1, h2, h3, h4⟩ := h
 unfold xHC
 refine xAl (cW_t F h1) ?_
 rw [cond_true]
 refine xAl (cW_t F h2) ?_
 rw [cond_true]
 refine xAl (cB_t F h3) ?_
 rw [cond_true]
 exact xAl (cW_t F h4) rfl
theorem xNG (L : List Tlo) (h6 : L.length ≤ 6) (hL : ∀ x, x ∈ L → LV x) : ∀ (j k i : Nat), i + j = L.length → j < k → xEk F ((L.length - 0) : Int) L k (i : Int) = some (.inr L)
 | j, 0, _, _, h => by omega
 | 0, k + 1, i, h, _ => by
  simp only [xEk]
  rw [xAv (show ¬ (i : Int) < (L.length - 0 : Int) by omega)]
  rfl
 | j + 1, k + 1, i, h, hj => by
  have hi : i < L.length := by omega
  simp only [xEk]
  rw [xAu (show (i : Int) < (L.length - 0 : Int) by omega), show inB (i : Int) (L.length - 0) = true from xCm hi, Int.toNat_natCast, cond_true, cond_true]
  have hx : LV (nth L zL i) := by rw [← xAG L zL i hi]; exact hL _ (List.getElem_mem hi)
  have hc : xLB F (nth L zL i) = some false := by
   unfold xLB
   exact xAl (lot_t F hx) rfl
  refine xAl hc ?_
  rw [cond_false, wI i hi (by omega)]
  exact xNG L h6 hL j k (i + 1) (by omega) (by omega)
theorem xTf (hF : 2000 < F) {p : Tpp} {L : List Tlo} (h6 : L.length ≤ 6) (hL : ∀ x, x ∈ L → LV x) (hp : PV p) : xFw F p L = some 0 := by
 have e : xRn F L = some false := by
  unfold xRn xSL
  have e1 : xEk F ((L.length - 0) : Int) L F (0 : Int) = some (.inr L) := xNG F L h6 hL L.length F 0 (by omega) (by omega)
  exact xAl (xAl e1 rfl) rfl
 unfold xFw
 rw [xAv (show ¬ ((L.length - 0) : Int) > 6 by omega), cond_false]
 refine xAl (y := (false, L)) (xAl e ?_) rfl
 rw [cond_false]
 refine xAl (cR_t F hp.1) ?_
 rw [Bool.not_true, cond_false]
 exact xAl (cB_t F hp.2) rfl
theorem xNO (L : List Tlo) (c : List Int) (q : Int × (Int × (Int × (Int × (Int × (Int × (Int × Int))))))) (h6 : L.length ≤ 6) (hc : CH L c) : ∀ (j k i : Nat), i + j = c.length → j < k → xAZ F ((c.length - 0) : Int) L c q k (i : Int) = some (.inr (L, (c, q)))
 | j, 0, _, _, h => by omega
 | 0, k + 1, i, h, _ => by
  simp only [xAZ]
  rw [xAv (show ¬ (i : Int) < (c.length - 0 : Int) by omega)]
  rfl
 | j + 1, k + 1, i, h, hj => by
  have hl : L.length = c.length := hc.len
  have hi : i < c.length := by omega
  have hi2 : i < L.length := by omega
  simp only [xAZ]
  rw [xAu (show (i : Int) < (c.length - 0 : Int) by omega), show inB (i : Int) (c.length - 0) = true from xCm hi, Int.toNat_natCast, cond_true, cond_true, xAv (show ¬ (i : Int) ≥ (L.length - 0 : Int) by omega), cond_false, show inB (i : Int) (L.length - 0) = true from xCm hi2, cond_true]
  have h1 := hc.get i hi2 hi
  rw [xAG L zL i hi2, xAG c 0 i hi] at h1
  refine xAl (cW_t F h1) ?_
  rw [Bool.not_true, cond_false, wI i hi (by omega)]
  exact xNO L c q h6 hc j k (i + 1) (by omega) (by omega)
theorem isC_t (hF : 2000 < F) (p : Tpp) {L : List Tlo} {c : List Int} (h6 : L.length ≤ 6) (hc : CH L c) : xC7 F p L c = some true := by
 have hl : L.length = c.length := hc.len
 unfold xC7
 have e1 : xAZ F ((c.length - 0) : Int) L c (p.1.1, (p.1.2, (p.2.1.1, (p.2.1.2, (p.2.2.1.1, (p.2.2.1.2, p.2.2.2)))))) F (0 : Int) = some (.inr (L, (c, (p.1.1, (p.1.2, (p.2.1.1, (p.2.1.2, (p.2.2.1.1, (p.2.2.1.2, p.2.2.2)))))))) ) := xNO F L c _ h6 hc c.length F 0 (by omega) (by omega)
 refine xAl e1 ?_
 show some (((c.length - 0) : Int) == ((L.length - 0) : Int)) = _
 rw [bq (by omega)]
def WS (L : List Tlo) (c : List Int) : Tfr := (sg gM L c, ((sg (gL s0) L c, sg (gH s0) L c), ((sg (gL s1) L c, sg (gH s1) L c), (sg (gL s2) L c, sg (gH s2) L c))))
theorem gc_b {b : Tb → Tr} (hb : Sp b) {x : Tlo} (hx : LV x) : (-100000000 ≤ gL b x ∧ gL b x ≤ 100000000) ∧ (-100000000 ≤ gH b x ∧ gH b x ≤ 100000000) := by
 obtain ⟨x1, x2, x3⟩ := hb _ _ hx.2.2.1
 unfold gL gH
 omega
theorem CH_take {L : List Tlo} {c : List Int} (h : CH L c) : ∀ k, CH (L.take k) (c.take k) := by
 unfold CH at *
 induction h with
 | nil => intro k; rw [List.take_nil, List.take_nil]; exact F2.nil
 | cons h1 _ ih =>
  intro k
  cases k with
  | zero => exact F2.nil
  | succ k => exact F2.cons h1 (ih k)
theorem xIA (L : List Tlo) (c : List Int) (q : Int × (Int × (Int × (Int × (Int × (Int × (Int × Int))))))) (h6 : L.length ≤ 6) (hL : ∀ x, x ∈ L → LV x) (hc : CH L c) : ∀ (j k i : Nat), i + j = c.length → j < k → xCc F ((c.length - 0) : Int) L c q k (i : Int) (WS (L.take i) (c.take i)) = some (L, (c, WS L c))
 | j, 0, _, _, h => by omega
 | 0, k + 1, i, h, _ => by
  have hl : L.length = c.length := hc.len
  simp only [xCc]
  rw [xAv (show ¬ (i : Int) < (c.length - 0 : Int) by omega), cond_false, List.take_of_length_le (show L.length ≤ i by omega), List.take_of_length_le (show c.length ≤ i by omega)]
 | j + 1, k + 1, i, h, hj => by
  have hl : L.length = c.length := hc.len
  have hi : i < c.length := by omega
  have hi2 : i < L.length := by omega
  simp only [xCc]
  rw [xAu (show (i : Int) < (c.length - 0 : Int) by omega), show inB (i : Int) (c.length - 0) = true from xCm hi, Int.toNat_natCast, cond_true, cond_true, show inB (i : Int) (L.length - 0) = true from xCm hi2, cond_true]
  have h1 := hc.get i hi2 hi
  have hx := hL _ (List.getElem_mem hi2)
  have t1 : L.take (i + 1) = L.take i ++ [L[i]] := xJu hi2
  have t2 : c.take (i + 1) = c.take i ++ [c[i]] := by rw [List.take_add_one, List.getElem?_eq_getElem hi]; rfl
  have hlt : (L.take i).length = (c.take i).length := by rw [List.length_take, List.length_take, hl]
  have hct := CH_take hc i
  have hLt : ∀ y, y ∈ L.take i → LV y := fun y hy => hL y (List.mem_of_mem_take hy)
  have h6t : (L.take i).length ≤ 6 := by rw [List.length_take]; omega
  rw [xAG L zL i hi2] at h1 hx t1
  rw [xAG c 0 i hi] at h1 t2
  generalize nth L zL i = x at h1 hx t1 ⊢
  generalize nth c (0 : Int) i = n at h1 t2 ⊢
  have hn : n ≤ 1000 := by have := hx.1.2; omega
  have gen : ∀ g : Tlo → Int, (∀ y, LV y → -100000000 ≤ g y ∧ g y ≤ 100000000) → IntKind.wrap IntKind.i64 (sg g (L.take i) (c.take i) + IntKind.wrap IntKind.i64 (n * g x)) = sg g (L.take (i + 1)) (c.take (i + 1)) := by
   intro g hg
   have b1 := xGK (g := g) (B := 100000000) (by omega) hct hLt hg
   obtain ⟨g1, g2⟩ := hg x hx
   have a1 : n * g x ≤ n * 100000000 := Int.mul_le_mul_of_nonneg_left g2 h1.1
   have a3 : n * (-100000000) ≤ n * g x := Int.mul_le_mul_of_nonneg_left g1 h1.1
   rw [t1, t2, xHa g _ _ x n hlt, w64 (n * g x) (by omega), w64 _ (by omega)]
  have st : ((IntKind.wrap IntKind.i64 ((WS (L.take i) (c.take i)).1 + IntKind.wrap IntKind.i64 (n * x.2.1))), (((IntKind.wrap IntKind.i64 ((WS (L.take i) (c.take i)).2.1.1 + IntKind.wrap IntKind.i64 (n * x.2.2.1.1.1))), (IntKind.wrap IntKind.i64 ((WS (L.take i) (c.take i)).2.1.2 + IntKind.wrap IntKind.i64 (n * x.2.2.1.1.2)))), (((IntKind.wrap IntKind.i64 ((WS (L.take i) (c.take i)).2.2.1.1 + IntKind.wrap IntKind.i64 (n * x.2.2.1.2.1.1))), (IntKind.wrap IntKind.i64 ((WS (L.take i) (c.take i)).2.2.1.2 + IntKind.wrap IntKind.i64 (n * x.2.2.1.2.1.2)))), ((IntKind.wrap IntKind.i64 ((WS (L.take i) (c.take i)).2.2.2.1 + IntKind.wrap IntKind.i64 (n * x.2.2.1.2.2.1))), (IntKind.wrap IntKind.i64 ((WS (L.take i) (c.take i)).2.2.2.2 + IntKind.wrap IntKind.i64 (n * x.2.2.1.2.2.2))))))) = WS (L.take (i + 1)) (c.take (i + 1)) := by
   unfold WS
   rw [← gen gM (fun y hy => by have := hy.2.1; unfold gM; omega), ← gen (gL s0) (fun y hy => (gc_b sp0 hy).1), ← gen (gH s0) (fun y hy => (gc_b sp0 hy).2), ← gen (gL s1) (fun y hy => (gc_b sp1 hy).1), ← gen (gH s1) (fun y hy => (gc_b sp1 hy).2), ← gen (gL s2) (fun y hy => (gc_b sp2 hy).1), ← gen (gH s2) (fun y hy => (gc_b sp2 hy).2)]
   rfl
  rw [st, wI i hi (by omega)]
  exact xIA L c q h6 hL hc j k (i + 1) (by omega) (by omega)
theorem xTd (hF : 2000 < F) {p : Tpp} {L : List Tlo} {c : List Int} (h : BF p L c) : xEf F p L c = some (WS L c, 0) := by
 have hcl : L.length = c.length := h.ch.len
 have h6 := h.len
 unfold xEf
 refine xAl (xTf F hF h.len h.lots h.pv) ?_
 rw [show ((0 : Int) != 0) = false from rfl, cond_false]
 refine xAl (isC_t F hF p h.len h.ch) ?_
 rw [Bool.not_true, cond_false]
 have e : xG5 F p L c = some (WS L c) := by
  unfold xG5
  have e1 : xCc F ((c.length - 0) : Int) L c (p.1.1, (p.1.2, (p.2.1.1, (p.2.1.2, (p.2.2.1.1, (p.2.2.1.2, p.2.2.2)))))) F (0 : Int) (0, ((0, 0), ((0, 0), (0, 0)))) = some (L, (c, WS L c)) := xIA F L c _ h.len h.lots h.ch c.length F 0 (by omega) (by omega)
  exact xAl e1 rfl
 exact xAl e rfl
end
/-- What such a charge weighs and contains. -/
structure MF (p : Tpp) (r : Tfr) : Prop where
 mass : 0 ≤ r.1 ∧ r.1 ≤ 1000000000
 con : okB r.2 1000000000000
 m0 : (s0 p.2).1 * r.1 ≤ 1000000 * (s0 r.2).1 ∧ 1000000 * (s0 r.2).2 ≤ (s0 p.2).2 * r.1
 m1 : (s1 p.2).1 * r.1 ≤ 1000000 * (s1 r.2).1 ∧ 1000000 * (s1 r.2).2 ≤ (s1 p.2).2 * r.1
 m2 : (s2 p.2).1 * r.1 ≤ 1000000 * (s2 r.2).1 ∧ 1000000 * (s2 r.2).2 ≤ (s2 p.2).2 * r.1
theorem mf {p : Tpp} {L : List Tlo} {c : List Int} (h : BF p L c) : MF p (WS L c) := by
 obtain ⟨⟨q1, q2, q3⟩, _⟩ := id h.pv
 have one : ∀ b : Tb → Tr, Sp b → 0 ≤ sg (gu b p) L c → 0 ≤ sg (gd b p) L c → okR (sg (gL b) L c, sg (gH b) L c) 1000000000000 ∧ (b p.2).1 * sg gM L c ≤ 1000000 * sg (gL b) L c ∧ 1000000 * sg (gH b) L c ≤ (b p.2).2 * sg gM L c := by
  intro b hb hu hd
  have e1 : sg (gu b p) L c = (b p.2).2 * sg gM L c - 1000000 * sg (gH b) L c := xPl gM (gH b) (b p.2).2 1000000 L c
  have e2 : sg (gd b p) L c = 1000000 * sg (gL b) L c - (b p.2).1 * sg gM L c := xPl (gL b) gM 1000000 (b p.2).1 L c
  have n1 := xKI h.ch h.lots (g := gL b) (fun y hy => by
   obtain ⟨x1, x2, x3⟩ := hb _ _ hy.2.2.1
   exact x1)
  have n2 := sg_mono h.ch h.lots (g := gL b) (g' := gH b) (fun y hy => by
   obtain ⟨x1, x2, x3⟩ := hb _ _ hy.2.2.1
   exact x2)
  have n3 := xGK (g := gH b) (B := 100000000) (by omega) h.ch h.lots (fun y hy => (gc_b hb hy).2)
  have h6 := h.len
  refine ⟨⟨n1, n2, ?_⟩, by omega, by omega⟩
  dsimp only
  omega
 have n0 := xKI h.ch h.lots (g := gM) (fun y hy => by have := hy.2.1; unfold gM; omega)
 have hm := h.mass
 obtain ⟨a1, a2⟩ := one s0 sp0 h.u0 h.d0
 obtain ⟨b1, b2⟩ := one s1 sp1 h.u1 h.d1
 obtain ⟨c1, c2⟩ := one s2 sp2 h.u2 h.d2
 exact ⟨⟨n0, Int.le_trans hm q3⟩, ⟨a1, b1, c1⟩, a2, b2, c2⟩
end M3
end Go.Proofs.YtcbbhiobibhdnaaDoor


namespace Go.Proofs.YtcbbhiobibhdnaaDoor
namespace M3
open Go.RowKit U8
set_option maxRecDepth 100000
set_option maxHeartbeats 4000000
def zB : Tb := ((0, 0), ((0, 0), (0, 0)))
/-- The slices before their contents are filled in. -/
def fr0 : List Tst → List Tfr
 | [] => []
 | x :: l => if x.1 = 1 then (x.2.1, zB) :: fr0 l else fr0 l
theorem xHG (b : Tb → Tr) : ∀ (l : List Tst) (m dp dr : Int), (sl b l m dp dr).length = (fr0 l).length
 | [], _, _, _ => rfl
 | x :: l, m, dp, dr => by
  rw [sl, fr0]
  split
  ·rw [List.length_cons, List.length_cons, xHG b l]
  ·exact xHG b l _ _ _
theorem fr0_le : ∀ l : List Tst, (fr0 l).length ≤ l.length
 | [] => Nat.le_refl _
 | x :: l => by
  have ih := fr0_le l
  rw [fr0]
  split <;> simp only [List.length_cons] <;> omega
theorem ob_exq {α β : Type} {x : Option α} {f : α → Option β} {Q : Option β → Prop} {y : α} (h : x = some y) (h2 : Q (f y)) : Q (ob x f) := by rw [h]; exact h2
theorem xPI {α β ι : Type} {x : Option α} {f : α → Option β} {Q : Option β → Prop} (g : ι → α) (h : ∃ n, x = some (g n)) (h2 : ∀ n, Q (f (g n))) : Q (ob x f) := by
 obtain ⟨n, h4⟩ := h
 rw [h4]
 exact h2 n
theorem xPJ {α : Type} {l : List α} {i : Nat} (h : i < l.length) (d : α) : nth l d i ∈ l := by
 rw [← xAG l d i h]; exact List.getElem_mem h
section
variable (F : Nat)
theorem preL (l : List Tst) (hl : l.length ≤ 200) (m1 : Tfr) : ∀ (j k i : Nat) (r : Int × (Int × (Int × (Int × (Int × (Int × Int)))))) (acc : List Tfr), i + j = l.length → j < k → run (l.drop i) r.1 → 0 ≤ r.1 ∧ r.1 ≤ 1000000000 → acc.length ≤ i → ∃ r', xBj F ((l.length - 0) : Int) l m1 k (i : Int) r acc = some (l, (m1, ((r', r.2), acc ++ fr0 (l.drop i))))
 | j, 0, _, _, _, _, h, _, _, _ => by omega
 | 0, k + 1, i, r, acc, h, _, _, _, _ => by
  simp only [xBj]
  rw [xAv (show ¬ (i : Int) < (l.length - 0 : Int) by omega), List.drop_eq_nil_of_le (show l.length ≤ i by omega), fr0, List.append_nil]
  exact ⟨_, rfl⟩
 | j + 1, k + 1, i, r, acc, h, hj, hr, hm, ha => by
  have hi : i < l.length := by omega
  rw [xCS hi zS] at hr ⊢
  simp only [xBj]
  rw [xAu (show (i : Int) < (l.length - 0 : Int) by omega), show inB (i : Int) (l.length - 0) = true from xCm hi, Int.toNat_natCast, wI i hi hl]
  generalize nth l zS i = x at hr ⊢
  obtain ⟨hs, hg0, hg1, hr'⟩ := hr
  have hlen : ∀ c : Tfr, (bif false then (xCP (acc.length - 0) (c :: []).length) else (xB6 (acc.length - 0) (c :: []).length)) = true := by
   intro c
   show xB6 _ _ = true
   unfold xB6
   rw [xAu (by simp only [List.length_cons, List.length_nil]; omega)]
  rw [hlen, xAm F (stM hs) hm, xAd, xAd, fr0]
  by_cases k1 : x.1 = 1
  ·rw [if_pos k1, bq k1]
   obtain ⟨r', e⟩ := preL l hl m1 j k (i + 1) (gm r.1 x, r.2) (acc ++ ((x.2.1, zB) :: [])) (by omega) (by omega) hr' ⟨hg0, hg1⟩ (by simp only [List.length_append, List.length_cons, List.length_nil]; omega)
   rw [List.append_assoc] at e
   exact ⟨r', e⟩
  ·rw [if_neg k1, bn k1]
   exact preL l hl m1 j k (i + 1) (gm r.1 x, r.2) acc (by omega) (by omega) hr' ⟨hg0, hg1⟩ (by omega)
variable (hF : 2000 < F)
include hF
theorem xL3 (m : Tfr) (l : List Tst) (hc : xCe F m l = some 0) (hl : l.length ≤ 200) (hm : 0 ≤ m.1 ∧ m.1 ≤ 1000000000) (hB : okB m.2 1000000000000) (hr : run l m.1) : ∃ R, xBe F m l = some ((R, 0), xEh xRR (xEh xOT (xEh xNd (fr0 l) 0 (sl s0 l m.1 (s0 m.2).1 (s0 m.2).2)) 0 (sl s1 l m.1 (s1 m.2).1 (s1 m.2).2)) 0 (sl s2 l m.1 (s2 m.2).1 (s2 m.2).2)) := by
 obtain ⟨r', e0⟩ := preL F l hl m l.length F 0 (m.1, (m.2.1.1, (m.2.1.2, (m.2.2.1.1, (m.2.2.1.2, m.2.2.2))))) [] (by omega) (by omega) hr hm (Nat.le_refl _)
 have n0 := xHG s0 l m.1 (s0 m.2).1 (s0 m.2).2
 have n1 := xHG s1 l m.1 (s1 m.2).1 (s1 m.2).2
 have n2 := xHG s2 l m.1 (s2 m.2).1 (s2 m.2).2
 have nl := fr0_le l
 have f0 := fun R => fil0 F hF l hl m hm hB.1 hr R (fr0 l) (by omega) (by omega)
 have p0 := xGM xNd (sl s0 l m.1 (s0 m.2).1 (s0 m.2).2) (fr0 l) 0
 have f1 := fun R => fil1 F hF l hl m hm hB.2.1 hr R (xEh xNd (fr0 l) 0 (sl s0 l m.1 (s0 m.2).1 (s0 m.2).2)) (by omega) (by omega)
 have p1 := xGM xOT (sl s1 l m.1 (s1 m.2).1 (s1 m.2).2) (xEh xNd (fr0 l) 0 (sl s0 l m.1 (s0 m.2).1 (s0 m.2).2)) 0
 have f2 := fun R => fil2 F hF l hl m hm hB.2.2 hr R (xEh xOT (xEh xNd (fr0 l) 0 (sl s0 l m.1 (s0 m.2).1 (s0 m.2).2)) 0 (sl s1 l m.1 (s1 m.2).1 (s1 m.2).2)) (by omega) (by omega)
 have p2 := xGM xRR (sl s2 l m.1 (s2 m.2).1 (s2 m.2).2) (xEh xOT (xEh xNd (fr0 l) 0 (sl s0 l m.1 (s0 m.2).1 (s0 m.2).2)) 0 (sl s1 l m.1 (s1 m.2).1 (s1 m.2).2)) 0
 unfold xBe
 refine ob_exq (Q := fun o => ∃ R, o = some ((R, 0), xEh xRR (xEh xOT (xEh xNd (fr0 l) 0 (sl s0 l m.1 (s0 m.2).1 (s0 m.2).2)) 0 (sl s1 l m.1 (s1 m.2).1 (s1 m.2).2)) 0 (sl s2 l m.1 (s2 m.2).1 (s2 m.2).2))) hc ?_
 rw [show ((0 : Int) != 0) = false from rfl, cond_false]
 refine ob_exq (Q := fun o => ∃ R, o = some ((R, 0), xEh xRR (xEh xOT (xEh xNd (fr0 l) 0 (sl s0 l m.1 (s0 m.2).1 (s0 m.2).2)) 0 (sl s1 l m.1 (s1 m.2).1 (s1 m.2).2)) 0 (sl s2 l m.1 (s2 m.2).1 (s2 m.2).2))) e0 ?_
 refine xPI (Q := fun o => ∃ R, o = some ((R, 0), xEh xRR (xEh xOT (xEh xNd (fr0 l) 0 (sl s0 l m.1 (s0 m.2).1 (s0 m.2).2)) 0 (sl s1 l m.1 (s1 m.2).1 (s1 m.2).2)) 0 (sl s2 l m.1 (s2 m.2).1 (s2 m.2).2))) (fun R' => (R', _)) (f0 _) (fun R0 => ?_)
 refine xPI (Q := fun o => ∃ R, o = some ((R, 0), xEh xRR (xEh xOT (xEh xNd (fr0 l) 0 (sl s0 l m.1 (s0 m.2).1 (s0 m.2).2)) 0 (sl s1 l m.1 (s1 m.2).1 (s1 m.2).2)) 0 (sl s2 l m.1 (s2 m.2).1 (s2 m.2).2))) (fun R' => (R', _)) (f1 _) (fun R1 => ?_)
 refine xPI (Q := fun o => ∃ R, o = some ((R, 0), xEh xRR (xEh xOT (xEh xNd (fr0 l) 0 (sl s0 l m.1 (s0 m.2).1 (s0 m.2).2)) 0 (sl s1 l m.1 (s1 m.2).1 (s1 m.2).2)) 0 (sl s2 l m.1 (s2 m.2).1 (s2 m.2).2))) (fun R' => (R', _)) (f2 _) (fun R2 => ?_)
 exact ⟨_, rfl⟩
end
def SU0 (t : Tr) (f : Tfr) : Prop := (t.1 * f.1 ≤ f.2.1.1 * 1000000 ∧ f.2.1.1 * 1000000 ≤ t.2 * f.1) ∧ (t.1 * f.1 ≤ f.2.1.2 * 1000000 ∧ f.2.1.2 * 1000000 ≤ t.2 * f.1)
def GR0 (t : Tr) (f : Tfr) (g : Int) : Prop := (g = 1 ∧ SU0 t f) ∨ (g = 2 ∧ ¬ SU0 t f ∧ ∃ n, f.2.1.1 ≤ n ∧ n ≤ f.2.1.2 ∧ t.1 * f.1 ≤ n * 1000000 ∧ n * 1000000 ≤ t.2 * f.1) ∨ (g = 3 ∧ ¬ SU0 t f)
section
variable (F : Nat) (hF : 2000 < F)
include hF
theorem jdgL0 (sls : List Tfr) (hl : sls.length ≤ 200) (hs : ∀ f, f ∈ sls → (1 ≤ f.1 ∧ f.1 ≤ 1000000000) ∧ 0 ≤ f.2.1.1 ∧ f.2.1.1 ≤ f.2.1.2 ∧ f.2.1.2 ≤ 1000000000000000) (t : Tr) (ht : okR t 1000000000000) (l : List Tst) : ∀ (j k i : Nat) (out : List Int), i + j = sls.length → j < k → out.length ≤ i → ∃ gs, xBy F k ((sls.length - 0) : Int) (i : Int) l t out sls = some (l, out ++ gs) ∧ F2 (GR0 t) (sls.drop i) gs
 | j, 0, _, _, _, h, _ => by omega
 | 0, k + 1, i, out, h, _, _ => by
  simp only [xBy]
  rw [xAv (show ¬ (i : Int) < (sls.length - 0 : Int) by omega), List.drop_eq_nil_of_le (show sls.length ≤ i by omega)]
  exact ⟨[], by rw [List.append_nil]; rfl, F2.nil⟩
 | j + 1, k + 1, i, out, h, hj, ho => by
  have hi : i < sls.length := by omega
  rw [xCS hi zF]
  simp only [xBy]
  rw [xAu (show (i : Int) < (sls.length - 0 : Int) by omega), show inB (i : Int) (sls.length - 0) = true from xCm hi, Int.toNat_natCast]
  have hx := hs _ (xPJ hi zF)
  generalize nth sls zF i = f at hx ⊢
  obtain ⟨hm, h1, h2, h3⟩ := hx
  obtain ⟨t1, t2, t3⟩ := id ht
  have hlen : ∀ c : Int, (bif false then (xCP (out.length - 0) (c :: []).length) else (xB6 (out.length - 0) (c :: []).length)) = true := by
   intro c
   show xB6 _ _ = true
   unfold xB6
   rw [xAu (by simp only [List.length_cons, List.length_nil]; omega)]
  have fin : ∀ g : Int, GR0 t f g → ∃ gs, xBy F k ((sls.length - 0) : Int) (IntKind.wrap IntKind.i64 ((i : Int) + 1)) l t (out ++ (g :: [])) sls = some (l, out ++ gs) ∧ F2 (GR0 t) (f :: sls.drop (i + 1)) gs := by
   intro g hg
   rw [wI i hi hl]
   obtain ⟨gs, e1, e2⟩ := jdgL0 sls hl hs t ht l j k (i + 1) (out ++ (g :: [])) (by omega) (by omega) (by simp only [List.length_append, List.length_cons, List.length_nil]; omega)
   rw [List.append_assoc] at e1
   exact ⟨g :: gs, e1, F2.cons hg e2⟩
  have tail : ∀ (g : Int) (X : Option ((Int × (Int × Int)) × (List Tst × (Tr × (List Int × List Tfr))))), GR0 t f g → X = some ((g, (((sls.length - 0) : Int), (i : Int))), (l, (t, (out, sls)))) → ∃ gs, ob X (fun s2 => (bif (bif false then (xCP (s2.2.2.2.1.length - 0) (s2.1.1 :: []).length) else (xB6 (s2.2.2.2.1.length - 0) (s2.1.1 :: []).length)) then (xBy F k s2.1.2.1 (IntKind.wrap IntKind.i64 (s2.1.2.2 + (1 : Int))) s2.2.1 s2.2.2.1 (s2.2.2.2.1 ++ (s2.1.1 :: [])) s2.2.2.2.2) else none)) = some (l, out ++ gs) ∧ F2 (GR0 t) (f :: sls.drop (i + 1)) gs := by
   intro g X hg hX
   obtain ⟨gs, e1, e2⟩ := fin g hg
   refine ⟨gs, xAl hX ?_, e2⟩
   rw [hlen, cond_true]
   exact e1
  rw [cond_true]
  obtain ⟨b, e3, e4⟩ := xLT F hF (c := f.2.1) (t := t) (m := f.1) ⟨h1, h2, h3⟩ hm ht
  have m1 := xD5 F (c := f.2.1.1) (m := f.1) (t := t) ⟨by omega, by omega⟩ ⟨by omega, by omega⟩ ⟨by omega, by omega⟩ ⟨by omega, by omega⟩
  have m2 := xD5 F (c := f.2.1.2) (m := f.1) (t := t) ⟨by omega, by omega⟩ ⟨by omega, by omega⟩ ⟨by omega, by omega⟩ ⟨by omega, by omega⟩
  by_cases q : SU0 t f
  ·refine tail 1 _ (Or.inl ⟨rfl, q⟩) ?_
   rw [xAu q.1] at m1
   rw [xAu q.2] at m2
   refine xAl (y := ((((sls.length - 0) : Int), ((i : Int), true)), (l, (t, (out, (f, (f.2.1, sls))))))) (xAl m1 ?_) ?_
   ·rw [cond_true]
    exact xAl m2 rfl
   ·rfl
  ·refine tail (bif b then 2 else 3) _ ?_ ?_
   ·cases b with
    | true => exact Or.inr (Or.inl ⟨rfl, q, e4 rfl⟩)
    | false => exact Or.inr (Or.inr ⟨rfl, q⟩)
   ·refine xAl (y := ((((sls.length - 0) : Int), ((i : Int), false)), (l, (t, (out, (f, (f.2.1, sls))))))) ?_ ?_
    ·refine xAl m1 ?_
     by_cases q1 : t.1 * f.1 ≤ f.2.1.1 * 1000000 ∧ f.2.1.1 * 1000000 ≤ t.2 * f.1
     ·rw [xAu q1, cond_true]
      refine xAl m2 ?_
      rw [xAv (fun h => q ⟨q1, h⟩)]
     ·rw [xAv q1, cond_false]
    ·dsimp only
     rw [cond_false]
     refine xAl e3 ?_
     cases b <;> rfl
theorem xQd (m : Tfr) (l : List Tst) {R : (Int × (Int × (Int × (Int × (Int × (Int × (Int × (Int × (Int × (Int × (Int × (Int × (Int × (Int × (Int × (Int × (Int × (Int × (Int × (Int × (Int × (Int × (Int × (Int × Int))))))))))))))))))))))))} {sls : List Tfr} (hp : xBe F m l = some ((R, 0), sls)) (hl : sls.length ≤ 200) (hs : ∀ f, f ∈ sls → (1 ≤ f.1 ∧ f.1 ≤ 1000000000) ∧ 0 ≤ f.2.1.1 ∧ f.2.1.1 ≤ f.2.1.2 ∧ f.2.1.2 ≤ 1000000000000000) (t : Tr) (ht : okR t 1000000000000) : ∃ gs, xD8 F m t l = some (0, gs) ∧ F2 (GR0 t) sls gs := by
 obtain ⟨gs, e1, e2⟩ := jdgL0 F hF sls hl hs t ht l sls.length F 0 [] (by omega) (by omega) (Nat.le_refl _)
 refine ⟨gs, ?_, e2⟩
 unfold xD8
 refine xAl hp ?_
 rw [show ((0 : Int) != 0) = false from rfl, cond_false, xHA, xAu ht, xAd, Bool.not_true, cond_false]
 exact xAl e1 rfl
end
section
variable (F : Nat) (hF : 2000 < F)
include hF
theorem xQ6 (x : Tfr) (hm : 1 ≤ x.1 ∧ x.1 ≤ 1000000000) (hr : okR x.2.1 1000000000000) (hq : cl x.2.1.2 1000000 x.1 ≤ 1000000000000000) : xH5 F x = some ((fl x.2.1.1 1000000 x.1, cl x.2.1.2 1000000 x.1), 0) := by
 obtain ⟨h1, h2, h3⟩ := id hr
 unfold xH5
 rw [xBt, xAu hm, xAd, xHA, xAu hr]
 obtain ⟨z1, e1⟩ := mdI1 F hF (u := x.2.1.1) (a := 1000000) (b := x.1) (by omega) (by omega) (by omega)
 obtain ⟨z2, e2⟩ := mdI2 F hF (u := x.2.1.2) (a := 1000000) (b := x.1) (by omega) (by omega) (by omega)
 have q1 : fl x.2.1.1 1000000 x.1 ≤ 1000000000000000 := by
  have a1 := fl_u (a := 1000000) (show 0 < x.1 by omega) (by omega) h2
  have a2 := xQx (u := x.2.1.2) (a := 1000000) (show 0 < x.1 by omega)
  omega
 show ob (xAL F x.2.1.1 1000000 x.1 1) (fun r2 => ob (xAL F x.2.1.2 1000000 x.1 2) (fun r3 => _)) = _
 rw [e1, e2, xAd, xAd, if_pos q1, if_pos hq]
 rfl
end
def SU1 (t : Tr) (f : Tfr) : Prop := (t.1 * f.1 ≤ f.2.2.1.1 * 1000000 ∧ f.2.2.1.1 * 1000000 ≤ t.2 * f.1) ∧ (t.1 * f.1 ≤ f.2.2.1.2 * 1000000 ∧ f.2.2.1.2 * 1000000 ≤ t.2 * f.1)
def GR1 (t : Tr) (f : Tfr) (g : Int) : Prop := (g = 1 ∧ SU1 t f) ∨ (g = 2 ∧ ¬ SU1 t f ∧ ∃ n, f.2.2.1.1 ≤ n ∧ n ≤ f.2.2.1.2 ∧ t.1 * f.1 ≤ n * 1000000 ∧ n * 1000000 ≤ t.2 * f.1) ∨ (g = 3 ∧ ¬ SU1 t f)
section
variable (F : Nat) (hF : 2000 < F)
include hF
theorem jdgL1 (sls : List Tfr) (hl : sls.length ≤ 200) (hs : ∀ f, f ∈ sls → (1 ≤ f.1 ∧ f.1 ≤ 1000000000) ∧ 0 ≤ f.2.2.1.1 ∧ f.2.2.1.1 ≤ f.2.2.1.2 ∧ f.2.2.1.2 ≤ 1000000000000000) (t : Tr) (ht : okR t 1000000000000) (l : List Tst) : ∀ (j k i : Nat) (out : List Int), i + j = sls.length → j < k → out.length ≤ i → ∃ gs, xBx F k ((sls.length - 0) : Int) (i : Int) l t out sls = some (l, out ++ gs) ∧ F2 (GR1 t) (sls.drop i) gs
 | j, 0, _, _, _, h, _ => by omega
 | 0, k + 1, i, out, h, _, _ => by
  simp only [xBx]
  rw [xAv (show ¬ (i : Int) < (sls.length - 0 : Int) by omega), List.drop_eq_nil_of_le (show sls.length ≤ i by omega)]
  exact ⟨[], by rw [List.append_nil]; rfl, F2.nil⟩
 | j + 1, k + 1, i, out, h, hj, ho => by
  have hi : i < sls.length := by omega
  rw [xCS hi zF]
  simp only [xBx]
  rw [xAu (show (i : Int) < (sls.length - 0 : Int) by omega), show inB (i : Int) (sls.length - 0) = true from xCm hi, Int.toNat_natCast]
  have hx := hs _ (xPJ hi zF)
  generalize nth sls zF i = f at hx ⊢
  obtain ⟨hm, h1, h2, h3⟩ := hx
  obtain ⟨t1, t2, t3⟩ := id ht
  have hlen : ∀ c : Int, (bif false then (xCP (out.length - 0) (c :: []).length) else (xB6 (out.length - 0) (c :: []).length)) = true := by
   intro c
   show xB6 _ _ = true
   unfold xB6
   rw [xAu (by simp only [List.length_cons, List.length_nil]; omega)]
  have fin : ∀ g : Int, GR1 t f g → ∃ gs, xBx F k ((sls.length - 0) : Int) (IntKind.wrap IntKind.i64 ((i : Int) + 1)) l t (out ++ (g :: [])) sls = some (l, out ++ gs) ∧ F2 (GR1 t) (f :: sls.drop (i + 1)) gs := by
   intro g hg
   rw [wI i hi hl]
   obtain ⟨gs, e1, e2⟩ := jdgL1 sls hl hs t ht l j k (i + 1) (out ++ (g :: [])) (by omega) (by omega) (by simp only [List.length_append, List.length_cons, List.length_nil]; omega)
   rw [List.append_assoc] at e1
   exact ⟨g :: gs, e1, F2.cons hg e2⟩
  have tail : ∀ (g : Int) (X : Option ((Int × (Int × Int)) × (List Tst × (Tr × (List Int × List Tfr))))), GR1 t f g → X = some ((g, (((sls.length - 0) : Int), (i : Int))), (l, (t, (out, sls)))) → ∃ gs, ob X (fun s2 => (bif (bif false then (xCP (s2.2.2.2.1.length - 0) (s2.1.1 :: []).length) else (xB6 (s2.2.2.2.1.length - 0) (s2.1.1 :: []).length)) then (xBx F k s2.1.2.1 (IntKind.wrap IntKind.i64 (s2.1.2.2 + (1 : Int))) s2.2.1 s2.2.2.1 (s2.2.2.2.1 ++ (s2.1.1 :: [])) s2.2.2.2.2) else none)) = some (l, out ++ gs) ∧ F2 (GR1 t) (f :: sls.drop (i + 1)) gs := by
   intro g X hg hX
   obtain ⟨gs, e1, e2⟩ := fin g hg
   refine ⟨gs, xAl hX ?_, e2⟩
   rw [hlen, cond_true]
   exact e1
  rw [cond_true]
  obtain ⟨b, e3, e4⟩ := xLT F hF (c := f.2.2.1) (t := t) (m := f.1) ⟨h1, h2, h3⟩ hm ht
  have m1 := xD5 F (c := f.2.2.1.1) (m := f.1) (t := t) ⟨by omega, by omega⟩ ⟨by omega, by omega⟩ ⟨by omega, by omega⟩ ⟨by omega, by omega⟩
  have m2 := xD5 F (c := f.2.2.1.2) (m := f.1) (t := t) ⟨by omega, by omega⟩ ⟨by omega, by omega⟩ ⟨by omega, by omega⟩ ⟨by omega, by omega⟩
  by_cases q : SU1 t f
  ·refine tail 1 _ (Or.inl ⟨rfl, q⟩) ?_
   rw [xAu q.1] at m1
   rw [xAu q.2] at m2
   refine xAl (y := ((((sls.length - 0) : Int), ((i : Int), true)), (l, (t, (out, (f, (f.2.2.1, sls))))))) (xAl m1 ?_) ?_
   ·rw [cond_true]
    exact xAl m2 rfl
   ·rfl
  ·refine tail (bif b then 2 else 3) _ ?_ ?_
   ·cases b with
    | true => exact Or.inr (Or.inl ⟨rfl, q, e4 rfl⟩)
    | false => exact Or.inr (Or.inr ⟨rfl, q⟩)
   ·refine xAl (y := ((((sls.length - 0) : Int), ((i : Int), false)), (l, (t, (out, (f, (f.2.2.1, sls))))))) ?_ ?_
    ·refine xAl m1 ?_
     by_cases q1 : t.1 * f.1 ≤ f.2.2.1.1 * 1000000 ∧ f.2.2.1.1 * 1000000 ≤ t.2 * f.1
     ·rw [xAu q1, cond_true]
      refine xAl m2 ?_
      rw [xAv (fun h => q ⟨q1, h⟩)]
     ·rw [xAv q1, cond_false]
    ·dsimp only
     rw [cond_false]
     refine xAl e3 ?_
     cases b <;> rfl
theorem xQb (m : Tfr) (l : List Tst) {R : (Int × (Int × (Int × (Int × (Int × (Int × (Int × (Int × (Int × (Int × (Int × (Int × (Int × (Int × (Int × (Int × (Int × (Int × (Int × (Int × (Int × (Int × (Int × (Int × Int))))))))))))))))))))))))} {sls : List Tfr} (hp : xBe F m l = some ((R, 0), sls)) (hl : sls.length ≤ 200) (hs : ∀ f, f ∈ sls → (1 ≤ f.1 ∧ f.1 ≤ 1000000000) ∧ 0 ≤ f.2.2.1.1 ∧ f.2.2.1.1 ≤ f.2.2.1.2 ∧ f.2.2.1.2 ≤ 1000000000000000) (t : Tr) (ht : okR t 1000000000000) : ∃ gs, xD7 F m t l = some (0, gs) ∧ F2 (GR1 t) sls gs := by
 obtain ⟨gs, e1, e2⟩ := jdgL1 F hF sls hl hs t ht l sls.length F 0 [] (by omega) (by omega) (Nat.le_refl _)
 refine ⟨gs, ?_, e2⟩
 unfold xD7
 refine xAl hp ?_
 rw [show ((0 : Int) != 0) = false from rfl, cond_false, xHA, xAu ht, xAd, Bool.not_true, cond_false]
 exact xAl e1 rfl
end
section
variable (F : Nat) (hF : 2000 < F)
include hF
theorem xQ3 (x : Tfr) (hm : 1 ≤ x.1 ∧ x.1 ≤ 1000000000) (hr : okR x.2.2.1 1000000000000) (hq : cl x.2.2.1.2 1000000 x.1 ≤ 1000000000000000) : xH4 F x = some ((fl x.2.2.1.1 1000000 x.1, cl x.2.2.1.2 1000000 x.1), 0) := by
 obtain ⟨h1, h2, h3⟩ := id hr
 unfold xH4
 rw [xBt, xAu hm, xAd, xHA, xAu hr]
 obtain ⟨z1, e1⟩ := mdI1 F hF (u := x.2.2.1.1) (a := 1000000) (b := x.1) (by omega) (by omega) (by omega)
 obtain ⟨z2, e2⟩ := mdI2 F hF (u := x.2.2.1.2) (a := 1000000) (b := x.1) (by omega) (by omega) (by omega)
 have q1 : fl x.2.2.1.1 1000000 x.1 ≤ 1000000000000000 := by
  have a1 := fl_u (a := 1000000) (show 0 < x.1 by omega) (by omega) h2
  have a2 := xQx (u := x.2.2.1.2) (a := 1000000) (show 0 < x.1 by omega)
  omega
 show ob (xAL F x.2.2.1.1 1000000 x.1 1) (fun r2 => ob (xAL F x.2.2.1.2 1000000 x.1 2) (fun r3 => _)) = _
 rw [e1, e2, xAd, xAd, if_pos q1, if_pos hq]
 rfl
end
def SU2 (t : Tr) (f : Tfr) : Prop := (t.1 * f.1 ≤ f.2.2.2.1 * 1000000 ∧ f.2.2.2.1 * 1000000 ≤ t.2 * f.1) ∧ (t.1 * f.1 ≤ f.2.2.2.2 * 1000000 ∧ f.2.2.2.2 * 1000000 ≤ t.2 * f.1)
def GR2 (t : Tr) (f : Tfr) (g : Int) : Prop := (g = 1 ∧ SU2 t f) ∨ (g = 2 ∧ ¬ SU2 t f ∧ ∃ n, f.2.2.2.1 ≤ n ∧ n ≤ f.2.2.2.2 ∧ t.1 * f.1 ≤ n * 1000000 ∧ n * 1000000 ≤ t.2 * f.1) ∨ (g = 3 ∧ ¬ SU2 t f)
section
variable (F : Nat) (hF : 2000 < F)
include hF
theorem jdgL2 (sls : List Tfr) (hl : sls.length ≤ 200) (hs : ∀ f, f ∈ sls → (1 ≤ f.1 ∧ f.1 ≤ 1000000000) ∧ 0 ≤ f.2.2.2.1 ∧ f.2.2.2.1 ≤ f.2.2.2.2 ∧ f.2.2.2.2 ≤ 1000000000000000) (t : Tr) (ht : okR t 1000000000000) (l : List Tst) : ∀ (j k i : Nat) (out : List Int), i + j = sls.length → j < k → out.length ≤ i → ∃ gs, xBw F k ((sls.length - 0) : Int) (i : Int) l t out sls = some (l, out ++ gs) ∧ F2 (GR2 t) (sls.drop i) gs
 | j, 0, _, _, _, h, _ => by omega
 | 0, k + 1, i, out, h, _, _ => by
  simp only [xBw]
  rw [xAv (show ¬ (i : Int) < (sls.length - 0 : Int) by omega), List.drop_eq_nil_of_le (show sls.length ≤ i by omega)]
  exact ⟨[], by rw [List.append_nil]; rfl, F2.nil⟩
 | j + 1, k + 1, i, out, h, hj, ho => by
  have hi : i < sls.length := by omega
  rw [xCS hi zF]
  simp only [xBw]
  rw [xAu (show (i : Int) < (sls.length - 0 : Int) by omega), show inB (i : Int) (sls.length - 0) = true from xCm hi, Int.toNat_natCast]
  have hx := hs _ (xPJ hi zF)
  generalize nth sls zF i = f at hx ⊢
  obtain ⟨hm, h1, h2, h3⟩ := hx
  obtain ⟨t1, t2, t3⟩ := id ht
  have hlen : ∀ c : Int, (bif false then (xCP (out.length - 0) (c :: []).length) else (xB6 (out.length - 0) (c :: []).length)) = true := by
   intro c
   show xB6 _ _ = true
   unfold xB6
   rw [xAu (by simp only [List.length_cons, List.length_nil]; omega)]
  have fin : ∀ g : Int, GR2 t f g → ∃ gs, xBw F k ((sls.length - 0) : Int) (IntKind.wrap IntKind.i64 ((i : Int) + 1)) l t (out ++ (g :: [])) sls = some (l, out ++ gs) ∧ F2 (GR2 t) (f :: sls.drop (i + 1)) gs := by
   intro g hg
   rw [wI i hi hl]
   obtain ⟨gs, e1, e2⟩ := jdgL2 sls hl hs t ht l j k (i + 1) (out ++ (g :: [])) (by omega) (by omega) (by simp only [List.length_append, List.length_cons, List.length_nil]; omega)
   rw [List.append_assoc] at e1
   exact ⟨g :: gs, e1, F2.cons hg e2⟩
  have tail : ∀ (g : Int) (X : Option ((Int × (Int × Int)) × (List Tst × (Tr × (List Int × List Tfr))))), GR2 t f g → X = some ((g, (((sls.length - 0) : Int), (i : Int))), (l, (t, (out, sls)))) → ∃ gs, ob X (fun s2 => (bif (bif false then (xCP (s2.2.2.2.1.length - 0) (s2.1.1 :: []).length) else (xB6 (s2.2.2.2.1.length - 0) (s2.1.1 :: []).length)) then (xBw F k s2.1.2.1 (IntKind.wrap IntKind.i64 (s2.1.2.2 + (1 : Int))) s2.2.1 s2.2.2.1 (s2.2.2.2.1 ++ (s2.1.1 :: [])) s2.2.2.2.2) else none)) = some (l, out ++ gs) ∧ F2 (GR2 t) (f :: sls.drop (i + 1)) gs := by
   intro g X hg hX
   obtain ⟨gs, e1, e2⟩ := fin g hg
   refine ⟨gs, xAl hX ?_, e2⟩
   rw [hlen, cond_true]
   exact e1
  rw [cond_true]
  obtain ⟨b, e3, e4⟩ := xLT F hF (c := f.2.2.2) (t := t) (m := f.1) ⟨h1, h2, h3⟩ hm ht
  have m1 := xD5 F (c := f.2.2.2.1) (m := f.1) (t := t) ⟨by omega, by omega⟩ ⟨by omega, by omega⟩ ⟨by omega, by omega⟩ ⟨by omega, by omega⟩
  have m2 := xD5 F (c := f.2.2.2.2) (m := f.1) (t := t) ⟨by omega, by omega⟩ ⟨by omega, by omega⟩ ⟨by omega, by omega⟩ ⟨by omega, by omega⟩
  by_cases q : SU2 t f
  ·refine tail 1 _ (Or.inl ⟨rfl, q⟩) ?_
   rw [xAu q.1] at m1
   rw [xAu q.2] at m2
   refine xAl (y := ((((sls.length - 0) : Int), ((i : Int), true)), (l, (t, (out, (f, (f.2.2.2, sls))))))) (xAl m1 ?_) ?_
   ·rw [cond_true]
    exact xAl m2 rfl
   ·rfl
  ·refine tail (bif b then 2 else 3) _ ?_ ?_
   ·cases b with
    | true => exact Or.inr (Or.inl ⟨rfl, q, e4 rfl⟩)
    | false => exact Or.inr (Or.inr ⟨rfl, q⟩)
   ·refine xAl (y := ((((sls.length - 0) : Int), ((i : Int), false)), (l, (t, (out, (f, (f.2.2.2, sls))))))) ?_ ?_
    ·refine xAl m1 ?_
     by_cases q1 : t.1 * f.1 ≤ f.2.2.2.1 * 1000000 ∧ f.2.2.2.1 * 1000000 ≤ t.2 * f.1
     ·rw [xAu q1, cond_true]
      refine xAl m2 ?_
      rw [xAv (fun h => q ⟨q1, h⟩)]
     ·rw [xAv q1, cond_false]
    ·dsimp only
     rw [cond_false]
     refine xAl e3 ?_
     cases b <;> rfl
theorem xP9 (m : Tfr) (l : List Tst) {R : (Int × (Int × (Int × (Int × (Int × (Int × (Int × (Int × (Int × (Int × (Int × (Int × (Int × (Int × (Int × (Int × (Int × (Int × (Int × (Int × (Int × (Int × (Int × (Int × Int))))))))))))))))))))))))} {sls : List Tfr} (hp : xBe F m l = some ((R, 0), sls)) (hl : sls.length ≤ 200) (hs : ∀ f, f ∈ sls → (1 ≤ f.1 ∧ f.1 ≤ 1000000000) ∧ 0 ≤ f.2.2.2.1 ∧ f.2.2.2.1 ≤ f.2.2.2.2 ∧ f.2.2.2.2 ≤ 1000000000000000) (t : Tr) (ht : okR t 1000000000000) : ∃ gs, xD6 F m t l = some (0, gs) ∧ F2 (GR2 t) sls gs := by
 obtain ⟨gs, e1, e2⟩ := jdgL2 F hF sls hl hs t ht l sls.length F 0 [] (by omega) (by omega) (Nat.le_refl _)
 refine ⟨gs, ?_, e2⟩
 unfold xD6
 refine xAl hp ?_
 rw [show ((0 : Int) != 0) = false from rfl, cond_false, xHA, xAu ht, xAd, Bool.not_true, cond_false]
 exact xAl e1 rfl
end
section
variable (F : Nat) (hF : 2000 < F)
include hF
theorem xQ0 (x : Tfr) (hm : 1 ≤ x.1 ∧ x.1 ≤ 1000000000) (hr : okR x.2.2.2 1000000000000) (hq : cl x.2.2.2.2 1000000 x.1 ≤ 1000000000000000) : xH3 F x = some ((fl x.2.2.2.1 1000000 x.1, cl x.2.2.2.2 1000000 x.1), 0) := by
 obtain ⟨h1, h2, h3⟩ := id hr
 unfold xH3
 rw [xBt, xAu hm, xAd, xHA, xAu hr]
 obtain ⟨z1, e1⟩ := mdI1 F hF (u := x.2.2.2.1) (a := 1000000) (b := x.1) (by omega) (by omega) (by omega)
 obtain ⟨z2, e2⟩ := mdI2 F hF (u := x.2.2.2.2) (a := 1000000) (b := x.1) (by omega) (by omega) (by omega)
 have q1 : fl x.2.2.2.1 1000000 x.1 ≤ 1000000000000000 := by
  have a1 := fl_u (a := 1000000) (show 0 < x.1 by omega) (by omega) h2
  have a2 := xQx (u := x.2.2.2.2) (a := 1000000) (show 0 < x.1 by omega)
  omega
 show ob (xAL F x.2.2.2.1 1000000 x.1 1) (fun r2 => ob (xAL F x.2.2.2.2 1000000 x.1 2) (fun r3 => _)) = _
 rw [e1, e2, xAd, xAd, if_pos q1, if_pos hq]
 rfl
end
end M3
end Go.Proofs.YtcbbhiobibhdnaaDoor


namespace Go.Proofs.YtcbbhiobibhdnaaDoor
namespace M3
open Go.RowKit U8
set_option maxRecDepth 100000
set_option maxHeartbeats 4000000
theorem poured_eq : xCn 5000 = some true := by kernel_rfl
section
variable (F : Nat) (hF : 2000 < F)
include hF
/-- One step: all of a melt freezes. -/
theorem xRd {r : Tfr} (hm : 1 ≤ r.1 ∧ r.1 ≤ 1000000000) (hc : okB r.2 1000000000000) : xCe F r ((1, (r.1, zB)) :: []) = some 0 := by
 obtain ⟨n, rfl⟩ : ∃ n, F = n + 2 := ⟨F - 2, by omega⟩
 have hs : xCQ (n + 2) (1, (r.1, zB)) = some true := by
  unfold xCQ
  have e : IntKind.wrap IntKind.i64 1 = 1 := by decide
  simp only [e, xBt, xEM, xAd]
  have h0 : (r.1 == (0 : Int)) = false := bn (by omega)
  rw [h0, xAu hm]
  rfl
 have hg : xAF (n + 2) r.1 (1, (r.1, zB)) = some 0 := by
  rw [xAm (n + 2) (show 0 ≤ r.1 ∧ r.1 ≤ 1000000000 by omega) (by omega)]
  unfold gm
  rw [if_pos rfl]
  exact congrArg some (by dsimp only; omega)
 have hl : xBf (n + 2) (((((1, (r.1, zB)) : Tst) :: []).length - 0) : Int) ((1, (r.1, zB)) :: []) (n + 2) r.1 (0 : Int) = some (.inr ((1, (r.1, zB)) :: [])) := by
  simp only [xBf]
  show (bif true then (bif true then ob (xCQ (n + 2) (1, (r.1, zB))) _ else none) else _) = _
  rw [cond_true, cond_true]
  refine xAl hs ?_
  rw [Bool.not_true, cond_false]
  refine xAl hg ?_
  rfl
 unfold xCe
 refine xAl (xLa (n + 2) r) ?_
 rw [xAu ⟨⟨by omega, hm.2⟩, hc⟩]
 rw [Bool.not_true, cond_false]
 rw [xAv (show ¬ (((((1, (r.1, zB)) : Tst) :: []).length - 0 : Int) > 200) by simp), cond_false]
 exact xAl hl rfl
theorem xSk {r : Tfr} (hm : 1 ≤ r.1 ∧ r.1 ≤ 1000000000) (hc : okB r.2 1000000000000) : ∃ R, xBe F r ((1, (r.1, zB)) :: []) = some ((R, 0), r :: []) := by
 have hst : xKu (1, (r.1, zB)) := Or.inl ⟨rfl, hm, ⟨by unfold okR zB; dsimp only; omega, by unfold okR zB; dsimp only; omega, by unfold okR zB; dsimp only; omega⟩⟩
 have hg : gm r.1 (1, (r.1, zB)) = 0 := by unfold gm; rw [if_pos rfl]; dsimp only; omega
 obtain ⟨R, e⟩ := xL3 F hF r ((1, (r.1, zB)) :: []) (xRd F hF hm hc) (by simp) ⟨by omega, hm.2⟩ hc ⟨hst, by rw [hg]; exact Int.le_refl _, by rw [hg]; omega, trivial⟩
 refine ⟨R, ?_⟩
 rw [e]
 have hs : ∀ (b : Tb → Tr) (lo hi : Int), sl b ((1, (r.1, zB)) :: []) r.1 lo hi = (lo, hi) :: [] := by
  intro b lo hi
  rw [sl, if_pos rfl]
  unfold ch
  rw [if_pos rfl, if_pos rfl, if_pos rfl, if_pos rfl]
  rfl
 rw [hs, hs, hs]
 rfl
end
theorem xQr {P : Prop} {g : Int} {E : Prop} (h : (g = 1 ∧ P) ∨ (g = 2 ∧ ¬ P ∧ E) ∨ (g = 3 ∧ ¬ P)) (hP : P) : g = 1 := by
 rcases h with ⟨e, _⟩ | ⟨_, n, _⟩ | ⟨_, n⟩
 ·exact e
 ·exact absurd hP n
 ·exact absurd hP n
theorem F2.one {α β : Type} {R : α → β → Prop} {a : α} {l : List β} (h : F2 R (a :: []) l) : ∃ b, l = b :: [] ∧ R a b := by
 cases h with
 | cons h1 h2 => cases h2; exact ⟨_, rfl, h1⟩
theorem mixes_law (F : Nat) (hF : 2000 < F) (hP : xCn F = some true) (p : Tpp) (L : List Tlo) : xGH F p L = some true := by
 unfold xGH
 by_cases h6 : L.length ≤ 6
 ·have hap : xB6 0 L.length = true := by unfold xB6; rw [xAu (by omega)]
  rw [xAv (show ¬ ((L.length - 0) : Int) > 6 by omega), cond_false]
  show (bif xB6 0 L.length then _ else _) = _
  rw [hap, cond_true]
  obtain ⟨b1, b2⟩ := xON p L
  have hb : xIb F p L = some ((stC (xCJ (xA2 p L)), xIc (xA2 p L)), stL (xCJ (xA2 p L))) := by
   unfold xIb
   rw [hap, cond_true]
  refine xAl (show xIb F p ([] ++ L) = _ from hb) ?_
  generalize stC (xCJ (xA2 p L)) = cost
  generalize xIc (xA2 p L) = e at b1 b2 ⊢
  generalize stL (xCJ (xA2 p L)) = c at b1 b2 ⊢
  dsimp only
  by_cases he : e = 0
  ·have hB := b2 he
   have hM := mf hB
   subst he
   rw [show ((0 : Int) != 0) = false from rfl, cond_false]
   refine xAl (y := (WS L c, 0)) (xTd F hF hB) ?_
   generalize WS L c = r at hM ⊢
   dsimp only
   rw [show ((0 : Int) != 0) = false from rfl, cond_false]
   by_cases h0 : r.1 = 0
   ·have hk : ∀ x ∈ (((1, (r.1, zB)) : Tst) :: []), 0 ≤ x.1 ∧ x.1 ≤ 255 := by
     intro x hx
     simp only [List.mem_singleton] at hx
     rw [hx]
     dsimp only
     omega
    obtain ⟨e, e1, e2⟩ := xTa F hF r ((1, (r.1, zB)) :: []) hk
    refine xAl e1 ?_
    have hne : e ≠ 0 := by
     intro he
     obtain ⟨_, _, _, hr⟩ := e2 he
     obtain ⟨hs, _⟩ := hr
     rcases hs with ⟨_, h1, _⟩ | ⟨h, _⟩ | ⟨h, _⟩ | ⟨h, _⟩
     ·dsimp only at h1; omega
     ·cases h
     ·cases h
     ·cases h
    rw [show (e != 0) = true by simp [hne], cond_true, bq h0, cond_true]
    exact xAl hP rfl
   ·have hm : 1 ≤ r.1 ∧ r.1 ≤ 1000000000 := by have := hM.mass; omega
    refine xAl (show xCe F r ([] ++ (((1, (r.1, zB)) : Tst) :: [])) = _ from xRd F hF hm hM.con) ?_
    rw [show ((0 : Int) != 0) = false from rfl, cond_false]
    obtain ⟨R, hp⟩ := xSk F hF hm hM.con
    obtain ⟨t0, t1, t2⟩ := hB.pv.2
    obtain ⟨c0, c1, c2⟩ := hM.con
    obtain ⟨m0, n0⟩ := hM.m0
    obtain ⟨m1, n1⟩ := hM.m1
    obtain ⟨m2, n2⟩ := hM.m2
    have up : ∀ {q : Tr}, okR q 100000000 → okR q 1000000000000 := fun h => ⟨h.1, h.2.1, by have := h.2.2; omega⟩
    have bnd : ∀ {q : Tr}, okR q 1000000000000 → 0 ≤ q.1 ∧ q.1 ≤ q.2 ∧ q.2 ≤ 1000000000000000 := fun h => ⟨h.1, h.2.1, by have := h.2.2; omega⟩
    have all : ∀ {Q : Tfr → Prop}, Q r → ∀ f, f ∈ r :: [] → Q f := fun h f hf => by rw [List.mem_singleton.1 hf]; exact h
    obtain ⟨gs0, j0, f0⟩ := xQd F hF r _ hp (by simp) (all ⟨hm, bnd c0⟩) (s0 p.2) (up t0)
    obtain ⟨g0, rfl, q0⟩ := F2.one f0
    have lo0 : (s0 r.2).1 * 1000000 ≤ (s0 r.2).2 * 1000000 := by have := c0.2.1; have e : s0 r.2 = r.2.1 := rfl; rw [e]; omega
    have g01 : g0 = 1 := xQr q0 (show ((s0 p.2).1 * r.1 ≤ (s0 r.2).1 * 1000000 ∧ (s0 r.2).1 * 1000000 ≤ (s0 p.2).2 * r.1) ∧ ((s0 p.2).1 * r.1 ≤ (s0 r.2).2 * 1000000 ∧ (s0 r.2).2 * 1000000 ≤ (s0 p.2).2 * r.1) by omega)
    subst g01
    have x0 : cl (s0 r.2).2 1000000 r.1 ≤ (s0 p.2).2 := (xH7 (by omega)).2 (by omega)
    have y0 : (s0 p.2).1 ≤ fl (s0 r.2).1 1000000 r.1 := (xHw (by omega)).2 (by omega)
    have z0 := (up t0).2.2
    refine xAl (show xD8 F r p.2.1 ([] ++ (((1, (r.1, zB)) : Tst) :: [])) = _ from j0) ?_
    refine xAl (xQ6 F hF r hm c0 (by have e : s0 r.2 = r.2.1 := rfl; have e2 : s0 p.2 = p.2.1 := rfl; rw [e, e2] at x0; omega)) ?_
    dsimp only
    rw [show ((0 : Int) != 0) = false from rfl, cond_false, show ((((1 : Int) :: []).length - 0 : Int) != 1) = false from rfl, cond_false, show inB 0 (((1 : Int) :: []).length - 0) = true from rfl, cond_true, show (nth ((1 : Int) :: []) (0 : Int) 0 != 1) = false from rfl, cond_false, cond_false, xAv (show ¬ fl r.2.1.1 1000000 r.1 < p.2.1.1 from Int.not_lt.2 y0), cond_false, xAv (show ¬ cl r.2.1.2 1000000 r.1 > p.2.1.2 from Int.not_lt.2 x0), cond_false]
    obtain ⟨gs1, j1, f1⟩ := xQb F hF r _ hp (by simp) (all ⟨hm, bnd c1⟩) (s1 p.2) (up t1)
    obtain ⟨g1, rfl, q1⟩ := F2.one f1
    have lo1 : (s1 r.2).1 * 1000000 ≤ (s1 r.2).2 * 1000000 := by have := c1.2.1; have e : s1 r.2 = r.2.2.1 := rfl; rw [e]; omega
    have g11 : g1 = 1 := xQr q1 (show ((s1 p.2).1 * r.1 ≤ (s1 r.2).1 * 1000000 ∧ (s1 r.2).1 * 1000000 ≤ (s1 p.2).2 * r.1) ∧ ((s1 p.2).1 * r.1 ≤ (s1 r.2).2 * 1000000 ∧ (s1 r.2).2 * 1000000 ≤ (s1 p.2).2 * r.1) by omega)
    subst g11
    have x1 : cl (s1 r.2).2 1000000 r.1 ≤ (s1 p.2).2 := (xH7 (by omega)).2 (by omega)
    have y1 : (s1 p.2).1 ≤ fl (s1 r.2).1 1000000 r.1 := (xHw (by omega)).2 (by omega)
    have z1 := (up t1).2.2
    refine xAl (show xD7 F r p.2.2.1 ([] ++ (((1, (r.1, zB)) : Tst) :: [])) = _ from j1) ?_
    refine xAl (xQ3 F hF r hm c1 (by have e : s1 r.2 = r.2.2.1 := rfl; have e2 : s1 p.2 = p.2.2.1 := rfl; rw [e, e2] at x1; omega)) ?_
    dsimp only
    rw [show ((0 : Int) != 0) = false from rfl, cond_false, show ((((1 : Int) :: []).length - 0 : Int) != 1) = false from rfl, cond_false, show inB 0 (((1 : Int) :: []).length - 0) = true from rfl, cond_true, show (nth ((1 : Int) :: []) (0 : Int) 0 != 1) = false from rfl, cond_false, cond_false, xAv (show ¬ fl r.2.2.1.1 1000000 r.1 < p.2.2.1.1 from Int.not_lt.2 y1), cond_false, xAv (show ¬ cl r.2.2.1.2 1000000 r.1 > p.2.2.1.2 from Int.not_lt.2 x1), cond_false]
    obtain ⟨gs2, j2, f2⟩ := xP9 F hF r _ hp (by simp) (all ⟨hm, bnd c2⟩) (s2 p.2) (up t2)
    obtain ⟨g2, rfl, q2⟩ := F2.one f2
    have lo2 : (s2 r.2).1 * 1000000 ≤ (s2 r.2).2 * 1000000 := by have := c2.2.1; have e : s2 r.2 = r.2.2.2 := rfl; rw [e]; omega
    have g21 : g2 = 1 := xQr q2 (show ((s2 p.2).1 * r.1 ≤ (s2 r.2).1 * 1000000 ∧ (s2 r.2).1 * 1000000 ≤ (s2 p.2).2 * r.1) ∧ ((s2 p.2).1 * r.1 ≤ (s2 r.2).2 * 1000000 ∧ (s2 r.2).2 * 1000000 ≤ (s2 p.2).2 * r.1) by omega)
    subst g21
    have x2 : cl (s2 r.2).2 1000000 r.1 ≤ (s2 p.2).2 := (xH7 (by omega)).2 (by omega)
    have y2 : (s2 p.2).1 ≤ fl (s2 r.2).1 1000000 r.1 := (xHw (by omega)).2 (by omega)
    have z2 := (up t2).2.2
    refine xAl (show xD6 F r p.2.2.2 ([] ++ (((1, (r.1, zB)) : Tst) :: [])) = _ from j2) ?_
    refine xAl (xQ0 F hF r hm c2 (by have e : s2 r.2 = r.2.2.2 := rfl; have e2 : s2 p.2 = p.2.2.2 := rfl; rw [e, e2] at x2; omega)) ?_
    dsimp only
    rw [show ((0 : Int) != 0) = false from rfl, cond_false, show ((((1 : Int) :: []).length - 0 : Int) != 1) = false from rfl, cond_false, show inB 0 (((1 : Int) :: []).length - 0) = true from rfl, cond_true, show (nth ((1 : Int) :: []) (0 : Int) 0 != 1) = false from rfl, cond_false, cond_false, xAv (show ¬ fl r.2.2.2.1 1000000 r.1 < p.2.2.2.1 from Int.not_lt.2 y2), cond_false, xAv (show ¬ cl r.2.2.2.2 1000000 r.1 > p.2.2.2.2 from Int.not_lt.2 x2), cond_false]
    exact xAl hP rfl
  ·rw [show (e != 0) = true by simp [he], cond_true, b1 he]
   exact xAl hP rfl
 ·rw [xAu (show ((L.length - 0) : Int) > 6 by omega), cond_true]
  exact xAl hP rfl
end M3
end Go.Proofs.YtcbbhiobibhdnaaDoor
