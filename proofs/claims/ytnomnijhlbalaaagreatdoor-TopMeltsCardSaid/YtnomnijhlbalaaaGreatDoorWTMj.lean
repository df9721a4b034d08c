/- A part of the proof of the theorem of the last file. No condition. By an AI agent. -/
import Derived.Test.YtnomnijhlbalaaaGreatDoorWTMg
set_option maxRecDepth 100000
namespace Go.Proofs.YtnomnijhlbalaaaGreatDoor
section
open Go.RowKit Go.Proofs Go.Lib M3
abbrev part0 : Bool × (Bool × Int) := (false, (false, 31))
def un7 (g : Tq7) : yAm := (g.1, ((g.2.1, g.2.2.1), ((g.2.2.2.1, g.2.2.2.2.1), (g.2.2.2.2.2.1, g.2.2.2.2.2.2))))
structure InvM (F : Nat) (M : Tfr) (steps : List Tst) (a3 : Ta3) (a4 : Ta4) (sr p n : Nat) : Prop where
 lv3 : xA3 a3 sr = true
 rw3 : rowAt a3 sr = steps
 lv4 : xA3 a4 p = true
 rw4 : rowAt a4 p = List.replicate (fr0 steps).length part0
 chk : xAJ F M steps = some 0
 kd : ∀ y ∈ steps, 0 <= y.1 /\ y.1 <= 255
 len : steps.length <= n
theorem xPD (x : Tst) : ∀ l : List Tst, (fr0 (l ++ [x])).length = (fr0 l).length + (if x.1 = 1 then 1 else 0)
 | [] => by simp only [List.nil_append, fr0]; split <;> simp
 | y :: l => by
  have ih := xPD x l;simp only [List.cons_append, fr0];split <;> simp only [List.length_cons, ih] <;> omega
theorem frz_str (m : Int) (b : Tb) : (((B_4 ++ bs (itoa m)) ++ B_2) ++ bs (bdT b)) = bs (xAi 32 (xTm m b)) := by
 show ((bs [102, 114, 101, 101, 122, 101, 32, 75, 49, 32] ++ bs (itoa m)) ++ bs [32]) ++ bs (bdT b) = _;rw [xAk, xAk, xAk];congr 1;simp [xAi, xTm, xJV, cK1]
theorem abs_str (b : Tb) : (ByteArray.mk (Array.mk (97 :: (98 :: (115 :: (111 :: (114 :: (98 :: (32 :: (75 :: (49 :: (32 :: [])))))))))))) ++ bs (bdT b) = bs (xAi 32 (xX5 b)) := by
 show bs [97, 98, 115, 111, 114, 98, 32, 75, 49, 32] ++ bs (bdT b) = _;rw [xAk];congr 1
theorem vap_str (b : Tb) : (ByteArray.mk (Array.mk (118 :: (97 :: (112 :: (111 :: (117 :: (114 :: (32 :: (75 :: (49 :: (32 :: [])))))))))))) ++ bs (bdT b) = bs (xAi 32 (xTv b)) := by
 show bs [118, 97, 112, 111, 117, 114, 32, 75, 49, 32] ++ bs (bdT b) = _;rw [xAk];congr 1
section
variable (F : Nat) (hF : 2000 < F) (l : List Tst) (hl : l.length <= 20) (s2 : sLu) (M : Tfr) (lr : Nat)
abbrev L0o := (Bool × (List Tst × (Ta0 × (Ta1 × (List Tig × (Ta3 × Ta4)))))) ⊕ (List Tst × (Ta0 × (Ta1 × (List Tig × (Ta3 × (Ta4 × (sLu × (Tfr × (List Tst × (Tq7 × (Tnm × (Tnm × Tlo))))))))))))
abbrev L0o1 := Bool × (List Tst × (Ta0 × (Ta1 × (List Tig × (Ta3 × Ta4)))))
abbrev L0o2 := Int × (List Tst × (Ta0 × (Ta1 × (List Tig × (Ta3 × (Ta4 × (sLu × (Tfr × (List Tst × (Tq7 × (Tnm × (Tnm × Tlo))))))))))))
abbrev mkS (i : Int) (l : List Tst) (a0 : Ta0) (a1 : Ta1) (G : List Tig) (a3 : Ta3) (a4 : Ta4) (s2 : sLu) (M : Tfr) (steps : List Tst) (g : Tq7) (I wf : Tnm) (lots : Tlo) : L0o2 := (i, (l, (a0, (a1, (G, (a3, (a4, (s2, (M, (steps, (g, (I, (wf, lots)))))))))))))
def L0Q (o : Option L0o) : Prop := (∃ x, o = some (.inl (true, x))) \/ ∃ a0 a1 a3 a4 sr p steps g wf lots, o = some (.inr (l, (a0, (a1, ([ig M sr lr p], (a3, (a4, (s2, (M, (steps, (g, ([(bs cK1, 1)], (wf, lots))))))))))))) /\ InvM F M steps a3 a4 sr p l.length
theorem inv_frz {steps : List Tst} {a3 : Ta3} {a4 : Ta4} {sr p n : Nat} (h : InvM F M steps a3 a4 sr p n) (m : Int) (b : Tb) (hc : xAJ F M (steps ++ [(1, (m, b))]) = some 0) : InvM F M (steps ++ [(1, (m, b))]) (a3 ++ [some (steps ++ [(1, (m, b))])]) (xAZ a4 p ++ [some (rowAt a4 p ++ [part0])]) (a3.length + 1) ((xAZ a4 p).length + 1) (n + 1) := by
 refine ⟨xFR _ _, xFG _ _, xFR _ _, ?_, hc, fun y hy => ?_, ?_⟩
 ·rw [xFG, h.rw4, xPD, if_pos rfl, List.replicate_succ']
 ·rcases List.mem_append.1 hy with hy | hy
  ·exact h.kd y hy
  ·rw [List.mem_singleton.1 hy]; show (0 : Int) <= 1 /\ (1 : Int) <= 255; decide
 ·have := h.len; simp; omega
theorem xWd {steps : List Tst} {a3 : Ta3} {a4 : Ta4} {sr p n : Nat} (h : InvM F M steps a3 a4 sr p n) (x : Tst) (hx : x.1 = 3 \/ x.1 = 4) (hc : xAJ F M (steps ++ [x]) = some 0) : InvM F M (steps ++ [x]) (a3 ++ [some (steps ++ [x])]) a4 (a3.length + 1) p (n + 1) := by
 refine ⟨xFR _ _, xFG _ _, h.lv4, ?_, hc, fun y hy => ?_, ?_⟩
 ·rw [h.rw4, xPD, if_neg (by omega)]; rfl
 ·rcases List.mem_append.1 hy with hy | hy
  ·exact h.kd y hy
  ·rw [List.mem_singleton.1 hy]; omega
 ·have := h.len; simp; omega
theorem xF1 {steps : List Tst} {a3 : Ta3} {a4 : Ta4} {sr p n m : Nat} (h : InvM F M steps a3 a4 sr p n) (hn : n <= m) : InvM F M steps a3 a4 sr p m := ⟨h.lv3, h.rw3, h.lv4, h.rw4, h.chk, h.kd, Nat.le_trans h.len hn⟩
include hF hl
theorem lawL0 : ∀ (j k i : Nat) (a0 : Ta0) (a1 : Ta1) (a3 : Ta3) (a4 : Ta4) (sr p : Nat) (steps : List Tst) (g : Tq7) (wf : Tnm) (lots : Tlo), i + j = l.length -> j < k -> InvM F M steps a3 a4 sr p i -> L0Q F l s2 M lr (xBP F k (i : Int) l a0 a1 [ig M sr lr p] a3 a4 s2 M steps g [(bs cK1, 1)] wf lots)
 | 0, k + 1, i, a0, a1, a3, a4, sr, p, steps, g, wf, lots, h, _, inv => by
  rw [xBP];refine xCM (Q := L0Q F l s2 M lr) (decide_eq_false (by omega)) ?_;exact .inr ⟨_, _, _, _, _, _, _, _, _, _, rfl, xF1 F M inv (by omega)⟩
 | j + 1, k + 1, i, a0, a1, a3, a4, sr, p, steps, g, wf, lots, h, hk, inv => by
  have hi : i < l.length := by omega
  have hlen := inv.len;have hfl := xOe steps;have hrl : (rowAt a3 sr).length <= 1000 := by rw [inv.rw3]; omega
  have hr4 : (rowAt a4 p).length <= 1000 := by rw [inv.rw4]; simp; omega
  have ih := fun a0 a1 a3 a4 sr p steps g wf lots => lawL0 j k (i + 1) a0 a1 a3 a4 sr p steps g wf lots (by omega) (by omega);obtain ⟨⟨kd, ms, b⟩, hx⟩ : ∃ x : Tst, nth l zS ((i : Int)).toNat = x := ⟨_, rfl⟩;have hlk : xA8 (steps.length - 0) 1 = true := decide_eq_true (by omega);have hso := xGj F steps (by omega);rw [xBP];refine xDT (Q := L0Q F l s2 M lr) (decide_eq_true (by omega)) ?_;obtain ⟨c, hs1, hs2⟩ := xQz F b;have hB : inB (i : Int) (l.length - 0) = true := by simp [inB]; omega
  rw [hx];by_cases hbad : c = false \/ ms > 1000000000000 \/ ms < -1000000000000
  ·refine obQ (Q := L0Q F l s2 M lr) (y := .inl (true, (l, (a0, (a1, ([ig M sr lr p], (a3, a4))))))) ?_ (.inl ⟨_, rfl⟩);refine xAb hB ?_;refine xAc (y := (((i : Int), true), (l, (a0, (a1, ([ig M sr lr p], (a3, (a4, (s2, (M, (steps, ((kd, (ms, b)), (g, ([(bs cK1, 1)], (wf, lots))))))))))))))) ?_ rfl;refine xAc hs1 ?_
   cases c with
   | false => rfl
   | true =>
    refine xAo rfl ?_;by_cases h1 : ms > 1000000000000
    ·exact xAb (decide_eq_true h1) rfl
    ·refine xAo (decide_eq_false h1) ?_;have h2 : ms < -1000000000000 := by
      rcases hbad with h | h | h
      ·cases h
      ·exact absurd h h1
      ·exact h
     rw [decide_eq_true h2]
  ·have hc : c = true := by
    cases c with
    | true => rfl
    | false => exact absurd (.inl rfl) hbad
   subst hc;have h1 : ¬ ms > 1000000000000 := fun h => hbad (.inr (.inl h));have h2 : ¬ ms < -1000000000000 := fun h => hbad (.inr (.inr h));have hb := smB_nm (hs2 rfl);have hm : Nm ms := ⟨by omega, by omega⟩;have hcc : ∀ x' : Tst, 0 <= x'.1 /\ x'.1 <= 255 -> ∃ e, xAJ F M (steps ++ [x']) = some e := fun x' hx' => by
    obtain ⟨e, h1, _⟩ := xVh F hF M (steps ++ [x']) (fun y hy => by
     rcases List.mem_append.1 hy with hy | hy
     ·exact inv.kd y hy
     ·rw [List.mem_singleton.1 hy]; exact hx')
    exact ⟨e, h1⟩
   have go : ∀ (a0 : Ta0) (a1 : Ta1) (a3 : Ta3) (a4 : Ta4) (sr p : Nat) (steps : List Tst) (g : Tq7) (wf : Tnm) (lots : Tlo) (X : Option (L0o1 ⊕ L0o2)) (f : L0o1 -> Option L0o), X = some (.inr (mkS (i : Int) l a0 a1 [ig M sr lr p] a3 a4 s2 M steps g [(bs cK1, 1)] wf lots)) -> InvM F M steps a3 a4 sr p (i + 1) -> L0Q F l s2 M lr (ob X (fun o_ => su o_ f (fun s7 => (xBP F k (jI.wrap (s7.1 + (1 : Int))) s7.2.1 s7.2.2.1 s7.2.2.2.1 s7.2.2.2.2.1 s7.2.2.2.2.2.1 s7.2.2.2.2.2.2.1 s7.2.2.2.2.2.2.2.1 s7.2.2.2.2.2.2.2.2.1 s7.2.2.2.2.2.2.2.2.2.1 s7.2.2.2.2.2.2.2.2.2.2.1 s7.2.2.2.2.2.2.2.2.2.2.2.1 s7.2.2.2.2.2.2.2.2.2.2.2.2.1 s7.2.2.2.2.2.2.2.2.2.2.2.2.2)))) := by
    intro a0 a1 a3 a4 sr p steps g wf lots X f hX hinv;rw [hX];show L0Q F l s2 M lr (xBP F k (jI.wrap ((i : Int) + 1)) l a0 a1 [ig M sr lr p] a3 a4 s2 M steps g [(bs cK1, 1)] wf lots);rw [wI i hi (by omega)];exact ih a0 a1 a3 a4 sr p steps g wf lots hinv
   have lm := xA1 ms hm;have lb := xGN b hb;by_cases k1 : kd = 1
   ·subst k1;obtain ⟨e, hc⟩ := hcc (1, (ms, b)) ⟨by show (0 : Int) <= 1; decide, by show (1 : Int) <= 255; decide⟩;have hA := xVH F (un7 g) lots wf a0 a1 a3 a4 M sr lr p ms b hm hb inv.lv3 hrl inv.lv4 hr4 (e := e) (by rw [inv.rw3]; exact hc);rw [inv.rw3] at hA;have hL : ∀ {β : Type} (z : ByteArray -> Option β) (r : Option β), z (bs (xAi 32 (xTm ms b))) = r -> (ob (xCd F ms) (fun r9 => (bif (decide ((10 + r9.size) <= 1000000)) then (bif (decide (((B_4 ++ r9).size + 1) <= 1000000)) then (ob (xBV F b) (fun r10 => (bif (decide ((((B_4 ++ r9) ++ B_2).size + r10.size) <= 1000000)) then z (((B_4 ++ r9) ++ B_2) ++ r10) else none))) else none) else none))) = r := by
     intro β z r hz;refine xAc (xC3 F ms hm) ?_;refine xAb (decide_eq_true (by rw [xAh]; omega)) ?_;refine xAb (decide_eq_true (by show (bs [102, 114, 101, 101, 122, 101, 32, 75, 49, 32] ++ bs (itoa ms)).size + 1 <= 1000000; rw [xAk, xAh]; simp; omega)) ?_;refine xAc (xGf F b hb) ?_;refine xAb (decide_eq_true (by show ((bs [102, 114, 101, 101, 122, 101, 32, 75, 49, 32] ++ bs (itoa ms)) ++ bs [32]).size + (bs (bdT b)).size <= 1000000; rw [xAk, xAk, xAh, xAh]; simp; omega)) ?_;rw [frz_str];exact hz
    by_cases he : e = 0
    ·subst he;rw [if_pos rfl] at hA;refine go a0 a1 _ _ _ _ (steps ++ [(1, (ms, b))]) g wf lots _ _ ?_ (inv_frz F M inv ms b hc);refine xAb hB ?_;refine xAc (y := (((i : Int), false), (l, (a0, (a1, ([ig M sr lr p], (a3, (a4, (s2, (M, (steps, ((1, (ms, b)), (g, ([(bs cK1, 1)], (wf, lots))))))))))))))) ?_ ?_
     ·refine xAc hs1 ?_;refine xAo rfl (xAo (decide_eq_false h1) ?_);rw [decide_eq_false h2]
     refine xAo rfl ?_;refine xAc (y := .inl (((i : Int), bs (xAi 32 (xTm ms b))), (l, (a0, (a1, ([ig M sr lr p], (a3, (a4, (s2, (M, (steps, ((1, (ms, b)), (g, ([(bs cK1, 1)], (wf, lots))))))))))))))) ?_ ?_
     ·refine xAb rfl ?_;exact hL (fun q => some (Sum.inl (β := L0o2) (((i : Int), q), (l, (a0, (a1, ([ig M sr lr p], (a3, (a4, (s2, (M, (steps, ((1, (ms, b)), (g, ([(bs cK1, 1)], (wf, lots)))))))))))))))) _ rfl
     refine xAc hA ?_;refine xAc hso ?_;refine xAb hlk ?_;refine xAc hc ?_;refine xAo rfl (xAb rfl (xAb hlk ?_));rfl
    ·rw [if_neg he] at hA;refine go a0 a1 _ _ _ _ steps g wf lots _ _ ?_ (xF1 F M inv (by omega));refine xAb hB ?_;refine xAc (y := (((i : Int), false), (l, (a0, (a1, ([ig M sr lr p], (a3, (a4, (s2, (M, (steps, ((1, (ms, b)), (g, ([(bs cK1, 1)], (wf, lots))))))))))))))) ?_ ?_
     ·refine xAc hs1 ?_;refine xAo rfl (xAo (decide_eq_false h1) ?_);rw [decide_eq_false h2]
     refine xAo rfl ?_;refine xAc (y := .inl (((i : Int), bs (xAi 32 (xTm ms b))), (l, (a0, (a1, ([ig M sr lr p], (a3, (a4, (s2, (M, (steps, ((1, (ms, b)), (g, ([(bs cK1, 1)], (wf, lots))))))))))))))) ?_ ?_
     ·refine xAb rfl ?_;exact hL (fun q => some (Sum.inl (β := L0o2) (((i : Int), q), (l, (a0, (a1, ([ig M sr lr p], (a3, (a4, (s2, (M, (steps, ((1, (ms, b)), (g, ([(bs cK1, 1)], (wf, lots)))))))))))))))) _ rfl
     refine xAc hA ?_;refine xAc hso ?_;refine xAb hlk ?_;refine xAc hc ?_;refine xAo (by simp) (xAo (by simpa using he) ?_);rfl
   by_cases k3 : kd = 3
   ·subst k3;obtain ⟨e, hc⟩ := hcc (3, (0, b)) ⟨by show (0 : Int) <= 3; decide, by show (3 : Int) <= 255; decide⟩;have hA := xVI F (un7 g) lots wf a0 a1 a3 a4 M sr lr p b hb inv.lv3 hrl (e := e) (by rw [inv.rw3]; exact hc);rw [inv.rw3] at hA;have hL : ∀ {β : Type} (z : ByteArray -> Option β) (r : Option β), z (bs (xAi 32 (xX5 b))) = r -> (ob (xBV F b) (fun r11 => (bif (decide ((10 + r11.size) <= 1000000)) then z ((ByteArray.mk (Array.mk (97 :: (98 :: (115 :: (111 :: (114 :: (98 :: (32 :: (75 :: (49 :: (32 :: [])))))))))))) ++ r11) else none))) = r := by
     intro β z r hz;refine xAc (xGf F b hb) ?_;refine xAb (decide_eq_true (by rw [xAh]; omega)) ?_;rw [abs_str];exact hz
    by_cases he : e = 0
    ·subst he;rw [if_pos rfl] at hA;refine go a0 a1 _ _ _ _ (steps ++ [(3, (0, b))]) g wf lots _ _ ?_ (xWd F M inv (3, (0, b)) (by simp) hc);refine xAb hB ?_;refine xAc (y := (((i : Int), false), (l, (a0, (a1, ([ig M sr lr p], (a3, (a4, (s2, (M, (steps, ((3, (ms, b)), (g, ([(bs cK1, 1)], (wf, lots))))))))))))))) ?_ ?_
     ·refine xAc hs1 ?_;refine xAo rfl (xAo (decide_eq_false h1) ?_);rw [decide_eq_false h2]
     refine xAo rfl ?_;refine xAc (y := .inl (((i : Int), bs (xAi 32 (xX5 b))), (l, (a0, (a1, ([ig M sr lr p], (a3, (a4, (s2, (M, (steps, ((3, (0, b)), (g, ([(bs cK1, 1)], (wf, lots))))))))))))))) ?_ ?_
     ·refine xAo rfl (xAb rfl ?_);exact hL (fun q => some (Sum.inl (β := L0o2) (((i : Int), q), (l, (a0, (a1, ([ig M sr lr p], (a3, (a4, (s2, (M, (steps, ((3, (0, b)), (g, ([(bs cK1, 1)], (wf, lots)))))))))))))))) _ rfl
     refine xAc hA ?_;refine xAc hso ?_;refine xAb hlk ?_;refine xAc hc ?_;refine xAo rfl (xAb rfl (xAb hlk ?_));rfl
    ·skip
     rw [if_neg he] at hA;refine go a0 a1 _ _ _ _ steps g wf lots _ _ ?_ (xF1 F M inv (by omega));refine xAb hB ?_;refine xAc (y := (((i : Int), false), (l, (a0, (a1, ([ig M sr lr p], (a3, (a4, (s2, (M, (steps, ((3, (ms, b)), (g, ([(bs cK1, 1)], (wf, lots))))))))))))))) ?_ ?_
     ·refine xAc hs1 ?_;refine xAo rfl (xAo (decide_eq_false h1) ?_);rw [decide_eq_false h2]
     refine xAo rfl ?_;refine xAc (y := .inl (((i : Int), bs (xAi 32 (xX5 b))), (l, (a0, (a1, ([ig M sr lr p], (a3, (a4, (s2, (M, (steps, ((3, (0, b)), (g, ([(bs cK1, 1)], (wf, lots))))))))))))))) ?_ ?_
     ·refine xAo rfl (xAb rfl ?_);exact hL (fun q => some (Sum.inl (β := L0o2) (((i : Int), q), (l, (a0, (a1, ([ig M sr lr p], (a3, (a4, (s2, (M, (steps, ((3, (0, b)), (g, ([(bs cK1, 1)], (wf, lots)))))))))))))))) _ rfl
     refine xAc hA ?_;refine xAc hso ?_;refine xAb hlk ?_;refine xAc hc ?_;refine xAo (by simp) (xAo (by simpa using he) ?_);rfl
   by_cases k4 : kd = 4
   ·subst k4;obtain ⟨e, hc⟩ := hcc (4, (0, b)) ⟨by show (0 : Int) <= 4; decide, by show (4 : Int) <= 255; decide⟩;have hA := xVG F (un7 g) lots wf a0 a1 a3 a4 M sr lr p b hb inv.lv3 hrl (e := e) (by rw [inv.rw3]; exact hc);rw [inv.rw3] at hA;have hL : ∀ {β : Type} (z : ByteArray -> Option β) (r : Option β), z (bs (xAi 32 (xTv b))) = r -> (ob (xBV F b) (fun r11 => (bif (decide ((10 + r11.size) <= 1000000)) then z ((ByteArray.mk (Array.mk (118 :: (97 :: (112 :: (111 :: (117 :: (114 :: (32 :: (75 :: (49 :: (32 :: [])))))))))))) ++ r11) else none))) = r := by
     intro β z r hz;refine xAc (xGf F b hb) ?_;refine xAb (decide_eq_true (by rw [xAh]; omega)) ?_;rw [vap_str];exact hz
    by_cases he : e = 0
    ·subst he;rw [if_pos rfl] at hA;refine go a0 a1 _ _ _ _ (steps ++ [(4, (0, b))]) g wf lots _ _ ?_ (xWd F M inv (4, (0, b)) (by simp) hc);refine xAb hB ?_;refine xAc (y := (((i : Int), false), (l, (a0, (a1, ([ig M sr lr p], (a3, (a4, (s2, (M, (steps, ((4, (ms, b)), (g, ([(bs cK1, 1)], (wf, lots))))))))))))))) ?_ ?_
     ·refine xAc hs1 ?_;refine xAo rfl (xAo (decide_eq_false h1) ?_);rw [decide_eq_false h2]
     refine xAo rfl ?_;refine xAc (y := .inl (((i : Int), bs (xAi 32 (xTv b))), (l, (a0, (a1, ([ig M sr lr p], (a3, (a4, (s2, (M, (steps, ((4, (0, b)), (g, ([(bs cK1, 1)], (wf, lots))))))))))))))) ?_ ?_
     ·refine xAo rfl (xAo rfl (xAb rfl ?_));exact hL (fun q => some (Sum.inl (β := L0o2) (((i : Int), q), (l, (a0, (a1, ([ig M sr lr p], (a3, (a4, (s2, (M, (steps, ((4, (0, b)), (g, ([(bs cK1, 1)], (wf, lots)))))))))))))))) _ rfl
     refine xAc hA ?_;refine xAc hso ?_;refine xAb hlk ?_;refine xAc hc ?_;refine xAo rfl (xAb rfl (xAb hlk ?_));rfl
    ·skip
     rw [if_neg he] at hA;refine go a0 a1 _ _ _ _ steps g wf lots _ _ ?_ (xF1 F M inv (by omega));refine xAb hB ?_;refine xAc (y := (((i : Int), false), (l, (a0, (a1, ([ig M sr lr p], (a3, (a4, (s2, (M, (steps, ((4, (ms, b)), (g, ([(bs cK1, 1)], (wf, lots))))))))))))))) ?_ ?_
     ·refine xAc hs1 ?_;refine xAo rfl (xAo (decide_eq_false h1) ?_);rw [decide_eq_false h2]
     refine xAo rfl ?_;refine xAc (y := .inl (((i : Int), bs (xAi 32 (xTv b))), (l, (a0, (a1, ([ig M sr lr p], (a3, (a4, (s2, (M, (steps, ((4, (0, b)), (g, ([(bs cK1, 1)], (wf, lots))))))))))))))) ?_ ?_
     ·refine xAo rfl (xAo rfl (xAb rfl ?_));exact hL (fun q => some (Sum.inl (β := L0o2) (((i : Int), q), (l, (a0, (a1, ([ig M sr lr p], (a3, (a4, (s2, (M, (steps, ((4, (0, b)), (g, ([(bs cK1, 1)], (wf, lots)))))))))))))))) _ rfl
     refine xAc hA ?_;refine xAc hso ?_;refine xAb hlk ?_;refine xAc hc ?_;refine xAo (by simp) (xAo (by simpa using he) ?_);rfl
   refine go a0 a1 _ _ _ _ steps g wf lots _ _ ?_ (xF1 F M inv (by omega));refine xAb hB ?_;refine xAc (y := (((i : Int), false), (l, (a0, (a1, ([ig M sr lr p], (a3, (a4, (s2, (M, (steps, ((kd, (ms, b)), (g, ([(bs cK1, 1)], (wf, lots))))))))))))))) ?_ ?_
   ·refine xAc hs1 ?_;refine xAo rfl (xAo (decide_eq_false h1) ?_);rw [decide_eq_false h2]
   refine xAo rfl ?_;refine xAc (y := .inr ((i : Int), (l, (a0, (a1, ([ig M sr lr p], (a3, (a4, (s2, (M, (steps, (g, ([(bs cK1, 1)], (wf, lots)))))))))))))) (xAo (bn k1) (xAo (bn k3) (xAo (bn k4) rfl))) ?_;rfl
end
end
section
open Go.RowKit Go.Proofs Go.Lib M3
theorem slc_str (f : Tfr) : ((((((bs (itoa f.1) ++ B_2) ++ bs (rgT f.2.1)) ++ B_2) ++ bs (rgT f.2.2.1)) ++ B_2) ++ bs (rgT f.2.2.2)) ++ (ByteArray.mk (Array.mk (32 :: (103 :: (111 :: (111 :: (100 :: []))))))) = bs (xAi 32 (xYK f)) := by
 show ((((((bs (itoa f.1) ++ bs [32]) ++ bs (rgT f.2.1)) ++ bs [32]) ++ bs (rgT f.2.2.1)) ++ bs [32]) ++ bs (rgT f.2.2.2)) ++ bs [32, 103, 111, 111, 100] = _;rw [xAk, xAk, xAk, xAk, xAk, xAk, xAk];congr 1;simp [xAi, xYK, cGood]
theorem sli_str (i : Nat) : (ByteArray.mk (Array.mk (115 :: (108 :: (105 :: (99 :: (101 :: (32 :: (75 :: (49 :: (32 :: []))))))))))) ++ bs (itoa (i : Int)) = bs (xAi 32 (slcW i)) := by
 show bs [115, 108, 105, 99, 101, 32, 75, 49, 32] ++ bs (itoa (i : Int)) = _;rw [xAk];congr 1
section
variable (F : Nat) (hF : 2000 < F) (l : List Tst) (hl : l.length <= 20) (s2 : sLu) (M : Tfr) (lr : Nat)
theorem lawL1 (steps : List Tst) (r18) (sls : List Tfr) {R} (a0 : Ta0) (a1 : Ta1) (a3 : Ta3) (a4 : Ta4) (sr p : Nat) (g : Tq7) (wf : Tnm) (lots : Tlo) (n : Nat) (hn : n <= 20) (inv : InvM F M steps a3 a4 sr p n) (hp : xAX F M steps = some (R, sls)) (hsl : sls.length = (fr0 steps).length) (hok : ∀ i : Nat, i < sls.length -> (1 <= (nth sls zF i).1 /\ (nth sls zF i).1 <= 1000000000) /\ okC (nth sls zF i).2.1 /\ okC (nth sls zF i).2.2.1 /\ okC (nth sls zF i).2.2.2) :
  ∀ (j k i : Nat), i + j = sls.length -> j < k -> xCB F l s2 M steps r18 sls k (i : Int) a0 a1 [ig M sr lr p] a3 a4 g [(bs cK1, 1)] wf lots = some (.inr (l, (a0, (a1, ([ig M sr lr p], (a3, (a4, (s2, (M, (steps, (r18, (g, ([(bs cK1, 1)], (wf, (sls, lots)))))))))))))))
 | 0, k + 1, i, h, _ => by
  rw [xCB];refine xAo (decide_eq_false (by omega)) ?_;rfl
 | j + 1, k + 1, i, h, hk => by
  have hi : i < sls.length := by omega
  have hlen := inv.len;have hfl := xOe steps;have h4l : (rowAt a4 p).length = (fr0 steps).length := by rw [inv.rw4]; simp
  have hp0 : p ≠ 0 := fun e => by
   subst e;have : (rowAt a4 0).length = 0 := rfl;omega
  have hg : ∀ j, j < (rowAt a4 p).length -> (rowAt a4 p)[j]? = some (false, (false, 31)) := fun j hj => by
   rw [inv.rw4] at hj ⊢;rw [List.length_replicate] at hj;rw [List.getElem?_replicate, if_pos hj]
  obtain ⟨hm, k0, k1, k2⟩ := hok i hi;have hA := xVz F (un7 g) lots wf a0 a1 a3 a4 M sr lr p i (by omega) (by omega) inv.lv3 inv.lv4 hp0 hg (R := R) (sls := sls) (by rw [inv.rw3]; exact hp) hi hm k0 k1 k2;have ih := lawL1 steps r18 sls a0 a1 a3 a4 sr p g wf lots n hn inv hp hsl hok j k (i + 1) (by omega) (by omega);have hB : inB (i : Int) (sls.length - 0) = true := by simp [inB]; omega
  have hni : Nm (i : Int) := ⟨by omega, by omega⟩;have li := xA1 (i : Int) hni;obtain ⟨f, hf⟩ : ∃ f : Tfr, nth sls zF ((i : Int)).toNat = f := ⟨_, rfl⟩;have hf' : nth sls zF i = f := hf;rw [hf'] at hm k0 k1 k2 hA;have nm0 := xDQ k0;have nm1 := xDQ k1;have nm2 := xDQ k2;have hmm : Nm f.1 := ⟨by omega, by omega⟩;have l0 := xA1 _ hmm;have l1 := xBm _ nm0.1 nm0.2;have l2 := xBm _ nm1.1 nm1.2;have l3 := xBm _ nm2.1 nm2.2;rw [xCB, hf];refine xAb (decide_eq_true (by omega)) ?_;refine xAb hB ?_;refine xAc (xC3 F (i : Int) hni) ?_;refine xAb (decide_eq_true (by rw [xAh]; omega)) ?_;rw [sli_str];refine xAc hA ?_;refine xAo rfl (xAb hB ?_);refine xAc (xC3 F _ hmm) ?_;refine xAb (decide_eq_true (by rw [xAh]; omega)) ?_;refine xAc (xCG F _ nm0.1 nm0.2) ?_;refine xAb (decide_eq_true (by show (bs _ ++ bs [32]).size + _ <= 1000000; rw [xAk, xAh, xAh]; simp; omega)) ?_;refine xAb (decide_eq_true (by show ((bs _ ++ bs [32]) ++ bs _).size + _ <= 1000000; rw [xAk, xAk, xAh]; simp; omega)) ?_;refine xAc (xCG F _ nm1.1 nm1.2) ?_;refine xAb (decide_eq_true (by show (((bs _ ++ bs [32]) ++ bs _) ++ bs [32]).size + _ <= 1000000; rw [xAk, xAk, xAk, xAh, xAh]; simp; omega)) ?_;refine xAb (decide_eq_true (by show ((((bs _ ++ bs [32]) ++ bs _) ++ bs [32]) ++ bs _).size + _ <= 1000000; rw [xAk, xAk, xAk, xAk, xAh]; simp; omega)) ?_;refine xAc (xCG F _ nm2.1 nm2.2) ?_;refine xAb (decide_eq_true (by show (((((bs _ ++ bs [32]) ++ bs _) ++ bs [32]) ++ bs _) ++ bs [32]).size + _ <= 1000000; rw [xAk, xAk, xAk, xAk, xAk, xAh, xAh]; simp; omega)) ?_;refine xAb (decide_eq_true (by show ((((((bs _ ++ bs [32]) ++ bs _) ++ bs [32]) ++ bs _) ++ bs [32]) ++ bs _).size + _ <= 1000000; rw [xAk, xAk, xAk, xAk, xAk, xAk, xAh]; simp; omega)) ?_;have hstr := slc_str f;refine xAo (by
   rw [Bool.not_eq_false'];rw [beq_iff_eq];rw [ldl, ldl];exact congrArg (fun s : ByteArray => s.data.toList) hstr.symm) ?_
  have hw : jI.wrap ((i : Int) + 1) = ((i + 1 : Nat) : Int) := xCP _ (by omega);rw [hw];exact ih
theorem lawL2 (e f : Int) (got : ByteArray) (gs : List Int) (hg : okG gs) (g02 : List Tst) (x1 x2 x3 x4 x5 x6 y1 y2 y3 y4 y5) : ∀ (j k i : Nat) (acc : List ByteArray), i + j = gs.length -> j < k -> acc.length <= i -> xCA F k e got f (i : Int) g02 x1 x2 x3 x4 x5 x6 gs acc y1 y2 y3 y4 y5 = some ((e, (got, f)), (g02, (x1, (x2, (x3, (x4, (x5, (x6, (acc ++ (gs.drop i).map (fun g => bs (wdG g)), (y1, (y2, (y3, (y4, y5)))))))))))))
 | 0, k + 1, i, acc, h, _, _ => by
  have hi : i = gs.length := by omega
  rw [xCA];refine xAo (decide_eq_false (by omega)) ?_;rw [hi, List.drop_length];simp
 | j + 1, k + 1, i, acc, h, hk, ha => by
  have hi : i < gs.length := by omega
  have hl := hg.2;have hat := okG_at hg hi;have hlk : xA8 (acc.length - 0) 1 = true := decide_eq_true (by omega);have ih := lawL2 e f got gs hg g02 x1 x2 x3 x4 x5 x6 y1 y2 y3 y4 y5 j k (i + 1) (acc ++ [bs (wdG (nth gs (0 : Int) i))]) (by omega) (by omega) (by simp; omega);have hd : acc ++ (gs.drop i).map (fun g => bs (wdG g)) = (acc ++ [bs (wdG (nth gs (0 : Int) i))]) ++ (gs.drop (i + 1)).map (fun g => bs (wdG g)) := by
   rw [xCZ hi (0 : Int)]; simp
  have hw : jI.wrap ((i : Int) + 1) = ((i + 1 : Nat) : Int) := xCP _ (by omega);have hn : nth gs (0 : Int) ((i : Int)).toNat = nth gs (0 : Int) i := rfl;rw [xCA];refine xAb (decide_eq_true (by omega)) ?_;refine xAc (y := ((e, (got, (f, (i : Int)))), (g02, (x1, (x2, (x3, (x4, (x5, (x6, (gs, (acc ++ [bs (wdG (nth gs (0 : Int) i))], (y1, (y2, (y3, (y4, y5))))))))))))))) ?_ ?_
  ·refine xAb (by simp [inB]; omega) ?_;rw [hn];rcases hat with h1 | h1 | h1
   ·rw [h1];exact xAb rfl (xAb hlk rfl)
   ·rw [h1];exact xAo rfl (xAb rfl (xAb hlk rfl))
   ·rw [h1];exact xAo rfl (xAo rfl (xAb hlk rfl))
  ·rw [hd, hw];exact ih
end
end
section
open Go.RowKit Go.Proofs Go.Lib M3
theorem okG_of {t : M3.Tr} {sls : List Tfr} {gs : List Int} (h : F2 (GR t) sls gs) (hl : sls.length <= 200) : okG gs := by
 have e := h.len;refine ⟨fun g hg => ?_, by omega⟩;obtain ⟨i, hi, rfl⟩ := List.getElem_of_mem hg;rcases h.get i (by omega) hi with k | k | k
 ·exact .inl k.1
 ·exact .inr (.inl k.1)
 ·exact .inr (.inr k.1)
theorem lot_ok (F : Nat) (c m : Int) (b : Tb) (hc : 0 <= c /\ c <= 1000) (hm : 1 <= m /\ m <= 1000000) (h0 : okR b.1 100000000) (h1 : okR b.2.1 100000000) (h2 : okR b.2.2 100000000) : xFa F (c, (m, (b, 0))) = some true := by
 have wi : ∀ n a z : Int, a <= n -> n <= z -> xDt F n a z = some true := fun n a z k1 k2 => by
  unfold xDt;rw [decide_eq_true (show n >= a from k1), decide_eq_true k2]; rfl
 have rg : ∀ r : M3.Tr, okR r 100000000 -> xEk F r = some false := fun r k => by
  unfold xEk xFZ;rw [decide_eq_true k.1, decide_eq_true k.2.1, decide_eq_true k.2.2]; rfl
 unfold xFa;refine xAc (wi c 0 1000 hc.1 hc.2) (xAb rfl ?_);refine xAc (wi m 1 1000000 hm.1 hm.2) (xAb rfl ?_);have ab : xCO F b = some true := by
  unfold xCO;refine xAc (rg b.1 h0) (xAo rfl ?_);refine xAc (rg b.2.1 h1) (xAo rfl ?_);exact xAc (rg b.2.2 h2) (xAo rfl rfl)
 refine xAc ab (xAb rfl ?_);exact xAc (wi 0 0 1000000 (by decide) (by decide)) rfl
theorem chk_nil (n : Nat) (M : Tfr) (hm : 0 <= M.1 /\ M.1 <= 1000000000) (hb : okB M.2 1000000000000) : xAJ (n + 1) M [] = some 0 := by
 unfold xAJ;refine xAc (xN6 (n + 1) M) ?_;rw [decide_eq_true (show (0 <= M.1 /\ M.1 <= 1000000000) /\ okB M.2 1000000000000 from ⟨hm, hb⟩)];rfl
abbrev lawT := Bool × (Ta0 × (Ta1 × (List Tig × (Ta3 × Ta4))))
def xDs (o : Option lawT) : Prop := ∃ x, o = some (true, x)
theorem jdg_str (t : M3.Tr) : (ByteArray.mk (Array.mk (106 :: (117 :: (100 :: (103 :: (101 :: (32 :: (75 :: (49 :: (32 :: (48 :: (32 :: []))))))))))))) ++ bs (rgT t) = bs (xAi 32 (jdgW t)) := by
 show bs [106, 117, 100, 103, 101, 32, 75, 49, 32, 48, 32] ++ bs (rgT t) = _;rw [xAk];congr 1
theorem lot_str (c m : Int) (b : Tb) : ((((((ByteArray.mk (Array.mk (108 :: (111 :: (116 :: (32 :: [])))))) ++ bs (itoa c)) ++ B_2) ++ bs (itoa m)) ++ B_2) ++ bs (bdT b)) ++ (ByteArray.mk (Array.mk (32 :: (48 :: [])))) = bs (xAi 32 (xTl c m b)) := by
 have e0 : itoa 0 = [48] := by unfold itoa; rw [if_neg (by omega)]; rw [decDigits]; rfl
 show (((((bs [108, 111, 116, 32] ++ bs (itoa c)) ++ bs [32]) ++ bs (itoa m)) ++ bs [32]) ++ bs (bdT b)) ++ bs [32, 48] = _;rw [xAk, xAk, xAk, xAk, xAk, xAk];congr 1;simp [xAi, xTl, cLot, e0]
theorem chg_str (c : Int) : (ByteArray.mk (Array.mk (99 :: (104 :: (97 :: (114 :: (103 :: (101 :: (32 :: (75 :: (49 :: (32 :: (49 :: (58 :: [])))))))))))))) ++ bs (itoa c) = bs (xAi 32 (xZ9 c)) := by
 have e1 : itoa 1 = [49] := by unfold itoa; rw [if_neg (by omega)]; rw [decDigits]; rfl
 show bs [99, 104, 97, 114, 103, 101, 32, 75, 49, 32, 49, 58] ++ bs (itoa c) = _;rw [xAk];congr 1;simp [xAi, xZ9, xFj, cK1, e1]
theorem xPa (s : ByteArray) : (ByteArray.toList.loop s 0 [] == ByteArray.toList.loop s 0 []) = true := by simp
theorem xVd (n : Nat) (hF : 2000 < n + 5) (s : sLu) (h0 : 0 <= s.1 /\ s.1 <= 255) (h1 : 0 <= s.2.1 /\ s.2.1 <= 65535) (u0 : 0 <= s.2.2.1.1 /\ s.2.2.1.1 <= 255) (u1 : 0 <= s.2.2.1.2.1 /\ s.2.2.1.2.1 <= 255) (u2 : 0 <= s.2.2.1.2.2 /\ s.2.2.1.2.2 <= 255) (v0 : 0 <= s.2.2.2.1.1 /\ s.2.2.2.1.1 <= 255) (v1 : 0 <= s.2.2.2.1.2.1 /\ s.2.2.2.1.2.1 <= 255) (v2 : 0 <= s.2.2.2.1.2.2 /\ s.2.2.2.1.2.2 <= 255) (l : List Tst) : xDs (xLD (n + 5) s l [] [] [] [] []) := by
 obtain ⟨sc, sm, ⟨x0, x1, x2⟩, ⟨y0, y1, y2⟩, t⟩ := s;simp only at h0 h1 u0 u1 u2 v0 v1 v2;obtain ⟨c, hc⟩ : ∃ c, c = 1 + sc := ⟨_, rfl⟩;obtain ⟨m, hm⟩ : ∃ m, m = 1 + sm := ⟨_, rfl⟩;obtain ⟨z0, hz0⟩ : ∃ z, z = x0 + y0 := ⟨_, rfl⟩;obtain ⟨z1, hz1⟩ : ∃ z, z = x1 + y1 := ⟨_, rfl⟩;obtain ⟨z2, hz2⟩ : ∃ z, z = x2 + y2 := ⟨_, rfl⟩;have ec : jI.wrap ((1 : Int) + jI.wrap sc) = c := by rw [xCP sc (by omega), xCP _ (by omega), hc]
 have em : jI.wrap ((1 : Int) + jI.wrap sm) = m := by rw [xCP sm (by omega), xCP _ (by omega), hm]
 have e0 : jI.wrap (x0 + jI.wrap y0) = z0 := by rw [xCP y0 (by omega), xCP _ (by omega), hz0]
 have e1 : jI.wrap (x1 + jI.wrap y1) = z1 := by rw [xCP y1 (by omega), xCP _ (by omega), hz1]
 have e2 : jI.wrap (x2 + jI.wrap y2) = z2 := by rw [xCP y2 (by omega), xCP _ (by omega), hz2]
 have f0 := xCP x0 (by omega);have f1 := xCP x1 (by omega);have f2 := xCP x2 (by omega);have bnd : ∀ z : Int, 0 <= z -> z <= 70000 -> 0 <= c * z /\ c * z <= 18000000 := fun z k1 k2 => by
  have a := Int.mul_nonneg (show 0 <= c by omega) k1;have b : c * z <= 256 * z := Int.mul_le_mul_of_nonneg_right (by omega) k1;omega
 have ee : ∀ z : Int, 0 <= z -> z <= 70000 -> jI.wrap (c * z) = c * z := fun z k1 k2 => xCP _ (by have := bnd z k1 k2; omega);have pe : ∀ z : Int, 0 <= z -> z <= 70000 -> pr c z = c * z := fun z k1 k2 => pr_eq (by have := bnd z k1 k2; omega);obtain ⟨b, hb⟩ : ∃ b : Tb, b = ((x0, z0), ((x1, z1), (x2, z2))) := ⟨_, rfl⟩;have hM : prB c m b = (c * m, ((c * x0, c * z0), ((c * x1, c * z1), (c * x2, c * z2)))) := by
  rw [hb];unfold prB;rw [pe m (by omega) (by omega), pe x0 (by omega) (by omega), pe z0 (by omega) (by omega), pe x1 (by omega) (by omega), pe z1 (by omega) (by omega), pe x2 (by omega) (by omega), pe z2 (by omega) (by omega)]
 have bm := bnd m (by omega) (by omega);have hcN : Nm c := ⟨by omega, by omega⟩;have hmN : Nm m := ⟨by omega, by omega⟩;have hbN : NmB b := by rw [hb]; exact ⟨⟨by show _ < x0; omega, by show x0 < _; omega⟩, ⟨by show _ < z0; omega, by show z0 < _; omega⟩, ⟨by show _ < x1; omega, by show x1 < _; omega⟩, ⟨by show _ < z1; omega, by show z1 < _; omega⟩, ⟨by show _ < x2; omega, by show x2 < _; omega⟩, ⟨by show _ < z2; omega, by show z2 < _; omega⟩⟩
 have lc := xA1 c hcN;have lm := xA1 m hmN;have lb := xGN b hbN;unfold xLD;simp only [ec, em, e0, e1, e2, f0, f1, f2, ee m (by omega) (by omega), ee x0 (by omega) (by omega), ee z0 (by omega) (by omega), ee x1 (by omega) (by omega), ee z1 (by omega) (by omega), ee x2 (by omega) (by omega), ee z2 (by omega) (by omega)];by_cases hlen : (l.length : Int) - 0 > 20
 ·exact xDT (Q := xDs) (decide_eq_true hlen) ⟨_, rfl⟩
 refine xCM (Q := xDs) (decide_eq_false hlen) ?_;have hl : l.length <= 20 := by omega
 obtain ⟨cc, hs1, hs2⟩ := xQz (n + 5) (t, ((0, 0), (0, 0)));refine obQ (Q := xDs) hs1 ?_
 cases cc with
 | false => exact ⟨_, rfl⟩
 | true =>
 have ht1 : Nm t.1 := xNc (hs2 rfl).1;have ht2 : Nm t.2 := xNc (hs2 rfl).2.1;refine xCM (Q := xDs) rfl ?_;refine obQ (Q := xDs) (xC3 (n + 5) c hcN) ?_;refine xDT (Q := xDs) (decide_eq_true (by rw [xAh]; omega)) ?_;refine xDT (Q := xDs) (decide_eq_true (by show (bs [108, 111, 116, 32] ++ bs _).size + 1 <= 1000000; rw [xAk, xAh]; simp; omega)) ?_;refine obQ (Q := xDs) (xC3 (n + 5) m hmN) ?_;refine xDT (Q := xDs) (decide_eq_true (by show ((bs [108, 111, 116, 32] ++ bs _) ++ bs [32]).size + _ <= 1000000; rw [xAk, xAk, xAh, xAh]; simp; omega)) ?_;refine xDT (Q := xDs) (decide_eq_true (by show (((bs [108, 111, 116, 32] ++ bs _) ++ bs [32]) ++ bs _).size + 1 <= 1000000; rw [xAk, xAk, xAk, xAh]; simp; omega)) ?_;rw [<- hb];refine obQ (Q := xDs) (xGf (n + 5) b hbN) ?_;refine xDT (Q := xDs) (decide_eq_true (by show ((((bs [108, 111, 116, 32] ++ bs _) ++ bs [32]) ++ bs _) ++ bs [32]).size + _ <= 1000000; rw [xAk, xAk, xAk, xAk, xAh, xAh]; simp; omega)) ?_;refine xDT (Q := xDs) (decide_eq_true (by show (((((bs [108, 111, 116, 32] ++ bs _) ++ bs [32]) ++ bs _) ++ bs [32]) ++ bs _).size + 2 <= 1000000; rw [xAk, xAk, xAk, xAk, xAk, xAh]; simp; omega)) ?_;rw [lot_str];have hlot := lot_ok (n + 5) c m b (by omega) (by omega) (by rw [hb]; exact ⟨by show 0 <= x0; omega, by show x0 <= z0; omega, by show z0 <= _; omega⟩) (by rw [hb]; exact ⟨by show 0 <= x1; omega, by show x1 <= z1; omega, by show z1 <= _; omega⟩) (by rw [hb]; exact ⟨by show 0 <= x2; omega, by show x2 <= z2; omega, by show z2 <= _; omega⟩);refine obQ (Q := xDs) (xVA (n + 5) c m b hcN hmN hbN hlot (by omega)) ?_;refine xCM (Q := xDs) rfl ?_;refine obQ (Q := xDs) (xC3 (n + 5) c hcN) ?_;refine xDT (Q := xDs) (decide_eq_true (by rw [xAh]; omega)) ?_;rw [chg_str];obtain ⟨q, w0, w1, hch⟩ := xVD n c m b (by omega) hcN (by rw [pe m (by omega) (by omega)]; omega) (by
  rw [hb];refine ⟨?_, ?_, ?_⟩
  ·show pr c z0 <= _; rw [pe z0 (by omega) (by omega)]; have := bnd z0 (by omega) (by omega); omega
  ·show pr c z1 <= _; rw [pe z1 (by omega) (by omega)]; have := bnd z1 (by omega) (by omega); omega
  ·show pr c z2 <= _; rw [pe z2 (by omega) (by omega)]; have := bnd z2 (by omega) (by omega); omega)
 refine obQ (Q := xDs) hch ?_;refine xCM (Q := xDs) rfl ?_;have hcm : Nm (c * m) := ⟨by omega, by omega⟩;refine obQ (Q := xDs) (xC3 (n + 5) (c * m) hcm) ?_;refine xCM (Q := xDs) (by rw [pe m (by omega) (by omega), xPa]; rfl) ?_;rw [<- hM];have hMm : 0 <= (prB c m b).1 /\ (prB c m b).1 <= 1000000000 := by rw [hM]; exact ⟨bm.1, by show c * m <= _; omega⟩
 have hMb : okB (prB c m b).2 1000000000000 := by
  have q0 := bnd x0 (by omega) (by omega);have q1 := bnd x1 (by omega) (by omega);have q2 := bnd x2 (by omega) (by omega);have r0 := bnd z0 (by omega) (by omega);have r1 := bnd z1 (by omega) (by omega);have r2 := bnd z2 (by omega) (by omega);have l0 : c * x0 <= c * z0 := Int.mul_le_mul_of_nonneg_left (by omega) (by omega);have l1 : c * x1 <= c * z1 := Int.mul_le_mul_of_nonneg_left (by omega) (by omega);have l2 : c * x2 <= c * z2 := Int.mul_le_mul_of_nonneg_left (by omega) (by omega);rw [hM];exact ⟨⟨q0.1, l0, by show c * z0 <= _; omega⟩, ⟨q1.1, l1, by show c * z1 <= _; omega⟩, ⟨q2.1, l2, by show c * z2 <= _; omega⟩⟩
 have inv0 : InvM (n + 5) (prB c m b) [] [] [] 0 0 0 := ⟨rfl, rfl, rfl, rfl, chk_nil (n + 4) _ hMm hMb, fun y hy => (by cases hy), Nat.le_refl _⟩;have hL0 := lawL0 (n + 5) hF l hl (sc, (sm, ((x0, (x1, x2)), ((y0, (y1, y2)), t)))) (prB c m b) 1 l.length (n + 5) 0 w0 w1 [] [] 0 0 [] q [] [(1, 1)] (by omega) (by omega) inv0;rcases hL0 with ⟨x, hx⟩ | ⟨a0, a1, a3, a4, sr, p, steps, g, wf, lots, hx, inv⟩
 ·exact obQ (Q := xDs) hx ⟨_, rfl⟩
 refine obQ (Q := xDs) hx ?_;have hsl := inv.len;refine obQ (Q := xDs) (xGj (n + 5) steps (by omega)) ?_;obtain ⟨e', he1, he2⟩ := xVh (n + 5) hF (prB c m b) steps inv.kd;have he0 : e' = 0 := Option.some.inj (he1.symm.trans inv.chk);obtain ⟨k1, k2, k3, k4⟩ := he2 he0;obtain ⟨R, sls, hp, hR, hn, hok⟩ := xPj (n + 5) hF (prB c m b) steps inv.chk k1 k2 k3 k4;have hfl := xOe steps;refine obQ (Q := xDs) hp ?_;refine xCM (Q := xDs) rfl ?_;refine obQ (Q := xDs) (lawL1 (n + 5) l (sc, (sm, ((x0, (x1, x2)), ((y0, (y1, y2)), t)))) (prB c m b) 1 steps R sls a0 a1 a3 a4 sr p g wf lots l.length hl inv hp hn hok sls.length (n + 5) 0 (by omega) (by omega)) ?_;have lt := xBm t ht1 ht2;refine obQ (Q := xDs) (xCG (n + 5) t ht1 ht2) ?_;refine xDT (Q := xDs) (decide_eq_true (by rw [xAh]; omega)) ?_;rw [jdg_str];have hjg : ∃ (e : Int) (gs : List Int), xBG (n + 5) (prB c m b) t steps = some (e, gs) /\ okG gs := by
  rcases xZz (n + 5) hF (prB c m b) steps hp (by omega) (fun f hf => by
   obtain ⟨i, hi, rfl⟩ := List.getElem_of_mem hf;have hnt : nth sls zF i = sls[i] := by unfold nth; rw [List.getD_eq_getElem?_getD, List.getElem?_eq_getElem hi]; rfl
   obtain ⟨j1, j2, _, _⟩ := hok i hi;rw [hnt] at j1 j2;exact ⟨j1, j2.1, j2.2.1, Int.le_trans j2.2.2 (by decide)⟩) t with ⟨e, h1, _⟩ | ⟨_, gs, h1, h2⟩
  ·exact ⟨e, [], h1, ⟨fun g hg => (by cases hg), Nat.zero_le _⟩⟩
  ·exact ⟨0, gs, h1, okG_of h2 (by omega)⟩
 obtain ⟨e, gs, hj, hG⟩ := hjg;have hgl := hG.2;refine obQ (Q := xDs) (xVB (n + 5) (un7 g) lots wf a0 a1 a3 a4 (prB c m b) sr 1 p hF t ht1 ht2 inv.lv3 (by rw [inv.rw3]; exact hj) hG) ?_;refine obQ (Q := xDs) (xGj (n + 5) steps (by omega)) ?_;refine obQ (Q := xDs) hj ?_;refine obQ (Q := xDs) (lawL2 (n + 5) e e (if e = 0 then bs (xAi 32 (gs.map wdG)) else bs []) gs hG l a0 a1 [ig (prB c m b) sr 1 p] a3 a4 R g [(bs cK1, 1)] wf sls lots gs.length (n + 5) 0 [] (by omega) (by omega) (Nat.le_refl _)) ?_;have hmm : (([] : List ByteArray) ++ (gs.drop 0).map (fun g => bs (wdG g))) = (gs.map wdG).map bs := by simp
 rw [hmm];have hjn := xL8 (n + 5) 32 (gs.map wdG) (by simp; omega) (by have := xJg 32 gs; omega);refine obQ (Q := xDs) (y := (false, (l, (a0, (a1, ([ig (prB c m b) sr 1 p], (a3, (a4, (R, (g, ([(bs cK1, 1)], (wf, (sls, lots))))))))))))) ?_ ?_
 ·refine xAo (by simp) ?_;by_cases he : e = 0
  ·subst he;refine xAb rfl ?_;refine xAc hjn ?_;rw [if_pos rfl];show some ((!(ByteArray.toList.loop (bs (xAi 32 (gs.map wdG))) 0 [] == ByteArray.toList.loop (bs (xAi 32 (gs.map wdG))) 0 [])), _) = _;rw [xPa]; rfl
  ·exact xAo (by simpa using he) rfl
 refine xCM (Q := xDs) rfl ?_;have hend := xVC (n + 5) (un7 g) lots wf a0 a1 a3 a4 (prB c m b) sr 1 p inv.lv3 (R := (R, 0)) (sls := sls) (by rw [inv.rw3]; exact hp) (by show _ <= R.1 /\ R.1 <= _; omega);refine obQ (Q := xDs) hend ?_;refine xDT (Q := xDs) rfl ?_;refine obQ (Q := xDs) (xC3 (n + 5) R.1 ⟨by omega, by omega⟩) ?_;refine xDT (Q := xDs) (by show (ByteArray.toList.loop (bs (itoa R.1)) 0 [] == ByteArray.toList.loop (bs (itoa R.1)) 0 []) = true; exact xPa _) ?_;exact ⟨_, rfl⟩
end
end Go.Proofs.YtnomnijhlbalaaaGreatDoor
