/- A part of the proof of the theorem of the last file. No condition. By an AI agent. -/
import Derived.Test.YtnomnijhlbalaaaGreatDoorWV7m
set_option maxRecDepth 100000
set_option maxHeartbeats 4000000
namespace Go.Proofs.YtnomnijhlbalaaaGreatDoor
section
open Go.RowKit U8
namespace M3
def SU (t : Tr) (f : Tfr) : Prop := (t.1 * f.1 <= f.2.1.1 * 1000000 /\ f.2.1.1 * 1000000 <= t.2 * f.1) /\ (t.1 * f.1 <= f.2.1.2 * 1000000 /\ f.2.1.2 * 1000000 <= t.2 * f.1)
def GR (t : Tr) (f : Tfr) (g : Int) : Prop := (g = 1 /\ SU t f) \/ (g = 2 /\ ¬ SU t f /\ ∃ n, f.2.1.1 <= n /\ n <= f.2.1.2 /\ t.1 * f.1 <= n * 1000000 /\ n * 1000000 <= t.2 * f.1) \/ (g = 3 /\ ¬ SU t f)
section
variable (F : Nat) (hF : 2000 < F)
include hF
theorem jdgL (sls : List Tfr) (hl : sls.length <= 200) (hs : ∀ f, f ∈ sls -> (1 <= f.1 /\ f.1 <= 1000000000) /\ 0 <= f.2.1.1 /\ f.2.1.1 <= f.2.1.2 /\ f.2.1.2 <= 1000000000000000) (t : Tr) (ht : okR t 1000000000000) (l : List Tst) : ∀ (j k i : Nat) (out : List Int), i + j = sls.length -> j < k -> out.length <= i -> ∃ gs, xBT F k ((sls.length - 0) : Int) (i : Int) l t out sls = some (l, out ++ gs) /\ F2 (GR t) (sls.drop i) gs
 | j, 0, _, _, _, h, _ => by omega
 | 0, k + 1, i, out, h, _, _ => by
  simp only [xBT];rw [xAH (show ¬ (i : Int) < (sls.length - 0 : Int) by omega), List.drop_eq_nil_of_le (show sls.length <= i by omega)];exact ⟨[], by rw [List.append_nil]; rfl, F2.nil⟩
 | j + 1, k + 1, i, out, h, hj, ho => by
  have hi : i < sls.length := by omega
  rw [xCZ hi zF];simp only [xBT];rw [xAQ (show (i : Int) < (sls.length - 0 : Int) by omega), show inB (i : Int) (sls.length - 0) = true from xDZ hi, Int.toNat_natCast];have hx := hs _ (nth_in hi zF);generalize nth sls zF i = f at hx ⊢;obtain ⟨hm, h1, h2, h3⟩ := hx;obtain ⟨t1, t2, t3⟩ := id ht;have hlen : ∀ c : Int, (xA8 (out.length - 0) (c :: []).length) = true := by
   intro c;show xA8 _ _ = true;unfold xA8;rw [xAQ (by simp only [List.length_cons, List.length_nil]; omega)]
  have fin : ∀ g : Int, GR t f g -> ∃ gs, xBT F k ((sls.length - 0) : Int) (jI.wrap ((i : Int) + 1)) l t (out ++ (g :: [])) sls = some (l, out ++ gs) /\ F2 (GR t) (f :: sls.drop (i + 1)) gs := by
   intro g hg;rw [wI i hi hl];obtain ⟨gs, e1, e2⟩ := jdgL sls hl hs t ht l j k (i + 1) (out ++ (g :: [])) (by omega) (by omega) (by simp only [List.length_append, List.length_cons, List.length_nil]; omega);rw [List.append_assoc] at e1;exact ⟨g :: gs, e1, F2.cons hg e2⟩
  have tail : ∀ (g : Int) (X : Option ((Int × (Int × Int)) × (List Tst × (Tr × (List Int × List Tfr))))), GR t f g -> X = some ((g, (((sls.length - 0) : Int), (i : Int))), (l, (t, (out, sls)))) -> ∃ gs, ob X (fun s2 => (bif (xA8 (s2.2.2.2.1.length - 0) (s2.1.1 :: []).length) then (xBT F k s2.1.2.1 (jI.wrap (s2.1.2.2 + (1 : Int))) s2.2.1 s2.2.2.1 (s2.2.2.2.1 ++ (s2.1.1 :: [])) s2.2.2.2.2) else none)) = some (l, out ++ gs) /\ F2 (GR t) (f :: sls.drop (i + 1)) gs := by
   intro g X hg hX;obtain ⟨gs, e1, e2⟩ := fin g hg;refine ⟨gs, xAc hX ?_, e2⟩;rw [hlen, cond_true];exact e1
  rw [cond_true];obtain ⟨b, e3, e4⟩ := some_eq F hF (c := f.2.1) (t := t) (m := f.1) ⟨h1, h2, h3⟩ hm ht;have m1 := xQ0 F (c := f.2.1.1) (m := f.1) (t := t) ⟨by omega, by omega⟩ ⟨by omega, by omega⟩ ⟨by omega, by omega⟩ ⟨by omega, by omega⟩;have m2 := xQ0 F (c := f.2.1.2) (m := f.1) (t := t) ⟨by omega, by omega⟩ ⟨by omega, by omega⟩ ⟨by omega, by omega⟩ ⟨by omega, by omega⟩;by_cases q : SU t f
  ·refine tail 1 _ (Or.inl ⟨rfl, q⟩) ?_;rw [xAQ q.1] at m1;rw [xAQ q.2] at m2;refine xAc (y := ((((sls.length - 0) : Int), ((i : Int), true)), (l, (t, (out, (f, (f.2.1, sls))))))) (xAc m1 ?_) ?_
   ·rw [cond_true];exact xAc m2 rfl
   ·rfl
  ·refine tail (bif b then 2 else 3) _ ?_ ?_
   ·cases b with
    | true => exact Or.inr (Or.inl ⟨rfl, q, e4 rfl⟩)
    | false => exact Or.inr (Or.inr ⟨rfl, q⟩)
   ·refine xAc (y := ((((sls.length - 0) : Int), ((i : Int), false)), (l, (t, (out, (f, (f.2.1, sls))))))) ?_ ?_
    ·refine xAc m1 ?_;by_cases q1 : t.1 * f.1 <= f.2.1.1 * 1000000 /\ f.2.1.1 * 1000000 <= t.2 * f.1
     ·rw [xAQ q1, cond_true];refine xAc m2 ?_;rw [xAH (fun h => q ⟨q1, h⟩)]
     ·rw [xAH q1, cond_false]
    ·dsimp only;rw [cond_false];refine xAc e3 ?_;cases b <;> rfl
theorem xZz (m : Tfr) (l : List Tst) {R : Int × T_2} {sls : List Tfr} (hp : xAX F m l = some ((R, 0), sls)) (hl : sls.length <= 200) (hs : ∀ f, f ∈ sls -> (1 <= f.1 /\ f.1 <= 1000000000) /\ 0 <= f.2.1.1 /\ f.2.1.1 <= f.2.1.2 /\ f.2.1.2 <= 1000000000000000) (t : Tr) : (∃ e, xBG F m t l = some (e, []) /\ e ≠ 0) \/ okR t 1000000000000 /\ ∃ gs, xBG F m t l = some (0, gs) /\ F2 (GR t) sls gs := by
 unfold xBG;by_cases ht : okR t 1000000000000
 ·right;obtain ⟨gs, e1, e2⟩ := jdgL F hF sls hl hs t ht l sls.length F 0 [] (by omega) (by omega) (Nat.le_refl _);refine ⟨ht, gs, ?_, e2⟩;refine xAc hp ?_;rw [show ((0 : Int) != 0) = false from rfl, cond_false, xV8, xAQ ht, xAd, Bool.not_true, cond_false];exact xAc e1 rfl
 ·left;refine ⟨2, xAc hp ?_, by decide⟩;rw [show ((0 : Int) != 0) = false from rfl, cond_false, xV8, xAH ht, xAd, Bool.not_false, cond_true]
end
end M3
end
section
open Go.RowKit Go.Proofs Go.Lib M3
theorem xRg (c : UInt8) : ∀ l : List (List UInt8), [c].intercalate l = xAi c l
 | [] => rfl
 | [x] => by simp [List.intercalate, xAi]
 | x :: y :: l => by
  have ih := xRg c (y :: l);rw [xAi, <- ih];simp [List.intercalate]
theorem xZF (c : UInt8) (l : List (List UInt8)) : xPA (l.map bs) ⟨#[c]⟩ = xAi c l := by
 rw [<- xRg];show Lib.join ((l.map bs).map (fun x => x.data.toList)) [c] = _;rw [List.map_map];have : ((fun x : ByteArray => x.data.toList) ∘ bs) = id := rfl;rw [this, List.map_id];rfl
theorem xL8 (F : Nat) (c : UInt8) (l : List (List UInt8)) (h1 : l.length <= 1000000) (h2 : (xAi c l).length <= 1000000) : xDR F ⟨#[c]⟩ (l.map bs) = some (bs (xAi c l)) := by
 unfold xDR;rw [xZF];rw [show (decide ((l.map bs).length <= 1000000) && decide ((xAi c l).length <= 140737488355328)) = true from by simp; omega, cond_true]
theorem xCW (F : Nat) (n : Int) (h : -9223372036854775808 <= n /\ n <= 9223372036854775807) : xA6 F n = some (bs (itoa n)) := by
 unfold xA6;rw [show (decide (-9223372036854775808 <= n) && decide (n <= 9223372036854775807)) = true from by simp; omega, cond_true]
def cGood : List UInt8 := [103, 111, 111, 100]
def slcW (i : Nat) : List (List UInt8) := [xHs, cK1, itoa (i : Int)]
def xYK (f : Tfr) : List (List UInt8) := [itoa f.1, rgT f.2.1, rgT f.2.2.1, rgT f.2.2.2, cGood]
theorem xUg (i : Nat) (h : i <= 1000) : Wds (slcW i) /\ (xAi 32 (slcW i)).length <= 200 := by
 have h1 := xA1 i ⟨by omega, by omega⟩;have hl : (xAi 32 (slcW i)).length <= 200 := by simp [xAi, slcW, xHs, cK1]; omega
 refine ⟨⟨fun x hx => ?_, Nat.le_trans hl (by decide)⟩, hl⟩;simp only [slcW, List.mem_cons, List.not_mem_nil, or_false] at hx;rcases hx with rfl | rfl | rfl
 ·decide
 ·decide
 ·exact xB6 _ _ (by decide)
def endW : List (List UInt8) := [xXA, cK1]
theorem xWQ : Wds endW /\ (xAi 32 endW).length <= 200 := by
 refine ⟨⟨fun x hx => ?_, by decide⟩, by decide⟩;simp only [endW, List.mem_cons, List.not_mem_nil, or_false] at hx;rcases hx with rfl | rfl <;> decide
theorem xDQ {r : M3.Tr} (h : okC r) : Nm r.1 /\ Nm r.2 := by unfold okC at h; unfold Nm; omega
theorem xYJ {f : Tfr} (hm : 1 <= f.1 /\ f.1 <= 1000000000) (h0 : okC f.2.1) (h1 : okC f.2.2.1) (h2 : okC f.2.2.2) : (xAi 32 (xYK f)).length <= 200 := by
 have a := xA1 f.1 ⟨by omega, by omega⟩;have b := xBm f.2.1 (xDQ h0).1 (xDQ h0).2;have c := xBm f.2.2.1 (xDQ h1).1 (xDQ h1).2;have d := xBm f.2.2.2 (xDQ h2).1 (xDQ h2).2;simp [xAi, xYK, cGood]; omega
section
variable (F : Nat) (σ : yAm) (lots : Tlo) (wf : Tnm) (a0 : Ta0) (a1 : Ta1) (a3 : Ta3) (a4 : Ta4) (M : Tfr) (sr lr pr_ : Nat)
abbrev rsT (t : ByteArray) (e : Int) (σ : yAm) (lots : Tlo) (wf : Tnm) (a0 : Ta0) (a1 : Ta1) (g : Tig) (a3 : Ta3) (a4 : Ta4) : (ByteArray × Int) × (Tq7 × (Tlo × (Tnm × (Tnm × (Ta0 × (Ta1 × (List Tig × (Ta3 × Ta4)))))))) := ((t, e), (fl7 σ, (lots, ([(bs cK1, 1)], (wf, (a0, (a1, ([g], (a3, a4)))))))))
theorem yAd (r : M3.Tr) : bs (itoa r.1) ++ ByteArray.mk (Array.mk (46 :: (46 :: []))) ++ bs (itoa r.2) = bs (rgT r) := by
 show bs (itoa r.1) ++ bs [46, 46] ++ bs (itoa r.2) = _;rw [xAk, xAk]; rfl
theorem xSR (h3 : xA3 a3 sr = true) {R sls} (hp : xAX F M (rowAt a3 sr) = some (R, sls)) (hr : -9223372036854775808 <= R.1.1 /\ R.1.1 <= 9223372036854775807) :
  xFS F (bs (xAi 32 endW)) σ lots [(bs cK1, 1)] wf a0 a1 [ig M sr lr pr_] a3 a4 = some (rsT (bs (itoa R.1.1)) 0 σ lots wf a0 a1 (M, (sr, (lr, (2, (pr_, false))))) a3 a4) := by
 obtain ⟨hw, hlen⟩ := xWQ;unfold xFS gN gJ gK;refine xAo (decide_eq_false (by rw [xAh]; omega)) ?_;refine xAc (xSr F hw) ?_
 try simp only [Bool.not_true, Bool.not_false, cond_false, cond_true]
 refine xAc (y := rsT (bs (itoa R.1.1)) 0 σ lots wf a0 a1 (M, (sr, (lr, (2, (pr_, false))))) a3 a4) ?_ rfl;refine xAo rfl (xAb rfl (xAb rfl (xAb rfl (xAo rfl (xAb rfl (xAb rfl (xAb rfl (xAb rfl (xAb rfl (xAb rfl (xAb rfl (xAb rfl (xAb rfl ?_)))))))))))));refine xAb (by rw [Bool.and_true]; exact h3) ?_;refine xAc hp ?_;refine xAc (xCW F R.1.1 hr) ?_;rfl
theorem xNN (i : Nat) (hi : i < (rowAt a4 pr_).length) (hk : (rowAt a4 pr_).length <= 1000) (h3 : xA3 a3 sr = true) (h4 : xA3 a4 pr_ = true) (hpr : pr_ ≠ 0) (hg : ∀ j, j < (rowAt a4 pr_).length -> (rowAt a4 pr_)[j]? = some (false, (false, 31))) {R} {sls : List Tfr} (hp : xAX F M (rowAt a3 sr) = some (R, sls)) (hs : i < sls.length)
  (hm : 1 <= (nth sls zF i).1 /\ (nth sls zF i).1 <= 1000000000) (h_0 : okC (nth sls zF i).2.1) (h_1 : okC (nth sls zF i).2.2.1) (h_2 : okC (nth sls zF i).2.2.2) :
  xB4 F (bs (xAi 32 (slcW i))) σ lots [(bs cK1, 1)] wf a0 a1 [ig M sr lr pr_] a3 a4 = some (rsT (bs (xAi 32 (xYK (nth sls zF i)))) 0 σ lots wf a0 a1 (ig M sr lr pr_) a3 a4) := by
 obtain ⟨hw, hlen⟩ := xUg i (by omega);have nm0 := xDQ h_0;have nm1 := xDQ h_1;have nm2 := xDQ h_2;have l1 := xA1 (nth sls zF i).2.1.1 nm0.1;have l2 := xA1 (nth sls zF i).2.1.2 nm0.2;have l3 := xA1 (nth sls zF i).2.2.1.1 nm1.1;have l4 := xA1 (nth sls zF i).2.2.1.2 nm1.2;have l5 := xA1 (nth sls zF i).2.2.2.1 nm2.1;have l6 := xA1 (nth sls zF i).2.2.2.2 nm2.2;have hpart : nth (rowAt a4 pr_) (TC.dflt C_4) i = (false, (false, 31)) := by
  unfold nth;rw [List.getD_eq_getElem?_getD, hg i hi]; rfl
 have hbq : (!(Nat.beq pr_ 0)) = true := by cases pr_ with
  | zero => exact absurd rfl hpr
  | succ n => rfl
 have htn : ((i : Int)).toNat = i := rfl;unfold xB4 gN gK;refine xAo (decide_eq_false (by rw [xAh]; omega)) ?_;refine xAc (xKe F hw) ?_
 try simp only [Bool.not_true, Bool.not_false, cond_false, cond_true]
 refine xAc (xA4 F (i : Int) (by omega) (by omega)) ?_
 try simp only [Bool.not_true, Bool.not_false, cond_false, cond_true]
 refine xAc (y := rsT (bs (xAi 32 (xYK (nth sls zF i)))) 0 σ lots wf a0 a1 (ig M sr lr pr_) a3 a4) ?_ rfl;refine xAo rfl (xAo (decide_eq_false (by omega)) (xAb rfl (xAb rfl (xAb rfl (xAb h4 ?_)))));refine xAo (decide_eq_false (show ¬ (i : Int) >= ((rowAt a4 pr_).length : Nat) by omega)) ?_;refine xAb rfl (xAb rfl (xAb rfl ?_));refine xAb (show inB (i : Int) (rowAt a4 pr_).length = true by simp [inB]; omega) ?_;refine xAb rfl (xAb rfl (xAb rfl (xAb rfl (xAb rfl (xAb rfl ?_)))));refine xAb (by rw [Bool.and_true]; exact h3) ?_;refine xAc hp ?_;refine xAb (show inB (i : Int) (sls.length - 0) = true by simp [inB]; omega) ?_;refine xAc (xCW F (nth sls zF i).1 (by omega)) ?_;unfold Nm at nm0 nm1 nm2;refine xAc (xCW F (nth sls zF i).2.1.1 (by omega)) ?_;refine xAb (decide_eq_true (by rw [xAh]; omega)) ?_;refine xAc (xCW F (nth sls zF i).2.1.2 (by omega)) ?_;refine xAb (decide_eq_true (by rw [show B_3 = bs [46, 46] from rfl, xAk, xAh, xAh]; simp; omega)) ?_;refine xAc (xCW F (nth sls zF i).2.2.1.1 (by omega)) ?_;refine xAb (decide_eq_true (by rw [xAh]; omega)) ?_;refine xAc (xCW F (nth sls zF i).2.2.1.2 (by omega)) ?_;refine xAb (decide_eq_true (by rw [show B_3 = bs [46, 46] from rfl, xAk, xAh, xAh]; simp; omega)) ?_;refine xAc (xCW F (nth sls zF i).2.2.2.1 (by omega)) ?_;refine xAb (decide_eq_true (by rw [xAh]; omega)) ?_;refine xAc (xCW F (nth sls zF i).2.2.2.2 (by omega)) ?_;refine xAb (decide_eq_true (by rw [show B_3 = bs [46, 46] from rfl, xAk, xAh, xAh]; simp; omega)) ?_;refine xAb hbq (xAb (decide_eq_true hi) ?_);refine xAo (show (nth (rowAt a4 pr_) (TC.dflt C_4) i).2.1 = false by rw [hpart]) ?_;refine xAb hbq (xAb (decide_eq_true hi) ?_);refine xAo (show (nth (rowAt a4 pr_) (TC.dflt C_4) i).1 = false by rw [hpart]) ?_;rw [yAd (nth sls zF i).2.1, yAd (nth sls zF i).2.2.1, yAd (nth sls zF i).2.2.2];refine xAc (xL8 F 32 (xYK (nth sls zF i)) (by simp [xYK]) (Nat.le_trans (xYJ hm h_0 h_1 h_2) (by decide))) ?_;rfl
end
end
section
open Go.RowKit Go.Proofs Go.Lib M3
def xXz : List UInt8 := [115, 117, 114, 101, 108, 121]
def xOP : List UInt8 := [112, 111, 115, 115, 105, 98, 108, 121]
def cNever : List UInt8 := [110, 101, 118, 101, 114]
def wdG (g : Int) : List UInt8 := if g = 1 then xXz else if g = 2 then xOP else cNever
def okG (gs : List Int) : Prop := (∀ g ∈ gs, g = 1 \/ g = 2 \/ g = 3) /\ gs.length <= 200
theorem okG_at {gs : List Int} (h : okG gs) {i : Nat} (hi : i < gs.length) : nth gs (0 : Int) i = 1 \/ nth gs (0 : Int) i = 2 \/ nth gs (0 : Int) i = 3 := h.1 _ (by
 unfold nth;rw [List.getD_eq_getElem?_getD, List.getElem?_eq_getElem hi];exact List.getElem_mem hi)
abbrev wds4 : List ByteArray := [bs [], bs xXz, bs xOP, bs cNever]
theorem wds4_at {g : Int} (h : g = 1 \/ g = 2 \/ g = 3) : nth wds4 (bs []) g.toNat = bs (wdG g) /\ inB g 4 = true := by
 rcases h with rfl | rfl | rfl <;> exact ⟨rfl, rfl⟩
theorem jwL (F : Nat) (e : Int) (g1 g2 g3 g4 g5 g6 g7 g8 ar01 ar11 ar21 ar31 ar41) (gs : List Int) (hg : okG gs) : ∀ (j k i : Nat) (acc : List ByteArray), i + j = gs.length -> j < k -> acc.length <= i -> xCK F e ((gs.length - 0 : Int)) g1 g2 g3 g4 g5 g6 g7 g8 ar01 ar11 ar21 ar31 ar41 gs k (i : Int) acc = some (e, (g1, (g2, (g3, (g4, (g5, (g6, (g7, (g8, (ar01, (ar11, (ar21, (ar31, (ar41, acc ++ (gs.drop i).map (fun g => bs (wdG g))))))))))))))))
 | 0, k + 1, i, acc, h, _, _ => by
  have hi : i = gs.length := by omega
  rw [xCK];refine xAo (decide_eq_false (by omega)) ?_;rw [hi, List.drop_length];simp
 | j + 1, k + 1, i, acc, h, hk, ha => by
  have hi : i < gs.length := by omega
  have hl := hg.2;obtain ⟨w1, w2⟩ := wds4_at (okG_at hg hi);rw [xCK];refine xAb (decide_eq_true (by omega)) ?_;refine xAb (show inB (i : Int) (gs.length - 0) = true by simp [inB]; omega) ?_;refine xAb w2 ?_;refine xAb (show xA8 (acc.length - 0) 1 = true from decide_eq_true (by omega)) ?_;have w1' : nth (B_1 :: ((ByteArray.mk (Array.mk (115 :: (117 :: (114 :: (101 :: (108 :: (121 :: [])))))))) :: ((ByteArray.mk (Array.mk (112 :: (111 :: (115 :: (115 :: (105 :: (98 :: (108 :: (121 :: [])))))))))) :: ((ByteArray.mk (Array.mk (110 :: (101 :: (118 :: (101 :: (114 :: []))))))) :: [])))) B_1 (nth gs (0 : Int) (i : Int).toNat).toNat = bs (wdG (nth gs (0 : Int) i)) := w1;rw [w1', wI i hi (by omega), jwL F e g1 g2 g3 g4 g5 g6 g7 g8 ar01 ar11 ar21 ar31 ar41 gs hg j k (i + 1) _ (by omega) (by omega) (by simp; omega), xCZ hi (0 : Int)];simp
def jdgW (t : M3.Tr) : List (List UInt8) := [xEV, cK1, [48], rgT t]
theorem xV0 (t : M3.Tr) (h1 : Nm t.1) (h2 : Nm t.2) : Wds (jdgW t) /\ (xAi 32 (jdgW t)).length <= 200 := by
 have a := xBm t h1 h2;have hl : (xAi 32 (jdgW t)).length <= 200 := by simp [xAi, jdgW, xEV, cK1]; omega
 refine ⟨⟨fun x hx => ?_, Nat.le_trans hl (by decide)⟩, hl⟩;simp only [jdgW, List.mem_cons, List.not_mem_nil, or_false] at hx;rcases hx with rfl | rfl | rfl | rfl
 ·decide
 ·decide
 ·decide
 ·exact xUv _ _ (by decide)
theorem xTr (g : Int) : (wdG g).length <= 8 := by
 unfold wdG;split
 ·decide
 ·split
  ·decide
  ·decide
theorem xJg (c : UInt8) : ∀ l : List Int, (xAi c (l.map wdG)).length <= 9 * l.length
 | [] => by simp [xAi]
 | [x] => by have := xTr x; simp [xAi]; omega
 | x :: y :: l => by
  have ih := xJg c (y :: l);have := xTr x;simp only [List.map_cons, xAi, List.length_append, List.length_cons] at ih ⊢;omega
section
variable (F : Nat) (hF : 2000 < F) (σ : yAm) (lots : Tlo) (wf : Tnm) (a0 : Ta0) (a1 : Ta1) (a3 : Ta3) (a4 : Ta4) (M : Tfr) (sr lr pr_ : Nat)
include hF
theorem xVZ (t : M3.Tr) (h3 : xA3 a3 sr = true) {e : Int} {gs : List Int} (hj : xBG F M t (rowAt a3 sr) = some (e, gs)) (hg : okG gs) :
  xFW F σ lots [(bs cK1, 1)] wf zX [0] [t] [bs cK1] a0 a1 [ig M sr lr pr_] a3 a4 = some ((bs (xAi 32 (gs.map wdG)), e), (fl7 σ, (lots, ([(bs cK1, 1)], (wf, (zX2, (a0, (a1, ([ig M sr lr pr_], (a3, a4)))))))))) := by
 have hl := hg.2;unfold xFW;refine xAb rfl ?_;refine xAo rfl (xAb rfl (xAb rfl (xAb rfl (xAb rfl (xAb rfl (xAb rfl (xAb rfl (xAb rfl ?_))))))));refine xAb (by rw [Bool.and_true]; exact h3) ?_;refine xAc (show xEz F M 0 t (rowAt a3 sr) = some (e, gs) from hj) ?_;refine xAc (jwL F e _ _ _ _ _ _ _ _ _ _ _ _ _ gs hg gs.length F 0 [] (by omega) (by omega) (Nat.le_refl _)) ?_;have hm : (([] : List ByteArray) ++ (gs.drop 0).map (fun g => bs (wdG g))) = (gs.map wdG).map bs := by simp
 have hjn := xL8 F 32 (gs.map wdG) (by simp; omega) (by have := xJg 32 gs; omega);rw [hm];refine xAc hjn ?_;rfl
theorem xNQ (t : M3.Tr) (h1 : Nm t.1) (h2 : Nm t.2) (h3 : xA3 a3 sr = true) {e : Int} {gs : List Int} (hj : xBG F M t (rowAt a3 sr) = some (e, gs)) (hg : okG gs) :
  xB5 F (bs (xAi 32 (jdgW t))) σ lots [(bs cK1, 1)] wf a0 a1 [ig M sr lr pr_] a3 a4 = some (rsT (if e = 0 then bs (xAi 32 (gs.map wdG)) else bs []) e σ lots wf a0 a1 (ig M sr lr pr_) a3 a4) := by
 obtain ⟨hw, hlen⟩ := xV0 t h1 h2;unfold xB5;refine xAo (decide_eq_false (by rw [xAh]; omega)) ?_;refine xAc (xKg F hw) ?_
 try simp only [Bool.not_true, Bool.not_false, cond_false, cond_true]
 refine xAc (xAM F t h1 h2) ?_
 try simp only [Bool.not_true, Bool.not_false, cond_false, cond_true]
 refine xAc (xVZ F hF σ lots wf a0 a1 a3 a4 M sr lr pr_ t h3 hj hg) ?_;by_cases he : e = 0
 ·subst he; rfl
 ·rw [if_neg he];exact xAb (by simpa using he) rfl
end
end
section
open Go.RowKit Go.Proofs Go.Lib M3
theorem xC3 (F : Nat) (n : Int) (h : Nm n) : xCd F n = some (bs (itoa n)) := by
 unfold xCd;rw [show (decide (-1000000000000000 < n) && decide (n < 1000000000000000)) = true from by rw [decide_eq_true h.1, decide_eq_true h.2]; rfl, cond_true]
theorem xCG (F : Nat) (r : M3.Tr) (h1 : Nm r.1) (h2 : Nm r.2) : xBQ F r = some (bs (rgT r)) := by
 have a := xA1 r.1 h1;have b := xA1 r.2 h2;unfold xBQ;refine xAc (xC3 F r.1 h1) ?_;refine xAb (decide_eq_true (by rw [xAh]; omega)) ?_;refine xAc (xC3 F r.2 h2) ?_;refine xAb (decide_eq_true (by rw [show B_3 = bs [46, 46] from rfl, xAk, xAh, xAh]; simp; omega)) ?_;rw [yAd r]
theorem xGf (F : Nat) (b : Tb) (h : NmB b) : xBV F b = some (bs (bdT b)) := by
 have a := xBm b.1 h.1 h.2.1;have c := xBm b.2.1 h.2.2.1 h.2.2.2.1;have d := xBm b.2.2 h.2.2.2.2.1 h.2.2.2.2.2;unfold xBV;rw [show (ByteArray.mk (Array.mk (47 :: []))) = bs [47] from rfl];refine xAc (xCG F b.1 h.1 h.2.1) ?_;refine xAb (decide_eq_true (by rw [xAh]; omega)) ?_;refine xAc (xCG F b.2.1 h.2.2.1 h.2.2.2.1) ?_;refine xAb (decide_eq_true (by rw [xAk, xAh, xAh]; simp; omega)) ?_;refine xAb (decide_eq_true (by rw [xAk, xAk, xAh]; simp; omega)) ?_;refine xAc (xCG F b.2.2 h.2.2.2.2.1 h.2.2.2.2.2) ?_;refine xAb (decide_eq_true (by rw [xAk, xAk, xAk, xAh, xAh]; simp; omega)) ?_;rw [xAk, xAk, xAk, xAk];congr 2;simp [bdT]
def xNd (n : Int) : Prop := -1000000000000 <= n /\ n <= 1000000000000
theorem xQz (F : Nat) (b : Tb) : ∃ c, xGm F b = some c /\ (c = true -> xNd b.1.1 /\ xNd b.1.2 /\ xNd b.2.1.1 /\ xNd b.2.1.2 /\ xNd b.2.2.1 /\ xNd b.2.2.2) := by
 have key : ∀ (n : Int) (X : Option Bool) (P : Prop), (xNd n -> ∃ c, X = some c /\ (c = true -> P)) -> ∃ c, (bif decide (n < (-1000000000000 : Int)) then some false else (bif decide (n > (1000000000000 : Int)) then some false else X)) = some c /\ (c = true -> xNd n /\ P) := by
  intro n X P h;by_cases h1 : n < -1000000000000
  ·rw [decide_eq_true h1]; exact ⟨false, rfl, fun e => by cases e⟩
  ·by_cases h2 : n > 1000000000000
   ·rw [decide_eq_false h1, decide_eq_true h2]; exact ⟨false, rfl, fun e => by cases e⟩
   ·rw [decide_eq_false h1, decide_eq_false h2];have hn : xNd n := ⟨by omega, by omega⟩;obtain ⟨c, k1, k2⟩ := h hn;exact ⟨c, k1, fun e => ⟨hn, k2 e⟩⟩
 unfold xGm;refine key b.1.1 _ _ fun _ => key b.1.2 _ _ fun _ => key b.2.1.1 _ _ fun _ => key b.2.1.2 _ _ fun _ => key b.2.2.1 _ _ fun _ => ?_;obtain ⟨c, k1, k2⟩ := key b.2.2.2 (some true) True (fun _ => ⟨true, rfl, fun _ => trivial⟩);exact ⟨c, k1, fun e => (k2 e).1⟩
theorem xNc {n : Int} (h : xNd n) : Nm n := by unfold xNd at h; unfold Nm; omega
theorem smB_nm {b : Tb} (h : xNd b.1.1 /\ xNd b.1.2 /\ xNd b.2.1.1 /\ xNd b.2.1.2 /\ xNd b.2.2.1 /\ xNd b.2.2.2) : NmB b := ⟨xNc h.1, xNc h.2.1, xNc h.2.2.1, xNc h.2.2.2.1, xNc h.2.2.2.2.1, xNc h.2.2.2.2.2⟩
theorem xGj (F : Nat) (l : List Tst) (h : l.length <= 1000000) : xCE F l = some l := by
 unfold xCE;refine xAb (show xA8 0 l.length = true from decide_eq_true (by omega)) ?_;rw [List.nil_append]
abbrev inS (x : ByteArray) (σ : yAm) (lots : Tlo) (I wf : Tnm) (a0 : Ta0) (a1 : Ta1) (a2 : List Tig) (a3 : Ta3) (a4 : Ta4) : line_I.ty := (x, (σ, (lots, (I, (wf, (a0, (a1, (a2, (a3, a4)))))))))
theorem xBx {β : Type} {x y r : Option β} (h : x = none) (k : y = r) : orO x y = r := by rw [h]; exact k
theorem xEu {β : Type} {x y : Option β} {r : β} (h : x = some r) : orO x y = some r := by rw [h]; rfl
section
variable (F : Nat) (x : ByteArray) (hx : x.size <= 2000) (σ : yAm) (lots : Tlo) (I wf : Tnm) (a0 : Ta0) (a1 : Ta1) (a2 : List Tig) (a3 : Ta3) (a4 : Ta4)
include hx
theorem frz_no (h : xA0 F x = none) : xCs F x σ lots I wf a0 a1 a2 a3 a4 = none := by
 unfold xCs gN gJ gK;refine xAo (decide_eq_false (by omega)) ?_;rw [h]
theorem abs_no (h : xBe F x = none) : xCt F x σ lots I wf a0 a1 a2 a3 a4 = none := by
 unfold xCt gN gJ gK;refine xAo (decide_eq_false (by omega)) ?_;rw [h]
theorem xQ5 (h : xBd F x = none) : xDk F x σ lots I wf a0 a1 a2 a3 a4 = none := by
 unfold xDk;refine xAo (decide_eq_false (by omega)) ?_;rw [h]
theorem xXm (h : xAO F x = none) : xBN F x σ lots I wf a0 a1 a2 a3 a4 = none := by
 unfold xBN;refine xAo (decide_eq_false (by omega)) ?_;rw [h]
theorem slc_no (h : xBb F x = none) : xB4 F x σ lots I wf a0 a1 a2 a3 a4 = none := by
 unfold xB4 gN gK;refine xAo (decide_eq_false (by omega)) ?_;rw [h]
theorem jdg_no (h : xBw F x = none) : xB5 F x σ lots I wf a0 a1 a2 a3 a4 = none := by
 unfold xB5;refine xAo (decide_eq_false (by omega)) ?_;rw [h]
end
end
end Go.Proofs.YtnomnijhlbalaaaGreatDoor
