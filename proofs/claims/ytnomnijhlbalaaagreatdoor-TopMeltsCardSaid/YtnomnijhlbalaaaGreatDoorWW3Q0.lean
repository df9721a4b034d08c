/- A part of the proof of the theorem of the last file. No condition. By an AI agent. -/
import Derived.Test.YtnomnijhlbalaaaGreatDoorWTMb
set_option maxRecDepth 100000
set_option maxHeartbeats 4000000
namespace Go.Proofs.YtnomnijhlbalaaaGreatDoor
section
open Go.RowKit Go.Proofs Go.Lib M3
theorem xFR {α : Type} (l : List (Option (List α))) (x : List α) : xA3 (l ++ [some x]) (l.length + 1) = true := by simp [xA3]
theorem xFG {α : Type} (l : List (Option (List α))) (x : List α) : rowAt (l ++ [some x]) (l.length + 1) = x := by simp [rowAt]
theorem bothR {β : Type} {x y : Option β} {r : Option β} (h : x = r) (k : y = r) : both x y = r := by rw [h, k, xJY]
theorem xTG (F : Nat) (n : Nat) (h : n <= 1000000000) : xDv F (n : Int) = some () := by
 unfold xDv xA6;rw [show (decide (-9223372036854775808 <= (n : Int)) && decide ((n : Int) <= 9223372036854775807)) = true from by simp; omega, cond_true]
theorem xMt (F : Nat) (l : List Tst) (h : l.length <= 1000000) : xCh F l = some l := by
 rw [xDN, show xA8 0 l.length = true from decide_eq_true (by omega), cond_true]
def fl7 (s : Int × T_0) : Tq7 := (s.1, (s.2.1.1, (s.2.1.2, (s.2.2.1.1, (s.2.2.1.2, (s.2.2.2.1, s.2.2.2.2))))))
abbrev yAm := Int × T_0
def xTm (m : Int) (b : Tb) : List (List UInt8) := [xJV, cK1, itoa m, bdT b]
def xX5 (b : Tb) : List (List UInt8) := [xGL, cK1, bdT b]
def xTv (b : Tb) : List (List UInt8) := [xEj, cK1, bdT b]
theorem frzW_ok (m : Int) (b : Tb) (hm : Nm m) (hb : NmB b) : Wds (xTm m b) /\ (xAi 32 (xTm m b)).length <= 200 := by
 have h1 := xA1 m hm;have h4 := xGN b hb;have hl : (xAi 32 (xTm m b)).length <= 200 := by simp [xAi, xTm, xJV, cK1]; omega
 refine ⟨⟨fun x hx => ?_, Nat.le_trans hl (by decide)⟩, hl⟩;simp only [xTm, List.mem_cons, List.not_mem_nil, or_false] at hx;rcases hx with rfl | rfl | rfl | rfl
 ·decide
 ·decide
 ·exact xB6 _ _ (by decide)
 ·exact xR8 _ _ (by decide)
theorem xX4 (b : Tb) (hb : NmB b) : Wds (xX5 b) /\ (xAi 32 (xX5 b)).length <= 200 := by
 have h4 := xGN b hb;have hl : (xAi 32 (xX5 b)).length <= 200 := by simp [xAi, xX5, xGL, cK1]; omega
 refine ⟨⟨fun x hx => ?_, Nat.le_trans hl (by decide)⟩, hl⟩;simp only [xX5, List.mem_cons, List.not_mem_nil, or_false] at hx;rcases hx with rfl | rfl | rfl
 ·decide
 ·decide
 ·exact xR8 _ _ (by decide)
theorem xTu (b : Tb) (hb : NmB b) : Wds (xTv b) /\ (xAi 32 (xTv b)).length <= 200 := by
 have h4 := xGN b hb;have hl : (xAi 32 (xTv b)).length <= 200 := by simp [xAi, xTv, xEj, cK1]; omega
 refine ⟨⟨fun x hx => ?_, Nat.le_trans hl (by decide)⟩, hl⟩;simp only [xTv, List.mem_cons, List.not_mem_nil, or_false] at hx;rcases hx with rfl | rfl | rfl
 ·decide
 ·decide
 ·exact xR8 _ _ (by decide)
section
variable (F : Nat) (σ : yAm) (lots : Tlo) (wf : Tnm) (a0 : Ta0) (a1 : Ta1) (a3 : Ta3) (a4 : Ta4) (M : Tfr) (sr lr pr_ : Nat)
abbrev ig (M : Tfr) (sr lr p : Nat) : Tig := (M, (sr, (lr, (0, (p, false)))))
abbrev rsA (e : Int) (σ : yAm) (lots : Tlo) (wf : Tnm) (a0 : Ta0) (a1 : Ta1) (g : Tig) (a3 : Ta3) (a4 : Ta4) : Int × (Tq7 × (Tlo × (Tnm × (Tnm × (Ta0 × (Ta1 × (List Tig × (Ta3 × Ta4)))))))) := (e, (fl7 σ, (lots, ([(bs cK1, 1)], (wf, (a0, (a1, ([g], (a3, a4)))))))))
theorem xSS (b : Tb) (hb : NmB b) (h3 : xA3 a3 sr = true) (hl : (rowAt a3 sr).length <= 1000) {e : Int} (hc : xAJ F M (rowAt a3 sr ++ [(3, (0, b))]) = some e) :
  xCt F (bs (xAi 32 (xX5 b))) σ lots [(bs cK1, 1)] wf a0 a1 [ig M sr lr pr_] a3 a4 = some (if e = 0 then rsA 0 σ lots wf a0 a1 (ig M (a3.length + 1) lr pr_) (a3 ++ [some (rowAt a3 sr ++ [(3, (0, b))])]) a4 else rsA e σ lots wf a0 a1 (ig M sr lr pr_) a3 a4) := by
 obtain ⟨hw, hlen⟩ := xX4 b hb;have hcl := xMt F (rowAt a3 sr) (by omega);have hk : xA8 ((rowAt a3 sr).length - 0) 1 = true := decide_eq_true (by omega);unfold xCt gN gJ gK;refine xAo (decide_eq_false (by rw [xAh]; omega)) ?_;refine xAc (xHG F hw) ?_
 try simp only [Bool.not_true, Bool.not_false, cond_false, cond_true]
 refine xAc (xHS F b hb) ?_
 try simp only [Bool.not_true, Bool.not_false, cond_false, cond_true]
 refine xAo rfl ?_;refine xAb rfl ?_;refine xAc (xAM F b.1 hb.1 hb.2.1) ?_
 try simp only [Bool.not_true, Bool.not_false, cond_false, cond_true]
 refine xAb rfl ?_;refine xAc (xAM F b.2.1 hb.2.2.1 hb.2.2.2.1) ?_
 try simp only [Bool.not_true, Bool.not_false, cond_false, cond_true]
 refine xAb rfl ?_;refine xAc (xAM F b.2.2 hb.2.2.2.2.1 hb.2.2.2.2.2) ?_
 try simp only [Bool.not_true, Bool.not_false, cond_false, cond_true]
 by_cases he : e = 0
 ·subst he;rw [if_pos rfl];refine xAc (y := ((bs [111, 107], 0), (rsA 0 σ lots wf a0 a1 (ig M (a3.length + 1) lr pr_) (a3 ++ [some (rowAt a3 sr ++ [(3, (0, b))])]) a4).2)) ?_ rfl;refine xAo rfl (xAb rfl (xAb rfl (xAb rfl (xAo rfl (xAb rfl (xAb rfl (xAb rfl ?_)))))));refine xAb (by rw [Bool.and_true]; exact h3) ?_;refine xAc hcl ?_;refine xAb hk ?_;refine xAb rfl (xAb rfl (xAb rfl ?_));refine xAc hc ?_;rfl
 ·rw [if_neg he];refine xAc (y := ((bs [111, 107], e), (rsA e σ lots wf a0 a1 (ig M sr lr pr_) a3 a4).2)) ?_ (xAb (by simpa using he) rfl);refine xAo rfl (xAb rfl (xAb rfl (xAb rfl (xAo rfl (xAb rfl (xAb rfl (xAb rfl ?_)))))));refine xAb (by rw [Bool.and_true]; exact h3) ?_;refine xAc hcl ?_;refine xAb hk ?_;refine xAb rfl (xAb rfl (xAb rfl ?_));refine xAc hc ?_;exact xAb (by simpa using he) rfl
theorem xSN (b : Tb) (hb : NmB b) (h3 : xA3 a3 sr = true) (hl : (rowAt a3 sr).length <= 1000) {e : Int} (hc : xAJ F M (rowAt a3 sr ++ [(4, (0, b))]) = some e) :
  xEv F (bs (xAi 32 (xTv b))) σ lots [(bs cK1, 1)] wf a0 a1 [ig M sr lr pr_] a3 a4 = some (if e = 0 then rsA 0 σ lots wf a0 a1 (ig M (a3.length + 1) lr pr_) (a3 ++ [some (rowAt a3 sr ++ [(4, (0, b))])]) a4 else rsA e σ lots wf a0 a1 (ig M sr lr pr_) a3 a4) := by
 obtain ⟨hw, hlen⟩ := xTu b hb;have hcl := xMt F (rowAt a3 sr) (by omega);have hk : xA8 ((rowAt a3 sr).length - 0) 1 = true := decide_eq_true (by omega);unfold xEv gN gJ gK;refine xAo (decide_eq_false (by rw [xAh]; omega)) ?_;refine xAc (xHA F hw) ?_
 try simp only [Bool.not_true, Bool.not_false, cond_false, cond_true]
 refine xAc (xHS F b hb) ?_
 try simp only [Bool.not_true, Bool.not_false, cond_false, cond_true]
 refine xAo rfl ?_;refine xAb rfl ?_;refine xAc (xAM F b.1 hb.1 hb.2.1) ?_
 try simp only [Bool.not_true, Bool.not_false, cond_false, cond_true]
 refine xAb rfl ?_;refine xAc (xAM F b.2.1 hb.2.2.1 hb.2.2.2.1) ?_
 try simp only [Bool.not_true, Bool.not_false, cond_false, cond_true]
 refine xAb rfl ?_;refine xAc (xAM F b.2.2 hb.2.2.2.2.1 hb.2.2.2.2.2) ?_
 try simp only [Bool.not_true, Bool.not_false, cond_false, cond_true]
 by_cases he : e = 0
 ·subst he;rw [if_pos rfl];refine xAc (y := ((bs [111, 107], 0), (rsA 0 σ lots wf a0 a1 (ig M (a3.length + 1) lr pr_) (a3 ++ [some (rowAt a3 sr ++ [(4, (0, b))])]) a4).2)) ?_ rfl;refine xAo rfl (xAb rfl (xAb rfl (xAb rfl (xAo rfl (xAb rfl (xAb rfl (xAb rfl ?_)))))));refine xAb (by rw [Bool.and_true]; exact h3) ?_;refine xAc hcl ?_;refine xAb hk ?_;refine xAb rfl (xAb rfl (xAb rfl ?_));refine xAc hc ?_;rfl
 ·rw [if_neg he];refine xAc (y := ((bs [111, 107], e), (rsA e σ lots wf a0 a1 (ig M sr lr pr_) a3 a4).2)) ?_ (xAb (by simpa using he) rfl);refine xAo rfl (xAb rfl (xAb rfl (xAb rfl (xAo rfl (xAb rfl (xAb rfl (xAb rfl ?_)))))));refine xAb (by rw [Bool.and_true]; exact h3) ?_;refine xAc hcl ?_;refine xAb hk ?_;refine xAb rfl (xAb rfl (xAb rfl ?_));refine xAc hc ?_;exact xAb (by simpa using he) rfl
theorem xSP (m : Int) (b : Tb) (hm : Nm m) (hb : NmB b) (h3 : xA3 a3 sr = true) (hl : (rowAt a3 sr).length <= 1000) (h4 : xA3 a4 pr_ = true) (hl4 : (rowAt a4 pr_).length <= 1000) {e : Int} (hc : xAJ F M (rowAt a3 sr ++ [(1, (m, b))]) = some e) :
  xCs F (bs (xAi 32 (xTm m b))) σ lots [(bs cK1, 1)] wf a0 a1 [ig M sr lr pr_] a3 a4 = some (if e = 0 then rsA 0 σ lots wf a0 a1 (ig M (a3.length + 1) lr ((xAZ a4 pr_).length + 1)) (a3 ++ [some (rowAt a3 sr ++ [(1, (m, b))])]) (xAZ a4 pr_ ++ [some (rowAt a4 pr_ ++ [(false, (false, 31))])]) else rsA e σ lots wf a0 a1 (ig M sr lr pr_) a3 a4) := by
 obtain ⟨hw, hlen⟩ := frzW_ok m b hm hb;have hcl := xMt F (rowAt a3 sr) (by omega);have hk : xA8 ((rowAt a3 sr).length - 0) 1 = true := decide_eq_true (by omega);have hk4 : xA8 ((rowAt a4 pr_).length - 0) 1 = true := decide_eq_true (by omega);have ht := xTG F (rowAt a4 pr_).length (by omega);have hv := xFR (xAZ a4 pr_) (rowAt a4 pr_ ++ [(false, (false, (31 : Int)))]);have ht2 : xDv F ((rowAt (xAZ a4 pr_ ++ [some (rowAt a4 pr_ ++ [(false, (false, (31 : Int)))])]) ((xAZ a4 pr_).length + 1)).length : Nat) = some () := by
  rw [xFG];exact xTG F _ (by simp; omega)
 unfold xCs gN gJ gK;refine xAo (decide_eq_false (by rw [xAh]; omega)) ?_;refine xAc (xHC F hw) ?_
 try simp only [Bool.not_true, Bool.not_false, cond_false, cond_true]
 refine xAc (xA4 F m hm.1 hm.2) ?_
 try simp only [Bool.not_true, Bool.not_false, cond_false, cond_true]
 refine xAc (xHS F b hb) ?_
 try simp only [Bool.not_true, Bool.not_false, cond_false, cond_true]
 refine xAo rfl ?_;refine xAb rfl ?_;refine xAc (xAM F b.1 hb.1 hb.2.1) ?_
 try simp only [Bool.not_true, Bool.not_false, cond_false, cond_true]
 refine xAb rfl ?_;refine xAc (xAM F b.2.1 hb.2.2.1 hb.2.2.2.1) ?_
 try simp only [Bool.not_true, Bool.not_false, cond_false, cond_true]
 refine xAb rfl ?_;refine xAc (xAM F b.2.2 hb.2.2.2.2.1 hb.2.2.2.2.2) ?_
 try simp only [Bool.not_true, Bool.not_false, cond_false, cond_true]
 by_cases he : e = 0
 ·subst he;rw [if_pos rfl];refine xAc (y := (rsA 0 σ lots wf a0 a1 (ig M (a3.length + 1) lr ((xAZ a4 pr_).length + 1)) (a3 ++ [some (rowAt a3 sr ++ [(1, (m, b))])]) (xAZ a4 pr_ ++ [some (rowAt a4 pr_ ++ [(false, (false, 31))])]))) ?_ rfl;refine xAo rfl (xAb rfl (xAb rfl (xAb rfl (xAo rfl (bothR ?_ ?_)))))
  ·refine xAb rfl (xAb rfl (xAb rfl (xAb h4 (xAb rfl (xAb rfl (xAb rfl ?_))))));refine xAb (by rw [Bool.and_true]; exact h3) ?_;refine xAc hcl ?_;refine xAb hk (xAb rfl (xAb rfl (xAb rfl ?_)));refine xAc hc ?_;refine xAo rfl (xAb rfl (xAb rfl (xAb rfl (xAb rfl (xAb rfl (xAb rfl (xAb h4 (xAb hk4 (xAb rfl (xAb rfl (xAb rfl ?_)))))))))));refine xAc ht ?_;rfl
  ·refine xAb rfl (xAb rfl (xAb rfl (xAb rfl (xAb rfl ?_))));refine xAb (by rw [Bool.and_true]; exact h3) ?_;refine xAc hcl ?_;refine xAb hk (xAb rfl (xAb rfl (xAb rfl ?_)));refine xAc hc ?_;refine xAo rfl (xAb rfl (xAb rfl (xAb rfl (xAb rfl (xAb rfl (xAb rfl (xAb h4 (xAb hk4 (xAb rfl (xAb rfl (xAb rfl (xAb rfl (xAb hv ?_)))))))))))));refine xAc ht2 ?_;rfl
 ·rw [if_neg he];refine xAc (y := rsA e σ lots wf a0 a1 (ig M sr lr pr_) a3 a4) ?_ (xAb (by simpa using he) rfl);refine xAo rfl (xAb rfl (xAb rfl (xAb rfl (xAo rfl (bothR ?_ ?_)))))
  ·refine xAb rfl (xAb rfl (xAb rfl (xAb h4 (xAb rfl (xAb rfl (xAb rfl ?_))))));refine xAb (by rw [Bool.and_true]; exact h3) ?_;refine xAc hcl ?_;refine xAb hk (xAb rfl (xAb rfl (xAb rfl ?_)));refine xAc hc ?_;refine xAb (by simpa using he) ?_;refine xAc ht ?_;rfl
  ·refine xAb rfl (xAb rfl (xAb rfl (xAb rfl (xAb rfl ?_))));refine xAb (by rw [Bool.and_true]; exact h3) ?_;refine xAc hcl ?_;refine xAb hk (xAb rfl (xAb rfl (xAb rfl ?_)));refine xAc hc ?_;refine xAb (by simpa using he) (xAb rfl (xAb h4 ?_));refine xAc ht ?_;rfl
end
end
namespace M3
open Go.RowKit U8
section
variable (F : Nat)
theorem cmp_eq (p q : Nat) : xCg F (((p / 18446744073709551616 : Nat) : Int), ((p % 18446744073709551616 : Nat) : Int)) (((q / 18446744073709551616 : Nat) : Int), ((q % 18446744073709551616 : Nat) : Int)) = some (if q < p then 1 else if p = q then 0 else -1) := by
 have hp := Nat.div_add_mod p 18446744073709551616;have hq := Nat.div_add_mod q 18446744073709551616;have hp2 : p % 18446744073709551616 < 18446744073709551616 := Nat.mod_lt _ (by decide);have hq2 : q % 18446744073709551616 < 18446744073709551616 := Nat.mod_lt _ (by decide);generalize p / 18446744073709551616 = a at *;generalize p % 18446744073709551616 = b at *;generalize q / 18446744073709551616 = c at *;generalize q % 18446744073709551616 = d at *;unfold xCg;dsimp only;by_cases h1 : (a : Int) > (c : Int)
 ·rw [xAQ h1, if_pos (by omega)];rfl
 ·rw [xAH h1];by_cases h2 : (a : Int) = (c : Int)
  ·rw [bq h2];by_cases h3 : (b : Int) > (d : Int)
   ·rw [xAQ h3, if_pos (by omega)];rfl
   ·rw [xAH h3, if_neg (by omega)];by_cases h4 : (b : Int) = (d : Int)
    ·rw [if_pos (by omega)];show (bif (((a : Int) == (c : Int)) && ((b : Int) == (d : Int))) then _ else _) = _;rw [bq h2, bq h4];rfl
    ·rw [if_neg (by omega)];show (bif (((a : Int) == (c : Int)) && ((b : Int) == (d : Int))) then _ else _) = _;rw [bq h2, bn h4];rfl
  ·rw [bn h2, if_neg (by omega), if_neg (by omega)];show (bif (((a : Int) == (c : Int)) && ((b : Int) == (d : Int))) then _ else _) = _;rw [bn h2];rfl
theorem xZb (c m k : Nat) (hc : c <= 1000000000000000) (hm : m <= 1000000000000000) (hk : k <= 1000000000000000) : xEc F c m k = some (decide (k * m < c * 1000000)) := by
 have e : xEc F c m k = ob (xCg F (mh (jU.wrap (c : Int)) (jU.wrap (1000000 : Int)), jU.wrap (jU.wrap (c : Int) * jU.wrap (1000000 : Int))) (mh (jU.wrap (k : Int)) (jU.wrap (m : Int)), jU.wrap (jU.wrap (k : Int) * jU.wrap (m : Int)))) (fun r => some (decide (r > 0))) := rfl;rw [e, show (1000000 : Int) = ((1000000 : Nat) : Int) from rfl, xMK c (by omega), xMK 1000000 (by omega), xMK k (by omega), xMK m (by omega), xVa _ _ (by omega) (by omega), xVa _ _ (by omega) (by omega), xU9, xU9, cmp_eq, xAd];by_cases h : k * m < c * 1000000
 ·rw [if_pos h, xAQ h]; rfl
 ·rw [if_neg h, xAH h];by_cases h2 : c * 1000000 = k * m
  ·rw [if_pos h2]; rfl
  ·rw [if_neg h2]; rfl
theorem xXI (c m k : Nat) (hc : c <= 1000000000000000) (hm : m <= 1000000000000000) (hk : k <= 1000000000000000) : xGM F c m k = some (decide (c * 1000000 < k * m)) := by
 have e : xGM F c m k = ob (xCg F (mh (jU.wrap (c : Int)) (jU.wrap (1000000 : Int)), jU.wrap (jU.wrap (c : Int) * jU.wrap (1000000 : Int))) (mh (jU.wrap (k : Int)) (jU.wrap (m : Int)), jU.wrap (jU.wrap (k : Int) * jU.wrap (m : Int)))) (fun r => some (decide (r < 0))) := rfl;rw [e, show (1000000 : Int) = ((1000000 : Nat) : Int) from rfl, xMK c (by omega), xMK 1000000 (by omega), xMK k (by omega), xMK m (by omega), xVa _ _ (by omega) (by omega), xVa _ _ (by omega) (by omega), xU9, xU9, cmp_eq, xAd];by_cases h : k * m < c * 1000000
 ·rw [if_pos h, xAH (show ¬ c * 1000000 < k * m by omega)]; rfl
 ·rw [if_neg h];by_cases h2 : c * 1000000 = k * m
  ·rw [if_pos h2, xAH (show ¬ c * 1000000 < k * m by omega)]; rfl
  ·rw [if_neg h2, xAQ (show c * 1000000 < k * m by omega)]; rfl
def nb (c : Int) : Prop := 0 <= c /\ c <= 1000000000000000
theorem xUR {c m k : Int} (hc : nb c) (hm : nb m) (hk : nb k) : xEc F c m k = some (decide (k * m < c * 1000000)) := by
 obtain ⟨c, rfl⟩ := Int.eq_ofNat_of_zero_le hc.1;obtain ⟨m, rfl⟩ := Int.eq_ofNat_of_zero_le hm.1;obtain ⟨k, rfl⟩ := Int.eq_ofNat_of_zero_le hk.1;unfold nb at hc hm hk;rw [xZb F c m k (by omega) (by omega) (by omega)];refine congrArg some (decide_eq_decide.2 ?_);rw [<- Int.natCast_mul];omega
theorem yAg {c m k : Int} (hc : nb c) (hm : nb m) (hk : nb k) : xGM F c m k = some (decide (c * 1000000 < k * m)) := by
 obtain ⟨c, rfl⟩ := Int.eq_ofNat_of_zero_le hc.1;obtain ⟨m, rfl⟩ := Int.eq_ofNat_of_zero_le hm.1;obtain ⟨k, rfl⟩ := Int.eq_ofNat_of_zero_le hk.1;unfold nb at hc hm hk;rw [xXI F c m k (by omega) (by omega) (by omega)];refine congrArg some (decide_eq_decide.2 ?_);rw [<- Int.natCast_mul];omega
theorem xQ0 {c m : Int} {t : Tr} (hc : nb c) (hm : nb m) (h1 : nb t.1) (h2 : nb t.2) : xGv F c m t = some (decide (t.1 * m <= c * 1000000 /\ c * 1000000 <= t.2 * m)) := by
 unfold xGv;rw [xUR F hc hm h2, xAd];by_cases h : t.2 * m < c * 1000000
 ·rw [xAQ h, xAH (show ¬ (t.1 * m <= c * 1000000 /\ c * 1000000 <= t.2 * m) by omega)];rfl
 ·rw [xAH h, yAg F hc hm h1];show some (!decide (c * 1000000 < t.1 * m)) = _;by_cases h3 : c * 1000000 < t.1 * m
  ·rw [xAQ h3, xAH (show ¬ (t.1 * m <= c * 1000000 /\ c * 1000000 <= t.2 * m) by omega)];rfl
  ·rw [xAH h3, xAQ (show (t.1 * m <= c * 1000000 /\ c * 1000000 <= t.2 * m) by omega)];rfl
theorem cl_ge {u a b : Int} (hb : 0 < b) : u * a <= cl u a b * b := by
 have h1 := Int.emod_add_mul_ediv (u * a + (b - 1)) b;have h2 := Int.emod_lt_of_pos (u * a + (b - 1)) hb;unfold cl;rw [Int.mul_comm ((u * a + (b - 1)) / b) b];omega
variable (hF : 2000 < F)
include hF
theorem some_eq {c t : Tr} {m : Int} (hc : 0 <= c.1 /\ c.1 <= c.2 /\ c.2 <= 1000000000000000) (hm : 1 <= m /\ m <= 1000000000) (ht : okR t 1000000000000) : ∃ b, xIz F c m t = some b /\ (b = true -> ∃ n, c.1 <= n /\ n <= c.2 /\ t.1 * m <= n * 1000000 /\ n * 1000000 <= t.2 * m) := by
 obtain ⟨t1, t2, t3⟩ := ht;unfold xIz;obtain ⟨z, e⟩ := mdI2 F hF (u := t.1) (a := m) (b := 1000000) (by omega) (by omega) (by omega);have hg := cl_ge (u := t.1) (a := m) (b := 1000000) (by omega);have hp := pos (u := t.1) (a := m) (b := 1000000) (by omega) t1 (by omega);rw [e, xAd];by_cases hq : cl t.1 m 1000000 <= 1000000000000000
 ·rw [if_pos hq];generalize cl t.1 m 1000000 = q at hq hg hp;show ∃ b, (bif (decide ((if c.1 > q then c.1 else q) <= c.2)) then _ else _) = some b /\ _;have hx : c.1 <= (if c.1 > q then c.1 else q) /\ q <= (if c.1 > q then c.1 else q) := by split <;> omega
  dsimp only;generalize (if c.1 > q then c.1 else q) = n at hx;by_cases hn : n <= c.2
  ·rw [xAQ hn];show ∃ b, ob (xEc F n m t.2) _ = some b /\ _;rw [xUR F ⟨by omega, by omega⟩ ⟨by omega, by omega⟩ ⟨by omega, by omega⟩, xAd];refine ⟨_, rfl, fun hb => ⟨n, hx.1, hn, by omega, ?_⟩⟩;have hb' : ¬ t.2 * m < n * 1000000 := by
    intro h;rw [xAQ h] at hb;cases hb
   omega
  ·rw [xAH hn];exact ⟨false, rfl, fun h => by cases h⟩
 ·rw [if_neg hq];exact ⟨false, rfl, fun h => by cases h⟩
end
end M3
namespace M3
open Go.RowKit U8
section
variable (F : Nat) (hF : 2000 < F)
include hF
theorem xDe (l : List Tst) (hl : l.length <= 200) (c : Tco) : ∀ (j k i : Nat) (d m so go dd e : Int) (a f : Int × (Int × (Int × (Int × (Int × (Int × Int)))))), i + j = l.length -> j < k -> run (l.drop i) m -> 0 <= m /\ m <= 1000000000 -> 0 <= d -> d + 1000000000000 * j <= 400000000000000 -> ∃ t, xAz F k ((d, m, ((l.length - 0) : Int), (i : Int)), (l, a, so, go, dd, e, f, c)) = some t
 | j, 0, _, _, _, _, _, _, _, _, _, _, h, _, _, _, _ => by omega
 | 0, k + 1, i, d, m, so, go, dd, e, a, f, h, _, _, _, _, _ => by
  simp only [xAz];rw [xAH (show ¬ (i : Int) < (l.length - 0 : Int) by omega)];exact ⟨_, rfl⟩
 | j + 1, k + 1, i, d, m, so, go, dd, e, a, f, h, hj, hr, hm, hd, hD => by
  have hi : i < l.length := by omega
  have hx : nth l zS i = nth l zS i := rfl;rw [xCZ hi zS] at hr;simp only [xAz];rw [xAQ (show (i : Int) < (l.length - 0 : Int) by omega), show inB (i : Int) (l.length - 0) = true from xDZ hi, Int.toNat_natCast];generalize hx : nth l zS i = x at hr ⊢;obtain ⟨hs, hg0, hg1, hr'⟩ := hr;simp only [cond_true];rw [xXs F hF hs hg0 hm.2 (by omega), xAd];have hq := xFi (xJ8 sp0 hs) hg0 hd;generalize hr0 : ch (s0 x.2.2) x d m = r at hq ⊢;have hn := xIS (xJ8 sp0 hs) hg0 hd (n := pn c x r) (by rw [hr0]; exact xHH c x hq.2.1);rw [show xBA F (i : Int) r.1 r.2 c l = some (pn c x r, c) from xDC F hi hx, xAd];have hw : 0 <= nx x d (pn c x r) /\ nx x d (pn c x r) <= 1000000000000000 := ⟨hn.2.1, by omega⟩;rcases xYF hs with k1 | k1 | k1 | k1
  ·obtain ⟨b1, b2, b3, b4⟩ := q1 k1;simp only [b1, b2, b3, b4, cond_true, cond_false];rw [xAq F (stM hs) hm, xAd, xMA (by omega) hw, wI i hi hl];exact xDe l hl c j k (i + 1) _ _ _ _ _ _ _ _ (by omega) (by omega) hr' ⟨hg0, hg1⟩ hn.2.1 (by omega)
  ·obtain ⟨b1, b2, b3, b4⟩ := q2 k1;simp only [b1, b2, b3, b4, cond_true, cond_false];rw [xAq F (stM hs) hm, xAd, xMB (by omega) hw, wI i hi hl];exact xDe l hl c j k (i + 1) _ _ _ _ _ _ _ _ (by omega) (by omega) hr' ⟨hg0, hg1⟩ hn.2.1 (by omega)
  ·obtain ⟨b1, b2, b3, b4⟩ := q3 k1;simp only [b1, b2, b3, b4, cond_true, cond_false];rw [xAq F (stM hs) hm, xAd, xMB (by omega) hw, wI i hi hl];exact xDe l hl c j k (i + 1) _ _ _ _ _ _ _ _ (by omega) (by omega) hr' ⟨hg0, hg1⟩ hn.2.1 (by omega)
  ·obtain ⟨b1, b2, b3, b4⟩ := q4 k1;simp only [b1, b2, b3, b4, cond_true, cond_false];rw [xAq F (stM hs) hm, xAd, xMA (by omega) hw, wI i hi hl];exact xDe l hl c j k (i + 1) _ _ _ _ _ _ _ _ (by omega) (by omega) hr' ⟨hg0, hg1⟩ hn.2.1 (by omega)
theorem tot0 (l : List Tst) (hl : l.length <= 200) (a : Tfr) (hm : 0 <= a.1 /\ a.1 <= 1000000000) (ha : okR (s0 a.2) 1000000000000) (hr : run l a.1) (c : Tco) : ∃ t, xCT F a c l = some t := by
 obtain ⟨c0, c1⟩ := c;obtain ⟨h1, h2, h3⟩ := ha;unfold xCT;cases c0
 ·obtain ⟨t, h⟩ := xDe F hF l hl (false, c1) l.length F 0 (s0 a.2).1 a.1 0 0 (s0 a.2).1 (s0 a.2).1 (a.1, (a.2.1.1, (a.2.1.2, (a.2.2.1.1, (a.2.2.1.2, a.2.2.2))))) (a.1, (a.2.1.1, (a.2.1.2, (a.2.2.1.1, (a.2.2.1.2, a.2.2.2))))) (by omega) (by omega) hr hm h1 (by omega);exact ⟨_, xAc rfl (xAc h rfl)⟩
 ·obtain ⟨t, h⟩ := xDe F hF l hl (true, c1) l.length F 0 (s0 a.2).2 a.1 0 0 (s0 a.2).2 (s0 a.2).2 (a.1, (a.2.1.1, (a.2.1.2, (a.2.2.1.1, (a.2.2.1.2, a.2.2.2))))) (a.1, (a.2.1.1, (a.2.1.2, (a.2.2.1.1, (a.2.2.1.2, a.2.2.2))))) (by omega) (by omega) hr hm (by omega) (by omega);exact ⟨_, xAc rfl (xAc h rfl)⟩
theorem fil0_a (l : List Tst) (hl : l.length <= 200) (c : Tco) (R : (Int × T_2)) (sls : List Tfr) (a f : Int × (Int × (Int × (Int × (Int × (Int × Int)))))) (e : Int) : ∀ (j k i : Nat) (d m : Int) (ts : List (Int × Tc3)), i + j = l.length -> j < k -> run (l.drop i) m -> 0 <= m /\ m <= 1000000000 -> 0 <= d -> d + 1000000000000 * j <= 400000000000000 -> ∃ ts', xBh F k ((d, m, ((l.length - 0) : Int), (i : Int)), (l, R, sls, a, ts, e, f, c)) = some (l, R, sls, a, ts', e, f, c) /\ (∀ q, q < j -> xAI (.i .i64) (0, (0, 0)) ((i : Int) + (q : Int)) ts' = nth (tr s0 c (l.drop i) m d) z3 q) /\ (∀ w : Int, w < i -> xAI (.i .i64) (0, (0, 0)) w ts' = xAI (.i .i64) (0, (0, 0)) w ts)
 | j, 0, _, _, _, _, _, h, _, _, _, _ => by omega
 | 0, k + 1, i, d, m, ts, h, _, _, _, _, _ => by
  simp only [xBh];rw [xAH (show ¬ (i : Int) < (l.length - 0 : Int) by omega)];exact ⟨_, rfl, fun q hq => absurd hq (by omega), fun _ _ => rfl⟩
 | j + 1, k + 1, i, d, m, ts, h, hj, hr, hm, hd, hD => by
  have hi : i < l.length := by omega
  rw [xCZ hi zS] at hr ⊢;simp only [xBh];rw [xAQ (show (i : Int) < (l.length - 0 : Int) by omega), show inB (i : Int) (l.length - 0) = true from xDZ hi, Int.toNat_natCast];generalize hx : nth l zS i = x at hr ⊢;obtain ⟨hs, hg0, hg1, hr'⟩ := hr;simp only [cond_true];rw [xXs F hF hs hg0 hm.2 (by omega), xAd];have hq := xFi (xJ8 sp0 hs) hg0 hd;rw [tr];generalize hr0 : ch (s0 x.2.2) x d m = r at hq ⊢;have hn := xIS (xJ8 sp0 hs) hg0 hd (n := pn c x r) (by rw [hr0]; exact xHH c x hq.2.1);rw [show xBA F (i : Int) r.1 r.2 c l = some (pn c x r, c) from xDC F hi hx, xAd];have hw : 0 <= nx x d (pn c x r) /\ nx x d (pn c x r) <= 1000000000000000 := ⟨hn.2.1, by omega⟩;obtain ⟨ts', e1, e2, e3⟩ := fil0_a l hl c R sls a f e j k (i + 1) (nx x d (pn c x r)) (gm m x) (xF2 (.i .i64) (i : Int) (r.1, (r.2, nx x d (pn c x r))) ts) (by omega) (by omega) hr' ⟨hg0, hg1⟩ hn.2.1 (by omega);refine ⟨ts', ?_, fun q hq' => ?_, fun w hw' => ?_⟩;rotate_left
  ·cases q with
   | zero =>
    rw [show (i : Int) + ((0 : Nat) : Int) = (i : Int) by omega, e3 _ (by omega), xMh];rfl
   | succ q =>
    rw [show (i : Int) + ((q + 1 : Nat) : Int) = ((i + 1 : Nat) : Int) + (q : Int) by omega, e2 q (by omega)];rfl
  ·rw [e3 w (by omega), xFb _ (by omega)]
  rcases xYF hs with k1 | k1 | k1 | k1
  ·obtain ⟨b1, b2, b3, b4⟩ := q1 k1;simp only [b1, b2, b3, b4, cond_true, cond_false];rw [xAq F (stM hs) hm, xAd, xMA (by omega) hw, wI i hi hl];exact e1
  ·obtain ⟨b1, b2, b3, b4⟩ := q2 k1;simp only [b1, b2, b3, b4, cond_true, cond_false];rw [xAq F (stM hs) hm, xAd, xMB (by omega) hw, wI i hi hl];exact e1
  ·obtain ⟨b1, b2, b3, b4⟩ := q3 k1;simp only [b1, b2, b3, b4, cond_true, cond_false];rw [xAq F (stM hs) hm, xAd, xMB (by omega) hw, wI i hi hl];exact e1
  ·obtain ⟨b1, b2, b3, b4⟩ := q4 k1;simp only [b1, b2, b3, b4, cond_true, cond_false];rw [xAq F (stM hs) hm, xAd, xMA (by omega) hw, wI i hi hl];exact e1
theorem xOs (l : List Tst) (hl : l.length <= 200) (a f : Int × (Int × (Int × (Int × (Int × (Int × Int)))))) (e : Int) (ts : List (Int × Tc3)) : ∀ (j k i : Nat) (d dr m : Int) (R : (Int × T_2)) (sls : List Tfr) (kk : Nat), i + j = l.length -> j < k -> run (l.drop i) m -> 0 <= m /\ m <= 1000000000 -> 0 <= d -> d + 1000000000000 * j <= 400000000000000 -> (∀ q, q < j -> xAI (.i .i64) (0, (0, 0)) ((i : Int) + (q : Int)) ts = nth (tr s0 xCn (l.drop i) m dr) z3 q) -> kk + (sl s0 (l.drop i) m d dr).length <= sls.length -> sls.length <= 200 -> ∃ R' kk', xAt F k ((d, m, ((l.length - 0) : Int), (i : Int)), (l, R, sls, a, (kk : Int), ts, e, f, xBr)) = some (l, R', xCQ xMC sls kk (sl s0 (l.drop i) m d dr), a, kk', ts, e, f, xBr) /\ R'.1 = R.1
 | j, 0, _, _, _, _, _, _, _, h, _, _, _, _, _, _, _, _ => by omega
 | 0, k + 1, i, d, dr, m, R, sls, kk, h, _, _, _, _, _, _, _, _ => by
  simp only [xAt, nS, nI, g6, n3];rw [xAH (show ¬ (i : Int) < (l.length - 0 : Int) by omega), List.drop_eq_nil_of_le (by omega)];exact ⟨_, _, rfl, rfl⟩
 | j + 1, k + 1, i, d, dr, m, R, sls, kk, h, hj, hr, hm, hd, hD, ht, hk, hk2 => by
  have hi : i < l.length := by omega
  rw [xCZ hi zS] at hr hk ht ⊢;simp only [xAt, nS, nI, g6, n3];rw [xAQ (show (i : Int) < (l.length - 0 : Int) by omega), show inB (i : Int) (l.length - 0) = true from xDZ hi, Int.toNat_natCast];generalize hx : nth l zS i = x at hr hk ht ⊢;obtain ⟨hs, hg0, hg1, hr'⟩ := hr;simp only [cond_true];have ht0 : xAI (.i .i64) (0, (0, 0)) (i : Int) ts = ((ch (s0 x.2.2) x dr m).1, ((ch (s0 x.2.2) x dr m).2, nx x dr (pn xCn x (ch (s0 x.2.2) x dr m)))) := by
   have h0 := ht 0 (by omega);rw [show (i : Int) + ((0 : Nat) : Int) = (i : Int) by omega] at h0;exact h0
  have ht' : ∀ q, q < j -> xAI (.i .i64) (0, (0, 0)) (((i + 1 : Nat) : Int) + (q : Int)) ts = nth (tr s0 xCn (l.drop (i + 1)) (gm m x) (nx x dr (pn xCn x (ch (s0 x.2.2) x dr m)))) z3 q := by
   intro q hq;have h0 := ht (q + 1) (by omega);rw [show (i : Int) + ((q + 1 : Nat) : Int) = ((i + 1 : Nat) : Int) + (q : Int) by omega] at h0;exact h0
  rw [ht0];rw [xXs F hF hs hg0 hm.2 (by omega), xAd];have hq := xFi (xJ8 sp0 hs) hg0 hd;rw [sl] at hk ⊢;generalize hr0 : ch (s0 x.2.2) x d m = r at hq hk ⊢;generalize ch (s0 x.2.2) x dr m = rr at hk ht' ⊢;have hn := xIS (xJ8 sp0 hs) hg0 hd (n := pn xBr x r) (by rw [hr0]; exact xHH xBr x hq.2.1);rw [show xBA F (i : Int) r.1 r.2 xBr l = some (pn xBr x r, xBr) from xDC F hi hx, xAd];have hw : 0 <= nx x d (pn xBr x r) /\ nx x d (pn xBr x r) <= 1000000000000000 := ⟨hn.2.1, by omega⟩;rcases xYF hs with k1 | k1 | k1 | k1
  ·obtain ⟨b1, b2, b3, b4⟩ := q1 k1;rw [if_pos k1, List.length_cons] at hk;rw [if_pos k1];simp only [b1, b2, b3, b4, cond_true, cond_false];rw [xAq F (stM hs) hm, xAd, show inB (kk : Int) (sls.length - 0) = true from xDZ (by omega), xMA (by omega) hw, wI i hi hl, w64 ((kk : Int) + 1) (by omega), Int.toNat_natCast];exact xOs l hl a f e ts j k (i + 1) _ _ _ _ (sls.set kk (xMC (nth sls zF kk) (r.1, rr.2))) (kk + 1) (by omega) (by omega) hr' ⟨hg0, hg1⟩ hn.2.1 (by omega) ht' (by rw [List.length_set]; omega) (by rw [List.length_set]; omega)
  ·obtain ⟨b1, b2, b3, b4⟩ := q2 k1;rw [if_neg (by omega)] at hk;rw [if_neg (show ¬ x.1 = 1 by omega)];simp only [b1, b2, b3, b4, cond_true, cond_false];rw [xAq F (stM hs) hm, xAd, xMB (by omega) hw, wI i hi hl];exact xOs l hl a f e ts j k (i + 1) _ _ _ _ sls kk (by omega) (by omega) hr' ⟨hg0, hg1⟩ hn.2.1 (by omega) ht' hk hk2
  ·obtain ⟨b1, b2, b3, b4⟩ := q3 k1;rw [if_neg (by omega)] at hk;rw [if_neg (show ¬ x.1 = 1 by omega)];simp only [b1, b2, b3, b4, cond_true, cond_false];rw [xAq F (stM hs) hm, xAd, xMB (by omega) hw, wI i hi hl];exact xOs l hl a f e ts j k (i + 1) _ _ _ _ sls kk (by omega) (by omega) hr' ⟨hg0, hg1⟩ hn.2.1 (by omega) ht' hk hk2
  ·obtain ⟨b1, b2, b3, b4⟩ := q4 k1;rw [if_neg (by omega)] at hk;rw [if_neg (show ¬ x.1 = 1 by omega)];simp only [b1, b2, b3, b4, cond_true, cond_false];rw [xAq F (stM hs) hm, xAd, xMA (by omega) hw, wI i hi hl];exact xOs l hl a f e ts j k (i + 1) _ _ _ _ sls kk (by omega) (by omega) hr' ⟨hg0, hg1⟩ hn.2.1 (by omega) ht' hk hk2
theorem fil0 (l : List Tst) (hl : l.length <= 200) (a : Tfr) (hm : 0 <= a.1 /\ a.1 <= 1000000000) (ha : okR (s0 a.2) 1000000000000) (hr : run l a.1) (R : Tfr × (Tb × (Tb × Tb))) (sls : List Tfr) (hk : (sl s0 l a.1 (s0 a.2).1 (s0 a.2).2).length <= sls.length) (hk2 : sls.length <= 200) : ∃ R', xJM F a l R sls = some (R', xCQ xMC sls 0 (sl s0 l a.1 (s0 a.2).1 (s0 a.2).2)) /\ R'.1 = R.1.1 := by
 obtain ⟨h1, h2, h3⟩ := id ha;unfold xJM;have h0 := fun R0 => fil0_a F hF l hl xCn R0 sls (a.1, (a.2.1.1, (a.2.1.2, (a.2.2.1.1, (a.2.2.1.2, a.2.2.2))))) (a.1, (a.2.1.1, (a.2.1.2, (a.2.2.1.1, (a.2.2.1.2, a.2.2.2))))) (s0 a.2).2 l.length F 0 (s0 a.2).2 a.1 [] (by omega) (by omega) hr hm (by omega) (by omega);obtain ⟨ts, e1, e2, _⟩ := h0 _;obtain ⟨R1, kk, e3, e8⟩ := xOs F hF l hl (a.1, (a.2.1.1, (a.2.1.2, (a.2.2.1.1, (a.2.2.1.2, a.2.2.2))))) (a.1, (a.2.1.1, (a.2.1.2, (a.2.2.1.1, (a.2.2.1.2, a.2.2.2))))) (s0 a.2).1 ts l.length F 0 (s0 a.2).1 (s0 a.2).2 a.1 _ sls 0 (by omega) (by omega) hr hm h1 (by omega) e2 (by rw [List.drop_zero]; omega) hk2;obtain ⟨t1, e4⟩ := tot0 F hF l hl a hm ha hr (false, (false, true));obtain ⟨t2, e5⟩ := tot0 F hF l hl a hm ha hr (true, (true, false));obtain ⟨t3, e6⟩ := tot0 F hF l hl a hm ha hr (false, (true, false));obtain ⟨t4, e7⟩ := tot0 F hF l hl a hm ha hr (true, (false, true));exact ⟨_, xAc e1 (xAc e3 (xAc e4 (xAc e5 (xAc e6 (xAc e7 rfl))))), e8⟩
end
end M3
end Go.Proofs.YtnomnijhlbalaaaGreatDoor
