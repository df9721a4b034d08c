/- A part of the proof of the theorem of the last file. No condition. By an AI agent. -/
import Derived.Test.YtnomnijhlbalaaaGreatDoorWTMe
set_option maxRecDepth 100000
set_option maxHeartbeats 4000000
namespace Go.Proofs.YtnomnijhlbalaaaGreatDoor
section
open Go.RowKit Go.Proofs Go.Lib M3
theorem xBx (F : Nat) (n : Int) (h : Nm n) : xBJ F n = some (bs (itoa n)) := by
 unfold xBJ;rw [show (decide (-1000000000000000 < n) && decide (n < 1000000000000000)) = true from by rw [decide_eq_true h.1, decide_eq_true h.2]; rfl, cond_true]
theorem xFy (F : Nat) (r : M3.Tr) (h1 : Nm r.1) (h2 : Nm r.2) : xC1 F r = some (bs (rgT r)) := by
 have a := xAU r.1 h1;have b := xAU r.2 h2;unfold xC1;refine xAf (xBx F r.1 h1) ?_;refine xAd (decide_eq_true (by rw [xAC]; omega)) ?_;refine xAf (xBx F r.2 h2) ?_;refine xAd (decide_eq_true (by rw [show (ByteArray.mk (Array.mk (46 :: (46 :: [])))) = bs [46, 46] from rfl, xAE, xAC, xAC]; simp; omega)) ?_;rw [bs_rg r]
theorem xND (F : Nat) (b : Tb) (h : NmB b) : xES F b = some (bs (bdT b)) := by
 have a := xCp b.1 h.1 h.2.1;have c := xCp b.2.1 h.2.2.1 h.2.2.2.1;have d := xCp b.2.2 h.2.2.2.2.1 h.2.2.2.2.2;unfold xES;rw [show (ByteArray.mk (Array.mk (47 :: []))) = bs [47] from rfl];refine xAf (xFy F b.1 h.1 h.2.1) ?_;refine xAd (decide_eq_true (by rw [xAC]; omega)) ?_;refine xAf (xFy F b.2.1 h.2.2.1 h.2.2.2.1) ?_;refine xAd (decide_eq_true (by rw [xAE, xAC, xAC]; simp; omega)) ?_;refine xAd (decide_eq_true (by rw [xAE, xAE, xAC]; simp; omega)) ?_;refine xAf (xFy F b.2.2 h.2.2.2.2.1 h.2.2.2.2.2) ?_;refine xAd (decide_eq_true (by rw [xAE, xAE, xAE, xAC, xAC]; simp; omega)) ?_;rw [xAE, xAE, xAE, xAE];congr 2;simp [bdT]
def xMd (n : Int) : Prop := -1000000000000 <= n /\ n <= 1000000000000
theorem xFz (F : Nat) (b : Tb) : ∃ c, xDL F b = some c /\ (c = true -> xMd b.1.1 /\ xMd b.1.2 /\ xMd b.2.1.1 /\ xMd b.2.1.2 /\ xMd b.2.2.1 /\ xMd b.2.2.2) := by
 have key : ∀ (n : Int) (X : Option Bool) (P : Prop), (xMd n -> ∃ c, X = some c /\ (c = true -> P)) -> ∃ c, (bif decide (n < (-1000000000000 : Int)) then some false else (bif decide (n > (1000000000000 : Int)) then some false else X)) = some c /\ (c = true -> xMd n /\ P) := by
  intro n X P h;by_cases h1 : n < -1000000000000
  ·rw [decide_eq_true h1]; exact ⟨false, rfl, fun e => by cases e⟩
  ·by_cases h2 : n > 1000000000000
   ·rw [decide_eq_false h1, decide_eq_true h2]; exact ⟨false, rfl, fun e => by cases e⟩
   ·rw [decide_eq_false h1, decide_eq_false h2];have hn : xMd n := ⟨by omega, by omega⟩;obtain ⟨c, k1, k2⟩ := h hn;exact ⟨c, k1, fun e => ⟨hn, k2 e⟩⟩
 unfold xDL;refine key b.1.1 _ _ fun _ => key b.1.2 _ _ fun _ => key b.2.1.1 _ _ fun _ => key b.2.1.2 _ _ fun _ => key b.2.2.1 _ _ fun _ => ?_;obtain ⟨c, k1, k2⟩ := key b.2.2.2 (some true) True (fun _ => ⟨true, rfl, fun _ => trivial⟩);exact ⟨c, k1, fun e => (k2 e).1⟩
theorem xGe {n : Int} (h : xMd n) : Nm n := by unfold xMd at h; unfold Nm; omega
theorem smB_nm {b : Tb} (h : xMd b.1.1 /\ xMd b.1.2 /\ xMd b.2.1.1 /\ xMd b.2.1.2 /\ xMd b.2.2.1 /\ xMd b.2.2.2) : NmB b := ⟨xGe h.1, xGe h.2.1, xGe h.2.2.1, xGe h.2.2.2.1, xGe h.2.2.2.2.1, xGe h.2.2.2.2.2⟩
abbrev inS (x : ByteArray) (σ : Tst0) (lots : Tlo) (I wf : Tnm) (a0 : Ta0) (a1 : Ta1) (a2 : List Tig) (a3 : Ta3) (a4 : Ta4) : line_I.ty := (x, (σ, (lots, (I, (wf, (a0, (a1, (a2, (a3, a4)))))))))
section
variable (F : Nat) (x : ByteArray) (hx : x.size <= 2000) (σ : Tst0) (lots : Tlo) (I wf : Tnm) (a0 : Ta0) (a1 : Ta1) (a2 : List Tig) (a3 : Ta3) (a4 : Ta4)
include hx
theorem xMN (h : xC4 F x = none) : xCW F x σ lots I wf a0 a1 a2 a3 a4 = none := by
 unfold xCW;refine xAs (decide_eq_false (by omega)) ?_;rw [h]
end
end
section
open Go.RowKit Go.Proofs Go.Lib M3
theorem szT {n : Nat} (h : n <= 1000000 := by simp only [ByteArray.size_append, xAC, List.length_cons, List.length_nil]; omega) : decide (n <= 1000000) = true := decide_eq_true h
def xHg (l : List Int) : List UInt8 := if l.length = 0 then [45] else xAl 44 (l.map itoa)
def NmL (l : List Int) : Prop := ∀ n ∈ l, Nm n
theorem xEI {l : List Int} (h : NmL l) : (xHg l).length <= 18 * l.length + 1 := by
 unfold xHg;split
 ·simp
 ·have := xDV 44 itoa 17 l (fun n hn => xAU n (h n hn));omega
theorem xT2 (l : List Int) (c : UInt8) (h : c.toNat ≠ 45 /\ c.toNat ≠ 44 /\ (c.toNat < 48 \/ 57 < c.toNat)) : c ∉ xHg l := by
 unfold xHg;split
 ·intro hm;rw [List.mem_singleton] at hm;exact h.1 (by rw [hm]; rfl)
 ·exact xK6 44 c itoa (fun e => h.2.1 (by rw [e]; rfl)) l (fun n _ => xBH _ _ ⟨h.1, h.2.2⟩)
theorem xKR {α : Type} {l : List α} {i : Nat} (h : i < l.length) (d : α) : nth l d i ∈ l := by
 have : nth l d i = l[i] := by simp [nth, h]
 rw [this]; exact List.getElem_mem _
theorem Nm.i64 {n : Int} (h : Nm n) : -9223372036854775808 <= n /\ n <= 9223372036854775807 := by unfold Nm at h; omega
section
variable (F : Nat)
theorem listL (l : List Int) (hN : NmL l) (hl : l.length <= 1000) : ∀ (j k i : Nat) (acc : List ByteArray), i + j = l.length -> j < k -> acc.length <= i ->
  xDS F (l.length - 0 : Int) l k (i : Int) acc = some (l, acc ++ (l.drop i).map (fun n => bs (itoa n)))
 | _, 0, _, _, _, h, _ => absurd h (Nat.not_lt_zero _)
 | 0, k + 1, i, acc, hi, _, _ => by
  rw [xDS];refine xAs (decide_eq_false (by omega)) ?_;rw [List.drop_eq_nil_of_le (by omega), List.map_nil, List.append_nil]
 | j + 1, k + 1, i, acc, hi, hj, ha => by
  have hlt : i < l.length := by omega
  have hn := hN _ (xKR hlt (0 : Int));have ih := listL l hN hl j k (i + 1) (acc ++ [bs (itoa (nth l 0 i))]) (by omega) (by omega) (by simp; omega);rw [xDS];refine xAd (decide_eq_true (by omega)) ?_;refine xAd (by simp [inB]; omega) ?_;refine xAf (xEL F _ hn.i64) ?_;refine xAd (by simp [xAR]; omega) ?_;rw [show jI.wrap ((i : Int) + 1) = ((i + 1 : Nat) : Int) by rw [IntKind.wrap_i64]; omega];refine Eq.trans ih ?_;rw [xD3 l 0 hlt];simp
theorem joinL (l : List Int) (hN : NmL l) (hl : l.length <= 1000) : xEs F (ByteArray.mk (Array.mk (44 :: []))) (l.map (fun n => bs (itoa n))) = some (bs (xAl 44 (l.map itoa))) := by
 have h := xDV 44 itoa 17 l (fun n hn => xAU n (hN n hn));have := xP6 F 44 (l.map itoa) (by simp; omega) (by omega);rw [List.map_map] at this;exact this
theorem xUd (hF : 2000 < F) (l : List Int) (hN : NmL l) (hl : l.length <= 1000) : xGr F l = some (bs (xHg l)) := by
 unfold xGr xHg;by_cases h0 : l.length = 0
 ·rw [if_pos h0];exact xAd (bq (by omega)) rfl
 ·rw [if_neg h0];refine xAs (bn (by omega)) ?_;have := listL F l hN hl l.length F 0 [] (by omega) (by omega) (by simp);refine xAf this ?_;exact xAf (joinL F l hN hl) rfl
end
end
section
open Go.RowKit Go.Proofs Go.Lib M3
def cRet : List UInt8 := [114, 101, 116, 117, 114, 110]
def xNB : List UInt8 := [108, 101, 102, 116]
def cTrc : List UInt8 := [116, 114, 97, 99, 101]
def xVq : List UInt8 := [98, 101, 115, 116]
theorem xQ7 (F : Nat) {a b c d e : List UInt8} (h : Wds [cRet, a, b, c, d, e]) : xC3 F (bs (xAl 32 [cRet, a, b, c, d, e])) = some (bs a, (bs b, (bs c, (bs d, bs e)))) := by
 unfold xC3;rw [szw _ (Nat.le_trans h.2 (by decide)), cond_true, spw _ (by simp) h.1];rfl
theorem xL6 (F : Nat) {a : List UInt8} (h : Wds [xNB, a]) : xCh F (bs (xAl 32 [xNB, a])) = some (bs a) := by
 unfold xCh;rw [szw _ (Nat.le_trans h.2 (by decide)), cond_true, spw _ (by simp) h.1];rfl
theorem xQ5 (F : Nat) {a : List UInt8} (h : Wds [cTrc, a]) : xC2 F (bs (xAl 32 [cTrc, a])) = some (bs a) := by
 unfold xC2;rw [szw _ (Nat.le_trans h.2 (by decide)), cond_true, spw _ (by simp) h.1];rfl
theorem xMb (F : Nat) {a b c : List UInt8} (h : Wds [xVq, a, b, c]) : xCi F (bs (xAl 32 [xVq, a, b, c])) = some (bs a, (bs b, bs c)) := by
 unfold xCi;rw [szw _ (Nat.le_trans h.2 (by decide)), cond_true, spw _ (by simp) h.1];rfl
theorem noI {α : Type} {x : Option α} (h : x = none := by simp only [xC4, xC3, xCh, xC2, xCi]; rw [szw _ (Nat.le_trans (And.right ‹Wds _›) (by decide)), cond_true, spw _ (by exact List.cons_ne_nil _ _) (And.left ‹Wds _›)]; rfl) : x = none := h
section
variable (F : Nat) (x : ByteArray) (hx : x.size <= 2000) (σ : Tst0) (lots : Tlo) (I wf : Tnm) (a0 : Ta0) (a1 : Ta1) (a2 : List Tig) (a3 : Ta3) (a4 : Ta4)
include hx
theorem xPC (h : xC3 F x = none) : xCV F x σ lots I wf a0 a1 a2 a3 a4 = none := by
 unfold xCV;refine xAs (decide_eq_false (by omega)) ?_;rw [h]
theorem xOv (h : xCh F x = none) : xB4 F x σ lots I wf a0 a1 a2 a3 a4 = none := by
 unfold xB4;refine xAs (decide_eq_false (by omega)) ?_;rw [h]
theorem trc_no (h : xC2 F x = none) : xCT F x σ lots I wf a0 a1 a2 a3 a4 = none := by
 unfold xCT;refine xAs (decide_eq_false (by omega)) ?_;rw [h]
theorem best_no (h : xCi F x = none) : xB5 F x σ lots I wf a0 a1 a2 a3 a4 = none := by
 unfold xB5;refine xAs (decide_eq_false (by omega)) ?_;rw [h]
end
theorem xA6 {β : Type} {x y r : Option β} (h : x = none) (k : y = r) : orS x y = r := by rw [h]; exact k
theorem xFK {β : Type} {x y : Option β} {r : β} (h : x = some r) : orS x y = some r := by rw [h]; rfl
def xOj (c : List UInt8) (n : Int) : List (List UInt8) := [c, itoa n]
theorem xKQ {c : List UInt8} {n : Int} (hc : (32 : UInt8) ∉ c) (hl : c.length <= 10) (hn : Nm n) : Wds (xOj c n) /\ (xAl 32 (xOj c n)).length <= 200 := by
 have h1 := xAU n hn;have hl : (xAl 32 (xOj c n)).length <= 200 := by simp [xAl, xOj]; omega
 refine ⟨⟨fun x hx => ?_, Nat.le_trans hl (by decide)⟩, hl⟩;simp only [xOj, List.mem_cons, List.not_mem_nil, or_false] at hx;rcases hx with rfl | rfl
 ·exact hc
 ·exact xBH _ _ (by decide)
def xR1 (c m : Int) (b : Tb) (k : Int) (ps : List Int) : List (List UInt8) := [cRet, itoa c, itoa m, bdT b, itoa k, xHg ps]
theorem xTb {c m k : Int} {b : Tb} {ps : List Int} (hc : Nm c) (hm : Nm m) (hb : NmB b) (hk : Nm k) (hp : NmL ps) (hl : ps.length <= 50) : Wds (xR1 c m b k ps) /\ (xAl 32 (xR1 c m b k ps)).length <= 1900 := by
 have h1 := xAU c hc;have h2 := xAU m hm;have h3 := xAU k hk;have h4 := xI1 b hb;have h5 := xEI hp;have hl : (xAl 32 (xR1 c m b k ps)).length <= 1900 := by simp [xAl, xR1, cRet]; omega
 refine ⟨⟨fun x hx => ?_, Nat.le_trans hl (by decide)⟩, hl⟩;simp only [xR1, List.mem_cons, List.not_mem_nil, or_false] at hx;rcases hx with rfl | rfl | rfl | rfl | rfl | rfl
 ·decide
 ·exact xBH _ _ (by decide)
 ·exact xBH _ _ (by decide)
 ·exact xVF _ _ (by decide)
 ·exact xBH _ _ (by decide)
 ·exact xT2 _ _ (by decide)
def xD7 (r : Int × Int) (b : Tb) (ps : List Int) : List (List UInt8) := [xVq, rgT r, bdT b, xHg ps]
theorem xNG {r : Int × Int} {b : Tb} {ps : List Int} (h1 : Nm r.1) (h2 : Nm r.2) (hb : NmB b) (hp : NmL ps) (hl : ps.length <= 50) : Wds (xD7 r b ps) /\ (xAl 32 (xD7 r b ps)).length <= 1900 := by
 have h3 := xCp r h1 h2;have h4 := xI1 b hb;have h5 := xEI hp;have hl : (xAl 32 (xD7 r b ps)).length <= 1900 := by simp [xAl, xD7, xVq]; omega
 refine ⟨⟨fun x hx => ?_, Nat.le_trans hl (by decide)⟩, hl⟩;simp only [xD7, List.mem_cons, List.not_mem_nil, or_false] at hx;rcases hx with rfl | rfl | rfl | rfl
 ·decide
 ·exact xS9 _ _ (by decide)
 ·exact xVF _ _ (by decide)
 ·exact xT2 _ _ (by decide)
def xV4 (pks : List (Int × Int)) : List (List UInt8) := [xLB, cK1, pkT pks]
theorem xVe {pks : List (Int × Int)} (hN : NmP pks) (hl : pks.length <= 20) : Wds (xV4 pks) /\ (xAl 32 (xV4 pks)).length <= 1900 := by
 have h1 := xDV 44 pk1 35 pks (fun p hp => xKM (hN p hp));have h2 : (pkT pks).length <= 36 * pks.length := h1;have hl : (xAl 32 (xV4 pks)).length <= 1900 := by simp [xAl, xV4, xLB, cK1]; omega
 refine ⟨⟨fun x hx => ?_, Nat.le_trans hl (by decide)⟩, hl⟩;simp only [xV4, List.mem_cons, List.not_mem_nil, or_false] at hx;rcases hx with rfl | rfl | rfl
 ·decide
 ·decide
 ·exact xK6 44 32 pk1 (by decide) pks (fun p _ => pk1_no _ _ (by decide))
section
variable (F : Nat)
theorem lotsL (X) (g1 g2 g3 g5) (ps : List Int) (hN : NmL ps) (hl : ps.length <= 1000) : ∀ (j k i : Nat) (acc : List (Int × Int)), i + j = ps.length -> j < k -> acc.length <= i ->
  xDQ F ((ps.map (fun n => bs (itoa n))).length - 0 : Int) X g1 g2 g3 g5 (ps.map (fun n => bs (itoa n))) k (i : Int) acc = some (.inr (X, (g1, (g2, (g3, (g5, acc ++ (ps.drop i).map (fun n => (n, 0))))))))
 | _, 0, _, _, _, h, _ => absurd h (Nat.not_lt_zero _)
 | 0, k + 1, i, acc, hi, _, _ => by
  rw [xDQ];refine xAs (decide_eq_false (by simp; omega)) ?_;rw [List.drop_eq_nil_of_le (by omega), List.map_nil, List.append_nil]
 | j + 1, k + 1, i, acc, hi, hj, ha => by
  have hlt : i < ps.length := by omega
  have hn := hN _ (xKR hlt (0 : Int));have ih := lotsL X g1 g2 g3 g5 ps hN hl j k (i + 1) (acc ++ [(nth ps 0 i, 0)]) (by omega) (by omega) (by simp; omega);rw [xDQ];refine xAd (decide_eq_true (by simp; omega)) ?_;refine xAd (by simp [inB]; omega) ?_;have e1 : nth (ps.map (fun n => bs (itoa n))) (TC.dflt .str) (i : Int).toNat = bs (itoa (nth ps 0 i)) := xTJ _ _ _ _ hlt;rw [e1];refine xAf (xAD F _ hn.1 hn.2) ?_;refine xAs rfl ?_;refine xAd (by simp [xAR]; omega) ?_;rw [show jI.wrap ((i : Int) + 1) = ((i + 1 : Nat) : Int) by rw [IntKind.wrap_i64]; omega];refine Eq.trans ih ?_;rw [xD3 ps 0 hlt];simp
theorem xT3 (hF : 2000 < F) (g1 g2 g3) (ps : List Int) (h0 : ps ≠ []) (hN : NmL ps) (hl : ps.length <= 1000) : xGq F (bs (xHg ps)) zX g1 g2 g3 [] [] = some (true, (zX2, ps.map (fun n => (n, 0)))) := by
 have hl0 : ps.length ≠ 0 := fun e => h0 (List.length_eq_zero_iff.1 e);have hs : xBZ F (bs (xHg ps)) (ByteArray.mk (Array.mk (44 :: []))) = some ((ps.map itoa).map bs) := by
  unfold xHg;rw [if_neg hl0];refine xH4 F 44 (ps.map itoa) (by simpa using h0) (fun x hx => ?_) ?_
  ·obtain ⟨p, _, rfl⟩ := List.mem_map.1 hx;exact xBH _ _ (by decide)
  ·have := xDV 44 itoa 17 ps (fun p hp => xAU p (hN p hp));omega
 unfold xGq;refine xAf hs ?_;rw [List.map_map];have := lotsL F zX2 g1 g2 g3 [] ps hN hl ps.length F 0 [] (by omega) (by omega) (by simp);exact xAf this rfl
theorem listTL (l : List Int) (hN : NmL l) (hl : l.length <= 1000) : ∀ (j k i : Nat) (acc : List ByteArray), i + j = l.length -> j < k -> acc.length <= i ->
  xDT F l k (i : Int) acc = some (l, acc ++ (l.drop i).map (fun n => bs (itoa n)))
 | _, 0, _, _, _, h, _ => absurd h (Nat.not_lt_zero _)
 | 0, k + 1, i, acc, hi, _, _ => by
  rw [xDT];refine xAs (decide_eq_false (by omega)) ?_;rw [List.drop_eq_nil_of_le (by omega), List.map_nil, List.append_nil]
 | j + 1, k + 1, i, acc, hi, hj, ha => by
  have hlt : i < l.length := by omega
  have hn := hN _ (xKR hlt (0 : Int));have ih := listTL l hN hl j k (i + 1) (acc ++ [bs (itoa (nth l 0 i))]) (by omega) (by omega) (by simp; omega);rw [xDT];refine xAd (decide_eq_true (by omega)) ?_;refine xAd (by simp [inB]; omega) ?_;refine xAf (xBx F _ hn) ?_;refine xAd (by simp [xAR]; omega) ?_;rw [show jI.wrap ((i : Int) + 1) = ((i + 1 : Nat) : Int) by rw [IntKind.wrap_i64]; omega];refine Eq.trans ih ?_;rw [xD3 l 0 hlt];simp
theorem xK3 (hF : 2000 < F) (l : List Int) (hN : NmL l) (hl : l.length <= 1000) : xEq F l = some (bs (xHg l)) := by
 have := listTL F l hN hl l.length F 0 [] (by omega) (by omega) (by simp);unfold xEq xHg;refine xAf this ?_;rw [List.drop_zero, List.nil_append];by_cases h0 : l.length = 0
 ·rw [if_pos h0];exact xAd (bq (by show (((l.map (fun n => bs (itoa n))).length : Int) - 0) = 0; rw [List.length_map]; omega)) rfl
 ·rw [if_neg h0];refine xAs (bn (by show ¬ (((l.map (fun n => bs (itoa n))).length : Int) - 0) = 0; rw [List.length_map]; omega)) ?_;exact xAf (joinL F l hN hl) rfl
variable (σ : Tst0) (lots : Tlo) (I wf : Tnm) (a0 : Ta0) (a1 : Ta1) (a2 : List Tig) (a3 : Ta3) (a4 : Ta4)
theorem xJW {n : Int} (hn : Nm n) {l : QL} {e : Int} {q m' a0' a1'} (hr : xFA F n σ lots a0 a1 = some ((l, e), (q, (m', (a0', a1'))))) (hl : Nm l.1) :
  xB4 F (bs (xAl 32 (xOj xNB n))) σ lots I wf a0 a1 a2 a3 a4 = some (bif (e != 0) then ((bs [], e), (q, (m', (I, (wf, (a0', (a1', (a2, (a3, a4))))))))) else ((bs (itoa l.1), 0), (q, (m', (I, (wf, (a0', (a1', (a2, (a3, a4)))))))))) := by
 obtain ⟨hw, hlen⟩ := xKQ (c := xNB) (by decide) (by decide) hn;unfold xB4;refine xAs (decide_eq_false (by rw [xAC]; omega)) ?_;unfold xOj at hw;refine xAf (xL6 F hw) ?_;refine xAf (xAD F n hn.1 hn.2) ?_
 try simp only [Bool.not_true, Bool.not_false, cond_false, cond_true]
 refine xAf (hr) ?_
 try simp only [Bool.not_true, Bool.not_false, cond_false, cond_true]
 refine xAf (xEL F l.1 hl.i64) ?_
 try simp only [Bool.not_true, Bool.not_false, cond_false, cond_true]
 cases (e != 0) <;> rfl
theorem xMO (hF : 2000 < F) {n : Int} (hn : Nm n) {e : Int} {tr : List Int} {q m' a0' a1'} (hr : xDM F n σ lots a0 a1 = some (e, (q, (m', (a0', (a1', tr)))))) (hl : NmL tr) (hk : tr.length <= 1000) :
  xCT F (bs (xAl 32 (xOj cTrc n))) σ lots I wf a0 a1 a2 a3 a4 = some (bif (e != 0) then ((bs [], e), (q, (m', (I, (wf, (a0', (a1', (a2, (a3, a4))))))))) else ((bs (xHg tr), 0), (q, (m', (I, (wf, (a0', (a1', (a2, (a3, a4)))))))))) := by
 obtain ⟨hw, hlen⟩ := xKQ (c := cTrc) (by decide) (by decide) hn;unfold xCT;refine xAs (decide_eq_false (by rw [xAC]; omega)) ?_;unfold xOj at hw;refine xAf (xQ5 F hw) ?_;refine xAf (xAD F n hn.1 hn.2) ?_
 try simp only [Bool.not_true, Bool.not_false, cond_false, cond_true]
 refine xAf (hr) ?_
 try simp only [Bool.not_true, Bool.not_false, cond_false, cond_true]
 refine xAf (xUd F hF tr hl hk) ?_
 try simp only [Bool.not_true, Bool.not_false, cond_false, cond_true]
 cases (e != 0) <;> rfl
theorem xMR (hF : 2000 < F) {c m k : Int} {b : Tb} {ps : List Int} (hc : Nm c) (hm : Nm m) (hb : NmB b) (hk : Nm k) (h0 : ps ≠ []) (hp : NmL ps) (hl : ps.length <= 50) {n e : Int} {q m' a0' a1'} (hr : xCj F (c, (m, (b, k))) σ lots ps a0 a1 = some ((n, e), (q, (m', (a0', a1'))))) (hn : Nm n) :
  xCV F (bs (xAl 32 (xR1 c m b k ps))) σ lots I wf a0 a1 a2 a3 a4 = some (bif (e != 0) then ((bs [], e), (q, (m', (I, (wf, (a0', (a1', (a2, (a3, a4))))))))) else ((bs (itoa n), 0), (q, (m', (I, (wf, (a0', (a1', (a2, (a3, a4)))))))))) := by
 obtain ⟨hw, hlen⟩ := xTb hc hm hb hk hp hl;unfold xCV;refine xAs (decide_eq_false (by rw [xAC]; omega)) ?_;unfold xR1 at hw;refine xAf (xQ7 F hw) ?_;refine xAf (xAD F c hc.1 hc.2) ?_
 try simp only [Bool.not_true, Bool.not_false, cond_false, cond_true]
 refine xAf (xAD F m hm.1 hm.2) ?_
 try simp only [Bool.not_true, Bool.not_false, cond_false, cond_true]
 refine xAf (xKz F b hb) ?_
 try simp only [Bool.not_true, Bool.not_false, cond_false, cond_true]
 refine xAs rfl ?_;refine xAd rfl ?_;refine xAf (xAX F b.1 hb.1 hb.2.1) ?_
 try simp only [Bool.not_true, Bool.not_false, cond_false, cond_true]
 refine xAd rfl ?_;refine xAf (xAX F b.2.1 hb.2.2.1 hb.2.2.2.1) ?_
 try simp only [Bool.not_true, Bool.not_false, cond_false, cond_true]
 refine xAd rfl ?_;refine xAf (xAX F b.2.2 hb.2.2.2.2.1 hb.2.2.2.2.2) ?_
 try simp only [Bool.not_true, Bool.not_false, cond_false, cond_true]
 refine xAf (xAD F k hk.1 hk.2) ?_
 try simp only [Bool.not_true, Bool.not_false, cond_false, cond_true]
 refine xAf (xT3 F hF (((c :: []) ++ (m :: [])) ++ (k :: [])) [] ((b.1, (b.2.1, b.2.2)) :: []) ps h0 hp (by omega)) ?_
 try simp only [Bool.not_true, Bool.not_false, cond_false, cond_true]
 refine xAd (by cases ps with | nil => exact absurd rfl h0 | cons _ _ => rfl) ?_;obtain ⟨X, hf, _⟩ := xLh F hF zX (((c :: []) ++ (m :: [])) ++ (k :: [])) [] ((b.1, (b.2.1, b.2.2)) :: []) [] (ps.map (fun n => (n, (0 : Int)))) (by simp; omega);refine xAf (hf) ?_
 try simp only [Bool.not_true, Bool.not_false, cond_false, cond_true]
 have e1 : (ps.map (fun n => (n, (0 : Int)))).map Prod.fst = ps := by simp [Function.comp_def]
 rw [e1];refine xAf (hr) ?_
 try simp only [Bool.not_true, Bool.not_false, cond_false, cond_true]
 refine xAf (xEL F n hn.i64) ?_
 try simp only [Bool.not_true, Bool.not_false, cond_false, cond_true]
 cases (e != 0) <;> rfl
end
end
section
open Go.RowKit Go.Proofs Go.Lib M3
section
variable {es : List (QL × List Int)} {O : List Nat} {m : QM} {a0 : Q0} {a1 : Q1}
variable (F : Nat) (I wf : Tnm) (a2 : List Tig) (a3 : Ta3) (a4 : Ta4)
theorem bestL (X) (g6 g7 g8 g9 g10) (P) (h : Rep es O m a0 a1) (σ : QP) (ps : List Int) (hp : ∀ n ∈ ps, xDk n es.length = true) (hl : ps.length <= 1000) : ∀ (j k i : Nat) (acc : List QL), i + j = ps.length -> j < k -> acc.length <= i ->
  xD4 F (ps.length - 0 : Int) I wf X g6 g7 g8 g9 g10 a2 a3 a4 P ps k (i : Int) (p7 σ) m a0 a1 acc = some (.inr (p7 σ, (m, (I, (wf, (X, (g6, (g7, (g8, (g9, (g10, (a0, (a1, (a2, (a3, (a4, (P, acc ++ (ps.drop i).map (xAr es))))))))))))))))))
 | _, 0, _, _, _, h, _ => absurd h (Nat.not_lt_zero _)
 | 0, k + 1, i, acc, hi, _, _ => by
  rw [xD4];refine xAs (decide_eq_false (by omega)) ?_;rw [List.drop_eq_nil_of_le (by omega), List.map_nil, List.append_nil]
 | j + 1, k + 1, i, acc, hi, hj, ha => by
  have hlt : i < ps.length := by omega
  have hn := hp _ (xKR hlt (0 : Int));have ih := bestL X g6 g7 g8 g9 g10 P h σ ps hp hl j k (i + 1) (acc ++ [xAr es (nth ps 0 i)]) (by omega) (by omega) (by simp; omega);rw [xD4];refine xAd (decide_eq_true (by omega)) ?_;refine xAd (by simp [inB]; omega) ?_;have hq := xWI F (nth ps 0 i) σ h;rw [hn] at hq;refine xAf hq ?_;refine xAs rfl ?_;refine xAd (by simp [xAR]; omega) ?_;rw [show jI.wrap ((i : Int) + 1) = ((i + 1 : Nat) : Int) by rw [IntKind.wrap_i64]; omega];refine Eq.trans ih ?_;rw [xD3 ps 0 hlt];simp
theorem xRA (hF : 2000 < F) (h : Rep es O m a0 a1) (σ : QP) {r : Int × Int} {b : Tb} {ps : List Int} (h1 : Nm r.1) (h2 : Nm r.2) (hb : NmB b) (h0 : ps ≠ []) (hpN : NmL ps) (hp : ∀ n ∈ ps, xDk n es.length = true) (hl : ps.length <= 50)
  {co e : Int} {c : List Int} (hs : xF4 F (r, b) (ps.map (xAr es)) = some ((co, e), c)) (hc : NmL c) (hcl : c.length <= 50) (hco : Nm co) :
  xB5 F (bs (xAl 32 (xD7 r b ps))) σ m I wf a0 a1 a2 a3 a4 = some (bif (e != 0) then ((bs [], e), (p7 σ, (m, (I, (wf, (a0, (a1, (a2, (a3, a4))))))))) else ((bs (xHg c) ++ B_0 ++ bs (itoa co), 0), (p7 σ, (m, (I, (wf, (a0, (a1, (a2, (a3, a4)))))))))) := by
 obtain ⟨hw, hlen⟩ := xNG h1 h2 hb hpN hl;have hlc := xEI hc;have hlo := xAU co hco;unfold xB5;refine xAs (decide_eq_false (by rw [xAC]; omega)) ?_;unfold xD7 at hw;refine xAf (xMb F hw) ?_;refine xAf (xAX F r h1 h2) ?_
 try simp only [Bool.not_true, Bool.not_false, cond_false, cond_true]
 refine xAf (xKz F b hb) ?_
 try simp only [Bool.not_true, Bool.not_false, cond_false, cond_true]
 refine xAs rfl ?_;refine xAd rfl ?_;refine xAf (xAX F b.1 hb.1 hb.2.1) ?_
 try simp only [Bool.not_true, Bool.not_false, cond_false, cond_true]
 refine xAd rfl ?_;refine xAf (xAX F b.2.1 hb.2.2.1 hb.2.2.2.1) ?_
 try simp only [Bool.not_true, Bool.not_false, cond_false, cond_true]
 refine xAd rfl ?_;refine xAf (xAX F b.2.2 hb.2.2.2.2.1 hb.2.2.2.2.2) ?_
 try simp only [Bool.not_true, Bool.not_false, cond_false, cond_true]
 refine xAf (xT3 F hF [] (r :: []) ((b.1, (b.2.1, b.2.2)) :: []) ps h0 hpN (by omega)) ?_
 try simp only [Bool.not_true, Bool.not_false, cond_false, cond_true]
 have key : xI0 F σ m I wf zX [] (r :: []) ((b.1, (b.2.1, b.2.2)) :: []) (ps.map (fun n => (n, (0 : Int)))) [] a0 a1 a2 a3 a4 = some ((bs (xHg c) ++ B_0 ++ bs (itoa co), e), (p7 σ, (m, (I, (wf, (zX2, (a2, (a3, (a4, (a0, a1)))))))))) := by
  unfold xI0;refine xAd rfl ?_;refine xAd rfl ?_;obtain ⟨X, hf, hX⟩ := xLh F hF zX [] (r :: []) ((b.1, (b.2.1, b.2.2)) :: []) [] (ps.map (fun n => (n, (0 : Int)))) (by simp; omega);subst hX;refine xAf hf ?_;have e1 : (ps.map (fun n => (n, (0 : Int)))).map Prod.fst = ps := by simp [Function.comp_def]
  rw [e1];have hL := bestL F I wf a2 a3 a4 zX2 [] (r :: []) ((b.1, (b.2.1, b.2.2)) :: []) (ps.map (fun n => (n, (0 : Int)))) [] (r.1, (r.2, (b.1.1, (b.1.2, (b.2.1.1, (b.2.1.2, b.2.2)))))) h σ ps hp (by omega) ps.length F 0 [] (by omega) (by omega) (by simp);refine xAf hL ?_;refine xAf hs ?_;refine xAf (xUd F hF c hc (by omega)) ?_;refine xAd (decide_eq_true (by rw [xAC]; omega)) ?_;refine xAf (xEL F co hco.i64) ?_;refine xAd szT ?_;rfl
 refine xAf (key) ?_
 try simp only [Bool.not_true, Bool.not_false, cond_false, cond_true]
 cases (e != 0) <;> rfl
end
end
section
open Go.RowKit Go.Proofs Go.Lib M3
section
variable {es : List (QL × List Int)} {O : List Nat} {m : QM} {a0 : Q0} {a1 : Q1}
variable (F : Nat) (I wf : Tnm) (a2 : List Tig) (a3 : Ta3) (a4 : Ta4) (names : List ByteArray)
theorem xWl {α β : Type} (f : α -> β) (l : List α) (i : Nat) : (l.map f).take i = (l.take i).map f := by simp
theorem pileL (h : Rep es O m a0 a1) (hes : es.length <= 1000) (σ : QP) (hF : 2000 < F) (pks : List (Int × Int)) (hl : pks.length <= 1000) : ∀ (j k i : Nat) (D : Q7) (seen : List Int), i + j = pks.length -> j < k -> (∀ x, x ∈ seen ↔ x ∈ (pks.take i).map Prod.fst) ->
  (qdr es seen (pks.drop i) = 0 /\ xBS F (pks.length - 0 : Int) I wf [] [] [] pks names a2 a3 a4 k (i : Int) (p7 σ) m zX2 a0 a1 (pks.take i) (v7 (w7 D)) = some (.inr (p7 σ, m, I, wf, zX2, [], [], [], pks, names, a0, a1, a2, a3, a4, pks, v7 (w7 (drawn es D (pks.drop i))))))
  \/ (qdr es seen (pks.drop i) ≠ 0 /\ ∃ X p, xBS F (pks.length - 0 : Int) I wf [] [] [] pks names a2 a3 a4 k (i : Int) (p7 σ) m zX2 a0 a1 (pks.take i) (v7 (w7 D)) = some (.inl (qdr es seen (pks.drop i), p7 σ, m, I, wf, X, [], [], [], pks, names, a2, a3, a4, a0, a1, p)))
 | _, 0, _, _, _, _, h, _ => absurd h (Nat.not_lt_zero _)
 | 0, k + 1, i, D, seen, hi, _, _ => by
  left;rw [List.drop_eq_nil_of_le (by omega), List.take_of_length_le (by omega)];refine ⟨rfl, ?_⟩;rw [xBS];refine xAs (decide_eq_false (by omega)) ?_;rfl
 | j + 1, k + 1, i, D, seen, hi, hj, hs => by
  have hlt : i < pks.length := by omega
  rw [xD3 pks dPk hlt];have hlot := xWI F (nth pks dPk i).1 σ h;simp only [qdr]
  cases hn : xDk (nth pks dPk i).1 es.length with
  | false =>
   right;refine ⟨by simp, zX2, v7 (w7 D), ?_⟩;rw [hn, cond_false] at hlot;rw [xBS];refine xAd (decide_eq_true (by omega)) ?_;refine xAd (by simp [inB]; omega) ?_;refine xAf hlot ?_;rfl
  | true =>
   rw [hn, cond_true] at hlot;have hfi := xXu F hF names pks hl;have hct := q_cont F i (nth pks dPk i).1 (pks.map Prod.fst) (by simp; omega) (by omega) (by omega);have hmem : decide ((nth pks dPk i).1 ∈ (pks.map Prod.fst).take i) = decide ((nth pks dPk i).1 ∈ seen) := by
    rw [xWl];exact decide_eq_decide.2 (hs _).symm
   rw [hmem] at hct;simp only [Bool.not_true, cond_false];have stepX : ∀ {z}, (bif decide ((nth pks dPk i).1 ∈ seen) then (some (.inl ((6 : Int), p7 σ, m, I, wf, zX2, [], [], [], pks, names, a2, a3, a4, a0, a1, v7 (w7 D)))) else
     (bif decide ((nth pks dPk i).2 < (1 : Int)) then (some (.inl ((3 : Int), p7 σ, m, I, wf, zX2, [], [], [], pks, names, a2, a3, a4, a0, a1, v7 (w7 D)))) else
     (bif decide ((nth pks dPk i).2 > (xAr es (nth pks dPk i).1).1) then (some (.inl ((22 : Int), p7 σ, m, I, wf, zX2, [], [], [], pks, names, a2, a3, a4, a0, a1, v7 (w7 D)))) else
     (xBS F (pks.length - 0 : Int) I wf [] [] [] pks names a2 a3 a4 k ((i + 1 : Nat) : Int) (p7 σ) m zX2 a0 a1 (pks.take (i + 1)) (v7 (w7 (a7 D (m7 (nth pks dPk i).2 (xAr es (nth pks dPk i).1))))))))) = z -> xBS F (pks.length - 0 : Int) I wf [] [] [] pks names a2 a3 a4 (k + 1) (i : Int) (p7 σ) m zX2 a0 a1 (pks.take i) (v7 (w7 D)) = z := by
    intro z hz;rw [xBS];refine xAd (decide_eq_true (by omega)) ?_;refine xAd (by simp [inB]; omega) ?_;refine xAf hlot ?_;refine xAs rfl ?_;refine xAf hfi ?_;refine xAd (by simp [inC]; omega) ?_;refine xAf hct ?_;rw [<- hz];have e8 : w7 (a7 D (m7 (nth pks dPk i).2 (xAr es (nth pks dPk i).1))) = w7 (a7 (w7 D) (w7 (m7 (nth pks dPk i).2 (xAr es (nth pks dPk i).1)))) := by rw [w7b, w7a]
    rw [e8];have e9 : pks.take (i + 1) = pks.take i ++ [nth pks dPk i] := by
     rw [List.take_succ_eq_append_getElem hlt, xAG pks dPk i hlt]
    rw [e9]
    cases decide ((nth pks dPk i).1 ∈ seen) with
    | true => rfl
    | false =>
     show (bif decide ((nth pks dPk i).2 < (1 : Int)) then _ else _) = _
     cases decide ((nth pks dPk i).2 < (1 : Int)) with
     | true => rfl
     | false =>
      show (bif decide ((nth pks dPk i).2 > (xAr es (nth pks dPk i).1).1) then _ else _) = _
      cases decide ((nth pks dPk i).2 > (xAr es (nth pks dPk i).1).1) with
      | true => rfl
      | false =>
       refine xAs rfl (xAd (by simp [xAR]; omega) ?_);rw [show jI.wrap ((i : Int) + 1) = ((i + 1 : Nat) : Int) by rw [IntKind.wrap_i64]; omega];rfl
   by_cases h1 : (nth pks dPk i).1 ∈ seen
   ·right;rw [decide_eq_true h1, cond_true];refine ⟨by decide, zX2, v7 (w7 D), stepX ?_⟩;rw [decide_eq_true h1, cond_true]
   ·rw [decide_eq_false h1] at stepX ⊢;simp only [cond_false] at stepX ⊢;by_cases h2 : (nth pks dPk i).2 < 1
    ·right;rw [decide_eq_true h2, cond_true];refine ⟨by decide, zX2, v7 (w7 D), stepX ?_⟩;rw [decide_eq_true h2, cond_true]
    ·rw [decide_eq_false h2] at stepX ⊢;simp only [cond_false] at stepX ⊢;by_cases h3 : (nth pks dPk i).2 > (xAr es (nth pks dPk i).1).1
     ·right;rw [decide_eq_true h3, cond_true];refine ⟨by decide, zX2, v7 (w7 D), stepX ?_⟩;rw [decide_eq_true h3, cond_true]
     ·rw [decide_eq_false h3] at stepX ⊢;simp only [cond_false] at stepX ⊢;have hs' : ∀ x, x ∈ xLI (nth pks dPk i).1 seen ↔ x ∈ (pks.take (i + 1)).map Prod.fst := by
       intro x;rw [xFU, hs, List.take_succ_eq_append_getElem hlt, xAG pks dPk i hlt];simp only [List.map_append, List.map_cons, List.map_nil, List.mem_append, List.mem_singleton];exact Or.comm
      rcases pileL h hes σ hF pks hl j k (i + 1) (a7 D (m7 (nth pks dPk i).2 (xAr es (nth pks dPk i).1))) _ (by omega) (by omega) hs' with ⟨g1, g2⟩ | ⟨g1, X, p, g2⟩
      ·exact .inl ⟨g1, stepX g2⟩
      ·exact .inr ⟨g1, X, p, stepX g2⟩
theorem pileW_g (h : Rep es O m a0 a1) (hes : es.length <= 1000) (σ : QP) (hF : 2000 < F) (pks : List (Int × Int)) (hl : pks.length <= 1000) :
  (qdr es [] pks = 0 /\ xFc F σ m I wf zX [] [] [] pks names a0 a1 a2 a3 a4 = some ((v7 (w7 (drawn es z7 pks)), 0), p7 σ, m, I, wf, zX2, a2, a3, a4, a0, a1, pks))
  \/ (qdr es [] pks ≠ 0 /\ ∃ X p, xFc F σ m I wf zX [] [] [] pks names a0 a1 a2 a3 a4 = some ((p, qdr es [] pks), p7 σ, m, I, wf, X, a2, a3, a4, a0, a1, [])) := by
 rcases pileL F I wf a2 a3 a4 names h hes σ hF pks hl pks.length F 0 z7 [] (by omega) (by omega) (by simp) with ⟨g1, g2⟩ | ⟨g1, X, p, g2⟩
 ·left;rw [List.drop_zero] at g1 g2;refine ⟨g1, ?_⟩;unfold xFc;refine xAf g2 ?_;rfl
 ·right;rw [List.drop_zero] at g1 g2;refine ⟨g1, X, p, ?_⟩;unfold xFc;refine xAf g2 ?_;rfl
end
end
section
open Go.RowKit Go.Proofs Go.Lib M3
def bigB (P : QP) : Bool := decide (P.2.1.2 > 1000000000000) || (decide (P.2.2.1.2 > 1000000000000) || decide (P.2.2.2.2 > 1000000000000))
theorem cfC_g (F : Nat) (hF : 2000 < F) (x y z : Int × Int) : xVl F (x :: (y :: (z :: []))) = some (decide (x.2 > 1000000000000) || (decide (y.2 > 1000000000000) || decide (z.2 > 1000000000000))) := by
 obtain ⟨n, rfl⟩ : ∃ n, F = n + 5 := ⟨F - 5, by omega⟩;have key : ∃ o, xCX (n + 5) (((x :: (y :: (z :: []))).length - 0 : Int)) (x :: (y :: (z :: []))) (n + 5) 0 = some o /\ ((o = .inr (x :: (y :: (z :: []))) /\ (decide (x.2 > 1000000000000) || (decide (y.2 > 1000000000000) || decide (z.2 > 1000000000000))) = false) \/ (∃ k, 0 <= k /\ o = .inl (k, x :: (y :: (z :: []))) /\ (decide (x.2 > 1000000000000) || (decide (y.2 > 1000000000000) || decide (z.2 > 1000000000000))) = true)) := by
  by_cases h1 : x.2 > 1000000000000
  ·refine ⟨.inl (0, _), ?_, .inr ⟨0, by decide, rfl, by rw [decide_eq_true h1]; rfl⟩⟩;rw [xCX];exact xAd rfl (xAd rfl (xAd (decide_eq_true h1) rfl))
  ·by_cases h2 : y.2 > 1000000000000
   ·refine ⟨.inl (1, _), ?_, .inr ⟨1, by decide, rfl, by rw [decide_eq_true h2, decide_eq_false h1]; rfl⟩⟩;rw [xCX];refine xAd rfl (xAd rfl (xAs (decide_eq_false h1) ?_));rw [show jI.wrap (0 + 1) = 1 from rfl, xCX];exact xAd rfl (xAd rfl (xAd (decide_eq_true h2) rfl))
   ·by_cases h3 : z.2 > 1000000000000
    ·refine ⟨.inl (2, _), ?_, .inr ⟨2, by decide, rfl, by rw [decide_eq_true h3, decide_eq_false h1, decide_eq_false h2]; rfl⟩⟩;rw [xCX];refine xAd rfl (xAd rfl (xAs (decide_eq_false h1) ?_));rw [show jI.wrap (0 + 1) = 1 from rfl, xCX];refine xAd rfl (xAd rfl (xAs (decide_eq_false h2) ?_));rw [show jI.wrap (1 + 1) = 2 from rfl, xCX];exact xAd rfl (xAd rfl (xAd (decide_eq_true h3) rfl))
    ·refine ⟨.inr _, ?_, .inl ⟨rfl, by rw [decide_eq_false h3, decide_eq_false h1, decide_eq_false h2]; rfl⟩⟩;rw [xCX];refine xAd rfl (xAd rfl (xAs (decide_eq_false h1) ?_));rw [show jI.wrap (0 + 1) = 1 from rfl, xCX];refine xAd rfl (xAd rfl (xAs (decide_eq_false h2) ?_));rw [show jI.wrap (1 + 1) = 2 from rfl, xCX];refine xAd rfl (xAd rfl (xAs (decide_eq_false h3) ?_));rw [show jI.wrap (2 + 1) = 3 from rfl, xCX];rfl
 obtain ⟨o, ho, hc⟩ := key;unfold xVl xXj;rw [ho];rcases hc with ⟨rfl, e⟩ | ⟨k, hk, rfl, e⟩
 ·rw [e]; rfl
 ·rw [e];show some (decide (k >= 0)) = _;rw [decide_eq_true hk]
theorem wrap_rg (x : Int) : -9223372036854775808 <= jI.wrap x /\ jI.wrap x <= 9223372036854775807 := by rw [IntKind.wrap_i64]; omega
section
variable {es : List (QL × List Int)} {O : List Nat} {m : QM} {a0 : Q0} {a1 : Q1}
variable (F : Nat)
theorem drawL (q : Q7) (I wf : Tnm) (a0 : Q0) (A : Q1) (P : QP) (pks : List (Int × Int)) (hl : pks.length <= 1000) : ∀ (j k i : Nat) (X : List (Int × Bool)), i + j = pks.length -> j < k ->
  ∃ X', xDc F 1 (pks.length - 0 : Int) q m I wf pks [(P, (0, (A.length + 1, (0, (0, false)))))] [] [] a0 k (i : Int) (A ++ [some X]) = some (q, (m, (I, (wf, (pks, ([(P, (0, (A.length + 1, (0, (0, false)))))], ([], ([], (a0, A ++ [some X'])))))))))
 | _, 0, _, _, _, h => absurd h (Nat.not_lt_zero _)
 | 0, k + 1, i, X, hi, _ => by
  refine ⟨X, ?_⟩;rw [xDc];exact xAs (decide_eq_false (by omega)) rfl
 | j + 1, k + 1, i, X, hi, hj => by
  have hlt : i < pks.length := by omega
  obtain ⟨X', ih⟩ := drawL q I wf a0 A P pks hl j k (i + 1) (xHh (.i .i64) (nth pks dPk i).1 true X) (by omega) (by omega);refine ⟨X', ?_⟩;rw [xDc];refine xAd (decide_eq_true (by omega)) ?_;refine xAd (by simp [inB]; omega) ?_;refine xAd rfl (xAd rfl (xAd rfl (xAd rfl ?_)));refine xAd (xUc A X) ?_;rw [show jI.wrap ((i : Int) + 1) = ((i + 1 : Nat) : Int) by rw [IntKind.wrap_i64]; omega];refine Eq.trans ?_ ih;have e1 : rowAt (A ++ [some X]) (A.length + 1) = X := xS6 A X;have e2 : ∀ Y : List (Int × Bool), xBh (A ++ [some X]) (A.length + 1) Y = A ++ [some Y] := by
   intro Y;simp [xBh]
  show xDc F 1 (pks.length - 0 : Int) q m I wf pks [(P, (0, (A.length + 1, (0, (0, false)))))] [] [] a0 k ((i + 1 : Nat) : Int) (xBh (A ++ [some X]) (A.length + 1) (xHh (.i .i64) (nth pks dPk i).1 true (rowAt (A ++ [some X]) (A.length + 1)))) = _;rw [e1, e2]
theorem drawW_g (hF : 2000 < F) (h : Rep es O m a0 a1) (hs : es.length <= 1000) (hc : Cnt es) (D : Q7) (I wf : Tnm) (P : QP) (pks : List (Int × Int)) (hl : pks.length <= 100) (hq : qdr es [] pks = 0) :
  ∃ q a0' X, xIU F 1 (v7 (w7 D)) m I wf pks a0 (a1 ++ [some []]) [(P, (0, (a1.length + 1, (0, (0, false)))))] [] [] = some (q, (m, (I, (wf, ([(P, (0, (a1.length + 1, (0, (0, false)))))], ([], ([], (a0', a1 ++ [some X])))))))) /\ Same O a0 a0' := by
 have h' : Rep es O m a0 (a1 ++ [some []]) := h.mono (fun _ _ _ h => h) (fun j x hj => by rw [List.getElem?_append_left (List.getElem?_eq_some_iff.1 hj).1]; exact hj);rcases q_draw F (by omega) D pks hl h' hs hc with ⟨g1, _⟩ | ⟨_, a0', g2, g3, g4, g5⟩
 ·exact absurd hq g1
 ·obtain ⟨X, hL⟩ := drawL (m := m) F (w7 (drawn es D pks)) I wf a0' a1 P pks (by omega) pks.length F 0 [] (by omega) (by omega);refine ⟨w7 (drawn es D pks), a0', X, ?_, g5⟩;unfold xIU;refine xAf g2 ?_;exact xAf hL rfl
abbrev LnO := (ByteArray × Int) × (Tq7 × (Tlo × (Tnm × (Tnm × (Ta0 × (Ta1 × (List Tig × (Ta3 × Ta4))))))))
def ChgP (es : List (QL × List Int)) (O : List Nat) (a0 : Q0) (a1 : Q1) (pks : List (Int × Int)) (x : LnO) : Prop :=
 (∃ a0' a1', (∃ q m' I' wf' a2 a3 a4, x.2 = (q, (m', (I', (wf', (a0', (a1', (a2, (a3, a4))))))))) /\ Same O a0 a0' /\ ∀ (j : Nat) y, a1[j]? = some y -> a1'[j]? = some y) /\
 ((qdr es [] pks ≠ 0 /\ x.1.2 = qdr es [] pks) \/ (qdr es [] pks = 0 /\ ((x.1.2 = 3 /\ (decide ((w7 (drawn es z7 pks)).1 > 1000000000) || bigB (v7 (w7 (drawn es z7 pks)))) = true) \/ (x.1 = (bs (itoa (w7 (drawn es z7 pks)).1), 0) /\ (w7 (drawn es z7 pks)).1 <= 1000000000))))
def chR (Q : LnO -> Prop) (o : Option LnO) : Prop := ∃ x, o = some x /\ Q x
theorem obR {Q : LnO -> Prop} {x : Option LnO} {f : LnO -> Option LnO} (h : chR Q x) (k : ∀ y, Q y -> f y = some (if y.1.2 = 0 then y else ((bs [], y.1.2), y.2))) (hQ : ∀ y, Q y -> Q ((bs [], y.1.2), y.2) \/ y.1.2 = 0) : chR Q (ob x f) := by
 obtain ⟨y, rfl, hy⟩ := h;refine ⟨_, k y hy, ?_⟩;split
 ·exact hy
 ·rcases hQ y hy with h | h
  ·exact h
  ·contradiction
theorem xMV (hF : 2000 < F) (h : Rep es O m a0 a1) (hs : es.length <= 1000) (hc : Cnt es) (pks : List (Int × Int)) (h0 : pks ≠ []) (hN : NmP pks) (hl : pks.length <= 20) :
  chR (ChgP es O a0 a1 pks) (xCm F (bs (xAl 32 (xV4 pks))) (v7 (w7 z7)) m [] [] a0 a1 [] [] []) := by
 obtain ⟨hw, hlen⟩ := xVe hN hl;have hkeep : ∀ q m' I' wf' a2 a3 a4, ∃ a0' a1', (∃ q2 m2 I2 wf2 b2 b3 b4, ((q, (m', (I', (wf', (a0, (a1, (a2, (a3, a4)))))))) : Tq7 × (Tlo × (Tnm × (Tnm × (Ta0 × (Ta1 × (List Tig × (Ta3 × Ta4)))))))) = (q2, (m2, (I2, (wf2, (a0', (a1', (b2, (b3, b4))))))))) /\ Same O a0 a0' /\ ∀ (j : Nat) y, a1[j]? = some y -> a1'[j]? = some y :=
  fun q m' I' wf' a2 a3 a4 => ⟨a0, a1, ⟨_, _, _, _, _, _, _, rfl⟩, ⟨rfl, fun _ _ => rfl⟩, fun _ _ hj => hj⟩
 unfold xCm;refine xBA (Q := chR _) (decide_eq_false (by rw [xAC]; omega)) ?_;unfold xV4 at hw;refine obQ (Q := chR _) (xHe F hw) ?_;refine obQ (Q := chR _) (xWW F hF pks h0 hN (by omega) [bs cK1]) ?_;refine xBA (Q := chR _) rfl ?_;refine obR ?_ (fun y hy => ?_) (fun y hy => ?_);rotate_left
 ·obtain ⟨⟨t, e⟩, R⟩ := y;by_cases he : e = 0
  ·subst he;show (bif (0 : Int) != 0 then _ else _) = _;rw [if_pos rfl];rfl
  ·show (bif e != 0 then _ else _) = _;rw [show (e != 0) = true by simpa using he, if_neg (by exact he)];rfl
 ·obtain ⟨h1, h2⟩ := hy;rcases h2 with ⟨g1, g2⟩ | ⟨g1, ⟨g2, g3⟩ | ⟨g2, g3⟩⟩
  ·exact .inl ⟨h1, .inl ⟨g1, g2⟩⟩
  ·exact .inl ⟨h1, .inr ⟨g1, .inl ⟨g2, g3⟩⟩⟩
  ·exact .inr (by rw [g2])
 refine xBA (Q := chR _) rfl ?_;refine xBA (Q := chR _) rfl ?_;rcases pileW_g F [] [] [] [] [] [bs cK1] h hs (v7 (w7 z7)) hF pks (by omega) with ⟨g1, g2⟩ | ⟨g1, X, p, g2⟩
 ·refine obQ (Q := chR _) g2 ?_;refine xBA (Q := chR _) rfl ?_;by_cases hb : (w7 (drawn es z7 pks)).1 > 1000000000
  ·refine xA0 (Q := chR _) (decide_eq_true hb) ?_;exact ⟨_, rfl, hkeep _ _ _ _ _ _ _, .inr ⟨g1, .inl ⟨rfl, by rw [decide_eq_true hb]; rfl⟩⟩⟩
  ·refine xBA (Q := chR _) (decide_eq_false hb) ?_;refine obQ (Q := chR _) (cfC_g F hF _ _ _) ?_
   cases hbb : bigB (v7 (w7 (drawn es z7 pks))) with
   | true =>
    refine xA0 (Q := chR _) hbb ?_;exact ⟨_, rfl, hkeep _ _ _ _ _ _ _, .inr ⟨g1, .inl ⟨rfl, by rw [hbb, Bool.or_true]⟩⟩⟩
   | false =>
    refine xBA (Q := chR _) hbb ?_;obtain ⟨q, a0', X, hd, hsame⟩ := drawW_g F hF h hs hc z7 [(bs cK1, 1)] [] (v7 (w7 (drawn es z7 pks))) pks (by omega) g1;refine obQ (Q := chR _) hd ?_;refine obQ (Q := chR _) (xEL F (w7 (drawn es z7 pks)).1 (wrap_rg _)) ?_;exact ⟨_, rfl, ⟨a0', a1 ++ [some X], ⟨_, _, _, _, _, _, _, rfl⟩, hsame, fun j y hj => by rw [List.getElem?_append_left (List.getElem?_eq_some_iff.1 hj).1]; exact hj⟩, .inr ⟨g1, .inr ⟨rfl, by omega⟩⟩⟩
 ·refine obQ (Q := chR _) g2 ?_;refine xA0 (Q := chR _) (by simpa using g1) ?_;exact ⟨_, rfl, hkeep _ _ _ _ _ _ _, .inl ⟨g1, rfl⟩⟩
end
end
open Go.RowKit Go.Proofs
noncomputable section
end
section
open Go.Lib M3
end
section
open Go.Lib M3
end
section
open Go.Lib M3
end
section
open Go.Lib M3
abbrev lawT := Bool × (Ta0 × (Ta1 × (List Tig × (Ta3 × Ta4))))
def xEb (o : Option lawT) : Prop := ∃ x, o = some (true, x)
theorem xIa (s : ByteArray) : (ByteArray.toList.loop s 0 [] == ByteArray.toList.loop s 0 []) = true := by simp
end
end Go.Proofs.YtnomnijhlbalaaaGreatDoor
