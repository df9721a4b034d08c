/- A part of the proof of the theorem of the last file. No condition. By an AI agent. -/
import Derived.Test.YtnomnijhlbalaaaGreatDoorWLNT
import Derived.Shelf.Bits.Mul64
set_option maxRecDepth 100000
set_option maxHeartbeats 4000000
namespace Go.Proofs.YtnomnijhlbalaaaGreatDoor
section
open Go.RowKit Go.Proofs Go.Lib
theorem ldl (s : ByteArray) : ByteArray.toList.loop s 0 [] = s.data.toList := by
 have := ByteArray.toList_eq s;unfold ByteArray.toList at this;exact this
theorem ext0 (l : List UInt8) (a : Nat) : (bs l).extract 0 a = bs (l.take a) := by
 rw [xQG (ByteArray.extract _ _ _), extract_from_zero]
theorem extE (l : List UInt8) (a : Nat) : (bs l).extract a (bs l).size = bs (l.drop a) := by
 rw [xQG (ByteArray.extract _ _ _), extract_to_end]
theorem bAt_bs (c : UInt8) (l : List UInt8) : bAt (bs (c :: l)) 0 = (c.toNat : Int) := rfl
theorem xWe (F u : Nat) (h : u < 10 ^ 16) : xHP F (bs (decDigits u)) (bs digs) = some (bs []) := by
 unfold xHP;have hl := xGD u 15 h;rw [show xVH (bs digs) = true from by decide, show decide ((bs (decDigits u)).size <= 1000000) = true from decide_eq_true (by rw [xAC]; omega), show decide ((bs digs).size <= 1000000) = true from by decide];simp only [Bool.and_self, cond_true];rw [xWf]
theorem xXN (F : Nat) (n : Int) (h1 : -10000000000000000 < n) (h2 : n < 10000000000000000) : xG7 F (bs (itoa n)) = some (n, true) := by
 unfold xG7;have hl := xHB n h1 h2;rw [show decide ((bs (itoa n)).size <= 281474976710656) = true from decide_eq_true (by rw [xAC]; omega), cond_true, xOM, xVG n h1 h2]
theorem xAD (F : Nat) (n : Int) (h1 : -1000000000000000 < n) (h2 : n < 1000000000000000) : xAw F (bs (itoa n)) = some (n, true) := by
 have hat := xXN F n (by omega) (by omega);obtain ⟨u, hu⟩ : ∃ u : Nat, u = n.natAbs := ⟨_, rfl⟩;have hub : u < 10 ^ 15 := by omega
 have hlen := xGD u 14 hub;have hne := xNn u;have htr := xWe F u (by omega);have hpre : ∀ (X : Option (ByteArray × ByteArray)) , X = some (bs (itoa n), bs (decDigits u)) -> ∀ (g : ByteArray × ByteArray -> Option (Int × Bool)), ob X g = g (bs (itoa n), bs (decDigits u)) := fun X h g => by rw [h]
 unfold xAw;refine (hpre _ ?_ _).trans ?_
 ·by_cases hn : n < 0
  ·have e : itoa n = 45 :: decDigits u := by unfold itoa; rw [if_pos hn, hu]
   rw [e];have hsz : (bs (45 :: decDigits u)).size = (decDigits u).length + 1 := by rw [xAC]; rfl
   rw [show decide (((bs (45 :: decDigits u)).size : Int) >= 1) = true from decide_eq_true (by rw [hsz]; omega), cond_true, show inC 1 (bs (45 :: decDigits u)).size = true from by rw [hsz]; simp [inC]; omega, cond_true];have h0 : (ByteArray.toList.loop (ByteArray.extract (bs (45 :: decDigits u)) (0 : Int).toNat ((ByteArray.mk (List.toArray (45 :: []))).size : Int).toNat) 0 [] == ByteArray.toList.loop (ByteArray.mk (List.toArray (45 :: []))) 0 []) = true := by
    rw [ldl, ldl, beq_iff_eq];show (ByteArray.extract (bs (45 :: decDigits u)) 0 1).data.toList = [45];rw [ext0]; rfl
   rw [h0, cond_true, show inC ((bs (45 :: decDigits u)).size : Int) (bs (45 :: decDigits u)).size = true from by simp [inC], cond_true, show inC 1 ((bs (45 :: decDigits u)).size : Int).toNat = true from by rw [hsz]; simp [inC]; omega, cond_true];congr 2;show ByteArray.extract (bs (45 :: decDigits u)) 1 (bs (45 :: decDigits u)).size = _;rw [extE]; rfl
  ·have e : itoa n = decDigits u := by unfold itoa; rw [if_neg hn]; congr 1; omega
   rw [e]
   cases hd : decDigits u with
   | nil => exact absurd hd hne
   | cons c r =>
    have hc := xGC u c (by rw [hd]; simp);have hsz : (bs (c :: r)).size = r.length + 1 := by rw [xAC]; rfl
    rw [show decide (((bs (c :: r)).size : Int) >= 1) = true from decide_eq_true (by rw [hsz]; omega), cond_true, show inC 1 (bs (c :: r)).size = true from by rw [hsz]; simp [inC]; omega, cond_true];have h0 : (ByteArray.toList.loop (ByteArray.extract (bs (c :: r)) (0 : Int).toNat ((ByteArray.mk (List.toArray (45 :: []))).size : Int).toNat) 0 [] == ByteArray.toList.loop (ByteArray.mk (List.toArray (45 :: []))) 0 []) = false := by
     rw [ldl, ldl, beq_eq_false_iff_ne];show ¬ (ByteArray.extract (bs (c :: r)) 0 1).data.toList = [45];rw [ext0];intro e;have e : [c] = [45] := e;have : c = 45 := by simpa using e
     subst this;have h45 : (45 : UInt8).toNat = 45 := rfl;omega
    rw [h0, cond_false]
 ·have hsz : ((bs (decDigits u)).size : Int) = ((decDigits u).length : Nat) := by rw [xAC]
  have hpos : 1 <= (decDigits u).length := by cases hd : decDigits u with
   | nil => exact absurd hd hne
   | cons c r => simp
  have key : ∀ (X : Option (ByteArray × Bool)), X = some (bs (itoa n), false) -> ob X (fun s3 => (bif s3.2 then (some ((0 : Int), false)) else (ob (xG7 F s3.1) (fun r1 => (some (r1.1, true)))))) = some (n, true) := fun X h => by
   rw [h, xEn];show ob (xG7 F (bs (itoa n))) (fun r1 => some (r1.1, true)) = _;rw [hat]
  refine key _ ?_;show (bif decide (((bs (decDigits u)).size : Int) < 1) then _ else _) = _;rw [show decide (((bs (decDigits u)).size : Int) < 1) = false from decide_eq_false (by omega), cond_false];show (bif decide (((bs (decDigits u)).size : Int) > 16) then _ else _) = _;rw [show decide (((bs (decDigits u)).size : Int) > 16) = false from decide_eq_false (by omega), cond_false];show ob (xHP F (bs (decDigits u)) (bs digs)) _ = _;rw [htr, xEn];show (bif (!(ByteArray.toList.loop (bs []) 0 [] == ByteArray.toList.loop (bs []) 0 [])) then _ else _) = _;rw [show (!(ByteArray.toList.loop (bs []) 0 [] == ByteArray.toList.loop (bs []) 0 [])) = false from by simp, cond_false]
  cases hd : decDigits u with
  | nil => exact absurd hd hne
  | cons c r =>
   show (bif inB 0 (bs (c :: r)).size then (bif (bAt (bs (c :: r)) 0 == 48) then _ else _) else _) = _;rw [show inB 0 (bs (c :: r)).size = true from by rw [xAC]; simp [inB], cond_true, bAt_bs];by_cases h48 : c.toNat = 48
   ·have hu0 : u = 0 := by
     by_cases h0 : u = 0
     ·exact h0
     ·have := xXC u (by omega);rw [hd] at this;exact absurd (by rw [List.head?_cons]; congr 1; exact UInt8.toNat_inj.1 h48) this
    have hn0 : n = 0 := by omega
    subst hn0;rw [show ((c.toNat : Int) == 48) = true from by rw [h48]; rfl, cond_true];have e0 : itoa 0 = [48] := by unfold itoa; rw [if_neg (by omega)]; rw [decDigits]; rfl
    rw [e0];show some (bs [48], !(ByteArray.toList.loop (bs [48]) 0 [] == ByteArray.toList.loop (bs [48]) 0 [])) = _;simp
   ·rw [show ((c.toNat : Int) == 48) = false from by rw [beq_eq_false_iff_ne]; omega, cond_false]
def Nm (n : Int) : Prop := -1000000000000000 < n /\ n < 1000000000000000
def rgT (r : Int × Int) : List UInt8 := itoa r.1 ++ [46, 46] ++ itoa r.2
def bdT (b : (Int × Int) × ((Int × Int) × (Int × Int))) : List UInt8 := rgT b.1 ++ 47 :: (rgT b.2.1 ++ 47 :: rgT b.2.2)
theorem xBH (n : Int) (c : UInt8) (h : c.toNat ≠ 45 /\ (c.toNat < 48 \/ 57 < c.toNat)) : c ∉ itoa n := fun hm => by
 have := xXk n c hm;omega
theorem xS9 (r : Int × Int) (c : UInt8) (h : c.toNat ≠ 45 /\ c.toNat ≠ 46 /\ (c.toNat < 48 \/ 57 < c.toNat)) : c ∉ rgT r := fun hm => by
 unfold rgT at hm;rcases List.mem_append.1 hm with hm | hm
 ·rcases List.mem_append.1 hm with hm | hm
  ·exact xBH r.1 c ⟨h.1, h.2.2⟩ hm
  ·have : c = 46 := by simpa using hm
   subst this;exact h.2.1 rfl
 ·exact xBH r.2 c ⟨h.1, h.2.2⟩ hm
theorem xVF (b : (Int × Int) × ((Int × Int) × (Int × Int))) (c : UInt8) (h : c.toNat ≠ 45 /\ c.toNat ≠ 46 /\ c.toNat ≠ 47 /\ (c.toNat < 48 \/ 57 < c.toNat)) : c ∉ bdT b := fun hm => by
 have h1 := fun r => xS9 r c ⟨h.1, h.2.1, h.2.2.2⟩;have h2 : c ≠ 47 := fun e => by subst e; exact h.2.2.1 rfl
 unfold bdT at hm;rcases List.mem_append.1 hm with hm | hm
 ·exact h1 _ hm
 ·rcases List.mem_cons.1 hm with hm | hm
  ·exact h2 hm
  ·rcases List.mem_append.1 hm with hm | hm
   ·exact h1 _ hm
   ·rcases List.mem_cons.1 hm with hm | hm
    ·exact h2 hm
    ·exact h1 _ hm
theorem xCp (r : Int × Int) (h1 : Nm r.1) (h2 : Nm r.2) : (rgT r).length <= 36 := by
 unfold rgT Nm at *;have a := xHB r.1 (by omega) (by omega);have b := xHB r.2 (by omega) (by omega);simp; omega
theorem xAX (F : Nat) (r : Int × Int) (h1 : Nm r.1) (h2 : Nm r.2) : xAV F (bs (rgT r)) = some (r, true) := by
 have hc : xLv F (bs (rgT r)) (ByteArray.mk (Array.mk (46 :: (46 :: [])))) = some (bs (itoa r.1), (bs (itoa r.2), true)) := by
  unfold xLv;have hl := xCp r h1 h2;rw [show decide ((bs (rgT r)).size < 4294967281) = true from decide_eq_true (by rw [xAC]; omega), cond_true];have : Lib.cut (bs (rgT r)).data.toList ((ByteArray.mk (Array.mk (46 :: (46 :: [])))).data.toList) = (itoa r.1, itoa r.2, true) := cut_at 46 [46] (itoa r.1) (itoa r.2) (xBH r.1 46 (by decide));rw [this]
 unfold xAV;rw [hc, xEn];show ob (xAw F (bs (itoa r.1))) _ = _;rw [xAD F r.1 h1.1 h1.2, xEn];show ob (xAw F (bs (itoa r.2))) _ = _;rw [xAD F r.2 h2.1 h2.2, xEn];rfl
theorem xH4 (F : Nat) (c : UInt8) (l : List (List UInt8)) (hl : l ≠ []) (hn : ∀ x ∈ l, c ∉ x) (hs : (xAl c l).length <= 1000000) : xBZ F (bs (xAl c l)) (bs [c]) = some (l.map bs) := by
 unfold xBZ;rw [show decide ((bs (xAl c l)).size <= 1000000) = true from decide_eq_true (by rw [xAC]; exact hs), show decide (1 <= (bs [c]).size) = true from rfl];simp only [Bool.and_self, cond_true];rw [xGc c l hl hn]
theorem xKz (F : Nat) (b : (Int × Int) × ((Int × Int) × (Int × Int))) (h : Nm b.1.1 /\ Nm b.1.2 /\ Nm b.2.1.1 /\ Nm b.2.1.2 /\ Nm b.2.2.1 /\ Nm b.2.2.2) : xBZ F (bs (bdT b)) (ByteArray.mk (Array.mk (47 :: []))) = some [bs (rgT b.1), bs (rgT b.2.1), bs (rgT b.2.2)] := by
 have a1 := xCp b.1 h.1 h.2.1;have a2 := xCp b.2.1 h.2.2.1 h.2.2.2.1;have a3 := xCp b.2.2 h.2.2.2.2.1 h.2.2.2.2.2;exact xH4 F 47 [rgT b.1, rgT b.2.1, rgT b.2.2] (by simp) (fun x hx => by
  simp only [List.mem_cons, List.not_mem_nil, or_false] at hx;rcases hx with rfl | rfl | rfl <;> exact xS9 _ 47 (by decide)) (by simp [xAl]; omega)
theorem xI1 (b : (Int × Int) × ((Int × Int) × (Int × Int))) (h : Nm b.1.1 /\ Nm b.1.2 /\ Nm b.2.1.1 /\ Nm b.2.1.2 /\ Nm b.2.2.1 /\ Nm b.2.2.2) : (bdT b).length <= 110 := by
 have a1 := xCp b.1 h.1 h.2.1;have a2 := xCp b.2.1 h.2.2.1 h.2.2.2.1;have a3 := xCp b.2.2 h.2.2.2.2.1 h.2.2.2.2.2;simp [bdT]; omega
end
section
open Go.RowKit Go.Proofs Go.Lib
def cLot : List UInt8 := [108, 111, 116]
def xLB : List UInt8 := [99, 104, 97, 114, 103, 101]
def cK1 : List UInt8 := [75, 49]
theorem spw (l : List (List UInt8)) (hl : l ≠ []) (hn : ∀ x ∈ l, (32 : UInt8) ∉ x) : splitB ⟨#[32]⟩ 0 (countB (bs (xAl 32 l)) ⟨#[32]⟩) (bs (xAl 32 l)) = l.map bs := xGc 32 l hl hn
theorem szw (l : List (List UInt8)) (hs : (xAl 32 l).length <= 1000000) : decide ((bs (xAl 32 l)).size <= 1000000) = true := decide_eq_true (by rw [xAC]; exact hs)
def Wds (l : List (List UInt8)) : Prop := (∀ x ∈ l, (32 : UInt8) ∉ x) /\ (xAl 32 l).length <= 3000
theorem xQ8 (F : Nat) {a : List UInt8} {b : List UInt8} {c : List UInt8} {d : List UInt8} (h : Wds [cLot, a, b, c, d]) : xC4 F (bs (xAl 32 [cLot, a, b, c, d])) = some (bs a, (bs b, (bs c, (bs d)))) := by
 unfold xC4;rw [szw _ (Nat.le_trans h.2 (by decide)), cond_true, spw _ (by simp) h.1];rfl
theorem xHe (F : Nat) {a : List UInt8} (h : Wds [xLB, cK1, a]) : xB1 F (bs (xAl 32 [xLB, cK1, a])) = some (bs a) := by
 unfold xB1;rw [szw _ (Nat.le_trans h.2 (by decide)), cond_true, spw _ (by simp) h.1];rfl
end
namespace U8
open Go.RowKit
end U8
namespace U8
open Go.RowKit
end U8
namespace U8
open Go.RowKit
end U8
namespace U8
open Go.RowKit
end U8
namespace U8
open Go.RowKit
end U8
namespace M3
section
variable {u v a a' b : Int}
end
end M3
namespace M3
abbrev Tr := Int × Int
abbrev Tb := Tr × (Tr × Tr)
abbrev Tst := Int × (Int × Tb)
abbrev Tfr := Int × Tb
inductive F2 {α β : Type} (R : α -> β -> Prop) : List α -> List β -> Prop
 | nil : F2 R [] []
 | cons {a b as1 bs} : R a b -> F2 R as1 bs -> F2 R (a :: as1) (b :: bs)
end M3
namespace M3
open Go.RowKit U8
section
variable (F : Nat)
end
end M3
namespace M3
open Go.RowKit U8
theorem xAf {α β : Type} {x : Option α} {y : α} {f : α -> Option β} {z : Option β} (h : x = some y) (h2 : f y = z) : ob x f = z := by rw [h]; exact h2
theorem bq {a b : Int} (h : a = b) : (a == b) = true := beq_iff_eq.2 h
theorem bn {a b : Int} (h : ¬ a = b) : (a == b) = false := beq_eq_false_iff_ne.2 h
end M3
section
open Go.RowKit Go.Proofs Go.Lib M3
theorem xAd {α : Type} {b : Bool} {x y z : α} (h : b = true) (k : x = z) : (bif b then x else y) = z := by rw [h]; exact k
theorem xAs {α : Type} {b : Bool} {x y z : α} (h : b = false) (k : y = z) : (bif b then x else y) = z := by rw [h]; exact k
def NmB (b : Tb) : Prop := Nm b.1.1 /\ Nm b.1.2 /\ Nm b.2.1.1 /\ Nm b.2.1.2 /\ Nm b.2.2.1 /\ Nm b.2.2.2
theorem xAU (n : Int) (h : Nm n) : (itoa n).length <= 17 := xHB n (by unfold Nm at h; omega) (by unfold Nm at h; omega)
end
section
open Go.RowKit Go.Proofs Go.Lib M3
abbrev zX : (((Int × Int) × ((Int × Int) × ((Int × Int) × T_0))) × ByteArray) := ((((0 : Int), (0 : Int)), (((0 : Int), (0 : Int)), (((0 : Int), (0 : Int)), (((0 : Int), (0 : Int)), (((0 : Int), (0 : Int)), ((0 : Int), (0 : Int))))))), B_1)
abbrev zX2 : T_5 := (0, (0, (0, (0, (0, (0, (0, (0, (0, (0, (0, (0, ByteArray.mk (Array.mk [])))))))))))))
theorem obQ {α β : Type} {Q : Option β -> Prop} {x : Option α} {f : α -> Option β} {y : α} (h : x = some y) (k : Q (f y)) : Q (ob x f) := by rw [h]; exact k
theorem xA0 {α : Type} {Q : α -> Prop} {b : Bool} {x y : α} (h : b = true) (k : Q x) : Q (bif b then x else y) := by rw [h]; exact k
theorem xBA {α : Type} {Q : α -> Prop} {b : Bool} {x y : α} (h : b = false) (k : Q y) : Q (bif b then x else y) := by rw [h]; exact k
abbrev Tq7 := Int × (Int × (Int × (Int × (Int × (Int × Int)))))
abbrev Tlo := List (Int × Nat)
abbrev Tnm := List (ByteArray × Nat)
abbrev Ta0 := List ((Int × (Int × (Tb × Int))) × Nat)
abbrev Ta1 := List (Option (List (Int × Bool)))
abbrev Tig := Tfr × (Nat × (Nat × (Int × (Nat × Bool))))
abbrev Ta3 := List (Option (List Tst))
abbrev Ta4 := List (Option (List (Bool × (Bool × Int))))
end
section
open Go.RowKit Go.Proofs Go.Lib M3
theorem xUc {α : Type} (l : List (Option (List α))) (x : List α) : xCv (l ++ [some x]) (l.length + 1) = true := by simp [xCv]
theorem xS6 {α : Type} (l : List (Option (List α))) (x : List α) : rowAt (l ++ [some x]) (l.length + 1) = x := by simp [rowAt]
abbrev Tst0 := Int × T_0
end
namespace M3
open Go.RowKit U8
section
variable (F : Nat)
def nb (c : Int) : Prop := 0 <= c /\ c <= 1000000000000000
variable (hF : 2000 < F)
include hF
end
end M3
namespace M3
open Go.RowKit U8
end M3
namespace M3
open Go.RowKit U8
end M3
namespace M3
open Go.RowKit U8
end M3
namespace M3
open Go.RowKit U8
abbrev RT := Int × (Int × (Int × (Int × (Int × (Int × (Int × (Int × (Int × (Int × (Int × (Int × (Int × (Int × (Int × (Int × (Int × (Int × T_1)))))))))))))))))
end M3
section
open Go.RowKit U8
namespace M3
end M3
end
section
open Go.RowKit Go.Proofs Go.Lib M3
theorem xP7 (c : UInt8) : ∀ l : List (List UInt8), [c].intercalate l = xAl c l
 | [] => rfl
 | [x] => by simp [List.intercalate, xAl]
 | x :: y :: l => by
  have ih := xP7 c (y :: l);rw [xAl, <- ih];simp [List.intercalate]
theorem xXi (c : UInt8) (l : List (List UInt8)) : xOw (l.map bs) ⟨#[c]⟩ = xAl c l := by
 rw [<- xP7];show Lib.join ((l.map bs).map (fun x => x.data.toList)) [c] = _;rw [List.map_map];have : ((fun x : ByteArray => x.data.toList) ∘ bs) = id := rfl;rw [this, List.map_id];rfl
theorem xP6 (F : Nat) (c : UInt8) (l : List (List UInt8)) (h1 : l.length <= 1000000) (h2 : (xAl c l).length <= 1000000) : xEs F ⟨#[c]⟩ (l.map bs) = some (bs (xAl c l)) := by
 unfold xEs;rw [xXi];rw [show (decide ((l.map bs).length <= 1000000) && decide ((xAl c l).length <= 140737488355328)) = true from by simp; omega, cond_true]
theorem xEL (F : Nat) (n : Int) (h : -9223372036854775808 <= n /\ n <= 9223372036854775807) : xBT F n = some (bs (itoa n)) := by
 unfold xBT;rw [show (decide (-9223372036854775808 <= n) && decide (n <= 9223372036854775807)) = true from by simp; omega, cond_true]
section
variable (F : Nat) (σ : Tst0) (lots : Tlo) (wf : Tnm) (a0 : Ta0) (a1 : Ta1) (a3 : Ta3) (a4 : Ta4) (M : Tfr) (sr lr pr_ : Nat)
theorem bs_rg (r : M3.Tr) : bs (itoa r.1) ++ ByteArray.mk (Array.mk (46 :: (46 :: []))) ++ bs (itoa r.2) = bs (rgT r) := by
 show bs (itoa r.1) ++ bs [46, 46] ++ bs (itoa r.2) = _;rw [xAE, xAE]; rfl
end
end
section
open Go.RowKit Go.Proofs Go.Lib M3
def xP0 (c m : Int) (b : Tb) (k : Int) : List (List UInt8) := [cLot, itoa c, itoa m, bdT b, itoa k]
theorem lotG_ok {c m k : Int} {b : Tb} (hc : Nm c) (hm : Nm m) (hb : NmB b) (hk : Nm k) : Wds (xP0 c m b k) /\ (xAl 32 (xP0 c m b k)).length <= 200 := by
 have h1 := xAU c hc;have h2 := xAU m hm;have h3 := xAU k hk;have h4 := xI1 b hb;have hl : (xAl 32 (xP0 c m b k)).length <= 200 := by
  simp [xAl, xP0, cLot]; omega
 refine ⟨⟨fun x hx => ?_, Nat.le_trans hl (by decide)⟩, hl⟩;simp only [xP0, List.mem_cons, List.not_mem_nil, or_false] at hx;rcases hx with rfl | rfl | rfl | rfl | rfl
 ·decide
 ·exact xBH _ _ (by decide)
 ·exact xBH _ _ (by decide)
 ·exact xVF _ _ (by decide)
 ·exact xBH _ _ (by decide)
section
variable (F : Nat) (σ : Int × T_0) (lots : List (Int × Nat)) (I wf : List (ByteArray × Nat)) (a0 : Ta0) (a1 : Ta1) (a2 : List Tig) (a3 : Ta3) (a4 : Ta4)
theorem xMU {c m k : Int} {b : Tb} (hc : Nm c) (hm : Nm m) (hb : NmB b) (hk : Nm k) {n e : Int} {q m' a0' a1'} (hr : xCk F (c, (m, (b, k))) σ lots a0 a1 = some ((n, e), (q, (m', (a0', a1'))))) (hn : Nm n) :
  xCW F (bs (xAl 32 (xP0 c m b k))) σ lots I wf a0 a1 a2 a3 a4 = some (bif (e != 0) then ((bs [], e), (q, (m', (I, (wf, (a0', (a1', (a2, (a3, a4))))))))) else ((bs (itoa n), 0), (q, (m', (I, (wf, (a0', (a1', (a2, (a3, a4)))))))))) := by
 obtain ⟨hw, hlen⟩ := lotG_ok hc hm hb hk;unfold xCW;rw [show decide (((bs (xAl 32 (xP0 c m b k))).size : Int) > 2000) = false from decide_eq_false (by rw [xAC]; omega), cond_false];unfold xP0 at hw;rw [xP0, xQ8 F hw, xEn];refine xAf (xAD F c hc.1 hc.2) ?_
 try simp only [Bool.not_true, Bool.not_false, cond_false, cond_true]
 refine xAf (xAD F m hm.1 hm.2) ?_
 try simp only [Bool.not_true, Bool.not_false, cond_false, cond_true]
 refine xAf (xKz F b hb) ?_
 try simp only [Bool.not_true, Bool.not_false, cond_false, cond_true]
 refine xAs rfl ?_;refine xAd rfl ?_;refine xAf (xAX F b.1 hb.1 hb.2.1) ?_
 try simp only [Bool.not_true, Bool.not_false, cond_false, cond_true]
 refine xAd rfl ?_;refine xAf (xAX F b.2.1 hb.2.2.1 hb.2.2.2.1) ?_
 try simp only [Bool.not_true, Bool.not_false, cond_false, cond_true]
 refine xAd rfl ?_;refine xAf (xAX F b.2.2 hb.2.2.2.2.1 hb.2.2.2.2.2) ?_
 try simp only [Bool.not_true, Bool.not_false, cond_false, cond_true]
 refine xAf (xAD F k hk.1 hk.2) ?_
 try simp only [Bool.not_true, Bool.not_false, cond_false, cond_true]
 refine xAf (hr) ?_
 try simp only [Bool.not_true, Bool.not_false, cond_false, cond_true]
 refine xAf (xEL F n (by unfold Nm at hn; omega)) ?_
 try simp only [Bool.not_true, Bool.not_false, cond_false, cond_true]
 cases (e != 0) <;> rfl
end
end
open Go.RowKit Go.Proofs
noncomputable section
abbrev xTT : Nat := 2
def xDv (F : Nat) (s1 : ((List (Int × Bool)) × T_4)) (e : ((Int × Bool))) : Option (((List (Int × Bool)) × T_4) ⊕ (((List (Int × Bool)) × T_4))) := (some (.inl ((xHh (KK.i jI) e.1 e.2 s1.1), s1.2)))
def xDu (F : Nat) (s1 : ((List (Int × Bool)) × T_4)) : Option (((List (Int × Bool)) × T_4)) := some s1
abbrev xCD : Sch := ⟨[(0, .c (.k (.hv 0)))], [.mp (.i .i64) false .bool, .dead, K_2]⟩
abbrev xCE : xBY := [(.normal, ⟨[], [.mp (.i .i64) false .bool, .dead, K_2]⟩)]
abbrev xGn : RngC := xS8 (xBC (xAt (xAi Tryz.prog 32) []))
theorem xOm (F : Nat) : xF7 Tryz.prog 2 (xAv Tryz.prog 32 xTT) xGn xCD xCE (.i .i64) false .bool (xDv F) (xDu F) :=
 xN7 (P := Tryz.prog) (m := 2) (N := xAv Tryz.prog 32 xTT) (R := xGn) (Sc := xCD) (o := xCE) (call := xCr Tryz.prog 70 plans (xXI F) 20) (Fu := 70) (pl := (xFp plans 32)) (c := (xAt (xAi Tryz.prog 32) [])) (by kernel_rfl) (xA7 xAn 70 xBn (xHH F) 20) xAn (by kernel_rfl) (by kernel_rfl) (by kernel_rfl) (by kernel_rfl) (fun s e => by kernel_rfl) (fun s => by kernel_rfl)
def xIs (F : Nat) (src : Nat) (dst : (List (Int × Bool))) (ar1 : T_4) : Option (((List (Int × Bool)) × T_4)) := (bif (xCv ar1 src) then (xDj (fun (π : List ((Int × Bool))) => (ob (xLH (S := xCD) (o := xCE) (V := (.i .i64)) (U := .bool) (xDv F) (xDu F) (dst, (xB6 ar1 src)) π) (fun s2 => (some (s2.1, (xWD s2.2 src (rowAt ar1 src))))))) (rowAt ar1 src)) else none)
abbrev xTW : Sch := ⟨[(0, .c (.k (.hv 0))), (1, .c (.t (.rf 2 1)))], [.mp (.i .i64) false .bool, K_2]⟩
abbrev xTV : FSch := ⟨.tu [], [.mp (.i .i64) false .bool, .dead, K_2]⟩
def xTX (F : Nat) : Ent := ⟨32, 2, xTW, xTV, fun s => xIs F s.1 s.2.1 s.2.2, []⟩
theorem xPX (F : Nat) : FnSem Tryz.prog 32 2 xTW xTV (fun s => xIs F s.1 s.2.1 s.2.2) :=
 fK (an := (.rng xCD xCE (.i .i64) false .bool (xDv F) (xDu F))) (xHH F) ((xOV (R := xGn) (by kernel_rfl) (xOm F)))
def xTU (F : Nat) : List Ent := xTX F :: xXI F
theorem xGm (F : Nat) : xAj Tryz.prog (xTU F) := ⟨⟨by kernel_rfl, xPX F⟩, xHH F⟩
abbrev xSZ : Nat := 3
def xBb (F : Nat) (t29 : Int) (g0 : T_1) (g1 : (List (Int × Nat))) (g2 : (List Int)) (ar01 : T_2) (l1 : (Int × (Int × (T_0 × Int)))) : Nat -> Int -> T_4 -> (List (Int × Bool)) -> Option (((Int × Int) × (T_1 × ((List (Int × Nat)) × ((List Int) × (T_2 × T_4))))) ⊕ (T_1 × ((List (Int × Nat)) × ((List Int) × (T_2 × (T_4 × ((Int × (Int × (T_0 × Int))) × (List (Int × Bool)))))))))
 | 0, _, _, _ => none
 | n_ + 1, t30, ar11, bfr => (bif (decide (t30 < t29)) then (bif (inB t30 (g2.length - 0)) then (bif (Nat.beq (xEW (KK.i jI) 0 (nth g2 0 t30.toNat) g1) 0) then (some (.inl (((0 : Int), (7 : Int)), (g0, g1, g2, ar01, ar11)))) else (bif (inC t30 (g2.length - 0)) then (ob (xGG F (0, (t30.toNat - 0)) (nth g2 0 t30.toNat) g2) (fun r1 => (bif r1 then (some (.inl (((0 : Int), (6 : Int)), (g0, g1, g2, ar01, ar11)))) else (bif (!(Nat.beq (xEW (KK.i jI) 0 (nth g2 0 t30.toNat) g1) 0)) then (bif (!(Nat.beq (xEW (KK.i jI) 0 (nth g2 0 t30.toNat) g1) 0)) then (bif (inO (xEW (KK.i jI) 0 (nth g2 0 t30.toNat) g1) ar01.length) then (ob (xIs F (nth ar01 D_0 ((xEW (KK.i jI) 0 (nth g2 0 t30.toNat) g1) - 1)).2 (xHh (KK.i jI) (nth g2 0 t30.toNat) true bfr) ar11) (fun r2 => (xBb F t29 g0 g1 g2 ar01 l1 n_ (jI.wrap (t30 + 1)) r2.2 r2.1))) else none) else none) else none)))) else none)) else none) else (some (.inr (g0, g1, g2, ar01, ar11, l1, bfr))))
abbrev xGR : Sch := ⟨[(0, .c (.k (.pt 0 0 0 0))), (2, .c (.k (.sl 2 1))), (4, .c (.k (.pt 7 0 0 0))), (8, .c (.k (.hv 8))), (28, .c (.k (.sl 2 1))), (29, .c .i), (30, .c .i)], [K_8, K_3, .ro .i, .dead, .dead, K_1, K_2, .blk 40 [.t C_1], .mp (.i .i64) false .bool]⟩
abbrev xGS : xBY := [(.ret, ⟨[(6, .c .i), (7, .c .i)], [K_8, K_3, .ro .i, .dead, .dead, K_1, K_2]⟩), ((.exit 1), ⟨[(0, .c (.k (.pt 0 0 0 0))), (4, .c (.k (.pt 7 0 0 0))), (8, .c (.k (.hv 8)))], [K_8, K_3, .ro .i, .dead, .dead, K_1, K_2, .blk 40 [.t C_1], .mp (.i .i64) false .bool]⟩)]
theorem xKC (F : Nat) : ∀ n, xAS Tryz.prog 5 (xAv Tryz.prog 12 xSZ) (xAt (xAi Tryz.prog 12) [1, 1, 1, 0, 1, 0, 0]) xGR xGS (fun s => (xBb F s.1.1 s.2.1 s.2.2.1 s.2.2.2.1 s.t4.1 s.t6.1 n s.1.2 s.t5.1 s.t7)) :=
 lK (an := .no) (xGm F) (trivial)
def xCj (F : Nat) (l : (Int × (Int × (T_0 × Int)))) (s1 : (Int × T_0)) (sl_ : (List (Int × Nat))) (parents : (List Int)) (ar0 : T_2) (ar1 : T_4) : Option (((Int × Int) × (T_1 × ((List (Int × Nat)) × (T_2 × T_4))))) := (ob (ob (xGu F l) (fun r => (bif (!r) then (some (true, ((f7 s1), sl_, parents, ar0, ar1, l))) else (some ((l.1 == 0), ((f7 s1), sl_, parents, ar0, ar1, l)))))) (fun s2 => (bif s2.1 then (some (((0 : Int), (2 : Int)), (s2.2.1, s2.2.2.1, s2.t4.1, s2.t5.1))) else (bif (decide (((s2.2.2.2.1.length - 0) : Int) > 10)) then (some (((0 : Int), (5 : Int)), (s2.2.1, s2.2.2.1, s2.t4.1, s2.t5.1))) else (ob (xBb F ((s2.2.2.2.1.length - 0) : Int) s2.2.1 s2.2.2.1 s2.2.2.2.1 s2.t4.1 s2.t6 F 0 s2.t5.1 []) (fun o_ => su o_ (fun s3 => (some (s3.1, (s3.2.1, s3.2.2.1, s3.t4)))) (fun s4 => (bif (decide ((s4.2.1.length : Int) >= 200)) then (some (((0 : Int), (8 : Int)), (s4.1, s4.2.1, s4.2.2.2.1, s4.t4.1))) else (some (((jI.wrap ((s4.2.1.length : Int) + 1)), (0 : Int)), (s4.1, (xHh (KK.i jI) (jI.wrap ((s4.2.1.length : Int) + 1)) (s4.2.2.2.1.length + 1) s4.2.1), (s4.2.2.2.1 ++ ((s4.t5.1, (s4.t4.1.length + 1)) :: [])), (s4.t4.1 ++ ((Option.some s4.t6) :: [])))))))))))))
abbrev xMn : Sch := ⟨[(0, .c (.k (.pt 0 0 0 0))), (1, .ag [.t C_1]), (2, .c (.k (.sl 2 1)))], [K_24, K_3, .ro .i, K_1, K_2]⟩
abbrev xMm : FSch := ⟨.tu [(false, [.i]), (false, [.i])], [K_8, K_3, .dead, .dead, .dead, K_1, K_2]⟩
def xMo (F : Nat) : Ent := ⟨12, 3, xMn, xMm, fun s => xCj F s.1 s.2.1 s.2.2.1 s.2.2.2.1 s.t4.1 s.t5, []⟩
theorem xJx (F : Nat) : FnSem Tryz.prog 12 3 xMn xMm (fun s => xCj F s.1 s.2.1 s.2.2.1 s.2.2.2.1 s.t4.1 s.t5) :=
 fK (an := (.two .no (.two (.one (.two .no (.two .no (.two (.join [(.normal, ⟨[(0, .c (.k (.pt 0 0 0 0))), (2, .c (.k (.sl 2 1))), (4, .c (.k (.pt 7 0 0 0))), (14, .c (.t .bool))], [K_8, K_3, .ro .i, .dead, .dead, K_1, K_2, .blk 40 [.t C_1]]⟩)] .no) .no)))) (.two .no (.two (.two .no (.one (.loop xGR xGS (fun s => (xBb F s.1.1 s.2.1 s.2.2.1 s.2.2.2.1 s.t4.1 s.t6.1 F s.1.2 s.t5.1 s.t7))))) .no))))) (xGm F) (⟨trivial, ⟨⟨trivial, ⟨trivial, ⟨trivial, trivial⟩⟩⟩, ⟨trivial, ⟨⟨trivial, (xKC F F)⟩, trivial⟩⟩⟩⟩)
def xMl (F : Nat) : List Ent := xMo F :: xTU F
theorem xMk (F : Nat) : xAj Tryz.prog (xMl F) := ⟨⟨by kernel_rfl, xJx F⟩, xGm F⟩
end
end Go.Proofs.YtnomnijhlbalaaaGreatDoor
