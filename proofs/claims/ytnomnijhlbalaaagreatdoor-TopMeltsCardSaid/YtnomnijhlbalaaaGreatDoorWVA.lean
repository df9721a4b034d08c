/- A part of the proof of the theorem of the last file. No condition. By an AI agent. -/
import Derived.Test.YtnomnijhlbalaaaGreatDoorWXW42
import Derived.Lib.Split
import Derived.Lib.AtoiAll
import Derived.Lib.SlTrimSet
import Derived.Lib.CutLaws
import Derived.Deep.Slices
import Derived.Deep.Fields
import Derived.ChangeSame
import Derived.OpenShut
import Derived.ShutString
import Derived.ChangeOld
import Derived.ProofKit
set_option maxRecDepth 100000
set_option maxHeartbeats 4000000
namespace Go.Proofs.YtnomnijhlbalaaaGreatDoor
section
open Go.Lib
abbrev bs (l : List UInt8) : ByteArray := ⟨l.toArray⟩
theorem xPZ (l : List UInt8) : (bs l).data.toList = l := rfl
theorem xAh (l : List UInt8) : (bs l).size = l.length := by simp [bs, ByteArray.size]
theorem xR3 (s : ByteArray) : s = bs s.data.toList := by cases s; simp [bs]
theorem xGG (u : Nat) : ∀ c ∈ decDigits u, 48 <= c.toNat /\ c.toNat <= 57 := by
 induction u using Nat.strongRecOn with
 | _ u ih =>
  intro c hc;rw [decDigits] at hc;split at hc
  ·rename_i h;simp only [List.mem_singleton] at hc;subst hc;rw [UInt8.toNat_ofNat'];omega
  ·rename_i h;rcases List.mem_append.1 hc with hc | hc
   ·exact ih _ (by omega) c hc
   ·simp only [List.mem_singleton] at hc;subst hc;rw [UInt8.toNat_ofNat'];omega
theorem xOB (u : Nat) : decDigits u ≠ [] := by
 rw [decDigits];split <;> simp
theorem xGH (u k : Nat) (h : u < 10 ^ (k + 1)) : (decDigits u).length <= k + 1 := by
 induction k generalizing u with
 | zero => rw [decDigits, dif_pos (by simpa using h)]; simp
 | succ k ih =>
  rw [decDigits];split
  ·simp
  ·have := ih (u / 10) (by rw [Nat.pow_succ] at h; omega);simp; omega
theorem xZ5 (u : Nat) (h : 1 <= u) : (decDigits u).head? ≠ some 48 := by
 induction u using Nat.strongRecOn with
 | _ u ih =>
  rw [decDigits];split
  ·rename_i h10;simp only [List.head?_cons, ne_eq, Option.some.injEq];intro e;have := congrArg UInt8.toNat e;rw [UInt8.toNat_ofNat'] at this;have h48 : (48 : UInt8).toNat = 48 := rfl;omega
  ·have h1 := ih (u / 10) (by omega) (by omega);have h2 := xOB (u / 10)
   cases hd : decDigits (u / 10) with
   | nil => exact absurd hd h2
   | cons x r => rw [hd] at h1; simpa using h1
theorem pu_app : ∀ (l r : List UInt8) (a : Nat), parseUint10 a (l ++ r) = match parseUint10 a l with
  | .ok x => parseUint10 x r
  | NumEnd.syntax => NumEnd.syntax
  | .range => .range
 | [], r, a => rfl
 | c :: l, r, a => by
  simp only [List.cons_append, parseUint10];split
  ·split
   ·rfl
   ·split
    ·rfl
    ·exact pu_app l r _
  ·rfl
theorem pu_dig (u : Nat) (h : u < 10 ^ 16) : parseUint10 0 (decDigits u) = .ok u := by
 induction u using Nat.strongRecOn with
 | _ u ih =>
  rw [decDigits];split
  ·rename_i h10;simp only [parseUint10, UInt8.toNat_ofNat'];have e : (48 + u) % 2 ^ 8 = 48 + u := by omega
   rw [e, if_pos (by omega), if_neg (by omega), if_neg (by omega)];congr 1; omega
  ·rename_i h10;rw [pu_app, ih (u / 10) (by omega) (by omega)];simp only [parseUint10, UInt8.toNat_ofNat'];have e : (48 + u % 10) % 2 ^ 8 = 48 + u % 10 := by omega
   rw [e, if_pos (by omega), if_neg (by omega), if_neg (by omega)];congr 1; omega
theorem xXM (n : Int) (h1 : -10000000000000000 < n) (h2 : n < 10000000000000000) : atoiAll (itoa n) = .ok n := by
 unfold itoa;split
 ·rename_i hn;have hu : n.natAbs < 10 ^ 16 := by omega
  have hm : parseMag (decDigits n.natAbs) = .ok n.natAbs := by rw [parseMag, if_neg (xOB _), pu_dig _ hu]
  show (match parseMag (if (45 : UInt8).toNat = 43 \/ (45 : UInt8).toNat = 45 then decDigits n.natAbs else 45 :: decDigits n.natAbs) with
   | NumEnd.syntax => NumEnd.syntax
   | .range => .range
   | .ok u => if ¬ ((45 : UInt8).toNat = 45) /\ 9223372036854775808 <= u then .range
    else if (45 : UInt8).toNat = 45 /\ 9223372036854775808 < u then .range
    else .ok (if (45 : UInt8).toNat = 45 then -(u : Int) else u)) = _
  have h45 : (45 : UInt8).toNat = 45 := rfl;rw [if_pos (.inr h45), hm];simp only [];rw [if_neg (fun e => e.1 h45), if_neg (fun e => by have := e.2; omega), if_pos h45];congr 1; omega
 ·rename_i hn;have hu : n.toNat < 10 ^ 16 := by omega
  have hm : parseMag (decDigits n.toNat) = .ok n.toNat := by rw [parseMag, if_neg (xOB _), pu_dig _ hu]
  cases hd : decDigits n.toNat with
  | nil => exact absurd hd (xOB _)
  | cons c r =>
   have hc := xGG n.toNat c (by rw [hd]; simp);rw [hd] at hm;have h45 : ¬ c.toNat = 45 := by omega
   have h43 : ¬ (c.toNat = 43 \/ c.toNat = 45) := by omega
   show (match parseMag (if c.toNat = 43 \/ c.toNat = 45 then r else c :: r) with
    | NumEnd.syntax => NumEnd.syntax
    | .range => .range
    | .ok u => if ¬ (c.toNat = 45) /\ 9223372036854775808 <= u then .range
     else if c.toNat = 45 /\ 9223372036854775808 < u then .range
     else .ok (if c.toNat = 45 then -(u : Int) else u)) = _
   rw [if_neg h43, hm];simp only [];rw [if_neg (fun e => by have := e.2; omega), if_neg (fun e => h45 e.1), if_neg h45];congr 1; omega
theorem xET (p : UInt8 -> Bool) : ∀ (l : List UInt8), (∀ c ∈ l, p c = true) -> l.dropWhile p = []
 | [], _ => rfl
 | c :: l, h => by
  rw [List.dropWhile_cons, if_pos (h c (by simp))];exact xET p l (fun x hx => h x (List.mem_cons_of_mem _ hx))
theorem xYl (l cs : List UInt8) (h : ∀ c ∈ l, cs.contains c = true) : trimS l cs = [] := by
 unfold trimS trimLeftS trimRightS;have h1 : l.reverse.dropWhile (cs.contains ·) = [] := by
  exact xET _ _ (fun c hc => h c (List.mem_reverse.1 hc))
 rw [h1]; rfl
def digs : List UInt8 := [48, 49, 50, 51, 52, 53, 54, 55, 56, 57]
theorem xZ4 {c : UInt8} (h1 : 48 <= c.toNat) (h2 : c.toNat <= 57) : digs.contains c = true := by
 have : c = UInt8.ofNat c.toNat := by simp
 rw [this];have h3 : c.toNat = 48 \/ c.toNat = 49 \/ c.toNat = 50 \/ c.toNat = 51 \/ c.toNat = 52 \/ c.toNat = 53 \/ c.toNat = 54 \/ c.toNat = 55 \/ c.toNat = 56 \/ c.toNat = 57 := by omega
 rcases h3 with h | h | h | h | h | h | h | h | h | h <;> rw [h] <;> rfl
theorem xYk (u : Nat) : trimS (decDigits u) digs = [] := xYl _ _ fun c hc => xZ4 (xGG u c hc).1 (xGG u c hc).2
theorem xZH (n : Int) : ∀ c ∈ itoa n, c.toNat = 45 \/ (48 <= c.toNat /\ c.toNat <= 57) := by
 intro c hc;unfold itoa at hc;split at hc
 ·rcases List.mem_cons.1 hc with rfl | hc
  ·exact .inl rfl
  ·exact .inr (xGG _ c hc)
 ·exact .inr (xGG _ c hc)
theorem xH2 (n : Int) (h1 : -10000000000000000 < n) (h2 : n < 10000000000000000) : (itoa n).length <= 17 := by
 unfold itoa;split
 ·have := xGH n.natAbs 15 (by omega);simp; omega
 ·have := xGH n.toNat 15 (by omega);omega
def xAi (c : UInt8) : List (List UInt8) -> List UInt8
 | [] => []
 | [x] => x
 | x :: y :: l => x ++ c :: xAi c (y :: l)
theorem idx_at (c : UInt8) (x r : List UInt8) (h : c ∉ x) : index (x ++ c :: r) [c] = x.length := by
 refine index_first (by simp) ?_ (fun j hj => ?_)
 ·simp [occAt]
 ·unfold occAt;have hl : j < (x ++ c :: r).length := by simp; omega
  rw [List.drop_eq_getElem_cons hl];have : (x ++ c :: r)[j] = x[j] := by rw [List.getElem_append_left hj]
  rw [this];have hne : ¬ c = x[j] := fun e => h (e ▸ List.getElem_mem _);simp [List.isPrefixOf, hne]
theorem idx_not (c : UInt8) (r : List UInt8) (x : List UInt8) (h : c ∉ x) : index x (c :: r) = -1 := by
 refine index_none (fun j _ => ?_);unfold occAt
 cases hd : x.drop j with
 | nil => rfl
 | cons y l =>
  have hy : y ∈ x := List.mem_of_mem_drop (by rw [hd]; simp);have hne : ¬ c = y := fun e => h (e ▸ hy);simp [List.isPrefixOf, hne]
theorem xGk (c : UInt8) : ∀ (l : List (List UInt8)), l ≠ [] -> (∀ x ∈ l, c ∉ x) -> splitB (bs [c]) 0 (countB (bs (xAi c l)) (bs [c])) (bs (xAi c l)) = l.map bs
 | [], h, _ => absurd rfl h
 | [x], _, h => by
  have hi : indexB (bs (xAi c [x])) (bs [c]) = -1 := idx_not c [] x (h x (by simp));rw [countB_miss _ _ hi, splitB_zero]; rfl
 | x :: y :: l, _, h => by
  have hi : indexB (bs (xAi c (x :: y :: l))) (bs [c]) = x.length := idx_at c x _ (h x (by simp));have he : (bs (xAi c (x :: y :: l))).extract (x.length + (bs [c]).size) (bs (xAi c (x :: y :: l))).size = bs (xAi c (y :: l)) := by
   rw [xR3 (ByteArray.extract _ _ _), extract_to_end, xPZ];have e1 : (bs [c]).size = 1 := rfl;rw [e1];show bs (List.drop (x.length + 1) (x ++ c :: xAi c (y :: l))) = _;congr 1;rw [<- List.drop_drop];simp
  have h1 : 1 <= (bs [c]).size := Nat.le_refl 1;rw [countB_hit _ _ x.length h1 hi, he, Nat.add_comm 1, splitB_hit _ _ _ _ _ hi, he, xGk c (y :: l) (by simp) (fun z hz => h z (List.mem_cons_of_mem _ hz))];rw [List.map_cons, xR3 (ByteArray.extract _ _ _), extract_from_zero, xPZ];congr 2;show List.take (x.length + 0) (x ++ c :: xAi c (y :: l)) = x;simp
theorem cut_at (c : UInt8) (r x z : List UInt8) (h : c ∉ x) : cut (x ++ c :: r ++ z) (c :: r) = (x, z, true) := by
 have hi : index (x ++ c :: r ++ z) (c :: r) = x.length := by
  refine index_first (by simp) ?_ (fun j hj => ?_)
  ·unfold occAt;rw [List.append_assoc, List.drop_left, List.isPrefixOf_iff_prefix];exact List.prefix_append _ _
  ·unfold occAt;have hl : j < (x ++ c :: r ++ z).length := by simp; omega
   rw [List.drop_eq_getElem_cons hl];have : (x ++ c :: r ++ z)[j] = x[j] := by
    rw [List.getElem_append_left (by simp; omega), List.getElem_append_left hj]
   rw [this];have hne : ¬ c = x[j] := fun e => h (e ▸ List.getElem_mem _);simp [List.isPrefixOf, hne]
 unfold cut;rw [hi, if_pos (by omega)];have e : ((x.length : Int)).toNat = x.length := rfl;rw [e, List.append_assoc];refine Prod.ext ?_ (Prod.ext ?_ rfl)
 ·simp
 ·show List.drop (x.length + (c :: r).length) (x ++ (c :: r ++ z)) = z;rw [<- List.drop_drop, List.drop_left, List.drop_left]
end
open Go.RowKit Go.Proofs
noncomputable section
def xMS (p : Int -> Option ByteArray) (n : Int) : Option ByteArray := (bif (decide (n < (0 : Int))) then (ob (p (jI.wrap ((0 : Int) - n))) (fun r => (bif (decide ((1 + r.size) <= 1000000)) then (some ((ByteArray.mk (Array.mk (45 :: []))) ++ r)) else none))) else (bif (decide (n < (10 : Int))) then (some (bytesOf ((IntKind.u8.wrap (jI.wrap ((48 : Int) + n))) :: []))) else (both (ob (p (jI.wrap (Int.tdiv n (10 : Int)))) (fun r1 => (bif (decide ((r1.size + (bytesOf ((IntKind.u8.wrap (jI.wrap ((48 : Int) + (Int.tmod n (10 : Int))))) :: [])).size) <= 1000000)) then (some (r1 ++ (bytesOf ((IntKind.u8.wrap (jI.wrap ((48 : Int) + (Int.tmod n (10 : Int))))) :: [])))) else none))) (ob (p (jI.wrap (Int.tdiv n (10 : Int)))) (fun r2 => (bif (decide ((r2.size + (bytesOf ((IntKind.u8.wrap (jI.wrap ((48 : Int) + (Int.tmod n (10 : Int))))) :: [])).size) <= 1000000)) then (some (r2 ++ (bytesOf ((IntKind.u8.wrap (jI.wrap ((48 : Int) + (Int.tmod n (10 : Int))))) :: [])))) else none))))))
abbrev xIf : Sch := ⟨[(0, .c .i)], []⟩
abbrev xIe : FSch := ⟨.one (.c (.t .str)), []⟩
def xTM (p : Int -> Option ByteArray) : Ent := ⟨10, 1, xIf, xIe, fun s => p s, []⟩
theorem xSk {p : Int -> Option ByteArray} (hp : FnSem Tryz.prog 10 1 xIf xIe (fun s => p s)) : xAf Tryz.prog (xTM p :: sh_T 70) := ⟨⟨by kernel_rfl, hp⟩, xGn 70⟩
theorem xYu {p : Int -> Option ByteArray} (hp : FnSem Tryz.prog 10 1 xIf xIe (fun s => p s)) : FnSem Tryz.prog 10 1 xIf xIe (fun s => xMS p s) :=
 xZV (call := xCk Tryz.prog 70 plans (xTM p :: sh_T 70) 20) (Fu := 70) (pl := xE4 plans 10) (d := 1000) (an := .no) (xAF xAg 70 xAG (xSk hp) 20) xAg (by kernel_rfl) (xDW (c := xAj Tryz.prog 10) (p := []) (trivial)) (fun s => by kernel_rfl)
def xKd : Nat -> Int -> Option ByteArray
 | 0 => fun _ => none
 | k + 1 => xMS (xKd k)
theorem xQn : ∀ k, FnSem Tryz.prog 10 1 xIf xIe (fun s => xKd k s)
 | 0 => fun _ _ h => by cases h
 | k + 1 => xYu (xQn k)
theorem xCP (n : Int) (h : -9223372036854775808 <= n /\ n <= 9223372036854775807) : jI.wrap n = n := by rw [IntKind.wrap_i64]; omega
theorem txw8 (n : Int) (h : 0 <= n /\ n <= 255) : IntKind.u8.wrap n = n := by rw [IntKind.wrap_u8]; omega
theorem xJW (n : Int) : bytesOf [n] = bs [UInt8.ofNat n.toNat] := rfl
theorem xAk (l r : List UInt8) : bs l ++ bs r = bs (l ++ r) := by
 apply ByteArray.ext;simp [bs, ByteArray.data_append]
theorem xMR : ∀ (k u : Nat), k <= 16 -> u < 1000000000000000 -> u < 10 ^ (k + 1) -> xKd (k + 1) (u : Int) = some (bs (Lib.decDigits u))
 | k, u, hk, hb, h => by
  show xMS (xKd k) (u : Int) = _;unfold xMS;rw [show decide ((u : Int) < 0) = false from decide_eq_false (by omega), cond_false, xJY];by_cases h10 : u < 10
  ·rw [show decide ((u : Int) < 10) = true from decide_eq_true (by omega), cond_true, xCP _ (by omega), txw8 _ (by omega), xJW, Lib.decDigits, dif_pos h10];rfl
  ·rw [show decide ((u : Int) < 10) = false from decide_eq_false (by omega), cond_false];have e1 : (u : Int).tdiv 10 = ((u / 10 : Nat) : Int) := by rw [Int.tdiv_eq_ediv_of_nonneg (by omega)]; omega
   have e2 : (u : Int).tmod 10 = ((u % 10 : Nat) : Int) := by rw [Int.tmod_eq_emod_of_nonneg (by omega)]; omega
   cases k with
   | zero => omega
   | succ k =>
    rw [e1, e2, xCP _ (by omega), xCP _ (by omega), txw8 _ (by omega), xMR k (u / 10) (by omega) (by omega) (by rw [Nat.pow_succ] at h; omega), xAd, xJW];have hl := xGH (u / 10) 15 (by omega);rw [show decide ((bs (Lib.decDigits (u / 10))).size + (bs [UInt8.ofNat (48 + ((u % 10 : Nat) : Int)).toNat]).size <= 1000000) = true from decide_eq_true (by rw [xAh, xAh]; simp; omega), cond_true, xAk];congr 2;rw [Lib.decDigits.eq_def u, dif_neg h10];congr 3
theorem xKp {k u : Nat} (h : u < 1000000000000000) (hk : 15 <= k /\ k <= 16 := by omega) : xKd (k + 1) (u : Int) = some (bs (Lib.decDigits u)) := xMR k u (by omega) h (Nat.lt_of_lt_of_le h (Nat.le_trans (by decide : 1000000000000000 <= 10 ^ 16) (Nat.pow_le_pow_right (by decide) (by omega))))
def xCd (_ : Nat) (n : Int) : Option ByteArray := bif decide (-1000000000000000 < n) && decide (n < 1000000000000000) then some (bs (Lib.itoa n)) else none
theorem xTN (n : Int) (h1 : -1000000000000000 < n) (h2 : n < 1000000000000000) : xKd 17 n = some (bs (Lib.itoa n)) := by
 show xMS (xKd 16) n = _;unfold xMS;by_cases hn : n < 0
 ·rw [decide_eq_true hn, cond_true, xCP _ (by omega)];have e : (0 : Int) - n = ((n.natAbs : Nat) : Int) := by omega
  have hx : xKd 16 (n.natAbs : Int) = some (bs (Lib.decDigits n.natAbs)) := by
   have := xKp (k := 15) (u := n.natAbs) (by omega) ⟨Nat.le_refl _, by decide⟩;exact this
  rw [e, hx, xAd];have hl := xGH n.natAbs 15 (by omega);rw [decide_eq_true (by rw [xAh]; omega), cond_true];show some (bs [45] ++ bs _) = _;rw [xAk];unfold Lib.itoa;rw [if_pos hn]; rfl
 ·obtain ⟨u, rfl⟩ : ∃ u : Nat, n = u := ⟨n.toNat, by omega⟩;have := xKp (k := 16) (u := u) (by omega) ⟨by decide, Nat.le_refl _⟩;have e : xKd 17 (u : Int) = xMS (xKd 16) u := rfl;rw [e] at this;unfold xMS at this;rw [this];unfold Lib.itoa;rw [if_neg hn]; rfl
def text_E (F : Nat) : Ent := ⟨10, 1, xIf, xIe, fun s => xCd F s, []⟩
theorem xTL (F : Nat) : FnSem Tryz.prog 10 1 xIf xIe (fun s => xCd F s) := by
 intro (s : Int) t h;refine xQn 17 s t ?_;change xCd F s = some t at h;unfold xCd at h
 cases hd : decide (-1000000000000000 < s) && decide (s < 1000000000000000) with
 | false => rw [hd] at h; cases h
 | true =>
  rw [hd, cond_true] at h;simp only [Bool.and_eq_true, decide_eq_true_eq] at hd;rw [<- h];exact xTN s hd.1 hd.2
end
noncomputable section
def txt_T (F : Nat) : List Ent := text_E F :: xNY F :: sh_T F
theorem xQc (F : Nat) : xAf Tryz.prog (txt_T F) := ⟨⟨by kernel_rfl, xTL F⟩, ⟨by kernel_rfl, xJf F⟩, xGn F⟩
end
noncomputable section
def xBQ (F : Nat) (r : (Int × Int)) : Option (ByteArray) := (ob (xCd F r.1) (fun r1 => (bif (decide ((r1.size + 2) <= 1000000)) then (ob (xCd F r.2) (fun r2 => (bif (decide (((r1 ++ B_3).size + r2.size) <= 1000000)) then (some ((r1 ++ B_3) ++ r2)) else none))) else none)))
abbrev xQs : Sch := ⟨[(0, .ag [.t (.pair .i .i)])], []⟩
abbrev xQr : FSch := ⟨.one (.c (.t .str)), []⟩
def xQt (F : Nat) : Ent := ⟨19, 1, xQs, xQr, fun s => xBQ F s, []⟩
theorem xM2 (F : Nat) : FnSem Tryz.prog 19 1 xQs xQr (fun s => xBQ F s) :=
 fK (an := .no) (xQc F) (trivial)
def xQq (F : Nat) : List Ent := xQt F :: txt_T F
theorem xIo (F : Nat) : xAf Tryz.prog (xQq F) := ⟨⟨by kernel_rfl, xM2 F⟩, xQc F⟩
def xBV (F : Nat) (b : T_0) : Option (ByteArray) := (ob (xBQ F b.1) (fun r => (bif (decide ((r.size + 1) <= 1000000)) then (ob (xBQ F b.2.1) (fun r1 => (bif (decide (((r ++ (ByteArray.mk (Array.mk (47 :: [])))).size + r1.size) <= 1000000)) then (bif (decide ((((r ++ (ByteArray.mk (Array.mk (47 :: [])))) ++ r1).size + 1) <= 1000000)) then (ob (xBQ F b.2.2) (fun r2 => (bif (decide (((((r ++ (ByteArray.mk (Array.mk (47 :: [])))) ++ r1) ++ (ByteArray.mk (Array.mk (47 :: [])))).size + r2.size) <= 1000000)) then (some ((((r ++ (ByteArray.mk (Array.mk (47 :: [])))) ++ r1) ++ (ByteArray.mk (Array.mk (47 :: [])))) ++ r2)) else none))) else none) else none))) else none)))
abbrev xR6 : Sch := ⟨[(0, .ag [.t C_0])], []⟩
abbrev xR5 : FSch := ⟨.one (.c (.t .str)), []⟩
def xR7 (F : Nat) : Ent := ⟨11, 1, xR6, xR5, fun s => xBV F s, []⟩
theorem xOQ (F : Nat) : FnSem Tryz.prog 11 1 xR6 xR5 (fun s => xBV F s) :=
 fK (an := .no) (xIo F) (trivial)
def xR4 (F : Nat) : List Ent := xR7 F :: xQq F
theorem xJX (F : Nat) : xAf Tryz.prog (xR4 F) := ⟨⟨by kernel_rfl, xOQ F⟩, xIo F⟩
def xGm (F : Nat) (b : T_0) : Option (Bool) := (bif (decide (b.1.1 < (-1000000000000 : Int))) then (some false) else (bif (decide (b.1.1 > 1000000000000)) then (some false) else (bif (decide (b.1.2 < (-1000000000000 : Int))) then (some false) else (bif (decide (b.1.2 > 1000000000000)) then (some false) else (bif (decide (b.2.1.1 < (-1000000000000 : Int))) then (some false) else (bif (decide (b.2.1.1 > 1000000000000)) then (some false) else (bif (decide (b.2.1.2 < (-1000000000000 : Int))) then (some false) else (bif (decide (b.2.1.2 > 1000000000000)) then (some false) else (bif (decide (b.2.2.1 < (-1000000000000 : Int))) then (some false) else (bif (decide (b.2.2.1 > 1000000000000)) then (some false) else (bif (decide (b.2.2.2 < (-1000000000000 : Int))) then (some false) else (bif (decide (b.2.2.2 > 1000000000000)) then (some false) else (some true)))))))))))))
abbrev xUb : Sch := ⟨[(0, .ag [.t C_0])], []⟩
abbrev xUa : FSch := ⟨.one (.c (.t .bool)), []⟩
def xUc (F : Nat) : Ent := ⟨6, 1, xUb, xUa, fun s => xGm F s, []⟩
theorem xQy (F : Nat) : FnSem Tryz.prog 6 1 xUb xUa (fun s => xGm F s) :=
 fK (an := .no) (xJX F) (trivial)
def small_T (F : Nat) : List Ent := xUc F :: xR4 F
theorem xSs (F : Nat) : xAf Tryz.prog (small_T F) := ⟨⟨by kernel_rfl, xQy F⟩, xJX F⟩
def xCE (F : Nat) (l : (List (Int × (Int × T_0)))) : Option ((List (Int × (Int × T_0)))) := (bif (xA8 0 l.length) then (some ([] ++ l)) else none)
abbrev xM0 : Sch := ⟨[(0, .c (.k (.sl 0 8)))], [.ro C_2]⟩
abbrev xMZ : FSch := ⟨.one (.c (.k (.sl 1 8))), [.dead, .rows 77 C_2]⟩
def xT0 (F : Nat) : Ent := ⟨24, 1, xM0, xMZ, fun s => xCE F s, []⟩
theorem xSm (F : Nat) : FnSem Tryz.prog 24 1 xM0 xMZ (fun s => xCE F s) :=
 fK (an := .no) (xSs F) (trivial)
end
noncomputable section
abbrev xQp : Nat := 2
def xDx (F : Nat) (s1 : ((Int × Int) × (T_1 × ((List (Int × Nat)) × ((List (ByteArray × Nat)) × (T_6 × (T_4 × (T_8 × (T_7 × (T_3 × (T_5 × ((Int × T_0) × (Int × T_0))))))))))))) (e : ((ByteArray × Nat))) : Option (((Int × Int) × (T_1 × ((List (Int × Nat)) × ((List (ByteArray × Nat)) × (T_6 × (T_4 × (T_8 × (T_7 × (T_3 × (T_5 × ((Int × T_0) × (Int × T_0)))))))))))) ⊕ (((Int × Int) × (T_1 × ((List (Int × Nat)) × ((List (ByteArray × Nat)) × (T_6 × (T_4 × (T_8 × (T_7 × (T_3 × (T_5 × ((Int × T_0) × (Int × T_0)))))))))))))) := (bif (!(Nat.beq e.2 0)) then (bif (!(Nat.beq e.2 0)) then (bif (inO e.2 s1.t5.1.length) then (bif (!(Nat.beq e.2 0)) then (bif (!(Nat.beq e.2 0)) then (bif (inO e.2 s1.t5.1.length) then (bif ((xA3 s1.t6.1 (nth s1.t5.1 D_1 (e.2 - 1)).2.1) && true) then (ob (xAX F (nth s1.t5.1 D_1 (e.2 - 1)).1 (rowAt s1.t6.1 (nth s1.t5.1 D_1 (e.2 - 1)).2.1)) (fun r1 => (bif (decide (0 < ((r1.2.length - 0) : Int))) then (bif (inB 0 (r1.2.length - 0)) then (bif (decide (1 < ((r1.2.length - 0) : Int))) then (bif (inB 1 (r1.2.length - 0)) then (bif (decide (2 < ((r1.2.length - 0) : Int))) then (bif (inB 2 (r1.2.length - 0)) then (bif (decide (3 < ((r1.2.length - 0) : Int))) then (bif (inB 3 (r1.2.length - 0)) then none else none) else (some (.inl (((jI.wrap (s1.1.1 + r1.1.1.1)), (jI.wrap ((jI.wrap ((jI.wrap (s1.1.2 + (nth r1.2 D_3 0).1)) + (nth r1.2 D_3 1).1)) + (nth r1.2 D_3 2).1))), s1.2)))) else none) else (some (.inl (((jI.wrap (s1.1.1 + r1.1.1.1)), (jI.wrap ((jI.wrap (s1.1.2 + (nth r1.2 D_3 0).1)) + (nth r1.2 D_3 1).1))), s1.2)))) else none) else (some (.inl (((jI.wrap (s1.1.1 + r1.1.1.1)), (jI.wrap (s1.1.2 + (nth r1.2 D_3 0).1))), s1.2)))) else none) else (some (.inl (((jI.wrap (s1.1.1 + r1.1.1.1)), s1.1.2), s1.2)))))) else none) else none) else none) else none) else none) else none) else none)
def xDw (F : Nat) (s1 : ((Int × Int) × (T_1 × ((List (Int × Nat)) × ((List (ByteArray × Nat)) × (T_6 × (T_4 × (T_8 × (T_7 × (T_3 × (T_5 × ((Int × T_0) × (Int × T_0))))))))))))) : Option (((Int × Int) × (T_1 × ((List (Int × Nat)) × ((List (ByteArray × Nat)) × (T_6 × (T_4 × (T_8 × (T_7 × (T_3 × (T_5 × ((Int × T_0) × (Int × T_0))))))))))))) := some (s1)
abbrev xCC : Sch := ⟨[(6, .c (.k (.pt 16 0 0 0))), (7, .c (.k (.pt 17 0 0 0))), (8, .c .i), (9, .c .i)], [K_0, K_7, K_4, .dead, K_3, K_25, .dead, .dead, .dead, .dead, .dead, xC9, xC8, xDa, K_9, K_2, xTg, xTg]⟩
abbrev xCD : xBO := [(.normal, ⟨[(6, .c (.k (.pt 16 0 0 0))), (7, .c (.k (.pt 17 0 0 0))), (8, .c .i), (9, .c .i)], [K_0, K_7, K_4, .dead, K_3, K_25, .dead, .dead, .dead, .dead, .dead, xC9, xC8, xDa, K_9, K_2, xTg, xTg]⟩)]
abbrev xE1 : RngC := rngGet (xBS (xAw (xAj Tryz.prog 94) [1, 1, 1, 0]))
theorem xMY (F : Nat) : xHx Tryz.prog 11 (xAA Tryz.prog 94 xQp) xE1 xCC xCD .s false (.rf 0 2) (xDx F) (xDw F) :=
 xUt (P := Tryz.prog) (m := 11) (N := xAA Tryz.prog 94 xQp) (R := xE1) (Sc := xCC) (o := xCD) (call := xCk Tryz.prog 4 plans (xUd F) 20) (Fu := 4) (pl := (xE4 plans 94)) (c := (xAw (xAj Tryz.prog 94) [1, 1, 1, 0])) (by kernel_rfl) (xAF xAg 4 xAG (xIA F) 20) xAg (by kernel_rfl) (by kernel_rfl) (by kernel_rfl) (by kernel_rfl) (fun s e => by kernel_rfl) (fun s => by kernel_rfl)
def xLE (F : Nat) (ws : (Int × T_0)) (wl : (List (Int × Nat))) (wi : (List (ByteArray × Nat))) (ww : (List (ByteArray × Nat))) (x : (((Int × Int) × ((Int × Int) × ((Int × Int) × T_0))) × ByteArray)) (ar0 : T_3) (ar1 : T_5) (ar2 : T_4) (ar3 : T_8) (ar4 : T_7) : Option (((ByteArray × Int) × (T_1 × ((List (Int × Nat)) × ((List (ByteArray × Nat)) × ((List (ByteArray × Nat)) × (T_6 × (T_4 × (T_8 × (T_7 × (T_3 × T_5))))))))))) := (ob (xMX F ws wl ar0 ar1) (fun r => (xDO (fun (π : List ((ByteArray × Nat))) => (ob (xUu (S := xCC) (o := xCD) (κ := .s) (τ := (.rf 0 2)) (xDx F) (xDw F) (((0 : Int), (0 : Int)), ((r.2.1.1, (r.2.1.2.1, (r.2.1.2.2.1, (r.2.1.2.2.2.1, (r.2.1.t4))))), r.2.2.1, ww, (x.1.1.1, (x.1.1.2, (x.1.2.1.1, (x.1.2.1.2, (x.1.2.2.1.1, (x.1.2.2.1.2, (x.1.2.2.2.1.1, (x.1.2.2.2.1.2, (x.1.t4.1.1, (x.1.t4.1.2, (x.1.t5.1, (x.1.t6, x.2)))))))))))), ar2, ar3, ar4, r.2.2.2.1, r.t4, r.1)) π) (fun s2 => (ob (xA6 F s2.t9.2.1.1) (fun r2 => (ob (xA6 F s2.t9.2.2.1) (fun r3 => (ob (xA6 F s2.1.1) (fun r4 => (ob (xA6 F s2.1.2) (fun r5 => (ob (xDR F B_2 (r2 :: (r3 :: (r4 :: (r5 :: []))))) (fun r6 => (some ((r6, (0 : Int)), (s2.2.1, s2.2.2.1, wi, s2.2.2.2.1, s2.t4.1, s2.t5.1, s2.t6.1, s2.t7.1, s2.t8.1, s2.t9.1)))))))))))))))) wi)))
abbrev xLG : Sch := ⟨[(0, .c (.k (.pt 0 0 0 0))), (1, .c (.k (.pt 5 0 0 0)))], [K_0, K_19, K_4, K_3, K_3, .blk 137 [.k (.lit (.slice none 0 0)), .k (.lit (.slice none 0 0)), .k (.lit (.slice none 0 0)), .t (.pair (.pair .i .i) (.pair (.pair .i .i) (.pair (.pair .i .i) C_0))), .k (.lit (.slice none 0 0)), .k (.lit (.slice none 0 0)), .t .str], K_9, K_2, xC9, xC8, xDa]⟩
abbrev xLF : FSch := ⟨.tu [(false, [.t .str]), (false, [.i])], [K_0, K_7, K_4, K_3, K_3, K_25, .dead, .dead, .dead, .dead, .dead, xC9, xC8, xDa, K_9, K_2]⟩
theorem xTT (F : Nat) : FnSem Tryz.prog 94 2 xLG xLF (fun s => xLE F s.1 s.2.1 s.2.2.1 s.2.2.2.1 s.t4.1 s.t5.1 s.t6.1 s.t7.1 s.t8.1 s.t9) :=
 xZV (call := xCk Tryz.prog 4 plans (xUd F) 20) (Fu := 4) (pl := xE4 plans 94) (d := 1000) (an := (.two .no (.two .no (.two .no (.two (.rng xCC xCD .s false (.rf 0 2) (xDx F) (xDw F)) .no))))) (xAF xAg 4 xAG (xIA F) 20) xAg (by kernel_rfl) (xDW (c := xAj Tryz.prog 94) (p := []) (⟨trivial, ⟨trivial, ⟨trivial, ⟨(xXZ (R := xE1) (by kernel_rfl) (xMY F)), trivial⟩⟩⟩⟩)) (fun s => by kernel_rfl)
end
noncomputable section
def any1 {α β : Type} (f : List α -> Option β) : List α -> Option β
 | [x] => f [x]
 | _ => none
theorem xXY {α β : Type} {f : List α -> Option β} : ∀ {ts : List α} {r : β}, any1 f ts = some r -> xDO f ts = some r
 | [x], r, h => xTf fun π hp => by rw [List.perm_singleton.1 hp]; exact h
 | [], _, h => by cases h
 | _ :: _ :: _, _, h => by cases h
theorem FnSem.le {P : Program} {f n : Nat} {In : Sch} {Out : FSch} {s s' : In.ty -> Option Out.ty} (h : FnSem P f n In Out s) (hl : ∀ x y, s' x = some y -> s x = some y) : FnSem P f n In Out s' := fun x t hx => h x t (hl x t hx)
def xOZ (F : Nat) (s1 : (Int × T_0)) (s_lots : (List (Int × Nat))) (ar0 : T_3) (ar1 : T_5) : Option ((((Int × T_0) × (Int × T_0)) × (T_1 × ((List (Int × Nat)) × (T_3 × T_5))))) := (any1 (fun (π : List ((Int × Nat))) => (ob (xUu (S := xD1) (o := xD2) (κ := (.i .i64)) (τ := (.rf 0 0)) (xFA F) (xFz F) ((s1.1, (s1.2.1.1, (s1.2.1.2, (s1.2.2.1.1, (s1.2.2.1.2, s1.2.2.2))))), ar0, ar1, ((0 : Int), (((0 : Int), (0 : Int)), (((0 : Int), (0 : Int)), ((0 : Int), (0 : Int))))), ((0 : Int), (((0 : Int), (0 : Int)), (((0 : Int), (0 : Int)), ((0 : Int), (0 : Int)))))) π) (fun s3 => (some ((s3.2.2.2.1, (s3.1.1, ((s3.1.2.1, s3.1.2.2.1), ((s3.1.2.2.2.1, s3.1.2.2.2.2.1), s3.1.2.2.2.2.2)))), (s3.1, s_lots, s3.2.1, s3.2.2.1)))))) s_lots)
theorem xYC (F : Nat) {a b c d y} (h : xOZ F a b c d = some y) : xMX F a b c d = some y := by
 unfold xOZ at h;unfold xMX;exact xXY h
def xHP (F : Nat) (w_store : (Int × T_0)) (w_store_lots : (List (Int × Nat))) (w_ingots : (List (ByteArray × Nat))) (w_wafers : (List (ByteArray × Nat))) (x : (((Int × Int) × ((Int × Int) × ((Int × Int) × T_0))) × ByteArray)) (ar0 : T_3) (ar1 : T_5) (ar2 : T_4) (ar3 : T_8) (ar4 : T_7) : Option (((ByteArray × Int) × (T_1 × ((List (Int × Nat)) × ((List (ByteArray × Nat)) × ((List (ByteArray × Nat)) × (T_6 × (T_4 × (T_8 × (T_7 × (T_3 × T_5))))))))))) := (ob (xOZ F w_store w_store_lots ar0 ar1) (fun r => (any1 (fun (π : List ((ByteArray × Nat))) => (ob (xUu (S := xCC) (o := xCD) (κ := .s) (τ := (.rf 0 2)) (xDx F) (xDw F) (((0 : Int), (0 : Int)), ((r.2.1.1, (r.2.1.2.1, (r.2.1.2.2.1, (r.2.1.2.2.2.1, (r.2.1.2.2.2.2.1, (r.2.1.2.2.2.2.2.1, r.2.1.2.2.2.2.2.2)))))), r.2.2.1, w_wafers, (x.1.1.1, (x.1.1.2, (x.1.2.1.1, (x.1.2.1.2, (x.1.2.2.1.1, (x.1.2.2.1.2, (x.1.2.2.2.1.1, (x.1.2.2.2.1.2, (x.1.2.2.2.2.1.1, (x.1.2.2.2.2.1.2, (x.1.2.2.2.2.2.1, (x.1.2.2.2.2.2.2, x.2)))))))))))), ar2, ar3, ar4, r.2.2.2.1, r.2.2.2.2, r.1.1, r.1.2)) π) (fun s2 => (ob (xA6 F s2.2.2.2.2.2.2.2.2.2.2.1.1) (fun r2 => (ob (xA6 F s2.2.2.2.2.2.2.2.2.2.2.2.1) (fun r3 => (ob (xA6 F s2.1.1) (fun r4 => (ob (xA6 F s2.1.2) (fun r5 => (ob (xDR F B_2 (r2 :: (r3 :: (r4 :: (r5 :: []))))) (fun r6 => (some ((r6, (0 : Int)), (s2.2.1, s2.2.2.1, w_ingots, s2.2.2.2.1, s2.2.2.2.2.1, s2.2.2.2.2.2.1, s2.2.2.2.2.2.2.1, s2.2.2.2.2.2.2.2.1, s2.2.2.2.2.2.2.2.2.1, s2.2.2.2.2.2.2.2.2.2.1)))))))))))))))) w_ingots)))
theorem xTV (F : Nat) {w_store w_store_lots w_ingots w_wafers x ar0 ar1 ar2 ar3 ar4 y} (h : xHP F w_store w_store_lots w_ingots w_wafers x ar0 ar1 ar2 ar3 ar4 = some y) : xLE F w_store w_store_lots w_ingots w_wafers x ar0 ar1 ar2 ar3 ar4 = some y := by
 unfold xHP at h;obtain ⟨r, h1, h2⟩ := xDh h;unfold xLE;rw [xYC F h1];exact xXY h2
def xYD (F : Nat) : Ent := ⟨94, 2, xLG, xLF, fun s => xHP F s.1 s.2.1 s.2.2.1 s.2.2.2.1 s.2.2.2.2.1 s.2.2.2.2.2.1 s.2.2.2.2.2.2.1 s.2.2.2.2.2.2.2.1 s.2.2.2.2.2.2.2.2.1 s.2.2.2.2.2.2.2.2.2, []⟩
theorem xTU (F : Nat) : FnSem Tryz.prog 94 2 xLG xLF (fun s => xHP F s.1 s.2.1 s.2.2.1 s.2.2.2.1 s.2.2.2.2.1 s.2.2.2.2.2.1 s.2.2.2.2.2.2.1 s.2.2.2.2.2.2.2.1 s.2.2.2.2.2.2.2.2.1 s.2.2.2.2.2.2.2.2.2) :=
 (xTT F).le (fun _ _ h => xTV F h)
end
section
open Go.ChangeShapes Go.WideShapes Go.Deep
def fit : Value -> Prop
 | .int k n => k.min <= n /\ n <= k.max
 | .string s => s.size <= maxLen
 | _ => True
def Fits (l : List Value) : Prop := ∀ v ∈ l, fit v
theorem Fits.nil : Fits [] := fun _ h => by cases h
theorem Fits.app {l r : List Value} (h : Fits l) (h2 : Fits r) : Fits (l ++ r) := fun v hv => (List.mem_append.1 hv).elim (h v) (h2 v)
theorem Fits.one {v : Value} (h : fit v) : Fits [v] := fun u hu => by simp only [List.mem_singleton] at hu; subst hu; exact h
theorem someOf {α : Type} {xs : List α} {i n : Nat} (hl : xs.length = n) (hi : i < n) : ∃ y, xs[i]? = some y := ⟨_, List.getElem?_eq_getElem (by omega)⟩
def xLh : Nat -> List (Nat × Nat) -> Nat -> Bool
 | o, [], t => o == t
 | o, (p, n) :: r, t => p == o && xLh (o + n) r t
theorem parts_ : ∀ (l : List (Nat × Nat)) (o t : Nat) (cs : List Value), xLh o l t = true -> cs.length = t -> cs.drop o = (l.map fun x => (cs.drop x.1).take x.2).flatten
 | [], o, t, cs, h, hl => by
  simp only [xLh, beq_iff_eq] at h;simp [List.drop_eq_nil_of_le (show cs.length <= o by omega)]
 | (p, n) :: r, o, t, cs, h, hl => by
  simp only [xLh, Bool.and_eq_true, beq_iff_eq] at h;obtain ⟨rfl, h⟩ := h;have ih := parts_ r (p + n) t cs h hl;simp only [List.map_cons, List.flatten_cons, <- ih];rw [<- List.drop_drop];exact (List.take_append_drop n (cs.drop p)).symm
theorem parts {cs : List Value} {t : Nat} (l : List (Nat × Nat)) (h : xLh 0 l t = true) (hl : cs.length = t) : cs = (l.map fun x => (cs.drop x.1).take x.2).flatten := by
 have := parts_ l 0 t cs h hl;rwa [List.drop_zero] at this
section
variable {P : Program} {H : Type} {enc : TypeId × Value -> H} {W : World} {base : Nat} {spare : Nat -> Bool} {held : Bool} {fuel : Nat} {cs : List Value} {x : DataW H × List MemPlace} {t : TypeId}
theorem xYh {r : Reach} {v : Value} {k : IntKind} (ht : P.underlying t = some (.int k)) (h : Value.okWide P W r base t v) (hx : DataW.trod enc P W 0 (fun _ => true) true fuel t v.cells.toList = some x) : ∃ n, v = .int k n := by
 obtain ⟨n, hn, _⟩ := DataW.trod_int ht hx
 cases v with
 | agg c => simp [Value.okWide, ht, Cell.okWide, Cell.ok] at h
 | _ => simp_all [Value.cells]
theorem xTq {r : Reach} {v : Value} (ht : P.underlying t = some .bool) (h : Value.okWide P W r base t v) (hx : DataW.trod enc P W 0 (fun _ => true) true fuel t v.cells.toList = some x) : ∃ n, v = .bool n := by
 obtain ⟨n, hn, _⟩ := DataW.trod_bool ht hx
 cases v with
 | agg c => simp [Value.okWide, ht, Cell.okWide, Cell.ok] at h
 | _ => simp_all [Value.cells]
theorem xX3 (b off n : Nat) : (⟨b, off, none⟩ : Addr).add n = ⟨b, off + n, none⟩ := by unfold Addr.add; split <;> simp_all
theorem xZU {α : Type} {f : α -> List Value} {Pr : α -> Prop} (d : α) {k : Nat} {e : TypeId} (ht : P.underlying t = some (.slice e)) (hk : P.cellsOf e = k) (hpos : 0 < k) (hf : ∀ l : α, (f l).length = k)
  (hel : ∀ n cs x, DataW.trod enc P W base spare held n e cs = some x -> ∃ l : α, cs = f l /\ Pr l) (h : DataW.trod enc P W base spare held fuel t cs = some x) (hsp : spare = fun _ => true) :
  ∃ (a : Option Addr) (cap : Nat) (xs : List α), cs = [.slice a xs.length cap] /\ Sl k f W a cap xs /\ ∀ y ∈ xs, Pr y := by
 subst hsp;rcases open_slice ht h with ⟨hcs, _⟩ | ⟨a, len, cap, m, n, D, Pl, hcs, hb, hl, hm, hmm, hx, hi⟩
 ·exact ⟨none, 0, [], hcs, Sl.nil _ _ _, by simp⟩
 ·simp only [if_true] at hmm;have hex : ∀ i, ∃ l : α, i < m -> W.cells? base (a.add (i * k)) k = some (f l) /\ Pr l := fun i => by
   by_cases him : i < m
   ·obtain ⟨cs', hc, ht'⟩ := hi i him;obtain ⟨l, hl', hp⟩ := hel n cs' _ ht';rw [hk] at hc;exact ⟨l, fun _ => ⟨by rw [hc, hl'], hp⟩⟩
   ·exact ⟨d, fun h => absurd h him⟩
  obtain ⟨g, hg⟩ := Classical.axiomOfChoice hex;refine ⟨some a, cap, (List.range len).map g, by rw [hcs, List.length_map, List.length_range], ⟨by simpa using hl, by unfold maxLen at hm; omega, fun h0 => ?_⟩, fun y hy => ?_⟩
  ·have h0' : 0 < len := by simpa using h0
   obtain ⟨b, off, spot⟩ := a;have h00 := (hg 0 (by omega)).1;obtain ⟨_, _, hat0⟩ := World.cells?_some h00;have hat := (hat0 0 hpos).trans (List.getElem?_eq_getElem (by rw [hf]; exact hpos));have hspot : spot = none := by simpa [Addr.add] using World.cell?_spot hat
   subst hspot;have hlt : b < W.heap.size := by
    have h9 := cell_lt (by simpa [Addr.add] using hat : W.cell? ⟨b, off, none⟩ = some _);exact h9
   refine ⟨b, off, rfl, hlt, fun i hi' j v hv => ?_⟩;have hi2 : i < len := by simpa using hi'
   have hgi := (hg i (by omega)).1;obtain ⟨_, hcl, hat1⟩ := World.cells?_some hgi;simp only [List.getElem_map, List.getElem_range] at hv;have hj : j < k := by have h9 := (List.getElem?_eq_some_iff.1 hv).1; rwa [hf] at h9
   have h1 := hat1 j hj;rw [hv] at h1;rw [xX3, xX3] at h1;exact h1
  ·obtain ⟨i, hi', rfl⟩ := List.mem_map.1 hy;exact (hg i (by have := List.mem_range.1 hi'; omega)).2
end
end
end Go.Proofs.YtnomnijhlbalaaaGreatDoor
