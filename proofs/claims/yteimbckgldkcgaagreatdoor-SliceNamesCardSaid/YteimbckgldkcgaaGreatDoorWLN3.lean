/- The plain law of SliceNames: each text is read back. No condition. -/
import Derived.Test.YteimbckgldkcgaaGreatDoorWLN2
namespace Go.Proofs.YteimbckgldkcgaaGreatDoor
open Go.RowKit
set_option maxRecDepth 100000
abbrev nm0 : NmT := ((ByteArray.mk (Array.mk [])), ((0 : Int), (0 : Int)))
abbrev dash : ByteArray := ByteArray.mk (Array.mk (45 :: []))
theorem idx_at : ∀ (A R : List UInt8), (45 : UInt8) ∉ A → Lib.index (A ++ 45 :: R) [45] = (A.length : Int)
  | [], R, _ => by
    show (if ([45] : List UInt8).isPrefixOf (45 :: R) then (0 : Int) else _) = _
    rw [if_pos (by simp)]; rfl
  | a :: A, R, h => by
    have h1 := idx_at A R (fun x => h (by simp [x]))
    have h2 : ¬ ([45] : List UInt8).isPrefixOf (a :: (A ++ 45 :: R)) = true := fun e => by
      simp only [List.isPrefixOf, Bool.and_eq_true, beq_iff_eq] at e
      exact h (by simp [e.1])
    show (if ([45] : List UInt8).isPrefixOf (a :: (A ++ 45 :: R)) then (0 : Int) else if Lib.index (A ++ 45 :: R) [45] == -1 then -1 else Lib.index (A ++ 45 :: R) [45] + 1) = _
    rw [if_neg h2, h1, if_neg (by simp only [beq_iff_eq]; omega), List.length_cons]
    omega
theorem cut_at (A R : List UInt8) (h : (45 : UInt8) ∉ A) : Lib.cut (A ++ 45 :: R) [45] = (A, R, true) := by
  unfold Lib.cut
  rw [idx_at A R h, if_pos (by omega), Int.toNat_natCast, List.take_left']
  · rw [show A.length + ([45] : List UInt8).length = (A ++ [45]).length by simp, show A ++ 45 :: R = (A ++ [45]) ++ R by simp, List.drop_left']
    rfl
  · rfl
theorem cutS_at (F : Nat) (A R : List UInt8) (h : (45 : UInt8) ∉ A) (hs : (A ++ 45 :: R).length ≤ 1000) : cut_S F ⟨(A ++ 45 :: R).toArray⟩ dash = some (⟨A.toArray⟩, (⟨R.toArray⟩, true)) := by
  unfold cut_S
  rw [dec_t (show (⟨(A ++ 45 :: R).toArray⟩ : ByteArray).size < 4294967281 by rw [sz_mk]; omega)]
  change some ((⟨(Lib.cut (A ++ 45 :: R) [45]).1.toArray⟩ : ByteArray), ((⟨(Lib.cut (A ++ 45 :: R) [45]).2.1.toArray⟩ : ByteArray), (Lib.cut (A ++ 45 :: R) [45]).2.2)) = _
  rw [cut_at A R h]
theorem cut_any (F : Nat) (s : ByteArray) (hs : s.size ≤ 60) : ∃ x y b, cut_S F s dash = some (x, (y, b)) ∧ x.size ≤ 60 ∧ y.size ≤ 60 := by
  have hl := sz_len s
  unfold cut_S
  rw [dec_t (show s.size < 4294967281 by omega)]
  refine ⟨_, _, _, rfl, ?_, ?_⟩
  · rw [sz_mk]
    unfold Lib.cut
    split
    · rw [List.length_take]; omega
    · show s.data.toList.length ≤ 60; omega
  · rw [sz_mk]
    unfold Lib.cut
    split
    · rw [List.length_drop]; omega
    · show ([] : List UInt8).length ≤ 60; simp
theorem atoi_any (F : Nat) (s : ByteArray) (hs : s.size ≤ 60) : ∃ v b, atoi_S F s = some (v, b) := by
  unfold atoi_S
  rw [dec_t (show s.size ≤ 281474976710656 by omega)]
  exact ⟨_, _, rfl⟩
theorem atoi_at (F : Nat) (l : List UInt8) (v : Int) (hs : l.length ≤ 60) (h : Lib.atoiAll l = .ok v) : atoi_S F ⟨l.toArray⟩ = some (v, true) := by
  unfold atoi_S
  rw [dec_t (show (⟨l.toArray⟩ : ByteArray).size ≤ 281474976710656 by rw [sz_mk]; omega), show (ByteArray.data ⟨l.toArray⟩).toList = l by simp, h]
  rfl
theorem no45 {l : List UInt8} (h : l.all isDg = true) : (45 : UInt8) ∉ l := fun hm => by
  have := List.all_eq_true.1 h _ hm
  exact absurd this (by decide)
theorem no45c {l : List UInt8} (h : l.all (fun b => okC (b.toNat : Int)) = true) : (45 : UInt8) ∉ l := fun hm => by
  have := List.all_eq_true.1 h _ hm
  exact absurd this (by decide)
theorem eq_toL {a b : ByteArray} (h : (ByteArray.toList.loop a 0 [] == ByteArray.toList.loop b 0 []) = true) : a = b := by
  have h1 : a.toList = b.toList := eq_of_beq h
  rw [ByteArray.toList_eq, ByteArray.toList_eq] at h1
  rw [← ba_eta a, ← ba_eta b, h1]
structure Txt (n : NmT) : Prop where
  a : (45 : UInt8) ∉ n.1.data.toList
  ac : n.1.data.toList.all (fun b => okC (b.toNat : Int)) = true
  al : n.1.data.toList.length = n.1.size
  b : (45 : UInt8) ∉ Lib.itoa n.2.1
  bd : (Lib.itoa n.2.1).all isDg = true
  bl : (Lib.itoa n.2.1).length ≤ 3
  bv : val (Lib.itoa n.2.1) = sB n
  bp : Lib.atoiAll (Lib.itoa n.2.1) = .ok n.2.1
  sp : Lib.atoiAll (dig4 (sS n)) = .ok n.2.2
theorem txt_of {n : NmT} (h : nmB n = true) : Txt n := by
  obtain ⟨hi, hz, ⟨b1, b2, b3⟩, s1, s2⟩ := nm_of h
  obtain ⟨q1, q2, q3, q4, q5, q6⟩ := ckB_ok ⟨b1, b2⟩
  unfold igB at hi
  simp only [Bool.and_eq_true] at hi
  obtain ⟨_, _, h5⟩ := hi
  have eb : Lib.itoa n.2.1 = Lib.itoa (sB n : Int) := congrArg Lib.itoa b3
  refine ⟨no45c h5, h5, sz_len _, by rw [eb]; exact no45 q4, by rw [eb]; exact q4, by rw [eb]; exact q6, by rw [eb]; exact q5, by rw [eb, q3, ← b3], by rw [atoi4 s1, ← s2]⟩
theorem parse_back {n : NmT} (h : nmB n = true) : parseName_S 3000 (txt n) = some (n, 0) := by
  have t := txt_of h
  have hn := nm_of h
  have c1 : cut_S 3000 (txt n) dash = some (n.1, (⟨(Lib.itoa n.2.1 ++ 45 :: dig4 (sS n)).toArray⟩, true)) := by
    have := cutS_at 3000 n.1.data.toList (Lib.itoa n.2.1 ++ 45 :: dig4 (sS n)) t.a (by simp only [List.length_append, List.length_cons, t.al]; have := t.bl; have := hn.sz; show n.1.size + ((Lib.itoa n.2.1).length + (4 + 1) + 1) ≤ 1000; omega)
    exact this
  have c2 := cutS_at 3000 (Lib.itoa n.2.1) (dig4 (sS n)) t.b (by simp only [List.length_append, List.length_cons]; have := t.bl; show (Lib.itoa n.2.1).length + (4 + 1) ≤ 1000; omega)
  have a1 := atoi_at 3000 (Lib.itoa n.2.1) n.2.1 (by have := t.bl; omega) t.bp
  have a2 := atoi_at 3000 (dig4 (sS n)) n.2.2 (by show 4 ≤ 60; omega) t.sp
  unfold parseName_S
  change ob (cut_S 3000 (txt n) dash) _ = _
  rw [c1, obS]
  change ob (cut_S 3000 ⟨(Lib.itoa n.2.1 ++ 45 :: dig4 (sS n)).toArray⟩ dash) _ = _
  rw [c2, obS]
  change ob (atoi_S 3000 ⟨(Lib.itoa n.2.1).toArray⟩) _ = _
  rw [a1, obS]
  change ob (atoi_S 3000 ⟨(dig4 (sS n)).toArray⟩) _ = _
  rw [a2, obS]
  change ob (name_S 3000 n) _ = _
  rw [nameT 3000 n h, obS]
  change ob (some ((!((ByteArray.toList.loop (txt n) 0 []) == (ByteArray.toList.loop (txt n) 0 []))), (nm0, n))) _ = _
  rw [beq_self_eq_true]; rfl
theorem parse_any (s : ByteArray) (hs : s.size ≤ 60) : parseName_S 3000 s = some (nm0, 4) ∨ ∃ n, nmB n = true ∧ s = txt n := by
  obtain ⟨x, y, b, c1, x1, y1⟩ := cut_any 3000 s hs
  obtain ⟨u, v, b', c2, u1, v1⟩ := cut_any 3000 y y1
  obtain ⟨p, e, a1⟩ := atoi_any 3000 u u1
  obtain ⟨q, f, a2⟩ := atoi_any 3000 v v1
  unfold parseName_S
  change (ob (cut_S 3000 s dash) _ = _) ∨ _
  rw [c1, obS]
  change (ob (cut_S 3000 y dash) _ = _) ∨ _
  rw [c2, obS]
  change (ob (atoi_S 3000 u) _ = _) ∨ _
  rw [a1, obS]
  change (ob (atoi_S 3000 v) _ = _) ∨ _
  rw [a2, obS]
  change (ob (name_S 3000 (x, (p, q))) _ = _) ∨ _
  cases hb : nmB (x, (p, q)) with
  | false =>
    rw [name_bad 3000 (x, (p, q)) (by show x.size ≤ 1000000; omega) hb, obS]
    cases e <;> cases f <;> exact .inl rfl
  | true =>
    rw [nameT 3000 (x, (p, q)) hb, obS]
    cases he : e with
    | false => exact .inl rfl
    | true =>
      cases hf : f with
      | false => exact .inl rfl
      | true =>
        change (ob (some ((!((ByteArray.toList.loop (txt (x, (p, q))) 0 []) == (ByteArray.toList.loop s 0 []))), (nm0, (x, (p, q))))) _ = _) ∨ _
        cases hq : ((ByteArray.toList.loop (txt (x, (p, q))) 0 []) == (ByteArray.toList.loop s 0 [])) with
        | false => exact .inl rfl
        | true =>
          exact .inr ⟨(x, (p, q)), hb, (eq_toL hq).symm⟩
/-! By the document -/
theorem rp_dash (F k : Nat) (s : ByteArray) (part : Int) (i : Nat) (t2 n : NmT) (hi : i < s.size) (hs : s.size ≤ 30) (hc : bAt s i = 45) : rParse_L0 F (k + 1) s part i t2 n = rParse_L0 F k s (IntKind.wrap IntKind.i64 (part + 1)) ((i + 1 : Nat) : Int) t2 n := by
  have e1 : IntKind.wrap IntKind.i64 ((i : Int) + 1) = ((i + 1 : Nat) : Int) := by rw [w64 _ (by omega)]; omega
  rw [rParse_L0, dec_t (show (i : Int) < (s.size : Int) by omega), dec_t (show (s.size : Int) ≤ 30 by omega), in_lt s i hi, Int.toNat_natCast, hc, ← e1]
  rfl
theorem rp_name (F k : Nat) (s : ByteArray) (i : Nat) (t2 n : NmT) (hi : i < s.size) (hs : s.size ≤ 30) (hc : (bAt s i == 45) = false) (hn : n.1.size ≤ 60) : rParse_L0 F (k + 1) s 0 i t2 n = rParse_L0 F k s 0 ((i + 1 : Nat) : Int) t2 (n.1 ++ bytesOf ((bAt s i) :: []), n.2) := by
  have e1 : IntKind.wrap IntKind.i64 ((i : Int) + 1) = ((i + 1 : Nat) : Int) := by rw [w64 _ (by omega)]; omega
  have e2 : (bytesOf ((bAt s i) :: [])).size = 1 := rfl
  rw [rParse_L0, dec_t (show (i : Int) < (s.size : Int) by omega), dec_t (show (s.size : Int) ≤ 30 by omega), in_lt s i hi, Int.toNat_natCast, hc, dec_t (show n.1.size + (bytesOf ((bAt s i) :: [])).size ≤ 1000000 by rw [e2]; omega), ← e1]
  rfl
def nw (x c : Int) : Int := IntKind.wrap IntKind.i64 ((IntKind.wrap IntKind.i64 (x * (10 : Int))) + (IntKind.wrap IntKind.i64 (IntKind.wrap IntKind.u8 (c - (48 : Int)))))
theorem rp_stop (F k : Nat) (s : ByteArray) (part : Int) (i : Nat) (t2 n : NmT) (hi : i < s.size) (hs : s.size ≤ 30) (hc : (bAt s i == 45) = false) (hp : (part == 0) = false) (h : bAt s i < 48 ∨ bAt s i > 57 ∨ n.2.1 > 9999 ∨ n.2.2 > 99999) : rParse_L0 F (k + 1) s part i t2 n = some (.inl (false, nm0)) := by
  rw [rParse_L0, dec_t (show (i : Int) < (s.size : Int) by omega), dec_t (show (s.size : Int) ≤ 30 by omega), in_lt s i hi, Int.toNat_natCast, hc, hp]
  by_cases h1 : bAt s i < 48
  · rw [dec_t h1]; rfl
  by_cases h2 : bAt s i > 57
  · rw [dec_f h1, dec_t h2]; rfl
  by_cases h3 : n.2.1 > 9999
  · rw [dec_f h1, dec_f h2, dec_t h3]; rfl
  rw [dec_f h1, dec_f h2, dec_f h3, dec_t (show n.2.2 > 99999 by omega)]; rfl
theorem rp_blk (F k : Nat) (s : ByteArray) (i : Nat) (t2 n : NmT) (hi : i < s.size) (hs : s.size ≤ 30) (hc : (bAt s i == 45) = false) (h : ¬ bAt s i < 48 ∧ ¬ bAt s i > 57 ∧ ¬ n.2.1 > 9999 ∧ ¬ n.2.2 > 99999) : rParse_L0 F (k + 1) s 1 i t2 n = rParse_L0 F k s 1 ((i + 1 : Nat) : Int) t2 (n.1, (nw n.2.1 (bAt s i), n.2.2)) := by
  have e1 : IntKind.wrap IntKind.i64 ((i : Int) + 1) = ((i + 1 : Nat) : Int) := by rw [w64 _ (by omega)]; omega
  rw [rParse_L0, dec_t (show (i : Int) < (s.size : Int) by omega), dec_t (show (s.size : Int) ≤ 30 by omega), in_lt s i hi, Int.toNat_natCast, hc, dec_f h.1, dec_f h.2.1, dec_f h.2.2.1, dec_f h.2.2.2, ← e1]
  rfl
theorem rp_slc (F k : Nat) (s : ByteArray) (part : Int) (i : Nat) (t2 n : NmT) (hi : i < s.size) (hs : s.size ≤ 30) (hc : (bAt s i == 45) = false) (hp : (part == 0) = false) (hp1 : (part == 1) = false) (h : ¬ bAt s i < 48 ∧ ¬ bAt s i > 57 ∧ ¬ n.2.1 > 9999 ∧ ¬ n.2.2 > 99999) : rParse_L0 F (k + 1) s part i t2 n = rParse_L0 F k s part ((i + 1 : Nat) : Int) t2 (n.1, (n.2.1, nw n.2.2 (bAt s i))) := by
  have e1 : IntKind.wrap IntKind.i64 ((i : Int) + 1) = ((i + 1 : Nat) : Int) := by rw [w64 _ (by omega)]; omega
  rw [rParse_L0, dec_t (show (i : Int) < (s.size : Int) by omega), dec_t (show (s.size : Int) ≤ 30 by omega), in_lt s i hi, Int.toNat_natCast, hc, hp, dec_f h.1, dec_f h.2.1, dec_f h.2.2.1, dec_f h.2.2.2, ← e1]
  change ob (bif (part == 1) then _ else _) _ = _
  rw [hp1]; rfl
end Go.Proofs.YteimbckgldkcgaaGreatDoor
