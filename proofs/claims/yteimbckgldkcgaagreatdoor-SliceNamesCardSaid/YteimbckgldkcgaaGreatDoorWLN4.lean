/- The plain law of SliceNames, joined. No condition. -/
import Derived.Test.YteimbckgldkcgaaGreatDoorWLN3
namespace Go.Proofs.YteimbckgldkcgaaGreatDoor
open Go.RowKit
set_option maxRecDepth 100000
theorem by1 (s : ByteArray) (x : Int) : (s ++ bytesOf (x :: [])).size = s.size + 1 := by rw [sz_app]; rfl
theorem rp_any (F : Nat) (s : ByteArray) (hs : s.size ≤ 30) (t2 : NmT) : ∀ (j k i : Nat) (part : Int) (n : NmT), i + j = s.size → j < k → n.1.size ≤ i →
    rParse_L0 F k s part i t2 n = some (.inl (false, nm0)) ∨ ∃ n' : NmT, n'.1.size ≤ 60 ∧ rParse_L0 F k s part i t2 n = some (.inr (s, (t2, n')))
  | j, 0, i, _, _, _, hk, _ => by omega
  | 0, k + 1, i, part, n, hi, _, hn => by
    refine .inr ⟨n, by omega, ?_⟩
    rw [rParse_L0, dec_f (show ¬ (i : Int) < (s.size : Int) by omega)]; rfl
  | j + 1, k + 1, i, part, n, hi, hk, hn => by
    cases hc : (bAt s i == 45) with
    | true =>
      rw [rp_dash F k s part i t2 n (by omega) hs (eq_of_beq hc)]
      exact rp_any F s hs t2 j k (i + 1) _ n (by omega) (by omega) (by omega)
    | false =>
      cases hp : (part == 0) with
      | true =>
        have hp := eq_of_beq hp
        subst hp
        rw [rp_name F k s i t2 n (by omega) hs hc (by omega)]
        exact rp_any F s hs t2 j k (i + 1) _ _ (by omega) (by omega) (by show (n.1 ++ bytesOf _).size ≤ _; rw [by1]; omega)
      | false =>
        by_cases h : bAt s i < 48 ∨ bAt s i > 57 ∨ n.2.1 > 9999 ∨ n.2.2 > 99999
        · exact .inl (rp_stop F k s part i t2 n (by omega) hs hc hp h)
        · have h' : ¬ bAt s i < 48 ∧ ¬ bAt s i > 57 ∧ ¬ n.2.1 > 9999 ∧ ¬ n.2.2 > 99999 := ⟨fun x => h (.inl x), fun x => h (.inr (.inl x)), fun x => h (.inr (.inr (.inl x))), fun x => h (.inr (.inr (.inr x)))⟩
          cases hp1 : (part == 1) with
          | true =>
            have hp1 := eq_of_beq hp1
            subst hp1
            rw [rp_blk F k s i t2 n (by omega) hs hc h']
            exact rp_any F s hs t2 j k (i + 1) _ _ (by omega) (by omega) (by show n.1.size ≤ _; omega)
          | false =>
            rw [rp_slc F k s part i t2 n (by omega) hs hc hp hp1 h']
            exact rp_any F s hs t2 j k (i + 1) _ _ (by omega) (by omega) (by show n.1.size ≤ _; omega)
theorem rParse_fin (s : ByteArray) (n : NmT) (hn : n.1.size ≤ 60) (h : rParse_L0 3000 3000 s 0 ((0 : Nat) : Int) nm0 nm0 = some (.inr (s, (nm0, n)))) : rParse_S 3000 s = (bif nmB n then (bif (!((ByteArray.toList.loop (txt n) 0 []) == (ByteArray.toList.loop s 0 []))) then some (nm0, false) else some (n, true)) else some (nm0, false)) := by
  unfold rParse_S
  change ob (rParse_L0 3000 3000 s 0 ((0 : Nat) : Int) nm0 nm0) _ = _
  rw [h, obS]
  change ob (rName_S 3000 n) _ = _
  cases hb : nmB n with
  | false => rw [rName_bad n (by omega) hb]; rfl
  | true => rw [rNameT n hb]; rfl
theorem rParse_any (s : ByteArray) (hs : s.size ≤ 60) : rParse_S 3000 s = some (nm0, false) ∨ ∃ n, nmB n = true ∧ s = txt n := by
  have key : rParse_L0 3000 3000 s 0 ((0 : Nat) : Int) nm0 nm0 = some (.inl (false, nm0)) ∨ ∃ n' : NmT, n'.1.size ≤ 60 ∧ rParse_L0 3000 3000 s 0 ((0 : Nat) : Int) nm0 nm0 = some (.inr (s, (nm0, n'))) := by
    by_cases h : s.size ≤ 30
    · exact rp_any 3000 s h nm0 s.size 3000 0 0 nm0 (by omega) (by omega) (Nat.le_refl _)
    · refine .inr ⟨nm0, by decide, ?_⟩
      rw [show (3000 : Nat) = 2999 + 1 from rfl, rParse_L0, dec_t (show ((0 : Nat) : Int) < (s.size : Int) by omega), dec_f (show ¬ (s.size : Int) ≤ 30 by omega)]
      rfl
  rcases key with h | ⟨n, hn, h⟩
  · refine .inl ?_
    unfold rParse_S
    change ob (rParse_L0 3000 3000 s 0 ((0 : Nat) : Int) nm0 nm0) _ = _
    rw [h]
  · rw [rParse_fin s n hn h]
    cases hb : nmB n with
    | false => exact .inl rfl
    | true =>
      cases hq : ((ByteArray.toList.loop (txt n) 0 []) == (ByteArray.toList.loop s 0 [])) with
      | false => exact .inl rfl
      | true => exact .inr ⟨n, hb, (eq_toL hq).symm⟩
/-! A text is read back -/
theorem bAt_l (l : List UInt8) (i : Nat) (h : i < l.length) : bAt ⟨l.toArray⟩ i = ((l[i]).toNat : Int) := by
  have e : (⟨l.toArray⟩ : ByteArray).data.toList = l := by simp
  have h2 : i < (⟨l.toArray⟩ : ByteArray).data.toList.length := by rw [e]; exact h
  rw [bAt_eq ⟨l.toArray⟩ i (by rw [sz_mk]; exact h) h2]
theorem byt (x : UInt8) : bytesOf (((x.toNat : Nat) : Int) :: []) = ⟨[x].toArray⟩ := by
  show ByteArray.push ByteArray.empty (UInt8.ofNat ((x.toNat : Int)).toNat) = _
  rw [Int.toNat_natCast, UInt8.ofNat_toNat]; rfl
theorem ph1 (F : Nat) (A R : List UInt8) (hA : (45 : UInt8) ∉ A) (hl : (A ++ R).length ≤ 30) (t2 : NmT) (z : Int × Int) : ∀ (j k i : Nat), i + j = A.length →
    rParse_L0 F (k + j) ⟨(A ++ R).toArray⟩ 0 i t2 (⟨(A.take i).toArray⟩, z) = rParse_L0 F k ⟨(A ++ R).toArray⟩ 0 (A.length : Nat) t2 (⟨A.toArray⟩, z)
  | 0, k, i, h => by
    rw [show i = A.length by omega, List.take_length]; rfl
  | j + 1, k, i, h => by
    have hi : i < (A ++ R).length := by rw [List.length_append]; omega
    have e := bAt_l (A ++ R) i hi
    rw [List.getElem_append_left (by omega)] at e
    have hne : ¬ (A[i]'(by omega)) = 45 := fun x => hA (by rw [← x]; exact List.getElem_mem _)
    have hc : (bAt ⟨(A ++ R).toArray⟩ i == 45) = false := by
      rw [e]
      refine beq_eq_false_iff_ne.2 fun x => hne ?_
      have : (A[i]'(by omega)).toNat = 45 := by omega
      exact UInt8.toNat_inj.1 this
    rw [show k + (j + 1) = (k + j) + 1 by omega, rp_name F (k + j) ⟨(A ++ R).toArray⟩ i t2 _ (by rw [sz_mk]; exact hi) (by rw [sz_mk]; exact hl) hc (by rw [sz_mk, List.length_take]; rw [List.length_append] at hl; omega)]
    rw [e, byt, ba_app, List.take_append_getElem]
    exact ph1 F A R hA hl t2 z j k (i + 1) (by omega)
theorem val_app (l : List UInt8) (c : UInt8) : val (l ++ [c]) = val l * 10 + (c.toNat - 48) := by unfold val; rw [List.foldl_append]; rfl
theorem val_acc : ∀ (l : List UInt8) (a : Nat), l.all isDg = true → l.foldl (fun n c => n * 10 + (c.toNat - 48)) a < (a + 1) * 10 ^ l.length
  | [], a, _ => by simp
  | c :: l, a, h => by
    simp only [List.all_cons, Bool.and_eq_true] at h
    have h1 := h.1
    unfold isDg at h1
    simp only [Bool.and_eq_true, decide_eq_true_eq] at h1
    have h2 := val_acc l (a * 10 + (c.toNat - 48)) h.2
    rw [List.foldl_cons, List.length_cons, Nat.pow_succ]
    refine Nat.lt_of_lt_of_le h2 ?_
    rw [Nat.mul_comm (10 ^ l.length) 10, ← Nat.mul_assoc]
    exact Nat.mul_le_mul_right _ (by omega)
theorem val_lt {l : List UInt8} (h : l.all isDg = true) : val l < 10 ^ l.length := by
  have := val_acc l 0 h
  simpa [val] using this
theorem take_dg {l : List UInt8} (h : l.all isDg = true) (i : Nat) : (l.take i).all isDg = true := List.all_eq_true.2 fun x hx => List.all_eq_true.1 h x (List.mem_of_mem_take hx)
theorem nw_val {l : List UInt8} (hd : l.all isDg = true) (hl : l.length ≤ 4) {c : UInt8} (hc : isDg c = true) : nw (val l : Int) (c.toNat : Int) = (val (l ++ [c]) : Int) := by
  have h1 := val_lt hd
  have h2 : (10 : Nat) ^ l.length ≤ 10 ^ 4 := Nat.pow_le_pow_right (by omega) hl
  unfold isDg at hc
  simp only [Bool.and_eq_true, decide_eq_true_eq] at hc
  have e : IntKind.wrap IntKind.u8 ((c.toNat : Int) - 48) = ((c.toNat - 48 : Nat) : Int) := by rw [IntKind.wrap_u8]; omega
  unfold nw
  rw [e, w64 ((val l : Int) * 10) (by omega), w64 ((c.toNat - 48 : Nat) : Int) (by omega), w64 _ (by omega), val_app]
  omega
/-- What is known of a digit of a text at a place. -/
theorem dg_at {A B R : List UInt8} (hB : B.all isDg = true) {i : Nat} (h : i < B.length) : ∃ c, c = B[i] ∧ isDg c = true ∧ A.length + i < (A ++ (B ++ R)).length ∧ bAt ⟨(A ++ (B ++ R)).toArray⟩ (A.length + i) = (c.toNat : Int) ∧ ¬ (c.toNat : Int) < 48 ∧ ¬ (c.toNat : Int) > 57 ∧ (((c.toNat : Int)) == 45) = false := by
  have hc := List.all_eq_true.1 hB _ (List.getElem_mem h)
  have hc' := hc
  unfold isDg at hc'
  simp only [Bool.and_eq_true, decide_eq_true_eq] at hc'
  have hlt : A.length + i < (A ++ (B ++ R)).length := by simp only [List.length_append]; omega
  refine ⟨B[i], rfl, hc, hlt, ?_, by omega, by omega, beq_eq_false_iff_ne.2 (by omega)⟩
  rw [bAt_l _ _ hlt]
  congr 2
  rw [List.getElem_append_right (by omega)]
  rw [List.getElem_append_left (by omega)]
  congr 1
  omega
theorem ph2 (F : Nat) (A B R : List UInt8) (hB : B.all isDg = true) (hb : B.length ≤ 3) (hl : (A ++ (B ++ R)).length ≤ 30) (t2 : NmT) (a : ByteArray) : ∀ (j k i : Nat), i + j = B.length →
    rParse_L0 F (k + j) ⟨(A ++ (B ++ R)).toArray⟩ 1 ((A.length + i : Nat) : Int) t2 (a, ((val (B.take i) : Nat) : Int), 0) = rParse_L0 F k ⟨(A ++ (B ++ R)).toArray⟩ 1 ((A.length + B.length : Nat) : Int) t2 (a, ((val B : Nat) : Int), 0)
  | 0, k, i, h => by
    rw [show i = B.length by omega, List.take_length]; rfl
  | j + 1, k, i, h => by
    obtain ⟨c, c0, c1, c2, c3, c4, c5, c6⟩ := dg_at (A := A) (R := R) hB (show i < B.length by omega)
    have v1 := val_lt (take_dg hB i)
    have v2 : (10 : Nat) ^ (B.take i).length ≤ 10 ^ 3 := Nat.pow_le_pow_right (by omega) (by rw [List.length_take]; omega)
    rw [show k + (j + 1) = (k + j) + 1 by omega, rp_blk F (k + j) ⟨(A ++ (B ++ R)).toArray⟩ (A.length + i) t2 _ (by rw [sz_mk]; exact c2) (by rw [sz_mk]; exact hl) (by rw [c3]; exact c6) ⟨by rw [c3]; exact c4, by rw [c3]; exact c5, by show ¬ ((val (B.take i) : Nat) : Int) > 9999; omega, by show ¬ (0 : Int) > 99999; omega⟩]
    rw [c3]
    have e := nw_val (take_dg hB i) (by rw [List.length_take]; omega) c1
    change rParse_L0 F (k + j) ⟨(A ++ (B ++ R)).toArray⟩ 1 _ t2 (a, (nw ((val (B.take i) : Nat) : Int) (c.toNat : Int), 0)) = _
    rw [e, c0, List.take_append_getElem]
    exact ph2 F A B R hB hb hl t2 a j k (i + 1) (by omega)
theorem ph3 (F : Nat) (A B R : List UInt8) (hB : B.all isDg = true) (hb : B.length ≤ 4) (hl : (A ++ (B ++ R)).length ≤ 30) (t2 : NmT) (a : ByteArray) (x : Int) (hx : ¬ x > 9999) : ∀ (j k i : Nat), i + j = B.length →
    rParse_L0 F (k + j) ⟨(A ++ (B ++ R)).toArray⟩ 2 ((A.length + i : Nat) : Int) t2 (a, x, ((val (B.take i) : Nat) : Int)) = rParse_L0 F k ⟨(A ++ (B ++ R)).toArray⟩ 2 ((A.length + B.length : Nat) : Int) t2 (a, x, ((val B : Nat) : Int))
  | 0, k, i, h => by
    rw [show i = B.length by omega, List.take_length]; rfl
  | j + 1, k, i, h => by
    obtain ⟨c, c0, c1, c2, c3, c4, c5, c6⟩ := dg_at (A := A) (R := R) hB (show i < B.length by omega)
    have v1 := val_lt (take_dg hB i)
    have v2 : (10 : Nat) ^ (B.take i).length ≤ 10 ^ 4 := Nat.pow_le_pow_right (by omega) (by rw [List.length_take]; omega)
    rw [show k + (j + 1) = (k + j) + 1 by omega, rp_slc F (k + j) ⟨(A ++ (B ++ R)).toArray⟩ 2 (A.length + i) t2 _ (by rw [sz_mk]; exact c2) (by rw [sz_mk]; exact hl) (by rw [c3]; exact c6) rfl rfl ⟨by rw [c3]; exact c4, by rw [c3]; exact c5, hx, by show ¬ ((val (B.take i) : Nat) : Int) > 99999; omega⟩]
    rw [c3]
    have e := nw_val (take_dg hB i) (by rw [List.length_take]; omega) c1
    change rParse_L0 F (k + j) ⟨(A ++ (B ++ R)).toArray⟩ 2 _ t2 (a, (x, nw ((val (B.take i) : Nat) : Int) (c.toNat : Int))) = _
    rw [e, c0, List.take_append_getElem]
    exact ph3 F A B R hB hb hl t2 a x hx j k (i + 1) (by omega)
theorem dash_at (A R : List UInt8) : A.length < (A ++ 45 :: R).length ∧ bAt ⟨(A ++ 45 :: R).toArray⟩ A.length = 45 := by
  have h : A.length < (A ++ 45 :: R).length := by simp
  refine ⟨h, ?_⟩
  rw [bAt_l _ _ h, List.getElem_append_right (Nat.le_refl _)]
  simp
theorem rParse_back {n : NmT} (h : nmB n = true) : rParse_S 3000 (txt n) = some (n, true) := by
  have t := txt_of h
  have hn := nm_of h
  obtain ⟨hi, hz, ⟨b1, b2, b3⟩, s1, s2⟩ := hn
  have dl : (dig4 (sS n)).length = 4 := rfl
  have tl := t.bl; have al := t.al
  have key : rParse_L0 3000 3000 (txt n) 0 ((0 : Nat) : Int) nm0 nm0 = some (.inr (txt n, (nm0, n))) := by
    generalize hA : n.1.data.toList = A at *
    generalize hB : Lib.itoa n.2.1 = B at *
    generalize hC : dig4 (sS n) = C at *
    have ht : txt n = ⟨(A ++ 45 :: (B ++ 45 :: C)).toArray⟩ := by unfold txt txL; rw [hA, hB, hC]
    have hlen : (A ++ 45 :: (B ++ 45 :: C)).length ≤ 30 := by simp only [List.length_append, List.length_cons]; omega
    have e1 : A ++ 45 :: (B ++ 45 :: C) = (A ++ [45]) ++ (B ++ 45 :: C) := by simp
    have e2 : A ++ 45 :: (B ++ 45 :: C) = (A ++ 45 :: B) ++ 45 :: C := by simp
    have e3 : A ++ 45 :: (B ++ 45 :: C) = (A ++ 45 :: (B ++ [45])) ++ (C ++ []) := by simp
    have p1 := ph1 3000 A (45 :: (B ++ 45 :: C)) (by have := t.a; rwa [hA] at this) hlen nm0 (0, 0) A.length (3000 - A.length) 0 (by omega)
    have d1 := dash_at A (B ++ 45 :: C)
    have q1 := rp_dash 3000 (2999 - A.length) ⟨(A ++ 45 :: (B ++ 45 :: C)).toArray⟩ 0 A.length nm0 (⟨A.toArray⟩, (0, 0)) (by rw [sz_mk]; exact d1.1) (by rw [sz_mk]; exact hlen) d1.2
    have hl2 := hlen
    rw [e1] at hl2
    have p2 := ph2 3000 (A ++ [45]) B (45 :: C) (by have := t.bd; rwa [hB] at this) tl hl2 nm0 ⟨A.toArray⟩ B.length (2999 - A.length - B.length) 0 (by omega)
    rw [← e1] at p2
    have d2 := dash_at (A ++ 45 :: B) C
    rw [← e2] at d2
    have q2 := rp_dash 3000 (2998 - A.length - B.length) ⟨(A ++ 45 :: (B ++ 45 :: C)).toArray⟩ 1 (A ++ 45 :: B).length nm0 (⟨A.toArray⟩, ((val B : Nat) : Int), 0) (by rw [sz_mk]; exact d2.1) (by rw [sz_mk]; exact hlen) d2.2
    have hl3 := hlen
    rw [e3] at hl3
    have cd : C.all isDg = true := by rw [← hC]; exact dig4_dg s1
    have vB : val B = sB n := by have := t.bv; rwa [hB] at this
    have vC : val C = sS n := by rw [← hC]; exact dig4_val s1
    have p3 := ph3 3000 (A ++ 45 :: (B ++ [45])) C [] cd (by omega) hl3 nm0 ⟨A.toArray⟩ ((val B : Nat) : Int) (by omega) C.length (2998 - A.length - B.length - C.length) 0 (by omega)
    rw [← e3] at p3
    have eA : (⟨A.toArray⟩ : ByteArray) = n.1 := by rw [← hA]
    have en : ((⟨A.toArray⟩ : ByteArray), (((val B : Nat) : Int), ((val C : Nat) : Int))) = n := by rw [eA, vB, vC, ← b3, ← s2]
    rw [ht]
    rw [show 3000 - A.length + A.length = 3000 by omega, List.take_zero] at p1
    rw [show rParse_L0 3000 3000 ⟨(A ++ 45 :: (B ++ 45 :: C)).toArray⟩ 0 ((0 : Nat) : Int) nm0 nm0 = _ from p1]
    rw [show 3000 - A.length = 2999 - A.length + 1 by omega, q1]
    rw [show 2999 - A.length - B.length + B.length = 2999 - A.length by omega, List.take_zero] at p2
    have r2 : rParse_L0 3000 (2999 - A.length) ⟨(A ++ 45 :: (B ++ 45 :: C)).toArray⟩ (IntKind.wrap IntKind.i64 (0 + 1)) ((A.length + 1 : Nat) : Int) nm0 (⟨A.toArray⟩, (0, 0)) = rParse_L0 3000 (2999 - A.length - B.length) ⟨(A ++ 45 :: (B ++ 45 :: C)).toArray⟩ 1 (((A ++ [45]).length + B.length : Nat) : Int) nm0 (⟨A.toArray⟩, ((val B : Nat) : Int), 0) := by
      rw [← p2, List.length_append]
      rfl
    have z1 : (A ++ [(45 : UInt8)]).length + B.length = (A ++ (45 : UInt8) :: B).length := by simp; omega
    rw [r2, show 2999 - A.length - B.length = 2998 - A.length - B.length + 1 by omega, z1, q2]
    rw [show 2998 - A.length - B.length - C.length + C.length = 2998 - A.length - B.length by omega, List.take_zero] at p3
    have r3 : rParse_L0 3000 (2998 - A.length - B.length) ⟨(A ++ 45 :: (B ++ 45 :: C)).toArray⟩ (IntKind.wrap IntKind.i64 (1 + 1)) (((A ++ 45 :: B).length + 1 : Nat) : Int) nm0 (⟨A.toArray⟩, ((val B : Nat) : Int), 0) = rParse_L0 3000 (2998 - A.length - B.length - C.length) ⟨(A ++ 45 :: (B ++ 45 :: C)).toArray⟩ 2 (((A ++ 45 :: (B ++ [45])).length + C.length : Nat) : Int) nm0 (⟨A.toArray⟩, ((val B : Nat) : Int), ((val C : Nat) : Int)) := by
      have z2 : (A ++ (45 : UInt8) :: (B ++ [45])).length + 0 = (A ++ (45 : UInt8) :: B).length + 1 := by simp; omega
      rw [← p3, z2]
      rfl
    rw [r3, show 2998 - A.length - B.length - C.length = 2997 - A.length - B.length - C.length + 1 by omega, rParse_L0, dec_f (by rw [sz_mk]; simp only [List.length_append, List.length_cons, List.length_nil]; omega), en]
    rfl
  rw [rParse_fin (txt n) n (by omega) key, h, beq_self_eq_true]
  rfl
theorem ba_refl (x : ByteArray) : (x == x) = true := by rw [beq_toListBytes]; exact beq_self_eq_true _
theorem sNames_law0 (n : NmT) (s : ByteArray) : sNames_S 3000 n s = some true := by
  unfold sNames_S
  by_cases h1 : (n.1.size : Int) > 60
  · rw [dec_t h1]; rfl
  by_cases h2 : (s.size : Int) > 60
  · rw [dec_f h1, dec_t h2]; rfl
  rw [dec_f h1, dec_f h2]
  simp only [cond_false]
  have last : ob (parseName_S 3000 s) (fun r3 => ob (rParse_S 3000 s) (fun r4 => bif (r4.2 == (r3.2 == (0 : Int))) then (bif r4.2 then (bif (bif false then (!((r3.1.1 == r4.1.1) && ((r3.1.2.1 == r4.1.2.1) && (r3.1.2.2 == r4.1.2.2)))) else ((r3.1.1 == r4.1.1) && ((r3.1.2.1 == r4.1.2.1) && (r3.1.2.2 == r4.1.2.2)))) then (some true) else (some false)) else (bif (r3.2 == (4 : Int)) then (bif (bif false then (!((r3.1.1 == r4.1.1) && ((r3.1.2.1 == r4.1.2.1) && (r3.1.2.2 == r4.1.2.2)))) else ((r3.1.1 == r4.1.1) && ((r3.1.2.1 == r4.1.2.1) && (r3.1.2.2 == r4.1.2.2)))) then (some true) else (some false)) else (some false))) else (some false))) = some true := by
    have both : ∀ m : NmT, nmB m = true → s = txt m → ob (parseName_S 3000 s) (fun r3 => ob (rParse_S 3000 s) (fun r4 => bif (r4.2 == (r3.2 == (0 : Int))) then (bif r4.2 then (bif (bif false then (!((r3.1.1 == r4.1.1) && ((r3.1.2.1 == r4.1.2.1) && (r3.1.2.2 == r4.1.2.2)))) else ((r3.1.1 == r4.1.1) && ((r3.1.2.1 == r4.1.2.1) && (r3.1.2.2 == r4.1.2.2)))) then (some true) else (some false)) else (bif (r3.2 == (4 : Int)) then (bif (bif false then (!((r3.1.1 == r4.1.1) && ((r3.1.2.1 == r4.1.2.1) && (r3.1.2.2 == r4.1.2.2)))) else ((r3.1.1 == r4.1.1) && ((r3.1.2.1 == r4.1.2.1) && (r3.1.2.2 == r4.1.2.2)))) then (some true) else (some false)) else (some false))) else (some false))) = some true := fun m hm e => by
      subst e
      rw [parse_back hm, rParse_back hm, obS, obS]
      change (bif ((m.1 == m.1) && ((m.2.1 == m.2.1) && (m.2.2 == m.2.2))) then some true else some false) = _
      rw [ba_refl, beq_self_eq_true, beq_self_eq_true]; rfl
    rcases parse_any s (by omega) with hp | ⟨m, hm, e⟩
    · rcases rParse_any s (by omega) with hr | ⟨m, hm, e⟩
      · rw [hp, hr]; rfl
      · exact both m hm e
    · exact both m hm e
  cases hb : nmB n with
  | false =>
    rw [name_bad 3000 n (by omega) hb, rName_bad n (by omega) hb, obS, obS]
    change ob (some ((s, (⟨#[]⟩ : ByteArray), false, (!((ByteArray.toList.loop (⟨#[]⟩ : ByteArray) 0 []) == (ByteArray.toList.loop (⟨#[]⟩ : ByteArray) 0 [])))), n)) _ = _
    rw [beq_self_eq_true, obS]
    exact last
  | true =>
    rw [nameT 3000 n hb, rNameT n hb, obS, obS]
    change ob (some ((s, txt n, true, (!((ByteArray.toList.loop (txt n) 0 []) == (ByteArray.toList.loop (txt n) 0 [])))), n)) _ = _
    rw [beq_self_eq_true, obS]
    change ob (ob (parseName_S 3000 (txt n)) _) _ = _
    rw [parse_back hb, obS]
    change ob (bif (!((n.1 == n.1) && ((n.2.1 == n.2.1) && (n.2.2 == n.2.2)))) then some (Sum.inl false : Bool ⊕ ByteArray) else some (Sum.inr s)) _ = _
    rw [ba_refl, beq_self_eq_true, beq_self_eq_true]
    exact last
end Go.Proofs.YteimbckgldkcgaaGreatDoor
