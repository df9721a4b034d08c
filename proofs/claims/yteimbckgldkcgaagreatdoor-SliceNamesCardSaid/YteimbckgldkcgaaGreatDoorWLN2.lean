/- Plain laws of names: the text of a name, by the code and by the document. No condition. -/
import Derived.Test.YteimbckgldkcgaaGreatDoorWLN1
namespace Go.Proofs.YteimbckgldkcgaaGreatDoor
open Go.RowKit
set_option maxRecDepth 100000
theorem sz_len (s : ByteArray) : s.data.toList.length = s.size := Array.length_toList
theorem bAt_eq (s : ByteArray) (k : Nat) (h : k < s.size) (h' : k < s.data.toList.length) : bAt s k = ((s.data.toList[k]).toNat : Int) := by
  unfold bAt
  rw [show s[k]? = some s[k] from getElem?_pos s k h]
  rfl
theorem ba_eta (s : ByteArray) : (⟨s.data.toList.toArray⟩ : ByteArray) = s := rfl
abbrev sB (n : NmT) : Nat := n.2.1.toNat
abbrev sS (n : NmT) : Nat := n.2.2.toNat
def txL (n : NmT) : List UInt8 := n.1.data.toList ++ (45 :: (Lib.itoa n.2.1 ++ (45 :: dig4 (sS n))))
def txt (n : NmT) : ByteArray := ⟨(txL n).toArray⟩
structure Nm (n : NmT) : Prop where
  ig : igB n.1 = true
  sz : 1 ≤ n.1.size ∧ n.1.size ≤ 12
  b : 1 ≤ sB n ∧ sB n ≤ 999 ∧ n.2.1 = (sB n : Int)
  s : sS n ≤ 9999 ∧ n.2.2 = (sS n : Int)
theorem nm_of {n : NmT} (h : nmB n = true) : Nm n := by
  unfold nmB inOk at h
  simp only [Bool.and_eq_true, decide_eq_true_eq] at h
  obtain ⟨h1, h2, h3⟩ := h
  have h4 := h1
  unfold igB inOk at h4
  simp only [Bool.and_eq_true, decide_eq_true_eq] at h4
  have e1 : sB n = n.2.1.toNat := rfl
  have e2 : sS n = n.2.2.toNat := rfl
  exact ⟨h1, by omega, ⟨by omega, by omega, by omega⟩, by omega, by omega⟩
theorem app1 (s : ByteArray) (l : List UInt8) : s ++ ⟨l.toArray⟩ = ⟨(s.data.toList ++ l).toArray⟩ := by
  apply ByteArray.ext
  rw [ByteArray.data_append]
  simp
theorem itoa_F (F : Nat) (c : Int) : itoa_S F c = itoa_S 0 c := rfl
theorem rep_F (F : Nat) (s : ByteArray) (c : Int) : rep_S F s c = rep_S 0 s c := rfl
theorem itoaS_nat (n : Nat) (h : n ≤ 9999) : itoa_S 0 (n : Int) = some ⟨(Lib.decDigits n).toArray⟩ := by
  unfold itoa_S
  rw [dec_t (by omega), dec_t (by omega), itoa_nat]; rfl
theorem sz_mk (l : List UInt8) : (⟨l.toArray⟩ : ByteArray).size = l.length := by
  show l.toArray.size = _
  simp
theorem sz_app (a b : ByteArray) : (a ++ b).size = a.size + b.size := ByteArray.size_append
theorem name_bad (F : Nat) (n : NmT) (hs : n.1.size ≤ 1000000) (h : nmB n = false) : name_S F n = some (⟨#[]⟩, 2) := by
  unfold name_S
  rw [isNm F n hs, h]; rfl
theorem nameT (F : Nat) (n : NmT) (h : nmB n = true) : name_S F n = some (txt n, 0) := by
  obtain ⟨_, hz, ⟨b1, b2, b3⟩, s1, s2⟩ := nm_of h
  obtain ⟨c, c1, c2, c3⟩ := pad4 s1
  obtain ⟨q1, q2, q3, q4, q5, q6⟩ := ckB_ok ⟨b1, b2⟩
  have i2 : itoa_S F n.2.2 = some ⟨(Lib.decDigits (sS n)).toArray⟩ := by rw [itoa_F]; conv => lhs; rw [s2]
                                                                         exact itoaS_nat _ s1
  have i1 : itoa_S F n.2.1 = some ⟨(Lib.itoa n.2.1).toArray⟩ := by
    rw [itoa_F]
    have := q1
    rw [← b3] at this
    exact this
  have l6 : (Lib.itoa n.2.1).length ≤ 3 := by rw [b3]; exact q6
  have r3 : rep_S F (ByteArray.mk (Array.mk (48 :: []))) (IntKind.wrap IntKind.i64 ((4 : Int) - ((⟨(Lib.decDigits (sS n)).toArray⟩ : ByteArray).size : Int))) = some ⟨(List.replicate c (48 : UInt8)).toArray⟩ := by
    rw [sz_mk, w64 _ (by omega), show (4 : Int) - ((Lib.decDigits (sS n)).length : Int) = (c : Int) by omega]
    exact rep_pad c c1
  have z45 : (ByteArray.mk (Array.mk (45 :: []))).size = 1 := rfl
  have z1 : (⟨(Lib.itoa n.2.1).toArray⟩ : ByteArray).size ≤ 3 := Nat.le_trans (Nat.le_of_eq (sz_mk _)) l6
  have z2 : (⟨(List.replicate c (48 : UInt8)).toArray⟩ : ByteArray).size ≤ 3 := Nat.le_trans (Nat.le_of_eq (sz_mk _)) (by rw [List.length_replicate]; exact c1)
  have z3 : (⟨(Lib.decDigits (sS n)).toArray⟩ : ByteArray).size ≤ 4 := Nat.le_trans (Nat.le_of_eq (sz_mk _)) (by omega)
  unfold name_S
  rw [isNm F n (by omega), h]
  change ob (itoa_S F n.2.2) _ = _
  rw [i2, obS, dec_t (show n.1.size + 1 ≤ 1000000 by omega), i1]
  simp only [cond_true]
  rw [obS, dec_t (by simp only [sz_app, z45]; omega), dec_t (by simp only [sz_app, z45]; omega)]
  simp only [cond_true]
  rw [r3, obS, dec_t (by simp only [sz_app, z45]; omega), dec_t (by simp only [sz_app, z45]; omega)]
  simp only [cond_true]
  have e : ((((n.1 ++ (ByteArray.mk (Array.mk (45 :: [])))) ++ ⟨(Lib.itoa n.2.1).toArray⟩) ++ (ByteArray.mk (Array.mk (45 :: [])))) ++ ⟨(List.replicate c (48 : UInt8)).toArray⟩) ++ ⟨(Lib.decDigits (sS n)).toArray⟩ = txt n := by
    change ((((n.1 ++ ⟨([45] : List UInt8).toArray⟩) ++ ⟨(Lib.itoa n.2.1).toArray⟩) ++ ⟨([45] : List UInt8).toArray⟩) ++ ⟨(List.replicate c (48 : UInt8)).toArray⟩) ++ ⟨(Lib.decDigits (sS n)).toArray⟩ = _
    rw [app1 n.1, ba_app, ba_app, ba_app, ba_app]
    unfold txt txL
    rw [← c3]
    simp only [List.append_assoc, List.cons_append, List.nil_append]
  rw [e]
/-! By the document -/
def okK (s : ByteArray) (k : Nat) : Bool := upr (bAt s k) || (!((k : Int) == 0) && dgt (bAt s k))
def allK (s : ByteArray) : Nat → Nat → Bool
  | 0, _ => true
  | m + 1, k => okK s k && allK s m (k + 1)
theorem rn_step (F n : Nat) (w : NmT) (k : Nat) (hk : k < w.1.size) (hs : w.1.size ≤ 1000000) :
    rName_L0 F (n + 1) k w = bif okK w.1 k then rName_L0 F n ((k + 1 : Nat) : Int) w else some (.inl (⟨#[]⟩, false)) := by
  have hW : IntKind.wrap IntKind.i64 ((k : Int) + (1 : Int)) = ((k + 1 : Nat) : Int) := by rw [w64 _ (by omega)]; omega
  rw [rName_L0, dec_t (show (k : Int) < (w.1.size : Int) by omega), in_lt w.1 k hk]
  simp only [cond_true, Int.toNat_natCast]
  unfold okK upr dgt
  by_cases hA : bAt w.1 k < 65
  · rw [dec_t hA, dec_f (show ¬ bAt w.1 k ≥ 65 by omega)]
    cases hC : ((k : Int) == 0) with
    | true => rfl
    | false =>
      cases hE : decide (bAt w.1 k < (48 : Int)) with
      | true => rfl
      | false =>
        cases hG : decide (bAt w.1 k > (57 : Int)) with
        | true => rfl
        | false =>
          simp only [cond_true, cond_false, ob, Bool.false_and, Bool.false_or, Bool.not_false, Bool.true_and, hW]
  · rw [dec_f hA, dec_t (show bAt w.1 k ≥ 65 by omega)]
    by_cases hB : bAt w.1 k > 90
    · rw [dec_t hB, dec_f (show ¬ bAt w.1 k ≤ 90 by omega)]
      cases hC : ((k : Int) == 0) with
      | true => rfl
      | false =>
        cases hE : decide (bAt w.1 k < (48 : Int)) with
        | true => rfl
        | false =>
          cases hG : decide (bAt w.1 k > (57 : Int)) with
          | true => rfl
          | false =>
            simp only [cond_true, cond_false, ob, Bool.and_false, Bool.false_or, Bool.not_false, Bool.true_and, hW]
    · rw [dec_f hB, dec_t (show bAt w.1 k ≤ 90 by omega)]
      simp only [cond_false, ob, Bool.and_true, Bool.true_or, cond_true, hW]
theorem rn_all (F : Nat) (w : NmT) (hs : w.1.size ≤ 1000000) : ∀ (m n k : Nat), k + m = w.1.size → m < n →
    rName_L0 F n k w = bif allK w.1 m k then some (.inr w) else some (.inl (⟨#[]⟩, false))
  | m, 0, k, _, hm => by omega
  | 0, n + 1, k, hk, _ => by
    rw [rName_L0, dec_f (show ¬ (k : Int) < (w.1.size : Int) by omega)]; rfl
  | m + 1, n + 1, k, hk, hm => by
    rw [rn_step F n w k (by omega) hs, rn_all F w hs m n (k + 1) (by omega) (by omega)]
    simp only [allK]
    cases okK w.1 k <;> rfl
theorem allK_list (s : ByteArray) : ∀ (m k : Nat), 0 < k → k + m = s.size → allK s m k = (s.data.toList.drop k).all (fun b => okC (b.toNat : Int))
  | 0, k, _, h => by rw [List.drop_of_length_le (by rw [sz_len]; omega)]; rfl
  | m + 1, k, h0, h => by
    have hl : k < s.data.toList.length := by
      have := sz_len s
      omega
    rw [List.drop_eq_getElem_cons hl]
    simp only [allK, List.all_cons]
    rw [allK_list s m (k + 1) (by omega) (by omega)]
    congr 1
    unfold okK okC
    rw [bAt_eq s k (by omega) hl, show ((k : Int) == 0) = false from beq_eq_false_iff_ne.2 (by omega)]
    rfl
theorem allK_all (s : ByteArray) (h1 : 1 ≤ s.size) : allK s s.size 0 = (upr (bAt s 0) && s.data.toList.all (fun b => okC (b.toNat : Int))) := by
  obtain ⟨m, hm⟩ : ∃ m, s.size = m + 1 := ⟨s.size - 1, by omega⟩
  have hl : 0 < s.data.toList.length := by
    have := sz_len s
    omega
  have e : s.data.toList = s.data.toList[0] :: s.data.toList.drop 1 := by
    have := List.drop_eq_getElem_cons hl
    exact this
  rw [hm]
  simp only [allK]
  rw [allK_list s m 1 (by omega) (by omega), e, List.all_cons, ← e, ← bAt_eq s 0 (by omega) hl]
  have e2 : (s.data.toList[0] :: s.data.toList.drop 1).drop 1 = s.data.toList.drop 1 := rfl
  unfold okK okC
  cases upr (bAt s 0) <;> simp
theorem rName_bad (n : NmT) (hs : n.1.size ≤ 2000) (h : nmB n = false) : rName_S 3000 n = some (⟨#[]⟩, false) := by
  unfold rName_S
  rw [rin_eq, rin_eq, rin_eq]
  unfold nmB igB at h
  cases h1 : inOk (n.1.size : Int) 1 12 with
  | false => rfl
  | true =>
    cases h2 : inOk n.2.1 1 999 with
    | false => rfl
    | true =>
      cases h3 : inOk n.2.2 0 9999 with
      | false => rfl
      | true =>
        rw [h1, h2, h3] at h
        have h1' := h1
        unfold inOk at h1'
        simp only [Bool.and_eq_true, decide_eq_true_eq] at h1'
        change ob (rName_L0 3000 3000 ((0 : Nat) : Int) n) _ = _
        rw [rn_all 3000 n (by omega) n.1.size 3000 0 (by omega) (by omega), allK_all n.1 (by omega)]
        have h4 : (upr (bAt n.1 0) && n.1.data.toList.all (fun b => okC (b.toNat : Int))) = false := by
          cases hq : (upr (bAt n.1 0) && n.1.data.toList.all (fun b => okC (b.toNat : Int))) with
          | false => rfl
          | true => rw [hq] at h; cases h
        rw [h4]; rfl
theorem rNameT (n : NmT) (h : nmB n = true) : rName_S 3000 n = some (txt n, true) := by
  obtain ⟨hi, hz, ⟨b1, b2, b3⟩, s1, s2⟩ := nm_of h
  obtain ⟨q1, q2, q3, q4, q5, q6⟩ := ckB_ok ⟨b1, b2⟩
  have l6 : (Lib.itoa n.2.1).length ≤ 3 := by rw [b3]; exact q6
  have d1 : digits_S 3000 n.2.1 1 = some ⟨(Lib.itoa n.2.1).toArray⟩ := by
    have := q2
    rw [← b3] at this
    exact this
  have d2 : digits_S 3000 n.2.2 4 = some ⟨(dig4 (sS n)).toArray⟩ := by
    have := digits4 s1
    rw [← s2] at this
    exact this
  have z45 : (ByteArray.mk (Array.mk (45 :: []))).size = 1 := rfl
  have z1 : (⟨(Lib.itoa n.2.1).toArray⟩ : ByteArray).size ≤ 3 := Nat.le_trans (Nat.le_of_eq (sz_mk _)) l6
  have z3 : (⟨(dig4 (sS n)).toArray⟩ : ByteArray).size = 4 := rfl
  unfold nmB igB at h
  simp only [Bool.and_eq_true] at h
  obtain ⟨⟨h1, h4, h5⟩, h2, h3⟩ := h
  unfold rName_S
  rw [rin_eq, rin_eq, rin_eq, h1, h2, h3]
  change ob (rName_L0 3000 3000 ((0 : Nat) : Int) n) _ = _
  rw [rn_all 3000 n (by omega) n.1.size 3000 0 (by omega) (by omega), allK_all n.1 (by omega), h4, h5]
  change (bif decide (n.1.size + 1 ≤ 1000000) then ob (digits_S 3000 n.2.1 1) _ else none) = _
  rw [dec_t (by omega), d1]
  simp only [cond_true]
  rw [obS, dec_t (by simp only [sz_app, z45]; omega), dec_t (by simp only [sz_app, z45]; omega)]
  simp only [cond_true]
  rw [d2, obS, dec_t (by simp only [sz_app, z45]; omega)]
  simp only [cond_true]
  have e : (((n.1 ++ (ByteArray.mk (Array.mk (45 :: [])))) ++ ⟨(Lib.itoa n.2.1).toArray⟩) ++ (ByteArray.mk (Array.mk (45 :: [])))) ++ ⟨(dig4 (sS n)).toArray⟩ = txt n := by
    change (((n.1 ++ ⟨([45] : List UInt8).toArray⟩) ++ ⟨(Lib.itoa n.2.1).toArray⟩) ++ ⟨([45] : List UInt8).toArray⟩) ++ ⟨(dig4 (sS n)).toArray⟩ = _
    rw [app1 n.1, ba_app, ba_app, ba_app]
    unfold txt txL
    simp only [List.append_assoc, List.cons_append, List.nil_append]
  rw [e]
end Go.Proofs.YteimbckgldkcgaaGreatDoor
