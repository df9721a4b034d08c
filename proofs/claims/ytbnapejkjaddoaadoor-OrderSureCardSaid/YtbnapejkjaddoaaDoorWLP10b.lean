/- Plain laws of chapter 10, on: names of gauges letter by letter; wafers. No condition. -/
import Derived.Test.YtbnapejkjaddoaaDoorWLP10
namespace Go.Proofs.YtbnapejkjaddoaaDoor
open Go.RowKit
set_option maxRecDepth 100000
def okK (s : ByteArray) (k : Nat) : Bool := ltr (bAt s k) || (!((k : Int) == 0) && (!(bAt s k != (95 : Int)) || (!(decide (bAt s k < (48 : Int))) && !(decide (bAt s k > (57 : Int))))))
def allK (s : ByteArray) : Nat → Nat → Bool
  | 0, _ => true
  | m + 1, k => okK s k && allK s m (k + 1)
theorem w64 (n : Int) (h : -9223372036854775808 ≤ n ∧ n ≤ 9223372036854775807) : IntKind.i64.wrap n = n := by rw [IntKind.wrap_i64]; omega
theorem in_lt (s : ByteArray) (k : Nat) (h : k < s.size) : inB (k : Int) s.size = true := by
  unfold inB
  simp only [Bool.and_eq_true, decide_eq_true_eq]
  omega
theorem L1_step (F n : Nat) (i1 : Int) (s : ByteArray) (k : Nat) (t33 : ByteArray) (t34 : Int) (t35 : Bool) (w : WfT) (hk : k < s.size) (hs : s.size ≤ 1000000) :
    rWafer_L1 F (n + 1) i1 s k t33 t34 t35 w = bif okK s k then rWafer_L1 F n i1 s ((k + 1 : Nat) : Int) t33 t34 t35 w else some (.inl false) := by
  show (bif (decide ((k : Int) < (s.size : Int))) then _ else _) = _
  rw [show decide ((k : Int) < (s.size : Int)) = true by simpa using hk]
  simp only [cond_true]
  rw [in_lt s k hk]
  simp only [cond_true, Int.toNat_natCast]
  have hW : IntKind.wrap IntKind.i64 ((k : Int) + (1 : Int)) = ((k + 1 : Nat) : Int) := by rw [w64 _ (by omega)]; omega
  unfold okK ltr
  cases hA : decide (bAt s k ≥ (97 : Int)) <;> cases hB : decide (bAt s k ≤ (122 : Int)) <;> cases hC : ((k : Int) == 0) <;> cases hD : (bAt s k != (95 : Int)) <;> cases hE : decide (bAt s k < (48 : Int)) <;> cases hF : decide (bAt s k > (57 : Int)) <;>
    simp only [cond_true, cond_false, ob, hW, hC, in_lt s k hk, hD, hE, hF, Int.toNat_natCast, Bool.and_true, Bool.and_false, Bool.or_true, Bool.or_false, Bool.not_true, Bool.not_false, Bool.true_and, Bool.false_and, Bool.true_or, Bool.false_or]
theorem L1_end (F n : Nat) (i1 : Int) (s : ByteArray) (k : Nat) (t33 : ByteArray) (t34 : Int) (t35 : Bool) (w : WfT) (hk : ¬ k < s.size) :
    rWafer_L1 F (n + 1) i1 s k t33 t34 t35 w = some (.inr ((i1, t33, t34, t35), w)) := by
  show (bif (decide ((k : Int) < (s.size : Int))) then _ else _) = _
  rw [show decide ((k : Int) < (s.size : Int)) = false by simpa using hk]
  rfl
theorem L1_all (F : Nat) (i1 : Int) (s : ByteArray) (t33 : ByteArray) (t34 : Int) (t35 : Bool) (w : WfT) (hs : s.size ≤ 1000000) : ∀ (m n k : Nat), k + m = s.size → m < n →
    rWafer_L1 F n i1 s k t33 t34 t35 w = bif allK s m k then some (.inr ((i1, t33, t34, t35), w)) else some (.inl false)
  | 0, n + 1, k, hk, _ => by rw [L1_end _ _ _ _ _ _ _ _ _ (by omega)]; rfl
  | m + 1, n + 1, k, hk, hm => by
    rw [L1_step _ _ _ _ _ _ _ _ _ (by omega) hs, L1_all F i1 s t33 t34 t35 w hs m n (k + 1) (by omega) (by omega)]
    simp only [allK]
    cases okK s k <;> rfl
theorem sz_len (s : ByteArray) : s.data.toList.length = s.size := Array.length_toList
theorem bAt_eq (s : ByteArray) (k : Nat) (h : k < s.size) (h' : k < s.data.toList.length) : bAt s k = ((s.data.toList[k]).toNat : Int) := by
  unfold bAt
  rw [show s[k]? = some s[k] from getElem?_pos s k h]
  rfl
theorem allK_list (s : ByteArray) : ∀ (m k : Nat), 0 < k → k + m = s.size → allK s m k = (s.data.toList.drop k).all (fun b => okC (b.toNat : Int))
  | 0, k, _, h => by rw [List.drop_of_length_le (by rw [sz_len]; omega)]; rfl
  | m + 1, k, h0, h => by
    have hl : k < s.data.toList.length := by
      have := sz_len s
      omega
    rw [List.drop_eq_getElem_cons hl]
    simp only [allK, List.all_cons]
    rw [allK_list s m (k + 1) (by omega) (by omega)]
    congr 1
    unfold okK okC
    rw [bAt_eq s k (by omega) hl, show ((k : Int) == 0) = false from beq_eq_false_iff_ne.2 (by omega)]
    rfl
theorem gB_all (s : ByteArray) (h1 : 1 ≤ s.size) : allK s s.size 0 = (ltr (bAt s 0) && s.data.toList.all (fun b => okC (b.toNat : Int))) := by
  obtain ⟨m, hm⟩ : ∃ m, s.size = m + 1 := ⟨s.size - 1, by omega⟩
  have hl : 0 < s.data.toList.length := by
    have := sz_len s
    omega
  have e : s.data.toList = s.data.toList[0] :: s.data.toList.drop 1 := by
    have := List.drop_eq_getElem_cons hl
    exact this
  rw [hm]
  simp only [allK]
  rw [allK_list s m 1 (by omega) (by omega), e, List.all_cons, ← e, ← bAt_eq s 0 (by omega) hl]
  have e2 : (s.data.toList[0] :: s.data.toList.drop 1).drop 1 = s.data.toList.drop 1 := rfl
  unfold okK okC
  cases ltr (bAt s 0) <;> simp
end Go.Proofs.YtbnapejkjaddoaaDoor
