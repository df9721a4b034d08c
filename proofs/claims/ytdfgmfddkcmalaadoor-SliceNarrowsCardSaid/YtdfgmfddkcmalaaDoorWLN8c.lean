/- The plain law of SliceNarrows, joined. No condition. -/
import Derived.Test.YtdfgmfddkcmalaaDoorWLN8b
namespace Go.Proofs.YtdfgmfddkcmalaaDoor
open Go.RowKit
set_option maxRecDepth 100000
abbrev NtT := Bool × (PrT × (List Int × (PrT × (List Int × (List RgT × List RgT)))))
noncomputable def sN_tail (F : Nat) (s1 : NtT) : Option Bool := (bif s1.1 then (some false) else (ob (sNarrows_L0 F F (0 : Int) s1.2.1 s1.2.2.1 s1.2.2.2.1 s1.2.2.2.2.1 s1.2.2.2.2.2.1 s1.2.2.2.2.2.2) (fun o_ => su o_ (fun s3 => (some s3)) (fun s4 => (bif (s4.1.2.2.2.2.2.2 != (2 : Int)) then (bif (s4.2.1.2.2.2.2.2.2 != s4.1.2.2.2.2.2.2) then (some false) else (ob (lin_S F (s4.2.1.1, s4.2.1.2.1) (s4.1.1, s4.1.2.1)) (fun r10 => (bif r10 then (ob (lin_S F (s4.2.1.2.2.1, s4.2.1.2.2.2.1) (s4.1.2.2.1, s4.1.2.2.2.1)) (fun r11 => (bif r11 then (ob (lin_S F (s4.2.1.2.2.2.2.1, s4.2.1.2.2.2.2.2.1) (s4.1.2.2.2.2.1, s4.1.2.2.2.2.2.1)) (fun r12 => (bif r12 then (some true) else (some false)))) else (some false)))) else (some false))))) else (ob (lin_S F (s4.2.1.1, s4.2.1.2.1) (s4.1.1, s4.1.2.1)) (fun r13 => (bif r13 then (ob (lin_S F (s4.2.1.2.2.1, s4.2.1.2.2.2.1) (s4.1.2.2.1, s4.1.2.2.2.1)) (fun r14 => (bif r14 then (ob (lin_S F (s4.2.1.2.2.2.2.1, s4.2.1.2.2.2.2.2.1) (s4.1.2.2.2.2.1, s4.1.2.2.2.2.2.1)) (fun r15 => (bif r15 then (some true) else (some false)))) else (some false)))) else (some false)))))))))
noncomputable def sN_rest (F : Nat) (c : SwT) (target : RgT) (p1 q1 p2 q2 p3 q3 : Bool) : Option Bool := (bif (decide (c.2.1.2.1 > (300 : Int))) then (some true) else (ob (predict_S F c.1 c.2.1 c.2.2) (fun r => (bif (r.1.2 != (0 : Int)) then (bif (((r.2.length - 0) : Int) == (0 : Int)) then (some true) else (some false)) else (ob (judge_S F c.1 c.2.1 c.2.2 target) (fun r1 => (ob (runs_S F c.1 c.2.1 c.2.2) (fun r2 => (ob (less_S F c.1.1 p1 q1) (fun r3 => (ob (less_S F c.1.2.1 p2 q2) (fun r4 => (ob (less_S F c.2.1.2.2.2 p3 q3) (fun r5 => (ob (predict_S F (r3, (r4, c.1.2.2)) (c.2.1.1, (c.2.1.2.1, (c.2.1.2.2.1, r5))) c.2.2) (fun r6 => (ob (judge_S F (r3, (r4, c.1.2.2)) (c.2.1.1, (c.2.1.2.1, (c.2.1.2.2.1, r5))) c.2.2 target) (fun r7 => (ob (runs_S F (r3, (r4, c.1.2.2)) (c.2.1.1, (c.2.1.2.1, (c.2.1.2.2.1, r5))) c.2.2) (fun r8 => (ob (bif (r6.1.2 != (0 : Int)) then (some (true, ((r.1.1.1, (r.1.1.2.1, (r.1.1.2.2.1, (r.1.1.2.2.2.1, (r.1.1.2.2.2.2.1, (r.1.1.2.2.2.2.2.1, r.1.1.2.2.2.2.2.2)))))), r1.2, (r6.1.1.1, (r6.1.1.2.1, (r6.1.1.2.2.1, (r6.1.1.2.2.2.1, (r6.1.1.2.2.2.2.1, (r6.1.1.2.2.2.2.2.1, r6.1.1.2.2.2.2.2.2)))))), r7.2, r.2, r6.2))) else (bif (r1.1 != r7.1) then (some (true, ((r.1.1.1, (r.1.1.2.1, (r.1.1.2.2.1, (r.1.1.2.2.2.1, (r.1.1.2.2.2.2.1, (r.1.1.2.2.2.2.2.1, r.1.1.2.2.2.2.2.2)))))), r1.2, (r6.1.1.1, (r6.1.1.2.1, (r6.1.1.2.2.1, (r6.1.1.2.2.2.1, (r6.1.1.2.2.2.2.1, (r6.1.1.2.2.2.2.2.1, r6.1.1.2.2.2.2.2.2)))))), r7.2, r.2, r6.2))) else (bif (r8.2.2 != (0 : Int)) then (some (true, ((r.1.1.1, (r.1.1.2.1, (r.1.1.2.2.1, (r.1.1.2.2.2.1, (r.1.1.2.2.2.2.1, (r.1.1.2.2.2.2.2.1, r.1.1.2.2.2.2.2.2)))))), r1.2, (r6.1.1.1, (r6.1.1.2.1, (r6.1.1.2.2.1, (r6.1.1.2.2.2.1, (r6.1.1.2.2.2.2.1, (r6.1.1.2.2.2.2.2.1, r6.1.1.2.2.2.2.2.2)))))), r7.2, r.2, r6.2))) else (bif (((r.2.length - 0) : Int) != ((r6.2.length - 0) : Int)) then (some (true, ((r.1.1.1, (r.1.1.2.1, (r.1.1.2.2.1, (r.1.1.2.2.2.1, (r.1.1.2.2.2.2.1, (r.1.1.2.2.2.2.2.1, r.1.1.2.2.2.2.2.2)))))), r1.2, (r6.1.1.1, (r6.1.1.2.1, (r6.1.1.2.2.1, (r6.1.1.2.2.2.1, (r6.1.1.2.2.2.2.1, (r6.1.1.2.2.2.2.2.1, r6.1.1.2.2.2.2.2.2)))))), r7.2, r.2, r6.2))) else (bif (((r1.2.length - 0) : Int) != ((r7.2.length - 0) : Int)) then (some (true, ((r.1.1.1, (r.1.1.2.1, (r.1.1.2.2.1, (r.1.1.2.2.2.1, (r.1.1.2.2.2.2.1, (r.1.1.2.2.2.2.2.1, r.1.1.2.2.2.2.2.2)))))), r1.2, (r6.1.1.1, (r6.1.1.2.1, (r6.1.1.2.2.1, (r6.1.1.2.2.2.1, (r6.1.1.2.2.2.2.1, (r6.1.1.2.2.2.2.2.1, r6.1.1.2.2.2.2.2.2)))))), r7.2, r.2, r6.2))) else (bif (decide (r8.1 < r2.1)) then (some (true, ((r.1.1.1, (r.1.1.2.1, (r.1.1.2.2.1, (r.1.1.2.2.2.1, (r.1.1.2.2.2.2.1, (r.1.1.2.2.2.2.2.1, r.1.1.2.2.2.2.2.2)))))), r1.2, (r6.1.1.1, (r6.1.1.2.1, (r6.1.1.2.2.1, (r6.1.1.2.2.2.1, (r6.1.1.2.2.2.2.1, (r6.1.1.2.2.2.2.2.1, r6.1.1.2.2.2.2.2.2)))))), r7.2, r.2, r6.2))) else (bif (decide (r8.2.1 > r2.2.1)) then (some (true, ((r.1.1.1, (r.1.1.2.1, (r.1.1.2.2.1, (r.1.1.2.2.2.1, (r.1.1.2.2.2.2.1, (r.1.1.2.2.2.2.2.1, r.1.1.2.2.2.2.2.2)))))), r1.2, (r6.1.1.1, (r6.1.1.2.1, (r6.1.1.2.2.1, (r6.1.1.2.2.2.1, (r6.1.1.2.2.2.2.1, (r6.1.1.2.2.2.2.2.1, r6.1.1.2.2.2.2.2.2)))))), r7.2, r.2, r6.2))) else (bif (decide (r8.1 > r8.2.1)) then (some (true, ((r.1.1.1, (r.1.1.2.1, (r.1.1.2.2.1, (r.1.1.2.2.2.1, (r.1.1.2.2.2.2.1, (r.1.1.2.2.2.2.2.1, r.1.1.2.2.2.2.2.2)))))), r1.2, (r6.1.1.1, (r6.1.1.2.1, (r6.1.1.2.2.1, (r6.1.1.2.2.2.1, (r6.1.1.2.2.2.2.1, (r6.1.1.2.2.2.2.2.1, r6.1.1.2.2.2.2.2.2)))))), r7.2, r.2, r6.2))) else (some ((decide (r2.1 > r2.2.1)), ((r.1.1.1, (r.1.1.2.1, (r.1.1.2.2.1, (r.1.1.2.2.2.1, (r.1.1.2.2.2.2.1, (r.1.1.2.2.2.2.2.1, r.1.1.2.2.2.2.2.2)))))), r1.2, (r6.1.1.1, (r6.1.1.2.1, (r6.1.1.2.2.1, (r6.1.1.2.2.2.1, (r6.1.1.2.2.2.2.1, (r6.1.1.2.2.2.2.2.1, r6.1.1.2.2.2.2.2.2)))))), r7.2, r.2, r6.2))))))))))) (fun s1 => sN_tail F s1))))))))))))))))))))))
theorem sNarrows_def (F : Nat) (c : SwT) (target : RgT) (by_ : Int) : sNarrows_S F c target by_ = sN_rest F c target ((IntKind.wrap IntKind.u8 ((BitVec.toNat ((BitVec.ofInt 8 by_) &&& (BitVec.ofInt 8 (1 : Int)))) : Int)) == (1 : Int)) ((IntKind.wrap IntKind.u8 ((BitVec.toNat ((BitVec.ofInt 8 by_) &&& (BitVec.ofInt 8 (2 : Int)))) : Int)) == (2 : Int)) ((IntKind.wrap IntKind.u8 ((BitVec.toNat ((BitVec.ofInt 8 by_) &&& (BitVec.ofInt 8 (4 : Int)))) : Int)) == (4 : Int)) ((IntKind.wrap IntKind.u8 ((BitVec.toNat ((BitVec.ofInt 8 by_) &&& (BitVec.ofInt 8 (8 : Int)))) : Int)) == (8 : Int)) ((IntKind.wrap IntKind.u8 ((BitVec.toNat ((BitVec.ofInt 8 by_) &&& (BitVec.ofInt 8 (16 : Int)))) : Int)) == (16 : Int)) ((IntKind.wrap IntKind.u8 ((BitVec.toNat ((BitVec.ofInt 8 by_) &&& (BitVec.ofInt 8 (32 : Int)))) : Int)) == (32 : Int)) := rfl
theorem tail_ok (F : Nat) (hF : 2000 < F) {w w' : WrT} {b b' : WbT} (q : Nrw w w' b b') (n : Int) (m : Nat) (hm : m ≤ 2000) (g h : List Int) (hg : ∀ i : Nat, i < g.length → nth g (0 : Int) i ≠ 2 → i < h.length ∧ nth h (0 : Int) i = nth g (0 : Int) i) :
    sN_tail F (false, (prd w b n m, (g, (prd w' b' n m, (h, (rgl w b (m - 1), rgl w' b' (m - 1))))))) = some true := by
  have hl := sN_loop F (prd w b n m) g (prd w' b' n m) h (fun i => (slf b w.1.2 w.2.1.1 b.2.2.2.2 i, slf b w.1.1 w.2.1.2 b.2.2.2.1 i)) (fun i => (slf b' w'.1.2 w'.2.1.1 b'.2.2.2.2 i, slf b' w'.1.1 w'.2.1.2 b'.2.2.2.1 i)) (m - 1) (by omega) (slf_in q) hg (m - 1) F 0 (by omega) (by omega)
  unfold sN_tail
  change ob (sNarrows_L0 F F ((0 : Nat) : Int) (prd w b n m) g (prd w' b' n m) h (rgl w b (m - 1)) (rgl w' b' (m - 1))) _ = _
  unfold rgl
  rw [hl]
  have fin : ob (lin_S F (sm (kf b' n w'.1.1 w'.2.1.2 b'.2.2.2.1 m) m, sm (kf b' n w'.1.2 w'.2.1.1 b'.2.2.2.2 m) m) (sm (kf b n w.1.1 w.2.1.2 b.2.2.2.1 m) m, sm (kf b n w.1.2 w.2.1.1 b.2.2.2.2 m) m)) (fun r10 => bif r10 then
      ob (lin_S F (mn n b'.2.2.1 + rsA b' n w'.1.2 w'.2.1.1 b'.2.2.2.2 m m, mn n b'.2.2.1 + rsA b' n w'.1.1 w'.2.1.2 b'.2.2.2.1 m m) (mn n b.2.2.1 + rsA b n w.1.2 w.2.1.1 b.2.2.2.2 m m, mn n b.2.2.1 + rsA b n w.1.1 w.2.1.2 b.2.2.2.1 m m)) (fun r11 => bif r11 then
        ob (lin_S F (dAt w'.1.1 w'.2.1.2 m, dAt w'.1.2 w'.2.1.1 m) (dAt w.1.1 w.2.1.2 m, dAt w.1.2 w.2.1.1 m)) (fun r12 => bif r12 then some true else some false) else some false) else some false) = some true := by
    rw [lin_eq F _ _ (kerf_in q n m)]
    change ob (lin_S F _ _) _ = _
    rw [lin_eq F _ _ (ends_in q n m)]
    change ob (lin_S F _ _) _ = _
    rw [lin_eq F _ _ (wire_in q m)]
    rfl
  change (bif (brk w m != 2) then (bif (brk w' m != brk w m) then some false else ob (lin_S F (sm (kf b' n w'.1.1 w'.2.1.2 b'.2.2.2.1 m) m, sm (kf b' n w'.1.2 w'.2.1.1 b'.2.2.2.2 m) m) (sm (kf b n w.1.1 w.2.1.2 b.2.2.2.1 m) m, sm (kf b n w.1.2 w.2.1.1 b.2.2.2.2 m) m)) _) else ob (lin_S F (sm (kf b' n w'.1.1 w'.2.1.2 b'.2.2.2.1 m) m, sm (kf b' n w'.1.2 w'.2.1.1 b'.2.2.2.2 m) m) (sm (kf b n w.1.1 w.2.1.2 b.2.2.2.1 m) m, sm (kf b n w.1.2 w.2.1.1 b.2.2.2.2 m) m)) _) = _
  cases h2 : (brk w m != 2) with
  | false => exact fin
  | true =>
    rw [brk_in q m (bne_iff_ne.1 h2), bne_self_eq_false]
    exact fin
def chn {α : Type} (X : α) (c1 c2 c3 c4 c5 c6 c7 c8 c9 : Bool) : Option (Bool × α) := bif c1 then some (true, X) else (bif c2 then some (true, X) else (bif c3 then some (true, X) else (bif c4 then some (true, X) else (bif c5 then some (true, X) else (bif c6 then some (true, X) else (bif c7 then some (true, X) else (bif c8 then some (true, X) else some (c9, X))))))))
theorem rest_ok (F : Nat) (hF : 2000 < F) (c : SwT) (t : RgT) (p1 q1 p2 q2 p3 q3 : Bool) : sN_rest F c t p1 q1 p2 q2 p3 q3 = some true := by
  obtain ⟨w, b, n⟩ := c
  unfold sN_rest
  change (bif decide (b.2.1 > 300) then some true else ob (predict_S F w b n) _) = _
  cases decide (b.2.1 > 300) with
  | true => rfl
  | false =>
    cases hk : (ckI w b n == 0) with
    | false =>
      rw [predict_bad _ _ _ _ hk]
      change (bif (ckI w b n != 0) then some true else _) = _
      rw [show (ckI w b n != 0) = true by unfold bne; rw [hk]; rfl]; rfl
    | true =>
      have h0 : ckI w b n = 0 := eq_of_beq hk
      have hv := vld_of h0
      have hd := hv.d; have he := hv.e; have hy := hv.y
      have hm := (ct_thick hv).hm
      obtain ⟨r3, x3, y3⟩ := less_eq F w.1 p1 q1 (by omega)
      obtain ⟨r4, x4, y4⟩ := less_eq F w.2.1 p2 q2 (by omega)
      obtain ⟨r5, x5, y5⟩ := less_eq F b.2.2.2 p3 q3 (by omega)
      have q : Nrw w (r3, (r4, w.2.2)) b (b.1, (b.2.1, (b.2.2.1, r5))) := ⟨y3, y4, rfl, rfl, rfl, rfl, y5⟩
      have h0' := ck_of (q.vld hv)
      have em : mU (b.1, (b.2.1, (b.2.2.1, r5))) n = mU b n := q.mU n
      have n1 := rnJ_mono (wear := w.2.1.2) (wear' := r4.2) (least := w.2.2) (mU b n) (by omega) 1000 w.1.1 r3.1 (by omega) (by omega)
      have n2 := rnJ_mono (wear := r4.1) (wear' := w.2.1.1) (least := w.2.2) (mU b n) (by omega) 1000 r3.2 w.1.2 (by omega) (by omega)
      have n3 := rnJ_mono (wear := r4.2) (wear' := r4.1) (least := w.2.2) (mU b n) (by omega) 1000 r3.1 r3.2 (by omega) (by omega)
      have n4 := rnJ_mono (wear := w.2.1.2) (wear' := w.2.1.1) (least := w.2.2) (mU b n) (by omega) 1000 w.1.1 w.1.2 (by omega) (by omega)
      rw [predict_eq F hF h0]
      change ob (judge_S F w b n t) _ = _
      rw [judge_eq F hF h0]
      change ob (runs_S F w b n) _ = _
      rw [runs_cnt F hF h0]
      change ob (less_S F w.1 p1 q1) _ = _
      rw [x3]
      change ob (less_S F w.2.1 p2 q2) _ = _
      rw [x4]
      change ob (less_S F b.2.2.2 p3 q3) _ = _
      rw [x5]
      change ob (predict_S F (r3, (r4, w.2.2)) (b.1, (b.2.1, (b.2.2.1, r5))) n) _ = _
      rw [predict_eq F hF h0', em]
      change ob (judge_S F (r3, (r4, w.2.2)) (b.1, (b.2.1, (b.2.2.1, r5))) n t) _ = _
      rw [judge_eq F hF h0', em]
      change ob (runs_S F (r3, (r4, w.2.2)) (b.1, (b.2.1, (b.2.2.1, r5))) n) _ = _
      rw [runs_cnt F hF h0', em]
      have fin : ∀ (z : Int) (g h : List Int), g.length = h.length → (∀ i : Nat, i < g.length → nth g (0 : Int) i ≠ 2 → i < h.length ∧ nth h (0 : Int) i = nth g (0 : Int) i) →
          ob (chn (prd w b n (mU b n), (g, (prd (r3, (r4, w.2.2)) (b.1, (b.2.1, (b.2.2.1, r5))) n (mU b n), (h, (rgl w b (mU b n - 1), rgl (r3, (r4, w.2.2)) (b.1, (b.2.1, (b.2.2.1, r5))) (mU b n - 1)))))) ((0 : Int) != 0) (z != z) ((0 : Int) != 0) (((rgl w b (mU b n - 1)).length : Int) - 0 != ((rgl (r3, (r4, w.2.2)) (b.1, (b.2.1, (b.2.2.1, r5))) (mU b n - 1)).length : Int) - 0) ((g.length : Int) - 0 != (h.length : Int) - 0) (decide (rnJ r4.2 w.2.2 (mU b n) 1000 r3.1 < rnJ w.2.1.2 w.2.2 (mU b n) 1000 w.1.1)) (decide (rnJ r4.1 w.2.2 (mU b n) 1000 r3.2 > rnJ w.2.1.1 w.2.2 (mU b n) 1000 w.1.2)) (decide (rnJ r4.2 w.2.2 (mU b n) 1000 r3.1 > rnJ r4.1 w.2.2 (mU b n) 1000 r3.2)) (decide (rnJ w.2.1.2 w.2.2 (mU b n) 1000 w.1.1 > rnJ w.2.1.1 w.2.2 (mU b n) 1000 w.1.2))) (fun s1 => sN_tail F s1) = some true := fun z g h hl hg => by
        rw [bne_self_eq_false, bne_self_eq_false, show ((rgl w b (mU b n - 1)).length : Int) - 0 = ((rgl (r3, (r4, w.2.2)) (b.1, (b.2.1, (b.2.2.1, r5))) (mU b n - 1)).length : Int) - 0 by unfold rgl; rw [len_rg, len_rg], bne_self_eq_false, hl, bne_self_eq_false, dec_f (show ¬ rnJ r4.2 w.2.2 (mU b n) 1000 r3.1 < rnJ w.2.1.2 w.2.2 (mU b n) 1000 w.1.1 by omega), dec_f (show ¬ rnJ r4.1 w.2.2 (mU b n) 1000 r3.2 > rnJ w.2.1.1 w.2.2 (mU b n) 1000 w.1.2 by omega), dec_f (show ¬ rnJ r4.2 w.2.2 (mU b n) 1000 r3.1 > rnJ r4.1 w.2.2 (mU b n) 1000 r3.2 by omega), dec_f (show ¬ rnJ w.2.1.2 w.2.2 (mU b n) 1000 w.1.1 > rnJ w.2.1.1 w.2.2 (mU b n) 1000 w.1.2 by omega)]
        exact tail_ok F hF q n (mU b n) hm g h hg
      cases decide (t.1 > t.2) with
      | true => exact fin 2 [] [] rfl (fun i hi => by cases hi)
      | false =>
        refine fin 0 ((rgl w b (mU b n - 1)).map fun r => grd r t) ((rgl (r3, (r4, w.2.2)) (b.1, (b.2.1, (b.2.2.1, r5))) (mU b n - 1)).map fun r => grd r t) (by unfold rgl; simp only [List.length_map, List.length_range]) (fun i hi h2 => ?_)
        unfold rgl at hi h2 ⊢
        rw [List.map_map] at hi h2 ⊢
        rw [List.map_map]
        rw [len_rg] at hi
        rw [nth_rg _ _ _ i hi] at h2 ⊢
        rw [nth_rg _ _ _ i hi, len_rg]
        exact ⟨hi, grd_in (slf_in q i) t h2⟩
theorem sNarrows_law0 (c : SwT) (t : RgT) (by_ : Int) : sNarrows_S 3000 c t by_ = some true := by
  rw [sNarrows_def]
  exact rest_ok 3000 (by decide) c t _ _ _ _ _ _
end Go.Proofs.YtdfgmfddkcmalaaDoor
