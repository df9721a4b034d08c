/- Plain laws of chapter 8, on: both ways to cut a block come to the same. No condition. -/
import Derived.Test.YtdfgmfddkcmalaaDoorWLR8d
namespace Go.Proofs.YtdfgmfddkcmalaaDoor
open Go.RowKit
set_option maxRecDepth 100000
theorem cutA_eq (F : Nat) {b : WbT} {n d wear sl : Int} {m : Nat} (h : Ct b n d wear sl m) (hF : 2000 < F) (w : WrT) (hu : used_S F (w, (b, n)) = some (m : Int)) :
    cutA_S F (w, (b, n)) d (wear, sl) = some (((mn n b.2.2.1, rsA b n d wear sl m m), (if m = 0 then d else dAt d wear (m - 1)), dAt d wear m), ((wear, sl), sls b d wear sl m m, kfs b n d wear sl m m)) := by
  unfold cutA_S
  rw [hu]
  have r8 := h.hn; have r9 := h.hst; have r7 := h.hm
  obtain ⟨y', hy⟩ := cutA_loop F h w (mn n b.2.2.1, (0 : Int)) m F 0 d 0 (by omega) (by omega)
  have e0 : rsA b n d wear sl m 0 = IntKind.wrap IntKind.i64 (n - mn n b.2.2.1) := by
    by_cases hm : m = 0
    · have := h.hz hm
      unfold rsA mn
      rw [if_pos hm.symm, if_pos hm]
      split
      · rw [w64 _ (by omega)]; omega
      · rw [w64 _ (by omega)]; omega
    · obtain ⟨_, _, p3⟩ := h.plr (i := 0) (by omega)
      have p4 := h.hpl 0 (by omega)
      unfold rsA mn
      rw [if_neg (by omega), if_neg (by omega), w64 _ (by omega)]
      omega
  have e1 : sls b d wear sl m 0 = [] := by
    unfold sls
    by_cases hm : m = 0
    · rw [hm]; rfl
    · rw [if_pos (by omega)]; rfl
  rw [e0, dAt_0 h.hd.1, e1] at hy
  change ob (cutA_L F F (((m : Int), (m : Int), ((0 : Nat) : Int)), ((wear, sl), (w, (b, n)), (mn n b.2.2.1, (0 : Int)), d, (0 : Int), (m : Int), IntKind.wrap IntKind.i64 (n - mn n b.2.2.1), (w, (b, n)), d, [], kfs b n d wear sl m 0))) _ = _
  rw [hy]
/-! The other way -/
noncomputable def rE (len : Int) (g1 places dd : List Int) (i : Int) : Int := mn len (IntKind.wrap IntKind.i64 ((IntKind.wrap IntKind.i64 (nth places (0 : Int) i.toNat + nth dd (0 : Int) i.toNat)) + nth g1 (0 : Int) i.toNat))
abbrev RcT := (List Int) × ((List Int) × (Int × ((Int × Int) × ((Int × Int) × ((List Int) × ((List Int) × ((List Int) × (List Int))))))))
noncomputable def rC2 (F k : Nat) (s1 : (Int × (Int × Int)) × RcT) : Option (((List Int) × ((List Int) × ((Int × Int) × ((Int × Int) × ((List Int) × (List Int))))))) :=
  (bif (decide ((IntKind.wrap IntKind.i64 (s1.1.2.1 + (1 : Int))) < ((s1.2.2.2.2.2.2.1.length - 0 : Nat) : Int))) then (bif (inB (IntKind.wrap IntKind.i64 (s1.1.2.1 + (1 : Int))) (s1.2.2.2.2.2.2.1.length - 0)) then (bif (lenOk (s1.2.2.2.2.2.2.2.2.1.length - 0) ((IntKind.wrap IntKind.i64 ((nth s1.2.2.2.2.2.2.1 (0 : Int) (IntKind.wrap IntKind.i64 (s1.1.2.1 + (1 : Int))).toNat) - s1.1.2.2)) :: []).length) then (rCut_L0 F k s1.1.1 (IntKind.wrap IntKind.i64 (s1.1.2.1 + (1 : Int))) s1.2.1 s1.2.2.1 s1.2.2.2.1 s1.2.2.2.2.1 s1.2.2.2.2.2.1 s1.2.2.2.2.2.2.1 s1.2.2.2.2.2.2.2.1 (s1.2.2.2.2.2.2.2.2.1 ++ ((IntKind.wrap IntKind.i64 ((nth s1.2.2.2.2.2.2.1 (0 : Int) (IntKind.wrap IntKind.i64 (s1.1.2.1 + (1 : Int))).toNat) - s1.1.2.2)) :: [])) s1.2.2.2.2.2.2.2.2.2) else none) else none) else (rCut_L0 F k s1.1.1 (IntKind.wrap IntKind.i64 (s1.1.2.1 + (1 : Int))) s1.2.1 s1.2.2.1 s1.2.2.2.1 s1.2.2.2.2.1 (s1.2.2.2.2.2.1.1, (IntKind.wrap IntKind.i64 (s1.1.1 - s1.1.2.2))) s1.2.2.2.2.2.2.1 s1.2.2.2.2.2.2.2.1 s1.2.2.2.2.2.2.2.2.1 s1.2.2.2.2.2.2.2.2.2))
theorem rCut_def (F k : Nat) (len i c : Int) (t6 p : Int × Int) (g0 g1 places dd ss ks : List Int) : rCut_L0 F (k + 1) len i g0 g1 c t6 p places dd ss ks =
    bif decide (i < ((places.length - 0 : Nat) : Int)) then (bif inB i (places.length - 0) then (bif inB i (dd.length - 0) then (bif inB i (g1.length - 0) then (bif inB i (places.length - 0) then
      (bif lenOk (ks.length - 0) ((IntKind.wrap IntKind.i64 (rE len g1 places dd i - nth places (0 : Int) i.toNat)) :: []).length then
        (ob (bif (i == (0 : Int)) then (bif (inB (0 : Int) (places.length - 0)) then some ((len, i, rE len g1 places dd i), (g0, g1, c, t6, (nth places (0 : Int) 0, p.2), places, dd, ss, ks ++ ((IntKind.wrap IntKind.i64 (rE len g1 places dd i - nth places (0 : Int) i.toNat)) :: []))) else none)
          else some ((len, i, rE len g1 places dd i), (g0, g1, c, t6, p, places, dd, ss, ks ++ ((IntKind.wrap IntKind.i64 (rE len g1 places dd i - nth places (0 : Int) i.toNat)) :: [])))) (fun s1 => rC2 F k s1))
      else none) else none) else none) else none) else none) else some (g0, g1, t6, p, ss, ks) := rfl
def pls (b : WbT) (m : Nat) : List Int := (List.range m).map (plc b)
def dms (d wear : Int) (m : Nat) : List Int := (List.range (m + 1)).map (dAt d wear)
theorem rE_eq {b : WbT} {n d wear sl : Int} {m : Nat} (h : Ct b n d wear sl m) {i : Nat} (hi : i < m) : rE n (List.replicate m sl) (pls b m) (dms d wear m) (i : Int) = plc b i + kf b n d wear sl m i := by
  have r2 := dAt_range h.hd.1 h.hw.1 i
  have r3 := h.hd; have r5 := h.hs; have r7 := h.hm; have r9 := h.hst; have rt := h.ht; have r8 := h.hn
  obtain ⟨p1, p2, p3⟩ := h.plr (i := i) (by omega)
  have p4 := h.hpl i hi
  unfold rE pls dms
  rw [Int.toNat_natCast, nth_map _ _ _ hi, nth_map _ _ _ (show i < m + 1 by omega), nth_rep _ _ _ hi, w64 (plc b i + _) (by omega), w64 _ (by omega)]
  unfold kf mn
  by_cases hm : i + 1 = m
  · rw [if_pos hm]; split <;> split <;> omega
  · have h6 := h.hpl (i + 1) (by omega)
    rw [plc_succ] at h6
    rw [if_neg hm, if_neg (by omega)]
    omega
theorem rCut_step (F k : Nat) {b : WbT} {n d wear sl : Int} {m : Nat} (h : Ct b n d wear sl m) {i : Nat} (hi : i < m) (g0 : List Int) (c : Int) (t6 p : Int × Int) :
    rCut_L0 F (k + 1) n i g0 (List.replicate m sl) c t6 p (pls b m) (dms d wear m) (sls b d wear sl m i) (kfs b n d wear sl m i) =
    rCut_L0 F k n ((i + 1 : Nat) : Int) g0 (List.replicate m sl) c t6 ((if i = 0 then b.2.2.1 else p.1), (if i + 1 = m then rsA b n d wear sl m m else p.2)) (pls b m) (dms d wear m) (sls b d wear sl m (i + 1)) (kfs b n d wear sl m (i + 1)) := by
  have r1 := h.kfr hi
  have r2 := dAt_range h.hd.1 h.hw.1 i
  have r3 := h.hd; have r5 := h.hs; have r7 := h.hm; have r9 := h.hst; have rt := h.ht; have r8 := h.hn; have r6 := h.hp
  obtain ⟨p1, p2, p3⟩ := h.plr (i := i) (by omega)
  have p4 := h.hpl i hi
  have e1 : IntKind.wrap IntKind.i64 ((i : Int) + 1) = ((i + 1 : Nat) : Int) := by rw [w64 _ (by omega)]; omega
  have lp : (pls b m).length = m := len_map _ _
  have ld : (dms d wear m).length = m + 1 := len_map _ _
  have l1 := sls_len b d wear sl m i (by omega)
  have n1 : nth (pls b m) (0 : Int) (i : Int).toNat = plc b i := by rw [Int.toNat_natCast]; exact nth_map _ _ _ hi
  have e2 : IntKind.wrap IntKind.i64 (plc b i + kf b n d wear sl m i - plc b i) = kf b n d wear sl m i := by rw [w64 _ (by omega)]; omega
  rw [rCut_def, rE_eq h hi, n1, e2, ← kfs_step, lp, ld, List.length_replicate, kfs_len, dec_t (show (i : Int) < ((m - 0 : Nat) : Int) by omega), inB_t (show i < m - 0 by omega), inB_t (show i < m + 1 - 0 by omega), lenOk_t (show i - 0 + [kf b n d wear sl m i].length ≤ 1000000 by simp; omega)]
  simp only [cond_true]
  have fin : ∀ q : Int × Int, rC2 F k ((n, (i : Int), plc b i + kf b n d wear sl m i), (g0, List.replicate m sl, c, t6, q, pls b m, dms d wear m, sls b d wear sl m i, kfs b n d wear sl m (i + 1))) =
      rCut_L0 F k n ((i + 1 : Nat) : Int) g0 (List.replicate m sl) c t6 (q.1, (if i + 1 = m then rsA b n d wear sl m m else q.2)) (pls b m) (dms d wear m) (sls b d wear sl m (i + 1)) (kfs b n d wear sl m (i + 1)) := fun q => by
    unfold rC2
    show (bif (decide ((IntKind.wrap IntKind.i64 ((i : Int) + (1 : Int))) < (((pls b m).length - 0 : Nat) : Int))) then (bif (inB (IntKind.wrap IntKind.i64 ((i : Int) + (1 : Int))) ((pls b m).length - 0)) then (bif (lenOk ((sls b d wear sl m i).length - 0) ((IntKind.wrap IntKind.i64 ((nth (pls b m) (0 : Int) (IntKind.wrap IntKind.i64 ((i : Int) + (1 : Int))).toNat) - (plc b i + kf b n d wear sl m i))) :: []).length) then (rCut_L0 F k n (IntKind.wrap IntKind.i64 ((i : Int) + (1 : Int))) g0 (List.replicate m sl) c t6 q (pls b m) (dms d wear m) (sls b d wear sl m i ++ ((IntKind.wrap IntKind.i64 ((nth (pls b m) (0 : Int) (IntKind.wrap IntKind.i64 ((i : Int) + (1 : Int))).toNat) - (plc b i + kf b n d wear sl m i))) :: [])) (kfs b n d wear sl m (i + 1))) else none) else none) else (rCut_L0 F k n (IntKind.wrap IntKind.i64 ((i : Int) + (1 : Int))) g0 (List.replicate m sl) c t6 (q.1, (IntKind.wrap IntKind.i64 (n - (plc b i + kf b n d wear sl m i)))) (pls b m) (dms d wear m) (sls b d wear sl m i) (kfs b n d wear sl m (i + 1)))) = _
    rw [e1, lp, Int.toNat_natCast]
    by_cases hl : i + 1 = m
    · have e5 : IntKind.wrap IntKind.i64 (n - (plc b i + kf b n d wear sl m i)) = rsA b n d wear sl m m := by
        rw [w64 _ (by omega)]
        unfold rsA
        rw [if_pos rfl, if_neg (by omega), show m - 1 = i by omega]; omega
      rw [dec_f (by omega), e5, if_pos hl, sls_last b d wear sl hl]
      simp only [cond_false]
    · have hl' : i + 1 < m := by omega
      have e5 : IntKind.wrap IntKind.i64 (nth (pls b m) (0 : Int) (i + 1) - (plc b i + kf b n d wear sl m i)) = slf b d wear sl i := by
        unfold pls
        rw [nth_map _ _ _ hl', plc_succ]
        unfold kf slf
        rw [if_neg hl, w64 _ (by omega)]; omega
      rw [e5, dec_t (by omega), inB_t (show i + 1 < m - 0 by omega), lenOk_t (show (sls b d wear sl m i).length - 0 + [slf b d wear sl i].length ≤ 1000000 by simp; omega), if_neg hl, sls_step b d wear sl hl']
      simp only [cond_true]
  by_cases hz : i = 0
  · have n0 : nth (pls b m) (0 : Int) 0 = b.2.2.1 := by
      have := n1
      rw [hz] at this
      have p5 := p3
      rw [hz] at p5
      rw [show ((0 : Nat) : Int).toNat = 0 from rfl] at this
      rw [this, p5]; simp
    rw [show ((i : Int) == 0) = true from beq_iff_eq.2 (by omega), show inB (0 : Int) (m - 0) = true from inB_t (k := 0) (by omega), n0, if_pos hz]
    exact fin (b.2.2.1, p.2)
  · rw [show ((i : Int) == 0) = false from beq_eq_false_iff_ne.2 (by omega), if_neg hz]
    exact fin p
theorem rCut_loop (F : Nat) {b : WbT} {n d wear sl : Int} {m : Nat} (h : Ct b n d wear sl m) (g0 : List Int) (c : Int) (t6 : Int × Int) : ∀ (j k i : Nat), i + j = m → j < k →
    rCut_L0 F k n i g0 (List.replicate m sl) c t6 ((if i = 0 then n else b.2.2.1), (if i = m then rsA b n d wear sl m m else 0)) (pls b m) (dms d wear m) (sls b d wear sl m i) (kfs b n d wear sl m i) =
      some (g0, List.replicate m sl, t6, ((if m = 0 then n else b.2.2.1), rsA b n d wear sl m m), sls b d wear sl m m, kfs b n d wear sl m m)
  | j, 0, i, _, hk => by omega
  | 0, k + 1, i, hi, _ => by
    have e : i = m := by omega
    subst e
    have lp : (pls b i).length = i := len_map _ _
    rw [rCut_def, lp, dec_f (by omega), if_pos rfl]; rfl
  | j + 1, k + 1, i, hi, hk => by
    rw [rCut_step F k h (show i < m by omega)]
    have := rCut_loop F h g0 c t6 j k (i + 1) (by omega) (by omega)
    rw [if_neg (show ¬ i + 1 = 0 by omega)] at this
    rw [← this]
    congr 1
    by_cases hz : i = 0
    · rw [if_pos hz]
      by_cases hm : i + 1 = m
      · rw [if_pos hm, if_pos hm]
      · rw [if_neg hm, if_neg hm]; show (_, if i = m then _ else _) = _
        rw [if_neg (by omega)]
    · rw [if_neg hz]
      show ((if i = 0 then n else b.2.2.1), _) = _
      rw [if_neg hz]
      by_cases hm : i + 1 = m
      · rw [if_pos hm, if_pos hm]
      · rw [if_neg hm, if_neg hm]; show (_, if i = m then _ else _) = _
        rw [if_neg (by omega)]
theorem rCut_eq (F : Nat) {b : WbT} {n d wear sl : Int} {m : Nat} (h : Ct b n d wear sl m) (hF : 2000 < F) (hp : rPlaces_S F b n = some (pls b m)) :
    rCut_S F b n d (List.replicate m wear) (List.replicate m sl) = some ((mn n b.2.2.1, rsA b n d wear sl m m), (sls b d wear sl m m, kfs b n d wear sl m m)) := by
  unfold rCut_S
  have hm := h.hm
  rw [hp, diam_eq F h.hd h.hw m h.hm (by omega)]
  have e1 : sls b d wear sl m 0 = [] := by
    unfold sls
    by_cases hm : m = 0
    · rw [hm]; rfl
    · rw [if_pos (by omega)]; rfl
  have hl := rCut_loop F h (List.replicate m wear) d (0, 0) m F 0 (by omega) (by omega)
  have e2 : (if (0 : Nat) = m then rsA b n d wear sl m m else 0) = 0 := by
    split
    · unfold rsA; rw [if_pos rfl, if_pos (by omega)]
    · rfl
  have e3 : (if m = 0 then n else b.2.2.1) = mn n b.2.2.1 := by
    unfold mn
    by_cases hm : m = 0
    · have := h.hz hm
      rw [if_pos hm]; split <;> omega
    · obtain ⟨_, _, p3⟩ := h.plr (i := 0) (by omega)
      have p4 := h.hpl 0 (by omega)
      rw [if_neg hm, if_neg (by omega)]
  rw [e2, e1, e3, if_pos rfl] at hl
  change ob (rCut_L0 F F n ((0 : Nat) : Int) (List.replicate m wear) (List.replicate m sl) d (0, 0) (n, 0) (pls b m) (dms d wear m) [] (kfs b n d wear sl m 0)) _ = _
  rw [hl]
end Go.Proofs.YtdfgmfddkcmalaaDoor
