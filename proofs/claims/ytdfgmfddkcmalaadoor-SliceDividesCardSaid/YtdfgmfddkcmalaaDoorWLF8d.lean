/- Plain laws of chapter 8: any course. No condition. -/
import Derived.Test.YtdfgmfddkcmalaaDoorWLR8h
import Derived.Test.YtdfgmfddkcmalaaDoorWX8f

namespace Go.Proofs.YtdfgmfddkcmalaaDoor
open Go.RowKit
set_option maxRecDepth 100000
/-- A course: diameters and slurries. -/
structure Cg (b : WbT) (n : Int) (D S : Nat → Int) (m : Nat) : Prop where
  hd : ∀ i, i ≤ m → 0 ≤ D i ∧ D i ≤ 10000000
  hs : ∀ i, i < m → 0 ≤ S i ∧ S i ≤ 10000000
  hp : 1 ≤ b.1 ∧ b.1 ≤ 10000000
  ht : ∀ i, i < m → D i + S i < b.1
  hst : 0 ≤ b.2.2.1 ∧ b.2.2.1 ≤ 600000000
  hn : 1 ≤ n ∧ n ≤ 600000000
  hm : m ≤ 2000
  hpl : ∀ i : Nat, i < m → plc b i < n
  hz : m = 0 → n ≤ b.2.2.1
def kg (b : WbT) (n : Int) (D S : Nat → Int) (m i : Nat) : Int := if i + 1 = m then mn (n - plc b i) (D i + S i) else D i + S i
def slg (b : WbT) (D S : Nat → Int) (i : Nat) : Int := b.1 - (D i + S i)
def kgs (b : WbT) (n : Int) (D S : Nat → Int) (m i : Nat) : List Int := (List.range i).map (kg b n D S m)
def sgs (b : WbT) (D S : Nat → Int) (m i : Nat) : List Int := (List.range (if i < m then i else m - 1)).map (slg b D S)
theorem Cg.plr {b : WbT} {n : Int} {D S : Nat → Int} {m : Nat} (h : Cg b n D S m) {i : Nat} (hi : i ≤ 2000) : 0 ≤ (i : Int) * b.1 ∧ (i : Int) * b.1 ≤ 20000000000 ∧ plc b i = b.2.2.1 + (i : Int) * b.1 := by
  have h1 := h.hp
  exact ⟨Int.mul_nonneg (by omega) (by omega), Int.le_trans (Int.mul_le_mul (by omega : (i : Int) ≤ 2000) h1.2 (by omega) (by omega)) (by omega), rfl⟩
theorem Cg.kgr {b : WbT} {n : Int} {D S : Nat → Int} {m : Nat} (h : Cg b n D S m) {i : Nat} (hi : i < m) : 0 ≤ kg b n D S m i ∧ kg b n D S m i ≤ D i + S i ∧ kg b n D S m i ≤ n - plc b i := by
  have h1 := h.hd i (by omega); have h2 := h.hs i hi; have h3 := h.hpl i hi; have h5 := h.ht i hi
  unfold kg mn
  by_cases hm : i + 1 = m
  · rw [if_pos hm]; split <;> omega
  · have h6 := h.hpl (i + 1) (by omega)
    rw [plc_succ] at h6
    rw [if_neg hm]
    omega
theorem sgs_step (b : WbT) (D S : Nat → Int) {m i : Nat} (h : i + 1 < m) : sgs b D S m (i + 1) = sgs b D S m i ++ [slg b D S i] := by
  unfold sgs
  rw [if_pos h, if_pos (by omega), map_range_succ]
theorem sgs_last (b : WbT) (D S : Nat → Int) {m i : Nat} (h : i + 1 = m) : sgs b D S m (i + 1) = sgs b D S m i := by
  unfold sgs
  rw [if_neg (by omega), if_pos (by omega), show m - 1 = i by omega]
theorem sgs_len (b : WbT) (D S : Nat → Int) (m i : Nat) (h : i ≤ m) : (sgs b D S m i).length ≤ i := by
  unfold sgs
  rw [len_map]
  split <;> omega
theorem sgs_0 (b : WbT) (D S : Nat → Int) (m : Nat) : sgs b D S m 0 = [] := by
  unfold sgs
  by_cases hm : m = 0
  · rw [hm]; rfl
  · rw [if_pos (by omega)]; rfl
theorem kgs_step (b : WbT) (n : Int) (D S : Nat → Int) (m i : Nat) : kgs b n D S m (i + 1) = kgs b n D S m i ++ [kg b n D S m i] := map_range_succ _ _
theorem kgs_len (b : WbT) (n : Int) (D S : Nat → Int) (m i : Nat) : (kgs b n D S m i).length = i := len_map _ _
def rsG (b : WbT) (n : Int) (D S : Nat → Int) (m i : Nat) : Int := if i = m then (if m = 0 then 0 else n - plc b (m - 1) - kg b n D S m (m - 1)) else n - plc b i
/-- The diameters by a list of wears. -/
def dl (d : Int) (G : List Int) : Nat → Int
  | 0 => d
  | i + 1 => mx0 (dl d G i - nth G (0 : Int) i)
abbrev CvT := Int × (List Int × (List Int × (SwT × ((Int × Int) × (Int × (Int × (Int × (Int × (SwT × (Int × (List Int × List Int)))))))))))
def ctV (F k : Nat) (u t i d0 : Int) (G H : List Int) (s1 : SwT) (tb : Int × Int) (used rest : Int) (s2 : SwT) (d : Int) (ss ks : List Int) (c : Int) : Option (Int × CvT) :=
  bif decide (c < 0) then none else (bif lenOk (ks.length - 0) (c :: []).length then
    (bif decide ((((ks ++ (c :: [])).length - 0 : Nat) : Int) < used) then
      (bif lenOk (ss.length - 0) ((IntKind.wrap IntKind.i64 (s1.2.1.1 - c)) :: []).length then cutB_L F k ((u, t, (IntKind.wrap IntKind.i64 (i + 1))), (d0, G, H, s1, tb, d, d, used, (IntKind.wrap IntKind.i64 ((IntKind.wrap IntKind.i64 (rest - c)) - (IntKind.wrap IntKind.i64 (s1.2.1.1 - c)))), s2, mx0 (IntKind.wrap IntKind.i64 (d - nth G (0 : Int) i.toNat)), (ss ++ ((IntKind.wrap IntKind.i64 (s1.2.1.1 - c)) :: [])), (ks ++ (c :: [])))) else none)
    else cutB_L F k ((u, t, (IntKind.wrap IntKind.i64 (i + 1))), (d0, G, H, s1, tb, d, d, used, (IntKind.wrap IntKind.i64 (rest - c)), s2, mx0 (IntKind.wrap IntKind.i64 (d - nth G (0 : Int) i.toNat)), ss, (ks ++ (c :: [])))))
  else none)
theorem cutB_def (F k : Nat) (u t i d0 : Int) (G H : List Int) (s1 : SwT) (tb : Int × Int) (last fifth used rest : Int) (s2 : SwT) (d : Int) (ss ks : List Int) :
    cutB_L F (k + 1) ((u, t, i), (d0, G, H, s1, tb, last, fifth, used, rest, s2, d, ss, ks)) =
    (bif decide (i < t) then (bif inB i (G.length - 0) then (bif inB i (H.length - 0) then (bif (i == IntKind.wrap IntKind.i64 (u - 1)) then
      ctV F k u t i d0 G H s1 tb used rest s2 d ss ks (mn (IntKind.wrap IntKind.i64 ((IntKind.wrap IntKind.i64 (s2.2.2 - s2.2.1.2.2.1)) - (IntKind.wrap IntKind.i64 (i * s2.2.1.1)))) (IntKind.wrap IntKind.i64 (d + nth H (0 : Int) i.toNat)))
      else ctV F k u t i d0 G H s1 tb used rest s2 d ss ks (mn s2.2.1.1 (IntKind.wrap IntKind.i64 (d + nth H (0 : Int) i.toNat)))) else none) else none)
    else some (u, (d0, G, H, s1, tb, last, fifth, used, rest, s2, d, ss, ks))) := rfl
end Go.Proofs.YtdfgmfddkcmalaaDoor


namespace Go.Proofs.YtdfgmfddkcmalaaDoor
open Go.RowKit
set_option maxRecDepth 100000
abbrev sf (H : List Int) : Nat → Int := fun i => nth H (0 : Int) i
theorem ctV_mid (F k : Nat) {b : WbT} {n d0 : Int} {G H : List Int} {m : Nat} (h : Cg b n (dl d0 G) (sf H) m) (hG : ∀ i, i < m → 0 ≤ nth G (0 : Int) i ∧ nth G (0 : Int) i ≤ 10000000) {i : Nat} (hi : i + 1 < m) (w : WrT) (tb : Int × Int) (rest : Int) (hr : 0 ≤ rest ∧ rest ≤ 600000000) :
    ctV F k m m i d0 G H (w, (b, n)) tb m rest (w, (b, n)) (dl d0 G i) (sgs b (dl d0 G) (sf H) m i) (kgs b n (dl d0 G) (sf H) m i) (kg b n (dl d0 G) (sf H) m i) =
    cutB_L F k ((m, m, ((i + 1 : Nat) : Int)), (d0, G, H, (w, (b, n)), tb, dl d0 G i, dl d0 G i, m, rest - b.1, (w, (b, n)), dl d0 G (i + 1), sgs b (dl d0 G) (sf H) m (i + 1), kgs b n (dl d0 G) (sf H) m (i + 1))) := by
  have r1 := h.kgr (show i < m by omega)
  have r2 := h.hd i (by omega); have r3 := h.hs i (by omega); have r4 := hG i (by omega); have r5 := h.ht i (by omega)
  have r6 := h.hp; have r7 := h.hm
  have ek : kg b n (dl d0 G) (sf H) m i = dl d0 G i + sf H i := by unfold kg; rw [if_neg (by omega)]
  have e1 : IntKind.wrap IntKind.i64 ((i : Int) + 1) = ((i + 1 : Nat) : Int) := by rw [w64 _ (by omega)]; omega
  have e2 : IntKind.wrap IntKind.i64 (b.1 - kg b n (dl d0 G) (sf H) m i) = b.1 - kg b n (dl d0 G) (sf H) m i := w64 _ (by omega)
  have e3 : IntKind.wrap IntKind.i64 ((IntKind.wrap IntKind.i64 (rest - kg b n (dl d0 G) (sf H) m i)) - (b.1 - kg b n (dl d0 G) (sf H) m i)) = rest - b.1 := by rw [w64 (rest - _) (by omega), w64 _ (by omega)]; omega
  have e4 : mx0 (IntKind.wrap IntKind.i64 (dl d0 G i - nth G (0 : Int) (i : Int).toNat)) = dl d0 G (i + 1) := by rw [Int.toNat_natCast, w64 _ (by omega)]; rfl
  have l1 := sgs_len b (dl d0 G) (sf H) m i (by omega)
  unfold ctV
  show (bif decide (kg b n (dl d0 G) (sf H) m i < 0) then none else (bif lenOk ((kgs b n (dl d0 G) (sf H) m i).length - 0) ((kg b n (dl d0 G) (sf H) m i) :: []).length then
    (bif decide ((((kgs b n (dl d0 G) (sf H) m i ++ ((kg b n (dl d0 G) (sf H) m i) :: [])).length - 0 : Nat) : Int) < (m : Int)) then
      (bif lenOk ((sgs b (dl d0 G) (sf H) m i).length - 0) ((IntKind.wrap IntKind.i64 (b.1 - kg b n (dl d0 G) (sf H) m i)) :: []).length then cutB_L F k ((m, m, (IntKind.wrap IntKind.i64 ((i : Int) + 1))), (d0, G, H, (w, (b, n)), tb, dl d0 G i, dl d0 G i, m, (IntKind.wrap IntKind.i64 ((IntKind.wrap IntKind.i64 (rest - kg b n (dl d0 G) (sf H) m i)) - (IntKind.wrap IntKind.i64 (b.1 - kg b n (dl d0 G) (sf H) m i)))), (w, (b, n)), mx0 (IntKind.wrap IntKind.i64 (dl d0 G i - nth G (0 : Int) (i : Int).toNat)), (sgs b (dl d0 G) (sf H) m i ++ ((IntKind.wrap IntKind.i64 (b.1 - kg b n (dl d0 G) (sf H) m i)) :: [])), (kgs b n (dl d0 G) (sf H) m i ++ ((kg b n (dl d0 G) (sf H) m i) :: [])))) else none)
    else _) else none)) = _
  rw [e2, e3, e4, e1, ← kgs_step, kgs_len, kgs_len, dec_f (show ¬ kg b n (dl d0 G) (sf H) m i < 0 by omega), lenOk_t (show i - 0 + [kg b n (dl d0 G) (sf H) m i].length ≤ 1000000 by simp; omega), lenOk_t (show (sgs b (dl d0 G) (sf H) m i).length - 0 + [b.1 - kg b n (dl d0 G) (sf H) m i].length ≤ 1000000 by simp; omega), dec_t (show ((i + 1 - 0 : Nat) : Int) < (m : Int) by omega), sgs_step b (dl d0 G) (sf H) hi]
  simp only [cond_true, cond_false]
  rw [show b.1 - kg b n (dl d0 G) (sf H) m i = slg b (dl d0 G) (sf H) i by rw [ek]; rfl]
theorem ctV_end (F k : Nat) {b : WbT} {n d0 : Int} {G H : List Int} {m : Nat} (h : Cg b n (dl d0 G) (sf H) m) (hG : ∀ i, i < m → 0 ≤ nth G (0 : Int) i ∧ nth G (0 : Int) i ≤ 10000000) {i : Nat} (hi : i + 1 = m) (w : WrT) (tb : Int × Int) (rest : Int) (hr : 0 ≤ rest ∧ rest ≤ 600000000) :
    ctV F k m m i d0 G H (w, (b, n)) tb m rest (w, (b, n)) (dl d0 G i) (sgs b (dl d0 G) (sf H) m i) (kgs b n (dl d0 G) (sf H) m i) (kg b n (dl d0 G) (sf H) m i) =
    cutB_L F k ((m, m, ((i + 1 : Nat) : Int)), (d0, G, H, (w, (b, n)), tb, dl d0 G i, dl d0 G i, m, rest - kg b n (dl d0 G) (sf H) m i, (w, (b, n)), dl d0 G (i + 1), sgs b (dl d0 G) (sf H) m (i + 1), kgs b n (dl d0 G) (sf H) m (i + 1))) := by
  have r1 := h.kgr (show i < m by omega)
  have r2 := h.hd i (by omega); have r3 := h.hs i (by omega); have r4 := hG i (by omega); have r5 := h.ht i (by omega)
  have r6 := h.hp; have r7 := h.hm
  have e1 : IntKind.wrap IntKind.i64 ((i : Int) + 1) = ((i + 1 : Nat) : Int) := by rw [w64 _ (by omega)]; omega
  have e3 : IntKind.wrap IntKind.i64 (rest - kg b n (dl d0 G) (sf H) m i) = rest - kg b n (dl d0 G) (sf H) m i := w64 _ (by omega)
  have e4 : mx0 (IntKind.wrap IntKind.i64 (dl d0 G i - nth G (0 : Int) (i : Int).toNat)) = dl d0 G (i + 1) := by rw [Int.toNat_natCast, w64 _ (by omega)]; rfl
  unfold ctV
  show (bif decide (kg b n (dl d0 G) (sf H) m i < 0) then none else (bif lenOk ((kgs b n (dl d0 G) (sf H) m i).length - 0) ((kg b n (dl d0 G) (sf H) m i) :: []).length then
    (bif decide ((((kgs b n (dl d0 G) (sf H) m i ++ ((kg b n (dl d0 G) (sf H) m i) :: [])).length - 0 : Nat) : Int) < (m : Int)) then _
    else cutB_L F k ((m, m, (IntKind.wrap IntKind.i64 ((i : Int) + 1))), (d0, G, H, (w, (b, n)), tb, dl d0 G i, dl d0 G i, m, (IntKind.wrap IntKind.i64 (rest - kg b n (dl d0 G) (sf H) m i)), (w, (b, n)), mx0 (IntKind.wrap IntKind.i64 (dl d0 G i - nth G (0 : Int) (i : Int).toNat)), sgs b (dl d0 G) (sf H) m i, (kgs b n (dl d0 G) (sf H) m i ++ ((kg b n (dl d0 G) (sf H) m i) :: []))))) else none)) = _
  rw [e3, e4, e1, ← kgs_step, kgs_len, kgs_len, dec_f (show ¬ kg b n (dl d0 G) (sf H) m i < 0 by omega), lenOk_t (show i - 0 + [kg b n (dl d0 G) (sf H) m i].length ≤ 1000000 by simp; omega), dec_f (show ¬ ((i + 1 - 0 : Nat) : Int) < (m : Int) by omega), sgs_last b (dl d0 G) (sf H) hi]
  simp only [cond_true, cond_false]
theorem cutB_loop (F : Nat) {b : WbT} {n d0 : Int} {G H : List Int} {m : Nat} (h : Cg b n (dl d0 G) (sf H) m) (hG : ∀ i, i < m → 0 ≤ nth G (0 : Int) i ∧ nth G (0 : Int) i ≤ 10000000) (lG : G.length = m) (lH : H.length = m) (w : WrT) (tb : Int × Int) : ∀ (j k i : Nat) (x y : Int), i + j = m → j < k →
    ∃ x' y' : Int, cutB_L F k ((m, m, (i : Int)), (d0, G, H, (w, (b, n)), tb, x, y, m, rsG b n (dl d0 G) (sf H) m i, (w, (b, n)), dl d0 G i, sgs b (dl d0 G) (sf H) m i, kgs b n (dl d0 G) (sf H) m i)) =
      some ((m : Int), (d0, G, H, (w, (b, n)), tb, x', y', (m : Int), rsG b n (dl d0 G) (sf H) m m, (w, (b, n)), dl d0 G m, sgs b (dl d0 G) (sf H) m m, kgs b n (dl d0 G) (sf H) m m))
  | j, 0, i, _, _, _, hk => by omega
  | 0, k + 1, i, x, y, hi, _ => by
    have e : i = m := by omega
    subst e
    exact ⟨x, y, by rw [cutB_def, dec_f (by omega)]; rfl⟩
  | j + 1, k + 1, i, x, y, hi, hk => by
    have r1 := h.kgr (show i < m by omega)
    have r2 := h.hd i (by omega); have r3 := h.hs i (by omega); have r4 := hG i (by omega); have rt := h.ht i (by omega)
    have r6 := h.hp; have r7 := h.hm; have r8 := h.hn; have r9 := h.hst
    obtain ⟨p1, p2, p3⟩ := h.plr (i := i) (by omega)
    have p4 := h.hpl i (by omega)
    have e0 : rsG b n (dl d0 G) (sf H) m i = n - plc b i := by unfold rsG; rw [if_neg (by omega)]
    have e1 : IntKind.wrap IntKind.i64 ((IntKind.wrap IntKind.i64 (n - b.2.2.1)) - (IntKind.wrap IntKind.i64 ((i : Int) * b.1))) = n - plc b i := by
      rw [w64 (n - _) (by omega), w64 ((i : Int) * _) (by omega), w64 _ (by omega)]; omega
    have e2 : IntKind.wrap IntKind.i64 (dl d0 G i + nth H (0 : Int) (i : Int).toNat) = dl d0 G i + sf H i := w64 _ (by rw [Int.toNat_natCast]; have r3' : 0 ≤ nth H (0 : Int) i ∧ nth H (0 : Int) i ≤ 10000000 := r3; omega)
    have e3 : IntKind.wrap IntKind.i64 ((m : Int) - 1) = (m : Int) - 1 := w64 _ (by omega)
    rw [cutB_def]
    show ∃ x' y' : Int, (bif decide ((i : Int) < (m : Int)) then (bif inB (i : Int) (G.length - 0) then (bif inB (i : Int) (H.length - 0) then (bif ((i : Int) == IntKind.wrap IntKind.i64 ((m : Int) - 1)) then
      ctV F k m m i d0 G H (w, (b, n)) tb m (rsG b n (dl d0 G) (sf H) m i) (w, (b, n)) (dl d0 G i) (sgs b (dl d0 G) (sf H) m i) (kgs b n (dl d0 G) (sf H) m i) (mn (IntKind.wrap IntKind.i64 ((IntKind.wrap IntKind.i64 (n - b.2.2.1)) - (IntKind.wrap IntKind.i64 ((i : Int) * b.1)))) (IntKind.wrap IntKind.i64 (dl d0 G i + nth H (0 : Int) (i : Int).toNat)))
      else ctV F k m m i d0 G H (w, (b, n)) tb m (rsG b n (dl d0 G) (sf H) m i) (w, (b, n)) (dl d0 G i) (sgs b (dl d0 G) (sf H) m i) (kgs b n (dl d0 G) (sf H) m i) (mn b.1 (IntKind.wrap IntKind.i64 (dl d0 G i + nth H (0 : Int) (i : Int).toNat)))) else none) else none) else _) = _
    rw [e1, e2, e3, e0, dec_t (by omega), inB_t (show i < G.length - 0 by omega), inB_t (show i < H.length - 0 by omega)]
    by_cases hl : i + 1 = m
    · have c1 : mn (n - plc b i) (dl d0 G i + sf H i) = kg b n (dl d0 G) (sf H) m i := by unfold kg; rw [if_pos hl]
      rw [c1, show ((i : Int) == (m : Int) - 1) = true from beq_iff_eq.2 (by omega)]
      simp only [cond_true]
      have hs := ctV_end F k h hG hl w tb (n - plc b i) (by omega)
      have e5 : n - plc b i - kg b n (dl d0 G) (sf H) m i = rsG b n (dl d0 G) (sf H) m (i + 1) := by
        unfold rsG
        rw [if_pos hl, if_neg (by omega), show m - 1 = i by omega]
      rw [e5] at hs
      obtain ⟨x', y', hy⟩ := cutB_loop F h hG lG lH w tb j k (i + 1) (dl d0 G i) (dl d0 G i) (by omega) (by omega)
      exact ⟨x', y', by rw [hs, hy]⟩
    · have c1 : mn b.1 (dl d0 G i + sf H i) = kg b n (dl d0 G) (sf H) m i := by unfold kg mn; rw [if_neg (by omega), if_neg hl]
      rw [c1, show ((i : Int) == (m : Int) - 1) = false from beq_eq_false_iff_ne.2 (by omega)]
      simp only [cond_true, cond_false]
      have hs := ctV_mid F k h hG (show i + 1 < m by omega) w tb (n - plc b i) (by omega)
      have e5 : n - plc b i - b.1 = rsG b n (dl d0 G) (sf H) m (i + 1) := by
        unfold rsG
        rw [if_neg (by omega), plc_succ]; omega
      rw [e5] at hs
      obtain ⟨x', y', hy⟩ := cutB_loop F h hG lG lH w tb j k (i + 1) (dl d0 G i) (dl d0 G i) (by omega) (by omega)
      exact ⟨x', y', by rw [hs, hy]⟩
theorem cutB_eq (F : Nat) {b : WbT} {n d0 : Int} {G H : List Int} {m : Nat} (h : Cg b n (dl d0 G) (sf H) m) (hG : ∀ i, i < m → 0 ≤ nth G (0 : Int) i ∧ nth G (0 : Int) i ≤ 10000000) (lG : G.length = m) (lH : H.length = m) (hF : 2000 < F) (w : WrT) (hu : used_S F (w, (b, n)) = some (m : Int)) :
    ∃ x' : Int, cutB_S F (w, (b, n)) d0 d0 G H = some (((mn n b.2.2.1, rsG b n (dl d0 G) (sf H) m m), x', dl d0 G m), (d0, sgs b (dl d0 G) (sf H) m m, kgs b n (dl d0 G) (sf H) m m)) := by
  unfold cutB_S
  rw [hu]
  have r8 := h.hn; have r9 := h.hst; have r7 := h.hm
  obtain ⟨x', y', hy⟩ := cutB_loop F h hG lG lH w (mn n b.2.2.1, (0 : Int)) m F 0 d0 0 (by omega) (by omega)
  have e0 : rsG b n (dl d0 G) (sf H) m 0 = IntKind.wrap IntKind.i64 (n - mn n b.2.2.1) := by
    by_cases hm : m = 0
    · have := h.hz hm
      unfold rsG mn
      rw [if_pos hm.symm, if_pos hm]
      split
      · rw [w64 _ (by omega)]; omega
      · rw [w64 _ (by omega)]; omega
    · obtain ⟨_, _, p3⟩ := h.plr (i := 0) (by omega)
      have p4 := h.hpl 0 (by omega)
      unfold rsG mn
      rw [if_neg (by omega), if_neg (by omega), w64 _ (by omega)]
      omega
  rw [e0, sgs_0] at hy
  refine ⟨x', ?_⟩
  change ob (cutB_L F F (((m : Int), (m : Int), ((0 : Nat) : Int)), (d0, G, H, (w, (b, n)), (mn n b.2.2.1, (0 : Int)), d0, (0 : Int), (m : Int), IntKind.wrap IntKind.i64 (n - mn n b.2.2.1), (w, (b, n)), dl d0 G 0, [], kgs b n (dl d0 G) (sf H) m 0))) _ = _
  rw [hy]
end Go.Proofs.YtdfgmfddkcmalaaDoor


namespace Go.Proofs.YtdfgmfddkcmalaaDoor
open Go.RowKit
set_option maxRecDepth 100000
def dlm (d0 : Int) (G : List Int) (m : Nat) : List Int := (List.range (m + 1)).map (dl d0 G)
theorem dl_range {d0 : Int} {G : List Int} {m : Nat} (h0 : 0 ≤ d0 ∧ d0 ≤ 10000000) (hG : ∀ i, i < m → 0 ≤ nth G (0 : Int) i ∧ nth G (0 : Int) i ≤ 10000000) : ∀ i, i ≤ m → 0 ≤ dl d0 G i ∧ dl d0 G i ≤ d0
  | 0, _ => ⟨h0.1, Int.le_refl _⟩
  | i + 1, h => by
    have h1 := dl_range h0 hG i (by omega)
    have h2 := hG i (by omega)
    unfold dl mx0
    split <;> omega
theorem diamG_L (F : Nat) {d0 : Int} {G : List Int} {m : Nat} (hm : m ≤ 2000) (lG : G.length = m) (h0 : 0 ≤ d0 ∧ d0 ≤ 10000000) (hG : ∀ i, i < m → 0 ≤ nth G (0 : Int) i ∧ nth G (0 : Int) i ≤ 10000000) : ∀ (j k i : Nat), i + j = m → j < k →
    rDiameters_L0 F G k i ((List.range (i + 1)).map (dl d0 G)) = some (G, dlm d0 G m)
  | j, 0, i, _, hk => by omega
  | 0, k + 1, i, hi, _ => by
    show (bif decide ((i : Int) < ((G.length - 0 : Nat) : Int)) then _ else _) = _
    rw [lG, dec_f (by omega)]
    have : i = m := by omega
    rw [this]; rfl
  | j + 1, k + 1, i, hi, hk => by
    have r := dl_range h0 hG i (by omega)
    have r2 := hG i (by omega)
    have hw1 : IntKind.wrap IntKind.i64 (dl d0 G i - nth G (0 : Int) i) = dl d0 G i - nth G (0 : Int) i := w64 _ (by omega)
    have hw3 : IntKind.wrap IntKind.i64 ((i : Int) + 1) = ((i + 1 : Nat) : Int) := by rw [w64 _ (by omega)]; omega
    have e1 : nth ((List.range (i + 1)).map (dl d0 G)) (0 : Int) i = dl d0 G i := nth_map _ _ _ (by omega)
    show (bif decide ((i : Int) < ((G.length - 0 : Nat) : Int)) then (bif inB (i : Int) (((List.range (i + 1)).map (dl d0 G)).length - 0) then (bif inB (i : Int) (G.length - 0) then (bif lenOk (((List.range (i + 1)).map (dl d0 G)).length - 0) ((mx0 (IntKind.wrap IntKind.i64 (nth ((List.range (i + 1)).map (dl d0 G)) (0 : Int) i - nth G (0 : Int) i))) :: []).length then rDiameters_L0 F G k (IntKind.wrap IntKind.i64 ((i : Int) + 1)) (((List.range (i + 1)).map (dl d0 G)) ++ ((mx0 (IntKind.wrap IntKind.i64 (nth ((List.range (i + 1)).map (dl d0 G)) (0 : Int) i - nth G (0 : Int) i))) :: [])) else none) else none) else none) else _) = _
    rw [e1, hw1, hw3, len_map, lG, dec_t (by omega), inB_t (show i < i + 1 - 0 by omega), inB_t (show i < m - 0 by omega), lenOk_t (show i + 1 - 0 + [mx0 (dl d0 G i - nth G (0 : Int) i)].length ≤ 1000000 by simp; omega)]
    simp only [cond_true]
    have e2 : (List.range (i + 1 + 1)).map (dl d0 G) = (List.range (i + 1)).map (dl d0 G) ++ [mx0 (dl d0 G i - nth G (0 : Int) i)] := map_range_succ _ _
    rw [← e2]
    exact diamG_L F hm lG h0 hG j k (i + 1) (by omega) (by omega)
theorem diamG_eq (F : Nat) {d0 : Int} {G : List Int} {m : Nat} (hm : m ≤ 2000) (lG : G.length = m) (h0 : 0 ≤ d0 ∧ d0 ≤ 10000000) (hG : ∀ i, i < m → 0 ≤ nth G (0 : Int) i ∧ nth G (0 : Int) i ≤ 10000000) (hF : 2000 < F) : rDiameters_S F d0 G = some (dlm d0 G m) := by
  unfold rDiameters_S
  have := diamG_L F hm lG h0 hG m F 0 (by omega) (by omega)
  change ob (rDiameters_L0 F G F ((0 : Nat) : Int) ((List.range (0 + 1)).map (dl d0 G))) _ = _
  rw [this]
theorem rEg_eq {b : WbT} {n d0 : Int} {G H : List Int} {m : Nat} (h : Cg b n (dl d0 G) (sf H) m) {i : Nat} (hi : i < m) : rE n H (pls b m) (dlm d0 G m) (i : Int) = plc b i + kg b n (dl d0 G) (sf H) m i := by
  have r2 := h.hd i (by omega); have r3 := h.hs i (by omega); have rt := h.ht i (by omega)
  have r7 := h.hm; have r9 := h.hst; have r8 := h.hn
  obtain ⟨p1, p2, p3⟩ := h.plr (i := i) (by omega)
  have p4 := h.hpl i hi
  unfold rE pls dlm
  rw [Int.toNat_natCast, nth_map _ _ _ hi, nth_map _ _ _ (show i < m + 1 by omega), show nth H (0 : Int) i = sf H i from rfl, w64 (plc b i + _) (by omega), w64 _ (by omega)]
  unfold kg mn
  by_cases hm : i + 1 = m
  · rw [if_pos hm]; split <;> split <;> omega
  · have h6 := h.hpl (i + 1) (by omega)
    rw [plc_succ] at h6
    rw [if_neg hm, if_neg (by omega)]
    omega
theorem rCutG_step (F k : Nat) {b : WbT} {n d0 : Int} {G H : List Int} {m : Nat} (h : Cg b n (dl d0 G) (sf H) m) (lH : H.length = m) {i : Nat} (hi : i < m) (g0 : List Int) (c : Int) (t6 p : Int × Int) :
    rCut_L0 F (k + 1) n i g0 H c t6 p (pls b m) (dlm d0 G m) (sgs b (dl d0 G) (sf H) m i) (kgs b n (dl d0 G) (sf H) m i) =
    rCut_L0 F k n ((i + 1 : Nat) : Int) g0 H c t6 ((if i = 0 then b.2.2.1 else p.1), (if i + 1 = m then rsG b n (dl d0 G) (sf H) m m else p.2)) (pls b m) (dlm d0 G m) (sgs b (dl d0 G) (sf H) m (i + 1)) (kgs b n (dl d0 G) (sf H) m (i + 1)) := by
  have r1 := h.kgr hi
  have r2 := h.hd i (by omega); have r3 := h.hs i (by omega); have rt := h.ht i (by omega)
  have r7 := h.hm; have r9 := h.hst; have r8 := h.hn; have r6 := h.hp
  obtain ⟨p1, p2, p3⟩ := h.plr (i := i) (by omega)
  have p4 := h.hpl i hi
  have e1 : IntKind.wrap IntKind.i64 ((i : Int) + 1) = ((i + 1 : Nat) : Int) := by rw [w64 _ (by omega)]; omega
  have lp : (pls b m).length = m := len_map _ _
  have ld : (dlm d0 G m).length = m + 1 := len_map _ _
  have l1 := sgs_len b (dl d0 G) (sf H) m i (by omega)
  have n1 : nth (pls b m) (0 : Int) (i : Int).toNat = plc b i := by rw [Int.toNat_natCast]; exact nth_map _ _ _ hi
  have e2 : IntKind.wrap IntKind.i64 (plc b i + kg b n (dl d0 G) (sf H) m i - plc b i) = kg b n (dl d0 G) (sf H) m i := by rw [w64 _ (by omega)]; omega
  rw [rCut_def, rEg_eq h hi, n1, e2, ← kgs_step, lp, ld, lH, kgs_len, dec_t (show (i : Int) < ((m - 0 : Nat) : Int) by omega), inB_t (show i < m - 0 by omega), inB_t (show i < m + 1 - 0 by omega), lenOk_t (show i - 0 + [kg b n (dl d0 G) (sf H) m i].length ≤ 1000000 by simp; omega)]
  simp only [cond_true]
  have fin : ∀ q : Int × Int, rC2 F k ((n, (i : Int), plc b i + kg b n (dl d0 G) (sf H) m i), (g0, H, c, t6, q, pls b m, dlm d0 G m, sgs b (dl d0 G) (sf H) m i, kgs b n (dl d0 G) (sf H) m (i + 1))) =
      rCut_L0 F k n ((i + 1 : Nat) : Int) g0 H c t6 (q.1, (if i + 1 = m then rsG b n (dl d0 G) (sf H) m m else q.2)) (pls b m) (dlm d0 G m) (sgs b (dl d0 G) (sf H) m (i + 1)) (kgs b n (dl d0 G) (sf H) m (i + 1)) := fun q => by
    unfold rC2
    show (bif (decide ((IntKind.wrap IntKind.i64 ((i : Int) + (1 : Int))) < (((pls b m).length - 0 : Nat) : Int))) then (bif (inB (IntKind.wrap IntKind.i64 ((i : Int) + (1 : Int))) ((pls b m).length - 0)) then (bif (lenOk ((sgs b (dl d0 G) (sf H) m i).length - 0) ((IntKind.wrap IntKind.i64 ((nth (pls b m) (0 : Int) (IntKind.wrap IntKind.i64 ((i : Int) + (1 : Int))).toNat) - (plc b i + kg b n (dl d0 G) (sf H) m i))) :: []).length) then (rCut_L0 F k n (IntKind.wrap IntKind.i64 ((i : Int) + (1 : Int))) g0 H c t6 q (pls b m) (dlm d0 G m) (sgs b (dl d0 G) (sf H) m i ++ ((IntKind.wrap IntKind.i64 ((nth (pls b m) (0 : Int) (IntKind.wrap IntKind.i64 ((i : Int) + (1 : Int))).toNat) - (plc b i + kg b n (dl d0 G) (sf H) m i))) :: [])) (kgs b n (dl d0 G) (sf H) m (i + 1))) else none) else none) else (rCut_L0 F k n (IntKind.wrap IntKind.i64 ((i : Int) + (1 : Int))) g0 H c t6 (q.1, (IntKind.wrap IntKind.i64 (n - (plc b i + kg b n (dl d0 G) (sf H) m i)))) (pls b m) (dlm d0 G m) (sgs b (dl d0 G) (sf H) m i) (kgs b n (dl d0 G) (sf H) m (i + 1)))) = _
    rw [e1, lp, Int.toNat_natCast]
    by_cases hl : i + 1 = m
    · have e5 : IntKind.wrap IntKind.i64 (n - (plc b i + kg b n (dl d0 G) (sf H) m i)) = rsG b n (dl d0 G) (sf H) m m := by
        rw [w64 _ (by omega)]
        unfold rsG
        rw [if_pos rfl, if_neg (by omega), show m - 1 = i by omega]; omega
      rw [dec_f (by omega), e5, if_pos hl, sgs_last b (dl d0 G) (sf H) hl]
      simp only [cond_false]
    · have hl' : i + 1 < m := by omega
      have e5 : IntKind.wrap IntKind.i64 (nth (pls b m) (0 : Int) (i + 1) - (plc b i + kg b n (dl d0 G) (sf H) m i)) = slg b (dl d0 G) (sf H) i := by
        unfold pls
        rw [nth_map _ _ _ hl', plc_succ]
        unfold kg slg
        rw [if_neg hl, w64 _ (by omega)]; omega
      rw [e5, dec_t (by omega), inB_t (show i + 1 < m - 0 by omega), lenOk_t (show (sgs b (dl d0 G) (sf H) m i).length - 0 + [slg b (dl d0 G) (sf H) i].length ≤ 1000000 by simp; omega), if_neg hl, sgs_step b (dl d0 G) (sf H) hl']
      simp only [cond_true]
  by_cases hz : i = 0
  · have n0 : nth (pls b m) (0 : Int) 0 = b.2.2.1 := by
      have := n1
      rw [hz] at this
      have p5 := p3
      rw [hz] at p5
      rw [show ((0 : Nat) : Int).toNat = 0 from rfl] at this
      rw [this, p5]; simp
    rw [show ((i : Int) == 0) = true from beq_iff_eq.2 (by omega), show inB (0 : Int) (m - 0) = true from inB_t (k := 0) (by omega), n0, if_pos hz]
    exact fin (b.2.2.1, p.2)
  · rw [show ((i : Int) == 0) = false from beq_eq_false_iff_ne.2 (by omega), if_neg hz]
    exact fin p
theorem rCutG_loop (F : Nat) {b : WbT} {n d0 : Int} {G H : List Int} {m : Nat} (h : Cg b n (dl d0 G) (sf H) m) (lH : H.length = m) (g0 : List Int) (c : Int) (t6 : Int × Int) : ∀ (j k i : Nat), i + j = m → j < k →
    rCut_L0 F k n i g0 H c t6 ((if i = 0 then n else b.2.2.1), (if i = m then rsG b n (dl d0 G) (sf H) m m else 0)) (pls b m) (dlm d0 G m) (sgs b (dl d0 G) (sf H) m i) (kgs b n (dl d0 G) (sf H) m i) =
      some (g0, H, t6, ((if m = 0 then n else b.2.2.1), rsG b n (dl d0 G) (sf H) m m), sgs b (dl d0 G) (sf H) m m, kgs b n (dl d0 G) (sf H) m m)
  | j, 0, i, _, hk => by omega
  | 0, k + 1, i, hi, _ => by
    have e : i = m := by omega
    subst e
    have lp : (pls b i).length = i := len_map _ _
    rw [rCut_def, lp, dec_f (by omega), if_pos rfl]; rfl
  | j + 1, k + 1, i, hi, hk => by
    rw [rCutG_step F k h lH (show i < m by omega)]
    have := rCutG_loop F h lH g0 c t6 j k (i + 1) (by omega) (by omega)
    rw [if_neg (show ¬ i + 1 = 0 by omega)] at this
    rw [← this]
    congr 1
    by_cases hz : i = 0
    · rw [if_pos hz]
      by_cases hm : i + 1 = m
      · rw [if_pos hm, if_pos hm]
      · rw [if_neg hm, if_neg hm]; show (_, if i = m then _ else _) = _
        rw [if_neg (by omega)]
    · rw [if_neg hz]
      show ((if i = 0 then n else b.2.2.1), _) = _
      rw [if_neg hz]
      by_cases hm : i + 1 = m
      · rw [if_pos hm, if_pos hm]
      · rw [if_neg hm, if_neg hm]; show (_, if i = m then _ else _) = _
        rw [if_neg (by omega)]
theorem rCutG_eq (F : Nat) {b : WbT} {n d0 : Int} {G H : List Int} {m : Nat} (h : Cg b n (dl d0 G) (sf H) m) (lH : H.length = m) (hF : 2000 < F) (hp : rPlaces_S F b n = some (pls b m)) (hD : rDiameters_S F d0 G = some (dlm d0 G m)) :
    rCut_S F b n d0 G H = some ((mn n b.2.2.1, rsG b n (dl d0 G) (sf H) m m), (sgs b (dl d0 G) (sf H) m m, kgs b n (dl d0 G) (sf H) m m)) := by
  unfold rCut_S
  have hm := h.hm
  rw [hp, hD]
  have hl := rCutG_loop F h lH G d0 (0, 0) m F 0 (by omega) (by omega)
  have e2 : (if (0 : Nat) = m then rsG b n (dl d0 G) (sf H) m m else 0) = 0 := by
    split
    · unfold rsG; rw [if_pos rfl, if_pos (by omega)]
    · rfl
  have e3 : (if m = 0 then n else b.2.2.1) = mn n b.2.2.1 := by
    unfold mn
    by_cases hm : m = 0
    · have := h.hz hm
      rw [if_pos hm]; split <;> omega
    · obtain ⟨_, _, p3⟩ := h.plr (i := 0) (by omega)
      have p4 := h.hpl 0 (by omega)
      rw [if_neg hm, if_neg (by omega)]
  rw [e2, sgs_0, e3, if_pos rfl] at hl
  change ob (rCut_L0 F F n ((0 : Nat) : Int) G H d0 (0, 0) (n, 0) (pls b m) (dlm d0 G m) [] (kgs b n (dl d0 G) (sf H) m 0)) _ = _
  rw [hl]
end Go.Proofs.YtdfgmfddkcmalaaDoor


namespace Go.Proofs.YtdfgmfddkcmalaaDoor
open Go.RowKit
set_option maxRecDepth 100000
theorem drop_nth (l : List Int) (i : Nat) (h : i < l.length) : l.drop i = nth l (0 : Int) i :: l.drop (i + 1) := by
  unfold nth
  rw [List.getD_eq_getElem?_getD, List.getElem?_eq_getElem h]
  exact List.drop_eq_getElem_cons h
theorem all_nth {l : List Int} {a b : Int} (h : l.all (fun x => inOk x a b) = true) {i : Nat} (hi : i < l.length) : a ≤ nth l (0 : Int) i ∧ nth l (0 : Int) i ≤ b := by
  unfold nth
  rw [List.getD_eq_getElem?_getD, List.getElem?_eq_getElem hi]
  have := List.all_eq_true.1 h _ (List.getElem_mem hi)
  unfold inOk at this
  simp only [Bool.and_eq_true, decide_eq_true_eq] at this
  exact this
theorem si_loop (F : Nat) (l : List Int) (hq : l.length ≤ 5000) : ∀ (j k i : Nat), i + j = l.length → j < k → sameInts_L0 F l l k i = some (.inr (l, l))
  | j, 0, i, _, hk => by omega
  | 0, k + 1, i, hi, _ => by
    show (bif decide ((i : Int) < ((l.length - 0 : Nat) : Int)) then _ else _) = _
    rw [dec_f (by omega)]; rfl
  | j + 1, k + 1, i, hi, hk => by
    have e1 : IntKind.wrap IntKind.i64 ((i : Int) + 1) = ((i + 1 : Nat) : Int) := by rw [w64 _ (by omega)]; omega
    show (bif decide ((i : Int) < ((l.length - 0 : Nat) : Int)) then (bif inB (i : Int) (l.length - 0) then (bif inB (i : Int) (l.length - 0) then (bif (nth l (0 : Int) i != nth l (0 : Int) i) then _ else sameInts_L0 F l l k (IntKind.wrap IntKind.i64 ((i : Int) + 1))) else none) else none) else _) = _
    rw [bne_self_eq_false, e1, dec_t (by omega), inB_t (show i < l.length - 0 by omega)]
    exact si_loop F l hq j k (i + 1) (by omega) (by omega)
theorem si_eq (F : Nat) (hF : 2000 < F) (l : List Int) (hq : l.length ≤ 2000) : sameInts_S F l l = some true := by
  unfold sameInts_S
  rw [bne_self_eq_false]
  change ob (sameInts_L0 F l l F ((0 : Nat) : Int)) _ = _
  rw [si_loop F l (by omega) l.length F 0 (by omega) (by omega)]
theorem sp_eq (F : Nat) (hF : 2000 < F) (p : Int × Int) (a b : List Int) (ha : a.length ≤ 2000) (hb : b.length ≤ 2000) : sameParts_S F p p a b a b = some true := by
  unfold sameParts_S
  rw [si_eq F hF a ha]
  change ob (sameInts_S F b b) _ = _
  rw [si_eq F hF b hb]
  change (bif (p.1 == p.1) then some (p.2 == p.2) else _) = _
  rw [beq_self_eq_true, beq_self_eq_true]; rfl
theorem ix_loop (F : Nat) (l : List Int) (r : RgT) (hq : l.length ≤ 5000) : ∀ (j k i : Nat), i + j = l.length → j < k →
    (∃ x : Int, 0 ≤ x ∧ indexF_L0 F l.length l r k i = some (.inl (x, (l, r))) ∧ (l.drop i).all (fun x => inOk x r.1 r.2) = false) ∨ (indexF_L0 F l.length l r k i = some (.inr (l, r)) ∧ (l.drop i).all (fun x => inOk x r.1 r.2) = true)
  | j, 0, i, _, hk => by omega
  | 0, k + 1, i, hi, _ => by
    refine .inr ⟨?_, ?_⟩
    · show (bif decide ((i : Int) < (l.length : Int)) then _ else _) = _
      rw [dec_f (by omega)]; rfl
    · rw [List.drop_eq_nil_of_le (by omega)]; rfl
  | j + 1, k + 1, i, hi, hk => by
    have e1 : IntKind.wrap IntKind.i64 ((i : Int) + 1) = ((i + 1 : Nat) : Int) := by rw [w64 _ (by omega)]; omega
    have key : indexF_L0 F l.length l r (k + 1) i = (bif (!inOk (nth l (0 : Int) i) r.1 r.2) then some (.inl ((i : Int), (l, r))) else indexF_L0 F l.length l r k ((i + 1 : Nat) : Int)) := by
      show (bif decide ((i : Int) < (l.length : Int)) then (bif inB (i : Int) (l.length - 0) then ob (within_S F (nth l (0 : Int) i) r.1 r.2) (fun r' => bif (!r') then some (.inl ((i : Int), (l, r))) else indexF_L0 F l.length l r k (IntKind.wrap IntKind.i64 ((i : Int) + 1))) else none) else _) = _
      rw [with_S, e1, dec_t (by omega), inB_t (show i < l.length - 0 by omega)]
      rfl
    rw [key, drop_nth l i (by omega), List.all_cons]
    cases h : inOk (nth l (0 : Int) i) r.1 r.2 with
    | false => exact .inl ⟨i, by omega, rfl, rfl⟩
    | true =>
      rw [Bool.true_and]
      exact ix_loop F l r hq j k (i + 1) (by omega) (by omega)
theorem contF_eq (F : Nat) (hF : 2000 < F) (l : List Int) (r : RgT) (hq : l.length ≤ 2000) : contF_S F l r = some (!l.all (fun x => inOk x r.1 r.2), r) := by
  unfold contF_S indexF_S
  change ob (ob (indexF_L0 F ((l.length - 0 : Nat) : Int) l r F ((0 : Nat) : Int)) _) _ = _
  rw [Nat.sub_zero]
  rcases ix_loop F l r (by omega) l.length F 0 (by omega) (by omega) with ⟨x, h1, h2, h3⟩ | ⟨h2, h3⟩
  · rw [h2]
    rw [List.drop_zero] at h3
    rw [h3]
    change some (decide (x ≥ 0), r) = _
    rw [dec_t (show x ≥ 0 from h1)]; rfl
  · rw [h2]
    rw [List.drop_zero] at h3
    rw [h3]; rfl
theorem co_loop0 (F : Nat) (G H : List Int) (c : SwT) (t : Int) (hq : G.length ≤ 5000) : ∀ (j k i : Nat) (ok : Bool), i + j = G.length → j < k →
    course_L0 F k ok i G H c t = some (ok && (G.drop i).all (fun x => inOk x c.1.2.1.1 c.1.2.1.2), (G, H, c, t))
  | j, 0, i, _, _, hk => by omega
  | 0, k + 1, i, ok, hi, _ => by
    rw [List.drop_eq_nil_of_le (by omega), List.all_nil, Bool.and_true]
    show (bif decide ((i : Int) < ((G.length - 0 : Nat) : Int)) then _ else _) = _
    rw [dec_f (by omega)]; rfl
  | j + 1, k + 1, i, ok, hi, hk => by
    have e1 : IntKind.wrap IntKind.i64 ((i : Int) + 1) = ((i + 1 : Nat) : Int) := by rw [w64 _ (by omega)]; omega
    have key : course_L0 F (k + 1) ok i G H c t = course_L0 F k (ok && inOk (nth G (0 : Int) i) c.1.2.1.1 c.1.2.1.2) ((i + 1 : Nat) : Int) G H c t := by
      show (bif decide ((i : Int) < ((G.length - 0 : Nat) : Int)) then ob (bif ok then (bif inB (i : Int) (G.length - 0) then (bif decide (c.1.2.1.1 ≤ nth G (0 : Int) i) then some ((decide (nth G (0 : Int) i ≤ c.1.2.1.2), (i : Int)), (G, H, c, t)) else some ((false, (i : Int)), (G, H, c, t))) else none) else some ((false, (i : Int)), (G, H, c, t))) (fun s2 => course_L0 F k s2.1.1 (IntKind.wrap IntKind.i64 (s2.1.2 + 1)) s2.2.1 s2.2.2.1 s2.2.2.2.1 s2.2.2.2.2) else _) = _
      rw [dec_t (by omega), inB_t (show i < G.length - 0 by omega)]
      unfold inOk
      cases ok with
      | false => show course_L0 F k false (IntKind.wrap IntKind.i64 ((i : Int) + 1)) G H c t = _; rw [e1]; rfl
      | true =>
        cases decide (c.1.2.1.1 ≤ nth G (0 : Int) i) with
        | false => show course_L0 F k false (IntKind.wrap IntKind.i64 ((i : Int) + 1)) G H c t = _; rw [e1]; rfl
        | true => show course_L0 F k (decide (nth G (0 : Int) i ≤ c.1.2.1.2)) (IntKind.wrap IntKind.i64 ((i : Int) + 1)) G H c t = _; rw [e1]; rfl
    rw [key, co_loop0 F G H c t hq j k (i + 1) _ (by omega) (by omega), drop_nth G i (by omega), List.all_cons, Bool.and_assoc]
theorem co_loop1 (F : Nat) (G H : List Int) (c : SwT) (t : Int) (hq : H.length ≤ 5000) : ∀ (j k i : Nat) (ok : Bool), i + j = H.length → j < k →
    course_L1 F k ok i G H c t = some (ok && (H.drop i).all (fun x => inOk x c.2.1.2.2.2.1 c.2.1.2.2.2.2), (G, H))
  | j, 0, i, _, _, hk => by omega
  | 0, k + 1, i, ok, hi, _ => by
    rw [List.drop_eq_nil_of_le (by omega), List.all_nil, Bool.and_true]
    show (bif decide ((i : Int) < ((H.length - 0 : Nat) : Int)) then _ else _) = _
    rw [dec_f (by omega)]; rfl
  | j + 1, k + 1, i, ok, hi, hk => by
    have e1 : IntKind.wrap IntKind.i64 ((i : Int) + 1) = ((i + 1 : Nat) : Int) := by rw [w64 _ (by omega)]; omega
    have key : course_L1 F (k + 1) ok i G H c t = course_L1 F k (ok && inOk (nth H (0 : Int) i) c.2.1.2.2.2.1 c.2.1.2.2.2.2) ((i + 1 : Nat) : Int) G H c t := by
      show (bif decide ((i : Int) < ((H.length - 0 : Nat) : Int)) then ob (bif ok then (bif inB (i : Int) (H.length - 0) then (bif decide (c.2.1.2.2.2.1 ≤ nth H (0 : Int) i) then some ((decide (nth H (0 : Int) i ≤ c.2.1.2.2.2.2), (i : Int)), (G, H, c, t)) else some ((false, (i : Int)), (G, H, c, t))) else none) else some ((false, (i : Int)), (G, H, c, t))) (fun s2 => course_L1 F k s2.1.1 (IntKind.wrap IntKind.i64 (s2.1.2 + 1)) s2.2.1 s2.2.2.1 s2.2.2.2.1 s2.2.2.2.2) else _) = _
      rw [dec_t (by omega), inB_t (show i < H.length - 0 by omega)]
      unfold inOk
      cases ok with
      | false => show course_L1 F k false (IntKind.wrap IntKind.i64 ((i : Int) + 1)) G H c t = _; rw [e1]; rfl
      | true =>
        cases decide (c.2.1.2.2.2.1 ≤ nth H (0 : Int) i) with
        | false => show course_L1 F k false (IntKind.wrap IntKind.i64 ((i : Int) + 1)) G H c t = _; rw [e1]; rfl
        | true => show course_L1 F k (decide (nth H (0 : Int) i ≤ c.2.1.2.2.2.2)) (IntKind.wrap IntKind.i64 ((i : Int) + 1)) G H c t = _; rw [e1]; rfl
    rw [key, co_loop1 F G H c t hq j k (i + 1) _ (by omega) (by omega), drop_nth H i (by omega), List.all_cons, Bool.and_assoc]
def csOk (w : WrT) (b : WbT) (t : Int) (G H : List Int) : Bool := (inOk t w.1.1 w.1.2 && G.all (fun x => inOk x w.2.1.1 w.2.1.2)) && H.all (fun x => inOk x b.2.2.2.1 b.2.2.2.2)
theorem course_eq (F : Nat) (hF : 2000 < F) (w : WrT) (b : WbT) (n t : Int) (G H : List Int) (hG : G.length ≤ 2000) (hH : H.length ≤ 2000) : course_S F (w, (b, n)) t G H = some (csOk w b t G H) := by
  unfold course_S
  have key : (bif (decide (t ≥ w.1.1)) then (some ((decide (t ≤ w.1.2)), (G, H, (w, (b, n)), t))) else (some (false, (G, H, (w, (b, n)), t)))) = some (inOk t w.1.1 w.1.2, (G, H, (w, (b, n)), t)) := by
    unfold inOk
    change (bif decide (w.1.1 ≤ t) then _ else _) = _
    cases decide (w.1.1 ≤ t) <;> rfl
  change ob (bif (decide (t ≥ w.1.1)) then (some ((decide (t ≤ w.1.2)), (G, H, (w, (b, n)), t))) else (some (false, (G, H, (w, (b, n)), t)))) _ = _
  rw [key]
  change ob (course_L0 F F (inOk t w.1.1 w.1.2) ((0 : Nat) : Int) G H (w, (b, n)) t) _ = _
  rw [co_loop0 F G H (w, (b, n)) t (by omega) G.length F 0 _ (by omega) (by omega)]
  change ob (course_L1 F F _ ((0 : Nat) : Int) G H (w, (b, n)) t) _ = _
  rw [co_loop1 F G H (w, (b, n)) t (by omega) H.length F 0 _ (by omega) (by omega), List.drop_zero, List.drop_zero]
  rfl
theorem cg_of {w : WrT} {b : WbT} {n : Int} (h : Vld w b n) {t : Int} {G H : List Int} (hc : csOk w b t G H = true) (lG : G.length = mU b n) (lH : H.length = mU b n) :
    Cg b n (dl t G) (sf H) (mU b n) ∧ (∀ i, i < mU b n → 0 ≤ nth G (0 : Int) i ∧ nth G (0 : Int) i ≤ 10000000) ∧ (0 ≤ t ∧ t ≤ 10000000) := by
  have ct := ct_thick h
  have h1 := h.d; have h2 := h.e; have h3 := h.y; have h4 := h.t
  unfold csOk at hc
  rw [Bool.and_eq_true, Bool.and_eq_true] at hc
  obtain ⟨⟨c1, c2⟩, c3⟩ := hc
  unfold inOk at c1
  simp only [Bool.and_eq_true, decide_eq_true_eq] at c1
  have hG : ∀ i, i < mU b n → 0 ≤ nth G (0 : Int) i ∧ nth G (0 : Int) i ≤ 10000000 := fun i hi => by
    have := all_nth c2 (show i < G.length by omega)
    omega
  have hH : ∀ i, i < mU b n → b.2.2.2.1 ≤ nth H (0 : Int) i ∧ nth H (0 : Int) i ≤ b.2.2.2.2 := fun i hi => all_nth c3 (show i < H.length by omega)
  have hD := dl_range (m := mU b n) (G := G) (show 0 ≤ t ∧ t ≤ 10000000 by omega) hG
  refine ⟨⟨fun i hi => ?_, fun i hi => ?_, ct.hp, fun i hi => ?_, ct.hst, ct.hn, ct.hm, ct.hpl, ct.hz⟩, hG, by omega⟩
  · have := hD i hi; omega
  · have := hH i hi
    show 0 ≤ nth H (0 : Int) i ∧ nth H (0 : Int) i ≤ 10000000
    omega
  · have := hD i (by omega)
    have := hH i hi
    show dl t G i + nth H (0 : Int) i < b.1
    omega
theorem follow_bad (F : Nat) (w : WrT) (b : WbT) (n t : Int) (G H : List Int) (h : (ckI w b n == 0) = false) : follow_S F w b n t G H = some (((0, 0), (0, ckI w b n)), ([], [])) := by
  unfold follow_S
  rw [check_eq]
  show (bif (ckI w b n != 0) then _ else _) = _
  rw [show (ckI w b n != 0) = true by unfold bne; rw [h]; rfl]
  rfl
theorem follow_two (F : Nat) {w : WrT} {b : WbT} {n : Int} (h0 : ckI w b n = 0) (t : Int) (G H : List Int) (h : ¬ (G.length = mU b n ∧ H.length = mU b n)) : follow_S F w b n t G H = some (((0, 0), (0, 2)), ([], [])) := by
  unfold follow_S
  rw [check_eq, h0]
  change ob (ob (used_S F (w, (b, n))) _) _ = _
  rw [us_nat F (vld_of h0)]
  change ob (bif ((G.length : Int) - 0 != (mU b n : Int)) then some (true, _) else ob (some (mU b n : Int)) _) _ = _
  by_cases hG : G.length = mU b n
  · have hH : ¬ H.length = mU b n := fun hh => h ⟨hG, hh⟩
    rw [show ((G.length : Int) - 0 != (mU b n : Int)) = false by rw [hG, Int.sub_zero, bne_self_eq_false]]
    change ob (some (((H.length : Int) - 0 != (mU b n : Int)), _)) _ = _
    rw [show ((H.length : Int) - 0 != (mU b n : Int)) = true from bne_iff_ne.2 (by omega)]
    rfl
  · rw [show ((G.length : Int) - 0 != (mU b n : Int)) = true from bne_iff_ne.2 (by omega)]
    rfl
theorem follow_len (F : Nat) {w : WrT} {b : WbT} {n : Int} (h0 : ckI w b n = 0) (t : Int) (G H : List Int) (hG : G.length = mU b n) (hH : H.length = mU b n) : follow_S F w b n t G H =
    ob (ob (within_S F t w.1.1 w.1.2) (fun r3 => (bif (!r3) then (some (true, (G, H, t, ((0 : Int), (0 : Int)), (w, (b, n))))) else (ob (contF_S F G w.2.1) (fun r4 => (bif r4.1 then (some (true, (G, H, t, ((0 : Int), (0 : Int)), (w, (b, n))))) else (ob (contF_S F H b.2.2.2) (fun r5 => (some (r5.1, (G, H, t, ((0 : Int), (0 : Int)), (w, (b, n))))))))))))) (fun s2 => (bif s2.1 then (some ((((0 : Int), (0 : Int)), (0 : Int), (30 : Int)), ([], []))) else (ob (cutB_S F s2.2.2.2.2.2 s2.2.2.2.1 s2.2.2.2.1 s2.2.1 s2.2.2.1) (fun r6 => (some (((r6.1.1.1, r6.1.1.2), r6.1.2.2, (0 : Int)), (r6.2.2.1, r6.2.2.2))))))) := by
  unfold follow_S
  rw [check_eq, h0]
  change ob (ob (used_S F (w, (b, n))) _) _ = _
  rw [us_nat F (vld_of h0)]
  change ob (bif ((G.length : Int) - 0 != (mU b n : Int)) then some (true, _) else ob (some (mU b n : Int)) _) _ = _
  rw [show ((G.length : Int) - 0 != (mU b n : Int)) = false by rw [hG, Int.sub_zero, bne_self_eq_false]]
  change ob (some (((H.length : Int) - 0 != (mU b n : Int)), _)) _ = _
  rw [show ((H.length : Int) - 0 != (mU b n : Int)) = false by rw [hH, Int.sub_zero, bne_self_eq_false]]
  rfl
theorem follow_out (F : Nat) (hF : 2000 < F) {w : WrT} {b : WbT} {n : Int} (h0 : ckI w b n = 0) (t : Int) (G H : List Int) (hG : G.length = mU b n) (hH : H.length = mU b n) (hc : csOk w b t G H = false) : follow_S F w b n t G H = some (((0, 0), (0, 30)), ([], [])) := by
  have hm := (ct_thick (vld_of h0)).hm
  rw [follow_len F h0 t G H hG hH, with_S, contF_eq F hF G w.2.1 (by omega), contF_eq F hF H b.2.2.2 (by omega)]
  unfold csOk at hc
  cases c1 : inOk t w.1.1 w.1.2 with
  | false => rfl
  | true =>
    cases c2 : G.all (fun x => inOk x w.2.1.1 w.2.1.2) with
    | false => rfl
    | true =>
      rw [c1, c2] at hc
      have c3 : H.all (fun x => inOk x b.2.2.2.1 b.2.2.2.2) = false := hc
      rw [c3]; rfl
theorem follow_fine (F : Nat) (hF : 2000 < F) {w : WrT} {b : WbT} {n : Int} (h0 : ckI w b n = 0) (t : Int) (G H : List Int) (hG : G.length = mU b n) (hH : H.length = mU b n) (hc : csOk w b t G H = true) : follow_S F w b n t G H =
    some (((mn n b.2.2.1, rsG b n (dl t G) (sf H) (mU b n) (mU b n)), (dl t G (mU b n), 0)), (sgs b (dl t G) (sf H) (mU b n) (mU b n), kgs b n (dl t G) (sf H) (mU b n) (mU b n))) := by
  have hv := vld_of h0
  have hm := (ct_thick hv).hm
  obtain ⟨g1, g2, g3⟩ := cg_of hv hc hG hH
  obtain ⟨x', hx⟩ := cutB_eq F g1 g2 hG hH hF w (us_nat F hv)
  rw [follow_len F h0 t G H hG hH, with_S, contF_eq F hF G w.2.1 (by omega), contF_eq F hF H b.2.2.2 (by omega)]
  unfold csOk at hc
  rw [Bool.and_eq_true, Bool.and_eq_true] at hc
  rw [hc.1.1, hc.1.2, hc.2]
  change ob (cutB_S F (w, (b, n)) t t G H) _ = _
  rw [hx]
end Go.Proofs.YtdfgmfddkcmalaaDoor
