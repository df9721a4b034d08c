/- Plain laws of chapter 8, on: how a block is cut. No condition. -/
import Derived.Test.YtdfgmfddkcmalaaDoorWLR8c
import Derived.Test.YtdfgmfddkcmalaaDoorWX8p
namespace Go.Proofs.YtdfgmfddkcmalaaDoor
open Go.RowKit
set_option maxRecDepth 100000
def mn (a b : Int) : Int := if a < b then a else b
/-- A course with the same wear and the same slurry everywhere. -/
structure Ct (b : WbT) (n d wear sl : Int) (m : Nat) : Prop where
  hd : 0 ≤ d ∧ d ≤ 10000000
  hw : 0 ≤ wear ∧ wear ≤ 10000000
  hs : 0 ≤ sl ∧ sl ≤ 10000000
  hp : 1 ≤ b.1 ∧ b.1 ≤ 10000000
  ht : d + sl < b.1
  hst : 0 ≤ b.2.2.1 ∧ b.2.2.1 ≤ 600000000
  hn : 1 ≤ n ∧ n ≤ 600000000
  hm : m ≤ 2000
  hpl : ∀ i : Nat, i < m → plc b i < n
  hz : m = 0 → n ≤ b.2.2.1
def kf (b : WbT) (n d wear sl : Int) (m i : Nat) : Int := if i + 1 = m then mn (n - plc b i) (dAt d wear i + sl) else dAt d wear i + sl
def slf (b : WbT) (d wear sl : Int) (i : Nat) : Int := b.1 - (dAt d wear i + sl)
def kfs (b : WbT) (n d wear sl : Int) (m i : Nat) : List Int := (List.range i).map (kf b n d wear sl m)
def sls (b : WbT) (d wear sl : Int) (m i : Nat) : List Int := (List.range (if i < m then i else m - 1)).map (slf b d wear sl)
theorem dAt_0 {d wear : Int} (hd : 0 ≤ d) : dAt d wear 0 = d := by
  unfold dAt mx0
  simp only [Int.natCast_zero, Int.zero_mul, Int.sub_zero]
  split <;> omega
theorem plc_succ (b : WbT) (i : Nat) : plc b (i + 1) = plc b i + b.1 := by
  unfold plc
  have e : ((i + 1 : Nat) : Int) * b.1 = (i : Int) * b.1 + b.1 := by rw [Int.natCast_add, Int.add_mul]; omega
  rw [e]; omega
theorem Ct.plr {b : WbT} {n d wear sl : Int} {m : Nat} (h : Ct b n d wear sl m) {i : Nat} (hi : i ≤ 2000) : 0 ≤ (i : Int) * b.1 ∧ (i : Int) * b.1 ≤ 20000000000 ∧ plc b i = b.2.2.1 + (i : Int) * b.1 := by
  have h1 := h.hp
  exact ⟨Int.mul_nonneg (by omega) (by omega), Int.le_trans (Int.mul_le_mul (by omega : (i : Int) ≤ 2000) h1.2 (by omega) (by omega)) (by omega), rfl⟩
theorem Ct.kfr {b : WbT} {n d wear sl : Int} {m : Nat} (h : Ct b n d wear sl m) {i : Nat} (hi : i < m) : 0 ≤ kf b n d wear sl m i ∧ kf b n d wear sl m i ≤ dAt d wear i + sl ∧ kf b n d wear sl m i ≤ n - plc b i := by
  have h1 := h.hd; have h2 := h.hs; have h3 := h.hpl i hi; have h4 := dAt_range h.hd.1 h.hw.1 i; have h5 := h.ht
  unfold kf mn
  split
  · split <;> omega
  · have h6 := h.hpl (i + 1) (by omega)
    rw [plc_succ] at h6
    omega
theorem sls_step (b : WbT) (d wear sl : Int) {m i : Nat} (h : i + 1 < m) : sls b d wear sl m (i + 1) = sls b d wear sl m i ++ [slf b d wear sl i] := by
  unfold sls
  rw [if_pos h, if_pos (by omega), map_range_succ]
theorem sls_last (b : WbT) (d wear sl : Int) {m i : Nat} (h : i + 1 = m) : sls b d wear sl m (i + 1) = sls b d wear sl m i := by
  unfold sls
  rw [if_neg (by omega), if_pos (by omega), show m - 1 = i by omega]
theorem sls_len (b : WbT) (d wear sl : Int) (m i : Nat) (h : i ≤ m) : (sls b d wear sl m i).length ≤ i := by
  unfold sls
  rw [len_map]
  split <;> omega
theorem kfs_step (b : WbT) (n d wear sl : Int) (m i : Nat) : kfs b n d wear sl m (i + 1) = kfs b n d wear sl m i ++ [kf b n d wear sl m i] := map_range_succ _ _
theorem kfs_len (b : WbT) (n d wear sl : Int) (m i : Nat) : (kfs b n d wear sl m i).length = i := len_map _ _
abbrev SwT := WrT × (WbT × Int)
abbrev CuT := (Int × Int) × (SwT × ((Int × Int) × (Int × (Int × (Int × (Int × (SwT × (Int × (List Int × List Int)))))))))
def ctS (F k : Nat) (u t i wear sl : Int) (s1 : SwT) (tb : Int × Int) (used rest : Int) (s2 : SwT) (d : Int) (ss ks : List Int) (c : Int) : Option (Int × CuT) :=
  bif decide (c < 0) then none else (bif lenOk (ks.length - 0) (c :: []).length then
    (bif decide ((((ks ++ (c :: [])).length - 0 : Nat) : Int) < used) then
      (bif lenOk (ss.length - 0) ((IntKind.wrap IntKind.i64 (s1.2.1.1 - c)) :: []).length then cutA_L F k ((u, t, (IntKind.wrap IntKind.i64 (i + 1))), ((wear, sl), s1, tb, d, d, used, (IntKind.wrap IntKind.i64 ((IntKind.wrap IntKind.i64 (rest - c)) - (IntKind.wrap IntKind.i64 (s1.2.1.1 - c)))), s2, mx0 (IntKind.wrap IntKind.i64 (d - wear)), (ss ++ ((IntKind.wrap IntKind.i64 (s1.2.1.1 - c)) :: [])), (ks ++ (c :: [])))) else none)
    else cutA_L F k ((u, t, (IntKind.wrap IntKind.i64 (i + 1))), ((wear, sl), s1, tb, d, d, used, (IntKind.wrap IntKind.i64 (rest - c)), s2, mx0 (IntKind.wrap IntKind.i64 (d - wear)), ss, (ks ++ (c :: [])))))
  else none)
theorem cutA_def (F k : Nat) (u t i wear sl : Int) (s1 : SwT) (tb : Int × Int) (last fifth used rest : Int) (s2 : SwT) (d : Int) (ss ks : List Int) :
    cutA_L F (k + 1) ((u, t, i), ((wear, sl), s1, tb, last, fifth, used, rest, s2, d, ss, ks)) =
    (bif decide (i < t) then (bif (i == IntKind.wrap IntKind.i64 (u - 1)) then
      ctS F k u t i wear sl s1 tb used rest s2 d ss ks (mn (IntKind.wrap IntKind.i64 ((IntKind.wrap IntKind.i64 (s2.2.2 - s2.2.1.2.2.1)) - (IntKind.wrap IntKind.i64 (i * s2.2.1.1)))) (IntKind.wrap IntKind.i64 (d + sl)))
      else ctS F k u t i wear sl s1 tb used rest s2 d ss ks (mn s2.2.1.1 (IntKind.wrap IntKind.i64 (d + sl))))
    else some (u, ((wear, sl), s1, tb, last, fifth, used, rest, s2, d, ss, ks))) := rfl
theorem ctS_mid (F k : Nat) {b : WbT} {n d wear sl : Int} {m : Nat} (h : Ct b n d wear sl m) {i : Nat} (hi : i + 1 < m) (w : WrT) (tb : Int × Int) (rest : Int) (hr : 0 ≤ rest ∧ rest ≤ 600000000) :
    ctS F k m m i wear sl (w, (b, n)) tb m rest (w, (b, n)) (dAt d wear i) (sls b d wear sl m i) (kfs b n d wear sl m i) (kf b n d wear sl m i) =
    cutA_L F k ((m, m, ((i + 1 : Nat) : Int)), ((wear, sl), (w, (b, n)), tb, dAt d wear i, dAt d wear i, m, rest - b.1, (w, (b, n)), dAt d wear (i + 1), sls b d wear sl m (i + 1), kfs b n d wear sl m (i + 1))) := by
  have r1 := h.kfr (show i < m by omega)
  have r2 := dAt_range h.hd.1 h.hw.1 i
  have r3 := h.hd; have r4 := h.hw; have r5 := h.hs; have r6 := h.hp; have r7 := h.hm
  have ek : kf b n d wear sl m i = dAt d wear i + sl := by unfold kf; rw [if_neg (by omega)]
  have e1 : IntKind.wrap IntKind.i64 ((i : Int) + 1) = ((i + 1 : Nat) : Int) := by rw [w64 _ (by omega)]; omega
  have e2 : IntKind.wrap IntKind.i64 (b.1 - kf b n d wear sl m i) = b.1 - kf b n d wear sl m i := w64 _ (by omega)
  have e3 : IntKind.wrap IntKind.i64 ((IntKind.wrap IntKind.i64 (rest - kf b n d wear sl m i)) - (b.1 - kf b n d wear sl m i)) = rest - b.1 := by rw [w64 (rest - _) (by omega), w64 _ (by omega)]; omega
  have e4 : mx0 (IntKind.wrap IntKind.i64 (dAt d wear i - wear)) = dAt d wear (i + 1) := by rw [w64 _ (by omega), dAt_succ h.hd.1 h.hw.1]
  have l1 := sls_len b d wear sl m i (by omega)
  unfold ctS
  show (bif decide (kf b n d wear sl m i < 0) then none else (bif lenOk ((kfs b n d wear sl m i).length - 0) ((kf b n d wear sl m i) :: []).length then
    (bif decide ((((kfs b n d wear sl m i ++ ((kf b n d wear sl m i) :: [])).length - 0 : Nat) : Int) < (m : Int)) then
      (bif lenOk ((sls b d wear sl m i).length - 0) ((IntKind.wrap IntKind.i64 (b.1 - kf b n d wear sl m i)) :: []).length then cutA_L F k ((m, m, (IntKind.wrap IntKind.i64 ((i : Int) + 1))), ((wear, sl), (w, (b, n)), tb, dAt d wear i, dAt d wear i, m, (IntKind.wrap IntKind.i64 ((IntKind.wrap IntKind.i64 (rest - kf b n d wear sl m i)) - (IntKind.wrap IntKind.i64 (b.1 - kf b n d wear sl m i)))), (w, (b, n)), mx0 (IntKind.wrap IntKind.i64 (dAt d wear i - wear)), (sls b d wear sl m i ++ ((IntKind.wrap IntKind.i64 (b.1 - kf b n d wear sl m i)) :: [])), (kfs b n d wear sl m i ++ ((kf b n d wear sl m i) :: [])))) else none)
    else _) else none)) = _
  rw [e2, e3, e4, e1, ← kfs_step, kfs_len, kfs_len, dec_f (show ¬ kf b n d wear sl m i < 0 by omega), lenOk_t (show i - 0 + [kf b n d wear sl m i].length ≤ 1000000 by simp; omega), lenOk_t (show (sls b d wear sl m i).length - 0 + [b.1 - kf b n d wear sl m i].length ≤ 1000000 by simp; omega), dec_t (show ((i + 1 - 0 : Nat) : Int) < (m : Int) by omega), sls_step b d wear sl hi]
  simp only [cond_true, cond_false]
  rw [show b.1 - kf b n d wear sl m i = slf b d wear sl i by rw [ek]; rfl]
theorem ctS_end (F k : Nat) {b : WbT} {n d wear sl : Int} {m : Nat} (h : Ct b n d wear sl m) {i : Nat} (hi : i + 1 = m) (w : WrT) (tb : Int × Int) (rest : Int) (hr : 0 ≤ rest ∧ rest ≤ 600000000) :
    ctS F k m m i wear sl (w, (b, n)) tb m rest (w, (b, n)) (dAt d wear i) (sls b d wear sl m i) (kfs b n d wear sl m i) (kf b n d wear sl m i) =
    cutA_L F k ((m, m, ((i + 1 : Nat) : Int)), ((wear, sl), (w, (b, n)), tb, dAt d wear i, dAt d wear i, m, rest - kf b n d wear sl m i, (w, (b, n)), dAt d wear (i + 1), sls b d wear sl m (i + 1), kfs b n d wear sl m (i + 1))) := by
  have r1 := h.kfr (show i < m by omega)
  have r2 := dAt_range h.hd.1 h.hw.1 i
  have r3 := h.hd; have r4 := h.hw; have r5 := h.hs; have r6 := h.hp; have r7 := h.hm
  have e1 : IntKind.wrap IntKind.i64 ((i : Int) + 1) = ((i + 1 : Nat) : Int) := by rw [w64 _ (by omega)]; omega
  have e3 : IntKind.wrap IntKind.i64 (rest - kf b n d wear sl m i) = rest - kf b n d wear sl m i := w64 _ (by omega)
  have e4 : mx0 (IntKind.wrap IntKind.i64 (dAt d wear i - wear)) = dAt d wear (i + 1) := by rw [w64 _ (by omega), dAt_succ h.hd.1 h.hw.1]
  unfold ctS
  show (bif decide (kf b n d wear sl m i < 0) then none else (bif lenOk ((kfs b n d wear sl m i).length - 0) ((kf b n d wear sl m i) :: []).length then
    (bif decide ((((kfs b n d wear sl m i ++ ((kf b n d wear sl m i) :: [])).length - 0 : Nat) : Int) < (m : Int)) then _
    else cutA_L F k ((m, m, (IntKind.wrap IntKind.i64 ((i : Int) + 1))), ((wear, sl), (w, (b, n)), tb, dAt d wear i, dAt d wear i, m, (IntKind.wrap IntKind.i64 (rest - kf b n d wear sl m i)), (w, (b, n)), mx0 (IntKind.wrap IntKind.i64 (dAt d wear i - wear)), sls b d wear sl m i, (kfs b n d wear sl m i ++ ((kf b n d wear sl m i) :: []))))) else none)) = _
  rw [e3, e4, e1, ← kfs_step, kfs_len, kfs_len, dec_f (show ¬ kf b n d wear sl m i < 0 by omega), lenOk_t (show i - 0 + [kf b n d wear sl m i].length ≤ 1000000 by simp; omega), dec_f (show ¬ ((i + 1 - 0 : Nat) : Int) < (m : Int) by omega), sls_last b d wear sl hi]
  simp only [cond_true, cond_false]
/-- What is left behind so many cuts. -/
def rsA (b : WbT) (n d wear sl : Int) (m i : Nat) : Int := if i = m then (if m = 0 then 0 else n - plc b (m - 1) - kf b n d wear sl m (m - 1)) else n - plc b i
theorem cutA_loop (F : Nat) {b : WbT} {n d wear sl : Int} {m : Nat} (h : Ct b n d wear sl m) (w : WrT) (tb : Int × Int) : ∀ (j k i : Nat) (x y : Int), i + j = m → j < k →
    ∃ y' : Int, cutA_L F k ((m, m, (i : Int)), ((wear, sl), (w, (b, n)), tb, x, y, m, rsA b n d wear sl m i, (w, (b, n)), dAt d wear i, sls b d wear sl m i, kfs b n d wear sl m i)) =
      some ((m : Int), ((wear, sl), (w, (b, n)), tb, (if j = 0 then x else dAt d wear (m - 1)), y', (m : Int), rsA b n d wear sl m m, (w, (b, n)), dAt d wear m, sls b d wear sl m m, kfs b n d wear sl m m))
  | j, 0, i, _, _, _, hk => by omega
  | 0, k + 1, i, x, y, hi, _ => by
    have e : i = m := by omega
    subst e
    exact ⟨y, by rw [cutA_def, dec_f (by omega), if_pos rfl]; rfl⟩
  | j + 1, k + 1, i, x, y, hi, hk => by
    have r1 := h.kfr (show i < m by omega)
    have r2 := dAt_range h.hd.1 h.hw.1 i
    have r3 := h.hd; have r4 := h.hw; have r5 := h.hs; have r6 := h.hp; have r7 := h.hm; have r8 := h.hn; have r9 := h.hst; have rt := h.ht
    obtain ⟨p1, p2, p3⟩ := h.plr (i := i) (by omega)
    have p4 := h.hpl i (by omega)
    have e0 : rsA b n d wear sl m i = n - plc b i := by unfold rsA; rw [if_neg (by omega)]
    have e1 : IntKind.wrap IntKind.i64 ((IntKind.wrap IntKind.i64 (n - b.2.2.1)) - (IntKind.wrap IntKind.i64 ((i : Int) * b.1))) = n - plc b i := by
      rw [w64 (n - _) (by omega), w64 ((i : Int) * _) (by omega), w64 _ (by omega)]; omega
    have e2 : IntKind.wrap IntKind.i64 (dAt d wear i + sl) = dAt d wear i + sl := w64 _ (by omega)
    have e3 : IntKind.wrap IntKind.i64 ((m : Int) - 1) = (m : Int) - 1 := w64 _ (by omega)
    rw [cutA_def]
    show ∃ y', (bif decide ((i : Int) < (m : Int)) then (bif ((i : Int) == IntKind.wrap IntKind.i64 ((m : Int) - 1)) then
      ctS F k m m i wear sl (w, (b, n)) tb m (rsA b n d wear sl m i) (w, (b, n)) (dAt d wear i) (sls b d wear sl m i) (kfs b n d wear sl m i) (mn (IntKind.wrap IntKind.i64 ((IntKind.wrap IntKind.i64 (n - b.2.2.1)) - (IntKind.wrap IntKind.i64 ((i : Int) * b.1)))) (IntKind.wrap IntKind.i64 (dAt d wear i + sl)))
      else ctS F k m m i wear sl (w, (b, n)) tb m (rsA b n d wear sl m i) (w, (b, n)) (dAt d wear i) (sls b d wear sl m i) (kfs b n d wear sl m i) (mn b.1 (IntKind.wrap IntKind.i64 (dAt d wear i + sl)))) else _) = _
    rw [e1, e2, e3, e0, dec_t (by omega)]
    by_cases hl : i + 1 = m
    · have c1 : mn (n - plc b i) (dAt d wear i + sl) = kf b n d wear sl m i := by unfold kf; rw [if_pos hl]
      rw [c1, show ((i : Int) == (m : Int) - 1) = true from beq_iff_eq.2 (by omega)]
      simp only [cond_true]
      have hs := ctS_end F k h hl w tb (n - plc b i) (by omega)
      have e5 : n - plc b i - kf b n d wear sl m i = rsA b n d wear sl m (i + 1) := by
        unfold rsA
        rw [if_pos hl, if_neg (by omega), show m - 1 = i by omega]
      rw [e5] at hs
      obtain ⟨y', hy⟩ := cutA_loop F h w tb j k (i + 1) (dAt d wear i) (dAt d wear i) (by omega) (by omega)
      refine ⟨y', ?_⟩
      rw [hs, hy]
      congr 4
      rw [if_pos (by omega), if_neg (by omega), show m - 1 = i by omega]
    · have c1 : mn b.1 (dAt d wear i + sl) = kf b n d wear sl m i := by unfold kf mn; rw [if_neg (by omega), if_neg hl]
      rw [c1, show ((i : Int) == (m : Int) - 1) = false from beq_eq_false_iff_ne.2 (by omega)]
      simp only [cond_true, cond_false]
      have hs := ctS_mid F k h (show i + 1 < m by omega) w tb (n - plc b i) (by omega)
      have e5 : n - plc b i - b.1 = rsA b n d wear sl m (i + 1) := by
        unfold rsA
        rw [if_neg (by omega), plc_succ]; omega
      rw [e5] at hs
      obtain ⟨y', hy⟩ := cutA_loop F h w tb j k (i + 1) (dAt d wear i) (dAt d wear i) (by omega) (by omega)
      refine ⟨y', ?_⟩
      rw [hs, hy, if_neg (show ¬ j = 0 by omega), if_neg (show ¬ j + 1 = 0 by omega)]
end Go.Proofs.YtdfgmfddkcmalaaDoor
