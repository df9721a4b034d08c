/- Plain laws of a cropping: the best one, its total, its account. No condition. -/
import Derived.Test.YtdcekiigkplmgaaWLK4
namespace Go.Proofs.Ytdcekiigkplmgaa
open Go.RowKit
set_option maxRecDepth 100000
abbrev b0 : BkT := ((0 : Int), (0 : Int))
structure chain (s : SwC) (W : List Int) (bl : List BkT) : Prop where
  ok : ∀ k, k < bl.length → okB s W (nth bl b0 k)
  lk : ∀ k, k + 1 < bl.length → bh s W (nth bl b0 k) ≤ (nth bl b0 (k + 1)).1
theorem nth_appL {α : Type} (l : List α) (d x : α) {k : Nat} (h : k < l.length) : nth (l ++ (x :: [])) d k = nth l d k := by
  unfold nth
  rw [List.getD_eq_getElem?_getD, List.getD_eq_getElem?_getD, List.getElem?_append_left h]
theorem nth_appR {α : Type} (l : List α) (d x : α) : nth (l ++ (x :: [])) d l.length = x := by
  unfold nth
  rw [List.getD_eq_getElem?_getD, List.getElem?_append_right (Nat.le_refl _)]; simp
theorem chain.app {s : SwC} {W : List Int} {bl : List BkT} (h : chain s W bl) {x : BkT} (hx : okB s W x) (hl : ∀ k, k + 1 = bl.length → bh s W (nth bl b0 k) ≤ x.1) : chain s W (bl ++ (x :: [])) := by
  refine ⟨fun k hk => ?_, fun k hk => ?_⟩
  · rw [List.length_append] at hk
    simp only [List.length_cons, List.length_nil] at hk
    by_cases h1 : k < bl.length
    · rw [nth_appL _ _ _ h1]; exact h.ok k h1
    · rw [show k = bl.length by omega, nth_appR]; exact hx
  · rw [List.length_append] at hk
    simp only [List.length_cons, List.length_nil] at hk
    rw [nth_appL _ _ _ (show k < bl.length by omega)]
    by_cases h1 : k + 1 < bl.length
    · rw [nth_appL _ _ _ h1]; exact h.lk k h1
    · rw [show k + 1 = bl.length by omega, nth_appR]; exact hl k (by omega)
theorem best_L (F : Nat) {s : SwC} (hs : SwOk s) {W : List Int} (hW : W.length ≤ 200) {R : List RsT} (hR : R.length = W.length + 1) (hG : ∀ i : Nat, i ≤ W.length → good s W R i (nth R r0 i)) (g0 : List BkT) :
    ∀ (m k : Nat) (p : Int) (r : RsT) (bl : List BkT), r.2.1 = m → m < k → good s W R p r → chain s W bl → (∀ q, q + 1 = bl.length → bh s W (nth bl b0 q) ≤ p) → bl.length + m ≤ 1000 →
    ∃ bl', best_L0 F g0 s R W k bl r = some (g0, bl', R) ∧ chain s W bl' ∧ bl'.length ≤ 1000
  | m, 0, p, r, bl, _, hk, _, _, _, _ => by omega
  | 0, k + 1, p, r, bl, hm, _, _, hc, _, hl => by
    refine ⟨bl, ?_, hc, by omega⟩
    show (bif decide (r.2.1 > 0) then _ else _) = _
    rw [hm, dec_f (by omega)]; rfl
  | m + 1, k + 1, p, r, bl, hm, hk, hg, hc, hp, hl => by
    obtain ⟨h1, h2, h3⟩ : okB s W r.2.2 ∧ p ≤ r.2.2.1 ∧ r.2.1 = 1 + mny R (bh s W r.2.2) := by
      rcases hg.or with h | h
      · omega
      · exact h
    obtain ⟨q1, q2⟩ := bh_range hs h1.a
    have h1a := h1.a
    have e1 : bh s W r.2.2 = ((bh s W r.2.2).toNat : Int) := by omega
    have g2 := hG (bh s W r.2.2).toNat (by omega)
    obtain ⟨bl', c1, c2⟩ := best_L F hs hW hR hG g0 m k (bh s W r.2.2) (nth R r0 (bh s W r.2.2).toNat) (bl ++ (r.2.2 :: [])) (by unfold mny at h3; omega) (by omega) (by rw [← e1] at g2; exact g2) (hc.app h1 (fun q hq => by have := hp q hq; omega))
      (fun q hq => by rw [List.length_append] at hq; simp only [List.length_cons, List.length_nil] at hq; rw [show q = bl.length by omega, nth_appR]; exact Int.le_refl _) (by rw [List.length_append]; simp only [List.length_cons, List.length_nil]; omega)
    refine ⟨bl', ?_, c2⟩
    show (bif decide (r.2.1 > 0) then (bif lenOk (bl.length - 0) (r.2.2 :: []).length then ob (behindh_S F s r.2.2 W) (fun r4 => bif inB r4 (R.length - 0) then best_L0 F g0 s R W k (bl ++ (r.2.2 :: [])) (nth R r0 r4.toNat) else none) else none) else _) = _
    rw [dec_t (by omega), lenOk_t (show bl.length - 0 + (r.2.2 :: []).length ≤ 1000000 by simp only [List.length_cons, List.length_nil]; omega), bh_eq F hs (by omega), obS]
    have ib : inB (bh s W r.2.2) (R.length - 0) = true := by rw [e1]; exact inB_t (by omega)
    simp only [cond_true]
    rw [ib]
    exact c1
theorem best_eq (F : Nat) (hF : 2000 < F) (s : SwC) (l : List BkT) (W : List Int) (hc : check7_S F s l = some 0) (hs : SwOk s) (hn : newB_S F s l = some (s, W)) (hW : W.length ≤ 200) : ∃ bl t, best_S F s l = some ((t, 0), bl) ∧ chain s W bl ∧ bl.length ≤ 1000 := by
  obtain ⟨R, r1, r2, r3⟩ := rests_eq F hF hs hW
  have g0 := r3 0 (by omega)
  have g1 := g0.lo; have g2 := g0.hi
  obtain ⟨bl, b1, b2, b3⟩ := best_L F hs hW r2 r3 l (nth R r0 0).2.1.toNat F 0 (nth R r0 0) [] (by omega) (by omega) g0 ⟨fun k hk => by simp at hk, fun k hk => by simp at hk⟩ (fun q hq => by simp at hq) (by simp; omega)
  refine ⟨bl, (nth R r0 0).1, ?_, b2, b3⟩
  unfold best_S
  rw [hc]
  change ob (newB_S F s l) _ = _
  rw [hn]
  change ob (rests_S F s W) _ = _
  rw [r1]
  change (bif inB ((0 : Nat) : Int) (R.length - 0) then ob (best_L0 F l s R W F [] (nth R r0 0)) _ else none) = _
  rw [inB_t (show 0 < R.length - 0 by omega), b1]
  change (bif inB ((0 : Nat) : Int) (R.length - 0) then _ else none) = _
  rw [inB_t (show 0 < R.length - 0 by omega)]
  rfl
/-! The total -/
theorem minL_L (F : Nat) (W : List Int) (o n : Nat) (hn : n ≤ 1000) (h : ∀ j, o ≤ j → j < o + n → 0 ≤ nth W (0 : Int) j) : ∀ (j k i : Nat) (m : Int), i + j = n → j < k → 0 ≤ m → ∃ m', minL_L0 F (o, n) W k m i = some (m', W) ∧ 0 ≤ m'
  | j, 0, i, _, _, hk, _ => by omega
  | 0, k + 1, i, m, hi, _, hm => by
    refine ⟨m, ?_, hm⟩
    show (bif decide ((i : Int) < (n : Int)) then _ else _) = _
    rw [dec_f (by omega)]; rfl
  | j + 1, k + 1, i, m, hi, hk, hm => by
    have e1 : IntKind.wrap IntKind.i64 ((i : Int) + 1) = ((i + 1 : Nat) : Int) := by rw [w64 _ (by omega)]; omega
    have h1 := h (o + i) (by omega) (by omega)
    have key : ∃ x : Int, 0 ≤ x ∧ minL_L0 F (o, n) W (k + 1) m i = minL_L0 F (o, n) W k x ((i + 1 : Nat) : Int) := by
      refine ⟨if (nth W (0 : Int) (addN o i)) < m then (nth W (0 : Int) (addN o i)) else m, ?_, ?_⟩
      · rw [addN_eq]; split <;> omega
      · show (bif decide ((i : Int) < (n : Int)) then (bif inB (i : Int) n then minL_L0 F (o, n) W k _ (IntKind.wrap IntKind.i64 ((i : Int) + 1)) else none) else _) = _
        rw [dec_t (by omega), inB_t (show i < n by omega), e1]
        rfl
    obtain ⟨x, x1, x2⟩ := key
    rw [x2]
    exact minL_L F W o n hn h j k (i + 1) x (by omega) (by omega) x1
theorem value_eq (F : Nat) (hF : 2000 < F) {s : SwC} (hs : SwOk s) {W : List Int} (hW : W.length ≤ 200) {x : BkT} (hx : okB s W x) : ∃ v, value_S F s x W = some (v, true) := by
  have ha := hx.a; have hb := hx.b
  obtain ⟨x1, x2⟩ := x
  simp only at ha hb
  obtain ⟨a, rfl⟩ : ∃ a : Nat, x1 = a := ⟨x1.toNat, by omega⟩
  obtain ⟨b, rfl⟩ : ∃ b : Nat, x2 = b := ⟨x2.toNat, by omega⟩
  have hz : ∀ j, a ≤ j → j < a + (b - a) → 0 ≤ nth W (0 : Int) j := fun j j1 j2 => hx.c j (by show (a : Int) ≤ j; omega) (by show (j : Int) < b; omega)
  obtain ⟨m, m1, m2⟩ := minL_L F W a (b - a) (by omega) hz (b - a - 1) F 1 (nth W (0 : Int) (addN a 0)) (by omega) (by omega) (by rw [addN0]; exact hz a (by omega) (by omega))
  have em : minL_S F (a, b - a) W = some m := by
    unfold minL_S
    change (bif decide (((b - a : Nat) : Int) < 1) then none else (bif inB ((0 : Nat) : Int) (b - a) then ob (minL_L0 F (a, b - a) W F (nth W (0 : Int) (addN a 0)) ((1 : Nat) : Int)) _ else none)) = _
    rw [dec_f (by omega), inB_t (show 0 < b - a by omega), m1]
    rfl
  refine ⟨IntKind.wrap IntKind.i64 (m * IntKind.wrap IntKind.i64 ((b : Int) - a)), ?_⟩
  unfold value_S
  change ob (bif decide ((a : Int) < 0) then some (true, (W, s, ((a : Int), (b : Int)))) else (bif decide ((b : Int) > (W.length : Int) - 0) then some (true, (W, s, ((a : Int), (b : Int)))) else (bif decide ((a : Int) > b) then some (true, (W, s, ((a : Int), (b : Int)))) else ob (within7_S F (IntKind.wrap IntKind.i64 ((b : Int) - a)) s.1 s.2.1) (fun r => some ((!r), (W, s, ((a : Int), (b : Int)))))))) _ = _
  have ei : inOk ((b : Int) - a) s.1 s.2.1 = true := by unfold inOk; rw [dec_t hb.1, dec_t hb.2]; rfl
  rw [dec_f (show ¬ (a : Int) < 0 by omega), dec_f (show ¬ (b : Int) > (W.length : Int) - 0 by omega), dec_f (show ¬ (a : Int) > b by omega), w64 ((b : Int) - a) (by omega), with7, ei]
  change (bif inC (b : Int) (W.length - 0) then (bif inC (a : Int) b then ob (minL_S F (a, b - a) W) (fun r1 => some (IntKind.wrap IntKind.i64 (r1 * IntKind.wrap IntKind.i64 ((b : Int) - a)), decide (r1 ≥ 0))) else none) else none) = _
  rw [inC_t (show b ≤ W.length - 0 by omega), inC_t (show a ≤ b by omega), em]
  change some (_, decide (m ≥ 0)) = _
  rw [dec_t m2, w64 ((b : Int) - a) (by omega)]
theorem total_L (F : Nat) (hF : 2000 < F) {s : SwC} (hs : SwOk s) {W : List Int} (hW : W.length ≤ 200) {bl : List BkT} (hc : chain s W bl) (hl : bl.length ≤ 1000) : ∀ (j k i : Nat) (sum : Int), i + j = bl.length → j < k → ∃ v, total_L0 F k sum bl.length i W bl s = some (.inr (v, (W, bl)))
  | j, 0, i, _, _, hk => by omega
  | 0, k + 1, i, sum, hi, _ => by
    refine ⟨sum, ?_⟩
    show (bif decide ((i : Int) < (bl.length : Int)) then _ else _) = _
    rw [dec_f (by omega)]; rfl
  | j + 1, k + 1, i, sum, hi, hk => by
    have e1 : IntKind.wrap IntKind.i64 ((i : Int) + 1) = ((i + 1 : Nat) : Int) := by rw [w64 _ (by omega)]; omega
    obtain ⟨v, hv⟩ := value_eq F hF hs hW (hc.ok i (by omega))
    obtain ⟨u, hu⟩ := total_L F hF hs hW hc hl j k (i + 1) (IntKind.wrap IntKind.i64 (sum + v)) (by omega) (by omega)
    refine ⟨u, ?_⟩
    show (bif decide ((i : Int) < (bl.length : Int)) then (bif inB (i : Int) (bl.length - 0) then ob (value_S F s (nth bl b0 i) W) (fun r => ob (bif !r.2 then some ((sum, r.1, (bl.length : Int), (i : Int), true), (W, bl, s)) else (bif decide ((i : Int) > 0) then (bif inB (IntKind.wrap IntKind.i64 ((i : Int) - 1)) (bl.length - 0) then some ((sum, r.1, (bl.length : Int), (i : Int), decide ((nth bl b0 i).1 < IntKind.wrap IntKind.i64 ((nth bl b0 (IntKind.wrap IntKind.i64 ((i : Int) - 1)).toNat).2 + s.2.2))), (W, bl, s)) else none) else some ((sum, r.1, (bl.length : Int), (i : Int), false), (W, bl, s)))) (fun s1 => bif s1.1.2.2.2.2 then some (.inl ((0, false), (s1.2.1, s1.2.2.1))) else total_L0 F k (IntKind.wrap IntKind.i64 (s1.1.1 + s1.1.2.1)) s1.1.2.2.1 (IntKind.wrap IntKind.i64 (s1.1.2.2.2.1 + 1)) s1.2.1 s1.2.2.1 s1.2.2.2)) else none) else _) = _
    rw [dec_t (by omega), inB_t (show i < bl.length - 0 by omega), hv]
    have fin : total_L0 F k (IntKind.wrap IntKind.i64 (sum + v)) bl.length (IntKind.wrap IntKind.i64 ((i : Int) + 1)) W bl s = some (.inr (u, (W, bl))) := by rw [e1]; exact hu
    simp only [cond_true]
    rw [obS]
    by_cases h0 : (i : Int) > 0
    · have hk := hc.lk (i - 1) (by omega)
      rw [show i - 1 + 1 = i by omega] at hk
      have a1 := (hc.ok i (by omega)).a
      have a2 := (hc.ok (i - 1) (by omega)).a
      have hcc := hs.c
      have e2 : IntKind.wrap IntKind.i64 ((i : Int) - 1) = ((i - 1 : Nat) : Int) := by rw [w64 _ (by omega)]; omega
      have hlt : ¬ (nth bl b0 i).1 < (nth bl b0 (i - 1)).2 + s.2.2 := by
        unfold bh at hk
        split at hk <;> omega
      rw [dec_t h0, e2, inB_t (show i - 1 < bl.length - 0 by omega), Int.toNat_natCast, w64 ((nth bl b0 (i - 1)).2 + s.2.2) (by omega), dec_f hlt]
      exact fin
    · rw [dec_f h0]
      exact fin
theorem total_ok' (F : Nat) (hF : 2000 < F) {s : SwC} (hs : SwOk s) {W : List Int} (hW : W.length ≤ 200) {bl : List BkT} (hc : chain s W bl) (hl : bl.length ≤ 1000) : ∃ v, total_S F s W bl = some (v, true) := by
  obtain ⟨v, hv⟩ := total_L F hF hs hW hc hl bl.length F 0 0 (by omega) (by omega)
  refine ⟨v, ?_⟩
  unfold total_S
  change ob (total_L0 F F 0 bl.length ((0 : Nat) : Int) W bl s) _ = _
  rw [hv]
/-! The account -/
theorem acc_L2 (F : Nat) (a1 a2 a3 a4 : Int) (g02 g12 : List BkT) (t6 b2 c2 : SwC) (x y : Nat) (t72 : List BkT) (g42 : List Int) (hy : y ≤ 1000) : ∀ (j k i : Nat) (g : List Bool), (i + j = y ∨ (y ≤ i ∧ j = 0)) → j < k → i ≤ 1000 → y ≤ g.length →
    ∃ g', account_L2 F a1 a2 a3 a4 g02 g12 t6 b2 c2 ((x : Int), (y : Int)) t72 g42 k i g = some ((a1, a2, a3, a4), (g02, g12, t6, b2, g', c2, t72, g42)) ∧ g'.length = g.length
  | j, 0, i, _, _, hk, _, _ => by omega
  | 0, k + 1, i, g, hi, _, _, hg => by
    refine ⟨g, ?_, rfl⟩
    show (bif decide ((i : Int) < (y : Int)) then _ else _) = _
    rw [dec_f (by omega)]; rfl
  | j + 1, k + 1, i, g, hi, hk, hil, hg => by
    have e1 : IntKind.wrap IntKind.i64 ((i : Int) + 1) = ((i + 1 : Nat) : Int) := by rw [w64 _ (by omega)]; omega
    obtain ⟨g', q1, q2⟩ := acc_L2 F a1 a2 a3 a4 g02 g12 t6 b2 c2 x y t72 g42 hy j k (i + 1) (g.set i true) (by omega) (by omega) (by omega) (by simpa using hg)
    refine ⟨g', ?_, by simpa using q2⟩
    show (bif decide ((i : Int) < (y : Int)) then (bif inB (i : Int) (g.length - 0) then account_L2 F a1 a2 a3 a4 g02 g12 t6 b2 c2 ((x : Int), (y : Int)) t72 g42 k (IntKind.wrap IntKind.i64 ((i : Int) + 1)) (g.set i true) else none) else _) = _
    rw [dec_t (by omega), inB_t (show i < g.length - 0 by omega), e1]
    exact q1
theorem acc_L1 (F : Nat) (hF : 2000 < F) (a1 a2 : Int) (g01 g11 : List BkT) (t6 b1 c1 : SwC) (cs : List BkT) (g41 : List Int) (hl : cs.length ≤ 1000) (N : Nat) (hN : N ≤ 1000) (hcs : ∀ i, i < cs.length → 0 ≤ (nth cs b0 i).1 ∧ (nth cs b0 i).1 ≤ 1000 ∧ 0 ≤ (nth cs b0 i).2 ∧ (nth cs b0 i).2 ≤ N) : ∀ (j k i : Nat) (g : List Bool), i + j = cs.length → j < k → g.length = N →
    ∃ g', account_L1 F k a1 a2 cs.length i g01 g11 t6 b1 g c1 cs g41 = some ((a1, a2), (g01, g11, t6, b1, g', c1, g41)) ∧ g'.length = N
  | j, 0, i, _, _, hk, _ => by omega
  | 0, k + 1, i, g, hi, _, hg => by
    refine ⟨g, ?_, hg⟩
    show (bif decide ((i : Int) < (cs.length : Int)) then _ else _) = _
    rw [dec_f (by omega)]; rfl
  | j + 1, k + 1, i, g, hi, hk, hg => by
    have e1 : IntKind.wrap IntKind.i64 ((i : Int) + 1) = ((i + 1 : Nat) : Int) := by rw [w64 _ (by omega)]; omega
    have h := hcs i (by omega)
    obtain ⟨g', q1, q2⟩ := acc_L2 F a1 a2 cs.length i g01 g11 t6 b1 c1 (nth cs b0 i).1.toNat (nth cs b0 i).2.toNat cs g41 (by omega) ((nth cs b0 i).2.toNat - (nth cs b0 i).1.toNat) F (nth cs b0 i).1.toNat g (by omega) (by omega) (by omega) (by omega)
    rw [Int.toNat_of_nonneg h.1, Int.toNat_of_nonneg h.2.2.1] at q1
    obtain ⟨g'', r1, r2⟩ := acc_L1 F hF a1 a2 g01 g11 t6 b1 c1 cs g41 hl N hN hcs j k (i + 1) g' (by omega) (by omega) (by omega)
    refine ⟨g'', ?_, r2⟩
    show (bif decide ((i : Int) < (cs.length : Int)) then (bif inB (i : Int) (cs.length - 0) then ob (account_L2 F a1 a2 cs.length i g01 g11 t6 b1 c1 (nth cs b0 i) cs g41 F (nth cs b0 i).1 g) (fun s2 => account_L1 F k s2.1.1 s2.1.2.1 s2.1.2.2.1 (IntKind.wrap IntKind.i64 (s2.1.2.2.2 + 1)) s2.2.1 s2.2.2.1 s2.2.2.2.1 s2.2.2.2.2.1 s2.2.2.2.2.2.1 s2.2.2.2.2.2.2.1 s2.2.2.2.2.2.2.2.1 s2.2.2.2.2.2.2.2.2) else none) else _) = _
    have e2 : nth cs b0 i = ((nth cs b0 i).1, (nth cs b0 i).2) := rfl
    rw [dec_t (by omega), inB_t (show i < cs.length - 0 by omega)]
    simp only [cond_true]
    rw [show account_L2 F a1 a2 cs.length i g01 g11 t6 b1 c1 (nth cs b0 i) cs g41 F (nth cs b0 i).1 g = _ from q1, obS]
    show account_L1 F k a1 a2 cs.length (IntKind.wrap IntKind.i64 ((i : Int) + 1)) g01 g11 t6 b1 g' c1 cs g41 = _
    rw [e1]
    exact r1
/-- Lengths of blocks. -/
def lnB (bl : List BkT) (i : Nat) : Int := (nth bl b0 i).2 - (nth bl b0 i).1
theorem acc_L0 (F : Nat) (hF : 2000 < F) {s : SwC} (hs : SwOk s) {W : List Int} (hW : W.length ≤ 200) {bl : List BkT} (hc : chain s W bl) (hl : bl.length ≤ 1000) (g0 : List BkT) (t6 : SwC) (z : Int × Int) : ∀ (j k i : Nat) (g : List Bool), i + j = bl.length → j < k → g.length = W.length →
    ∃ g', account_L0 F k bl.length i g0 bl t6 s g (sm (lnB bl) i, z) W = some (g0, bl, t6, g', (sm (lnB bl) bl.length, z)) ∧ g'.length = W.length
  | j, 0, i, _, _, hk, _ => by omega
  | 0, k + 1, i, g, hi, _, hg => by
    refine ⟨g, ?_, hg⟩
    show (bif decide ((i : Int) < (bl.length : Int)) then _ else _) = _
    rw [dec_f (by omega), show bl.length = i by omega]; rfl
  | j + 1, k + 1, i, g, hi, hk, hg => by
    have e1 : IntKind.wrap IntKind.i64 ((i : Int) + 1) = ((i + 1 : Nat) : Int) := by rw [w64 _ (by omega)]; omega
    have ok := hc.ok i (by omega)
    have a1 := ok.a; have cc := hs.c
    obtain ⟨q1, q2⟩ := bh_range hs a1
    have hsm := sm_range (lnB bl) 200 i fun x hx => by have := (hc.ok x (by omega)).a; unfold lnB; omega
    have e2 : IntKind.wrap IntKind.i64 ((nth bl b0 i).1 - s.2.2) = (nth bl b0 i).1 - s.2.2 := w64 _ (by omega)
    have e3 : IntKind.wrap IntKind.i64 (sm (lnB bl) i + IntKind.wrap IntKind.i64 ((nth bl b0 i).2 - (nth bl b0 i).1)) = sm (lnB bl) (i + 1) := by
      rw [w64 ((nth bl b0 i).2 - _) (by omega), w64 _ (by omega)]; rfl
    obtain ⟨g', r1, r2⟩ := acc_L1 F hF bl.length i g0 bl t6 s (sm (lnB bl) (i + 1), z) (((if (nth bl b0 i).1 - s.2.2 > 0 then (nth bl b0 i).1 - s.2.2 else 0), (nth bl b0 i).1) :: (((nth bl b0 i).2, bh s W (nth bl b0 i)) :: [])) W (by simp) W.length (by omega) (fun q hq => by
      simp only [List.length_cons, List.length_nil] at hq
      match q, hq with
      | 0, _ => show (0 : Int) ≤ (if (nth bl b0 i).1 - s.2.2 > 0 then (nth bl b0 i).1 - s.2.2 else 0) ∧ (if (nth bl b0 i).1 - s.2.2 > 0 then (nth bl b0 i).1 - s.2.2 else 0) ≤ 1000 ∧ 0 ≤ (nth bl b0 i).1 ∧ (nth bl b0 i).1 ≤ W.length; split <;> omega
      | 1, _ => show (0 : Int) ≤ (nth bl b0 i).2 ∧ (nth bl b0 i).2 ≤ 1000 ∧ 0 ≤ bh s W (nth bl b0 i) ∧ bh s W (nth bl b0 i) ≤ W.length; omega) 2 F 0 g (by simp) (by omega) hg
    obtain ⟨g'', t1, t2⟩ := acc_L0 F hF hs hW hc hl g0 t6 z j k (i + 1) g' (by omega) (by omega) r2
    refine ⟨g'', ?_, t2⟩
    show (bif decide ((i : Int) < (bl.length : Int)) then (bif inB (i : Int) (bl.length - 0) then ob (behindh_S F s (nth bl b0 i) W) (fun r2 => ob (account_L1 F F bl.length i (((((if (IntKind.wrap IntKind.i64 ((nth bl b0 i).1 - s.2.2)) > (0 : Int) then (IntKind.wrap IntKind.i64 ((nth bl b0 i).1 - s.2.2)) else (0 : Int)), (nth bl b0 i).1) :: (((nth bl b0 i).2, r2) :: [])).length - 0) : Int) (0 : Int) g0 bl t6 s g (IntKind.wrap IntKind.i64 (sm (lnB bl) i + IntKind.wrap IntKind.i64 ((nth bl b0 i).2 - (nth bl b0 i).1)), z) (((if (IntKind.wrap IntKind.i64 ((nth bl b0 i).1 - s.2.2)) > (0 : Int) then (IntKind.wrap IntKind.i64 ((nth bl b0 i).1 - s.2.2)) else (0 : Int)), (nth bl b0 i).1) :: (((nth bl b0 i).2, r2) :: [])) W) (fun s3 => account_L0 F k s3.1.1 (IntKind.wrap IntKind.i64 (s3.1.2 + 1)) s3.2.1 s3.2.2.1 s3.2.2.2.1 s3.2.2.2.2.1 s3.2.2.2.2.2.1 s3.2.2.2.2.2.2.1 s3.2.2.2.2.2.2.2)) else none) else _) = _
    rw [dec_t (by omega), inB_t (show i < bl.length - 0 by omega), bh_eq F hs (by omega), e2, e3]
    simp only [cond_true]
    rw [obS]
    change ob (account_L1 F F bl.length i (2 : Nat) ((0 : Nat) : Int) g0 bl t6 s g (sm (lnB bl) (i + 1), z) _ W) _ = _
    rw [show account_L1 F F bl.length i (2 : Nat) ((0 : Nat) : Int) g0 bl t6 s g (sm (lnB bl) (i + 1), z) _ W = _ from r1, obS]
    change account_L0 F k bl.length (IntKind.wrap IntKind.i64 ((i : Int) + 1)) g0 bl t6 s g' (sm (lnB bl) (i + 1), z) W = _
    rw [e1]
    exact t1
theorem acc_L3 (F : Nat) (g0 g1 : List BkT) (t6 : SwC) (g : List Bool) (hg : g.length ≤ 1000) (u v : Int) : ∀ (j k i : Nat) (n : Int), i + j = g.length → j < k → 0 ≤ n → n ≤ i →
    ∃ n', account_L3 F g.length g0 g1 t6 g k i (u, (n, v)) = some (g0, g1, t6, (u, (n', v))) ∧ 0 ≤ n' ∧ n' ≤ g.length
  | j, 0, i, _, _, hk, _, _ => by omega
  | 0, k + 1, i, n, hi, _, h0, h1 => by
    refine ⟨n, ?_, h0, by omega⟩
    show (bif decide ((i : Int) < (g.length : Int)) then _ else _) = _
    rw [dec_f (by omega)]; rfl
  | j + 1, k + 1, i, n, hi, hk, h0, h1 => by
    have e1 : IntKind.wrap IntKind.i64 ((i : Int) + 1) = ((i + 1 : Nat) : Int) := by rw [w64 _ (by omega)]; omega
    have e2 : IntKind.wrap IntKind.i64 (n + 1) = n + 1 := w64 _ (by omega)
    have key : account_L3 F g.length g0 g1 t6 g (k + 1) i (u, (n, v)) = (bif nth g false i then account_L3 F g.length g0 g1 t6 g k ((i + 1 : Nat) : Int) (u, (n + 1, v)) else account_L3 F g.length g0 g1 t6 g k ((i + 1 : Nat) : Int) (u, (n, v))) := by
      show (bif decide ((i : Int) < (g.length : Int)) then (bif inB (i : Int) (g.length - 0) then (bif nth g false i then account_L3 F g.length g0 g1 t6 g k (IntKind.wrap IntKind.i64 ((i : Int) + 1)) (u, (IntKind.wrap IntKind.i64 (n + 1), v)) else account_L3 F g.length g0 g1 t6 g k (IntKind.wrap IntKind.i64 ((i : Int) + 1)) (u, (n, v))) else none) else _) = _
      rw [dec_t (by omega), inB_t (show i < g.length - 0 by omega), e1, e2]
      rfl
    rw [key]
    cases nth g false i with
    | true => exact acc_L3 F g0 g1 t6 g hg u v j k (i + 1) (n + 1) (by omega) (by omega) (by omega) (by omega)
    | false => exact acc_L3 F g0 g1 t6 g hg u v j k (i + 1) n (by omega) (by omega) (by omega) (by omega)
theorem account_eq (F : Nat) (hF : 2000 < F) (s : SwC) (l : List BkT) (W : List Int) (hk : check7_S F s l = some 0) (hs : SwOk s) (hn : newB_S F s l = some (s, W)) (hW : W.length ≤ 200) {bl : List BkT} (hc : chain s W bl) (hl : bl.length ≤ 1000) :
    ∃ n, account_S F s l bl = some ((sm (lnB bl) bl.length, (n, (W.length : Int) - (sm (lnB bl) bl.length + n))), 0) ∧ 0 ≤ n ∧ n ≤ 200 := by
  obtain ⟨v, hv⟩ := total_ok' F hF hs hW hc hl
  obtain ⟨g, g1, g2⟩ := acc_L0 F hF hs hW hc hl l (0, (0, 0)) ((0 : Int), (W.length : Int)) bl.length F 0 (List.replicate W.length false) (by omega) (by omega) (by simp)
  obtain ⟨n, n1, n2, n3⟩ := acc_L3 F l bl (0, (0, 0)) g (by omega) (sm (lnB bl) bl.length) W.length g.length F 0 0 (by omega) (by omega) (by omega) (by omega)
  have hsm := sm_range (lnB bl) 200 bl.length fun x hx => by have := (hc.ok x (by omega)).a; unfold lnB; omega
  refine ⟨n, ?_, n2, by omega⟩
  have et : totalF_S F s l bl = some (v, 0) := by
    unfold totalF_S
    rw [hk]
    change ob (newB_S F s l) _ = _
    rw [hn]
    change ob (total_S F s W bl) _ = _
    rw [hv]; rfl
  unfold account_S
  rw [et]
  change ob (newB_S F s l) _ = _
  rw [hn]
  change (bif (decide ((0 : Int) ≤ (W.length : Int) - 0) && decide ((W.length : Int) - 0 ≤ 1000000)) then ob (account_L0 F F bl.length ((0 : Nat) : Int) l bl (0, (0, 0)) s (List.replicate W.length false) (0, (0, (((List.replicate W.length false).length : Nat) : Int))) W) _ else none) = _
  rw [dec_t (by omega), dec_t (by omega), List.length_replicate]
  change ob (account_L0 F F bl.length ((0 : Nat) : Int) l bl (0, (0, 0)) s (List.replicate W.length false) (sm (lnB bl) 0, ((0 : Int), (W.length : Int))) W) _ = _
  rw [g1]
  change ob (account_L3 F g.length l bl (0, (0, 0)) g F ((0 : Nat) : Int) (sm (lnB bl) bl.length, (0, (W.length : Int)))) _ = _
  rw [n1]
  change some ((sm (lnB bl) bl.length, (n, IntKind.wrap IntKind.i64 ((W.length : Int) - IntKind.wrap IntKind.i64 (sm (lnB bl) bl.length + n)))), 0) = _
  rw [w64 (sm (lnB bl) bl.length + n) (by omega), w64 _ (by omega)]
end Go.Proofs.Ytdcekiigkplmgaa
