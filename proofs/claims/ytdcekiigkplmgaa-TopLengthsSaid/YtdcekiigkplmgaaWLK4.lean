/- Plain laws of a cropping: the best ones from each place on. No condition. -/
import Derived.Test.YtdcekiigkplmgaaWLK3
namespace Go.Proofs.Ytdcekiigkplmgaa
open Go.RowKit
set_option maxRecDepth 100000
theorem obS {α β : Type} (x : α) (f : α → Option β) : ob (some x) f = f x := rfl
abbrev r0 : RsT := ((0 : Int), ((0 : Int), ((0 : Int), (0 : Int))))
structure okB (s : SwC) (W : List Int) (x : BkT) : Prop where
  a : 0 ≤ x.1 ∧ x.1 < x.2 ∧ x.2 ≤ W.length
  b : s.1 ≤ x.2 - x.1 ∧ x.2 - x.1 ≤ s.2.1
  c : ∀ j : Nat, x.1 ≤ j → (j : Int) < x.2 → 0 ≤ nth W (0 : Int) j
def bh (s : SwC) (W : List Int) (x : BkT) : Int := if (W.length : Int) < x.2 + s.2.2 then (W.length : Int) else x.2 + s.2.2
def mny (R : List RsT) (q : Int) : Int := (nth R r0 q.toNat).2.1
structure good (s : SwC) (W : List Int) (R : List RsT) (i : Int) (r : RsT) : Prop where
  lo : 0 ≤ r.2.1
  hi : r.2.1 ≤ W.length - i
  or : r.2.1 = 0 ∨ (okB s W r.2.2 ∧ i ≤ r.2.2.1 ∧ r.2.1 = 1 + mny R (bh s W r.2.2))
theorem bh_eq (F : Nat) {s : SwC} (hs : SwOk s) {W : List Int} {x : BkT} (h : 0 ≤ x.2 ∧ x.2 ≤ 10000) : behindh_S F s x W = some (bh s W x) := by
  have := hs.c
  unfold behindh_S
  rw [hold_eq]
  unfold behind_S bh
  change some (if (W.length : Int) - 0 < IntKind.wrap IntKind.i64 (x.2 + s.2.2) then (W.length : Int) - 0 else IntKind.wrap IntKind.i64 (x.2 + s.2.2)) = _
  rw [w64 _ (by omega), Int.sub_zero]
theorem bh_range {s : SwC} (hs : SwOk s) {W : List Int} {x : BkT} (h : 0 ≤ x.1 ∧ x.1 < x.2 ∧ x.2 ≤ W.length) : x.1 < bh s W x ∧ bh s W x ≤ W.length := by
  have := hs.c
  unfold bh
  split <;> omega
theorem orI_L (F : Nat) (l : List Int) (hq : l.length ≤ 1000) : ∀ (j k i : Nat), i + j = l.length → j < k → ∃ r, orI_L0 F 0 l.length l k i = some r
  | j, 0, i, _, hk => by omega
  | 0, k + 1, i, hi, _ => by
    refine ⟨.inr (0, l), ?_⟩
    show (bif decide ((i : Int) < (l.length : Int)) then _ else _) = _
    rw [dec_f (by omega)]; rfl
  | j + 1, k + 1, i, hi, hk => by
    have e1 : IntKind.wrap IntKind.i64 ((i : Int) + 1) = ((i + 1 : Nat) : Int) := by rw [w64 _ (by omega)]; omega
    obtain ⟨r, hr⟩ := orI_L F l hq j k (i + 1) (by omega) (by omega)
    have key : orI_L0 F 0 l.length l (k + 1) i = (bif (nth l (0 : Int) i != 0) then some (.inl (nth l (0 : Int) i, l)) else orI_L0 F 0 l.length l k ((i + 1 : Nat) : Int)) := by
      show (bif decide ((i : Int) < (l.length : Int)) then (bif inB (i : Int) (l.length - 0) then (bif (nth l (0 : Int) i != 0) then some (.inl (nth l (0 : Int) i, l)) else orI_L0 F 0 l.length l k (IntKind.wrap IntKind.i64 ((i : Int) + 1))) else none) else _) = _
      rw [dec_t (by omega), inB_t (show i < l.length - 0 by omega), e1]
      rfl
    rw [key]
    cases (nth l (0 : Int) i != 0) with
    | true => exact ⟨_, rfl⟩
    | false => exact ⟨r, hr⟩
theorem cmpI_ex (F : Nat) (x y : Int) : ∃ r, cmpI_S F x y = some r := by
  unfold cmpI_S
  rw [bne_self_eq_false, bne_self_eq_false]
  change ∃ r, (bif decide (x < y) then some (-1 : Int) else (bif decide (x > y) then some 1 else some 0)) = some r
  cases decide (x < y) <;> cases decide (x > y) <;> exact ⟨_, rfl⟩
theorem restCmp_ex (F : Nat) (hF : 2000 < F) (x y : RsT) : ∃ r, restCmph_S F x y = some r := by
  unfold restCmph_S
  rw [hold_eq]
  unfold restCmp_S orI_S
  obtain ⟨a, ha⟩ := cmpI_ex F x.1 y.1
  obtain ⟨b, hb⟩ := cmpI_ex F y.2.1 x.2.1
  rw [ha]
  change ∃ r, ob (cmpI_S F y.2.1 x.2.1) _ = some r
  rw [hb]
  change ∃ r, ob (ob (orI_L0 F 0 ([a, b].length : Nat) [a, b] F ((0 : Nat) : Int)) _) _ = some r
  obtain ⟨r, hr⟩ := orI_L F [a, b] (by simp) 2 F 0 (by simp) (by omega)
  rw [hr]
  cases r <;> exact ⟨_, rfl⟩
def lst (W : List Int) (least tt : Int) : Int := if nth W (0 : Int) (IntKind.wrap IntKind.i64 (tt - 1)).toNat < least then nth W (0 : Int) (IntKind.wrap IntKind.i64 (tt - 1)).toNat else least
def nb (W : List Int) (least tt p r : Int) (R : List RsT) : RsT := (IntKind.wrap IntKind.i64 (IntKind.wrap IntKind.i64 (IntKind.wrap IntKind.i64 (tt - p) * lst W least tt) + (nth R r0 r.toNat).1), (IntKind.wrap IntKind.i64 (1 + (nth R r0 r.toNat).2.1), (p, tt)))
theorem rf1_def (F k : Nat) (f0 least tt : Int) (W : List Int) (s : SwC) (best : RsT) (sm_ : Bool) (R : List RsT) (p : Int) (s' : SwC) : rests_rf1_L F f0 (k + 1) ((least, tt), (W, s, best, sm_, R, p, s')) =
    (bif decide (tt ≤ (if ((W.length : Int) - 0) < IntKind.wrap IntKind.i64 (p + s'.2.1) then ((W.length : Int) - 0) else IntKind.wrap IntKind.i64 (p + s'.2.1))) then (bif inB (IntKind.wrap IntKind.i64 (tt - 1)) (W.length - 0) then (bif decide (lst W least tt < 0) then some (.inl (W, s, best, sm_, R, p, s')) else
      (bif decide (IntKind.wrap IntKind.i64 (tt - p) ≥ s'.1) then ob (behindh_S F s (p, tt) W) (fun r => bif inB r (R.length - 0) then ob (restCmph_S F (nb W least tt p r R) best) (fun r1 =>
        bif decide (r1 > 0) then rests_rf1_L F f0 k ((lst W least tt, IntKind.wrap IntKind.i64 (tt + 1)), (W, s, nb W least tt p r R, true, R, p, s'))
        else bif (r1 == 0) then (bif !sm_ then rests_rf1_L F f0 k ((lst W least tt, IntKind.wrap IntKind.i64 (tt + 1)), (W, s, nb W least tt p r R, true, R, p, s')) else rests_rf1_L F f0 k ((lst W least tt, IntKind.wrap IntKind.i64 (tt + 1)), (W, s, best, sm_, R, p, s')))
        else rests_rf1_L F f0 k ((lst W least tt, IntKind.wrap IntKind.i64 (tt + 1)), (W, s, best, sm_, R, p, s'))) else none)
      else rests_rf1_L F f0 k ((lst W least tt, IntKind.wrap IntKind.i64 (tt + 1)), (W, s, best, sm_, R, p, s')))) else none)
    else some (.inr (W, s, best, sm_, R, p, s'))) := rfl
theorem inner (F : Nat) (hF : 2000 < F) {s : SwC} (hs : SwOk s) {W : List Int} (hW : W.length ≤ 200) {R : List RsT} (hR : R.length = W.length + 1) {p : Nat} (hp : p < W.length) (hG : ∀ i : Nat, p < i → i ≤ W.length → good s W R i (nth R r0 i)) (f0 : Int) :
    ∀ (k tt : Nat) (least : Int) (best : RsT) (sm_ : Bool), p + 1 ≤ tt → tt ≤ W.length + 1 → W.length + 1 - tt < k → good s W R p best → (∀ j : Nat, p ≤ j → j + 1 < tt → least ≤ nth W (0 : Int) j) →
    ∃ best' sm', good s W R p best' ∧ (rests_rf1_L F f0 k ((least, (tt : Int)), (W, s, best, sm_, R, (p : Int), s)) = some (.inl (W, s, best', sm', R, (p : Int), s)) ∨ rests_rf1_L F f0 k ((least, (tt : Int)), (W, s, best, sm_, R, (p : Int), s)) = some (.inr (W, s, best', sm', R, (p : Int), s)))
  | 0, tt, _, _, _, _, _, hk, _, _ => by omega
  | k + 1, tt, least, best, sm_, h1, h2, hk, hb, hl => by
    have ha := hs.a; have hbb := hs.b; have hc := hs.c
    rw [rf1_def, w64 ((p : Int) + s.2.1) (by omega), w64 ((tt : Int) - 1) (by omega), w64 ((tt : Int) - p) (by omega), w64 ((tt : Int) + 1) (by omega)]
    by_cases h3 : (tt : Int) ≤ (if ((W.length : Int) - 0) < (p : Int) + s.2.1 then ((W.length : Int) - 0) else (p : Int) + s.2.1)
    · have h4 : tt ≤ W.length ∧ (tt : Int) ≤ p + s.2.1 := by split at h3 <;> omega
      have e1 : ((tt : Int) - 1) = ((tt - 1 : Nat) : Int) := by omega
      have hL : lst W least tt ≤ least ∧ lst W least tt ≤ nth W (0 : Int) (tt - 1) := by
        unfold lst
        rw [w64 _ (by omega), e1, Int.toNat_natCast]
        split <;> omega
      have hL2 : ∀ j : Nat, p ≤ j → j + 1 < tt + 1 → lst W least tt ≤ nth W (0 : Int) j := fun j j1 j2 => by
        by_cases hj : j + 1 < tt
        · have := hl j j1 hj; omega
        · rw [show j = tt - 1 by omega]; exact hL.2
      rw [dec_t h3, e1, inB_t (show tt - 1 < W.length - 0 by omega)]
      simp only [cond_true]
      by_cases h5 : lst W least tt < 0
      · rw [dec_t h5]
        exact ⟨best, sm_, hb, .inl rfl⟩
      · rw [dec_f h5]
        simp only [cond_false]
        have rec0 : ∀ (b : RsT) (sm1 : Bool), good s W R p b → ∃ best' sm', good s W R p best' ∧ (rests_rf1_L F f0 k ((lst W least tt, (tt : Int) + 1), (W, s, b, sm1, R, (p : Int), s)) = some (.inl (W, s, best', sm', R, (p : Int), s)) ∨ rests_rf1_L F f0 k ((lst W least tt, (tt : Int) + 1), (W, s, b, sm1, R, (p : Int), s)) = some (.inr (W, s, best', sm', R, (p : Int), s))) := fun b sm1 gb =>
          inner F hF hs hW hR hp hG f0 k (tt + 1) (lst W least tt) b sm1 (by omega) (by omega) (by omega) gb hL2
        by_cases h6 : (tt : Int) - p ≥ s.1
        · have ok : okB s W ((p : Int), (tt : Int)) := ⟨⟨by omega, by show (p : Int) < tt; omega, by show (tt : Int) ≤ W.length; omega⟩, ⟨h6, by show (tt : Int) - p ≤ s.2.1; omega⟩, fun j j1 j2 => by
            have j1 : (p : Int) ≤ j := j1
            have j2 : (j : Int) < tt := j2
            have := hL2 j (by omega) (by omega)
            omega⟩
          obtain ⟨q1, q2⟩ := bh_range hs ok.a
          have q1 : (p : Int) < bh s W ((p : Int), (tt : Int)) := q1
          have g2 := hG (bh s W ((p : Int), (tt : Int))).toNat (by omega) (by omega)
          have e2 : bh s W ((p : Int), (tt : Int)) = ((bh s W ((p : Int), (tt : Int))).toNat : Int) := by omega
          have b1 := g2.lo; have b2 := g2.hi
          have gn : good s W R p (nb W least tt p (bh s W ((p : Int), (tt : Int))) R) := by
            have e3 : (nb W least tt p (bh s W ((p : Int), (tt : Int))) R).2.1 = 1 + mny R (bh s W ((p : Int), (tt : Int))) := by
              show IntKind.wrap IntKind.i64 (1 + _) = _
              rw [w64 _ (by omega)]; rfl
            have e4 : mny R (bh s W ((p : Int), (tt : Int))) = (nth R r0 (bh s W ((p : Int), (tt : Int))).toNat).2.1 := rfl
            refine ⟨by rw [e3]; omega, by rw [e3]; omega, .inr ⟨ok, Int.le_refl _, e3⟩⟩
          obtain ⟨c, hcc⟩ := restCmp_ex F hF (nb W least tt p (bh s W ((p : Int), (tt : Int))) R) best
          rw [dec_t h6, bh_eq F hs (x := ((p : Int), (tt : Int))) ⟨by show (0 : Int) ≤ tt; omega, by show (tt : Int) ≤ 10000; omega⟩]
          have ib : inB (bh s W ((p : Int), (tt : Int))) (R.length - 0) = true := by rw [e2]; exact inB_t (by omega)
          simp only [cond_true]
          rw [obS, ib]
          simp only [cond_true]
          rw [hcc, obS]
          cases decide (c > 0) with
          | true => exact rec0 _ true gn
          | false =>
            cases (c == 0) with
            | true =>
              cases sm_ with
              | false => exact rec0 _ true gn
              | true => exact rec0 _ _ hb
            | false => exact rec0 _ _ hb
        · rw [dec_f h6]
          exact rec0 _ _ hb
    · rw [dec_f h3]
      exact ⟨best, sm_, hb, .inr rfl⟩
theorem nth_set_ne {α : Type} (l : List α) (d x : α) {i j : Nat} (h : i ≠ j) : nth (l.set i x) d j = nth l d j := by
  unfold nth
  rw [List.getD_eq_getElem?_getD, List.getD_eq_getElem?_getD, List.getElem?_set_ne h]
theorem nth_set_eq {α : Type} (l : List α) (d x : α) {i : Nat} (h : i < l.length) : nth (l.set i x) d i = x := by
  unfold nth
  rw [List.getD_eq_getElem?_getD, List.getElem?_set_self h]; rfl
theorem good.set {s : SwC} (hs : SwOk s) {W : List Int} {R : List RsT} {i : Int} {r x : RsT} {p : Nat} (g : good s W R i r) (h : (p : Int) ≤ i) : good s W (R.set p x) i r := by
  refine ⟨g.lo, g.hi, ?_⟩
  rcases g.or with h1 | ⟨h1, h2, h3⟩
  · exact .inl h1
  · refine .inr ⟨h1, h2, ?_⟩
    obtain ⟨q1, q2⟩ := bh_range hs h1.a
    rw [h3]
    unfold mny
    rw [nth_set_ne _ _ _ (show p ≠ (bh s W r.2.2).toNat by omega)]
theorem rests_L (F : Nat) (hF : 2000 < F) {s : SwC} (hs : SwOk s) {W : List Int} (hW : W.length ≤ 200) : ∀ (q k : Nat) (R : List RsT), q ≤ W.length → q < k → R.length = W.length + 1 → (∀ i : Nat, q ≤ i → i ≤ W.length → good s W R i (nth R r0 i)) →
    ∃ R', rests_L0 F k ((q : Int) - 1) W s R = some (W, R') ∧ R'.length = W.length + 1 ∧ ∀ i : Nat, i ≤ W.length → good s W R' i (nth R' r0 i)
  | q, 0, R, _, hk, _, _ => by omega
  | 0, k + 1, R, _, _, hR, hG => by
    refine ⟨R, ?_, hR, fun i hi => hG i (by omega) hi⟩
    rfl
  | q + 1, k + 1, R, hq, hk, hR, hG => by
    have e0 : (((q + 1 : Nat) : Int) - 1) = (q : Int) := by omega
    have e1 : IntKind.wrap IntKind.i64 ((q : Int) + 1) = ((q + 1 : Nat) : Int) := by rw [w64 _ (by omega)]; omega
    have e2 : IntKind.wrap IntKind.i64 ((q : Int) - 1) = (q : Int) - 1 := w64 _ (by omega)
    have g1 := hG (q + 1) (by omega) (by omega)
    have gb : good s W R q (nth R r0 (q + 1)) := by
      refine ⟨g1.lo, by have := g1.hi; omega, ?_⟩
      rcases g1.or with h1 | ⟨h1, h2, h3⟩
      · exact .inl h1
      · exact .inr ⟨h1, by omega, h3⟩
    obtain ⟨b', sm', gb', hor⟩ := inner F hF hs hW hR (p := q) (by omega) (fun i i1 i2 => hG i (by omega) i2) (q : Int) F (q + 1) 1000 (nth R r0 (q + 1)) false (by omega) (by omega) (by omega) gb (fun j j1 j2 => by omega)
    obtain ⟨R', r1, r2⟩ := rests_L F hF hs hW q k (R.set q b') (by omega) (by omega) (by simp [hR]) (fun i i1 i2 => by
      by_cases hi : i = q
      · subst hi
        rw [nth_set_eq _ _ _ (by omega)]
        exact gb'.set hs (Int.le_refl _)
      · rw [nth_set_ne _ _ _ (fun e => hi e.symm)]
        exact (hG i (by omega) i2).set hs (by omega))
    refine ⟨R', ?_, r2⟩
    rw [e0]
    show (bif decide ((q : Int) ≥ 0) then (bif inB (IntKind.wrap IntKind.i64 ((q : Int) + 1)) (R.length - 0) then ob (rests_rf1_L F (q : Int) F ((1000, IntKind.wrap IntKind.i64 ((q : Int) + 1)), (W, s, nth R r0 (IntKind.wrap IntKind.i64 ((q : Int) + 1)).toNat, false, R, (q : Int), s))) (fun o_ => su o_ (fun t => bif inB (q : Int) (t.2.2.2.2.1.length - 0) then rests_L0 F k (IntKind.wrap IntKind.i64 ((q : Int) - 1)) t.1 t.2.1 (List.set t.2.2.2.2.1 (q : Int).toNat t.2.2.1) else none) (fun t => bif inB (q : Int) (t.2.2.2.2.1.length - 0) then rests_L0 F k (IntKind.wrap IntKind.i64 ((q : Int) - 1)) t.1 t.2.1 (List.set t.2.2.2.2.1 (q : Int).toNat t.2.2.1) else none)) else none) else _) = _
    rw [dec_t (by omega), e1, e2, inB_t (show q + 1 < R.length - 0 by omega), Int.toNat_natCast]
    simp only [cond_true]
    have fin : (bif inB (q : Int) (R.length - 0) then rests_L0 F k ((q : Int) - 1) W s (R.set q b') else none) = some (W, R') := by
      rw [inB_t (show q < R.length - 0 by omega)]; exact r1
    rcases hor with h | h
    · rw [h]; exact fin
    · rw [h]; exact fin
theorem rests_eq (F : Nat) (hF : 2000 < F) {s : SwC} (hs : SwOk s) {W : List Int} (hW : W.length ≤ 200) : ∃ R, rests_S F s W = some R ∧ R.length = W.length + 1 ∧ ∀ i : Nat, i ≤ W.length → good s W R i (nth R r0 i) := by
  obtain ⟨R, r1, r2, r3⟩ := rests_L F hF hs hW W.length F (List.replicate (W.length + 1) r0) (by omega) (by omega) (by simp) (fun i i1 i2 => by
    have e : nth (List.replicate (W.length + 1) r0) r0 i = r0 := by
      unfold nth
      rw [List.getD_eq_getElem?_getD, List.getElem?_replicate]
      split <;> rfl
    rw [e]
    exact ⟨Int.le_refl _, by show (0 : Int) ≤ W.length - i; omega, .inl rfl⟩)
  refine ⟨R, ?_, r2, r3⟩
  have e1 : IntKind.wrap IntKind.i64 ((W.length : Int) - 0 + 1) = ((W.length + 1 : Nat) : Int) := by rw [w64 _ (by omega)]; omega
  have e2 : IntKind.wrap IntKind.i64 ((W.length : Int) - 0 - 1) = (W.length : Int) - 1 := by rw [w64 _ (by omega)]; omega
  unfold rests_S
  change (bif (decide ((0 : Int) ≤ IntKind.wrap IntKind.i64 ((W.length : Int) - 0 + 1)) && decide (IntKind.wrap IntKind.i64 ((W.length : Int) - 0 + 1) ≤ 1000000)) then ob (rests_L0 F F (IntKind.wrap IntKind.i64 ((W.length : Int) - 0 - 1)) W s (List.replicate (IntKind.wrap IntKind.i64 ((W.length : Int) - 0 + 1)).toNat r0)) _ else none) = _
  rw [e1, e2, Int.toNat_natCast, dec_t (by omega), dec_t (by omega), r1]
  rfl
end Go.Proofs.Ytdcekiigkplmgaa
