/- The plain law of SliceAll, joined. No condition. -/
import Derived.Test.YtdfgmfddkcmalaaDoorWLA8c

namespace Go.Proofs.YtdfgmfddkcmalaaDoor
open Go.RowKit
set_option maxRecDepth 100000
theorem power_eq (F : Nat) (hF : 2000 < F) (m : Nat) (hm : m ≤ 3) : power_S F 6 m = some ((6 ^ m : Nat) : Int) := by
  obtain ⟨F, rfl⟩ : ∃ k, F = k + 5 := ⟨F - 5, by omega⟩
  have : m = 0 ∨ m = 1 ∨ m = 2 ∨ m = 3 := by omega
  rcases this with rfl | rfl | rfl | rfl <;> rfl
theorem pow_r (m : Nat) (hm : m ≤ 3) : 1 ≤ 6 ^ m ∧ 6 ^ m ≤ 216 := by
  have : m = 0 ∨ m = 1 ∨ m = 2 ∨ m = 3 := by omega
  rcases this with rfl | rfl | rfl | rfl <;> decide
def s9v (w : WrT) (b : WbT) (n : Int) (m : Nat) (br co d : Int) (k : Nat) (x fo : PrT) (ga : Nat → RgT) (fl : Bool) : A9t :=
  (((m : Int), br, co, d, (k : Int), dl d (Gk w k m) m, ((((List.range (m - 1)).map (fun i => fS w b m i d k)).length : Int) - 0), (((rgl w b (m - 1)).length : Int) - 0), fl),
   ((w, (b, n)), w, b.2.2.2, x, fo, (mn n b.2.2.1, rsG b n (dl d (Gk w k m)) (sf (Hk b.2.2.2 k m)) m m), (List.range (m - 1)).map (fun i => fS w b m i d k), rgl w b (m - 1), (List.range (m - 1)).map ga, (List.range m).map (kg b n (dl d (Gk w k m)) (sf (Hk b.2.2.2 k m)) m)))
theorem aL2_loop (F : Nat) (hF : 2000 < F) {w : WrT} {b : WbT} {n : Int} (h0 : ckI w b n = 0) (hm : mU b n ≤ 3) {d : Int} (hd : w.1.1 ≤ d ∧ d ≤ w.1.2) (hd2 : d ≤ w.1.1 + 2) (x : PrT) : ∀ (j kk k : Nat) (br co : Int) (fo : PrT) (ga : Nat → RgT), k + j = 6 ^ mU b n → j < kk →
    Iv8 w b n (mU b n) (Ty8 w b.2.2.2 (mU b n) d k) br co fo ga → co ≤ 216 * (d - w.1.1) + k →
    ∃ (br' co' : Int) (fo' : PrT) (ga' : Nat → RgT), sAll_L2 F kk (mU b n : Int) br co d k (w, (b, n)) w b.2.2.2 x fo (rgl w b (mU b n - 1)) ((List.range (mU b n - 1)).map ga) =
      some (.inr (((mU b n : Int), (br', (co', d))), ((w, (b, n)), (w, (b.2.2.2, (x, (fo', (rgl w b (mU b n - 1), (List.range (mU b n - 1)).map ga')))))))) ∧
      Iv8 w b n (mU b n) (Ty8 w b.2.2.2 (mU b n) d (6 ^ mU b n)) br' co' fo' ga' ∧ co' ≤ 216 * (d - w.1.1) + ((6 ^ mU b n : Nat) : Int)
  | j, 0, k, _, _, _, _, _, hk, _, _ => by omega
  | 0, kk + 1, k, br, co, fo, ga, hi, _, iv, hco => by
    have e : k = 6 ^ mU b n := by omega
    subst e
    refine ⟨br, co, fo, ga, ?_, iv, hco⟩
    rw [aL2_def, power_eq F hF _ hm]
    change (bif decide (((6 ^ mU b n : Nat) : Int) < ((6 ^ mU b n : Nat) : Int)) then _ else _) = _
    rw [dec_f (Int.lt_irrefl _)]
    rfl
  | j + 1, kk + 1, k, br, co, fo, ga, hi, hkk, iv, hco => by
    have hv := vld_of h0
    have hp := pow_r _ hm
    have v1 := hv.d; have v2 := hv.e; have v3 := hv.y
    have hkl : k < 6 ^ mU b n := by omega
    have hc := iv.c
    have l3 := aL3_loop F (mU b n) hm br co d (by omega) k (by omega) (w, (b, n)) w (by omega) b.2.2.2 (by omega) x fo (rgl w b (mU b n - 1)) ((List.range (mU b n - 1)).map ga) (mU b n) F 0 (by omega) (by omega)
    have e0 : dl d (Gk w k (mU b n)) (if 0 < mU b n then 0 else mU b n - 1) = d := by
      split
      · rfl
      · rw [show mU b n - 1 = 0 by omega]; rfl
    rw [e0, show k / 6 ^ 0 = k from Nat.div_one k] at l3
    have key : sAll_L2 F (kk + 1) (mU b n : Int) br co d k (w, (b, n)) w b.2.2.2 x fo (rgl w b (mU b n - 1)) ((List.range (mU b n - 1)).map ga) = a8 F kk (((mU b n : Int), (br, (co, (d, ((k : Int), (okk w b.2.2.2 k (mU b n), dl d (Gk w k (mU b n)) (mU b n - 1))))))), ((w, (b, n)), (w, (b.2.2.2, (x, (fo, (d, (rgl w b (mU b n - 1), ((List.range (mU b n - 1)).map ga, (Gk w k (mU b n), Hk b.2.2.2 k (mU b n))))))))))) := by
      rw [aL2_def, power_eq F hF _ hm]
      change (bif decide ((k : Int) < ((6 ^ mU b n : Nat) : Int)) then ob (sAll_L3 F F (mU b n : Int) br co d (k : Int) (okk w b.2.2.2 k 0) d ((0 : Nat) : Int) (k : Int) (w, (b, n)) w b.2.2.2 x fo d (rgl w b (mU b n - 1)) ((List.range (mU b n - 1)).map ga) (Gk w k 0) (Hk b.2.2.2 k 0)) _ else _) = _
      rw [dec_t (Int.ofNat_lt.2 hkl), l3]
      rfl
    have ek1 : IntKind.wrap IntKind.i64 ((k : Int) + 1) = ((k + 1 : Nat) : Int) := by rw [w64 _ (by omega)]; omega
    cases ho : okk w b.2.2.2 k (mU b n) with
    | false =>
      have ih := aL2_loop F hF h0 hm hd hd2 x j kk (k + 1) br co fo ga (by omega) (by omega) (iv.skip fun d' k' hx => by
        obtain ⟨h1, h2, h3, h4⟩ := hx
        refine ⟨?_, h2, h3, h4⟩
        rcases h1 with h1 | ⟨h1, h5⟩
        · exact .inl h1
        · by_cases h6 : k' = k
          · rw [h6, ho] at h4; cases h4
          · exact .inr ⟨h1, by omega⟩) (by omega)
      obtain ⟨br', co', fo', ga', i1, i2, i3⟩ := ih
      refine ⟨br', co', fo', ga', ?_, i2, i3⟩
      rw [key, ho]
      change sAll_L2 F kk (mU b n : Int) br co d (IntKind.wrap IntKind.i64 ((k : Int) + 1)) (w, (b, n)) w b.2.2.2 x fo (rgl w b (mU b n - 1)) ((List.range (mU b n - 1)).map ga) = _
      rw [ek1]
      exact i1
    | true =>
      have hcs := csOk_k hv hd ho
      have lG := len_Gk w k (mU b n)
      have lH := len_Hk b.2.2.2 k (mU b n)
      obtain ⟨cg, hGr, ht⟩ := cg_of hv hcs lG lH
      have tr := top_range hv
      have rr : 0 ≤ rsG b n (dl d (Gk w k (mU b n))) (sf (Hk b.2.2.2 k (mU b n))) (mU b n) (mU b n) ∧ rsG b n (dl d (Gk w k (mU b n))) (sf (Hk b.2.2.2 k (mU b n))) (mU b n) (mU b n) ≤ 600000000 := by
        unfold rsG
        rw [if_pos rfl]
        by_cases hz : mU b n = 0
        · rw [if_pos hz]; omega
        · rw [if_neg hz]
          have a1 := cg.kgr (show mU b n - 1 < mU b n by omega)
          obtain ⟨p1, p2, p3⟩ := cg.plr (i := mU b n - 1) (by omega)
          have a3 := cg.hst; have a4 := cg.hn
          omega
      have kr : ∀ i, i < mU b n → 0 ≤ kg b n (dl d (Gk w k (mU b n))) (sf (Hk b.2.2.2 k (mU b n))) (mU b n) i ∧ kg b n (dl d (Gk w k (mU b n))) (sf (Hk b.2.2.2 k (mU b n))) (mU b n) i ≤ 600000000 := fun i hi => by
        have a1 := cg.kgr hi; have a2 := cg.hd i (by omega); have a3 := cg.hs i hi
        omega
      have es : sgs b (dl d (Gk w k (mU b n))) (sf (Hk b.2.2.2 k (mU b n))) (mU b n) (mU b n) = (List.range (mU b n - 1)).map (fun i => fS w b (mU b n) i d k) := by unfold sgs; rw [if_neg (by omega)]; rfl
      have ek : kgs b n (dl d (Gk w k (mU b n))) (sf (Hk b.2.2.2 k (mU b n))) (mU b n) (mU b n) = (List.range (mU b n)).map (kg b n (dl d (Gk w k (mU b n))) (sf (Hk b.2.2.2 k (mU b n))) (mU b n)) := rfl
      have ivs := iv.step hv (Ty8 w b.2.2.2 (mU b n) d k) (Ty8 w b.2.2.2 (mU b n) d (k + 1)) hd ho (fun d' k' hx => by
        obtain ⟨h1, h2, h3, h4⟩ := hx
        rcases h1 with h1 | ⟨h1, h5⟩
        · exact .inl ⟨.inl h1, h2, h3, h4⟩
        · by_cases h6 : k' = k
          · exact .inr ⟨h1, h6⟩
          · exact .inl ⟨.inr ⟨h1, by omega⟩, h2, h3, h4⟩)
      obtain ⟨br', co', fo', ga', i1, i2, i3⟩ := aL2_loop F hF h0 hm hd hd2 x j kk (k + 1) _ _ _ _ (by omega) (by omega) ivs (by omega)
      refine ⟨br', co', fo', ga', ?_, i2, i3⟩
      rw [key, ho, ← i1]
      change ob (follow_S F w b n d (Gk w k (mU b n)) (Hk b.2.2.2 k (mU b n))) _ = _
      rw [follow_fine F hF h0 d _ _ lG lH hcs, es, ek]
      have lz : (((((List.range (mU b n - 1)).map (fun i => fS w b (mU b n) i d k)).length : Int) - 0) != (((rgl w b (mU b n - 1)).length : Int) - 0)) = false := by
        unfold rgl
        rw [len_rg, len_rg, bne_self_eq_false]
      change (bif (((((List.range (mU b n - 1)).map (fun i => fS w b (mU b n) i d k)).length : Int) - 0) != (((rgl w b (mU b n - 1)).length : Int) - 0)) then _ else ob (bif (decide ((mU b n : Int) > (0 : Int))) then (bif (decide (dl d (Gk w k (mU b n)) (mU b n - 1) < w.2.2)) then some (s9v w b n (mU b n) (IntKind.wrap IntKind.i64 (br + (1 : Int))) co d k x fo ga (((((List.range (mU b n - 1)).map (fun i => fS w b (mU b n) i d k)).length : Int) - 0) != (((rgl w b (mU b n - 1)).length : Int) - 0))) else some (s9v w b n (mU b n) br co d k x fo ga (((((List.range (mU b n - 1)).map (fun i => fS w b (mU b n) i d k)).length : Int) - 0) != (((rgl w b (mU b n - 1)).length : Int) - 0)))) else some (s9v w b n (mU b n) br co d k x fo ga (((((List.range (mU b n - 1)).map (fun i => fS w b (mU b n) i d k)).length : Int) - 0) != (((rgl w b (mU b n - 1)).length : Int) - 0)))) (fun s9 => a9 F kk s9)) = _
      rw [lz, w64 (br + 1) (by omega)]
      have fin : ∀ br2, a9 F kk (s9v w b n (mU b n) br2 co d k x fo ga false) = _ := fun br2 => a9_eq F kk hF (mU b n : Int) br2 co d k (dl d (Gk w k (mU b n)) (mU b n)) _ _ false (w, (b, n)) w b.2.2.2 x fo (mn n b.2.2.1, rsG b n (dl d (Gk w k (mU b n))) (sf (Hk b.2.2.2 k (mU b n))) (mU b n) (mU b n)) (fun i => fS w b (mU b n) i d k) (kg b n (dl d (Gk w k (mU b n))) (sf (Hk b.2.2.2 k (mU b n))) (mU b n)) ga (mU b n - 1) (mU b n) (by omega) (by omega) kr (rgl w b (mU b n - 1)) (by omega) (by omega) (by simp only; omega)
      have e5 : fB w (mU b n) d k = (decide ((mU b n : Int) > (0 : Int)) && decide (dl d (Gk w k (mU b n)) (mU b n - 1) < w.2.2)) := rfl
      rw [e5]
      cases decide ((mU b n : Int) > (0 : Int)) with
      | false => exact fin br
      | true =>
        cases decide (dl d (Gk w k (mU b n)) (mU b n - 1) < w.2.2) with
        | false => exact fin br
        | true => exact fin (br + 1)
end Go.Proofs.YtdfgmfddkcmalaaDoor


namespace Go.Proofs.YtdfgmfddkcmalaaDoor
open Go.RowKit
set_option maxRecDepth 100000
theorem aL1_def (F n_ : Nat) (m1 broken1 courses1 d : Int) (c2 : SwT) (w1 : WrT) (s4 : RgT) (x1 found1 : PrT) (g41 g51 : List RgT) : sAll_L1 F (n_ + 1) m1 broken1 courses1 d c2 w1 s4 x1 found1 g41 g51 =
    (bif (decide (d ≤ w1.1.2)) then (ob (sAll_L2 F F m1 broken1 courses1 d (0 : Int) c2 w1 s4 x1 found1 g41 g51) (fun o_ => su o_ (fun s12 => (some (.inl s12))) (fun s13 => (sAll_L1 F n_ s13.1.1 s13.1.2.1 s13.1.2.2.1 (IntKind.wrap IntKind.i64 (s13.1.2.2.2 + (1 : Int))) s13.2.1 s13.2.2.1 s13.2.2.2.1 s13.2.2.2.2.1 s13.2.2.2.2.2.1 s13.2.2.2.2.2.2.1 s13.2.2.2.2.2.2.2)))) else (some (.inr ((broken1, courses1), (x1, found1, g41, g51))))) := rfl
theorem aL1_loop (F : Nat) (hF : 2000 < F) {w : WrT} {b : WbT} {n : Int} (h0 : ckI w b n = 0) (hm : mU b n ≤ 3) (hr : w.1.2 ≤ w.1.1 + 2) (x : PrT) : ∀ (j kk : Nat) (d br co : Int) (fo : PrT) (ga : Nat → RgT), d + j = w.1.2 + 1 → j < kk → w.1.1 ≤ d →
    Iv8 w b n (mU b n) (Ty8 w b.2.2.2 (mU b n) d 0) br co fo ga → co ≤ 216 * (d - w.1.1) →
    ∃ (br' co' : Int) (fo' : PrT) (ga' : Nat → RgT), sAll_L1 F kk (mU b n : Int) br co d (w, (b, n)) w b.2.2.2 x fo (rgl w b (mU b n - 1)) ((List.range (mU b n - 1)).map ga) =
      some (.inr ((br', co'), (x, (fo', (rgl w b (mU b n - 1), (List.range (mU b n - 1)).map ga'))))) ∧
      Iv8 w b n (mU b n) (Ty8 w b.2.2.2 (mU b n) (w.1.2 + 1) 0) br' co' fo' ga'
  | j, 0, _, _, _, _, _, _, hk, _, _, _ => by omega
  | 0, kk + 1, d, br, co, fo, ga, hi, _, _, iv, hco => by
    have e : d = w.1.2 + 1 := by omega
    subst e
    refine ⟨br, co, fo, ga, ?_, iv⟩
    rw [aL1_def, dec_f (by omega)]
    rfl
  | j + 1, kk + 1, d, br, co, fo, ga, hi, hkk, hd, iv, hco => by
    have hp := pow_r _ hm
    have v1 := (vld_of h0).d
    obtain ⟨br', co', fo', ga', i1, i2, i3⟩ := aL2_loop F hF h0 hm (d := d) ⟨hd, by omega⟩ (by omega) x (6 ^ mU b n) F 0 br co fo ga (by omega) (by omega) iv (by omega)
    obtain ⟨br2, co2, fo2, ga2, j1, j2⟩ := aL1_loop F hF h0 hm hr x j kk (d + 1) br' co' fo' ga' (by omega) (by omega) (by omega) (i2.skip fun d' k' hx => by
      obtain ⟨h1, h2, h3, h4⟩ := hx
      refine ⟨?_, h2, h3, h4⟩
      rcases h1 with h1 | ⟨h1, h5⟩
      · by_cases h6 : d' = d
        · exact .inr ⟨h6, h3⟩
        · exact .inl (by omega)
      · omega) (by
        have : ((6 ^ mU b n : Nat) : Int) ≤ 216 := Int.ofNat_le.2 hp.2
        omega)
    refine ⟨br2, co2, fo2, ga2, ?_, j2⟩
    rw [aL1_def, dec_t (by omega)]
    change ob (sAll_L2 F F (mU b n : Int) br co d ((0 : Nat) : Int) (w, (b, n)) w b.2.2.2 x fo (rgl w b (mU b n - 1)) ((List.range (mU b n - 1)).map ga)) _ = _
    rw [i1]
    change sAll_L1 F kk (mU b n : Int) br' co' (IntKind.wrap IntKind.i64 (d + 1)) (w, (b, n)) w b.2.2.2 x fo' (rgl w b (mU b n - 1)) ((List.range (mU b n - 1)).map ga') = _
    rw [w64 (d + 1) (by omega)]
    exact j1
theorem start_loop (F : Nat) (m : Nat) (hm : m ≤ 10) (c : SwT) (t4 t : Int) : ∀ (j kk i : Nat), i + j = m → j < kk →
    start_L0 F m c t4 t kk i ((List.range i).map (fun _ => c.1.2.1.1)) ((List.range i).map (fun _ => c.2.1.2.2.2.1)) = some (t4, (t, ((List.range m).map (fun _ => c.1.2.1.1), (List.range m).map (fun _ => c.2.1.2.2.2.1))))
  | j, 0, i, _, hk => by omega
  | 0, kk + 1, i, hi, _ => by
    have e : i = m := by omega
    subst e
    show (bif decide ((i : Int) < (i : Int)) then _ else _) = _
    rw [dec_f (by omega)]; rfl
  | j + 1, kk + 1, i, hi, hk => by
    have e1 : IntKind.wrap IntKind.i64 ((i : Int) + 1) = ((i + 1 : Nat) : Int) := by rw [w64 _ (by omega)]; omega
    show (bif decide ((i : Int) < (m : Int)) then (bif lenOk (((List.range i).map (fun _ => c.1.2.1.1)).length - 0) [c.1.2.1.1].length then (bif lenOk (((List.range i).map (fun _ => c.2.1.2.2.2.1)).length - 0) [c.2.1.2.2.2.1].length then
      start_L0 F m c t4 t kk (IntKind.wrap IntKind.i64 ((i : Int) + 1)) ((List.range i).map (fun _ => c.1.2.1.1) ++ [c.1.2.1.1]) ((List.range i).map (fun _ => c.2.1.2.2.2.1) ++ [c.2.1.2.2.2.1]) else none) else none) else _) = _
    rw [e1, len_rg, len_rg, dec_t (by omega), lenOk_t (show i - 0 + [c.1.2.1.1].length ≤ 1000000 by simp; omega), lenOk_t (show i - 0 + [c.2.1.2.2.2.1].length ≤ 1000000 by simp; omega), ← map_rs (fun _ => c.1.2.1.1), ← map_rs (fun _ => c.2.1.2.2.2.1)]
    exact start_loop F m hm c t4 t j kk (i + 1) (by omega) (by omega)
theorem start_eq (F : Nat) (hF : 2000 < F) (m : Nat) (hm : m ≤ 10) (c : SwT) : start_S F c m = some (c.1.1.1, ((List.range m).map (fun _ => c.1.2.1.1), (List.range m).map (fun _ => c.2.1.2.2.2.1))) := by
  unfold start_S
  change ob (start_L0 F m c 0 c.1.1.1 F ((0 : Nat) : Int) [] []) _ = _
  have := start_loop F m hm c 0 c.1.1.1 m F 0 (by omega) (by omega)
  change start_L0 F m c 0 c.1.1.1 F ((0 : Nat) : Int) [] [] = _ at this
  rw [this]
theorem aL0_loop (F : Nat) (hF : 2000 < F) {w : WrT} {b : WbT} {n : Int} (h0 : ckI w b n = 0) (hm : mU b n ≤ 3) (s : RgT) (x fo : PrT) (g4 g5 : List RgT) : ∀ (j kk i : Nat), i + j = mU b n → j < kk →
    sAll_L0 F 0 0 (w, (b, n)) w s x fo g4 g5 kk i = some (((mU b n : Int), (0, 0)), ((w, (b, n)), (w, (s, (x, (fo, (g4, g5)))))))
  | j, 0, i, _, hk => by omega
  | j, kk + 1, i, hi, hk => by
    have hv := vld_of h0
    have v1 := hv.d; have v2 := hv.e; have v3 := hv.y
    have e1 : IntKind.wrap IntKind.i64 ((i : Int) + 1) = ((i + 1 : Nat) : Int) := by rw [w64 _ (by omega)]; omega
    show (bif decide ((i : Int) < (4 : Int)) then ob (start_S F (w, (b, n)) (i : Int)) (fun r1 => (ob (follow_S F w b n r1.1 r1.2.1 r1.2.2) (fun r2 => (bif (r2.1.2.2 == (0 : Int)) then (some (((i : Int), (0 : Int), (0 : Int)), ((w, (b, n)), w, s, x, fo, g4, g5))) else (sAll_L0 F 0 0 (w, (b, n)) w s x fo g4 g5 kk (IntKind.wrap IntKind.i64 ((i : Int) + (1 : Int)))))))) else _) = _
    rw [dec_t (by omega), start_eq F hF i (by omega), e1]
    change ob (follow_S F w b n w.1.1 ((List.range i).map (fun _ => w.2.1.1)) ((List.range i).map (fun _ => b.2.2.2.1))) _ = _
    by_cases hj : i = mU b n
    · have lG : ((List.range i).map (fun _ => w.2.1.1)).length = mU b n := by rw [len_rg]; exact hj
      have lH : ((List.range i).map (fun _ => b.2.2.2.1)).length = mU b n := by rw [len_rg]; exact hj
      have hcs : csOk w b w.1.1 ((List.range i).map (fun _ => w.2.1.1)) ((List.range i).map (fun _ => b.2.2.2.1)) = true := by
        unfold csOk
        rw [show inOk w.1.1 w.1.1 w.1.2 = true by unfold inOk; rw [dec_t (Int.le_refl _), dec_t v1.2.1]; rfl, all_in _ _ _ _ fun _ _ => ⟨Int.le_refl _, v2.2.1⟩, all_in _ _ _ _ fun _ _ => ⟨Int.le_refl _, v3.2.1⟩]
        rfl
      rw [follow_fine F hF h0 _ _ _ lG lH hcs, hj]
      rfl
    · have hne : ¬ (((List.range i).map (fun _ => w.2.1.1)).length = mU b n ∧ ((List.range i).map (fun _ => b.2.2.2.1)).length = mU b n) := fun h => hj (by rw [← h.1, len_rg])
      rw [follow_two F h0 _ _ _ hne]
      match j, hi, hk with
      | 0, hi, _ => exact absurd (by omega) hj
      | j + 1, hi, hk => exact aL0_loop F hF h0 hm s x fo g4 g5 j kk (i + 1) (by omega) (by omega)
/-! Both extreme courses -/
def Rm (m : Nat) : Nat := if m = 0 then 0 else if m = 1 then 1 else if m = 2 then 7 else 43
theorem dig_a : ∀ m, m < 4 → ∀ a, a < 3 → a * Rm m < 6 ^ m ∨ a * Rm m = 0 ∧ m = 0 := by decide
theorem dig_b : ∀ m, m < 4 → ∀ a, a < 3 → ∀ i, i < m → a * Rm m / 6 ^ i % 3 = a ∧ a * Rm m / 6 ^ i / 3 % 2 = 0 := by decide
theorem dig_c : ∀ m, m < 4 → ∀ a, a < 2 → ∀ i, i < m → 3 * a * Rm m / 6 ^ i % 3 = 0 ∧ 3 * a * Rm m / 6 ^ i / 3 % 2 = a := by decide
theorem dig_d : ∀ m, m < 4 → ∀ a, a < 3 → a * Rm m < 6 ^ m := by decide
theorem dig_e : ∀ m, m < 4 → ∀ a, a < 2 → 3 * a * Rm m < 6 ^ m := by decide
theorem okk_mk {w : WrT} {s : RgT} {k m : Nat} (h : ∀ i, i < m → wrk w k i ≤ w.2.1.2 ∧ slk s k i ≤ s.2) : okk w s k m = true := by
  unfold okk
  rw [List.all_eq_true]
  intro i hi
  have := h i (List.mem_range.1 hi)
  unfold okj
  rw [dec_t this.1, dec_t this.2]; rfl
/-- What a course of equal numbers has. -/
theorem same_vals {w : WrT} {b : WbT} {n : Int} {m k : Nat} {d W s : Int} (hd : 0 ≤ d) (hW : 0 ≤ W) (hg : ∀ i, i < m → wrk w k i = W) (hs : ∀ i, i < m → slk b.2.2.2 k i = s) :
    fK w b n m d k = sm (kf b n d W s m) m ∧ fE w b n m d k = mn n b.2.2.1 + rsA b n d W s m m ∧ fW w m d k = dAt d W m ∧ (∀ i, i < m → fS w b m i d k = slf b d W s i) ∧ dl d (Gk w k m) (m - 1) = dAt d W (m - 1) := by
  have bd : Bd d d W W s s d (Gk w k m) (Hk b.2.2.2 k m) m := by
    refine ⟨hd, hW, ⟨Int.le_refl _, Int.le_refl _⟩, fun i hi => ?_, fun i hi => ?_⟩
    · rw [show nth (Gk w k m) (0 : Int) i = wrk w k i from nth_map _ _ _ hi, hg i hi]; exact ⟨Int.le_refl _, Int.le_refl _⟩
    · rw [show nth (Hk b.2.2.2 k m) (0 : Int) i = slk b.2.2.2 k i from nth_map _ _ _ hi, hs i hi]; exact ⟨Int.le_refl _, Int.le_refl _⟩
  have a1 := bd.sm b n; have a2 := bd.rs b n; have a3 := bd.dl m (Nat.le_refl _); have a5 := bd.dl (m - 1) (by omega)
  refine ⟨by unfold fK; omega, by unfold fE; omega, by unfold fW; omega, fun i hi => ?_, by omega⟩
  have a4 := bd.slg b hi
  unfold fS
  omega
theorem a15_eq (F : Nat) (hF : 2000 < F) {w : WrT} {b : WbT} {n : Int} (h0 : ckI w b n = 0) (hm : mU b n ≤ 3) (hr2 : w.2.1.2 ≤ w.2.1.1 + 2) (hr3 : b.2.2.2.2 ≤ b.2.2.2.1 + 1) {br co : Int} {fo : PrT} {ga : Nat → RgT} (iv : Iv8 w b n (mU b n) (Ty8 w b.2.2.2 (mU b n) (w.1.2 + 1) 0) br co fo ga) :
    a15 F ((br, co), (prd w b n (mU b n), (fo, (rgl w b (mU b n - 1), (List.range (mU b n - 1)).map ga)))) = some true := by
  have hv := vld_of h0
  have v1 := hv.d; have v2 := hv.e; have v3 := hv.y
  obtain ⟨a, ha⟩ := Int.eq_ofNat_of_zero_le (show 0 ≤ w.2.1.2 - w.2.1.1 by omega)
  obtain ⟨s, hs⟩ := Int.eq_ofNat_of_zero_le (show 0 ≤ b.2.2.2.2 - b.2.2.2.1 by omega)
  have g1 : ∀ i, i < mU b n → wrk w (a * Rm (mU b n)) i = w.2.1.2 := fun i hi => by
    unfold wrk; rw [(dig_b (mU b n) (by omega) a (by omega) i hi).1]; omega
  have g2 : ∀ i, i < mU b n → slk b.2.2.2 (a * Rm (mU b n)) i = b.2.2.2.1 := fun i hi => by
    unfold slk; rw [(dig_b (mU b n) (by omega) a (by omega) i hi).2]; omega
  have g3 : ∀ i, i < mU b n → wrk w (3 * s * Rm (mU b n)) i = w.2.1.1 := fun i hi => by
    unfold wrk; rw [(dig_c (mU b n) (by omega) s (by omega) i hi).1]; omega
  have g4 : ∀ i, i < mU b n → slk b.2.2.2 (3 * s * Rm (mU b n)) i = b.2.2.2.2 := fun i hi => by
    unfold slk; rw [(dig_c (mU b n) (by omega) s (by omega) i hi).2]; omega
  have o1 : okk w b.2.2.2 (a * Rm (mU b n)) (mU b n) = true := okk_mk fun i hi => ⟨by rw [g1 i hi]; omega, by rw [g2 i hi]; omega⟩
  have o2 : okk w b.2.2.2 (3 * s * Rm (mU b n)) (mU b n) = true := okk_mk fun i hi => ⟨by rw [g3 i hi]; omega, by rw [g4 i hi]; omega⟩
  have p1 : Ty8 w b.2.2.2 (mU b n) (w.1.2 + 1) 0 w.1.1 (a * Rm (mU b n)) := ⟨.inl (by omega), Int.le_refl _, dig_d _ (by omega) a (by omega), o1⟩
  have p2 : Ty8 w b.2.2.2 (mU b n) (w.1.2 + 1) 0 w.1.2 (3 * s * Rm (mU b n)) := ⟨.inl (by omega), by omega, dig_e _ (by omega) s (by omega), o2⟩
  have hc := iv.p _ _ p1
  obtain ⟨x1, x2, x3, x4, x5⟩ := same_vals (n := n) (d := w.1.1) (by omega) (by omega) g1 g2
  obtain ⟨y1, y2, y3, y4, y5⟩ := same_vals (n := n) (d := w.1.2) (by omega) (by omega) g3 g4
  have qK := iv.K.fin hc p1 p2 x1 y1
  have qE := iv.E.fin hc p2 p1 y2 x2
  have qW := iv.W.fin hc p1 p2 x3 y3
  have qS := fun i (hi : i < mU b n - 1) => (iv.S i hi).fin hc p2 p1 (y4 i (by omega)) (x4 i (by omega))
  have eg : (List.range (mU b n - 1)).map ga = rgl w b (mU b n - 1) := map_cg _ _ _ qS
  rw [eg]
  have k1 := congrArg Prod.fst qK; have k2 := congrArg Prod.snd qK
  have k3 := congrArg Prod.fst qE; have k4 := congrArg Prod.snd qE
  have k5 := congrArg Prod.fst qW; have k6 := congrArg Prod.snd qW
  simp only at k1 k2 k3 k4 k5 k6
  have srg : lsameRanges_S F (rgl w b (mU b n - 1)) (rgl w b (mU b n - 1)) = some true := srg_eq F hF _ _ (by omega)
  have fin : ∀ q : Int, q = brk w (mU b n) → (ob (lsameRanges_S F (rgl w b (mU b n - 1)) (rgl w b (mU b n - 1))) (fun r10 => (bif r10 then (bif (bif false then (!((fo.1 == (prd w b n (mU b n)).1) && (fo.2.1 == (prd w b n (mU b n)).2.1))) else ((fo.1 == (prd w b n (mU b n)).1) && (fo.2.1 == (prd w b n (mU b n)).2.1))) then (bif (bif false then (!((fo.2.2.1 == (prd w b n (mU b n)).2.2.1) && (fo.2.2.2.1 == (prd w b n (mU b n)).2.2.2.1))) else ((fo.2.2.1 == (prd w b n (mU b n)).2.2.1) && (fo.2.2.2.1 == (prd w b n (mU b n)).2.2.2.1))) then (bif (bif false then (!((fo.2.2.2.2.1 == (prd w b n (mU b n)).2.2.2.2.1) && (fo.2.2.2.2.2.1 == (prd w b n (mU b n)).2.2.2.2.2.1))) else ((fo.2.2.2.2.1 == (prd w b n (mU b n)).2.2.2.2.1) && (fo.2.2.2.2.2.1 == (prd w b n (mU b n)).2.2.2.2.2.1))) then (bif ((prd w b n (mU b n)).2.2.2.2.2.2 == q) then (some true) else (some false)) else (some false)) else (some false)) else (some false)) else (some false)))) = some true := fun q hq => by
    rw [srg, k1, k2, k3, k4, k5, k6, hq]
    show (bif (bif false then _ else ((_ == _) && (_ == _))) then _ else _) = _
    rw [beq_self_eq_true, beq_self_eq_true, beq_self_eq_true, beq_self_eq_true, beq_self_eq_true, beq_self_eq_true, show (prd w b n (mU b n)).2.2.2.2.2.2 = brk w (mU b n) from rfl, beq_self_eq_true]
    rfl
  have bdl : ∀ d k, w.1.1 ≤ d → d ≤ w.1.2 → okk w b.2.2.2 k (mU b n) = true → dAt w.1.1 w.2.1.2 (mU b n - 1) ≤ dl d (Gk w k (mU b n)) (mU b n - 1) ∧ dl d (Gk w k (mU b n)) (mU b n - 1) ≤ dAt w.1.2 w.2.1.1 (mU b n - 1) := fun d k h1 h2 h3 =>
    (bd_of hv (csOk_k hv ⟨h1, h2⟩ h3) (len_Gk w k _) (len_Hk b.2.2.2 k _)).dl _ (by omega)
  have hb := iv.c
  unfold a15
  change ob (bif (br == (0 : Int)) then some ((3 : Int), (prd w b n (mU b n), fo, rgl w b (mU b n - 1), rgl w b (mU b n - 1))) else (bif (br == co) then some ((1 : Int), (prd w b n (mU b n), fo, rgl w b (mU b n - 1), rgl w b (mU b n - 1))) else some ((2 : Int), (prd w b n (mU b n), fo, rgl w b (mU b n - 1), rgl w b (mU b n - 1))))) _ = _
  by_cases hz : mU b n = 0
  · have hb0 : br = 0 := iv.b3 fun d k _ _ _ => by unfold fB; rw [hz]; rfl
    rw [hb0]
    exact fin 3 (by unfold brk; rw [if_pos hz])
  · by_cases hl : w.2.2 ≤ dAt w.1.1 w.2.1.2 (mU b n - 1)
    · have hb0 : br = 0 := iv.b3 fun d k h1 h2 h3 => by
        have := bdl d k h1 h2 h3
        unfold fB
        rw [dec_f (show ¬ dl d (Gk w k (mU b n)) (mU b n - 1) < w.2.2 by omega), Bool.and_false]
      rw [hb0]
      exact fin 3 (by unfold brk; rw [if_neg hz, if_pos hl])
    · have hb1 : br > 0 := iv.b1 _ _ p1 (by unfold fB; rw [x5, dec_t (by omega), dec_t (by omega)]; rfl)
      rw [show (br == (0 : Int)) = false from beq_eq_false_iff_ne.2 (by omega)]
      by_cases ht : dAt w.1.2 w.2.1.1 (mU b n - 1) < w.2.2
      · have hb2 : br = co := iv.b4 fun d k h1 h2 h3 => by
          have := bdl d k h1 h2 h3
          unfold fB
          rw [dec_t (show dl d (Gk w k (mU b n)) (mU b n - 1) < w.2.2 by omega), dec_t (by omega)]; rfl
        rw [hb2, beq_self_eq_true]
        exact fin 1 (by unfold brk; rw [if_neg hz, if_neg hl, if_pos ht])
      · have hb2 : br < co := iv.b2 _ _ p2 (by unfold fB; rw [y5, dec_f ht, Bool.and_false])
        rw [show (br == co) = false from beq_eq_false_iff_ne.2 (by omega)]
        exact fin 2 (by unfold brk; rw [if_neg hz, if_neg hl, if_neg ht])
theorem a1_eq (F : Nat) (hF : 2000 < F) (w : WrT) (b : WbT) (n : Int) (hr1 : w.1.2 ≤ w.1.1 + 2 ∨ ckI w b n ≠ 0) (hr2 : w.2.1.2 ≤ w.2.1.1 + 2 ∨ ckI w b n ≠ 0) (hr3 : b.2.2.2.2 ≤ b.2.2.2.1 + 1 ∨ ckI w b n ≠ 0) (hg : b.2.1 ≤ 3) : a1 F (false, ((w, (b, n)), (w, b.2.2.2))) = some true := by
  unfold a1
  change ob (predict_S F w b n) _ = _
  cases hk : (ckI w b n == 0) with
  | false =>
    rw [predict_bad F w b n hk]
    change (bif (ckI w b n != 0) then some true else _) = _
    rw [show (ckI w b n != 0) = true by unfold bne; rw [hk]; rfl]
    rfl
  | true =>
    have h0 : ckI w b n = 0 := eq_of_beq hk
    have hr1 := hr1.resolve_right (fun x => x h0)
    have hr2 := hr2.resolve_right (fun x => x h0)
    have hr3 := hr3.resolve_right (fun x => x h0)
    have hv := vld_of h0
    have v1 := hv.d
    have hm : mU b n ≤ 3 := by
      have e := mU_cast hv
      have : usN b n ≤ b.2.1 ∨ usN b n = 0 := by unfold usN; split; exact .inr rfl; split <;> exact .inl (by omega)
      rcases this with h | h
      · omega
      · omega
    have lq : (rgl w b (mU b n - 1)).length = mU b n - 1 := len_rg _ _
    have erep : List.replicate ((((rgl w b (mU b n - 1)).length : Int) - 0).toNat) ((0 : Int), (0 : Int)) = (List.range (mU b n - 1)).map (fun _ => ((0 : Int), (0 : Int))) := by
      rw [lq, show (((mU b n - 1 : Nat) : Int) - 0).toNat = mU b n - 1 by omega]
      apply List.ext_getElem
      · simp
      · intro i h1 h2; simp
    rw [predict_eq F hF h0]
    change (bif (decide ((0 : Int) ≤ ((rgl w b (mU b n - 1)).length : Int) - 0) && decide (((rgl w b (mU b n - 1)).length : Int) - 0 ≤ 1000000)) then
      ob (sAll_L0 F 0 0 (w, (b, n)) w b.2.2.2 (prd w b n (mU b n)) (0, (0, (0, (0, (0, (0, 0)))))) (rgl w b (mU b n - 1)) (List.replicate ((((rgl w b (mU b n - 1)).length : Int) - 0).toNat) ((0 : Int), (0 : Int))) F ((0 : Nat) : Int)) (fun s3 => a3 F s3) else none) = _
    rw [dec_t (by rw [lq]; omega), dec_t (by rw [lq]; omega), erep, aL0_loop F hF h0 hm b.2.2.2 (prd w b n (mU b n)) _ _ _ (mU b n) F 0 (by omega) (by omega)]
    change a3 F (((mU b n : Int), (0, 0)), ((w, (b, n)), (w, (b.2.2.2, (prd w b n (mU b n), ((0, (0, (0, (0, (0, (0, 0)))))), (rgl w b (mU b n - 1), (List.range (mU b n - 1)).map (fun _ => ((0 : Int), (0 : Int)))))))))) = _
    unfold a3
    change (bif ((mU b n : Int) == 4) then _ else ob (sAll_L1 F F (mU b n : Int) 0 0 w.1.1 (w, (b, n)) w b.2.2.2 (prd w b n (mU b n)) (0, (0, (0, (0, (0, (0, 0)))))) (rgl w b (mU b n - 1)) ((List.range (mU b n - 1)).map (fun _ => ((0 : Int), (0 : Int))))) _) = _
    rw [show ((mU b n : Int) == 4) = false from beq_eq_false_iff_ne.2 (by omega)]
    obtain ⟨j, hj⟩ := Int.eq_ofNat_of_zero_le (show 0 ≤ w.1.2 + 1 - w.1.1 by omega)
    have no : ∀ d k, ¬ Ty8 w b.2.2.2 (mU b n) w.1.1 0 d k := fun d k h => by
      obtain ⟨h1, h2, _, _⟩ := h
      omega
    obtain ⟨br, co, fo, ga, i1, i2⟩ := aL1_loop F hF h0 hm hr1 (prd w b n (mU b n)) j F w.1.1 0 0 (0, (0, (0, (0, (0, (0, 0)))))) (fun _ => ((0 : Int), (0 : Int))) (by omega) (by omega) (Int.le_refl _)
      ⟨⟨by omega, by omega⟩, fun d k h => absurd h (no d k), ⟨fun h => by omega, fun d k h => absurd h (no d k)⟩, ⟨fun h => by omega, fun d k h => absurd h (no d k)⟩, ⟨fun h => by omega, fun d k h => absurd h (no d k)⟩, fun i _ => ⟨fun h => by omega, fun d k h => absurd h (no d k)⟩, fun d k h => absurd h (no d k), fun d k h => absurd h (no d k), fun _ => rfl, fun _ => rfl⟩ (by omega)
    change ob (sAll_L1 F F (mU b n : Int) 0 0 w.1.1 (w, (b, n)) w b.2.2.2 (prd w b n (mU b n)) (0, (0, (0, (0, (0, (0, 0)))))) (rgl w b (mU b n - 1)) ((List.range (mU b n - 1)).map (fun _ => ((0 : Int), (0 : Int))))) _ = _
    rw [i1]
    exact a15_eq F hF h0 hm hr2 hr3 i2
theorem sAll_law0 (c : SwT) : sAll_S 3000 c = some true := by
  obtain ⟨w, b, n⟩ := c
  rw [all_def]
  have sub : ∀ (p q k : Int), ¬ IntKind.wrap IntKind.i64 (q - p) > k → 0 ≤ k ∧ k ≤ 5 → ckI w b n = 0 → 0 ≤ p ∧ p ≤ 10000000 ∧ 0 ≤ q ∧ q ≤ 10000000 → q ≤ p + k := fun p q k h hk _ hr => by
    rw [w64 _ (by omega)] at h
    omega
  have rng : ckI w b n = 0 → (0 ≤ w.1.1 ∧ w.1.1 ≤ 10000000 ∧ 0 ≤ w.1.2 ∧ w.1.2 ≤ 10000000) ∧ (0 ≤ w.2.1.1 ∧ w.2.1.1 ≤ 10000000 ∧ 0 ≤ w.2.1.2 ∧ w.2.1.2 ≤ 10000000) ∧ (0 ≤ b.2.2.2.1 ∧ b.2.2.2.1 ≤ 10000000 ∧ 0 ≤ b.2.2.2.2 ∧ b.2.2.2.2 ≤ 10000000) := fun h0 => by
    have hv := vld_of h0
    have v1 := hv.d; have v2 := hv.e; have v3 := hv.y
    omega
  have yes : ∀ v, a1 3000 (true, v) = some true := fun v => rfl
  change ob (bif (decide ((IntKind.wrap IntKind.i64 (w.1.2 - w.1.1)) > (2 : Int))) then some (true, ((w, (b, n)), (w, b.2.2.2))) else (bif (decide ((IntKind.wrap IntKind.i64 (w.2.1.2 - w.2.1.1)) > (2 : Int))) then some (true, ((w, (b, n)), (w, b.2.2.2))) else (bif (decide ((IntKind.wrap IntKind.i64 (b.2.2.2.2 - b.2.2.2.1)) > (1 : Int))) then some (true, ((w, (b, n)), (w, b.2.2.2))) else some ((decide (b.2.1 > (3 : Int))), ((w, (b, n)), (w, b.2.2.2)))))) (fun s1 => a1 3000 s1) = _
  by_cases c1 : (IntKind.wrap IntKind.i64 (w.1.2 - w.1.1)) > (2 : Int)
  · rw [dec_t c1]; exact yes _
  · rw [dec_f c1]
    by_cases c2 : (IntKind.wrap IntKind.i64 (w.2.1.2 - w.2.1.1)) > (2 : Int)
    · rw [dec_t c2]; exact yes _
    · rw [dec_f c2]
      by_cases c3 : (IntKind.wrap IntKind.i64 (b.2.2.2.2 - b.2.2.2.1)) > (1 : Int)
      · rw [dec_t c3]; exact yes _
      · rw [dec_f c3]
        by_cases c4 : b.2.1 > 3
        · rw [dec_t c4]; exact yes _
        · rw [dec_f c4]
          by_cases h0 : ckI w b n = 0
          · obtain ⟨r1, r2, r3⟩ := rng h0
            exact a1_eq 3000 (by decide) w b n (.inl (sub _ _ 2 c1 (by decide) h0 r1)) (.inl (sub _ _ 2 c2 (by decide) h0 r2)) (.inl (sub _ _ 1 c3 (by decide) h0 r3)) (by omega)
          · exact a1_eq 3000 (by decide) w b n (.inr h0) (.inr h0) (.inr h0) (by omega)
end Go.Proofs.YtdfgmfddkcmalaaDoor
