/- The plain law of SliceNarrows. No condition. -/
import Derived.Test.YtdfgmfddkcmalaaDoorWLN8a
namespace Go.Proofs.YtdfgmfddkcmalaaDoor
open Go.RowKit
set_option maxRecDepth 100000
theorem sN_loop (F : Nat) (x : PrT) (g : List Int) (y : PrT) (h : List Int) (f f' : Nat → RgT) (q : Nat) (hq : q ≤ 2000) (hin : ∀ i, rin' (f' i) (f i)) (hg : ∀ i : Nat, i < g.length → nth g (0 : Int) i ≠ 2 → i < h.length ∧ nth h (0 : Int) i = nth g (0 : Int) i) : ∀ (j k i : Nat), i + j = q → j < k →
    sNarrows_L0 F k i x g y h ((List.range q).map f) ((List.range q).map f') = some (.inr (x, y, (List.range q).map f, (List.range q).map f'))
  | j, 0, i, _, hk => by omega
  | 0, k + 1, i, hi, _ => by
    have e : i = q := by omega
    subst e
    show (bif decide ((i : Int) < ((((List.range i).map f).length - 0 : Nat) : Int)) then _ else _) = _
    rw [len_rg, dec_f (by omega)]; rfl
  | j + 1, k + 1, i, hi, hk => by
    have e1 : IntKind.wrap IntKind.i64 ((i : Int) + 1) = ((i + 1 : Nat) : Int) := by rw [w64 _ (by omega)]; omega
    have ih := sN_loop F x g y h f f' q hq hin hg j k (i + 1) (by omega) (by omega)
    show (bif decide ((i : Int) < ((((List.range q).map f).length - 0 : Nat) : Int)) then ob (bif inB (i : Int) (((List.range q).map f').length - 0) then (bif inB (i : Int) (((List.range q).map f).length - 0) then
      ob (lin_S F (nth ((List.range q).map f') (TC.dflt (TC.pair (TC.int IntKind.i64) (TC.int IntKind.i64))) i) (nth ((List.range q).map f) (TC.dflt (TC.pair (TC.int IntKind.i64) (TC.int IntKind.i64))) i)) (fun r9 => bif (!r9) then some (((i : Int), true), (x, g, y, h, (List.range q).map f, (List.range q).map f')) else
        (bif decide ((i : Int) < (((g.length - 0 : Nat)) : Int)) then (bif inB (i : Int) (g.length - 0) then (bif (nth g (0 : Int) i != 2) then (bif inB (i : Int) (h.length - 0) then (bif inB (i : Int) (g.length - 0) then some (((i : Int), (nth h (0 : Int) i != nth g (0 : Int) i)), (x, g, y, h, (List.range q).map f, (List.range q).map f')) else none) else none) else some (((i : Int), false), (x, g, y, h, (List.range q).map f, (List.range q).map f'))) else none) else some (((i : Int), false), (x, g, y, h, (List.range q).map f, (List.range q).map f')))) else none) else none)
      (fun s2 => bif s2.1.2 then some (.inl false) else sNarrows_L0 F k (IntKind.wrap IntKind.i64 (s2.1.1 + 1)) s2.2.1 s2.2.2.1 s2.2.2.2.1 s2.2.2.2.2.1 s2.2.2.2.2.2.1 s2.2.2.2.2.2.2) else _) = _
    rw [len_rg, len_rg, nth_rg f _ q i (by omega), nth_rg f' _ q i (by omega), dec_t (by omega), inB_t (show i < q - 0 by omega), lin_eq F _ _ (hin i)]
    have fin : ob (some (((i : Int), false), (x, g, y, h, (List.range q).map f, (List.range q).map f'))) (fun s2 => bif s2.1.2 then (some (.inl false) : Option (Bool ⊕ (PrT × (PrT × ((List RgT) × (List RgT)))))) else sNarrows_L0 F k (IntKind.wrap IntKind.i64 (s2.1.1 + 1)) s2.2.1 s2.2.2.1 s2.2.2.2.1 s2.2.2.2.2.1 s2.2.2.2.2.2.1 s2.2.2.2.2.2.2) = some (.inr (x, y, (List.range q).map f, (List.range q).map f')) := by
      show sNarrows_L0 F k (IntKind.wrap IntKind.i64 ((i : Int) + 1)) x g y h ((List.range q).map f) ((List.range q).map f') = _
      rw [e1]; exact ih
    by_cases hl : i < g.length
    · change ob (bif decide ((i : Int) < (((g.length - 0 : Nat)) : Int)) then (bif inB (i : Int) (g.length - 0) then (bif (nth g (0 : Int) i != 2) then (bif inB (i : Int) (h.length - 0) then (bif inB (i : Int) (g.length - 0) then some (((i : Int), (nth h (0 : Int) i != nth g (0 : Int) i)), (x, g, y, h, (List.range q).map f, (List.range q).map f')) else none) else none) else some (((i : Int), false), (x, g, y, h, (List.range q).map f, (List.range q).map f'))) else none) else some (((i : Int), false), (x, g, y, h, (List.range q).map f, (List.range q).map f'))) _ = _
      rw [dec_t (show (i : Int) < ((g.length - 0 : Nat) : Int) by omega), inB_t (show i < g.length - 0 by omega)]
      cases h2 : (nth g (0 : Int) i != 2) with
      | false => exact fin
      | true =>
        obtain ⟨a1, a2⟩ := hg i hl (bne_iff_ne.1 h2)
        rw [inB_t (show i < h.length - 0 by omega), a2, bne_self_eq_false]
        exact fin
    · change ob (bif decide ((i : Int) < (((g.length - 0 : Nat)) : Int)) then _ else some (((i : Int), false), (x, g, y, h, (List.range q).map f, (List.range q).map f'))) _ = _
      rw [dec_f (show ¬ (i : Int) < ((g.length - 0 : Nat) : Int) by omega)]
      exact fin
theorem kerf_in {w w' : WrT} {b b' : WbT} (q : Nrw w w' b b') (n : Int) (m : Nat) : rin' (sm (kf b' n w'.1.1 w'.2.1.2 b'.2.2.2.1 m) m, sm (kf b' n w'.1.2 w'.2.1.1 b'.2.2.2.2 m) m) (sm (kf b n w.1.1 w.2.1.2 b.2.2.2.1 m) m, sm (kf b n w.1.2 w.2.1.1 b.2.2.2.2 m) m) := by
  have hd := q.d; have he := q.e; have hy := q.y
  exact ⟨sm_mono _ _ m fun i _ => by
      have := kf_mono (b := b) (b' := b) (n := n) (d := w.1.1) (d' := w'.1.1) (wear := w.2.1.2) (wear' := w'.2.1.2) (sl := b.2.2.2.1) (sl' := b'.2.2.2.1) m i rfl (by omega) (by omega) (by omega)
      have h2 : kf b n w'.1.1 w'.2.1.2 b'.2.2.2.1 m i = kf b' n w'.1.1 w'.2.1.2 b'.2.2.2.1 m i := by unfold kf; rw [q.plc]
      omega,
    sm_mono _ _ m fun i _ => kf_mono m i (q.plc i) (by omega) (by omega) (by omega),
    sm_mono _ _ m fun i _ => kf_mono m i rfl (by omega) (by omega) (by omega)⟩
theorem ends_in {w w' : WrT} {b b' : WbT} (q : Nrw w w' b b') (n : Int) (m : Nat) : rin' (mn n b'.2.2.1 + rsA b' n w'.1.2 w'.2.1.1 b'.2.2.2.2 m m, mn n b'.2.2.1 + rsA b' n w'.1.1 w'.2.1.2 b'.2.2.2.1 m m) (mn n b.2.2.1 + rsA b n w.1.2 w.2.1.1 b.2.2.2.2 m m, mn n b.2.2.1 + rsA b n w.1.1 w.2.1.2 b.2.2.2.1 m m) := by
  have hd := q.d; have he := q.e; have hy := q.y
  have h1 := rsA_mono (b := b) (b' := b') (n := n) (d := w'.1.2) (d' := w.1.2) (wear := w'.2.1.1) (wear' := w.2.1.1) (sl := b'.2.2.2.2) (sl' := b.2.2.2.2) m q.plc (by omega) (by omega) (by omega)
  have h2 := rsA_mono (b := b') (b' := b) (n := n) (d := w.1.1) (d' := w'.1.1) (wear := w.2.1.2) (wear' := w'.2.1.2) (sl := b.2.2.2.1) (sl' := b'.2.2.2.1) m (fun i => (q.plc i).symm) (by omega) (by omega) (by omega)
  have h3 := rsA_mono (b := b') (b' := b') (n := n) (d := w'.1.1) (d' := w'.1.2) (wear := w'.2.1.2) (wear' := w'.2.1.1) (sl := b'.2.2.2.1) (sl' := b'.2.2.2.2) m (fun _ => rfl) (by omega) (by omega) (by omega)
  unfold rin'
  rw [q.s]
  simp only
  omega
theorem wire_in {w w' : WrT} {b b' : WbT} (q : Nrw w w' b b') (m : Nat) : rin' (dAt w'.1.1 w'.2.1.2 m, dAt w'.1.2 w'.2.1.1 m) (dAt w.1.1 w.2.1.2 m, dAt w.1.2 w.2.1.1 m) := by
  have hd := q.d; have he := q.e
  exact ⟨dAt_mono (by omega) (by omega) m, dAt_mono (by omega) (by omega) m, dAt_mono (by omega) (by omega) m⟩
theorem brk_in {w w' : WrT} {b b' : WbT} (q : Nrw w w' b b') (m : Nat) (h : brk w m ≠ 2) : brk w' m = brk w m := by
  have h1 := (wire_in q (m - 1)).1
  have h2 := (wire_in q (m - 1)).2.1
  have h3 := (wire_in q (m - 1)).2.2
  simp only at h1 h2 h3
  unfold brk at h ⊢
  rw [q.l]
  by_cases hm : m = 0
  · rw [if_pos hm, if_pos hm]
  · rw [if_neg hm] at h ⊢
    rw [if_neg hm]
    by_cases c1 : w.2.2 ≤ dAt w.1.1 w.2.1.2 (m - 1)
    · rw [if_pos c1, if_pos (by omega)]
    · rw [if_neg c1] at h ⊢
      by_cases c2 : dAt w.1.2 w.2.1.1 (m - 1) < w.2.2
      · rw [if_pos c2, if_neg (by omega), if_pos (by omega)]
      · rw [if_neg c2] at h; exact absurd rfl h
end Go.Proofs.YtdfgmfddkcmalaaDoor
