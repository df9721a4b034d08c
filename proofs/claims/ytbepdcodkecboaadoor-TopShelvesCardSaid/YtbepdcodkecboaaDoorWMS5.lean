/- Plain laws of TopShelves: the market that is made, and what the book holds. No condition. -/
import Derived.Test.YtbepdcodkecboaaDoorWS8
import Derived.Test.YtbepdcodkecboaaDoorWXB9
import Derived.Test.YtbepdcodkecboaaDoorWMK18
import Derived.Test.YtbepdcodkecboaaDoorWMD3c
import Derived.Test.YtbepdcodkecboaaDoorWYF
import Derived.Test.YtbepdcodkecboaaDoorWYR

namespace Go.Proofs.YtbepdcodkecboaaDoor
open Go.RowKit
set_option maxRecDepth 100000
abbrev QdT := Int × (Int × (Int × Int))
abbrev dQ : QdT := (TC.dflt (TC.pair (TC.int IntKind.u8) (TC.pair (TC.int IntKind.u8) (TC.pair (TC.int IntKind.u8) (TC.int IntKind.u8)))))
abbrev dR : Int × Int := (TC.dflt (TC.pair (TC.int IntKind.i64) (TC.int IntKind.i64)))
def gauge5 : ByteArray := (ByteArray.mk (Array.mk (103 :: (97 :: (117 :: (103 :: (101 :: [])))))))
/-- The specification of an order for a thickness. -/
def spF (lo : Int) (d : QdT) : SpT := ((((-1000000000000000 : Int), (1000000000000000 : Int)), (((-1000000000000000 : Int), (1000000000000000 : Int)), (((-1000000000000000 : Int), (1000000000000000 : Int)), ((lo + Int.tmod d.1 16, lo + Int.tmod d.1 16 + d.2.1), (((-1000000000000000 : Int), (1000000000000000 : Int)), ((-1000000000000000 : Int), (1000000000000000 : Int))))))), (31 : Int))
/-- The order. -/
def odF (d : QdT) (i : Nat) : OdT := ((i : Int), (Int.tmod d.2.2.1 4, (d.2.2.2, (9 : Int))))
/-- The wafer of a slice. -/
def wfF (r : Int × Int) : WfT := ((((0 : Int), (0 : Int)), (((0 : Int), (0 : Int)), (((0 : Int), (0 : Int)), (r, (((0 : Int), (0 : Int)), ((0 : Int), (0 : Int))))))), ((1 : Int), (gauge5, (gauge5, (gauge5, (gauge5, (gauge5, gauge5)))))))
theorem bytesR {d : QdT} (h : (0 ≤ d.1 ∧ d.1 ≤ 255) ∧ (0 ≤ d.2.1 ∧ d.2.1 ≤ 255) ∧ (0 ≤ d.2.2.1 ∧ d.2.2.1 ≤ 255) ∧ 0 ≤ d.2.2.2 ∧ d.2.2.2 ≤ 255) : (0 ≤ Int.tmod d.1 16 ∧ Int.tmod d.1 16 < 16) ∧ 0 ≤ Int.tmod d.2.2.1 4 ∧ Int.tmod d.2.2.1 4 < 4 := by
  rw [Int.tmod_eq_emod_of_nonneg h.1.1, Int.tmod_eq_emod_of_nonneg h.2.2.1.1]
  omega
theorem okR_of {r : Int × Int} (h : -1000000000000000 ≤ r.1 ∧ r.1 ≤ r.2 ∧ r.2 ≤ 1000000000000000) : okR r = true := by
  unfold okR
  simp only [Bool.or_eq_true, Bool.and_eq_true, Bool.not_eq_true', Bool.or_eq_false_iff, decide_eq_true_eq, decide_eq_false_iff_not]
  omega
def bytesOk (l : List QdT) : Prop := ∀ d ∈ l, (0 ≤ d.1 ∧ d.1 ≤ 255) ∧ (0 ≤ d.2.1 ∧ d.2.1 ≤ 255) ∧ (0 ≤ d.2.2.1 ∧ d.2.2.1 ≤ 255) ∧ 0 ≤ d.2.2.2 ∧ d.2.2.2 ≤ 255
theorem sp_ok {lo : Int} {d : QdT} (hl : -1000 ≤ lo ∧ lo ≤ 100000000) (h : (0 ≤ d.1 ∧ d.1 ≤ 255) ∧ (0 ≤ d.2.1 ∧ d.2.1 ≤ 255) ∧ (0 ≤ d.2.2.1 ∧ d.2.2.1 ≤ 255) ∧ 0 ≤ d.2.2.2 ∧ d.2.2.2 ≤ 255) : spB (spF lo d) = true := by
  have := bytesR h
  have e0 : okR ((-1000000000000000 : Int), (1000000000000000 : Int)) = true := by decide
  have e1 : okR (lo + Int.tmod d.1 16, lo + Int.tmod d.1 16 + d.2.1) = true := okR_of (by dsimp only; omega)
  unfold spB rgB spF
  simp only [e0, e1, Bool.and_true]
  rfl
theorem gB_gauge : gB gauge5 = true := by decide +kernel
theorem wf_ok {r : Int × Int} (h : -1000000000000000 ≤ r.1 ∧ r.1 ≤ r.2 ∧ r.2 ≤ 1000000000000000) : wfB (wfF r) = true := by
  have e0 : okR ((0 : Int), (0 : Int)) = true := by decide
  have e1 : okR r = true := okR_of h
  unfold wfB rgB wfF
  simp only [gB_gauge, e0, e1, Bool.and_true]
  rfl
theorem wf_sh (r : Int × Int) : shortW (wfF r) := by
  unfold shortW wfF
  have h : gauge5.size ≤ 40 := by decide
  exact ⟨h, h, h, h, h, h⟩
/-- The lists of the market. -/
def spL (lo : Int) (l : List QdT) (k : Nat) : List SpT := (List.range k).map (fun i => spF lo (nth l dQ i))
def odL (l : List QdT) (k : Nat) : List OdT := (List.range k).map (fun i => odF (nth l dQ i) i)
def wfL (sl : List (Int × Int)) (k : Nat) : List WfT := (List.range k).map (fun i => wfF (nth sl dR i))
theorem spL_s (lo : Int) (l : List QdT) (k : Nat) : spL lo l k ++ (spF lo (nth l dQ k) :: []) = spL lo l (k + 1) := range_snoc _ _
theorem odL_s (l : List QdT) (k : Nat) : odL l k ++ (odF (nth l dQ k) k :: []) = odL l (k + 1) := range_snoc (fun i => odF (nth l dQ i) i) k
theorem wfL_s (sl : List (Int × Int)) (k : Nat) : wfL sl k ++ (wfF (nth sl dR k) :: []) = wfL sl (k + 1) := range_snoc (fun i => wfF (nth sl dR i)) k
theorem spL_n (lo : Int) (l : List QdT) (k : Nat) : (spL lo l k).length = k := by unfold spL; simp
theorem odL_n (l : List QdT) (k : Nat) : (odL l k).length = k := by unfold odL; simp
theorem wfL_n (sl : List (Int × Int)) (k : Nat) : (wfL sl k).length = k := by unfold wfL; simp
abbrev C10T := Int × (Int × (Int × (Int × (Int × (Int × (Int × (Int × (Int × Int))))))))
theorem shel0 (F : Nat) (g0 : List Int) (l : List QdT) (hb : bytesOk l) (hl : l.length ≤ 5) (c1 : C10T) (x : Int × (Int × (Int × (Int × (Int × (Int × Int)))))) (g12 : List (Int × Int)) (lo : Int) (ar0 : A0) (ar1 : A1) (ar2 : A2) (ar3 : A3)
    (hlo : lo = c1.2.2.2.2.2.1 - c1.2.1 - c1.2.2.2.2.2.2.2.2.2 - 8) (h1 : 0 ≤ c1.2.1 ∧ c1.2.1 ≤ 10000000) (h2 : 0 ≤ c1.2.2.2.2.2.1 ∧ c1.2.2.2.2.2.1 ≤ 10000000) (h3 : 0 ≤ c1.2.2.2.2.2.2.2.2.2 ∧ c1.2.2.2.2.2.2.2.2.2 ≤ 10000000) : ∀ (m i n : Nat), i + m = l.length → m < n →
    tShelves_L0 F g0 l ar0 ar1 ar2 ar3 c1 x g12 n (i : Int) (spL lo l i) (odL l i) = some (g0, l, ar0, ar1, ar2, ar3, x, g12, spL lo l l.length, odL l l.length)
  | 0, i, n + 1, hi, _ => by
    have : i = l.length := by omega
    subst this
    rw [tShelves_L0, lt_f', cond_false]
  | m + 1, i, n + 1, hi, hn => by
    have hil : i < l.length := by omega
    have hd := hb _ (nth_mem (d := dQ) hil)
    have ht := bytesR hd
    rw [tShelves_L0, lt_t' hil, cond_true]
    have e1 : inB (i : Int) (l.length - 0) = true := inB_nat (by omega)
    have w1 : IntKind.wrap IntKind.i64 (nth l dQ i).1 = (nth l dQ i).1 := w64 _ (by omega)
    have w2 : IntKind.wrap IntKind.i64 (nth l dQ i).2.1 = (nth l dQ i).2.1 := w64 _ (by omega)
    have w3 : IntKind.wrap IntKind.i64 (nth l dQ i).2.2.1 = (nth l dQ i).2.2.1 := w64 _ (by omega)
    have w4 : IntKind.wrap IntKind.i64 (nth l dQ i).2.2.2 = (nth l dQ i).2.2.2 := w64 _ (by omega)
    have w5 : IntKind.wrap IntKind.i64 (c1.2.2.2.2.2.1 - c1.2.1) = c1.2.2.2.2.2.1 - c1.2.1 := w64 _ (by omega)
    have w6 : IntKind.wrap IntKind.i64 (c1.2.2.2.2.2.1 - c1.2.1 - c1.2.2.2.2.2.2.2.2.2) = c1.2.2.2.2.2.1 - c1.2.1 - c1.2.2.2.2.2.2.2.2.2 := w64 _ (by omega)
    have w7 : IntKind.wrap IntKind.i64 (c1.2.2.2.2.2.1 - c1.2.1 - c1.2.2.2.2.2.2.2.2.2 - 8) = lo := by rw [w64 _ (by omega), hlo]
    have w8 : IntKind.wrap IntKind.i64 (lo + Int.tmod (nth l dQ i).1 16) = lo + Int.tmod (nth l dQ i).1 16 := w64 _ (by omega)
    have w9 : IntKind.wrap IntKind.i64 (lo + Int.tmod (nth l dQ i).1 16 + (nth l dQ i).2.1) = lo + Int.tmod (nth l dQ i).1 16 + (nth l dQ i).2.1 := w64 _ (by omega)
    simp only [e1, cond_true, Int.toNat_natCast, w1, w2, w3, w4, w5, w6, w7, w8, w9]
    rw [show lenOk2 ((spL lo l i).length - 0) _ = true from lenOk2_sm (by rw [spL_n, List.length_singleton]; omega), show lenOk ((odL l i).length - 0) _ = true from lenOk_sm (by rw [odL_n, List.length_singleton]; omega)]
    simp only [cond_true]
    rw [i64s (by omega)]
    have := shel0 F g0 l hb hl c1 x g12 lo ar0 ar1 ar2 ar3 hlo h1 h2 h3 m (i + 1) n (by omega) (by omega)
    rw [← spL_s, ← odL_s] at this
    exact this
  | m, i, 0, _, hn => by omega
end Go.Proofs.YtbepdcodkecboaaDoor


namespace Go.Proofs.YtbepdcodkecboaaDoor
open Go.RowKit
set_option maxRecDepth 100000
theorem dO_q {d : QdT} {i k : Nat} (h : (0 ≤ d.1 ∧ d.1 ≤ 255) ∧ (0 ≤ d.2.1 ∧ d.2.1 ≤ 255) ∧ (0 ≤ d.2.2.1 ∧ d.2.2.1 ≤ 255) ∧ 0 ≤ d.2.2.2 ∧ d.2.2.2 ≤ 255) (hi : i < k) : odB k (odF d i) = true := by
  have := bytesR h
  rw [odB_iff]
  unfold odF
  dsimp only
  omega
theorem odL_nth {l : List QdT} {k i : Nat} (h : i < k) : nth (odL l k) dO i = odF (nth l dQ i) i := nth_map_range (fun i => odF (nth l dQ i) i) _ h
section
variable {lo : Int} {l : List QdT} {sl : List (Int × Int)}
/-- All orders are taken. -/
theorem shel1 (F : Nat) (g0 : List Int) (hb : bytesOk l) (hl : l.length ≤ 5) (x : Int × (Int × (Int × (Int × (Int × (Int × Int)))))) (g12 : List (Int × Int)) (hs : spsB (spL lo l l.length) = true) (h0 : ∀ s ∈ spL lo l l.length, 0 ≤ s.2) : ∀ (m i n : Nat) (ors : List Nat) (ar0 : A0) (ar1 : A1) (ar2 : A2) (ar3 : A3), i + m = l.length → m < n →
    BInv [] [] (odL l i) ((List.range i).map (fun _ => false)) ors ar2 ar3 → BVal (spL lo l l.length) [] [] (odL l i) ((List.range i).map (fun _ => false)) →
    ∃ (ors' : List Nat) (ar2' : A2) (ar3' : A3), tShelves_L1 F g0 l x g12 (spL lo l l.length) (odL l l.length) n (i : Int) ar0 ar1 ar2 ar3 (spL lo l l.length) [] ors = some (.inr (g0, l, ar0, ar1, ar2', ar3', x, g12, spL lo l l.length, odL l l.length, spL lo l l.length, [], ors')) ∧
      BInv [] [] (odL l l.length) ((List.range l.length).map (fun _ => false)) ors' ar2' ar3' ∧ BVal (spL lo l l.length) [] [] (odL l l.length) ((List.range l.length).map (fun _ => false))
  | 0, i, n + 1, ors, ar0, ar1, ar2, ar3, hi, _, h, v => by
    have : i = l.length := by omega
    subst this
    rw [tShelves_L1, odL_n, lt_f', cond_false]
    exact ⟨_, _, _, rfl, h, v⟩
  | m + 1, i, n + 1, ors, ar0, ar1, ar2, ar3, hi, hn, h, v => by
    have hil : i < l.length := by omega
    have ho : odB (spL lo l l.length).length (odF (nth l dQ i) i) = true := by rw [spL_n]; exact dO_q (hb _ (nth_mem hil)) hil
    obtain ⟨ors', ar2', ar3', e1, e2⟩ := bOrder_eq F h (by rw [odL_n]; omega) v.sl (odF (nth l dQ i) i) ar0 ar1
    have h6 : ((odL l i).length == 12) = false := by rw [beq_eq_false_iff_ne, odL_n]; omega
    rw [ho, h6] at e1 e2
    simp only [Bool.not_true, Bool.not_false, Bool.and_true, cond_true, cond_false] at e1 e2
    rw [tShelves_L1, odL_n, lt_t' hil, cond_true, show inB (i : Int) (l.length - 0) = true from inB_nat (by omega), cond_true, Int.toNat_natCast]
    rw [show nth (odL l l.length) (TC.dflt (TC.pair (TC.int IntKind.i64) (TC.pair (TC.int IntKind.i64) (TC.pair (TC.int IntKind.i64) (TC.int IntKind.i64))))) i = odF (nth l dQ i) i from odL_nth hil]
    rw [e1]
    have e3 : (((odL l i).length : Int) != (i : Int)) = false := by rw [bne_eq_false_iff_eq, odL_n]
    simp only [ob, bne_self_eq_false, cond_false, e3]
    rw [i64s (by omega)]
    rw [odL_s, range_snoc (fun _ => false)] at e2
    have v2 := v.order h ho (by rw [odL_n]; omega) ((List.range (i + 1)).map (fun _ => false))
    rw [odL_s] at v2
    exact shel1 F g0 hb hl x g12 hs h0 m (i + 1) n ors' ar0 ar1 ar2' ar3' (by omega) (by omega) e2 v2
  | m, i, 0, _, _, _, _, _, _, hn, _, _ => by omega
/-- All wafers are stocked. -/
theorem shel2 (F : Nat) (g0 : List Int) (x : Int × (Int × (Int × (Int × (Int × (Int × Int)))))) {sp : List SpT} {od : List OdT} {ca : List Bool} (odl : List OdT) (hq : sl.length ≤ 20) (hr : ∀ r ∈ sl, -1000000000000000 ≤ r.1 ∧ r.1 ≤ r.2 ∧ r.2 ≤ 1000000000000000) (ors : List Nat) (ar0 : A0) (ar1 : A1) (ar2 : A2) (ar3 : A3) : ∀ (m i n : Nat), i + m = sl.length → m < n →
    BInv (wfL sl i) ((List.range i).map (fun _ => (-1 : Int))) od ca ors ar2 ar3 → BVal sp (wfL sl i) ((List.range i).map (fun _ => (-1 : Int))) od ca →
    tShelves_L2 F g0 l x sl sp odl n (i : Int) ar0 ar1 ar2 ar3 (wfL sl i) sp (wfL sl i) ors = some (.inr (g0, l, ar0, ar1, ar2, ar3, sp, wfL sl sl.length, odl, sp, wfL sl sl.length, ors)) ∧
      BInv (wfL sl sl.length) ((List.range sl.length).map (fun _ => (-1 : Int))) od ca ors ar2 ar3 ∧ BVal sp (wfL sl sl.length) ((List.range sl.length).map (fun _ => (-1 : Int))) od ca
  | 0, i, n + 1, hi, _, h, v => by
    have : i = sl.length := by omega
    subst this
    rw [tShelves_L2, lt_f', cond_false]
    exact ⟨rfl, h, v⟩
  | m + 1, i, n + 1, hi, hn, h, v => by
    have hil : i < sl.length := by omega
    have hw : wfB (wfF (nth sl dR i)) = true := wf_ok (hr _ (nth_mem hil))
    have hst := bStock_eq (sp := sp) (ors := ors) (ar2 := ar2) (ar3 := ar3) F v.wl (wfF (nth sl dR i)) (by unfold wfF; dsimp only; omega) (wf_sh _) ar0 ar1
    have h6 : ((wfL sl i).length == 60) = false := by rw [beq_eq_false_iff_ne, wfL_n]; omega
    rw [hw, h6] at hst
    simp only [Bool.not_true, Bool.not_false, Bool.and_true, cond_true, cond_false] at hst
    rw [wfL_s] at hst
    have e4 : lenOk ((wfL sl i).length - 0) (wfF (nth sl dR i) :: []).length = true := lenOk_sm (by rw [wfL_n, List.length_singleton]; omega)
    have e3 : (((wfL sl i).length : Int) != (i : Int)) = false := by rw [bne_eq_false_iff_eq, wfL_n]
    have h2 := h.stock (wfF (nth sl dR i))
    have v2 := v.stock hw (wf_sh _) (by rw [wfL_n]; omega)
    rw [wfL_s, range_snoc (fun _ => (-1 : Int))] at h2 v2
    have ih := shel2 F g0 x odl hq hr ors ar0 ar1 ar2 ar3 m (i + 1) n (by omega) (by omega) h2 v2
    refine ⟨?_, ih.2⟩
    rw [tShelves_L2, lt_t' hil, cond_true, show inB (i : Int) (sl.length - 0) = true from inB_nat (by omega), cond_true, Int.toNat_natCast]
    show (bif lenOk ((wfL sl i).length - 0) (wfF (nth sl dR i) :: []).length then ob (bStock_S F (wfF (nth sl dR i)) sp (wfL sl i) ors ar0 ar1 ar2 ar3) (fun r3 => (bif (r3.1.2 != (0 : Int)) then _ else (bif (r3.1.1 != (i : Int)) then _ else (tShelves_L2 F g0 l x sl sp odl n (IntKind.wrap IntKind.i64 ((i : Int) + (1 : Int))) r3.2.2.2.1 r3.2.2.2.2.1 r3.2.2.2.2.2.1 r3.2.2.2.2.2.2.1 (wfL sl i ++ (wfF (nth sl dR i) :: [])) r3.2.1 r3.2.2.2.2.2.2.2 r3.2.2.1)))) else none) = _
    rw [e4, cond_true, hst]
    simp only [ob, bne_self_eq_false, cond_false, e3]
    rw [i64s (by omega), wfL_s]
    exact ih.1
  | m, i, 0, _, hn, _, _ => by omega
end
end Go.Proofs.YtbepdcodkecboaaDoor


namespace Go.Proofs.YtbepdcodkecboaaDoor
open Go.RowKit
set_option maxRecDepth 100000
abbrev EvT := Int × (RgT × (RgT × ByteArray))
def lnL (s : SpT) (w : WfT) : List EvT := [(0, (w.1.1, (s.1.1, w.2.2.1))), (1, (w.1.2.1, (s.1.2.1, w.2.2.2.1))), (2, (w.1.2.2.1, (s.1.2.2.1, w.2.2.2.2.1))), (3, (w.1.2.2.2.1, (s.1.2.2.2.1, w.2.2.2.2.2.1))), (4, (w.1.2.2.2.2.1, (s.1.2.2.2.2.1, w.2.2.2.2.2.2.1))), (5, (w.1.2.2.2.2.2, (s.1.2.2.2.2.2, w.2.2.2.2.2.2.2)))]
theorem certify_fit (F : Nat) {s : SpT} {w : WfT} (hu : 0 ≤ w.2.1 ∧ w.2.1 ≤ 255) (hs : shortW w) (h1 : spB s = true) (h2 : wfB w = true) (h3 : fltI s w = -1) : certify_S F s w = some ((0, 0), lnL s w) := by
  unfold certify_S
  rw [isSp, h1, isWf F w hu hs, h2]
  show ob (fault_S F s w) _ = _
  rw [fault_eq]
  show (bif decide (fltI s w ≥ 0) then some ((fltI s w, 100), []) else some ((0, 0), lnL s w)) = _
  rw [h3]
  rfl
theorem lnL_n (s : SpT) (w : WfT) : ((((lnL s w).length - 0) : Int) != (6 : Int)) = false := rfl
section
variable {sp : List SpT} {wf : List WfT} {at_ at' : List Int} {od : List OdT} {ca : List Bool} {ors : List Nat} {ar2 : A2} {ar3 : A3}
theorem BVal.odiS (v : BVal sp wf at_ od ca) : odIn sp od := fun i hi => by
  have := (odB_iff.1 (v.ov i hi)).1
  omega
/-- How many are placed, and what they earn, of what a list is worth. -/
theorem rk_num (hM : MOk sp wf od) (tl : List Int) : ∀ (m j : Nat) (lf : Nat → Int) (v : Int), j + m = tl.length → rkF wf.length od.length (pmM sp wf od) (wO od) j (tl.drop j) lf 0 = some v → 1000000000 * ((pkN tl j).length : Int) ≤ v ∧ v ≤ 1001000000 * ((pkN tl j).length : Int)
  | 0, j, lf, v, hj, h => by
    have : j = tl.length := by omega
    subst this
    rw [List.drop_length] at h
    rw [pkN_end]
    cases h
    exact ⟨Int.le_refl _, Int.le_refl _⟩
  | m + 1, j, lf, v, hj, h => by
    have hjt : j < tl.length := by omega
    have hd : tl.drop j = nth tl 0 j :: tl.drop (j + 1) := by rw [List.drop_eq_getElem_cons hjt, nth_eq tl 0 j hjt]
    rw [hd] at h
    have hps := pkN_step hjt
    rcases rk_cons h with ⟨ht, h1⟩ | ⟨k, ht, hk, hp, hl0, h1⟩
    · have e1 : decide (nth tl 0 j ≥ 0) = false := by rw [decide_eq_false_iff_not]; omega
      rw [e1, cond_false] at hps
      rw [hps]
      exact rk_num hM tl m (j + 1) lf v (by omega) h1
    · have e1 : decide (nth tl 0 j ≥ 0) = true := by rw [decide_eq_true_eq]; omega
      rw [e1, cond_true] at hps
      have := rk_num hM tl m (j + 1) _ _ (by omega) h1
      have hw := wO_le hM hk
      rw [hps, List.length_cons]
      omega
theorem mx_one {u v : Int} (h1 : Mx sp wf od u) (h2 : Mx sp wf od v) : u = v := by
  obtain ⟨⟨a, f1, e1⟩, m1⟩ := h1
  obtain ⟨⟨b, f2, e2⟩, m2⟩ := h2
  have := m1 b f2
  have := m2 a f1
  omega
/-- All that a plan says is certified and sent, from some wafer of the market on. -/
theorem ship2 (F : Nat) (hF : 4000 ≤ F) (hbi : wf.length = at_.length) (hol : od.length ≤ 12) (hsi : ∀ i < od.length, (nth od dO i).1 = i) (day : Int) (g0 : List Int) (l : List QdT) (ar0 : A0) (ar1 : A1) (tl : List Int) (htl : tl.length = (selW at_ 0).length) (hM : MOk sp (mW wf at_) (mO at_ od ca day)) :
    ∀ (m j n : Nat) (pre : List Nat) (at' : List Int) (ar3 : A3) (er vv : Int), j + m = tl.length → m < n → pkN tl 0 = pre ++ pkN tl j → BInv wf at' od ca ors ar2 ar3 → BVal sp wf at' od ca →
      (∀ k, j ≤ k → k < (selW at_ 0).length → nth at' 0 (nth (selW at_ 0) 0 k) = -1) →
      rkF (mW wf at_).length (mO at_ od ca day).length (pmM sp (mW wf at_) (mO at_ od ca day)) (wO (mO at_ od ca day)) j (tl.drop j) (fun k => opn at' od ca (nth (selO od ca day 0) 0 k)) 0 = some vv →
      er = vv - 1000000000 * ((pkN tl j).length : Int) →
      ∃ (ar3' : A3), tShelves_L3 F n er ((pre.length : Nat) : Int) g0 l ar2 ar3 ar0 ar1 (pkA ((selW at_ 0).map (fun n : Nat => (n : Int))) tl 0) (pkB ((selO od ca day 0).map (fun n : Nat => (n : Int))) tl 0) sp wf od sp wf ors = some (.inr (0, (g0, l, ar2, ar3', ar0, ar1))) := by
  have hlA : (pkA ((selW at_ 0).map (fun n : Nat => (n : Int))) tl 0).length = (pkN tl 0).length := List.length_map ..
  have hlB : (pkB ((selO od ca day 0).map (fun n : Nat => (n : Int))) tl 0).length = (pkN tl 0).length := List.length_map ..
  intro m
  induction m with
  | zero =>
    intro j n pre at' ar3 er vv hj hn hpk h v hfr hrk her
    obtain ⟨n, rfl⟩ : ∃ k, n = k + 1 := ⟨n - 1, by omega⟩
    have : j = tl.length := by omega
    subst this
    rw [List.drop_length] at hrk
    have hv : vv = 0 := by cases hrk; rfl
    have he : er = 0 := by rw [her, hv, pkN_end]; rfl
    subst he
    rw [pkN_end, List.append_nil] at hpk
    rw [tShelves_L3, hlA, hpk, lt_f', cond_false]
    exact ⟨ar3, rfl⟩
  | succ m ih =>
    intro j n pre at' ar3 er vv hj hn hpk h v hfr hrk her
    obtain ⟨n, rfl⟩ : ∃ k, n = k + 1 := ⟨n - 1, by omega⟩
    have hjt : j < tl.length := by omega
    have hjW : j < (selW at_ 0).length := by omega
    have hd : tl.drop j = nth tl 0 j :: tl.drop (j + 1) := by rw [List.drop_eq_getElem_cons hjt, nth_eq tl 0 j hjt]
    have hnum := rk_num hM tl (m + 1) j _ _ hj hrk
    rw [hd] at hrk
    have hps := pkN_step hjt
    rcases rk_cons hrk with ⟨ht, hr1⟩ | ⟨k, ht, hk, hp, hl0, hr1⟩
    · have e1 : decide (nth tl 0 j ≥ 0) = false := by rw [decide_eq_false_iff_not]; omega
      rw [e1, cond_false] at hps
      exact ih (j + 1) (n + 1) pre at' ar3 er vv (by omega) (by omega) (by rw [← hps]; exact hpk) h v (fun k hk1 hk2 => hfr k (by omega) hk2) hr1 (by rw [← hps]; exact her)
    · have hnum2 := rk_num hM tl m (j + 1) _ _ (by omega) hr1
      have hwO : wO (mO at_ od ca day) k = 1000000000 + (nth od dO (nth (selO od ca day 0) 0 k)).2.2.1 := by
        have hk' := hk
        rw [List.length_map] at hk'
        unfold wO
        rw [mO_nth hk']
        rfl
      rw [List.length_map] at hk
      have e1 : decide (nth tl 0 j ≥ 0) = true := by rw [decide_eq_true_eq]; omega
      rw [e1, cond_true] at hps
      rw [hps, List.length_cons] at her hnum
      rw [hps] at hpk
      obtain ⟨hko, hkc, hkd⟩ := selO_mem (nth_mem (d := 0) hk)
      obtain ⟨hwa, hwn⟩ := selW_mem (nth_mem (d := 0) hjW)
      rw [pm_eq hjW hk, beq_iff_eq] at hp
      generalize hKO : nth (selO od ca day 0) 0 k = ko at *
      generalize hWJ : nth (selW at_ 0) 0 j = wj at *
      have hfw : nth at' 0 wj = -1 := by rw [← hWJ]; exact hfr j (Nat.le_refl j) hjW
      have hla' := h.la
      have hz := shp_ok (sp := sp) (at_ := at') (by omega) hko hfw hkc hp (by omega)
      have hlen : (pkN tl 0).length = pre.length + ((pkN tl (j + 1)).length + 1) := by rw [hpk, List.length_append, List.length_cons]
      have nA : nth (pkA ((selW at_ 0).map (fun n : Nat => (n : Int))) tl 0) 0 pre.length = wj := by
        unfold pkA
        rw [nth_mapK _ _ 0 0 (by omega), hpk, nth_mid, nth_mapK _ _ 0 0 hjW, hWJ]
      have nB : nth (pkB ((selO od ca day 0).map (fun n : Nat => (n : Int))) tl 0) 0 pre.length = ko := by
        unfold pkB
        rw [nth_mapK _ _ 0 0 (by omega), hpk, nth_mid, ht, Int.toNat_natCast, nth_mapK _ _ 0 0 hk, hKO]
      obtain ⟨ar3', g1, g2⟩ := bShip_eq F (by omega) h v.ol v.wl v.ods v.odiS (wj : Int) (ko : Int) ar0 ar1
      rw [hz] at g1 g2
      rw [show ((0 : Int) == 0) = true from rfl, cond_true, Int.toNat_natCast] at g2
      have hpl := pk_len tl
      have hsl := selW_len (at_ := at_)
      have hwl := v.wl
      have hsi2 := hsi ko hko
      have hspo : ko < sp.length := by have := v.odiS ko hko; omega
      rw [hsi2, Int.toNat_natCast] at hp
      have hwm : nth wf dW wj ∈ wf := nth_mem (by omega)
      have hcf := certify_fit F (s := nth sp dS ko) (w := nth wf dW wj) (v.ws _ hwm).1 (v.ws _ hwm).2 (v.sv _ (nth_mem hspo)) (v.wv _ hwm) hp
      rw [tShelves_L3, hlA, lt_t' (by omega), cond_true]
      have c1 : inB ((pre.length : Nat) : Int) ((pkB ((selO od ca day 0).map (fun n : Nat => (n : Int))) tl 0).length - 0) = true := inB_nat (by omega)
      have c2 : inB ((pre.length : Nat) : Int) ((pkN tl 0).length - 0) = true := inB_nat (by omega)
      have c3 : decide ((wj : Int) < 0) = false := by rw [decide_eq_false_iff_not]; omega
      have c4 : decide ((wj : Int) ≥ ((wf.length - 0) : Int)) = false := by rw [decide_eq_false_iff_not]; omega
      have c5 : decide ((ko : Int) < 0) = false := by rw [decide_eq_false_iff_not]; omega
      have c6 : decide ((ko : Int) ≥ ((od.length - 0) : Int)) = false := by rw [decide_eq_false_iff_not]; omega
      have c7 : inB (ko : Int) (sp.length - 0) = true := inB_nat (by omega)
      have c8 : inB (wj : Int) (wf.length - 0) = true := inB_nat (by omega)
      have c9 : inB (ko : Int) (od.length - 0) = true := inB_nat (by omega)
      simp only [c1, c2, Int.toNat_natCast, nA, nB, c3, c4, c5, c6, cond_true, cond_false]
      simp only [ob, hlA, c1, c2, c7, c8, c9, Int.toNat_natCast, nA, nB, cond_true, cond_false]
      rw [hcf]
      simp only [bne_self_eq_false, cond_false, lnL_n]
      rw [g1]
      simp only [ob, bne_self_eq_false, cond_false, c1, c9, Int.toNat_natCast, nB, cond_true]
      rw [w64 (er - (nth od dO ko).2.2.1) (by omega), i64s (by omega)]
      have hps2 := ih (j + 1) n (pre ++ [j]) (at'.set wj (ko : Int)) ar3' (er - (nth od dO ko).2.2.1) (vv - wO (mO at_ od ca day) k) (by omega) (by omega) (by rw [hpk, List.append_assoc]; rfl) g2 (by have := v.ship h.la hz; rwa [Int.toNat_natCast] at this)
        (fun k' h1 h2 => by
          have hne : wj ≠ nth (selW at_ 0) 0 k' := fun e => by
            have := nth_inj selW_nd hjW h2 (hWJ.trans e)
            omega
          rw [nth_setN _ _ _ hne]; exact hfr k' (by omega) h2)
        (by
          rw [← hr1]
          refine rkF_congr _ _ _ _ _ fun o ho => ?_
          rw [List.length_map] at ho
          rw [opn_set (by omega) hfw hkc]
          unfold updF
          dsimp only
          by_cases e : o = k
          · subst e; rw [if_pos rfl, if_pos hKO, hKO]
          · rw [if_neg e, if_neg (fun e' => e (nth_inj selO_nd ho hk (e'.trans hKO.symm)))]; omega)
        (by rw [hwO]; omega)
      rw [List.length_append, List.length_singleton] at hps2
      exact hps2
end
end Go.Proofs.YtbepdcodkecboaaDoor


namespace Go.Proofs.YtbepdcodkecboaaDoor
open Go.RowKit
set_option maxRecDepth 100000
theorem map_nth_all {α : Type} (l : List α) (d : α) : (List.range l.length).map (nth l d) = l := by
  apply List.ext_getElem (by simp)
  intro i h1 h2
  rw [List.getElem_map, List.getElem_range, nth_eq l d i h2]
theorem nth_allF {β : Type} (d : β) {k i : Nat} (h : i < k) (x : β) : nth ((List.range k).map (fun _ => x)) d i = x := nth_map_range (fun _ => x) d h
theorem cnt_all (k i : Nat) : cnt ((List.range k).map (fun _ => (-1 : Int))) i = 0 := by
  unfold cnt
  rw [List.length_eq_zero_iff, List.filter_eq_nil_iff]
  intro x hx
  obtain ⟨_, _, rfl⟩ := List.mem_map.1 hx
  simp only [beq_iff_eq]
  omega
theorem selW_all' (k : Nat) : selW ((List.range k).map (fun _ => (-1 : Int))) 0 = List.range k := by
  unfold selW
  rw [List.length_map, List.length_range, Nat.sub_zero, List.range_eq_range', List.filter_eq_self]
  intro n hn
  rw [List.mem_range'_1] at hn
  rw [← List.range_eq_range', nth_allF 0 (by omega) (-1 : Int)]
  rfl
theorem mW_all (wf : List WfT) : mW wf ((List.range wf.length).map (fun _ => (-1 : Int))) = wf := by
  unfold mW
  rw [selW_all', map_nth_all]
section
variable {od : List OdT}
theorem selO_all (hd : ∀ i < od.length, (nth od dO i).2.2.2 = 9) : selO od ((List.range od.length).map (fun _ => false)) 9 0 = List.range od.length := by
  unfold selO
  rw [Nat.sub_zero, ← List.range_eq_range', List.filter_eq_self]
  intro n hn
  rw [List.mem_range] at hn
  unfold cntO
  rw [nth_allF false hn false, hd n hn]
  rfl
theorem mO_all (q : Nat) (hd : ∀ i < od.length, (nth od dO i).2.2.2 = 9) : mO ((List.range q).map (fun _ => (-1 : Int))) od ((List.range od.length).map (fun _ => false)) 9 = od := by
  unfold mO
  rw [selO_all hd]
  have : ∀ i ∈ List.range od.length, mkO ((List.range q).map (fun _ => (-1 : Int))) od ((List.range od.length).map (fun _ => false)) i = nth od dO i := by
    intro i hi
    rw [List.mem_range] at hi
    unfold mkO opn
    rw [nth_allF false hi false, cnt_all]
    simp only [cond_false, Int.natCast_zero, Int.sub_zero]
  rw [List.map_congr_left this, map_nth_all]
end
theorem rgl_ok {w : S8.WrT} {b : S8.WbT} {n : Int} (h : S8.Vld w b n) (q : Nat) : ∀ r ∈ S8.rgl w b q, -1000000000000000 ≤ r.1 ∧ r.1 ≤ r.2 ∧ r.2 ≤ 1000000000000000 := by
  intro r hr
  obtain ⟨i, _, rfl⟩ := List.mem_map.1 hr
  obtain ⟨hd, he, _, hp, _, _, hy, ht⟩ := h
  have h1 := S8.dAt_mono (d := w.1.1) (d' := w.1.2) (wear := w.2.1.2) (wear' := w.2.1.1) hd.2.1 he.2.1 i
  have h2 := S8.dAt_range (d := w.1.1) (wear := w.2.1.2) (by omega) (by omega) i
  have h3 := S8.dAt_range (d := w.1.2) (wear := w.2.1.1) (by omega) (by omega) i
  unfold S8.slf
  dsimp only
  omega
theorem tShel_law (F : Nat) (hF : 4000 ≤ F) (c : S8.WrT × S8.WbT) (n : Int) (tr : List Int) (l : List QdT) (hb : bytesOk l) : ∃ A B C D, tShelves_S F c n tr l [] [] [] [] = some (true, A, B, C, D) := by
  unfold tShelves_S
  by_cases hg : c.2.2.1 > 14
  · rw [decide_eq_true hg, cond_true]; exact ⟨_, _, _, _, rfl⟩
  · rw [decide_eq_false hg, cond_false]
    by_cases hl5 : 5 < l.length
    · rw [show decide (((l.length - 0) : Int) > 5) = true by rw [decide_eq_true_eq]; omega, cond_true]; exact ⟨_, _, _, _, rfl⟩
    · rw [show decide (((l.length - 0) : Int) > 5) = false by rw [decide_eq_false_iff_not]; omega, cond_false]
      cases hck : (S8.ckI c.1 c.2 n == 0) with
      | false =>
        rw [S8.predict_bad F c.1 c.2 n hck]
        have hne : (S8.ckI c.1 c.2 n != 0) = true := by rw [bne, hck]; rfl
        simp only [ob, hne, cond_true]
        exact ⟨_, _, _, _, rfl⟩
      | true =>
        have hc0 := eq_of_beq hck
        have hV := S8.vld_of hc0
        have hr := rgl_ok hV (S8.mU c.2 n - 1)
        have hlen : (S8.rgl c.1 c.2 (S8.mU c.2 n - 1)).length = S8.mU c.2 n - 1 := by unfold S8.rgl; rw [List.length_map, List.length_range]
        have hmu := S8.mU_cast hV
        have hus := (S8.us_range hV).2.1
        rw [S8.predict_eq F (by omega) hc0]
        simp only [ob, bne_self_eq_false, cond_false]
        generalize S8.rgl c.1 c.2 (S8.mU c.2 n - 1) = sl at hr hlen ⊢
        generalize S8.prd c.1 c.2 n (S8.mU c.2 n) = x
        obtain ⟨hvd, hve, hvl, hvp, hvg, hvs, hvy, hvt⟩ := hV
        have hlo : -1000 ≤ c.2.1 - c.1.1.2 - c.2.2.2.2.2 - 8 ∧ c.2.1 - c.1.1.2 - c.2.2.2.2.2 - 8 ≤ 100000000 := by omega
        have hs0 := shel0 F tr l hb (by omega) (c.1.1.1, (c.1.1.2, (c.1.2.1.1, (c.1.2.1.2, (c.1.2.2, c.2))))) (x.1, (x.2.1, (x.2.2.1, (x.2.2.2.1, (x.2.2.2.2.1, (x.2.2.2.2.2.1, x.2.2.2.2.2.2)))))) sl (c.2.1 - c.1.1.2 - c.2.2.2.2.2 - 8) [] [] [] [] rfl (by dsimp only; omega) (by dsimp only; omega) (by dsimp only; omega) l.length 0 F (by omega) (by omega)
        rw [show ((0 : Nat) : Int) = 0 from rfl] at hs0
        have hs0' : tShelves_L0 F tr l [] [] [] [] (c.1.1.1, (c.1.1.2, (c.1.2.1.1, (c.1.2.1.2, (c.1.2.2, c.2))))) (x.1, (x.2.1, (x.2.2.1, (x.2.2.2.1, (x.2.2.2.2.1, (x.2.2.2.2.2.1, x.2.2.2.2.2.2)))))) sl F 0 [] [] = _ := hs0
        rw [hs0']
        generalize hlo' : c.2.1 - c.1.1.2 - c.2.2.2.2.2 - 8 = lo at hlo ⊢
        have hsm : ∀ s ∈ spL lo l l.length, spB s = true ∧ 0 ≤ s.2 := by
          intro s hs
          obtain ⟨i, hi, rfl⟩ := List.mem_map.1 hs
          rw [List.mem_range] at hi
          exact ⟨sp_ok hlo (hb _ (nth_mem hi)), by unfold spF; dsimp only; omega⟩
        have hsps : spsB (spL lo l l.length) = true := by
          unfold spsB
          rw [Bool.and_eq_true, decide_eq_true_eq, List.all_eq_true, spL_n]
          exact ⟨by omega, fun s hs => (hsm s hs).1⟩
        have e2 : lenOk2 0 (spL lo l l.length).length = true := lenOk2_sm (by rw [spL_n]; omega)
        simp only [ob, e2, cond_true, List.nil_append]
        rw [newBook_eq F (by omega) hsps]
        simp only [ob, bne_self_eq_false, cond_false]
        obtain ⟨ors, ar2, ar3, f1, h1, v1⟩ := shel1 (lo := lo) F tr hb (by omega) (x.1, (x.2.1, (x.2.2.1, (x.2.2.2.1, (x.2.2.2.2.1, (x.2.2.2.2.2.1, x.2.2.2.2.2.2)))))) sl hsps (fun s hs => (hsm s hs).2) l.length 0 F [] [] [] [] [] (by omega) (by omega) BInv.nil (BVal.nil hsps (fun s hs => (hsm s hs).2))
        rw [show ((0 : Nat) : Int) = 0 from rfl] at f1
        rw [f1]
        simp only [ob, su]
        obtain ⟨f2, h2, v2⟩ := shel2 (l := l) (sl := sl) F tr (x.1, (x.2.1, (x.2.2.1, (x.2.2.2.1, (x.2.2.2.2.1, (x.2.2.2.2.2.1, x.2.2.2.2.2.2)))))) (odL l l.length) (by omega) hr ors [] [] ar2 ar3 sl.length 0 F (by omega) (by omega) h1 v1
        rw [show ((0 : Nat) : Int) = 0 from rfl] at f2
        have f2' : tShelves_L2 F tr l (x.1, (x.2.1, (x.2.2.1, (x.2.2.2.1, (x.2.2.2.2.1, (x.2.2.2.2.2.1, x.2.2.2.2.2.2)))))) sl (spL lo l l.length) (odL l l.length) F 0 [] [] ar2 ar3 [] (spL lo l l.length) [] ors = _ := f2
        rw [f2']
        simp only [ob, su]
        -- the market of the plan
        have hwl : (wfL sl sl.length).length = sl.length := wfL_n sl _
        have hol : (odL l l.length).length = l.length := odL_n l _
        have hdue : ∀ i < (odL l l.length).length, (nth (odL l l.length) dO i).2.2.2 = 9 := fun i hi => by rw [hol] at hi; rw [odL_nth hi]; rfl
        have hspec : ∀ i < (odL l l.length).length, (nth (odL l l.length) dO i).1 = i := fun i hi => by rw [hol] at hi; rw [odL_nth hi]; rfl
        have hmW := mW_all (wfL sl sl.length)
        have hmO := mO_all (od := odL l l.length) sl.length hdue
        rw [hwl] at hmW
        rw [hol] at hmO
        obtain ⟨tl, u, B, C, p1, p2, p3, p4, p5⟩ := bPlan_eq F hF h2 v2 (day := 9) (by omega) [] []
        have hchk := mkt_chk v2 h2.la 9
        rw [hmW, hmO] at hchk
        have hM := chk_ok hchk
        have hM2 := hM
        rw [← hmW, ← hmO] at hM2
        have hrk := p2.2.1
        have hnum := rk_num hM2 tl tl.length 0 _ u (by omega) (by rw [List.drop_zero]; exact hrk)
        have p3' := p3
        rw [hmW, hmO] at p3'
        have hx1 := BestM.mx hM p3'
        have hwfs : wfsOk (wfL sl sl.length) := v2.ws
        obtain ⟨tl2, vv, B2, C2, a1, a2, a3, a4, a5⟩ := assign_eq (sp := spL lo l l.length) (wf := wfL sl sl.length) (od := odL l l.length) F (by omega) hwfs B C hchk
        have huv : u = vv := mx_one hx1 (BestM.mx hM a3)
        subst huv
        obtain ⟨pw, po, B3, C3, v3, q1, q2, q3, q4, q5, q6⟩ := prove_eq (sp := spL lo l l.length) (wf := wfL sl sl.length) (od := odL l l.length) F (by omega) hwfs hchk B2 C2
        have huv3 : u = v3 := mx_one hx1 q4
        obtain ⟨B4, C4, b1⟩ := bound_eq (sp := spL lo l l.length) (wf := wfL sl sl.length) (od := odL l l.length) F (by omega) hwfs pw po (by omega) (by omega) B3 C3
        rw [if_pos hchk, if_pos q5, q6, ← huv3] at b1
        have hlA : (pkA ((selW ((List.range sl.length).map (fun _ => (-1 : Int))) 0).map (fun n : Nat => (n : Int))) tl 0).length = (pkN tl 0).length := List.length_map ..
        have hlB : (pkB ((selO (odL l l.length) ((List.range l.length).map (fun _ => false)) 9 0).map (fun n : Nat => (n : Int))) tl 0).length = (pkN tl 0).length := List.length_map ..
        have hpl := pk_len tl
        rw [selW_all', List.length_range] at p4
        rw [hwl] at a5
        have g1 : (((pkN tl 0).length : Int) != u / 1000000000) = false := by rw [bne_eq_false_iff_eq]; omega
        have g2 : IntKind.wrap IntKind.i64 (u / 1000000000 * 1000000000) = u / 1000000000 * 1000000000 := w64 _ (by omega)
        have g3 : IntKind.wrap IntKind.i64 (u / 1000000000 * 1000000000 + u % 1000000000) = u := by rw [w64 _ (by omega)]; omega
        rw [p1]
        simp only [ob]
        rw [a1]
        simp only [ob]
        rw [q1]
        simp only [ob]
        rw [b1]
        simp only [ob, bne_self_eq_false, cond_false, hlA, hlB, Int.sub_zero, g1, g2, g3]
        obtain ⟨ar3', s1⟩ := ship2 (at_ := (List.range sl.length).map (fun _ => (-1 : Int))) F hF (by rw [hwl, List.length_map, List.length_range]) v2.ol hspec 9 tr l B4 C4 tl (by rw [selW_all', List.length_range]; exact p4) hM2 tl.length 0 F [] _ ar3 (u % 1000000000) u (by omega) (by omega) rfl h2 v2 (fun k _ hk => (selW_mem (nth_mem hk)).2) (rk_start hrk) (by omega)
        rw [show (((([] : List Nat).length : Nat)) : Int) = 0 from rfl] at s1
        rw [s1]
        exact ⟨_, _, _, _, rfl⟩
end Go.Proofs.YtbepdcodkecboaaDoor


namespace Go.Proofs.YtbepdcodkecboaaDoor
open Go.RowKit Go.Proofs
theorem den_sc {ρ : List Info} {l : List CV} {v : Value} (h : DenB ρ false l v) : Den ρ (headC l) v := by
  obtain ⟨x, rfl, h⟩ := h
  exact h
end Go.Proofs.YtbepdcodkecboaaDoor
