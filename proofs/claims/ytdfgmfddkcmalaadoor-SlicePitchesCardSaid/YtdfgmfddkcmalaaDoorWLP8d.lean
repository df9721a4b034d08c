/- The plain law of SlicePitches, joined. No condition. -/
import Derived.Test.YtdfgmfddkcmalaaDoorWLP8c
namespace Go.Proofs.YtdfgmfddkcmalaaDoor
open Go.RowKit
set_option maxRecDepth 100000
abbrev StT := (Int × Bool) × (WrT × (WnT × RgT))
noncomputable def lst (s3 : StT) : List Int := (s3.2.2.2.1 :: (s3.2.2.2.2 :: ((IntKind.wrap IntKind.i64 (s3.2.2.2.1 - (1 : Int))) :: ((IntKind.wrap IntKind.i64 (s3.2.2.2.2 + (1 : Int))) :: ((IntKind.wrap IntKind.i64 ((IntKind.wrap IntKind.i64 (s3.2.1.1.2 + s3.2.2.1.1.2)) + (1 : Int))) :: ((IntKind.wrap IntKind.i64 ((IntKind.wrap IntKind.i64 (s3.2.2.1.2.2.1.2 + s3.2.1.1.2)) + s3.2.2.1.1.2)) :: ((IntKind.wrap IntKind.i64 ((IntKind.wrap IntKind.i64 (s3.2.2.1.2.2.1.1 + s3.2.1.1.2)) + s3.2.2.1.1.2)) :: (s3.2.2.1.2.2.2 :: []))))))))
noncomputable def sP4 (F : Nat) (s3 : StT) : Option Bool := (bif s3.1.2 then (some false) else (ob (sPitches_L0 F F s3.1.1 (IntKind.wrap IntKind.i64 ((IntKind.wrap IntKind.i64 (s3.2.1.1.2 + s3.2.2.1.1.2)) + (1 : Int))) (((lst s3).length - 0) : Int) (0 : Int) s3.2.1 s3.2.2.1 s3.2.2.2 (lst s3)) (fun o_ => su o_ (fun s7 => (some s7)) (fun s8 => (some true)))))
noncomputable def cT (s2 : StT) : Option StT := (bif (s2.1.1 != (0 : Int)) then (bif (s2.1.1 != (7 : Int)) then (some ((s2.1.1, true), (s2.2.1, s2.2.2.1, s2.2.2.2))) else (bif (bif true then (!((s2.2.2.2.1 == (0 : Int)) && (s2.2.2.2.2 == (0 : Int)))) else ((s2.2.2.2.1 == (0 : Int)) && (s2.2.2.2.2 == (0 : Int)))) then (some ((s2.1.1, true), (s2.2.1, s2.2.2.1, s2.2.2.2))) else (bif (s2.1.1 == (0 : Int)) then (bif (decide (s2.2.2.2.1 < (1 : Int))) then (some ((s2.1.1, true), (s2.2.1, s2.2.2.1, s2.2.2.2))) else (bif (decide (s2.2.2.2.1 > s2.2.2.2.2)) then (some ((s2.1.1, true), (s2.2.1, s2.2.2.1, s2.2.2.2))) else (some ((s2.1.1, (decide (s2.2.2.2.2 > (10000000 : Int)))), (s2.2.1, s2.2.2.1, s2.2.2.2))))) else (some ((s2.1.1, false), (s2.2.1, s2.2.2.1, s2.2.2.2)))))) else (bif (s2.1.1 == (0 : Int)) then (bif (decide (s2.2.2.2.1 < (1 : Int))) then (some ((s2.1.1, true), (s2.2.1, s2.2.2.1, s2.2.2.2))) else (bif (decide (s2.2.2.2.1 > s2.2.2.2.2)) then (some ((s2.1.1, true), (s2.2.1, s2.2.2.1, s2.2.2.2))) else (some ((s2.1.1, (decide (s2.2.2.2.2 > (10000000 : Int)))), (s2.2.1, s2.2.2.1, s2.2.2.2))))) else (some ((s2.1.1, false), (s2.2.1, s2.2.2.1, s2.2.2.2)))))
noncomputable def sP3 (F : Nat) (s2 : StT) : Option Bool := (bif s2.1.2 then (bif (s2.1.1 == (2 : Int)) then (bif (bif false then (!((s2.2.2.2.1 == (0 : Int)) && (s2.2.2.2.2 == (0 : Int)))) else ((s2.2.2.2.1 == (0 : Int)) && (s2.2.2.2.2 == (0 : Int)))) then (some true) else (some false)) else (some false)) else (bif (decide (s2.2.2.1.2.1 < (1 : Int))) then (bif (s2.1.1 == (3 : Int)) then (bif (bif false then (!((s2.2.2.2.1 == (0 : Int)) && (s2.2.2.2.2 == (0 : Int)))) else ((s2.2.2.2.1 == (0 : Int)) && (s2.2.2.2.2 == (0 : Int)))) then (some true) else (some false)) else (some false)) else (ob (cT s2) (fun s3 => sP4 F s3))))
def cW {α : Type} (e : Int) (w : WrT) (X : α) : Option ((Int × Bool) × α) := (bif (decide (w.1.1 < (1 : Int))) then some ((e, true), X) else (bif (decide (w.1.1 > w.1.2)) then some ((e, true), X) else (bif (decide (w.1.2 > (10000000 : Int))) then some ((e, true), X) else (bif (decide (w.2.1.1 < (0 : Int))) then some ((e, true), X) else (bif (decide (w.2.1.1 > w.2.1.2)) then some ((e, true), X) else (bif (decide (w.2.1.2 > (10000000 : Int))) then some ((e, true), X) else (bif (decide (w.2.2 < (0 : Int))) then some ((e, true), X) else some ((e, decide (w.2.2 > (10000000 : Int))), X))))))))
def cR {α : Type} (e : Int) (a b : RgT) (X : α) : Option ((Int × Bool) × α) := (bif (decide (a.1 < (0 : Int))) then some ((e, true), X) else (bif (decide (a.1 > a.2)) then some ((e, true), X) else (bif (decide (a.2 > (10000000 : Int))) then some ((e, true), X) else (bif (decide (b.1 < (0 : Int))) then some ((e, true), X) else (bif (decide (b.1 > b.2)) then some ((e, true), X) else some ((e, decide (b.2 > (10000000 : Int))), X))))))
theorem sPitches_def (F : Nat) (w : WrT) (x : WnT) : sPitches_S F w x = (bif decide (x.2.1 > 60) then some true else ob (pitches_S F w x.1 x.2.1 x.2.2.1) (fun r => ob (cW r.2 w (w, x, r.1)) (fun s1 =>
    ob (bif s1.1.2 then some ((s1.1.1, true), (s1.2.1, s1.2.2.1, s1.2.2.2)) else cR s1.1.1 s1.2.2.1.1 s1.2.2.1.2.2.1 (s1.2.1, s1.2.2.1, s1.2.2.2)) (fun s2 => sP3 F s2)))) := rfl
theorem sPitches_flag (F : Nat) (w : WrT) (x : WnT) (r : RgT × Int) (hs : ¬ x.2.1 > 60) (hr : pitches_S F w x.1 x.2.1 x.2.2.1 = some r) : sPitches_S F w x = sP3 F ((r.2, !wnOk w x), (w, x, r.1)) := by
  rw [sPitches_def, dec_f hs, hr]
  show ob (cW r.2 w (w, x, r.1)) _ = _
  rw [show cW r.2 w (w, x, r.1) = some ((r.2, !wrOk w), (w, x, r.1)) from badW _ _ _]
  unfold wnOk
  cases h : wrOk w with
  | false => rfl
  | true =>
    show ob (cR r.2 x.1 x.2.2.1 (w, x, r.1)) _ = _
    rw [show cR r.2 x.1 x.2.2.1 (w, x, r.1) = some ((r.2, !(rgOk x.1 0 10000000 && rgOk x.2.2.1 0 10000000)), (w, x, r.1)) from badR _ _ _ _]
    rfl
theorem sPitches_law0 (w : WrT) (x : WnT) : sPitches_S 3000 w x = some true := by
  by_cases hs : x.2.1 > 60
  · rw [sPitches_def, dec_t hs]; rfl
  · cases hb : wnOk w x with
    | false => rw [sPitches_flag _ _ _ _ hs (pitches_bad 3000 w x hb), hb]; rfl
    | true =>
      by_cases h1 : x.2.1 < 1
      · rw [sPitches_flag _ _ _ _ hs (pitches_few 3000 w x hb h1), hb]
        show (bif decide (x.2.1 < 1) then _ else _) = _
        rw [dec_t h1]; rfl
      · have hv := wn_of hb
        rw [sPitches_flag _ _ _ _ hs (pitches_fine 3000 w x hb (by omega)), hb]
        have hf : ob (cT (((ptc w x).2, false), (w, x, (ptc w x).1))) (fun s3 => sP4 3000 s3) = some true := by
          have fin : sP4 3000 (((ptc w x).2, false), (w, x, (ptc w x).1)) = some true := by
            have hd := hv.hd; have hq := hv.hs
            unfold sP4
            have e1 : IntKind.wrap IntKind.i64 (IntKind.wrap IntKind.i64 (w.1.2 + x.1.2) + 1) = wdst w x + 1 := by
              rw [w64 (w.1.2 + x.1.2) (by omega), w64 _ (by omega)]; rfl
            have hl := pL0_loop 3000 (by decide) (ptc w x).2 (ptc w x).1 hv (by omega) (told_ptc hv) (lst (((ptc w x).2, false), (w, x, (ptc w x).1))) (show 8 ≤ 2000 by decide) 8 3000 0 rfl (by decide)
            show ob (sPitches_L0 3000 3000 (ptc w x).2 (IntKind.wrap IntKind.i64 (IntKind.wrap IntKind.i64 (w.1.2 + x.1.2) + 1)) 8 0 w x (ptc w x).1 (lst (((ptc w x).2, false), (w, x, (ptc w x).1)))) _ = _
            rw [e1]
            change ob (sPitches_L0 3000 3000 (ptc w x).2 (wdst w x + 1) ((lst (((ptc w x).2, false), (w, x, (ptc w x).1))).length : Int) ((0 : Nat) : Int) w x (ptc w x).1 (lst (((ptc w x).2, false), (w, x, (ptc w x).1)))) _ = _
            rw [hl]
          have hc : cT (((ptc w x).2, false), (w, x, (ptc w x).1)) = some (((ptc w x).2, false), (w, x, (ptc w x).1)) := by
            unfold ptc cT
            by_cases c : mx 1 (wdst w x + mx 1 x.2.2.1.1) > mn 10000000 (x.2.2.1.2 + nrst w x)
            · rw [dec_t c]; rfl
            · rw [dec_f c]
              show (bif decide (mx 1 (wdst w x + mx 1 x.2.2.1.1) < 1) then _ else (bif decide (mx 1 (wdst w x + mx 1 x.2.2.1.1) > mn 10000000 (x.2.2.1.2 + nrst w x)) then _ else some (((0 : Int), decide (mn 10000000 (x.2.2.1.2 + nrst w x) > 10000000)), _))) = _
              rw [dec_f c, dec_f (show ¬ mx 1 (wdst w x + mx 1 x.2.2.1.1) < 1 by unfold mx; split <;> omega), dec_f (show ¬ mn 10000000 (x.2.2.1.2 + nrst w x) > 10000000 by unfold mn; split <;> omega)]
              rfl
          rw [hc]
          exact fin
        show (bif decide (x.2.1 < 1) then _ else ob (cT (((ptc w x).2, false), (w, x, (ptc w x).1))) (fun s3 => sP4 3000 s3)) = _
        rw [dec_f h1]
        exact hf
end Go.Proofs.YtdfgmfddkcmalaaDoor
