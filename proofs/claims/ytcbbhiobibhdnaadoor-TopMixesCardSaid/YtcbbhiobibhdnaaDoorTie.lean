/-
  DERIVED. GIVEN WITH THE SEED: THE PROGRAM's TIES (one call each: nine closed facts by the kernel) AND EACH ROW's TIE, after the 31st guide's Derived/Test/Toyas{Tie, Card}.lean. No idea stands in it: it is a product of the set-up. Laid BY PROGRAM, IN A SANDBOX (cutbox-door.mjs). By AI agents, Wed Nov 11 2026. No macro, syntax, notation, axiom, sorry.
-/
import Derived.Test.YtcbbhiobibhdnaaDoorRows
import Derived.LaidByTextLater
import Derived.SevenTiedAt
import Derived.LaidSub
import Derived.LaidOnce
namespace Go.Proofs.YtcbbhiobibhdnaaDoor
open Go
set_option maxRecDepth 100000
theorem seatTie1 : Tryd.prog.laidByTextLater [("unicode/utf8.acceptRanges", Rows.laid_unicode_utf8_acceptRanges), ("boule/melt.limits", Rows.laid_boule_melt_limits), ("boule/melt.poor", Rows.laid_boule_melt_poor), ("boule/melt.rich", Rows.laid_boule_melt_rich)] [.data, .data, .wider, .wider] true :=
  Program.laidByTextLater_by_one 38 8 33 (by kernel_rfl) (by kernel_rfl) (by kernel_rfl) (by kernel_rfl) (by kernel_rfl) (by kernel_rfl) (fun _ _ => by kernel_rfl)
theorem pin_laid_unicode_utf8_first : Tryd.pinned.checked.prog.pinnedFits "unicode/utf8.first" = true := by kernel_rfl
theorem noOwnUnsafe : Tryd.pinned.checked.prog.headLifts.contains "ownunsafe" = false := by kernel_rfl
theorem tie : Tryd.prog.laidByTextLater [("boule/melt.limits", Rows.laid_boule_melt_limits), ("boule/melt.poor", Rows.laid_boule_melt_poor), ("boule/melt.rich", Rows.laid_boule_melt_rich)] [.data, .wider, .wider] true :=
  Program.laidByTextLater.sub seatTie1 ["boule/melt.limits", "boule/melt.poor", "boule/melt.rich"] (by kernel_rfl) (by kernel_rfl)
theorem topResists_row_tie : Rows.topResistsRow.laidByTextAt .later Tryd.pinned [.data, .wider, .wider] true :=
  OpenClaim.laidByTextAt_later rfl rfl tie noOwnUnsafe
theorem topMixes_row_tie : Rows.topMixesRow.laidByTextAt .later Tryd.pinned [.data, .wider, .wider] true :=
  OpenClaim.laidByTextAt_later rfl rfl tie noOwnUnsafe
theorem fits2 : Tryd.pinned.checked.prog.listedFits [("unicode/utf8.acceptRanges", Rows.laid_unicode_utf8_acceptRanges), ("boule/melt.limits", Rows.laid_boule_melt_limits), ("boule/melt.poor", Rows.laid_boule_melt_poor), ("boule/melt.rich", Rows.laid_boule_melt_rich), ("unicode/utf8.first", Rows.laid_unicode_utf8_first)] = true := by
  unfold Program.listedFits
  rw [noOwnUnsafe]
  kernel_rfl
theorem tie2 : Tryd.prog.laidByTextLater [("unicode/utf8.acceptRanges", Rows.laid_unicode_utf8_acceptRanges), ("boule/melt.limits", Rows.laid_boule_melt_limits), ("boule/melt.poor", Rows.laid_boule_melt_poor), ("boule/melt.rich", Rows.laid_boule_melt_rich)] [.data, .data, .wider, .wider] true :=
  Program.laidByTextLater.sub seatTie1 ["unicode/utf8.acceptRanges", "boule/melt.limits", "boule/melt.poor", "boule/melt.rich"] (by kernel_rfl) (by kernel_rfl)
theorem topDoped_row_tie : Rows.topDopedRow.laidByTextAt .later Tryd.pinned [.data, .data, .wider, .wider, .pinned] true :=
  OpenClaim.laidByTextAt_pinned rfl rfl tie2 rfl rfl rfl rfl (fun y hy _e => by
    simp only [Rows.topDopedRow, List.zip_cons_cons, List.zip_nil_right, List.mem_cons, List.mem_nil_iff, or_false] at hy
    rcases hy with rfl | rfl | rfl | rfl | rfl
    · cases _e
    · cases _e
    · cases _e
    · cases _e
    · exact ⟨pin_laid_unicode_utf8_first, by kernel_rfl⟩) fits2
theorem topResistsUpto_row_tie : Rows.topResistsUptoRow.laidByTextAt .later Tryd.pinned [.data, .wider, .wider] true :=
  OpenClaim.laidByTextAt_later rfl rfl tie noOwnUnsafe
theorem topMixesUpto_row_tie : Rows.topMixesUptoRow.laidByTextAt .later Tryd.pinned [.data, .wider, .wider] true :=
  OpenClaim.laidByTextAt_later rfl rfl tie noOwnUnsafe
theorem topDopedUpto_row_tie : Rows.topDopedUptoRow.laidByTextAt .later Tryd.pinned [.data, .data, .wider, .wider, .pinned] true :=
  OpenClaim.laidByTextAt_pinned rfl rfl tie2 rfl rfl rfl rfl (fun y hy _e => by
    simp only [Rows.topDopedUptoRow, List.zip_cons_cons, List.zip_nil_right, List.mem_cons, List.mem_nil_iff, or_false] at hy
    rcases hy with rfl | rfl | rfl | rfl | rfl
    · cases _e
    · cases _e
    · cases _e
    · cases _e
    · exact ⟨pin_laid_unicode_utf8_first, by kernel_rfl⟩) fits2
end Go.Proofs.YtcbbhiobibhdnaaDoor
