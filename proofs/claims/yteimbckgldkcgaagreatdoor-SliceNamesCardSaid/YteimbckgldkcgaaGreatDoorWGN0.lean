/- What is laid in this seat's package variables: the errors, the powers of ten. No condition. -/
import Derived.Test.YteimbckgldkcgaaGreatDoorWLN4
import Derived.MakeChecks
import Derived.Stop.LaidErr
import Derived.Lib.LaidTab
import Derived.Shelf.Vars
import Derived.Handed
import Derived.Test.YteimbckgldkcgaaGreatDoorRows
namespace Go.Proofs.YteimbckgldkcgaaGreatDoor
open Go.RowKit Go.Proofs Go.Proofs.YteimbckgldkcgaaGreatDoor
set_option maxRecDepth 100000
theorem iface_of_trod {H : Type} {enc : TypeId × Value → H} {P : Program} {w : World} {base : Nat} {sp : Nat → Bool} {held : Bool} {fuel : Nat} {t : TypeId} {cs : List Value} {ms : Array (String × TypeId)} {n : String} {d : DataW H} {p : List MemPlace} (hi : P.underlying t = some (.interface ms))
    (h : DataW.trod enc P w base sp held fuel t cs = some (.iface n d, p)) : ∃ u v, cs = [.iface u v] := by
  cases fuel with
  | zero => simp [DataW.trod] at h
  | succ f =>
    rcases cs with _ | ⟨c, _ | ⟨c2, r⟩⟩
    · simp [DataW.trod, hi] at h
    · cases c <;> first | exact ⟨_, _, rfl⟩ | (simp [DataW.trod, hi] at h; done)
    · simp [DataW.trod, hi] at h
theorem iface_laid {P : Program} {w : World} {n nm : String} {d : DataW Unit} {r : List (String × DataW Unit)} {g : Nat} {ti : TypeId} {ms : Array (String × TypeId)} (h : laidMet P ((n, .iface nm d) :: r) w) (hg : P.globalNamed n = some g) (ht : (P.globals[g]?).map (·.type) = some ti) (hi : P.underlying ti = some (.interface ms)) :
    ∃ u v, w.cell? ⟨g, 0, none⟩ = some (.iface u v) := by
  obtain ⟨ps, ⟨g0, t0, cs0, f0, p0, q0, hg0, ht0, hv0, hd0, _, e0⟩, _, _⟩ := h
  obtain rfl := Option.some.inj (hg.symm.trans hg0)
  obtain rfl := Option.some.inj (ht.symm.trans ht0)
  obtain ⟨u, v, e⟩ := iface_of_trod hi hd0
  refine ⟨u, v, ?_⟩
  have := World.var?_cell hg hv0 0
  rw [this]
  obtain ⟨l⟩ := cs0
  have e : l = [.iface u v] := e
  rw [e]; rfl
abbrev laidL : List (String × DataW Unit) := Rows.sliceNamesRow.laid
theorem gOk_laid {W : World} (h : laidMetH Tryz.prog laidL W) (hs : W.ShapedOpen Tryz.prog) : gOk W := by
  rw [MakeChecks.laidMetH_plain _ _ _ (by kernel_rfl)] at h
  have h2 := h.tail.tail
  have h4 := h2.tail.tail
  have h5 := h4.tail
  refine ⟨?_, ?_, ?_, ?_⟩
  · exact cell_of_shapedOpen_int (g := 0) (t := 3) (zero := #[.int .i64 0]) hs (of_decide_eq_true (by kernel_rfl)) (by kernel_rfl) rfl (by kernel_rfl) (by kernel_rfl) Tryz.underlying3
  · exact iface_laid (g := 1) (ti := 61) h5 (by kernel_rfl) (by kernel_rfl) Tryz.underlying61
  · exact iface_laid (g := 2) (ti := 61) h4 (by kernel_rfl) (by kernel_rfl) Tryz.underlying61
  · have ht := Lib.tabIs_of_head (P := Tryz.prog) (W := W) (name := "internal/strconv.uint64pow10") (k := .u64) (zs := Lib.pow10Tab) (g := 3) (show Tryz.prog.globalNamed "internal/strconv.uint64pow10" = some 3 by kernel_rfl) (t := 142) (by kernel_rfl) Tryz.underlying142 Tryz.underlying100 (by kernel_rfl) (by kernel_rfl) h2
    unfold Lib.TabIs World.var? at ht
    rw [show Tryz.prog.globalNamed "internal/strconv.uint64pow10" = some 3 by kernel_rfl] at ht
    simp only [Option.bind_some] at ht
    split at ht
    · rename_i cs T f hc
      exact ⟨T, f, by rw [hc, Option.some.inj ht]⟩
    · cases ht
theorem gBlk_lt {W : World} (h : gOk W) : ∀ b ∈ gBlk, b < W.heap.size := fun b hb => by
  obtain ⟨c, T, f, hc⟩ := gOk_cells h hb
  exact lt_of_block hc
end Go.Proofs.YteimbckgldkcgaaGreatDoor
