/- The package's variables that this seat's code reads: some number, two errors, the powers of ten. No condition. -/
import Derived.Test.YteimbckgldkcgaaGreatDoorWQB4
import Derived.Lib.LaidTab
import Derived.Lib.ItoaNum
namespace Go.Proofs.YteimbckgldkcgaaGreatDoor
open Go.RowKit
/-- Blocks of package variables that are never changed. -/
def gBlk : List Nat := [0, 1, 2, 3]
/-- What they hold. -/
def gOk (w : World) : Prop := (∃ m, w.cell? ⟨0, 0, none⟩ = some (.int .i64 m)) ∧ (∃ t p, w.cell? ⟨1, 0, none⟩ = some (.iface t p)) ∧ (∃ t p, w.cell? ⟨2, 0, none⟩ = some (.iface t p)) ∧ ∃ T f, w.heap[3]? = some (.cells (Lib.pow10Tab.map fun z => Value.int .u64 z).toArray T f)
theorem cell_eq {w w' : World} {b : Nat} (h : w'.heap[b]? = w.heap[b]?) : w'.cell? ⟨b, 0, none⟩ = w.cell? ⟨b, 0, none⟩ := by
  unfold World.cell?; simp only [h]
theorem gOk_mono {w w' : World} (h : ∀ b ∈ gBlk, w'.heap[b]? = w.heap[b]?) (hg : gOk w) : gOk w' := by
  obtain ⟨h1, h2, h3, h4⟩ := hg
  refine ⟨?_, ?_, ?_, ?_⟩
  · rw [cell_eq (h 0 (by simp [gBlk]))]; exact h1
  · rw [cell_eq (h 1 (by simp [gBlk]))]; exact h2
  · rw [cell_eq (h 2 (by simp [gBlk]))]; exact h3
  · rw [h 3 (by simp [gBlk])]; exact h4
theorem cells_of {w : World} {b : Nat} {v : Value} (h : w.cell? ⟨b, 0, none⟩ = some v) : ∃ c T f, w.heap[b]? = some (.cells c T f) := by
  unfold World.cell? at h
  simp only at h
  split at h
  · rename_i c T f hc; exact ⟨_, _, _, hc⟩
  · cases h
theorem gOk_cells {w : World} (hg : gOk w) {b : Nat} (hb : b ∈ gBlk) : ∃ c T f, w.heap[b]? = some (.cells c T f) := by
  obtain ⟨⟨m, h1⟩, ⟨t, p, h2⟩, ⟨t', p', h3⟩, T, f, h4⟩ := hg
  simp only [gBlk, List.mem_cons, List.not_mem_nil, or_false] at hb
  rcases hb with rfl | rfl | rfl | rfl
  · exact cells_of h1
  · exact cells_of h2
  · exact cells_of h3
  · exact ⟨_, _, _, h4⟩
end Go.Proofs.YteimbckgldkcgaaGreatDoor
