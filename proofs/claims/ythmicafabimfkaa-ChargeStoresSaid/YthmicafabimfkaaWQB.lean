/- Basics of these proofs: worlds that only grow, or change in a few blocks of the call's own. No condition. -/
import Derived.WalkKit
import Derived.Below
import Derived.Lib.Hide
import Derived.BigQuiet
import Derived.Deep.RegionHeld3
import Derived.Deep.LoopGhost
import Derived.Deep.DeepCutAuto
namespace Go.Proofs.Ythmicafabimfkaa
open Go.RowKit
/-- The world w' is w but for blocks of the list S and for new ones. -/
structure Ex (S : List Nat) (w w' : World) : Prop where
  os : w'.os = w.os
  tape : w'.tape = w.tape
  output : w'.output = w.output
  size : w.heap.size ≤ w'.heap.size
  block : ∀ k, k < w.heap.size → k ∉ S → w'.heap[k]? = w.heap[k]?
abbrev Ext (w w' : World) : Prop := Ex [] w w'
theorem Ex.refl (S : List Nat) (w : World) : Ex S w w := ⟨rfl, rfl, rfl, Nat.le_refl _, fun _ _ _ => rfl⟩
theorem Ex.trans {S : List Nat} {a b c : World} (h : Ex S a b) (k : Ex S b c) : Ex S a c :=
  ⟨k.os.trans h.os, k.tape.trans h.tape, k.output.trans h.output, Nat.le_trans h.size k.size, fun i hi hs => (k.block i (Nat.lt_of_lt_of_le hi h.size) hs).trans (h.block i hi hs)⟩
theorem Ex.mono {S T : List Nat} {a b : World} (h : Ex S a b) (hs : ∀ x ∈ S, x ∈ T) : Ex T a b :=
  ⟨h.os, h.tape, h.output, h.size, fun i hi hn => h.block i hi (fun hm => hn (hs i hm))⟩
theorem Ex.ex {a b : World} (h : Ext a b) (S : List Nat) : Ex S a b := h.mono (by simp)
/-- Blocks that were not there when it began count as new. -/
theorem Ex.fresh {S T : List Nat} {a b : World} (h : Ex S a b) (hs : ∀ x ∈ S, x ∈ T ∨ a.heap.size ≤ x) : Ex T a b :=
  ⟨h.os, h.tape, h.output, h.size, fun i hi hn => h.block i hi (fun hm => by rcases hs i hm with h1 | h1; exact hn h1; omega)⟩
theorem Ex.alloc {S : List Nat} {a w : World} (h : Ex S a w) (o : Obj) : Ex S a (w.alloc o) :=
  h.trans ⟨rfl, rfl, rfl, by simp, fun k hk _ => Below.heap_alloc _ _ _ hk⟩
theorem Ex.drew {S : List Nat} {a w : World} (h : Ex S a w) : Ex S a w.drew := ⟨h.os, h.tape, h.output, h.size, h.block⟩
theorem Ex.drewN {S : List Nat} {a w : World} (h : Ex S a w) (n : Nat) : Ex S a (w.drewN n) := ⟨h.os, h.tape, h.output, h.size, h.block⟩
theorem Ex.setCell {S : List Nat} {a w : World} (h : Ex S a w) {p : Addr} (hp : p.block ∈ S ∨ a.heap.size ≤ p.block) (u : Value) : Ex S a (w.setCell p u) :=
  ⟨h.os, h.tape, h.output, by simpa [World.setCell] using h.size, fun k hk hs => by
    rw [Below.heap_setCell _ _ _ _ (fun e => by subst e; rcases hp with h1 | h1; exact hs h1; omega)]; exact h.block k hk hs⟩
theorem Ex.below {w w' : World} (h : Ext w w') : Below w.heap.size w w' := ⟨h.os, h.tape, h.output, h.size, fun k hk => h.block k hk (by simp)⟩
theorem Ex.of_below {w w' : World} (h : Below w.heap.size w w') : Ext w w' := ⟨h.os, h.tape, h.output, h.size, fun k hk _ => h.block k hk⟩
theorem Ex.of_grown {w w' : World} {row : Option Nat} (hg : w.grownBy w' row) : Ex row.toList w w' :=
  ⟨hg.os, hg.tape, hg.output, hg.size, fun k hk hs => hg.block k hk (fun e => hs (by simp [← e]))⟩
theorem cell_lt {w : World} {b o : Nat} {v : Value} (hc : w.cell? ⟨b, o, none⟩ = some v) : b < w.heap.size := World.block_lt_of_cell? w ⟨b, o, none⟩ hc
theorem Ex.cell {S : List Nat} {w w' : World} (h : Ex S w w') {b o : Nat} {v : Value} (hs : b ∉ S) (hc : w.cell? ⟨b, o, none⟩ = some v) : w'.cell? ⟨b, o, none⟩ = some v := by
  rw [← hc]; exact World.cell?_of_block (w := w) (h.block b (cell_lt hc) hs)
theorem Ex.heap {S : List Nat} {w w' : World} (h : Ex S w w') {b : Nat} {o : Obj} (hs : b ∉ S) (hc : w.heap[b]? = some o) : w'.heap[b]? = some o := by
  rw [h.block b (lt_of_block hc) hs]; exact hc
theorem Ex.frozen {S : List Nat} {w w' : World} (h : Ex S w w') {b o : Nat} (hb : b < w.heap.size) (hs : b ∉ S) (hc : w.frozen? ⟨b, o, none⟩ = false) : w'.frozen? ⟨b, o, none⟩ = false := by
  rw [← hc]; exact World.frozen?_of_block (w := w) (h.block b hb hs)
/-- A block of cells: what a cell of it holds; that it is not frozen. -/
theorem blk_cell {w : World} {b : Nat} {cs : Array Value} {t : TypeId} {z : Nat × Nat} (h : w.heap[b]? = some (.cells cs t z)) (i : Nat) {v : Value} (hv : cs[i]? = some v) : w.cell? ⟨b, i, none⟩ = some v := by
  simp [World.cell?, h, hv]
theorem blk_free {w : World} {b : Nat} {cs : Array Value} {t : TypeId} (h : w.heap[b]? = some (.cells cs t (0, 0))) (i : Nat) : w.frozen? ⟨b, i, none⟩ = false := by
  simp [World.frozen?, h]
theorem blk_set {w : World} {b : Nat} {cs : Array Value} {t : TypeId} {z : Nat × Nat} (h : w.heap[b]? = some (.cells cs t z)) (i : Nat) (u : Value) :
    (w.setCell ⟨b, i, none⟩ u).heap[b]? = some (.cells (cs.setIfInBounds i u) t z) := by
  have hlt := lt_of_block h
  have h' : w.heap[b] = .cells cs t z := by simpa [Array.getElem?_eq_getElem hlt] using h
  show (w.heap.modify b _)[b]? = _
  rw [Array.getElem?_eq_getElem (by simpa using hlt), Array.getElem_modify_self, h']
  rfl
theorem blk_set_other {w : World} {b c i : Nat} {u : Value} {o : Obj} (h : w.heap[b]? = some o) (hn : b ≠ c) : (w.setCell ⟨c, i, none⟩ u).heap[b]? = some o := by
  rw [Below.heap_setCell _ _ _ _ hn]; exact h
theorem blk_alloc {w : World} {b : Nat} {o o' : Obj} (h : w.heap[b]? = some o) : (w.alloc o').heap[b]? = some o := by
  rw [Below.heap_alloc _ _ _ (lt_of_block h)]; exact h
theorem blk_new (w : World) (o : Obj) : (w.alloc o).heap[w.heap.size]? = some o := heap_alloc_new w o
theorem blk_drew {w : World} {b : Nat} {o : Obj} (h : w.heap[b]? = some o) : w.drew.heap[b]? = some o := h
theorem blk_to {w : World} {b : Nat} {cs cs' : Array Value} {t : TypeId} {z : Nat × Nat} (h : w.heap[b]? = some (.cells cs t z)) (hc : cs = cs') : w.heap[b]? = some (.cells cs' t z) := hc ▸ h
/-- The same at every later world. -/
theorem cellE {S : List Nat} {W : World} {b : Nat} {cs : Array Value} {t : TypeId} {z : Nat × Nat} (h : W.heap[b]? = some (.cells cs t z)) (hs : b ∉ S) (i : Nat) {v : Value} (hv : cs[i]? = some v) :
    ∀ w', Ex S W w' → w'.cell? ⟨b, i, none⟩ = some v := fun _ hE => hE.cell hs (blk_cell h i hv)
/-- The goal at whatever world of which the same is known. -/
theorem wp_at {P : Program} {c : Code} {Q : Exit → Act → World → Prop} {a : Act} {X : World} (F : World → Prop) (h : F X) (k : ∀ W, F W → c.wp P Q a W) : c.wp P Q a X := k X h
/-- It returns v, and the world only grew. -/
def Ret (v : Value) (w : World) : Ending → World → Prop := fun e w' => e = .returned v ∧ Ext w w'
/-- A slice that is only read: its elements are the list xs, each of k cells, as f writes them. -/
structure Sl {α : Type} (k : Nat) (f : α → List Value) (w : World) (a : Option Addr) (cap : Nat) (xs : List α) : Prop where
  le : xs.length ≤ cap
  big : cap ≤ 9223372036854775807
  cells : 0 < xs.length → ∃ b off, a = some ⟨b, off, none⟩ ∧ b < w.heap.size ∧ ∀ i (hi : i < xs.length) j v, (f xs[i])[j]? = some v → w.cell? ⟨b, off + i * k + j, none⟩ = some v
theorem Sl.ext {α : Type} {k : Nat} {f : α → List Value} {w w' : World} {a : Option Addr} {cap : Nat} {xs : List α} (h : Sl k f w a cap xs) (hE : Ext w w') : Sl k f w' a cap xs :=
  ⟨h.le, h.big, fun h0 => by
    obtain ⟨b, off, ha, hb, hc⟩ := h.cells h0
    exact ⟨b, off, ha, Nat.lt_of_lt_of_le hb hE.size, fun i hi j v hv => hE.cell (by simp) (hc i hi j v hv)⟩⟩
theorem Sl.nil {α : Type} (k : Nat) (f : α → List Value) (w : World) : Sl k f w none 0 [] := ⟨Nat.le_refl _, by omega, fun h => absurd h (by simp)⟩
/-- The k-th element, or d. -/
def nth {α : Type} (xs : List α) (d : α) (k : Nat) : α := xs.getD k d
theorem nth_eq {α : Type} (xs : List α) (d : α) (k : Nat) (h : k < xs.length) : xs[k] = nth xs d k := by simp [nth, h]
/-- The whole of a block as a slice. -/
theorem Sl.block {α : Type} {k : Nat} {f : α → List Value} {w : World} {b : Nat} {cs : Array Value} {t : TypeId} {z : Nat × Nat} {xs : List α} (h : w.heap[b]? = some (.cells cs t z))
    (hn : xs.length ≤ 9223372036854775807) (hx : ∀ i (hi : i < xs.length) j v, (f xs[i])[j]? = some v → cs[i * k + j]? = some v) : Sl k f w (some ⟨b, 0, none⟩) xs.length xs :=
  ⟨Nat.le_refl _, hn, fun _ => ⟨b, 0, rfl, lt_of_block h, fun i hi j v hv => by rw [Nat.zero_add]; exact blk_cell h _ (hx i hi j v hv)⟩⟩
end Go.Proofs.Ythmicafabimfkaa
