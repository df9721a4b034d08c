/- More basics. No condition. -/
import Derived.Test.YtbnapejkjaddoaaDoorWQB
import Derived.StillTailTactics
namespace Go.Proofs.YtbnapejkjaddoaaDoor
open Go.RowKit
/-- A store of what is there changes nothing. -/
theorem setCell_self {w : World} {b i : Nat} {v : Value} (h : w.cell? ⟨b, i, none⟩ = some v) : w.setCell ⟨b, i, none⟩ v = w := by
  have hb := cell_lt h
  have hx : w.heap.modify b (fun
      | .cells c elem frozen => .cells (if (none : Option Nat).isSome then c else c.setIfInBounds i v) elem frozen
      | o => o) = w.heap := by
    apply Array.ext_getElem?
    intro j
    rw [Array.getElem?_modify]
    split
    · rename_i e; subst e
      rw [Array.getElem?_eq_getElem hb, Option.map_some]
      unfold World.cell? at h
      rw [Array.getElem?_eq_getElem hb] at h
      cases ho : w.heap[b] with
      | cells c t z =>
        rw [ho] at h
        simp only [Option.isSome_none, Bool.false_eq_true, if_false] at h ⊢
        congr 2
        apply Array.ext_getElem?
        intro k
        rw [Array.getElem?_setIfInBounds]
        split
        · rename_i e; subst e
          split
          · exact h.symm
          · rename_i hn; rw [Array.getElem?_eq_none (by omega)] at h; cases h
        · rfl
      | _ => rfl
    · rfl
  show { w with heap := _ } = w
  exact congrArg (fun hp => { w with heap := hp }) hx
theorem freeE {S : List Nat} {W : World} {b : Nat} {cs : Array Value} {t : TypeId} (h : W.heap[b]? = some (.cells cs t (0, 0))) (hs : b ∉ S) (i : Nat) :
    ∀ w', Ex S W w' → w'.frozen? ⟨b, i, none⟩ = false := fun _ hE => blk_free (hE.heap hs h) i
/-- A return at whatever world of which the same is known. -/
theorem ret_at {P : Program} {fn : Func} {R : Ending → World → Prop} {e : Exit} {a : Act} {X : World} (F : World → Prop) (h : F X) (k : ∀ W, F W → bodyPost P fn R e a W) : bodyPost P fn R e a X := k X h
/-- Reads, then a chain of other operations: any order is as the text's. -/
theorem region_tail {P : Program} {id : Nat} {Q : Exit → Act → World → Prop} {a : Act} {w : World} {l : List Oper} (n : Nat) (hm : P.follows .mixedOrders = true) (hB : Region.lexTailB .any l.toArray n = true)
    (h : wpStill P l.toArray w.drew (fun a' => wpList P l.toArray Q (l.drop n) a' w.drew) (l.take n) a) : (Code.region id l.toArray true).wp P Q a w :=
  wp_region_still_tail n hm hB h
end Go.Proofs.YtbnapejkjaddoaaDoor
