/- More basics. No condition. -/
import Derived.Test.YthmicafabimfkaaWQB
import Derived.StillTailTactics
namespace Go.Proofs.Ythmicafabimfkaa
open Go.RowKit
theorem freeE {S : List Nat} {W : World} {b : Nat} {cs : Array Value} {t : TypeId} (h : W.heap[b]? = some (.cells cs t (0, 0))) (hs : b ∉ S) (i : Nat) :
    ∀ w', Ex S W w' → w'.frozen? ⟨b, i, none⟩ = false := fun _ hE => blk_free (hE.heap hs h) i
/-- A return at whatever world of which the same is known. -/
theorem ret_at {P : Program} {fn : Func} {R : Ending → World → Prop} {e : Exit} {a : Act} {X : World} (F : World → Prop) (h : F X) (k : ∀ W, F W → bodyPost P fn R e a W) : bodyPost P fn R e a X := k X h
/-- Reads, then a chain of other operations: any order is as the text's. -/
theorem region_tail {P : Program} {id : Nat} {Q : Exit → Act → World → Prop} {a : Act} {w : World} {l : List Oper} (n : Nat) (hm : P.follows .mixedOrders = true) (hB : Region.lexTailB .any l.toArray n = true)
    (h : wpStill P l.toArray w.drew (fun a' => wpList P l.toArray Q (l.drop n) a' w.drew) (l.take n) a) : (Code.region id l.toArray true).wp P Q a w :=
  wp_region_still_tail n hm hB h
end Go.Proofs.Ythmicafabimfkaa
