/- All charges, one after another: the inner function. No condition. -/
import Derived.Test.YtojnpaenpaobcaaC23
import Derived.RangeFuncNested
import Derived.RangeFuncBound
import Derived.RangeFuncCalls
import Derived.RangeFuncLeaves
import Derived.Shelf.Abstract
import Derived.Shelf.RegionOpen
import Derived.OwnWalkIn
import Derived.TacticsInMore
import Derived.LoopNIn
import Derived.LoopIn
namespace Go.Proofs.Ytojnpaenpaobcaa
open Go.RowKit
attribute [local irreducible] wpYield wpPlan
attribute [local go_sem] Oper.semAt_some

/-- All charges from a beginning on, with their margins. -/
def chargesR (p : Recipe) (ones : List Mar) : Nat → List Int → Mar → List (List Int × Mar)
  | 0, c, m => [(c, m)]
  | r + 1, c, m => (List.range ((nth p.lots .zero c.length).count + 1).toNat).flatMap fun (j : Nat) => chargesR p ones r (c ++ [(j : Int)]) (plusM m (nth ones .zero c.length) j)

theorem intCells_flat (c : List Int) : (c.flatMap intCells).length = c.length := by
  induction c with
  | nil => rfl
  | cons x c ih => simp only [List.flatMap_cons, List.length_append, ih, List.length_cons, intCells_len]; omega
theorem Own.before {base g k cap : Nat} {w : World} {c : List Int} {x : Int} (h : Own 3 1 intCells base w (.slice (some ⟨g, 0, none⟩) (k + 1) cap) (c ++ [x])) (hk : c.length = k) : Own 3 1 intCells base w (.slice (some ⟨g, 0, none⟩) k cap) c := by
  obtain ⟨h1, h2⟩ := h
  rcases h2 with ⟨h2, _⟩ | ⟨g', cap', cur, e, hb, hg, hn, hc, hs, ht⟩
  · cases h2
  · simp only [Value.slice.injEq, Option.some.injEq, Addr.mk.injEq] at e
    obtain ⟨⟨rfl, _⟩, _, rfl⟩ := e
    refine ⟨by rw [intCells_flat]; omega, .inr ⟨g, cap, cur, by rw [hk], hb, hg, by simp at hn; omega, hc, hs, ?_⟩⟩
    have h3 : (cur.toList.take ((c ++ [x]).length * 1)).take (c.length * 1) = ((c ++ [x]).flatMap intCells).take (c.length * 1) := by rw [ht]
    rw [List.take_take, show min (c.length * 1) ((c ++ [x]).length * 1) = c.length * 1 by simp] at h3
    rw [h3, List.flatMap_append, List.take_append_of_le_length (by rw [intCells_flat]; omega)]
    exact List.take_of_length_le (by rw [intCells_flat]; omega)

/-- What the inner function finds in memory. -/
structure Env (p : Recipe) (a : Option Addr) (cap : Nat) (a2 : Option Addr) (cap2 : Nat) (ones : List Mar) (l bt by_ be : Nat) (w : World) : Prop where
  t : w.heap[bt]? = some (.cells #[.slice a p.lots.length cap, .int .i64 p.mass.lo, .int .i64 p.mass.hi, .int .i64 p.target.a.lo, .int .i64 p.target.a.hi, .int .i64 p.target.b.lo, .int .i64 p.target.b.hi, .int .i64 p.target.c.lo, .int .i64 p.target.c.hi, .slice a2 ones.length cap2] 119 (0, 0))
  y : w.heap[by_]? = some (.cells #[.func (.yield l) #[] #[]] 165 (0, 0))
  e : w.heap[be]? = some (.cells #[.func (.func 94) #[] #[.pointer (some ⟨bt, 0, none⟩), .pointer (some ⟨by_, 0, none⟩), .pointer (some ⟨be, 0, none⟩)]] 165 (0, 0))
  lots : SlL w a cap p.lots
  ones_ : Sl 8 Mar.cells w a2 cap2 ones

end Go.Proofs.Ytojnpaenpaobcaa
