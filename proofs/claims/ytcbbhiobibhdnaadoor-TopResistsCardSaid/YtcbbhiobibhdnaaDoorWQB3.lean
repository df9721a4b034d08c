/- Slices that a call makes itself and appends to. No condition. -/
import Derived.Test.YtcbbhiobibhdnaaDoorWQR
import Derived.Deep.AppendLies
import Derived.Deep.AppendSrc
namespace Go.Proofs.YtcbbhiobibhdnaaDoor
open Go.RowKit
theorem Ex.trans_fresh {S T : List Nat} {a b c : World} (h : Ex S a b) (k : Ex T b c) (hs : ∀ x ∈ T, x ∈ S ∨ a.heap.size ≤ x) : Ex S a c :=
  ⟨k.os.trans h.os, k.tape.trans h.tape, k.output.trans h.output, Nat.le_trans h.size k.size, fun i hi hn =>
    (k.block i (Nat.lt_of_lt_of_le hi h.size) (fun hm => by rcases hs i hm with h1 | h1; exact hn h1; omega)).trans (h.block i hi hn)⟩
/-- The call's own slice: it is nil, or the head of a block of its own from base on; its elements are xs. -/
def Own {α : Type} (T k : Nat) (f : α → List Value) (base : Nat) (w : World) (v : Value) (xs : List α) : Prop := w.ownsRow base T k v xs.length (xs.flatMap f)
section
variable {α : Type} {T k : Nat} {f : α → List Value} {base : Nat} {w w' : World} {v : Value} {xs : List α}
theorem Own.nil (w : World) : Own T k f base w (.slice none 0 0) [] := World.ownsRow_nil w base T k
theorem Own.ex (h : Own T k f base w v xs) {S : List Nat} (hE : Ex S w w') (hv : ∀ g, v.ownBlock = some g → g ∉ S) : Own T k f base w' v xs := by
  obtain ⟨h1, h2⟩ := h
  refine ⟨h1, ?_⟩
  rcases h2 with h2 | ⟨g, cap, cur, rfl, hb, hg, r⟩
  · exact .inl h2
  · exact .inr ⟨g, cap, cur, rfl, hb, hE.heap (hv g rfl) hg, r⟩
theorem Own.ext (h : Own T k f base w v xs) (hE : Ext w w') : Own T k f base w' v xs := h.ex hE (by simp)
theorem Own.lt (h : Own T k f base w v xs) {g : Nat} (hg : v.ownBlock = some g) : g < w.heap.size := by
  rcases h.2 with ⟨rfl, _⟩ | ⟨g', cap, cur, rfl, hb, hh, _⟩
  · simp [Value.ownBlock] at hg
  · simp [Value.ownBlock] at hg; subst hg; exact lt_of_block hh
theorem Own.mono (h : Own T k f base w v xs) {b' : Nat} (hb : b' ≤ base) : Own T k f b' w v xs := by
  obtain ⟨h1, h2⟩ := h
  refine ⟨h1, ?_⟩
  rcases h2 with h2 | ⟨g, cap, cur, rfl, hbb, r⟩
  · exact .inl h2
  · exact .inr ⟨g, cap, cur, rfl, by omega, r⟩
theorem flat_get (hf : ∀ x : α, (f x).length = k) : ∀ (xs : List α) (i : Nat) (hi : i < xs.length) (j : Nat) (u : Value), (f xs[i])[j]? = some u → (xs.flatMap f)[i * k + j]? = some u
  | [], i, hi, _, _, _ => by simp at hi
  | x :: xs, 0, _, j, u, h => by
    have hj : j < (f x).length := (List.getElem?_eq_some_iff.1 h).1
    simp only [List.flatMap_cons, Nat.zero_mul, Nat.zero_add]
    rw [List.getElem?_append_left hj]; exact h
  | x :: xs, i + 1, hi, j, u, h => by
    have := flat_get hf xs i (by simpa using hi) j u h
    simp only [List.flatMap_cons]
    rw [List.getElem?_append_right (by rw [hf]; rw [Nat.add_mul]; omega), hf, show (i + 1) * k + j - k = i * k + j by rw [Nat.add_mul]; omega]
    exact this
theorem Own.sl (h : Own T k f base w v xs) (hf : ∀ x : α, (f x).length = k) : ∃ a cap, v = .slice a xs.length cap ∧ Sl k f w a cap xs ∧ (∀ b, a = some b → base ≤ b.block) := by
  obtain ⟨h1, h2⟩ := h
  rcases h2 with ⟨rfl, h0⟩ | ⟨g, cap, cur, rfl, hb, hg, hn, hc, hs, ht⟩
  · have : xs = [] := List.length_eq_zero_iff.1 h0
    subst this
    exact ⟨none, 0, rfl, Sl.nil _ _ _, by simp⟩
  · refine ⟨some ⟨g, 0, none⟩, cap, rfl, ⟨hn, by unfold maxLen at hc; omega, fun _ => ⟨g, 0, rfl, lt_of_block hg, fun i hi j u hu => ?_⟩⟩, ?_⟩
    · have h3 := flat_get hf xs i hi j u hu
      rw [← ht, List.getElem?_take] at h3
      split at h3
      · rw [Nat.zero_add]; exact blk_cell hg _ (by simpa using h3)
      · cases h3
    · intro b hb'; cases hb'; exact hb
end
section
variable {α : Type} {P : Program} {t T k bytes : Nat} {f : α → List Value} {base : Nat}
end
theorem Sl.ex {α : Type} {k : Nat} {f : α → List Value} {S : List Nat} {w w' : World} {a : Option Addr} {cap : Nat} {xs : List α} (h : Sl k f w a cap xs) (hE : Ex S w w') (hs : ∀ b, a = some b → b.block ∉ S) : Sl k f w' a cap xs :=
  ⟨h.le, h.big, fun h0 => by
    obtain ⟨b, off, ha, hb, hc⟩ := h.cells h0
    exact ⟨b, off, ha, Nat.lt_of_lt_of_le hb hE.size, fun i hi j v hv => hE.cell (hs _ ha) (hc i hi j v hv)⟩⟩
end Go.Proofs.YtcbbhiobibhdnaaDoor
