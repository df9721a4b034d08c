/- Arguments that come in are opened, by their types. No condition. -/
import Derived.Test.YthmicafabimfkaaWQB
import Derived.Deep.Slices
import Derived.Deep.Fields
import Derived.ChangeSame
import Derived.OpenShut
import Derived.ShutString
import Derived.ChangeOld
import Derived.ProofKit
namespace Go.Proofs.Ythmicafabimfkaa
open Go.RowKit
open Go.ChangeShapes Go.WideShapes Go.Deep
/-- A number is one of its kind. -/
def fit : Value → Prop
  | .int k n => k.min ≤ n ∧ n ≤ k.max
  | .string s => s.size ≤ maxLen
  | _ => True
def Fits (l : List Value) : Prop := ∀ v ∈ l, fit v
theorem Fits.nil : Fits [] := fun _ h => by cases h
theorem Fits.app {l r : List Value} (h : Fits l) (h2 : Fits r) : Fits (l ++ r) := fun v hv => (List.mem_append.1 hv).elim (h v) (h2 v)
theorem Fits.one {v : Value} (h : fit v) : Fits [v] := fun u hu => by simp only [List.mem_singleton] at hu; subst hu; exact h
theorem someOf {α : Type} {xs : List α} {i n : Nat} (hl : xs.length = n) (hi : i < n) : ∃ y, xs[i]? = some y := ⟨_, List.getElem?_eq_getElem (by omega)⟩
/-- A row of cells is its parts, one behind the other. -/
def contig : Nat → List (Nat × Nat) → Nat → Bool
  | o, [], t => o == t
  | o, (p, n) :: r, t => p == o && contig (o + n) r t
theorem parts_ : ∀ (l : List (Nat × Nat)) (o t : Nat) (cs : List Value), contig o l t = true → cs.length = t → cs.drop o = (l.map fun x => (cs.drop x.1).take x.2).flatten
  | [], o, t, cs, h, hl => by
    simp only [contig, beq_iff_eq] at h
    simp [List.drop_eq_nil_of_le (show cs.length ≤ o by omega)]
  | (p, n) :: r, o, t, cs, h, hl => by
    simp only [contig, Bool.and_eq_true, beq_iff_eq] at h
    obtain ⟨rfl, h⟩ := h
    have ih := parts_ r (p + n) t cs h hl
    simp only [List.map_cons, List.flatten_cons, ← ih]
    rw [← List.drop_drop]
    exact (List.take_append_drop n (cs.drop p)).symm
theorem parts {cs : List Value} {t : Nat} (l : List (Nat × Nat)) (h : contig 0 l t = true) (hl : cs.length = t) : cs = (l.map fun x => (cs.drop x.1).take x.2).flatten := by
  have := parts_ l 0 t cs h hl
  rwa [List.drop_zero] at this
section
variable {P : Program} {H : Type} {enc : TypeId × Value → H} {W : World} {base : Nat} {spare : Nat → Bool} {held : Bool} {fuel : Nat} {cs : List Value} {x : DataW H × List MemPlace} {t : TypeId}
theorem addrAdd (b off n : Nat) : (⟨b, off, none⟩ : Addr).add n = ⟨b, off + n, none⟩ := by unfold Addr.add; split <;> simp_all
/-- A slice that came in, over elements that are opened. -/
theorem fo_slice {α : Type} {f : α → List Value} {Pr : α → Prop} (d : α) {k : Nat} {e : TypeId} (ht : P.underlying t = some (.slice e)) (hk : P.cellsOf e = k) (hpos : 0 < k) (hf : ∀ l : α, (f l).length = k)
    (hel : ∀ n cs x, DataW.trod enc P W base spare held n e cs = some x → ∃ l : α, cs = f l ∧ Pr l) (h : DataW.trod enc P W base spare held fuel t cs = some x) (hsp : spare = fun _ => true) :
    ∃ (a : Option Addr) (cap : Nat) (xs : List α), cs = [.slice a xs.length cap] ∧ Sl k f W a cap xs ∧ ∀ y ∈ xs, Pr y := by
  subst hsp
  rcases open_slice ht h with ⟨hcs, _⟩ | ⟨a, len, cap, m, n, D, Pl, hcs, hb, hl, hm, hmm, hx, hi⟩
  · exact ⟨none, 0, [], hcs, Sl.nil _ _ _, by simp⟩
  · simp only [if_true] at hmm
    have hex : ∀ i, ∃ l : α, i < m → W.cells? base (a.add (i * k)) k = some (f l) ∧ Pr l := fun i => by
      by_cases him : i < m
      · obtain ⟨cs', hc, ht'⟩ := hi i him
        obtain ⟨l, hl', hp⟩ := hel n cs' _ ht'
        rw [hk] at hc
        exact ⟨l, fun _ => ⟨by rw [hc, hl'], hp⟩⟩
      · exact ⟨d, fun h => absurd h him⟩
    obtain ⟨g, hg⟩ := Classical.axiomOfChoice hex
    refine ⟨some a, cap, (List.range len).map g, by rw [hcs, List.length_map, List.length_range], ⟨by simpa using hl, by unfold maxLen at hm; omega, fun h0 => ?_⟩, fun y hy => ?_⟩
    · have h0' : 0 < len := by simpa using h0
      obtain ⟨b, off, spot⟩ := a
      have h00 := (hg 0 (by omega)).1
      obtain ⟨_, _, hat0⟩ := World.cells?_some h00
      have hat := (hat0 0 hpos).trans (List.getElem?_eq_getElem (by rw [hf]; exact hpos))
      have hspot : spot = none := by simpa [Addr.add] using World.cell?_spot hat
      subst hspot
      have hlt : b < W.heap.size := by
        have h9 := cell_lt (by simpa [Addr.add] using hat : W.cell? ⟨b, off, none⟩ = some _)
        exact h9
      refine ⟨b, off, rfl, hlt, fun i hi' j v hv => ?_⟩
      have hi2 : i < len := by simpa using hi'
      have hgi := (hg i (by omega)).1
      obtain ⟨_, hcl, hat1⟩ := World.cells?_some hgi
      simp only [List.getElem_map, List.getElem_range] at hv
      have hj : j < k := by have h9 := (List.getElem?_eq_some_iff.1 hv).1; rwa [hf] at h9
      have h1 := hat1 j hj
      rw [hv] at h1
      rw [addrAdd, addrAdd] at h1
      exact h1
    · obtain ⟨i, hi', rfl⟩ := List.mem_map.1 hy
      exact (hg i (by have := List.mem_range.1 hi'; omega)).2
end
end Go.Proofs.Ythmicafabimfkaa
