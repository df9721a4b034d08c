/- Slices of slices. No condition. -/
import Derived.Test.YtojnpaenpaobcaaB5
import Derived.Test.YtojnpaenpaobcaaR2
namespace Go.Proofs.Ytojnpaenpaobcaa
open Go.RowKit

/-- x[l:], read only. -/
theorem Sl.drop {α : Type} {P : Program} {t T k bytes : Nat} {f : α → List Value} (he : EI P t T k bytes) {w : World} {a : Option Addr} {cap : Nat} {xs : List α} (h : Sl k f w a cap xs) (l : Nat) (hl : l ≤ xs.length) :
    ∃ a', (∀ w', (Instr.sliceAt t (.slice a xs.length cap) (some (.int .i64 l)) none none).run P w' = .ok (.slice a' (xs.drop l).length (cap - l)) w') ∧ Sl k f w a' (cap - l) (xs.drop l) ∧ (∀ b, a' = some b → ∃ c, a = some c ∧ b.block = c.block) := by
  obtain ⟨i, z, hi, hz, hsz, hby, hzs⟩ := he.ex
  have hle := h.le; have hb := h.big
  have hel : P.elem t = T := by simp [Program.elem, he.ht]
  refine ⟨if cap = l then a else a.map (·.add (l * k)), fun w' => ?_, ⟨by simp; omega, by omega, fun h0 => ?_⟩, ?_⟩
  · rw [run_sliceAt_slice w' t _ _ _ _ (by rw [hel]; exact he.ht), run_slice_l w' t a xs.length cap (by rw [hel]; exact he.ht) .i64 l (by omega) (by omega)]
    simp [sizeOf, typeInfo, hel, hi, hsz, Result.andThen, sliced]
  · have h1 : l < xs.length := by simp at h0; omega
    obtain ⟨b, off, rfl, hbw, hc⟩ := h.cells (by omega)
    refine ⟨b, off + l * k, by rw [if_neg (by omega)]; simp [Addr.add], hbw, fun i hi j v hv => ?_⟩
    have h2 : l + i < xs.length := by simp at hi; omega
    have h3 := hc (l + i) h2 j v (by simpa using hv)
    rw [show off + l * k + i * k + j = off + (l + i) * k + j by rw [Nat.add_mul]; omega]
    exact h3
  · intro b hb'
    split at hb'
    · exact ⟨b, hb', rfl⟩
    · cases a with
      | none => simp at hb'
      | some c =>
        simp only [Option.map_some, Option.some.injEq] at hb'
        refine ⟨c, rfl, ?_⟩
        rw [← hb']; unfold Addr.add; split <;> rfl
end Go.Proofs.Ytojnpaenpaobcaa
