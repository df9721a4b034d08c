/- Blocks that hold neither cells nor a map may be written. No condition. -/
import Derived.Test.YthmicafabimfkaaWZ10
import Derived.RangeFuncRecord
namespace Go.Proofs.Ythmicafabimfkaa
noncomputable section
open Go.RowKit
/-! Blocks that hold neither cells nor a map -/
def noCells : Obj → Bool
  | .cells .. => false
  | .map .. => false
  | _ => true
section
variable {P : Program} {N n : Nat} {D : List Deferred} {S F : List Nat} {W0 B : World} {ρ ρ' : List Info} {K : Slo} {h h' : List Root} {w w' : World} {a : Act}
theorem ObOk.putObj {l : Nat} {o o0 : Obj} (hl : w.heap[l]? = some o0) (h0 : noCells o0 = true) {v : Value} {ob : Ob} (hr : ObOk ρ w v ob) : ObOk ρ (w.putObj l o) v ob := by
  cases ob with
  | no => trivial
  | row T τ xs =>
    obtain ⟨a, c, h1, h2, vs, h3, h4, h5, h6, h7⟩ := hr
    refine ⟨a, c, h1, h2, vs, h3, h4, h5, h6, ?_⟩
    rcases h7 with h7 | ⟨g, o', cur, h8, h9, h10⟩
    · exact .inl ⟨h7.1, fun b hb => by rw [World.putObj_size]; exact h7.2 b hb⟩
    · refine .inr ⟨g, o', cur, h8, ?_, h10⟩
      rw [World.putObj_heap_other (fun e => by subst e; rw [hl] at h9; cases h9; cases h0)]
      exact h9
  | mp κ agg τ ts =>
    obtain ⟨r, ents, cl, h1, h3, h4⟩ := hr
    refine ⟨r, ents, cl, h1, ?_, h4⟩
    rw [World.putObj_heap_other (fun e => by subst e; rw [hl] at h3; cases h3; cases h0)]
    exact h3
  | rr τ xs =>
    obtain ⟨a, c, g1, g2, g3, vs, h2, h3⟩ := hr
    refine ⟨a, c, g1, g2, g3, vs, h2, fun hn => ?_⟩
    obtain ⟨b, o', h4, h5, h6⟩ := h3 hn
    refine ⟨b, o', h4, by rw [World.putObj_size]; exact h5, fun j v hv => ?_⟩
    have h7 := h6 j v hv
    unfold World.cell? at h7 ⊢
    have hne : b ≠ l := fun e => by
      subst e
      dsimp only at h7
      rw [hl] at h7
      cases o0 <;> first | (cases h0; done) | (simp at h7; done)
    dsimp only at h7 ⊢
    rw [World.putObj_heap_other hne]
    exact h7
theorem ArOk.putObj {l : Nat} {o o0 : Obj} (hl : w.heap[l]? = some o0) (h0 : noCells o0 = true) {vs : List Value} {os : List Ob} (hr : ArOk ρ w vs os) : ArOk ρ (w.putObj l o) vs os :=
  ⟨hr.1, fun m v ob h1 h2 => (hr.2.1 m v ob h1 h2).putObj hl h0, hr.2.2⟩
theorem RootOk.putObj {l : Nat} {o o0 : Obj} (hl : w.heap[l]? = some o0) (h0 : noCells o0 = true) {i : Info} {r : Root} (hr : RootOk ρ w i r) : RootOk ρ (w.putObj l o) i r := by
  cases r with
  | dead => trivial
  | blk cs T =>
    obtain ⟨h1, b, vs, h2, h3, h4⟩ := hr
    refine ⟨h1, b, vs, h2, h3, ?_⟩
    rw [World.putObj_heap_other (fun e => by subst e; rw [hl] at h4; cases h4; cases h0)]
    exact h4
  | rows T τ xs =>
    obtain ⟨h1, h2, vs, h3, h4, h5, h6, h7⟩ := hr
    refine ⟨h1, h2, vs, h3, h4, h5, h6, ?_⟩
    rcases h7 with h7 | ⟨g, o', cur, h8, h9, h10⟩
    · exact .inl ⟨h7.1, fun b hb => by rw [World.putObj_size]; exact h7.2 b hb⟩
    · refine .inr ⟨g, o', cur, h8, ?_, h10⟩
      rw [World.putObj_heap_other (fun e => by subst e; rw [hl] at h9; cases h9; cases h0)]
      exact h9
  | ro τ xs =>
    obtain ⟨h1, vs, h2, h3⟩ := hr
    refine ⟨h1, vs, h2, fun hn => ?_⟩
    obtain ⟨b, o', h4, h5, h6⟩ := h3 hn
    refine ⟨b, o', h4, by rw [World.putObj_size]; exact h5, fun j v hv => ?_⟩
    have h7 := h6 j v hv
    unfold World.cell? at h7 ⊢
    have hne : b ≠ l := fun e => by
      subst e
      dsimp only at h7
      rw [hl] at h7
      cases o0 <;> first | (cases h0; done) | (simp at h7; done)
    dsimp only at h7 ⊢
    rw [World.putObj_heap_other hne]
    exact h7
  | clo f x c => exact hr
  | mp κ agg τ es =>
    obtain ⟨r, ents, c, h1, h2, h3, h4⟩ := hr
    refine ⟨r, ents, c, h1, h2, ?_, h4⟩
    rw [World.putObj_heap_other (fun e => by subst e; rw [hl] at h3; cases h3; cases h0)]
    exact h3
  | ars t T τ os => exact ArOk.putObj hl h0 hr
  | aro t T τ os => exact ArOk.putObj hl h0 hr
  | arm t k agg τ os => exact ArOk.putObj hl h0 hr
  | arr t τ os => exact ArOk.putObj hl h0 hr
theorem HOk.putObj (hh : HOk S F W0 ρ h w) {l : Nat} {o o0 : Obj} (hl : w.heap[l]? = some o0) (h0 : noCells o0 = true) (hB : Ex [l] W0 B) (hs : B.heap.size = W0.heap.size) (hBl : B.heap[l]? = some o) : HOk S F B ρ h (w.putObj l o) := by
  have hG : ∀ b ∈ gBlk, b ≠ l := fun b hb e => by
    obtain ⟨c, T, f, hc⟩ := gOk_cells hh.layW hb
    rw [e, hl] at hc
    cases hc
    cases h0
  have hlt := lt_of_block hl
  refine ⟨⟨hh.ext.os.trans hB.os.symm, hh.ext.tape.trans hB.tape.symm, hh.ext.output.trans hB.output.symm, by rw [World.putObj_size, hs]; exact hh.ext.size, fun k hk hks => ?_⟩, hh.len, fun id r i a b => (hh.ok id r i a b).putObj hl h0, hh.sep, fun p r i b x y z => by rw [hs]; exact hh.mine p r i b x y z, fun p r i b x y z => by rw [hs]; exact hh.near p r i b x y z, gOk_mono (fun b hb => hB.block b (hh.out b hb).1 (by simp only [List.mem_singleton]; exact hG b hb)) hh.lay, fun b hb => ⟨by rw [hs]; exact (hh.out b hb).1, (hh.out b hb).2⟩, hh.cov, hh.cln⟩
  by_cases e : k = l
  · subst e; rw [World.putObj_heap_same hlt, hBl]
  · rw [World.putObj_heap_other e, hh.ext.block k (by omega) hks, hB.block k (by omega) (by simpa using e)]
end
end
end Go.Proofs.Ythmicafabimfkaa
