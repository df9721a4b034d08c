/- A range over a function whose every round goes on: the law. No condition. -/
import Derived.Test.YtojnpaenpaobcaaB5
import Derived.RangeFuncNested
import Derived.RangeFuncBound
import Derived.RangeFuncCalls
import Derived.RangeFuncLeaves
namespace Go.Proofs.Ytojnpaenpaobcaa
open Go.RowKit

theorem Ex.putObj {S : List Nat} {a w : World} (h : Ex S a w) {l : Nat} (hl : l ∈ S) (o : Obj) : Ex S a (w.putObj l o) :=
  ⟨h.os, h.tape, h.output, by have := h.size; simpa [World.putObj] using this, fun k hk hs => by
    rw [World.putObj_heap_other (by intro e; subst e; exact hs hl)]; exact h.block k hk hs⟩

theorem range_all {P : Program} {α : Type} {gop : Operand} {ps : Array Tmp} {assign body : Code} {Q : Exit → Act → World → Prop} {a : Act} {w : World} {gf : Nat} {lb : Array Value}
    (hg : a.eval gop = .func (.func gf) #[] lb) (eg : ∀ args w, (callFunc gf args).run P w = .ok (.enter gf args) w)
    (encs : Nat → α → Array Value) (hps : ∀ γ x, (encs γ x).size = ps.size) (xs : List α) (SB : List Nat) (hSB : ∀ x ∈ SB, x < w.heap.size)
    (I : Nat → List α → World → Prop) (C : Nat → α → World → Prop) (A : Nat → α → Act → World → Prop)
    (hI : ∀ γ pre W W', I γ pre W → Ex [w.heap.size + 1] W W' → I γ pre W') (hC : ∀ γ x W W', w.heap.size + 2 ≤ γ → C γ x W → Ex [w.heap.size + 1] W W' → C γ x W') (hA : ∀ γ x b W W', A γ x b W → Ex [w.heap.size + 1] W W' → A γ x b W')
    (hI0 : ∀ γ W, w.heap.size + 2 ≤ γ → Ext w W → I γ [] W) (hIg : ∀ γ pre W W', w.heap.size + 2 ≤ γ → I γ pre W → Ex [γ] W W' → I γ pre W')
    (hseq : ∀ (W1 : World) (J : Nat → List α → World → Prop), Ext w W1 → W1.heap.size = w.heap.size + 2 →
      (∀ γ W, W1.heap.size ≤ γ → Ext W1 W → J γ [] W) → (∀ γ pre W W', J γ pre W → Ex [γ] W W' → J γ pre W') →
      (∀ γ, W1.heap.size ≤ γ → ∀ pre x W, J γ pre W → C γ x W → YieldAt Fence.wide 4 P (w.heap.size + 1) (encs γ x) W (fun e W' => e = .returned (.bool true) ∧ J γ (pre ++ [x]) W' ∧ Ex ((w.heap.size + 1) :: SB) W W')) →
      Calls P gf (#[.func (.yield (w.heap.size + 1)) #[] #[]] ++ lb) W1 (fun e w' => (∃ v, e = .returned v) ∧ ∃ γ, W1.heap.size ≤ γ ∧ J γ xs w'))
    (hassign : ∀ γ pre x W, w.heap.size + 2 ≤ γ → w.heap.size + 1 < W.heap.size → I γ pre W → C γ x W → assign.wpIn (Fence.wide.inRound (w.heap.size + 1)) 4 P (Exit.then (fun a₁ w₁ => Ext W w₁ ∧ A γ x a₁ w₁) (fun _ _ _ => False)) { tmps := (ps.zip (encs γ x)).foldl (fun t (p, v) => t.setIfInBounds p v) a.tmps, defers := [] } W)
    (hbody : ∀ γ pre x a₁ W, w.heap.size + 2 ≤ γ → I γ pre W → C γ x W → A γ x a₁ W → body.wpIn (Fence.wide.inRound (w.heap.size + 1)) 4 P (fun e _ W' => e = .normal ∧ I γ (pre ++ [x]) W' ∧ Ex SB W W') a₁ W)
    (hdone : ∀ γ W, w.heap.size + 2 ≤ γ → I γ xs W → W.heap[w.heap.size]? = some (.deferred (some [])) → Q .normal { a with defers := { target := .collected w.heap.size, args := #[] } :: a.defers } W) :
    (Code.rangeFunc gop ps assign body).wp P Q a w := by
  refine (wpIn_wide (n := 5)).1 ?_
  refine wpIn_rangeFunc ?_
  intro fn hfn
  obtain ⟨rec, hrec⟩ : ∃ rec : LoopState → Loop, rec = fun st => { state := st, pending := none, fn, tmps := a.tmps, params := ps, assign, body, defers := w.heap.size } := ⟨_, rfl⟩
  obtain ⟨W1, hW1⟩ : ∃ W1, (w.alloc (.deferred (some []))).alloc (.loop (rec .ready)) = W1 := ⟨_, rfl⟩
  have hE1 : Ext w W1 := by rw [← hW1]; exact ((Ex.refl _ _).alloc _).alloc _
  have hs1 : W1.heap.size = w.heap.size + 2 := by rw [← hW1]; simp
  have hL1 : W1.heap[w.heap.size + 1]? = some (.loop (rec .ready)) := by
    rw [← hW1]; have := World.alloc_heap_new (w.alloc (.deferred (some []))) (.loop (rec .ready)); rwa [World.size_alloc] at this
  have hK1 : W1.heap[w.heap.size]? = some (.deferred (some [])) := by
    rw [← hW1]; exact blk_alloc (blk_new _ _)
  refine ⟨w.heap.size + 1, [{ target := .collected w.heap.size, args := #[] }], W1, { target := .fn (.func gf) lb, args := #[.func (.yield (w.heap.size + 1)) #[] #[]] }, W1, gf,
    #[.func (.yield (w.heap.size + 1)) #[] #[]] ++ lb, W1, ?_, ?_, ?_, ?_, fun h => (by cases h), ?_⟩
  · rw [← hW1, hrec]; exact run_enterLoop_outer _ _ _ _ _
  · simp only [resolve, hg]
    simp [go_sem]
  · intro f' hf'; trivial
  · simp [invoke, go_sem, eg]
  · refine callsIn_wide.2 ((hseq W1 (fun γ pre W => (w.heap.size + 2 ≤ γ → I γ pre W) ∧ (w.heap.size + 2 ≤ γ → W.heap[w.heap.size + 1]? = some (.loop (rec .ready))) ∧ (w.heap.size + 2 ≤ γ → W.heap[w.heap.size]? = some (.deferred (some [])))) hE1 hs1 ?_ ?_ ?_).mono ?_)
    · intro γ W hγ hW
      exact ⟨fun h => hI0 γ W h (hE1.trans hW), fun _ => hW.heap (by simp) hL1, fun _ => hW.heap (by simp) hK1⟩
    · intro γ pre W W' ⟨h1, h2, h3⟩ hx
      exact ⟨fun h => hIg γ pre W W' h (h1 h) hx, fun h => hx.heap (by simp; omega) (h2 h), fun h => hx.heap (by simp; omega) (h3 h)⟩
    · intro γ hγ pre x W ⟨h1, h2, h3⟩ hc
      have hγ' : w.heap.size + 2 ≤ γ := by omega
      have hi := h1 hγ'; have hl := h2 hγ'; have hk := h3 hγ'
      have hy := run_yield (P := P) (args := encs γ x) hl (by rw [hrec]; exact hps γ x)
      rw [hrec] at hy
      refine ⟨fn, _, assign, body, hy, roundIn_of_wpIn hfn (wpIn_mono (hassign γ pre x W hγ' (lt_of_block hl) hi hc) ?_)⟩
      rintro e a1 w1 hp
      cases e with
      | normal =>
        obtain ⟨hx1, hA1⟩ := hp
        have hl1 := hx1.heap (by simp) hl
        have hlt := lt_of_block hl1
        refine ⟨_, run_beginRound hl1 (by rw [hrec]), ?_⟩
        have hx2 : Ex [w.heap.size + 1] w1 (w1.putObj (w.heap.size + 1) (.loop { rec .ready with state := .busy })) := (Ex.refl _ _).putObj (by simp) _
        have hl2 : (w1.putObj (w.heap.size + 1) (.loop { rec .ready with state := .busy })).heap[w.heap.size + 1]? = some (.loop { rec .ready with state := .busy }) := World.putObj_heap_same hlt
        have hx1' : Ex [w.heap.size + 1] W w1 := hx1.ex _
        have hx12 := hx1'.trans hx2
        refine wpIn_mono (hbody γ pre x a1 _ hγ' (hI _ _ _ _ hi hx12) (hC _ _ _ _ hγ' hc hx12) (hA _ _ _ _ _ hA1 hx2)) ?_
        rintro e a3 W3 ⟨rfl, hi3, hx3⟩
        have hl3 := hx3.heap (fun hm => absurd (hSB _ hm) (by omega)) hl2
        have hk3 := hx3.heap (fun hm => absurd (hSB _ hm) (by omega)) (hx12.heap (by simp) hk)
        have hlt3 := lt_of_block hl3
        have hr := run_endRound (P := P) none hl3
        have hx4 : Ex [w.heap.size + 1] W3 (W3.putObj (w.heap.size + 1) (.loop { rec .ready with state := .ready, pending := none })) := (Ex.refl _ _).putObj (by simp) _
        refine ⟨_, _, hr, rfl, ⟨fun _ => hI _ _ _ _ hi3 hx4, fun _ => ?_, fun _ => hx4.heap (by simp) hk3⟩, ?_⟩
        · have h9 := World.putObj_heap_same (o := .loop { rec .ready with state := .ready, pending := none }) hlt3
          rw [hrec] at h9 ⊢
          exact h9
        · refine Ex.trans (hx12.mono (by simp)) (Ex.trans (hx3.mono (fun x hx => by simp [hx])) ?_)
          exact hx4.mono (by simp)
      | ret => exact hp.elim
      | exit id => exact hp.elim
      | goto t => exact hp.elim
      | panic ch => exact hp.elim
      | outgrown => exact hp.elim
    · rintro e W2 ⟨⟨v, rfl⟩, γ, hγ, h1, h2, h3⟩
      have hγ' : w.heap.size + 2 ≤ γ := by omega
      have hl := h2 hγ'
      have hx4 : ∀ o, Ex [w.heap.size + 1] W2 (W2.putObj (w.heap.size + 1) o) := fun o => (Ex.refl _ _).putObj (by simp) _
      have hend := run_endLoop (P := P) hl (by rw [hrec]; simp)
      have hp : (rec .ready).pending = none := by rw [hrec]
      rw [hp] at hend
      exact ⟨none, _, hend, hdone γ _ hγ' (hI _ _ _ _ (h1 hγ') (hx4 _)) ((hx4 _).heap (by simp) (h3 hγ'))⟩

theorem postM_ret {F : Fence} {n : Nat} {P : Program} {fn : Func} {R : Ending → World → Prop} {a : Act} {w : World} {v : Value}
    (hr : (results fn a.tmps).run P w = .ok v w) (hd : a.defers = []) (hR : R (.returned v) w) : bodyPostM F n P fn R .ret a w := by
  change LeavesInM F n P fn a.tmps R a.defers .returning w
  rw [hd]
  exact ⟨v, hr, hR⟩
theorem postM_mark {F : Fence} {n : Nat} {P : Program} {fn : Func} {R : Ending → World → Prop} {a : Act} {w : World} {v : Value} {D : Nat}
    (hd : a.defers = [{ target := .collected D, args := #[] }]) (hk : w.heap[D]? = some (.deferred (some [])))
    (hr : ∀ w', Ex [D] w w' → (results fn a.tmps).run P w' = .ok v w') (hR : ∀ w', Ex [D] w w' → R (.returned v) w') : bodyPostM F n P fn R .ret a w := by
  change LeavesInM F n P fn a.tmps R a.defers .returning w
  rw [hd]
  have hx : Ex [D] w (w.putObj D (.deferred none)) := (Ex.refl _ _).putObj (by simp) _
  exact ⟨by simp, .inl ⟨D, _, rfl, run_takeDeferred hk, v, hr _ hx, hR _ hx⟩⟩
theorem retM_at {Fe : Fence} {n : Nat} {P : Program} {fn : Func} {R : Ending → World → Prop} {a : Act} {X : World} (F : World → Prop) (h : F X) (k : ∀ W, F W → bodyPostM Fe n P fn R .ret a W) : bodyPostM Fe n P fn R .ret a X := k X h
theorem calls_of_wpM {P : Program} {f : FuncId} {fn : Func} {c : Code} {args : Array Value} {w : World} {R : Ending → World → Prop}
    (hf : P.funcs[f]? = some fn) (hb : fn.body = some c) (h : c.wp P (bodyPostM Fence.wide 5 P fn R) { tmps := args ++ Array.replicate (fn.ntmps - args.size) undef, defers := [] } w) : Calls P f args w R :=
  callsIn_wide.1 (callsIn_of_wp_marks (n := 5) hf hb trivial (wpIn_wide.2 h))
end Go.Proofs.Ytojnpaenpaobcaa
