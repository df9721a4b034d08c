/- make of slices; append where there is room. No condition. -/
import Derived.Test.YthmicafabimfkaaWQB4
import Derived.Laws.OwnMore
import Derived.Test.YthmicafabimfkaaWQR
import Derived.RangeFuncNested
import Derived.RangeFuncBound
import Derived.RangeFuncCalls
import Derived.RangeFuncLeaves

namespace Go.Proofs.Ythmicafabimfkaa
open Go.RowKit
theorem blk_at (w : World) (o : Obj) {b : Nat} (h : b = w.heap.size) : (w.alloc o).heap[b]? = some o := h ▸ blk_new w o
/-- The builtin max, so that the walk does not part on it. -/
def mx (x y : Int) : Int := if x < y then y else x
section
variable {α : Type} {P : Program} {t T k bytes : Nat} {f : α → List Value} {base : Nat}
/-- append(v, y), y in a block of its own, where there is room. -/
theorem wpList_pushRoom (he : EI P t T k bytes) (hf : ∀ x : α, (f x).length = k) (h1 : ∀ (x : α), ∀ u ∈ f x, u.oneCell' = true) {ops : Array Oper} {rest : List Oper} {o : Oper} {a : Act} {w : World} {Q : Exit → Act → World → Prop} (hgd : o.guard = none) (s x : Operand)
    (ho : o.op = .call { callee := .builtin .append, args := #[s, x], argTypes := #[t, t] }) (g n cap : Nat) (xs : List α) (hn : xs.length = n) (hs : a.eval s = .slice (some ⟨g, 0, none⟩) n cap) (hown : Own T k f base w (.slice (some ⟨g, 0, none⟩) n cap) xs)
    (b : Nat) (y : α) (hx : a.eval x = .slice (some ⟨b, 0, none⟩) 1 1) (hnews : ∀ j u, (f y)[j]? = some u → w.cell? ⟨b, j, none⟩ = some u) (hroom : n + 1 ≤ cap)
    (h : ∀ w', Own T k f base w' (.slice (some ⟨g, 0, none⟩) (n + 1) cap) (xs ++ [y]) → Ex [g] w w' → wpList P ops Q rest (a.put o.dst (.slice (some ⟨g, 0, none⟩) (n + 1) cap)) w') : wpList P ops Q (o :: rest) a w := by
  obtain ⟨i, z, hi, hz, hsz, hby, hzs⟩ := he.ex
  subst hn
  obtain ⟨w', hr, ho1, hg⟩ := run_append_fits (P := P) w base t o.type T i k he.ht hi hsz g xs.length cap (xs.flatMap f) hown ⟨b, 0, none⟩ 1 1 (f y) (by rw [hf]; omega) (by
    intro j u hu
    have hadd : (⟨b, 0, none⟩ : Addr).add j = ⟨b, j, none⟩ := by unfold Addr.add; split <;> simp_all
    rw [hadd]; exact hnews j u hu) (h1 y) hroom
  refine wpList_plain hgd fun K hK => ?_
  unfold Oper.wp execOp
  simp only [ho, resolve, invoke, builtin, Sem.run_bind, Sem.run_pure, Result.andThen_ok, List.map_toArray, List.map_cons, List.map_nil, hs, hx, hr]
  refine hK _ _ (h w' ?_ (Ex.of_grown hg))
  unfold Own
  rw [show (xs ++ [y]).flatMap f = xs.flatMap f ++ f y by simp, show (xs ++ [y]).length = xs.length + 1 by simp]
  exact ho1
end
end Go.Proofs.Ythmicafabimfkaa


namespace Go.Proofs.Ythmicafabimfkaa
open Go.RowKit
end Go.Proofs.Ythmicafabimfkaa


namespace Go.Proofs.Ythmicafabimfkaa
open Go.RowKit
/-- x[l:], read only. -/
theorem Sl.drop {α : Type} {P : Program} {t T k bytes : Nat} {f : α → List Value} (he : EI P t T k bytes) {w : World} {a : Option Addr} {cap : Nat} {xs : List α} (h : Sl k f w a cap xs) (l : Nat) (hl : l ≤ xs.length) :
    ∃ a', (∀ w', (Instr.sliceAt t (.slice a xs.length cap) (some (.int .i64 l)) none none).run P w' = .ok (.slice a' (xs.drop l).length (cap - l)) w') ∧ Sl k f w a' (cap - l) (xs.drop l) ∧ (∀ b, a' = some b → ∃ c, a = some c ∧ b.block = c.block) := by
  obtain ⟨i, z, hi, hz, hsz, hby, hzs⟩ := he.ex
  have hle := h.le; have hb := h.big
  have hel : P.elem t = T := by simp [Program.elem, he.ht]
  refine ⟨if cap = l then a else a.map (·.add (l * k)), fun w' => ?_, ⟨by simp; omega, by omega, fun h0 => ?_⟩, ?_⟩
  · rw [run_sliceAt_slice w' t _ _ _ _ (by rw [hel]; exact he.ht), run_slice_l w' t a xs.length cap (by rw [hel]; exact he.ht) .i64 l (by omega) (by omega)]
    simp [sizeOf, typeInfo, hel, hi, hsz, Result.andThen, sliced]
  · have h1 : l < xs.length := by simp at h0; omega
    obtain ⟨b, off, rfl, hbw, hc⟩ := h.cells (by omega)
    refine ⟨b, off + l * k, by rw [if_neg (by omega)]; simp [Addr.add], hbw, fun i hi j v hv => ?_⟩
    have h2 : l + i < xs.length := by simp at hi; omega
    have h3 := hc (l + i) h2 j v (by simpa using hv)
    rw [show off + l * k + i * k + j = off + (l + i) * k + j by rw [Nat.add_mul]; omega]
    exact h3
  · intro b hb'
    split at hb'
    · exact ⟨b, hb', rfl⟩
    · cases a with
      | none => simp at hb'
      | some c =>
        simp only [Option.map_some, Option.some.injEq] at hb'
        refine ⟨c, rfl, ?_⟩
        rw [← hb']; unfold Addr.add; split <;> rfl
end Go.Proofs.Ythmicafabimfkaa


namespace Go.Proofs.Ythmicafabimfkaa
open Go.RowKit
theorem Ex.putObj {S : List Nat} {a w : World} (h : Ex S a w) {l : Nat} (hl : l ∈ S) (o : Obj) : Ex S a (w.putObj l o) :=
  ⟨h.os, h.tape, h.output, by have := h.size; simpa [World.putObj] using this, fun k hk hs => by
    rw [World.putObj_heap_other (by intro e; subst e; exact hs hl)]; exact h.block k hk hs⟩
theorem range_all {P : Program} {α : Type} {gop : Operand} {ps : Array Tmp} {assign body : Code} {Q : Exit → Act → World → Prop} {a : Act} {w : World} {gf : Nat} {lb : Array Value}
    (hg : a.eval gop = .func (.func gf) #[] lb) (eg : ∀ args w, (callFunc gf args).run P w = .ok (.enter gf args) w)
    (encs : Nat → α → Array Value) (hps : ∀ γ x, (encs γ x).size = ps.size) (xs : List α) (SB : List Nat) (hSB : ∀ x ∈ SB, x < w.heap.size)
    (I : Nat → List α → World → Prop) (C : Nat → α → World → Prop) (A : Nat → α → Act → World → Prop)
    (hI : ∀ γ pre W W', I γ pre W → Ex [w.heap.size + 1] W W' → I γ pre W') (hC : ∀ γ x W W', w.heap.size + 2 ≤ γ → C γ x W → Ex [w.heap.size + 1] W W' → C γ x W') (hA : ∀ γ x b W W', A γ x b W → Ex [w.heap.size + 1] W W' → A γ x b W')
    (hI0 : ∀ γ W, w.heap.size + 2 ≤ γ → Ext w W → I γ [] W) (hIg : ∀ γ pre W W', w.heap.size + 2 ≤ γ → I γ pre W → Ex [γ] W W' → I γ pre W')
    (hseq : ∀ (W1 : World) (J : Nat → List α → World → Prop), Ext w W1 → W1.heap.size = w.heap.size + 2 →
      (∀ γ W, W1.heap.size ≤ γ → Ext W1 W → J γ [] W) → (∀ γ pre W W', J γ pre W → Ex [γ] W W' → J γ pre W') →
      (∀ γ, W1.heap.size ≤ γ → ∀ pre x W, J γ pre W → C γ x W → YieldAt Fence.wide 4 P (w.heap.size + 1) (encs γ x) W (fun e W' => e = .returned (.bool true) ∧ J γ (pre ++ [x]) W' ∧ Ex ((w.heap.size + 1) :: SB) W W')) →
      Calls P gf (#[.func (.yield (w.heap.size + 1)) #[] #[]] ++ lb) W1 (fun e w' => (∃ v, e = .returned v) ∧ ∃ γ, W1.heap.size ≤ γ ∧ J γ xs w'))
    (hassign : ∀ γ pre x W, w.heap.size + 2 ≤ γ → w.heap.size + 1 < W.heap.size → I γ pre W → C γ x W → assign.wpIn (Fence.wide.inRound (w.heap.size + 1)) 4 P (Exit.then (fun a₁ w₁ => Ext W w₁ ∧ A γ x a₁ w₁) (fun _ _ _ => False)) { tmps := (ps.zip (encs γ x)).foldl (fun t (p, v) => t.setIfInBounds p v) a.tmps, defers := [] } W)
    (hbody : ∀ γ pre x a₁ W, w.heap.size + 2 ≤ γ → I γ pre W → C γ x W → A γ x a₁ W → body.wpIn (Fence.wide.inRound (w.heap.size + 1)) 4 P (fun e _ W' => e = .normal ∧ I γ (pre ++ [x]) W' ∧ Ex SB W W') a₁ W)
    (hdone : ∀ γ W, w.heap.size + 2 ≤ γ → I γ xs W → W.heap[w.heap.size]? = some (.deferred (some [])) → Q .normal { a with defers := { target := .collected w.heap.size, args := #[] } :: a.defers } W) :
    (Code.rangeFunc gop ps assign body).wp P Q a w := by
  refine (wpIn_wide (n := 5)).1 ?_
  refine wpIn_rangeFunc ?_
  intro fn hfn
  obtain ⟨rec, hrec⟩ : ∃ rec : LoopState → Loop, rec = fun st => { state := st, pending := none, fn, tmps := a.tmps, params := ps, assign, body, defers := w.heap.size } := ⟨_, rfl⟩
  obtain ⟨W1, hW1⟩ : ∃ W1, (w.alloc (.deferred (some []))).alloc (.loop (rec .ready)) = W1 := ⟨_, rfl⟩
  have hE1 : Ext w W1 := by rw [← hW1]; exact ((Ex.refl _ _).alloc _).alloc _
  have hs1 : W1.heap.size = w.heap.size + 2 := by rw [← hW1]; simp
  have hL1 : W1.heap[w.heap.size + 1]? = some (.loop (rec .ready)) := by
    rw [← hW1]; have := World.alloc_heap_new (w.alloc (.deferred (some []))) (.loop (rec .ready)); rwa [World.size_alloc] at this
  have hK1 : W1.heap[w.heap.size]? = some (.deferred (some [])) := by
    rw [← hW1]; exact blk_alloc (blk_new _ _)
  refine ⟨w.heap.size + 1, [{ target := .collected w.heap.size, args := #[] }], W1, { target := .fn (.func gf) lb, args := #[.func (.yield (w.heap.size + 1)) #[] #[]] }, W1, gf,
    #[.func (.yield (w.heap.size + 1)) #[] #[]] ++ lb, W1, ?_, ?_, ?_, ?_, fun h => (by cases h), ?_⟩
  · rw [← hW1, hrec]; exact run_enterLoop_outer _ _ _ _ _
  · simp only [resolve, hg]
    simp [go_sem]
  · intro f' hf'; trivial
  · simp [invoke, go_sem, eg]
  · refine callsIn_wide.2 ((hseq W1 (fun γ pre W => (w.heap.size + 2 ≤ γ → I γ pre W) ∧ (w.heap.size + 2 ≤ γ → W.heap[w.heap.size + 1]? = some (.loop (rec .ready))) ∧ (w.heap.size + 2 ≤ γ → W.heap[w.heap.size]? = some (.deferred (some [])))) hE1 hs1 ?_ ?_ ?_).mono ?_)
    · intro γ W hγ hW
      exact ⟨fun h => hI0 γ W h (hE1.trans hW), fun _ => hW.heap (by simp) hL1, fun _ => hW.heap (by simp) hK1⟩
    · intro γ pre W W' ⟨h1, h2, h3⟩ hx
      exact ⟨fun h => hIg γ pre W W' h (h1 h) hx, fun h => hx.heap (by simp; omega) (h2 h), fun h => hx.heap (by simp; omega) (h3 h)⟩
    · intro γ hγ pre x W ⟨h1, h2, h3⟩ hc
      have hγ' : w.heap.size + 2 ≤ γ := by omega
      have hi := h1 hγ'; have hl := h2 hγ'; have hk := h3 hγ'
      have hy := run_yield (P := P) (args := encs γ x) hl (by rw [hrec]; exact hps γ x)
      rw [hrec] at hy
      refine ⟨fn, _, assign, body, hy, roundIn_of_wpIn hfn (wpIn_mono (hassign γ pre x W hγ' (lt_of_block hl) hi hc) ?_)⟩
      rintro e a1 w1 hp
      cases e with
      | normal =>
        obtain ⟨hx1, hA1⟩ := hp
        have hl1 := hx1.heap (by simp) hl
        have hlt := lt_of_block hl1
        refine ⟨_, run_beginRound hl1 (by rw [hrec]), ?_⟩
        have hx2 : Ex [w.heap.size + 1] w1 (w1.putObj (w.heap.size + 1) (.loop { rec .ready with state := .busy })) := (Ex.refl _ _).putObj (by simp) _
        have hl2 : (w1.putObj (w.heap.size + 1) (.loop { rec .ready with state := .busy })).heap[w.heap.size + 1]? = some (.loop { rec .ready with state := .busy }) := World.putObj_heap_same hlt
        have hx1' : Ex [w.heap.size + 1] W w1 := hx1.ex _
        have hx12 := hx1'.trans hx2
        refine wpIn_mono (hbody γ pre x a1 _ hγ' (hI _ _ _ _ hi hx12) (hC _ _ _ _ hγ' hc hx12) (hA _ _ _ _ _ hA1 hx2)) ?_
        rintro e a3 W3 ⟨rfl, hi3, hx3⟩
        have hl3 := hx3.heap (fun hm => absurd (hSB _ hm) (by omega)) hl2
        have hk3 := hx3.heap (fun hm => absurd (hSB _ hm) (by omega)) (hx12.heap (by simp) hk)
        have hlt3 := lt_of_block hl3
        have hr := run_endRound (P := P) none hl3
        have hx4 : Ex [w.heap.size + 1] W3 (W3.putObj (w.heap.size + 1) (.loop { rec .ready with state := .ready, pending := none })) := (Ex.refl _ _).putObj (by simp) _
        refine ⟨_, _, hr, rfl, ⟨fun _ => hI _ _ _ _ hi3 hx4, fun _ => ?_, fun _ => hx4.heap (by simp) hk3⟩, ?_⟩
        · have h9 := World.putObj_heap_same (o := .loop { rec .ready with state := .ready, pending := none }) hlt3
          rw [hrec] at h9 ⊢
          exact h9
        · refine Ex.trans (hx12.mono (by simp)) (Ex.trans (hx3.mono (fun x hx => by simp [hx])) ?_)
          exact hx4.mono (by simp)
      | ret => exact hp.elim
      | exit id => exact hp.elim
      | goto t => exact hp.elim
      | panic ch => exact hp.elim
      | outgrown => exact hp.elim
    · rintro e W2 ⟨⟨v, rfl⟩, γ, hγ, h1, h2, h3⟩
      have hγ' : w.heap.size + 2 ≤ γ := by omega
      have hl := h2 hγ'
      have hx4 : ∀ o, Ex [w.heap.size + 1] W2 (W2.putObj (w.heap.size + 1) o) := fun o => (Ex.refl _ _).putObj (by simp) _
      have hend := run_endLoop (P := P) hl (by rw [hrec]; simp)
      have hp : (rec .ready).pending = none := by rw [hrec]
      rw [hp] at hend
      exact ⟨none, _, hend, hdone γ _ hγ' (hI _ _ _ _ (h1 hγ') (hx4 _)) ((hx4 _).heap (by simp) (h3 hγ'))⟩
theorem postM_ret {F : Fence} {n : Nat} {P : Program} {fn : Func} {R : Ending → World → Prop} {a : Act} {w : World} {v : Value}
    (hr : (results fn a.tmps).run P w = .ok v w) (hd : a.defers = []) (hR : R (.returned v) w) : bodyPostM F n P fn R .ret a w := by
  change LeavesInM F n P fn a.tmps R a.defers .returning w
  rw [hd]
  exact ⟨v, hr, hR⟩
theorem postM_mark {F : Fence} {n : Nat} {P : Program} {fn : Func} {R : Ending → World → Prop} {a : Act} {w : World} {v : Value} {D : Nat}
    (hd : a.defers = [{ target := .collected D, args := #[] }]) (hk : w.heap[D]? = some (.deferred (some [])))
    (hr : ∀ w', Ex [D] w w' → (results fn a.tmps).run P w' = .ok v w') (hR : ∀ w', Ex [D] w w' → R (.returned v) w') : bodyPostM F n P fn R .ret a w := by
  change LeavesInM F n P fn a.tmps R a.defers .returning w
  rw [hd]
  have hx : Ex [D] w (w.putObj D (.deferred none)) := (Ex.refl _ _).putObj (by simp) _
  exact ⟨by simp, .inl ⟨D, _, rfl, run_takeDeferred hk, v, hr _ hx, hR _ hx⟩⟩
theorem retM_at {Fe : Fence} {n : Nat} {P : Program} {fn : Func} {R : Ending → World → Prop} {a : Act} {X : World} (F : World → Prop) (h : F X) (k : ∀ W, F W → bodyPostM Fe n P fn R .ret a W) : bodyPostM Fe n P fn R .ret a X := k X h
theorem calls_of_wpM {P : Program} {f : FuncId} {fn : Func} {c : Code} {args : Array Value} {w : World} {R : Ending → World → Prop}
    (hf : P.funcs[f]? = some fn) (hb : fn.body = some c) (h : c.wp P (bodyPostM Fence.wide 5 P fn R) { tmps := args ++ Array.replicate (fn.ntmps - args.size) undef, defers := [] } w) : Calls P f args w R :=
  callsIn_wide.1 (callsIn_of_wp_marks (n := 5) hf hb trivial (wpIn_wide.2 h))
end Go.Proofs.Ythmicafabimfkaa
