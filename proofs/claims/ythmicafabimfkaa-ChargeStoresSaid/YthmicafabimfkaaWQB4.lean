/- append(v, ys...), whatever ys. No condition. -/
import Derived.Test.YthmicafabimfkaaWQB3
namespace Go.Proofs.Ythmicafabimfkaa
open Go.RowKit
section
variable {α : Type} {P : Program} {t T k bytes : Nat} {f : α → List Value} {base : Nat}
theorem wpList_appendAny (he : EI P t T k bytes) (hf : ∀ x : α, (f x).length = k) (h1 : ∀ (x : α), ∀ u ∈ f x, u.oneCell' = true) {ops : Array Oper} {rest : List Oper} {o : Oper} {a : Act} {w : World} {Q : Exit → Act → World → Prop} (hgd : o.guard = none) (s x : Operand)
    (ho : o.op = .call { callee := .builtin .append, args := #[s, x], argTypes := #[t, t] }) (v : Value) (xs : List α) (hs : a.eval s = v) (hown : Own T k f base w v xs)
    (ad : Option Addr) (c : Nat) (ys : List α) (hx : a.eval x = .slice ad ys.length c) (hys : Sl k f w ad c ys) (hbytes : (xs.length + ys.length) * bytes ≤ 140737488355328) (h63 : xs.length + ys.length ≤ 9223372036854775807) (hbase : base ≤ w.heap.size)
    (h : ∀ v' w', Own T k f base w' v' (xs ++ ys) → Ex v.ownBlock.toList w w' → (∀ g, v'.ownBlock = some g → v.ownBlock = some g ∨ g = w.heap.size) → (∃ a c, v' = .slice a (xs.length + ys.length) c) → wpList P ops Q rest (a.put o.dst v') w') : wpList P ops Q (o :: rest) a w := by
  by_cases hne : 0 < ys.length
  · exact wpList_pushes he hf h1 hgd s x ho v xs hs hown ad c ys hx hys hne hbytes h63 hbase fun g cap w' h2 h3 h4 _ => h _ w' h2 h3 (fun g' hg' => by
      simp only [Value.ownBlock, Option.some.injEq] at hg'
      subst hg'; exact h4) ⟨_, _, rfl⟩
  · have h0 : ys = [] := List.length_eq_zero_iff.1 (by omega)
    subst h0
    have hv : ∃ a c, v = .slice a xs.length c := by
      rcases hown.2 with ⟨rfl, h0⟩ | ⟨g, cap, cur, rfl, _⟩
      · rw [h0]; exact ⟨_, _, rfl⟩
      · exact ⟨_, _, rfl⟩
    refine wpList_plain hgd fun K hK => ?_
    have hr := run_append_empty (P := P) (base := base) he (ty := o.type) v xs hown ad c
    unfold Oper.wp execOp
    simp only [ho, resolve, invoke, builtin, Sem.run_bind, Sem.run_pure, Result.andThen_ok, List.map_toArray, List.map_cons, List.map_nil, hs, hx, List.length_nil, hr]
    exact hK _ _ (h v w (by simpa using hown) (Ex.refl _ _) (fun g hg => .inl hg) (by simpa using hv))
/-- The empty slice of a literal. -/
theorem Own.empty {w : World} (hb : base ≤ w.heap.size) : Own T k f base (w.alloc (.cells #[] T (0, 0))) (.slice (some ⟨w.heap.size, 0, none⟩) 0 0) ([] : List α) :=
  ⟨by simp, .inr ⟨w.heap.size, 0, #[], rfl, hb, blk_new _ _, by simp, Nat.zero_le _, by simp, by simp⟩⟩
/-- What a cell of an owned slice may be written. -/
theorem Own.cellAt {w : World} {v : Value} {xs : List α} (h : Own T k f base w v xs) (hf : ∀ x : α, (f x).length = k) {i : Nat} (hi : i < xs.length) : ∃ g cap, v = .slice (some ⟨g, 0, none⟩) xs.length cap ∧ base ≤ g ∧ g < w.heap.size ∧
    (∀ j u, (f xs[i])[j]? = some u → w.cell? ⟨g, i * k + j, none⟩ = some u) ∧ (∀ j, w.frozen? ⟨g, j, none⟩ = false) := by
  rcases h.2 with ⟨_, h0⟩ | ⟨g, cap, cur, rfl, hb, hg, hn, hc, hs, ht⟩
  · omega
  · refine ⟨g, cap, rfl, hb, lt_of_block hg, fun j u hu => ?_, fun j => blk_free hg j⟩
    have h3 := flat_get hf xs i hi j u hu
    rw [← ht, List.getElem?_take] at h3
    split at h3
    · exact blk_cell hg _ (by simpa using h3)
    · cases h3
/-- An element of one cell is written. -/
theorem Own.set {w : World} {v : Value} {xs : List α} (h : Own T 1 f base w v xs) (hf : ∀ x : α, (f x).length = 1) {i : Nat} (hi : i < xs.length) {g : Nat} {c : Nat} (hv : v = .slice (some ⟨g, 0, none⟩) xs.length c) (y : α) (u : Value) (hu : f y = [u]) :
    Own T 1 f base (w.setCell ⟨g, i, none⟩ u) v (xs.set i y) := by
  obtain ⟨h1, h2⟩ := h
  have hlen : ∀ zs : List α, (zs.flatMap f).length = zs.length := by
    intro zs
    induction zs with
    | nil => simp
    | cons z zs ih => simp only [List.flatMap_cons, List.length_append, ih, hf, List.length_cons]; omega
  have hfl : ∀ (zs : List α) (i : Nat), i < zs.length → (zs.set i y).flatMap f = (zs.flatMap f).set i u := by
    intro zs
    induction zs with
    | nil => intro i hi; simp at hi
    | cons z zs ih =>
      intro i hi
      obtain ⟨z', hz'⟩ : ∃ z', f z = [z'] := by
        have := hf z
        match hfz : f z, this with
        | [z'], _ => exact ⟨z', rfl⟩
      cases i with
      | zero => simp [hu, hz']
      | succ i => simp only [List.set_cons_succ, List.flatMap_cons, hz', List.singleton_append, ih i (by simpa using hi)]
  rcases h2 with ⟨rfl, h0⟩ | ⟨g', cap, cur, he, hb, hg, hn, hc, hs, ht⟩
  · omega
  · rw [hv] at he
    simp only [Value.slice.injEq, Option.some.injEq, Addr.mk.injEq, and_true, true_and] at he
    obtain ⟨hgg, rfl⟩ := he
    subst hgg
    refine ⟨by rw [hlen]; simp, .inr ⟨g, c, _, by rw [hv]; simp, hb, blk_set hg i u, by simpa using hn, hc, by simpa using hs, ?_⟩⟩
    rw [hfl xs i hi, ← ht]
    simp only [List.length_set, Array.toList_setIfInBounds]
    rw [List.take_set]
end
end Go.Proofs.Ythmicafabimfkaa
