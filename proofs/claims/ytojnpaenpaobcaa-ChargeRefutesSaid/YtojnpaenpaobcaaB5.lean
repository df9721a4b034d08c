/- make of slices; append where there is room. No condition. -/
import Derived.Test.YtojnpaenpaobcaaB4
import Derived.Laws.OwnMore
namespace Go.Proofs.Ytojnpaenpaobcaa
open Go.RowKit

theorem blk_at (w : World) (o : Obj) {b : Nat} (h : b = w.heap.size) : (w.alloc o).heap[b]? = some o := h ▸ blk_new w o

/-- The builtin max, so that the walk does not part on it. -/
def mx (x y : Int) : Int := if x < y then y else x
theorem ite_mx (x y : Int) : (if x < y then y else x) = mx x y := rfl
def mn (x y : Int) : Int := if y < x then y else x
theorem ite_mn (x y : Int) : (if y < x then y else x) = mn x y := rfl

section
variable {α : Type} {P : Program} {t T k bytes : Nat} {f : α → List Value} {base : Nat}

theorem flat_replicate {y : α} {u : Value} (hy : f y = [u]) (n : Nat) : (List.replicate n y).flatMap f = List.replicate n u := by
  induction n with
  | zero => rfl
  | succ n ih => rw [List.replicate_succ, List.flatMap_cons, ih, hy, List.replicate_succ]; rfl

/-- make([]T, n), elements of one cell. -/
theorem wpList_make1 (he : EI P t T 1 bytes) (u : Value) (hz1 : (P.info? T).bind (fun i => i.zero) = some u) (huc : u.cells = #[u]) (y : α) (hy : f y = [u]) {ops : Array Oper} {rest : List Oper} {o : Oper} {a : Act} {w : World} {Q : Exit → Act → World → Prop} (hgd : o.guard = none) (l c : Operand)
    (ho : o.op = .makeSlice t l c) (n : Nat) (hl : a.eval l = .int .i64 n) (hc : a.eval c = .int .i64 n) (hbytes : bytes * n ≤ 281474976710656) (h63 : n ≤ 9223372036854775807) (hbase : base ≤ w.heap.size)
    (h : ∀ w', Own T 1 f base w' (.slice (some ⟨w.heap.size, 0, none⟩) (List.replicate n y).length n) (List.replicate n y) → Ext w w' → w.heap.size < w'.heap.size → wpList P ops Q rest (a.put o.dst (.slice (some ⟨w.heap.size, 0, none⟩) (List.replicate n y).length n)) w') : wpList P ops Q (o :: rest) a w := by
  obtain ⟨i, z, hi, hz, hsz, hby, hzs⟩ := he.ex
  rw [hi, Option.bind_some, hz, Option.some.injEq] at hz1
  subst hz1
  obtain ⟨w', hr, ho1, hg⟩ := run_make_full (P := P) w base t T i z 1 he.ht hi hz hsz .i64 .i64 n (by rw [hby]; exact hbytes) (by unfold maxLen; omega) hbase
  refine wpList_plain hgd fun K hK => ?_
  unfold Oper.wp execOp
  simp only [ho, hl, hc, Sem.run_bind, hr, Result.andThen_ok, Sem.run_pure]
  refine hK _ _ ?_
  have h2 := h w' (by
    unfold Own
    rw [flat_replicate hy, List.length_replicate]
    rw [huc, Nat.mul_one, toList_madeCells_one] at ho1
    exact ho1) (Ex.of_grown hg) (ho1.lt _ rfl).2
  rw [List.length_replicate] at h2
  exact h2

/-- make([]T, 0, n). -/
theorem wpList_make0 (he : EI P t T k bytes) {ops : Array Oper} {rest : List Oper} {o : Oper} {a : Act} {w : World} {Q : Exit → Act → World → Prop} (hgd : o.guard = none) (l c : Operand)
    (ho : o.op = .makeSlice t l c) (n : Nat) (hl : a.eval l = .int .i64 0) (hc : a.eval c = .int .i64 n) (hbytes : bytes * n ≤ 281474976710656) (h63 : n ≤ 9223372036854775807) (hbase : base ≤ w.heap.size)
    (h : ∀ w', Own T k f base w' (.slice (some ⟨w.heap.size, 0, none⟩) 0 n) ([] : List α) → Ext w w' → w.heap.size < w'.heap.size → wpList P ops Q rest (a.put o.dst (.slice (some ⟨w.heap.size, 0, none⟩) 0 n)) w') : wpList P ops Q (o :: rest) a w := by
  obtain ⟨i, z, hi, hz, hsz, hby, hzs⟩ := he.ex
  obtain ⟨w', hr, ho1, hg⟩ := run_make_own (P := P) w base t T i z k he.ht hi hz hsz .i64 .i64 n (by rw [hby]; exact hbytes) (by unfold maxLen; omega) hbase
  refine wpList_plain hgd fun K hK => ?_
  unfold Oper.wp execOp
  simp only [ho, hl, hc, Sem.run_bind, hr, Result.andThen_ok, Sem.run_pure]
  exact hK _ _ (h w' ho1 (Ex.of_grown hg) (ho1.lt _ rfl).2)

/-- append(v, y), y in a block of its own, where there is room. -/
theorem wpList_pushRoom (he : EI P t T k bytes) (hf : ∀ x : α, (f x).length = k) (h1 : ∀ (x : α), ∀ u ∈ f x, u.oneCell' = true) {ops : Array Oper} {rest : List Oper} {o : Oper} {a : Act} {w : World} {Q : Exit → Act → World → Prop} (hgd : o.guard = none) (s x : Operand)
    (ho : o.op = .call { callee := .builtin .append, args := #[s, x], argTypes := #[t, t] }) (g n cap : Nat) (xs : List α) (hn : xs.length = n) (hs : a.eval s = .slice (some ⟨g, 0, none⟩) n cap) (hown : Own T k f base w (.slice (some ⟨g, 0, none⟩) n cap) xs)
    (b : Nat) (y : α) (hx : a.eval x = .slice (some ⟨b, 0, none⟩) 1 1) (hnews : ∀ j u, (f y)[j]? = some u → w.cell? ⟨b, j, none⟩ = some u) (hroom : n + 1 ≤ cap)
    (h : ∀ w', Own T k f base w' (.slice (some ⟨g, 0, none⟩) (n + 1) cap) (xs ++ [y]) → Ex [g] w w' → wpList P ops Q rest (a.put o.dst (.slice (some ⟨g, 0, none⟩) (n + 1) cap)) w') : wpList P ops Q (o :: rest) a w := by
  obtain ⟨i, z, hi, hz, hsz, hby, hzs⟩ := he.ex
  subst hn
  obtain ⟨w', hr, ho1, hg⟩ := run_append_fits (P := P) w base t o.type T i k he.ht hi hsz g xs.length cap (xs.flatMap f) hown ⟨b, 0, none⟩ 1 1 (f y) (by rw [hf]; omega) (by
    intro j u hu
    have hadd : (⟨b, 0, none⟩ : Addr).add j = ⟨b, j, none⟩ := by unfold Addr.add; split <;> simp_all
    rw [hadd]; exact hnews j u hu) (h1 y) hroom
  refine wpList_plain hgd fun K hK => ?_
  unfold Oper.wp execOp
  simp only [ho, resolve, invoke, builtin, Sem.run_bind, Sem.run_pure, Result.andThen_ok, List.map_toArray, List.map_cons, List.map_nil, hs, hx, hr]
  refine hK _ _ (h w' ?_ (Ex.of_grown hg))
  unfold Own
  rw [show (xs ++ [y]).flatMap f = xs.flatMap f ++ f y by simp, show (xs ++ [y]).length = xs.length + 1 by simp]
  exact ho1
end
end Go.Proofs.Ytojnpaenpaobcaa
