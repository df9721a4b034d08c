/- Slices that a call makes itself and appends to. No condition. -/
import Derived.Test.YthmicafabimfkaaWQR
import Derived.Deep.AppendLies
import Derived.Deep.AppendSrc
namespace Go.Proofs.Ythmicafabimfkaa
open Go.RowKit
theorem Ex.trans_fresh {S T : List Nat} {a b c : World} (h : Ex S a b) (k : Ex T b c) (hs : ∀ x ∈ T, x ∈ S ∨ a.heap.size ≤ x) : Ex S a c :=
  ⟨k.os.trans h.os, k.tape.trans h.tape, k.output.trans h.output, Nat.le_trans h.size k.size, fun i hi hn =>
    (k.block i (Nat.lt_of_lt_of_le hi h.size) (fun hm => by rcases hs i hm with h1 | h1; exact hn h1; omega)).trans (h.block i hi hn)⟩
/-- An element's type: its slice's number, its own, its cells, its bytes. -/
structure EI (P : Program) (t T : TypeId) (k bytes : Nat) : Prop where
  ht : P.underlying t = some (.slice T)
  ex : ∃ i z, P.info? T = some i ∧ i.zero = some z ∧ i.size = k ∧ i.bytes = bytes ∧ z.cells.size = k
  pos : 0 < k
theorem EI.mk' {P : Program} {t T k bytes : Nat} {z : Value} (ht : P.underlying t = some (.slice T)) (hi : (P.info? T).map (fun i => (i.zero, i.size, i.bytes)) = some (some z, k, bytes)) (hz : z.cells.size = k) (hk : 0 < k) : EI P t T k bytes := by
  obtain ⟨i, h1, h2, h3, h4⟩ := info_parts hi
  exact ⟨ht, ⟨i, z, h1, h2, h3, h4, hz⟩, hk⟩
/-- The call's own slice: it is nil, or the head of a block of its own from base on; its elements are xs. -/
def Own {α : Type} (T k : Nat) (f : α → List Value) (base : Nat) (w : World) (v : Value) (xs : List α) : Prop := w.ownsRow base T k v xs.length (xs.flatMap f)
section
variable {α : Type} {T k : Nat} {f : α → List Value} {base : Nat} {w w' : World} {v : Value} {xs : List α}
theorem Own.nil (w : World) : Own T k f base w (.slice none 0 0) [] := World.ownsRow_nil w base T k
theorem Own.ex (h : Own T k f base w v xs) {S : List Nat} (hE : Ex S w w') (hv : ∀ g, v.ownBlock = some g → g ∉ S) : Own T k f base w' v xs := by
  obtain ⟨h1, h2⟩ := h
  refine ⟨h1, ?_⟩
  rcases h2 with h2 | ⟨g, cap, cur, rfl, hb, hg, r⟩
  · exact .inl h2
  · exact .inr ⟨g, cap, cur, rfl, hb, hE.heap (hv g rfl) hg, r⟩
theorem Own.ext (h : Own T k f base w v xs) (hE : Ext w w') : Own T k f base w' v xs := h.ex hE (by simp)
theorem Own.base_le (h : Own T k f base w v xs) {g : Nat} (hg : v.ownBlock = some g) : base ≤ g := by
  rcases h.2 with ⟨rfl, _⟩ | ⟨g', cap, cur, rfl, hb, _⟩
  · simp [Value.ownBlock] at hg
  · simp [Value.ownBlock] at hg; omega
theorem Own.lt (h : Own T k f base w v xs) {g : Nat} (hg : v.ownBlock = some g) : g < w.heap.size := by
  rcases h.2 with ⟨rfl, _⟩ | ⟨g', cap, cur, rfl, hb, hh, _⟩
  · simp [Value.ownBlock] at hg
  · simp [Value.ownBlock] at hg; subst hg; exact lt_of_block hh
theorem Own.mono (h : Own T k f base w v xs) {b' : Nat} (hb : b' ≤ base) : Own T k f b' w v xs := by
  obtain ⟨h1, h2⟩ := h
  refine ⟨h1, ?_⟩
  rcases h2 with h2 | ⟨g, cap, cur, rfl, hbb, r⟩
  · exact .inl h2
  · exact .inr ⟨g, cap, cur, rfl, by omega, r⟩
theorem Own.cong {ys : List α} (h : Own T k f base w v xs) (e : xs = ys) : Own T k f base w v ys := e ▸ h
theorem flat_get (hf : ∀ x : α, (f x).length = k) : ∀ (xs : List α) (i : Nat) (hi : i < xs.length) (j : Nat) (u : Value), (f xs[i])[j]? = some u → (xs.flatMap f)[i * k + j]? = some u
  | [], i, hi, _, _, _ => by simp at hi
  | x :: xs, 0, _, j, u, h => by
    have hj : j < (f x).length := (List.getElem?_eq_some_iff.1 h).1
    simp only [List.flatMap_cons, Nat.zero_mul, Nat.zero_add]
    rw [List.getElem?_append_left hj]; exact h
  | x :: xs, i + 1, hi, j, u, h => by
    have := flat_get hf xs i (by simpa using hi) j u h
    simp only [List.flatMap_cons]
    rw [List.getElem?_append_right (by rw [hf]; rw [Nat.add_mul]; omega), hf, show (i + 1) * k + j - k = i * k + j by rw [Nat.add_mul]; omega]
    exact this
theorem Own.sl (h : Own T k f base w v xs) (hf : ∀ x : α, (f x).length = k) : ∃ a cap, v = .slice a xs.length cap ∧ Sl k f w a cap xs ∧ (∀ b, a = some b → base ≤ b.block) := by
  obtain ⟨h1, h2⟩ := h
  rcases h2 with ⟨rfl, h0⟩ | ⟨g, cap, cur, rfl, hb, hg, hn, hc, hs, ht⟩
  · have : xs = [] := List.length_eq_zero_iff.1 h0
    subst this
    exact ⟨none, 0, rfl, Sl.nil _ _ _, by simp⟩
  · refine ⟨some ⟨g, 0, none⟩, cap, rfl, ⟨hn, by unfold maxLen at hc; omega, fun _ => ⟨g, 0, rfl, lt_of_block hg, fun i hi j u hu => ?_⟩⟩, ?_⟩
    · have h3 := flat_get hf xs i hi j u hu
      rw [← ht, List.getElem?_take] at h3
      split at h3
      · rw [Nat.zero_add]; exact blk_cell hg _ (by simpa using h3)
      · cases h3
    · intro b hb'; cases hb'; exact hb
end
section
variable {α : Type} {P : Program} {t T k bytes : Nat} {f : α → List Value} {base : Nat}
/-- append(v, y), y in a block of its own. -/
theorem wpList_push (he : EI P t T k bytes) (hf : ∀ x : α, (f x).length = k) (h1 : ∀ (x : α), ∀ u ∈ f x, u.oneCell' = true) {ops : Array Oper} {rest : List Oper} {o : Oper} {a : Act} {w : World} {Q : Exit → Act → World → Prop} (hgd : o.guard = none) (s x : Operand)
    (ho : o.op = .call { callee := .builtin .append, args := #[s, x], argTypes := #[t, t] }) (v : Value) (xs : List α) (hs : a.eval s = v) (hown : Own T k f base w v xs)
    (b : Nat) (y : α) (hx : a.eval x = .slice (some ⟨b, 0, none⟩) 1 1) (hnews : ∀ j u, (f y)[j]? = some u → w.cell? ⟨b, j, none⟩ = some u) (hbytes : (xs.length + 1) * bytes ≤ 140737488355328) (h63 : xs.length + 1 ≤ 9223372036854775807) (hbase : base ≤ w.heap.size)
    (h : ∀ g cap w', Own T k f base w' (.slice (some ⟨g, 0, none⟩) (xs.length + 1) cap) (xs ++ [y]) → Ex v.ownBlock.toList w w' → (v.ownBlock = some g ∨ g = w.heap.size) → g < w'.heap.size → wpList P ops Q rest (a.put o.dst (.slice (some ⟨g, 0, none⟩) (xs.length + 1) cap)) w') : wpList P ops Q (o :: rest) a w := by
  obtain ⟨i, z, hi, hz, hsz, hby, hzs⟩ := he.ex
  refine wpList_append_lies w hgd s x t ho base T i z k bytes he.ht hi hz hsz hby hzs he.pos v xs.length (xs.flatMap f) hs hown ⟨b, 0, none⟩ 1 1 (f y) hx (by rw [hf]; omega) ?_ (h1 y) (by omega) (by unfold maxLen; omega) hbytes hbase w.heap.size rfl ?_
  · intro j u hu
    have hadd : (⟨b, 0, none⟩ : Addr).add j = ⟨b, j, none⟩ := by unfold Addr.add; split <;> simp_all
    rw [hadd]; exact hnews j u hu
  · intro g cap w' h2 h3 h4 h5
    refine h g cap w' ?_ (Ex.of_grown h3) h4 h5
    unfold Own
    rw [show (xs ++ [y]).flatMap f = xs.flatMap f ++ f y by simp, show (xs ++ [y]).length = xs.length + 1 by simp]
    exact h2
/-- append(v, ys...), ys not empty. -/
theorem wpList_pushes (he : EI P t T k bytes) (hf : ∀ x : α, (f x).length = k) (h1 : ∀ (x : α), ∀ u ∈ f x, u.oneCell' = true) {ops : Array Oper} {rest : List Oper} {o : Oper} {a : Act} {w : World} {Q : Exit → Act → World → Prop} (hgd : o.guard = none) (s x : Operand)
    (ho : o.op = .call { callee := .builtin .append, args := #[s, x], argTypes := #[t, t] }) (v : Value) (xs : List α) (hs : a.eval s = v) (hown : Own T k f base w v xs)
    (ad : Option Addr) (c : Nat) (ys : List α) (hx : a.eval x = .slice ad ys.length c) (hys : Sl k f w ad c ys) (hne : 0 < ys.length) (hbytes : (xs.length + ys.length) * bytes ≤ 140737488355328) (h63 : xs.length + ys.length ≤ 9223372036854775807) (hbase : base ≤ w.heap.size)
    (h : ∀ g cap w', Own T k f base w' (.slice (some ⟨g, 0, none⟩) (xs.length + ys.length) cap) (xs ++ ys) → Ex v.ownBlock.toList w w' → (v.ownBlock = some g ∨ g = w.heap.size) → g < w'.heap.size → wpList P ops Q rest (a.put o.dst (.slice (some ⟨g, 0, none⟩) (xs.length + ys.length) cap)) w') : wpList P ops Q (o :: rest) a w := by
  obtain ⟨i, z, hi, hz, hsz, hby, hzs⟩ := he.ex
  obtain ⟨b, off, rfl, hb, hc⟩ := hys.cells hne
  have hlen : ∀ zs : List α, (zs.flatMap f).length = zs.length * k := by
    intro zs
    induction zs with
    | nil => simp
    | cons z zs ih => simp only [List.flatMap_cons, List.length_append, ih, hf, List.length_cons, Nat.add_mul]; omega
  refine wpList_append_lies w hgd s x t ho base T i z k bytes he.ht hi hz hsz hby hzs he.pos v xs.length (xs.flatMap f) hs hown ⟨b, off, none⟩ ys.length c (ys.flatMap f) hx (hlen ys) ?_ ?_ hne (by unfold maxLen; omega) hbytes hbase w.heap.size rfl ?_
  · intro j u hu
    have hadd : (⟨b, off, none⟩ : Addr).add j = ⟨b, off + j, none⟩ := by unfold Addr.add; split <;> simp_all
    rw [hadd]
    have hj : j < ys.length * k := by
      have := (List.getElem?_eq_some_iff.1 hu).1
      rwa [hlen] at this
    have hq : j / k < ys.length := (Nat.div_lt_iff_lt_mul he.pos).2 hj
    have hr : j % k < k := Nat.mod_lt _ he.pos
    have hsome : (f ys[j / k])[j % k]? = some ((f ys[j / k])[j % k]'(by rw [hf]; exact hr)) := List.getElem?_eq_getElem _
    have hfl := flat_get hf ys (j / k) hq (j % k) _ hsome
    have hdm : j / k * k + j % k = j := by rw [Nat.mul_comm]; exact Nat.div_add_mod j k
    rw [hdm, hu] at hfl
    have hcc := hc (j / k) hq (j % k) _ hsome
    rw [← Option.some.inj hfl, Nat.add_assoc, hdm] at hcc
    exact hcc
  · intro u hu
    obtain ⟨y, _, hy⟩ := List.mem_flatMap.1 hu
    exact h1 y u hy
  · intro g cap w' h2 h3 h4 h5
    refine h g cap w' ?_ (Ex.of_grown h3) h4 h5
    unfold Own
    rw [show (xs ++ ys).flatMap f = xs.flatMap f ++ ys.flatMap f by simp, show (xs ++ ys).length = xs.length + ys.length by simp]
    exact h2
/-- append(v, ys...), ys empty or nil. -/
theorem run_append_empty (he : EI P t T k bytes) {ty : TypeId} {w : World} (v : Value) (xs : List α) (hown : Own T k f base w v xs) (ad : Option Addr) (c : Nat) :
    (Builtin.append_ #[t, t] ty #[v, .slice ad 0 c]).run P w = .ok v w := by
  obtain ⟨i, z, hi, hz, hsz, hby, hzs⟩ := he.ex
  rcases hown.2 with ⟨rfl, h0⟩ | ⟨g, cap, cur, rfl, hb, hg, hn, _⟩
  · cases ad <;> simp [Builtin.append_, run_underlying he.ht, sizeOf, typeInfo, hi, Builtin.lenOf, Builtin.firstCells, loadCells, loadCellsFrom]
  · have hn' : xs.length + 0 ≤ cap := hn
    cases ad <;> simp [Builtin.append_, run_underlying he.ht, sizeOf, typeInfo, hi, Builtin.lenOf, Builtin.firstCells, loadCells, loadCellsFrom, hn, storeCells]
end
theorem Sl.ex {α : Type} {k : Nat} {f : α → List Value} {S : List Nat} {w w' : World} {a : Option Addr} {cap : Nat} {xs : List α} (h : Sl k f w a cap xs) (hE : Ex S w w') (hs : ∀ b, a = some b → b.block ∉ S) : Sl k f w' a cap xs :=
  ⟨h.le, h.big, fun h0 => by
    obtain ⟨b, off, ha, hb, hc⟩ := h.cells h0
    exact ⟨b, off, ha, Nat.lt_of_lt_of_le hb hE.size, fun i hi j v hv => hE.cell (hs _ ha) (hc i hi j v hv)⟩⟩
end Go.Proofs.Ythmicafabimfkaa
