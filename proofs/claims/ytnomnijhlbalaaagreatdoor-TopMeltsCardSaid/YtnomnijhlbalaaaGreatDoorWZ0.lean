/- A part of the proof of the theorem of the last file. No condition. By an AI agent. -/
import Derived.WalkKit
import Derived.Below
import Derived.Lib.Hide
import Derived.BigQuiet
import Derived.Deep.RegionHeld3
import Derived.Deep.LoopGhost
import Derived.Deep.DeepCutAuto
import Derived.StillTailTactics
import Derived.OrdersHeld
import Derived.Deep.AppendLies
import Derived.Deep.AppendSrc
import Derived.Lib.LaidTab
import Derived.Lib.ItoaNum
namespace Go.Proofs.YtnomnijhlbalaaaGreatDoor
open Go.RowKit
theorem nbT {a b : Nat} (h : Nat.beq a b = true) : a = b := Nat.eq_of_beq_eq_true h
structure Ex (S : List Nat) (w w' : World) : Prop where
 os : w'.os = w.os
 tape : w'.tape = w.tape
 output : w'.output = w.output
 size : w.heap.size <= w'.heap.size
 block : ∀ k, k < w.heap.size -> k ∉ S -> w'.heap[k]? = w.heap[k]?
abbrev Ext (w w' : World) : Prop := Ex [] w w'
theorem Ex.refl (S : List Nat) (w : World) : Ex S w w := ⟨rfl, rfl, rfl, Nat.le_refl _, fun _ _ _ => rfl⟩
theorem Ex.trans {S : List Nat} {a b c : World} (h : Ex S a b) (k : Ex S b c) : Ex S a c :=
 ⟨k.os.trans h.os, k.tape.trans h.tape, k.output.trans h.output, Nat.le_trans h.size k.size, fun i hi hs => (k.block i (Nat.lt_of_lt_of_le hi h.size) hs).trans (h.block i hi hs)⟩
theorem Ex.mono {S T : List Nat} {a b : World} (h : Ex S a b) (hs : ∀ x ∈ S, x ∈ T) : Ex T a b :=
 ⟨h.os, h.tape, h.output, h.size, fun i hi hn => h.block i hi (fun hm => hn (hs i hm))⟩
theorem Ex.ex {a b : World} (h : Ext a b) (S : List Nat) : Ex S a b := h.mono (by simp)
theorem Ex.fresh {S T : List Nat} {a b : World} (h : Ex S a b) (hs : ∀ x ∈ S, x ∈ T \/ a.heap.size <= x) : Ex T a b :=
 ⟨h.os, h.tape, h.output, h.size, fun i hi hn => h.block i hi (fun hm => by rcases hs i hm with h1 | h1; exact hn h1; omega)⟩
theorem Ex.alloc {S : List Nat} {a w : World} (h : Ex S a w) (o : Obj) : Ex S a (w.alloc o) :=
 h.trans ⟨rfl, rfl, rfl, by simp, fun k hk _ => Below.heap_alloc _ _ _ hk⟩
theorem Ex.drew {S : List Nat} {a w : World} (h : Ex S a w) : Ex S a w.drew := ⟨h.os, h.tape, h.output, h.size, h.block⟩
theorem Ex.drewN {S : List Nat} {a w : World} (h : Ex S a w) (n : Nat) : Ex S a (w.drewN n) := ⟨h.os, h.tape, h.output, h.size, h.block⟩
theorem Ex.setCell {S : List Nat} {a w : World} (h : Ex S a w) {p : Addr} (hp : p.block ∈ S \/ a.heap.size <= p.block) (u : Value) : Ex S a (w.setCell p u) :=
 ⟨h.os, h.tape, h.output, by simpa [World.setCell] using h.size, fun k hk hs => by
  rw [Below.heap_setCell _ _ _ _ (fun e => by subst e; rcases hp with h1 | h1; exact hs h1; omega)]; exact h.block k hk hs⟩
theorem Ex.below {w w' : World} (h : Ext w w') : Below w.heap.size w w' := ⟨h.os, h.tape, h.output, h.size, fun k hk => h.block k hk (by simp)⟩
theorem Ex.of_below {w w' : World} (h : Below w.heap.size w w') : Ext w w' := ⟨h.os, h.tape, h.output, h.size, fun k hk _ => h.block k hk⟩
theorem Ex.of_grown {w w' : World} {row : Option Nat} (hg : w.grownBy w' row) : Ex row.toList w w' :=
 ⟨hg.os, hg.tape, hg.output, hg.size, fun k hk hs => hg.block k hk (fun e => hs (by simp [<- e]))⟩
theorem cell_lt {w : World} {b o : Nat} {v : Value} (hc : w.cell? ⟨b, o, none⟩ = some v) : b < w.heap.size := World.block_lt_of_cell? w ⟨b, o, none⟩ hc
theorem Ex.cell {S : List Nat} {w w' : World} (h : Ex S w w') {b o : Nat} {v : Value} (hs : b ∉ S) (hc : w.cell? ⟨b, o, none⟩ = some v) : w'.cell? ⟨b, o, none⟩ = some v := by
 rw [<- hc]; exact World.cell?_of_block (w := w) (h.block b (cell_lt hc) hs)
theorem Ex.heap {S : List Nat} {w w' : World} (h : Ex S w w') {b : Nat} {o : Obj} (hs : b ∉ S) (hc : w.heap[b]? = some o) : w'.heap[b]? = some o := by
 rw [h.block b (lt_of_block hc) hs]; exact hc
theorem Ex.frozen {S : List Nat} {w w' : World} (h : Ex S w w') {b o : Nat} (hb : b < w.heap.size) (hs : b ∉ S) (hc : w.frozen? ⟨b, o, none⟩ = false) : w'.frozen? ⟨b, o, none⟩ = false := by
 rw [<- hc]; exact World.frozen?_of_block (w := w) (h.block b hb hs)
theorem xEJ {w : World} {b : Nat} {cs : Array Value} {t : TypeId} {z : Nat × Nat} (h : w.heap[b]? = some (.cells cs t z)) (i : Nat) {v : Value} (hv : cs[i]? = some v) : w.cell? ⟨b, i, none⟩ = some v := by
 simp [World.cell?, h, hv]
theorem yAe {w : World} {b : Nat} {cs : Array Value} {t : TypeId} (h : w.heap[b]? = some (.cells cs t (0, 0))) (i : Nat) : w.frozen? ⟨b, i, none⟩ = false := by
 simp [World.frozen?, h]
theorem blk_set {w : World} {b : Nat} {cs : Array Value} {t : TypeId} {z : Nat × Nat} (h : w.heap[b]? = some (.cells cs t z)) (i : Nat) (u : Value) :
  (w.setCell ⟨b, i, none⟩ u).heap[b]? = some (.cells (cs.setIfInBounds i u) t z) := by
 have hlt := lt_of_block h;have h' : w.heap[b] = .cells cs t z := by simpa [Array.getElem?_eq_getElem hlt] using h
 show (w.heap.modify b _)[b]? = _;rw [Array.getElem?_eq_getElem (by simpa using hlt), Array.getElem_modify_self, h'];rfl
theorem xXG {w : World} {b : Nat} {o o' : Obj} (h : w.heap[b]? = some o) : (w.alloc o').heap[b]? = some o := by
 rw [Below.heap_alloc _ _ _ (lt_of_block h)]; exact h
theorem xCN (w : World) (o : Obj) : (w.alloc o).heap[w.heap.size]? = some o := heap_alloc_new w o
structure Sl {α : Type} (k : Nat) (f : α -> List Value) (w : World) (a : Option Addr) (cap : Nat) (xs : List α) : Prop where
 le : xs.length <= cap
 big : cap <= 9223372036854775807
 cells : 0 < xs.length -> ∃ b off, a = some ⟨b, off, none⟩ /\ b < w.heap.size /\ ∀ i (hi : i < xs.length) j v, (f xs[i])[j]? = some v -> w.cell? ⟨b, off + i * k + j, none⟩ = some v
theorem Sl.ext {α : Type} {k : Nat} {f : α -> List Value} {w w' : World} {a : Option Addr} {cap : Nat} {xs : List α} (h : Sl k f w a cap xs) (hE : Ext w w') : Sl k f w' a cap xs :=
 ⟨h.le, h.big, fun h0 => by
  obtain ⟨b, off, ha, hb, hc⟩ := h.cells h0;exact ⟨b, off, ha, Nat.lt_of_lt_of_le hb hE.size, fun i hi j v hv => hE.cell (by simp) (hc i hi j v hv)⟩⟩
theorem Sl.nil {α : Type} (k : Nat) (f : α -> List Value) (w : World) : Sl k f w none 0 [] := ⟨Nat.le_refl _, by omega, fun h => absurd h (by simp)⟩
def nth {α : Type} (xs : List α) (d : α) (k : Nat) : α := xs.getD k d
theorem xND {α : Type} (xs : List α) (d : α) (k : Nat) (h : k < xs.length) : xs[k] = nth xs d k := by simp [nth, h]
theorem Sl.block {α : Type} {k : Nat} {f : α -> List Value} {w : World} {b : Nat} {cs : Array Value} {t : TypeId} {z : Nat × Nat} {xs : List α} (h : w.heap[b]? = some (.cells cs t z))
  (hn : xs.length <= 9223372036854775807) (hx : ∀ i (hi : i < xs.length) j v, (f xs[i])[j]? = some v -> cs[i * k + j]? = some v) : Sl k f w (some ⟨b, 0, none⟩) xs.length xs :=
 ⟨Nat.le_refl _, hn, fun _ => ⟨b, 0, rfl, lt_of_block h, fun i hi j v hv => by rw [Nat.zero_add]; exact xEJ h _ (hx i hi j v hv)⟩⟩
section
variable {P : Program} {ops : Array Oper} {Q : Exit -> Act -> World -> Prop} {md : Region.Mode} {S : World -> Prop} {ex : List Nat}
def waits (md : Region.Mode) (ops : Array Oper) : Nat -> Nat -> Nat -> Bool
 | 0, _, _ => false
 | n + 1, m, i => match ops[m]? with
  | none => false
  | some o => o.after.any fun e => Region.binds md e && (e.on == i || waits md ops n e.on i)
def Closed (md : Region.Mode) (ops : Array Oper) (listed : Array Bool) : Prop :=
 ∀ j oj, ops[j]? = some oj -> listed.getD j false = true -> ∀ e ∈ oj.after, Region.binds md e = true -> listed.getD e.on false = true
theorem xGT {listed : Array Bool} (hc : Closed md ops listed) : ∀ (n m i : Nat), waits md ops n m i = true -> (∀ o, ops[m]? = some o -> ∀ e ∈ o.after, Region.binds md e = true -> listed.getD e.on false = true) -> listed.getD i false = true
 | 0, _, _, h, _ => by simp [waits] at h
 | n + 1, m, i, h, hm => by
  unfold waits at h
  cases ho : ops[m]? with
  | none => simp [ho] at h
  | some o =>
   simp only [ho] at h;obtain ⟨e, he, hb⟩ := Array.any_eq_true'.1 h;simp only [Bool.and_eq_true, Bool.or_eq_true, beq_iff_eq] at hb;obtain ⟨hb1, hb2⟩ := hb;have hl := hm o ho e he hb1;rcases hb2 with hb2 | hb2
   ·rw [<- hb2]; exact hl
   ·exact xGT hc n e.on i hb2 (fun o' ho' => hc e.on o' ho' hl)
theorem xEI {listed : Array Bool} {i : Nat} (hc : Closed md ops listed) (hr : i ∈ Region.ready md ops listed) : Closed md ops (listed.setIfInBounds i true) := by
 intro j oj hj hl e he hb;by_cases hji : j = i
 ·subst hji;obtain ⟨_, o, ho, hall⟩ := mem_ready.1 hr;rw [hj] at ho; cases ho;exact getD_set_true (hall e he hb)
 ·rw [getD_set_ne false (Ne.symm hji)] at hl;exact getD_set_true (hc j oj hj hl e he hb)
theorem xDP {listed : Array Bool} {i : Nat} (hr : i ∈ Region.ready md ops listed) : listed.getD i false = false := by
 have h0 := (mem_ready.1 hr).1;rcases Nat.lt_or_ge i listed.size with h' | h'
 ·simpa [h'] using h0
 ·simp [Array.getElem?_eq_none h']
def xT1 (md : Region.Mode) (ops : Array Oper) (ex : List Nat) : List Nat -> Array Bool -> Bool
 | [], _ => true
 | i :: l, listed => (Region.ready md ops listed).contains i && Region.free md ops listed i && ex.all (fun m => waits md ops ops.size m i) && xT1 md ops ex l (listed.setIfInBounds i true)
def marks (l : List Nat) (listed : Array Bool) : Array Bool := l.foldl (fun t i => t.setIfInBounds i true) listed
def pick (l : List Oper) : List Nat -> List Oper
 | [] => []
 | i :: r => (l.drop i).take 1 ++ pick l r
end
section
variable {P : Program} {l : List Oper} {S : World -> Prop} {Q : Exit -> Act -> World -> Prop} {md : Region.Mode} {ex : List Nat}
def Calm (Q : Exit -> Act -> World -> Prop) : Exit -> Act -> World -> Prop
 | .normal, a, w => Q .normal a w
 | _, _, _ => False
end
theorem Ex.trans_fresh {S T : List Nat} {a b c : World} (h : Ex S a b) (k : Ex T b c) (hs : ∀ x ∈ T, x ∈ S \/ a.heap.size <= x) : Ex S a c :=
 ⟨k.os.trans h.os, k.tape.trans h.tape, k.output.trans h.output, Nat.le_trans h.size k.size, fun i hi hn =>
  (k.block i (Nat.lt_of_lt_of_le hi h.size) (fun hm => by rcases hs i hm with h1 | h1; exact hn h1; omega)).trans (h.block i hi hn)⟩
def Own {α : Type} (T k : Nat) (f : α -> List Value) (base : Nat) (w : World) (v : Value) (xs : List α) : Prop := w.ownsRow base T k v xs.length (xs.flatMap f)
section
variable {α : Type} {T k : Nat} {f : α -> List Value} {base : Nat} {w w' : World} {v : Value} {xs : List α}
theorem Own.nil (w : World) : Own T k f base w (.slice none 0 0) [] := World.ownsRow_nil w base T k
theorem Own.ex (h : Own T k f base w v xs) {S : List Nat} (hE : Ex S w w') (hv : ∀ g, v.ownBlock = some g -> g ∉ S) : Own T k f base w' v xs := by
 obtain ⟨h1, h2⟩ := h;refine ⟨h1, ?_⟩;rcases h2 with h2 | ⟨g, cap, cur, rfl, hb, hg, r⟩
 ·exact .inl h2
 ·exact .inr ⟨g, cap, cur, rfl, hb, hE.heap (hv g rfl) hg, r⟩
theorem Own.ext (h : Own T k f base w v xs) (hE : Ext w w') : Own T k f base w' v xs := h.ex hE (by simp)
theorem Own.lt (h : Own T k f base w v xs) {g : Nat} (hg : v.ownBlock = some g) : g < w.heap.size := by
 rcases h.2 with ⟨rfl, _⟩ | ⟨g', cap, cur, rfl, hb, hh, _⟩
 ·simp [Value.ownBlock] at hg
 ·simp [Value.ownBlock] at hg; subst hg; exact lt_of_block hh
theorem Own.mono (h : Own T k f base w v xs) {b' : Nat} (hb : b' <= base) : Own T k f b' w v xs := by
 obtain ⟨h1, h2⟩ := h;refine ⟨h1, ?_⟩;rcases h2 with h2 | ⟨g, cap, cur, rfl, hbb, r⟩
 ·exact .inl h2
 ·exact .inr ⟨g, cap, cur, rfl, by omega, r⟩
theorem flat_get (hf : ∀ x : α, (f x).length = k) : ∀ (xs : List α) (i : Nat) (hi : i < xs.length) (j : Nat) (u : Value), (f xs[i])[j]? = some u -> (xs.flatMap f)[i * k + j]? = some u
 | [], i, hi, _, _, _ => by simp at hi
 | x :: xs, 0, _, j, u, h => by
  have hj : j < (f x).length := (List.getElem?_eq_some_iff.1 h).1;simp only [List.flatMap_cons, Nat.zero_mul, Nat.zero_add];rw [List.getElem?_append_left hj]; exact h
 | x :: xs, i + 1, hi, j, u, h => by
  have := flat_get hf xs i (by simpa using hi) j u h;simp only [List.flatMap_cons];rw [List.getElem?_append_right (by rw [hf]; rw [Nat.add_mul]; omega), hf, show (i + 1) * k + j - k = i * k + j by rw [Nat.add_mul]; omega];exact this
theorem Own.sl (h : Own T k f base w v xs) (hf : ∀ x : α, (f x).length = k) : ∃ a cap, v = .slice a xs.length cap /\ Sl k f w a cap xs /\ (∀ b, a = some b -> base <= b.block) := by
 obtain ⟨h1, h2⟩ := h;rcases h2 with ⟨rfl, h0⟩ | ⟨g, cap, cur, rfl, hb, hg, hn, hc, hs, ht⟩
 ·have : xs = [] := List.length_eq_zero_iff.1 h0;subst this;exact ⟨none, 0, rfl, Sl.nil _ _ _, by simp⟩
 ·refine ⟨some ⟨g, 0, none⟩, cap, rfl, ⟨hn, by unfold maxLen at hc; omega, fun _ => ⟨g, 0, rfl, lt_of_block hg, fun i hi j u hu => ?_⟩⟩, ?_⟩
  ·have h3 := flat_get hf xs i hi j u hu;rw [<- ht, List.getElem?_take] at h3;split at h3
   ·rw [Nat.zero_add]; exact xEJ hg _ (by simpa using h3)
   ·cases h3
  ·intro b hb'; cases hb'; exact hb
end
section
variable {α : Type} {P : Program} {t T k bytes : Nat} {f : α -> List Value} {base : Nat}
end
theorem Sl.ex {α : Type} {k : Nat} {f : α -> List Value} {S : List Nat} {w w' : World} {a : Option Addr} {cap : Nat} {xs : List α} (h : Sl k f w a cap xs) (hE : Ex S w w') (hs : ∀ b, a = some b -> b.block ∉ S) : Sl k f w' a cap xs :=
 ⟨h.le, h.big, fun h0 => by
  obtain ⟨b, off, ha, hb, hc⟩ := h.cells h0;exact ⟨b, off, ha, Nat.lt_of_lt_of_le hb hE.size, fun i hi j v hv => hE.cell (hs _ ha) (hc i hi j v hv)⟩⟩
section
variable {α : Type} {P : Program} {t T k bytes : Nat} {f : α -> List Value} {base : Nat}
theorem Own.empty {w : World} (hb : base <= w.heap.size) : Own T k f base (w.alloc (.cells #[] T (0, 0))) (.slice (some ⟨w.heap.size, 0, none⟩) 0 0) ([] : List α) :=
 ⟨by simp, .inr ⟨w.heap.size, 0, #[], rfl, hb, xCN _ _, by simp, Nat.zero_le _, by simp, by simp⟩⟩
theorem Own.cellAt {w : World} {v : Value} {xs : List α} (h : Own T k f base w v xs) (hf : ∀ x : α, (f x).length = k) {i : Nat} (hi : i < xs.length) : ∃ g cap, v = .slice (some ⟨g, 0, none⟩) xs.length cap /\ base <= g /\ g < w.heap.size /\
  (∀ j u, (f xs[i])[j]? = some u -> w.cell? ⟨g, i * k + j, none⟩ = some u) /\ (∀ j, w.frozen? ⟨g, j, none⟩ = false) := by
 rcases h.2 with ⟨_, h0⟩ | ⟨g, cap, cur, rfl, hb, hg, hn, hc, hs, ht⟩
 ·omega
 ·refine ⟨g, cap, rfl, hb, lt_of_block hg, fun j u hu => ?_, fun j => yAe hg j⟩;have h3 := flat_get hf xs i hi j u hu;rw [<- ht, List.getElem?_take] at h3;split at h3
  ·exact xEJ hg _ (by simpa using h3)
  ·cases h3
theorem Own.set {w : World} {v : Value} {xs : List α} (h : Own T 1 f base w v xs) (hf : ∀ x : α, (f x).length = 1) {i : Nat} (hi : i < xs.length) {g : Nat} {c : Nat} (hv : v = .slice (some ⟨g, 0, none⟩) xs.length c) (y : α) (u : Value) (hu : f y = [u]) :
  Own T 1 f base (w.setCell ⟨g, i, none⟩ u) v (xs.set i y) := by
 obtain ⟨h1, h2⟩ := h;have hlen : ∀ zs : List α, (zs.flatMap f).length = zs.length := by
  intro zs
  induction zs with
  | nil => simp
  | cons z zs ih => simp only [List.flatMap_cons, List.length_append, ih, hf, List.length_cons]; omega
 have hfl : ∀ (zs : List α) (i : Nat), i < zs.length -> (zs.set i y).flatMap f = (zs.flatMap f).set i u := by
  intro zs
  induction zs with
  | nil => intro i hi; simp at hi
  | cons z zs ih =>
   intro i hi;obtain ⟨z', hz'⟩ : ∃ z', f z = [z'] := by
    have := hf z
    match hfz : f z, this with
    | [z'], _ => exact ⟨z', rfl⟩
   cases i with
   | zero => simp [hu, hz']
   | succ i => simp only [List.set_cons_succ, List.flatMap_cons, hz', List.singleton_append, ih i (by simpa using hi)]
 rcases h2 with ⟨rfl, h0⟩ | ⟨g', cap, cur, he, hb, hg, hn, hc, hs, ht⟩
 ·omega
 ·rw [hv] at he;simp only [Value.slice.injEq, Option.some.injEq, Addr.mk.injEq, and_true, true_and] at he;obtain ⟨hgg, rfl⟩ := he;subst hgg;refine ⟨by rw [hlen]; simp, .inr ⟨g, c, _, by rw [hv]; simp, hb, blk_set hg i u, by simpa using hn, hc, by simpa using hs, ?_⟩⟩;rw [hfl xs i hi, <- ht];simp only [List.length_set, Array.toList_setIfInBounds];rw [List.take_set]
end
def xJw : List Nat := [0, 1, 2, 3, 6, 9, 10]
def gT : List Nat := [0, 1, 2]
def xHb : Nat -> List Value
 | 1 => [.bool true, .bool false, .bool false]
 | 2 => [.bool false, .bool true, .bool true]
 | 0 => [.int .i64 0, .bool false, .int .i64 20000, .bool true, .int .i64 1000000000000, .bool true, .int .i64 1000000000000, .bool false, .int .i64 10000, .bool false]
 | _ => []
def gOk (w : World) : Prop := (∀ b ∈ gT, ∃ T f, w.heap[b]? = some (.cells (xHb b).toArray T f)) /\ (∃ m, w.cell? ⟨3, 0, none⟩ = some (.int .i64 m)) /\ (∃ t p, w.cell? ⟨9, 0, none⟩ = some (.iface t p)) /\ (∃ t p, w.cell? ⟨10, 0, none⟩ = some (.iface t p)) /\ ∃ T f, w.heap[6]? = some (.cells (Lib.pow10Tab.map fun z => Value.int .u64 z).toArray T f)
theorem xPY {w w' : World} {b : Nat} (h : w'.heap[b]? = w.heap[b]?) : w'.cell? ⟨b, 0, none⟩ = w.cell? ⟨b, 0, none⟩ := by
 unfold World.cell?; simp only [h]
theorem gT_sub {b : Nat} (h : b ∈ gT) : b ∈ xJw := by
 simp only [gT, List.mem_cons, List.not_mem_nil, or_false] at h;rcases h with rfl | rfl | rfl <;> simp [xJw]
theorem xRF {w w' : World} (h : ∀ b ∈ xJw, w'.heap[b]? = w.heap[b]?) (hg : gOk w) : gOk w' := by
 obtain ⟨h0, h1, h2, h3, h4⟩ := hg;refine ⟨fun b hb => ?_, ?_, ?_, ?_, ?_⟩
 ·obtain ⟨T, f, e⟩ := h0 b hb;exact ⟨T, f, by rw [h b (gT_sub hb)]; exact e⟩
 ·rw [xPY (h 3 (by simp [xJw]))]; exact h1
 ·rw [xPY (h 9 (by simp [xJw]))]; exact h2
 ·rw [xPY (h 10 (by simp [xJw]))]; exact h3
 ·rw [h 6 (by simp [xJw])]; exact h4
theorem xMu {w : World} {b : Nat} {v : Value} (h : w.cell? ⟨b, 0, none⟩ = some v) : ∃ c T f, w.heap[b]? = some (.cells c T f) := by
 unfold World.cell? at h;simp only at h;split at h
 ·rename_i c T f hc; exact ⟨_, _, _, hc⟩
 ·cases h
theorem xOd {w : World} (hg : gOk w) {b : Nat} (hb : b ∈ xJw) : ∃ c T f, w.heap[b]? = some (.cells c T f) := by
 obtain ⟨h0, ⟨m, h1⟩, ⟨t, p, h2⟩, ⟨t', p', h3⟩, T, f, h4⟩ := hg;simp only [xJw, List.mem_cons, List.not_mem_nil, or_false] at hb;rcases hb with rfl | rfl | rfl | rfl | rfl | rfl | rfl
 ·obtain ⟨T, f, e⟩ := h0 0 (by simp [gT]); exact ⟨_, _, _, e⟩
 ·obtain ⟨T, f, e⟩ := h0 1 (by simp [gT]); exact ⟨_, _, _, e⟩
 ·obtain ⟨T, f, e⟩ := h0 2 (by simp [gT]); exact ⟨_, _, _, e⟩
 ·exact xMu h1
 ·exact ⟨_, _, _, h4⟩
 ·exact xMu h2
 ·exact xMu h3
def refOf (t : Nat) : Option (Nat × Nat) := bif Nat.beq t 119 then some (0, 0) else bif Nat.beq t 95 then some (2, 1) else bif Nat.beq t 230 then some (0, 2) else bif Nat.beq t 69 then some (1, 3) else bif Nat.beq t 234 then some (1, 4) else bif Nat.beq t 258 then some (0, 2) else none
def unpFn (_ : Nat) : List Nat := []
end Go.Proofs.YtnomnijhlbalaaaGreatDoor
