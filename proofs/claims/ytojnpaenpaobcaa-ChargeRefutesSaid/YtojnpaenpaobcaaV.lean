/- A walk by evaluation: what is known of slots and blocks is data, and a run of operations is evaluated at once; arguments are opened by their types. No condition. -/
import Derived.Test.YtojnpaenpaobcaaB4
import Derived.LoopN
import Derived.StillTail
import Derived.Laws.StructEq
import Derived.ChangeKeysEq
import Derived.Deep.LoopGhost
import Derived.Laws.Sem
import Derived.Test.YtojnpaenpaobcaaR
import Derived.Test.YtojnpaenpaobcaaR4
import Derived.Test.YtojnpaenpaobcaaB5
import Derived.Test.YtojnpaenpaobcaaB
import Derived.Deep.Slices
import Derived.Deep.Fields
import Derived.ChangeSame
import Derived.OpenShut
import Derived.ShutString
import Derived.ChangeOld
import Derived.ProofKit
namespace Go.Proofs.Ytojnpaenpaobcaa
open Go.RowKit

abbrev Slots := List (Nat × Value)
def lk : Slots → Nat → Option Value
  | [], _ => none
  | (t, v) :: r, s => bif Nat.beq t s then some v else lk r s

def slB : Option Addr → Nat
  | some x => x.block
  | none => 0
def slO : Option Addr → Nat
  | some x => x.off
  | none => 0

/-- What is known of memory: a block of the call's own, whole; a slice that is only read; a slice of the call's own. -/
inductive Ent where
  | blk (b : Nat) (cs : List Value) (T : TypeId)
  | sl (a : Option Addr) (k n : Nat) (f : Nat → List Value)
  | ow (a : Option Addr) (c : Nat) (T k n : Nat) (f : Nat → List Value)
  | rws (lo n : Nat) (A : Nat → Option Addr) (C m : Nat → Nat) (g : Nat → Nat → List Value)

abbrev Ents := List Ent
abbrev Hints := List (Nat × Nat × Nat)
abbrev Obs := List (Nat × Nat)

/-- What a load finds: block, offset, value, and what is owed. -/
def Ent.find (e : Ent) (j i : Nat) : Option (Nat × Nat × Value × List Prop) :=
  match e with
  | .blk b cs _ => match cs[j]? with
    | some v => some (b, j, v, [])
    | none => none
  | .sl a k n f => match (f i)[j]? with
    | some v => some (slB a, slO a + i * k + j, v, [i < n])
    | none => none
  | .ow a _ _ k n f => match (f i)[j]? with
    | some v => some (slB a, slO a + i * k + j, v, [i < n])
    | none => none
  | .rws _ n A _ m g => match (g j i)[0]? with
    | some v => some (slB (A j), slO (A j) + i * 1 + 0, v, [j < n, i < m j])
    | none => none

def AllP : List Prop → Prop
  | [] => True
  | p :: r => p ∧ AllP r
theorem AllP.app : ∀ {l r : List Prop}, AllP (l ++ r) → AllP l ∧ AllP r
  | [], _, h => ⟨trivial, h⟩
  | _ :: _, _, h => ⟨⟨h.1, (AllP.app h.2).1⟩, (AllP.app h.2).2⟩
def Same (o : Obs) : Prop := ∀ p ∈ o, p.1 = p.2
theorem Same.app {o p : Obs} (h : Same (o ++ p)) : Same o ∧ Same p := ⟨fun x hx => h x (by simp [hx]), fun x hx => h x (by simp [hx])⟩
theorem Same.cons {x : Nat × Nat} {p : Obs} (h : Same (x :: p)) : x.1 = x.2 ∧ Same p := ⟨h x (by simp), fun y hy => h y (by simp [hy])⟩
def dup (l : List Nat) : Obs := l.map fun x => (x, x)
theorem dup_same (l : List Nat) : Same (dup l) := fun p hp => by
  simp only [dup, List.mem_map] at hp; obtain ⟨x, _, rfl⟩ := hp; rfl

/-- Reads alone. -/
def symR (P : Program) {α : Type} : Sem α → Hints → Ents → Option (α × Hints × Obs × List Prop)
  | .pure a, hs, _ => some (a, hs, [], [])
  | .load _ a k, (e, j, i) :: hs, L => match L[e]? with
    | some en => match en.find j i, a.spot with
      | some (b, o, v, ps), none => match symR P (k v) hs L with
        | some (x, hs', obs, obl) => some (x, hs', (a.block, b) :: (a.off, o) :: obs, ps ++ obl)
        | none => none
      | _, _ => none
    | none => none
  | .program k, hs, L => symR P (k P) hs L
  | .mark _ k, hs, L => symR P k hs L
  | _, _, _ => none

def one : Value → Bool
  | .agg _ => false
  | .tuple _ => false
  | _ => true
/-- A symbolic run. -/
def symS (P : Program) (B : Nat) {α : Type} : Sem α → Hints → Ents → Nat → Option (α × Ents × Nat × Hints × Obs × List Prop)
  | .pure a, hs, L, n => some (a, L, n, hs, [], [])
  | .load _ a k, (e, j, i) :: hs, L, n => match L[e]? with
    | some en => match en.find j i, a.spot with
      | some (b, o, v, ps), none => match symS P B (k v) hs L n with
        | some (x, L', n', hs', obs, obl) => some (x, L', n', hs', (a.block, b) :: (a.off, o) :: obs, ps ++ obl)
        | none => none
      | _, _ => none
    | none => none
  | .store _ a v k, (e, j, _) :: hs, L, n => match L[e]? with
    | some (.blk b cs T) => match one v, a.spot, cs[j]? with
      | true, none, some _ => match symS P B k hs (L.set e (.blk b (cs.set j v) T)) n with
        | some (x, L', n', hs', obs, obl) => some (x, L', n', hs', (a.block, b) :: (a.off, j) :: obs, obl)
        | none => none
      | _, _, _ => none
    | _ => none
  | .new (.cells c T (0, 0)) k, hs, L, n => symS P B (k (B + n)) hs (L ++ [.blk (B + n) c.toList T]) (n + 1)
  | .program k, hs, L, n => symS P B (k P) hs L n
  | .mark _ k, hs, L, n => symS P B k hs L n
  | _, _, _, _ => none

/-! What holds of memory -/
def Ent.ok (base : Nat) (w : World) : Ent → Prop
  | .blk b cs T => w.heap[b]? = some (.cells cs.toArray T (0, 0))
  | .sl a k n f => 0 < n → a = some ⟨slB a, slO a, none⟩ ∧ slB a < w.heap.size ∧ ∀ i, i < n → ∀ j v, (f i)[j]? = some v → w.cell? ⟨slB a, slO a + i * k + j, none⟩ = some v
  | .ow a c T k n f => w.ownsRow base T k (.slice a n c) n ((List.range n).flatMap f) ∧ ∀ i, (f i).length = k
  | .rws lo n A C m g => ∀ r, r < n → (m r ≤ C r ∧ C r ≤ 9223372036854775807) ∧ (0 < m r → lo ≤ slB (A r) ∧ A r = some ⟨slB (A r), slO (A r), none⟩ ∧ slB (A r) < w.heap.size ∧ ∀ i, i < m r → ∀ j v, (g r i)[j]? = some v → w.cell? ⟨slB (A r), slO (A r) + i * 1 + j, none⟩ = some v)
/-- The block that may be written. -/
def Ent.mut : Ent → Option Nat
  | .blk b _ _ => some b
  | .sl _ _ _ _ => none
  | .ow a _ _ _ _ _ => a.map (·.block)
  | .rws _ _ _ _ _ _ => none
/-- The blocks that are looked at. -/
def Ent.looks (e : Ent) (x : Nat) : Prop :=
  match e with
  | .blk b _ _ => x = b
  | .sl a _ n _ => 0 < n ∧ a.map (·.block) = some x
  | .ow a _ _ _ _ _ => a.map (·.block) = some x
  | .rws _ n A _ m _ => ∃ r, r < n ∧ 0 < m r ∧ (A r).map (·.block) = some x
def Ent.sep (e f : Ent) : Prop := (∀ b, e.mut = some b → ¬ f.looks b) ∧ (∀ b, f.mut = some b → ¬ e.looks b)
structure Rep (S : List Nat) (W0 : World) (L : Ents) (w : World) : Prop where
  ext : Ex S W0 w
  ok : ∀ e ∈ L, e.ok W0.heap.size w
  sep : L.Pairwise Ent.sep
  mine : ∀ e ∈ L, ∀ b, e.mut = some b → W0.heap.size ≤ b ∨ b ∈ S
theorem Ent.mut_looks {e : Ent} {b : Nat} (h : e.mut = some b) : e.looks b := by
  cases e with
  | blk b' cs T => simp only [Ent.mut, Option.some.injEq] at h; exact h.symm
  | sl a k n f => cases h
  | ow a c T k n f => exact h
  | rws lo n A C m g => cases h
theorem Ent.lt {e : Ent} {base : Nat} {w : World} (h : e.ok base w) {b : Nat} (hb : e.looks b) : b < w.heap.size := by
  cases e with
  | blk b' cs T => replace hb : b = b' := hb; subst hb; exact lt_of_block h
  | sl a k n f =>
    obtain ⟨hn, hb⟩ := hb
    obtain ⟨h1, h2, _⟩ := h hn
    rw [h1] at hb; simp at hb; subst hb; exact h2
  | ow a c T k n f =>
    replace hb : a.map (·.block) = some b := hb
    obtain ⟨⟨_, h2⟩, _⟩ := h
    rcases h2 with ⟨h2, _⟩ | ⟨g, cap, cur, h2, _, hh, _⟩
    · simp only [Value.slice.injEq] at h2; rw [h2.1] at hb; simp at hb
    · simp only [Value.slice.injEq] at h2; rw [h2.1] at hb; simp at hb; subst hb; exact lt_of_block hh
  | rws lo n A C m g =>
    obtain ⟨r, hr, hm, hb⟩ := hb
    obtain ⟨_, h1, h2, _⟩ := (h r hr).2 hm
    rw [h1] at hb; simp at hb; subst hb; exact h2
theorem Ent.ok_ex {e : Ent} {base : Nat} {S : List Nat} {w w' : World} (h : e.ok base w) (hE : Ex S w w') (hs : ∀ b, e.looks b → b ∉ S) : e.ok base w' := by
  cases e with
  | blk b cs T => exact hE.heap (hs b rfl) h
  | sl a k n f =>
    intro hn
    obtain ⟨h1, h2, h3⟩ := h hn
    have hb : slB a ∉ S := hs _ ⟨hn, by rw [h1]; rfl⟩
    exact ⟨h1, Nat.lt_of_lt_of_le h2 hE.size, fun i hi j v hv => hE.cell hb (h3 i hi j v hv)⟩
  | ow a c T k n f =>
    obtain ⟨⟨h1, h2⟩, h3⟩ := h
    refine ⟨⟨h1, ?_⟩, h3⟩
    rcases h2 with h2 | ⟨g, cap, cur, h2, hb, hh, r⟩
    · exact .inl h2
    · refine .inr ⟨g, cap, cur, h2, hb, hE.heap (hs g ?_) hh, r⟩
      simp only [Value.slice.injEq] at h2
      simp [Ent.looks, h2.1]
  | rws lo n A C m g =>
    intro r hr
    obtain ⟨h0, h⟩ := h r hr
    refine ⟨h0, fun hm => ?_⟩
    obtain ⟨h9, h1, h2, h3⟩ := h hm
    have hb : slB (A r) ∉ S := hs _ ⟨r, hr, hm, by rw [h1]; rfl⟩
    exact ⟨h9, h1, Nat.lt_of_lt_of_le h2 hE.size, fun i hi j v hv => hE.cell hb (h3 i hi j v hv)⟩
/-- Nothing that is known changes where only new blocks, or blocks that no entry looks at, change. -/
theorem Rep.ext' {S : List Nat} {W0 : World} {L : Ents} {w w' : World} (h : Rep S W0 L w) (hE : Ext w w') : Rep S W0 L w' :=
  ⟨h.ext.trans (hE.ex S), fun e he => Ent.ok_ex (h.ok e he) hE (by simp), h.sep, h.mine⟩
theorem Rep.drew {S : List Nat} {W0 : World} {L : Ents} {w : World} (h : Rep S W0 L w) : Rep S W0 L w.drew := h.ext' ((Ex.refl _ _).drew)
theorem slot_eq {a : Addr} {b o : Nat} (h1 : a.block = b) (h2 : a.off = o) (h3 : a.spot = none) : a = ⟨b, o, none⟩ := by
  cases a; simp_all
theorem flat_range_get {f : Nat → List Value} {k : Nat} (hf : ∀ i, (f i).length = k) {n i j : Nat} {v : Value} (hi : i < n) (hv : (f i)[j]? = some v) : ((List.range n).flatMap f)[i * k + j]? = some v := by
  have := flat_get (f := f) hf (List.range n) i (by simpa using hi) j v (by simpa using hv)
  exact this
theorem find_ok {e : Ent} {base : Nat} {w : World} (h : e.ok base w) {i j b o : Nat} {v : Value} {ps : List Prop} (hf : e.find j i = some (b, o, v, ps)) (hp : AllP ps) : w.cell? ⟨b, o, none⟩ = some v := by
  cases e with
  | blk b' cs T =>
    simp only [Ent.find] at hf
    split at hf
    · rename_i u hu
      cases hf
      exact blk_cell h _ (by simpa using hu)
    · cases hf
  | sl a k n f =>
    simp only [Ent.find] at hf
    split at hf
    · rename_i u hu
      cases hf
      have hi : i < n := hp.1
      exact (h (by omega)).2.2 i hi j v hu
    · cases hf
  | ow a c T k n f =>
    simp only [Ent.find] at hf
    split at hf
    · rename_i u hu
      cases hf
      have hi : i < n := hp.1
      obtain ⟨⟨h1, h2⟩, h3⟩ := h
      rcases h2 with ⟨_, h2⟩ | ⟨g, cap, cur, h2, hb, hh, hn, hc, hs, ht⟩
      · omega
      · simp only [Value.slice.injEq] at h2
        have := flat_range_get h3 hi hu
        rw [← ht, List.getElem?_take] at this
        split at this
        · rw [h2.1]; simp only [slB, slO, Nat.zero_add]; exact blk_cell hh _ (by simpa using this)
        · cases this
    · cases hf
  | rws lo n A C m g =>
    simp only [Ent.find] at hf
    split at hf
    · rename_i u hu
      cases hf
      have hj : j < n := hp.1
      have hi : i < m j := hp.2.1
      exact ((h j hj).2 (by omega)).2.2.2 i hi 0 v hu
    · cases hf

theorem symR_sound {P : Program} {S : List Nat} {W0 : World} {α : Type} : ∀ (s : Sem α) (hs : Hints) (L : Ents) (x : α) (hs' : Hints) (obs : Obs) (obl : List Prop), symR P s hs L = some (x, hs', obs, obl) → Same obs → AllP obl →
    ∀ w, Rep S W0 L w → s.run P w = .ok x w
  | .pure a, hs, L, x, hs', obs, obl, h, _, _, w, _ => by simp only [symR, Option.some.injEq, Prod.mk.injEq] at h; rw [← h.1]; rfl
  | .load m a k, [], L, x, hs', obs, obl, h, _, _, w, _ => by simp [symR] at h
  | .load m a k, (e, j, i) :: hs, L, x, hs', obs, obl, h, ho, hl, w, hR => by
    simp only [symR] at h
    split at h
    · rename_i en hen
      split at h
      · rename_i b o v ps hf hsp
        split at h
        · rename_i x1 h1 o1 l1 hk
          simp only [Option.some.injEq, Prod.mk.injEq] at h
          obtain ⟨rfl, rfl, rfl, rfl⟩ := h
          obtain ⟨e1, ho⟩ := ho.cons
          obtain ⟨e2, ho⟩ := ho.cons
          obtain ⟨hp, hl⟩ := hl.app
          have hc := find_ok (hR.ok en (List.mem_of_getElem? hen)) hf hp
          rw [← slot_eq e1 e2 hsp] at hc
          simp only [Sem.run, hc]
          exact symR_sound (k v) hs L _ _ _ _ hk ho hl w hR
        · cases h
      · cases h
    · cases h
  | .program k, hs, L, x, hs', obs, obl, h, ho, hl, w, hR => by
    simp only [symR] at h
    exact symR_sound (k P) hs L _ _ _ _ h ho hl w hR
  | .mark m k, hs, L, x, hs', obs, obl, h, ho, hl, w, hR => by
    simp only [symR] at h
    exact symR_sound k hs L _ _ _ _ h ho hl w hR
  | .store .., hs, L, x, hs', obs, obl, h, ho, hl, w, hR => by cases hs <;> simp [symR] at h
  | .new .., hs, L, x, hs', obs, obl, h, ho, hl, w, hR => by cases hs <;> simp [symR] at h
  | .shape .., hs, L, x, hs', obs, obl, h, ho, hl, w, hR => by cases hs <;> simp [symR] at h
  | .freeze .., hs, L, x, hs', obs, obl, h, ho, hl, w, hR => by cases hs <;> simp [symR] at h
  | .frozen .., hs, L, x, hs', obs, obl, h, ho, hl, w, hR => by cases hs <;> simp [symR] at h
  | .getObj .., hs, L, x, hs', obs, obl, h, ho, hl, w, hR => by cases hs <;> simp [symR] at h
  | .setObj .., hs, L, x, hs', obs, obl, h, ho, hl, w, hR => by cases hs <;> simp [symR] at h
  | .choose .., hs, L, x, hs', obs, obl, h, ho, hl, w, hR => by cases hs <;> simp [symR] at h
  | .sys .., hs, L, x, hs', obs, obl, h, ho, hl, w, hR => by cases hs <;> simp [symR] at h
  | .halt .., hs, L, x, hs', obs, obl, h, ho, hl, w, hR => by cases hs <;> simp [symR] at h

theorem Rep.set {S : List Nat} {W0 : World} {L : Ents} {w : World} (h : Rep S W0 L w) {e : Nat} {b : Nat} {cs : List Value} {T : TypeId} (he : L[e]? = some (.blk b cs T)) (j : Nat) (v : Value) :
    Rep S W0 (L.set e (.blk b (cs.set j v) T)) (w.setCell ⟨b, j, none⟩ v) := by
  obtain ⟨hlt, hget⟩ := List.getElem?_eq_some_iff.1 he
  have hmem := List.mem_of_getElem? he
  have hok : w.heap[b]? = some (.cells cs.toArray T (0, 0)) := h.ok _ hmem
  have hother : ∀ i f, L[i]? = some f → i ≠ e → ¬ f.looks b := by
    intro i f hf hne
    obtain ⟨hi, hfi⟩ := List.getElem?_eq_some_iff.1 hf
    have hp := List.pairwise_iff_getElem.1 h.sep
    rcases Nat.lt_or_gt_of_ne hne with hlt2 | hlt2
    · have := hp i e hi hlt hlt2
      rw [hfi, hget] at this
      exact this.2 b rfl
    · have := hp e i hlt hi hlt2
      rw [hfi, hget] at this
      exact this.1 b rfl
  refine ⟨h.ext.setCell ?_ v, ?_, ?_, ?_⟩
  · rcases h.mine _ hmem b rfl with h1 | h1
    · exact .inr h1
    · exact .inl h1
  · intro f hf
    obtain ⟨i, hi, hfi⟩ := List.mem_iff_getElem.1 hf
    rw [List.getElem_set] at hfi
    split at hfi
    · subst hfi
      simpa [Ent.ok] using blk_set hok j v
    · rename_i hne
      have hi' : i < L.length := by simpa using hi
      have hin : L[i]? = some f := by rw [List.getElem?_eq_getElem hi', hfi]
      refine Ent.ok_ex (h.ok f (List.mem_of_getElem? hin)) (S := [b]) ((Ex.refl _ _).setCell (.inl (by simp)) v) ?_
      intro c hc hcb
      simp only [List.mem_singleton] at hcb
      subst hcb
      exact hother i f hin (fun e' => hne e'.symm) hc
  · rw [List.pairwise_iff_getElem]
    have hp := List.pairwise_iff_getElem.1 h.sep
    intro i i' hi hi' hlt2
    simp only [List.length_set] at hi hi'
    have hp' := hp i i' hi hi' hlt2
    rw [List.getElem_set, List.getElem_set]
    split <;> split
    · omega
    · rename_i h1 h2
      subst h1
      rw [hget] at hp'
      exact hp'
    · rename_i h1 h2
      subst h2
      rw [hget] at hp'
      exact hp'
    · exact hp'
  · intro f hf c hc
    obtain ⟨i, hi, hfi⟩ := List.mem_iff_getElem.1 hf
    rw [List.getElem_set] at hfi
    split at hfi
    · subst hfi
      exact h.mine _ hmem c hc
    · have hi' : i < L.length := by simpa using hi
      exact h.mine f (by rw [← hfi]; exact List.getElem_mem hi') c hc

theorem Rep.new {S : List Nat} {W0 : World} {L : Ents} {w : World} (h : Rep S W0 L w) (c : Array Value) (T : TypeId) :
    Rep S W0 (L ++ [.blk w.heap.size c.toList T]) (w.alloc (.cells c T (0, 0))) := by
  refine ⟨h.ext.alloc _, ?_, ?_, ?_⟩
  · intro e he
    rcases List.mem_append.1 he with he | he
    · exact Ent.ok_ex (h.ok e he) ((Ex.refl [] _).alloc _) (by simp)
    · simp only [List.mem_singleton] at he; subst he
      simpa [Ent.ok] using blk_new w _
  · rw [List.pairwise_append]
    refine ⟨h.sep, by simp, fun e he f hf => ?_⟩
    simp only [List.mem_singleton] at hf; subst hf
    refine ⟨fun b hb hb2 => ?_, fun b hb hb2 => ?_⟩
    · have := Ent.lt (h.ok e he) (Ent.mut_looks hb)
      have hb2' : b = w.heap.size := hb2
      omega
    · have := Ent.lt (h.ok e he) hb2
      simp only [Ent.mut, Option.some.injEq] at hb; omega
  · intro e he b hb
    rcases List.mem_append.1 he with he | he
    · exact h.mine e he b hb
    · simp only [List.mem_singleton] at he; subst he
      simp only [Ent.mut, Option.some.injEq] at hb; subst hb
      exact .inl h.ext.size
theorem blk_ok_free {w : World} {b : Nat} {cs : List Value} {T : TypeId} (h : w.heap[b]? = some (.cells cs.toArray T (0, 0))) (j : Nat) : w.frozen? ⟨b, j, none⟩ = false := blk_free h j

theorem symS_sound {P : Program} {B : Nat} {S : List Nat} {W0 : World} {α : Type} : ∀ (s : Sem α) (hs : Hints) (L : Ents) (n : Nat) (x : α) (L' : Ents) (n' : Nat) (hs' : Hints) (obs : Obs) (obl : List Prop),
    symS P B s hs L n = some (x, L', n', hs', obs, obl) → Same obs → AllP obl → ∀ w, Rep S W0 L w → w.heap.size = B + n → ∃ w', s.run P w = .ok x w' ∧ Rep S W0 L' w' ∧ w'.heap.size = B + n'
  | .pure a, hs, L, n, x, L', n', hs', obs, obl, h, _, _, w, hR, hz => by
    simp only [symS, Option.some.injEq, Prod.mk.injEq] at h
    obtain ⟨rfl, rfl, rfl, _⟩ := h
    exact ⟨w, rfl, hR, hz⟩
  | .load m a k, [], L, n, x, L', n', hs', obs, obl, h, _, _, w, _, _ => by simp [symS] at h
  | .load m a k, (e, j, i) :: hs, L, n, x, L', n', hs', obs, obl, h, ho, hl, w, hR, hz => by
    simp only [symS] at h
    split at h
    · rename_i en hen
      split at h
      · rename_i b o v ps hf hsp
        split at h
        · rename_i x1 L1 n1 h1 o1 l1 hk
          simp only [Option.some.injEq, Prod.mk.injEq] at h
          obtain ⟨rfl, rfl, rfl, rfl, rfl, rfl⟩ := h
          obtain ⟨e1, ho⟩ := ho.cons
          obtain ⟨e2, ho⟩ := ho.cons
          obtain ⟨hp, hl⟩ := hl.app
          have hc := find_ok (hR.ok en (List.mem_of_getElem? hen)) hf hp
          rw [← slot_eq e1 e2 hsp] at hc
          simp only [Sem.run, hc]
          exact symS_sound (k v) hs L n _ _ _ _ _ _ hk ho hl w hR hz
        · cases h
      · cases h
    · cases h
  | .store m a v k, [], L, n, x, L', n', hs', obs, obl, h, _, _, w, _, _ => by simp [symS] at h
  | .store m a v k, (e, j, i) :: hs, L, n, x, L', n', hs', obs, obl, h, ho, hl, w, hR, hz => by
    simp only [symS] at h
    split at h
    · rename_i b cs T hen
      split at h
      · rename_i u3 hon hsp hcj
        split at h
        · rename_i x1 L1 n1 h1 o1 l1 hk
          simp only [Option.some.injEq, Prod.mk.injEq] at h
          obtain ⟨rfl, rfl, rfl, rfl, rfl, rfl⟩ := h
          obtain ⟨e1, ho⟩ := ho.cons
          obtain ⟨e2, ho⟩ := ho.cons
          have hok : w.heap[b]? = some (.cells cs.toArray T (0, 0)) := hR.ok _ (List.mem_of_getElem? hen)
          have ha := slot_eq e1 e2 hsp
          have hc : w.cell? a = some u3 := by rw [ha]; exact blk_cell hok j (by simpa using hcj)
          have hfz : w.frozen? a = false := by rw [ha]; exact blk_free hok j
          have hrun : (Sem.store m a v k).run P w = k.run P (w.setCell a v) := by
            cases v with
            | agg c => simp [one] at hon
            | tuple c => simp [one] at hon
            | _ => simp [Sem.run, hc, hfz]
          rw [hrun, ha]
          exact symS_sound k hs _ n _ _ _ _ _ _ hk ho hl _ (hR.set hen j v) (by simpa [World.setCell] using hz)
        · cases h
      · cases h
    · cases h
  | .new o k, hs, L, n, x, L', n', hs', obs, obl, h, ho, hl, w, hR, hz => by
    match o, h with
    | .cells c T (0, 0), h =>
      have h' : symS P B (k (B + n)) hs (L ++ [.blk (B + n) c.toList T]) (n + 1) = some (x, L', n', hs', obs, obl) := by
        cases hs <;> simpa [symS] using h
      have hw : (Sem.new (.cells c T (0, 0)) k).run P w = (k (B + n)).run P (w.alloc (.cells c T (0, 0))) := by rw [← hz]; rfl
      rw [hw]
      exact symS_sound (k (B + n)) hs _ (n + 1) _ _ _ _ _ _ h' ho hl _ (by rw [← hz]; exact hR.new c T) (by simp; omega)
    | .cells c T (0, z + 1), h => cases hs <;> simp [symS] at h
    | .cells c T (y + 1, z), h => cases hs <;> simp [symS] at h
    | .pending .., h => cases hs <;> simp [symS] at h
    | .view .., h => cases hs <;> simp [symS] at h
    | .number .., h => cases hs <;> simp [symS] at h
    | .map .., h => cases hs <;> simp [symS] at h
    | .chan .., h => cases hs <;> simp [symS] at h
    | .stringIter .., h => cases hs <;> simp [symS] at h
    | .mapIter .., h => cases hs <;> simp [symS] at h
    | .loop .., h => cases hs <;> simp [symS] at h
    | .deferred .., h => cases hs <;> simp [symS] at h
    | .coro .., h => cases hs <;> simp [symS] at h
    | .finalizers .., h => cases hs <;> simp [symS] at h
  | .program k, hs, L, n, x, L', n', hs', obs, obl, h, ho, hl, w, hR, hz => by
    have h' : symS P B (k P) hs L n = some (x, L', n', hs', obs, obl) := by cases hs <;> simpa [symS] using h
    exact symS_sound (k P) hs L n _ _ _ _ _ _ h' ho hl w hR hz
  | .mark m k, hs, L, n, x, L', n', hs', obs, obl, h, ho, hl, w, hR, hz => by
    have h' : symS P B k hs L n = some (x, L', n', hs', obs, obl) := by cases hs <;> simpa [symS] using h
    exact symS_sound k hs L n _ _ _ _ _ _ h' ho hl w hR hz
  | .shape .., hs, L, n, x, L', n', hs', obs, obl, h, _, _, w, _, _ => by cases hs <;> simp [symS] at h
  | .freeze .., hs, L, n, x, L', n', hs', obs, obl, h, _, _, w, _, _ => by cases hs <;> simp [symS] at h
  | .frozen .., hs, L, n, x, L', n', hs', obs, obl, h, _, _, w, _, _ => by cases hs <;> simp [symS] at h
  | .getObj .., hs, L, n, x, L', n', hs', obs, obl, h, _, _, w, _, _ => by cases hs <;> simp [symS] at h
  | .setObj .., hs, L, n, x, L', n', hs', obs, obl, h, _, _, w, _, _ => by cases hs <;> simp [symS] at h
  | .choose .., hs, L, n, x, L', n', hs', obs, obl, h, _, _, w, _, _ => by cases hs <;> simp [symS] at h
  | .sys .., hs, L, n, x, L', n', hs', obs, obl, h, _, _, w, _, _ => by cases hs <;> simp [symS] at h
  | .halt .., hs, L, n, x, L', n', hs', obs, obl, h, _, _, w, _, _ => by cases hs <;> simp [symS] at h


/-- What is known of the slots. -/
def Kn (N : Nat) (K : Slots) (a : Act) : Prop := a.tmps.size = N ∧ a.defers = [] ∧ ∀ t v, lk K t = some v → a.tmps[t]? = some v

def KE (K : Slots) : Operand → Option Value
  | .tmp t => lk K t
  | .const v => some v
  | .global g => some (.pointer (some ⟨g, 0, none⟩))
  | .func f => some (.func (.func f) #[] #[])
def KEt (K : Slots) (x : Operand) : Value := (KE K x).getD undef
def isSelect : Op → Bool
  | .select _ _ => true
  | _ => false
def covers (K : Slots) (o : Oper) : Bool := o.op.operands.toList.all (fun x => (KE K x).isSome) && !isSelect o.op

theorem KE_eval {N : Nat} {K : Slots} {a : Act} (h : Kn N K a) {x : Operand} (hx : (KE K x).isSome = true) : a.eval x = KEt K x := by
  obtain ⟨v, hv⟩ := Option.isSome_iff_exists.1 hx
  unfold KEt
  rw [hv]
  cases x with
  | tmp t => simp only [KE] at hv; simp [Act.eval, h.2.2 t v hv]
  | const u => simp only [KE, Option.some.injEq] at hv; simp [Act.eval, hv]
  | global g => simp only [KE, Option.some.injEq] at hv; simp [Act.eval, ← hv]
  | func f => simp only [KE, Option.some.injEq] at hv; simp [Act.eval, ← hv]
theorem exec_K {N : Nat} {K : Slots} {a : Act} (h : Kn N K a) {o : Oper} (hc : covers K o = true) : execOp a.eval o = execOp (KEt K) o := by
  simp only [covers, Bool.and_eq_true, List.all_eq_true, Bool.not_eq_true'] at hc
  refine execOp_congr o (fun cs b e => ?_) (fun x hx => KE_eval h (hc.1 x (by simpa using hx)))
  rw [e] at hc; simp [isSelect] at hc

/-- Whether an operation is carried out. -/
def guardK (ops : Array Oper) (K : Slots) (o : Oper) : Option Bool :=
  match o.guard with
  | none => some true
  | some (j, want) => match (ops[j]?).bind (·.dst) with
    | some t => match lk K t with
      | some (.bool b) => some (b == want)
      | some (.tuple _) => some false
      | _ => none
    | none => none
theorem guard_K {N : Nat} {K : Slots} {a : Act} (h : Kn N K a) {ops : Array Oper} {o : Oper} {b : Bool} (hg : guardK ops K o = some b) : Region.wanted o (yielded ops a.tmps) = b := by
  unfold guardK at hg
  unfold Region.wanted
  cases ho : o.guard with
  | none => rw [ho] at hg; simpa using hg
  | some p =>
    obtain ⟨j, want⟩ := p
    rw [ho] at hg
    simp only at hg ⊢
    unfold yielded
    cases ht : (ops[j]?).bind (·.dst) with
    | none => rw [ht] at hg; simp at hg
    | some t =>
      rw [ht] at hg
      simp only at hg
      split at hg
      · rename_i b' hb'
        simp only [Option.some.injEq] at hg
        simp [h.2.2 t _ hb', ← hg]
      · rename_i vs hb'
        simp only [Option.some.injEq] at hg
        simp [h.2.2 t _ hb', ← hg]
      · cases hg

def setD (N : Nat) (K : Slots) : Option Tmp → Value → Option Slots
  | none, _ => some K
  | some t, v => bif Nat.ble (t + 1) N then some ((t, v) :: K) else none
theorem put_K {N : Nat} {K K' : Slots} {a : Act} (h : Kn N K a) {d : Option Tmp} {v : Value} (hs : setD N K d v = some K') : Kn N K' (a.put d v) := by
  cases d with
  | none => simp only [setD, Option.some.injEq] at hs; subst hs; exact h
  | some t =>
    simp only [setD] at hs
    cases hb : Nat.ble (t + 1) N with
    | false => rw [hb] at hs; cases hs
    | true =>
      rw [hb] at hs
      simp only [cond_true, Option.some.injEq] at hs
      subst hs
      have ht : t < a.tmps.size := by rw [h.1]; exact Nat.le_of_ble_eq_true hb
      refine ⟨by simp [Act.put, h.1], h.2.1, fun s u hu => ?_⟩
      simp only [lk] at hu
      cases hts : Nat.beq t s with
      | true =>
        rw [hts] at hu
        have := Nat.eq_of_beq_eq_true hts
        subst this
        simp only [cond_true, Option.some.injEq] at hu
        subst hu
        simp [Act.put, ht]
      | false =>
        rw [hts] at hu
        have := Nat.ne_of_beq_eq_false hts
        simp only [cond_false] at hu
        simp only [Act.put]
        rw [Array.getElem?_setIfInBounds_ne this]
        exact h.2.2 s u hu

/-- An index that a slice has. -/
def IdxOk (a a' : Option Addr) (n n' : Nat) (i : Int) : Prop := 0 ≤ i ∧ i < (n : Int) ∧ a = a' ∧ n = n'
def Ent.slice (e : Ent) (j : Nat) : Option (Option Addr × Nat × List Prop) :=
  match e with
  | .sl a _ n _ => some (a, n, [])
  | .ow a _ _ _ n _ => some (a, n, [])
  | .rws _ n A _ m _ => some (A j, m j, [j < n])
  | _ => none
theorem Ent.slice_ok {e : Ent} {a : Option Addr} {n base j : Nat} {ps : List Prop} {w : World} (h : e.ok base w) (hs : e.slice j = some (a, n, ps)) (hp : AllP ps) (hn : 0 < n) : a = some ⟨slB a, slO a, none⟩ := by
  cases e with
  | blk b cs T => cases hs
  | sl a' k n' f =>
    simp only [Ent.slice, Option.some.injEq, Prod.mk.injEq] at hs
    obtain ⟨rfl, rfl, rfl⟩ := hs
    exact (h hn).1
  | ow a' c T k n' f =>
    simp only [Ent.slice, Option.some.injEq, Prod.mk.injEq] at hs
    obtain ⟨rfl, rfl, rfl⟩ := hs
    obtain ⟨⟨_, h2⟩, _⟩ := h
    rcases h2 with ⟨_, h2⟩ | ⟨g, cap, cur, h2, _⟩
    · omega
    · simp only [Value.slice.injEq] at h2; rw [h2.1]; rfl
  | rws lo n' A C m g =>
    simp only [Ent.slice, Option.some.injEq, Prod.mk.injEq] at hs
    obtain ⟨rfl, rfl, rfl⟩ := hs
    exact ((h j hp.1).2 hn).2.1

/-! Structs and arrays are compared -/
theorem symR_pure {P : Program} {α : Type} : ∀ (s : Sem α) (hs : Hints) (x : α) (hs' : Hints) (obs : Obs) (obl : List Prop), symR P s hs [] = some (x, hs', obs, obl) → ∀ w, s.run P w = .ok x w
  | .pure a, hs, x, hs', obs, obl, h, w => by simp only [symR, Option.some.injEq, Prod.mk.injEq] at h; rw [← h.1]; rfl
  | .load m a k, [], x, hs', obs, obl, h, w => by simp [symR] at h
  | .load m a k, (e, j, i) :: hs, x, hs', obs, obl, h, w => by simp [symR] at h
  | .program k, hs, x, hs', obs, obl, h, w => by
    simp only [symR] at h
    exact symR_pure (k P) hs _ _ _ _ h w
  | .mark m k, hs, x, hs', obs, obl, h, w => by
    simp only [symR] at h
    exact symR_pure k hs _ _ _ _ h w
  | .store .., hs, x, hs', obs, obl, h, w => by cases hs <;> simp [symR] at h
  | .new .., hs, x, hs', obs, obl, h, w => by cases hs <;> simp [symR] at h
  | .shape .., hs, x, hs', obs, obl, h, w => by cases hs <;> simp [symR] at h
  | .freeze .., hs, x, hs', obs, obl, h, w => by cases hs <;> simp [symR] at h
  | .frozen .., hs, x, hs', obs, obl, h, w => by cases hs <;> simp [symR] at h
  | .getObj .., hs, x, hs', obs, obl, h, w => by cases hs <;> simp [symR] at h
  | .setObj .., hs, x, hs', obs, obl, h, w => by cases hs <;> simp [symR] at h
  | .choose .., hs, x, hs', obs, obl, h, w => by cases hs <;> simp [symR] at h
  | .sys .., hs, x, hs', obs, obl, h, w => by cases hs <;> simp [symR] at h
  | .halt .., hs, x, hs', obs, obl, h, w => by cases hs <;> simp [symR] at h
def partV (P : Program) (t : TypeId) (xs : Array Value) (off : Nat) : Option Value :=
  match symR P (part t xs off) [] [] with
  | some (v, _) => some v
  | none => none
theorem partV_run {P : Program} {t : TypeId} {xs : Array Value} {off : Nat} {v : Value} (h : partV P t xs off = some v) (w : World) : (part t xs off).run P w = .ok v w := by
  unfold partV at h
  split at h
  · rename_i u r hr
    obtain ⟨r1, r2, r3⟩ := r
    simp only [Option.some.injEq] at h
    subst h
    exact symR_pure _ _ _ _ _ _ hr w
  · cases h
def eqFs (P : Program) (rec : TypeId → Value → Value → Option Bool) (xs ys : Array Value) : List Field → Option Bool
  | [] => some true
  | f :: fs => bif f.name != "_" then match partV P f.type xs f.offset, partV P f.type ys f.offset with
      | some a, some b => match rec f.type a b with
        | some r => match fs with
          | [] => some r
          | _ :: _ => match eqFs P rec xs ys fs with
            | some q => some (r && q)
            | none => none
        | none => none
      | _, _ => none
    else none
def eqIs (P : Program) (rec : TypeId → Value → Value → Option Bool) (e : TypeId) (c : Nat) (xs ys : Array Value) : List Nat → Option Bool
  | [] => some true
  | i :: is => match partV P e xs (i * c), partV P e ys (i * c) with
      | some a, some b => match rec e a b with
        | some r => match is with
          | [] => some r
          | _ :: _ => match eqIs P rec e c xs ys is with
            | some q => some (r && q)
            | none => none
        | none => none
      | _, _ => none
def eqV (P : Program) : Nat → TypeId → Value → Value → Option Bool
  | 0, _, _, _ => none
  | d + 1, t, x, y => match P.underlying t with
    | some (.int _) => match x, y with
      | .int k a, .int k' b => bif decide (k = k') then some (a == b) else none
      | _, _ => none
    | some .bool => match x, y with
      | .bool a, .bool b => some (a == b)
      | _, _ => none
    | some .string => match x, y with
      | .string a, .string b => some (a == b)
      | _, _ => none
    | some (.struct fs) => match x, y with
      | .agg xs, .agg ys => bif P.stoodInHeld t then none else eqFs P (eqV P d) xs ys fs.toList
      | _, _ => none
    | some (.array n e) => match x, y, P.info? e with
      | .agg xs, .agg ys, some _ => eqIs P (eqV P d) e (P.cellsOf e) xs ys (List.range n)
      | _, _, _ => none
    | _ => none
theorem eqFs_run {P : Program} {rec : TypeId → Value → Value → Option Bool} {D : Nat} (hrec : ∀ t x y r, rec t x y = some r → ∀ w, (Op.equalIn D t x y).run P w = .ok r w) {xs ys : Array Value} : ∀ (fs : List Field) (r : Bool), eqFs P rec xs ys fs = some r → ∀ w, (Op.eqFields D xs ys fs).run P w = .ok r w
  | [], r, h, w => by simp only [eqFs, Option.some.injEq] at h; subst h; rfl
  | f :: fs, r, h, w => by
    simp only [eqFs] at h
    cases hn : (f.name != "_") with
    | false => rw [hn] at h; cases h
    | true =>
      rw [hn] at h
      simp only [cond_true] at h
      split at h
      · rename_i a b ha hb
        split at h
        · rename_i q hq
          have hne : f.name ≠ "_" := by simpa using hn
          simp only [Op.eqFields, if_pos hne, Sem.run_bind, partV_run ha, partV_run hb, Result.andThen_ok, hrec _ _ _ _ hq]
          split at h
          · simp only [Option.some.injEq] at h
            subst h
            cases q <;> rfl
          · rename_i f2 fs2
            split at h
            · rename_i q2 hq2
              simp only [Option.some.injEq] at h
              subst h
              have ih := eqFs_run hrec (f2 :: fs2) q2 hq2 w
              cases q
              · rfl
              · simpa using ih
            · cases h
        · cases h
      · cases h
theorem eqIs_run {P : Program} {rec : TypeId → Value → Value → Option Bool} {D : Nat} (hrec : ∀ t x y r, rec t x y = some r → ∀ w, (Op.equalIn D t x y).run P w = .ok r w) {e : TypeId} {c : Nat} {xs ys : Array Value} : ∀ (is : List Nat) (r : Bool), eqIs P rec e c xs ys is = some r → ∀ w, (Op.eqItems D e c xs ys is).run P w = .ok r w
  | [], r, h, w => by simp only [eqIs, Option.some.injEq] at h; subst h; rfl
  | i :: is, r, h, w => by
    simp only [eqIs] at h
    split at h
    · rename_i a b ha hb
      split at h
      · rename_i q hq
        simp only [Op.eqItems, Sem.run_bind, partV_run ha, partV_run hb, Result.andThen_ok, hrec _ _ _ _ hq]
        split at h
        · simp only [Option.some.injEq] at h
          subst h
          cases q <;> rfl
        · rename_i i2 is2
          split at h
          · rename_i q2 hq2
            simp only [Option.some.injEq] at h
            subst h
            have ih := eqIs_run hrec (i2 :: is2) q2 hq2 w
            cases q
            · rfl
            · simpa using ih
          · cases h
      · cases h
    · cases h
theorem eqV_run {P : Program} (D : Nat) : ∀ (m : Nat) (t : TypeId) (x y : Value) (r : Bool), eqV P m t x y = some r → ∀ w, (Op.equalIn (D + m) t x y).run P w = .ok r w
  | 0, t, x, y, r, h, w => by cases h
  | m + 1, t, x, y, r, h, w => by
    simp only [eqV] at h
    split at h
    · rename_i k hu
      split at h
      · rename_i k1 a k2 b
        cases hk : decide (k1 = k2) with
        | false => rw [hk] at h; cases h
        | true =>
          rw [hk] at h
          simp only [cond_true, Option.some.injEq] at h
          have e := of_decide_eq_true hk
          subst e; subst h
          exact run_equalIn_int w (D + m) t k1 k a b hu
      · cases h
    · rename_i hu
      split at h
      · simp only [Option.some.injEq] at h
        subst h
        exact run_equalIn_bool' w (D + m) t _ _ hu
      · cases h
    · rename_i hu
      split at h
      · simp only [Option.some.injEq] at h
        subst h
        rw [beq_toListBytes]
        exact run_equalIn_string w (D + m) t _ _ hu
      · cases h
    · rename_i fs hu
      split at h
      · rename_i xs ys
        cases hp : P.stoodInHeld t with
        | true => rw [hp] at h; cases h
        | false =>
          rw [hp] at h
          simp only [cond_false] at h
          have hf : P.fieldsOf t = fs := by simp [Program.fieldsOf, hu]
          rw [show D + (m + 1) = (D + m) + 1 from rfl, run_equalIn_agg w (D + m) t xs ys (by rw [hf]; exact hu) hp, hf]
          exact eqFs_run (fun t x y r hr w => eqV_run D m t x y r hr w) fs.toList r h w
      · cases h
    · rename_i n e hu
      split at h
      · rename_i xs ys i hi
        rw [show D + (m + 1) = (D + m) + 1 from rfl, run_equalIn_array w (D + m) xs ys hu hi]
        exact eqIs_run (fun t x y r hr w => eqV_run D m t x y r hr w) _ r h w
      · cases h
    · cases h
/-- Where a part of a slice lies. -/
def dropA (a : Option Addr) (c l k : Nat) : Option Addr := if c = l then a else a.map (·.add (l * k))
def DropOk (l : Int) (n c : Nat) : Prop := 0 ≤ l ∧ l ≤ (n : Int) ∧ n ≤ c
/-- Operations that may panic, where they do not. -/
def symX (P : Program) (K : Slots) (o : Oper) (hs : Hints) (L : Ents) : Option (Value × Hints × List Prop) :=
  match o.op with
  | .indexAddr t x ix => match P.underlying t, P.info? (P.elem t) with
    | some (.slice _), some inf => match KEt K x, KEt K ix, hs with
      | .slice a n _, .int _ i, (e, j, _) :: hs => match (L[e]?).bind (fun en => en.slice j) with
        | some (a', n', ps) => some (.pointer (some ⟨slB a', slO a' + i.toNat * inf.size, none⟩), hs, IdxOk a a' n n' i :: ps)
        | none => none
      | _, _, _ => none
    | _, _ => none
  | .binOp .quo _ x y _ => match KEt K x, KEt K y with
    | .int .i64 a, .int .i64 b => some (.int .i64 (IntKind.i64.wrap (a.tdiv b)), hs, [b ≠ 0])
    | _, _ => none
  | .binOp .rem _ x y _ => match KEt K x, KEt K y with
    | .int .i64 a, .int .i64 b => some (.int .i64 (a.tmod b), hs, [b ≠ 0])
    | _, _ => none
  | .binOp .eql t x y _ => match KEt K x, KEt K y with
    | .agg xs, .agg ys => bif P.eqGuardType P.depth t then none else match eqV P 20 t (.agg xs) (.agg ys) with
      | some b => some (.bool b, hs, [])
      | none => none
    | _, _ => none
  | .binOp .neq t x y _ => match KEt K x, KEt K y with
    | .agg xs, .agg ys => bif P.eqGuardType P.depth t then none else match eqV P 20 t (.agg xs) (.agg ys) with
      | some b => some (.bool (!b), hs, [])
      | none => none
    | _, _ => none
  | .slice t x (some lo) none none => match P.underlying t, P.info? (P.elem t) with
    | some (.slice _), some inf => match KEt K x, KEt K lo with
      | .slice a n c, .int _ l => some (.slice (dropA a c l.toNat inf.size) (n - l.toNat) (c - l.toNat), hs, [DropOk l n c])
      | _, _ => none
    | _, _ => none
  | _ => none
theorem symX_sound {P : Program} {K : Slots} {o : Oper} {v : Value} {hs hs' : Hints} {L : Ents} {ps : List Prop} (h : symX P K o hs L = some (v, hs', ps)) (hp : AllP ps) {S : List Nat} {W0 w : World} (hR : Rep S W0 L w) : (execOp (KEt K) o).run P w = .ok (.value v) w := by
  unfold symX at h
  unfold execOp
  split at h
  · rename_i t x ix ho
    rw [ho]
    split at h
    · rename_i e inf hu hi
      split at h
      · rename_i a n c kk i en jj _ hs2 hx hix
        split at h
        · rename_i a' n' ps' hen
          simp only [Option.some.injEq, Prod.mk.injEq] at h
          obtain ⟨rfl, rfl, rfl⟩ := h
          obtain ⟨⟨h0, h1, rfl, rfl⟩, hp'⟩ := hp
          obtain ⟨ent, he1, he2⟩ := Option.bind_eq_some_iff.1 hen
          have h2 := Ent.slice_ok (hR.ok ent (List.mem_of_getElem? he1)) he2 hp' (by omega)
          have he : P.elem t = e := by simp [Program.elem, hu]
          rw [he] at hi
          generalize slB a = bb at *
          generalize slO a = oo at *
          subst h2
          have hadd : (Addr.mk bb oo none).add (i.toNat * inf.size) = ⟨bb, oo + i.toNat * inf.size, none⟩ := by
            unfold Addr.add; split <;> simp_all
          simp only [hx, hix, Instr.indexAt, asIntOf, Sem.run_bind, Sem.run_pure, Result.andThen_ok, run_underlying hu, sizeOf, typeInfo]
          rw [if_pos ⟨h0, h1⟩]
          simp [hi, hadd]
        · cases h
      · cases h
    · cases h
  · rename_i t x y ty ho
    rw [ho]
    split at h
    · rename_i a b hx hy
      simp only [Option.some.injEq, Prod.mk.injEq] at h
      obtain ⟨rfl, rfl, rfl⟩ := h
      have hb : b ≠ 0 := hp.1
      simp only [hx, hy, binOp, Op.intDiv, if_neg hb, ne_eq, not_true_eq_false, if_false]
      rfl
    · cases h
  · rename_i t x y ty ho
    rw [ho]
    split at h
    · rename_i a b hx hy
      simp only [Option.some.injEq, Prod.mk.injEq] at h
      obtain ⟨rfl, rfl, rfl⟩ := h
      have hb : b ≠ 0 := hp.1
      simp only [hx, hy, binOp, Op.intDiv, if_neg hb, ne_eq, not_true_eq_false, if_false]
      rfl
    · cases h
  · rename_i t x y ty ho
    rw [ho]
    split at h
    · rename_i xs ys hx hy
      cases hg : P.eqGuardType P.depth t with
      | true => rw [hg] at h; cases h
      | false =>
        rw [hg] at h
        simp only [cond_false] at h
        split at h
        · rename_i b hb
          simp only [Option.some.injEq, Prod.mk.injEq] at h
          obtain ⟨rfl, rfl, rfl⟩ := h
          have he := eqV_run (P := P) 9980 20 t _ _ b hb w
          simp only [hx, hy, Sem.run_bind, run_eqGuard_agg w .eql t x y xs ys hg, Result.andThen_ok, run_eql_struct, he, Sem.run_pure]
        · cases h
    · cases h
  · rename_i t x y ty ho
    rw [ho]
    split at h
    · rename_i xs ys hx hy
      cases hg : P.eqGuardType P.depth t with
      | true => rw [hg] at h; cases h
      | false =>
        rw [hg] at h
        simp only [cond_false] at h
        split at h
        · rename_i b hb
          simp only [Option.some.injEq, Prod.mk.injEq] at h
          obtain ⟨rfl, rfl, rfl⟩ := h
          have he := eqV_run (P := P) 9980 20 t _ _ b hb w
          simp only [hx, hy, Sem.run_bind, run_eqGuard_agg w .neq t x y xs ys hg, Result.andThen_ok, run_neq_struct, he, Sem.run_pure]
        · cases h
    · cases h
  · rename_i t x lo ho
    rw [ho]
    split at h
    · rename_i e inf hu hi
      split at h
      · rename_i a n c kk l hx hlo
        simp only [Option.some.injEq, Prod.mk.injEq] at h
        obtain ⟨rfl, rfl, rfl⟩ := h
        obtain ⟨⟨h0, h1, h2⟩, _⟩ := hp
        have hel : P.elem t = e := by simp [Program.elem, hu]
        have hu' : P.underlying t = some (.slice (P.elem t)) := by rw [hel]; exact hu
        simp only [hx, hlo, Option.map_some, Option.map_none, Sem.run_bind, run_sliceAt_slice w t _ _ _ _ hu', run_slice_l w t a n c hu' kk l h0 h1]
        simp [sizeOf, typeInfo, hi, Result.andThen, sliced, dropA]
      · cases h
    · cases h
  · cases h

def valOf : Next → Option Value
  | .value v => some v
  | .skip => some undef
  | _ => none
def symOp (P : Program) (B : Nat) (K : Slots) (o : Oper) (hs : Hints) (L : Ents) (n : Nat) : Option (Value × Ents × Nat × Hints × Obs × List Prop) :=
  bif covers K o then match symX P K o hs L with
    | some (v, hs', ps) => some (v, L, n, hs', [], ps)
    | none => match symS P B (execOp (KEt K) o) hs L n with
      | some (nx, L', n', hs', obs, obl) => match valOf nx with
        | some v => some (v, L', n', hs', obs, obl)
        | none => none
      | none => none
  else none
def valOf1 : Next → Option Value
  | .value v => some v
  | _ => none
theorem valOf_1 {nx : Next} {v : Value} (h : valOf1 nx = some v) : valOf nx = some v := by cases nx <;> simp_all [valOf, valOf1]
/-- A read that yields a value. -/
def symRd (P : Program) (K : Slots) (o : Oper) (hs : Hints) (L : Ents) : Option (Value × Hints × Obs × List Prop) :=
  bif covers K o then match symX P K o hs L with
    | some (v, hs', ps) => some (v, hs', [], ps)
    | none => match symR P (execOp (KEt K) o) hs L with
      | some (nx, hs', obs, obl) => match valOf1 nx with
        | some v => some (v, hs', obs, obl)
        | none => none
      | none => none
  else none

theorem symRd_sound {P : Program} {N : Nat} {K : Slots} {o : Oper} {hs : Hints} {L : Ents} {v : Value} {hs' : Hints} {obs : Obs} {obl : List Prop} (h : symRd P K o hs L = some (v, hs', obs, obl)) (ho : Same obs) (hl : AllP obl)
    {S : List Nat} {W0 : World} {a : Act} (hK : Kn N K a) : ∃ nx, valOf nx = some v ∧ ∀ w, Rep S W0 L w → (execOp a.eval o).run P w = .ok nx w := by
  unfold symRd at h
  cases hc : covers K o with
  | false => rw [hc] at h; cases h
  | true =>
    rw [hc] at h
    simp only [cond_true] at h
    rw [exec_K hK hc]
    split at h
    · rename_i u h9 ps hx
      simp only [Option.some.injEq, Prod.mk.injEq] at h
      obtain ⟨rfl, rfl, rfl, rfl⟩ := h
      exact ⟨.value u, rfl, fun w hR => symX_sound hx hl hR⟩
    · split at h
      · rename_i nx h1 o1 l1 hr
        split at h
        · rename_i u hu
          simp only [Option.some.injEq, Prod.mk.injEq] at h
          obtain ⟨rfl, rfl, rfl, rfl⟩ := h
          exact ⟨nx, valOf_1 hu, fun w hR => symR_sound _ _ _ _ _ _ _ hr ho hl w hR⟩
        · cases h
      · cases h
theorem symOp_sound {P : Program} {B N : Nat} {K : Slots} {o : Oper} {hs : Hints} {L : Ents} {n : Nat} {v : Value} {L' : Ents} {n' : Nat} {hs' : Hints} {obs : Obs} {obl : List Prop} (h : symOp P B K o hs L n = some (v, L', n', hs', obs, obl)) (ho : Same obs) (hl : AllP obl)
    {S : List Nat} {W0 : World} {a : Act} (hK : Kn N K a) {w : World} (hR : Rep S W0 L w) (hz : w.heap.size = B + n) : ∃ nx w', valOf nx = some v ∧ (execOp a.eval o).run P w = .ok nx w' ∧ Rep S W0 L' w' ∧ w'.heap.size = B + n' := by
  unfold symOp at h
  cases hc : covers K o with
  | false => rw [hc] at h; cases h
  | true =>
    rw [hc] at h
    simp only [cond_true] at h
    rw [exec_K hK hc]
    split at h
    · rename_i u h9 ps hx
      simp only [Option.some.injEq, Prod.mk.injEq] at h
      obtain ⟨rfl, rfl, rfl, rfl, rfl, rfl⟩ := h
      exact ⟨.value u, w, rfl, symX_sound hx hl hR, hR, hz⟩
    · split at h
      · rename_i nx L1 n1 h1 o1 l1 hr
        split at h
        · rename_i u hu
          simp only [Option.some.injEq, Prod.mk.injEq] at h
          obtain ⟨rfl, rfl, rfl, rfl, rfl, rfl⟩ := h
          obtain ⟨w', h1, h2, h3⟩ := symS_sound _ _ _ _ _ _ _ _ _ _ hr ho hl w hR hz
          exact ⟨nx, w', hu, h1, h2, h3⟩
        · cases h
      · cases h

def symOps (P : Program) (N : Nat) (ops : Array Oper) (B : Nat) : List Oper → Slots → Ents → Nat → Hints → Option (Slots × Ents × Nat × Hints × Obs × List Prop)
  | [], K, L, n, hs => some (K, L, n, hs, [], [])
  | o :: r, K, L, n, hs => match guardK ops K o with
    | some true => match symOp P B K o hs L n with
      | some (v, L', n', hs', obs, obl) => match setD N K o.dst v with
        | some K' => match symOps P N ops B r K' L' n' hs' with
          | some (K2, L2, n2, hs2, obs2, obl2) => some (K2, L2, n2, hs2, obs ++ obs2, obl ++ obl2)
          | none => none
        | none => none
      | none => none
    | some false => match setD N K o.dst undef with
      | some K' => symOps P N ops B r K' L n hs
      | none => none
    | none => none
def symRds (P : Program) (N : Nat) (ops : Array Oper) : List Oper → Slots → Ents → Hints → Option (Slots × Hints × Obs × List Prop)
  | [], K, _, hs => some (K, hs, [], [])
  | o :: r, K, L, hs => match guardK ops K o with
    | some true => match symRd P K o hs L with
      | some (v, hs', obs, obl) => match setD N K o.dst v with
        | some K' => match symRds P N ops r K' L hs' with
          | some (K2, hs2, obs2, obl2) => some (K2, hs2, obs ++ obs2, obl ++ obl2)
          | none => none
        | none => none
      | none => none
    | some false => match setD N K o.dst undef with
      | some K' => symRds P N ops r K' L hs
      | none => none
    | none => none

theorem wp_of_val {P : Program} {o : Oper} {a : Act} {w w' : World} {nx : Next} {v : Value} {K : Act → World → Prop} {Q : Exit → Act → World → Prop} (hv : valOf nx = some v) (hr : (execOp a.eval o).run P w = .ok nx w') (h : K (a.put o.dst v) w') : o.wp P a w K Q := by
  unfold Oper.wp
  rw [hr]
  cases nx <;> simp [valOf] at hv
  · subst hv; exact h
  · subst hv; exact h
theorem symOps_sound {P : Program} {N : Nat} {ops : Array Oper} {B : Nat} {S : List Nat} {W0 : World} {Q : Exit → Act → World → Prop} (rest : List Oper) : ∀ (l : List Oper) (K : Slots) (L : Ents) (n : Nat) (hs : Hints) (K' : Slots) (L' : Ents) (n' : Nat) (hs' : Hints) (obs : Obs) (obl : List Prop),
    symOps P N ops B l K L n hs = some (K', L', n', hs', obs, obl) → Same obs → AllP obl → ∀ a w, Kn N K a → Rep S W0 L w → w.heap.size = B + n →
    (∀ a' w', Kn N K' a' → Rep S W0 L' w' → w'.heap.size = B + n' → wpList P ops Q rest a' w') → wpList P ops Q (l ++ rest) a w
  | [], K, L, n, hs, K', L', n', hs', obs, obl, h, _, _, a, w, hK, hR, hz, next => by
    simp only [symOps, Option.some.injEq, Prod.mk.injEq] at h
    obtain ⟨rfl, rfl, rfl, _⟩ := h
    exact next a w hK hR hz
  | o :: r, K, L, n, hs, K', L', n', hs', obs, obl, h, ho, hl, a, w, hK, hR, hz, next => by
    simp only [symOps] at h
    split at h
    · rename_i hg
      split at h
      · rename_i v L1 n1 h1 o1 l1 hop
        split at h
        · rename_i K1 hset
          split at h
          · rename_i K2 L2 n2 h2 o2 l2 hrest
            simp only [Option.some.injEq, Prod.mk.injEq] at h
            obtain ⟨rfl, rfl, rfl, rfl, rfl, rfl⟩ := h
            obtain ⟨nx, w', hv, hr, hR', hz'⟩ := symOp_sound hop ho.app.1 hl.app.1 hK hR hz
            show wpList P ops Q (o :: (r ++ rest)) a w
            unfold wpList
            rw [if_pos (guard_K hK hg)]
            exact .inl (wp_of_val hv hr (symOps_sound rest r K1 L1 n1 h1 _ _ _ _ _ _ hrest ho.app.2 hl.app.2 _ _ (put_K hK hset) hR' hz' next))
          · cases h
        · cases h
      · cases h
    · rename_i hg
      split at h
      · rename_i K1 hset
        show wpList P ops Q (o :: (r ++ rest)) a w
        unfold wpList
        rw [if_neg (by rw [guard_K hK hg]; simp)]
        exact symOps_sound rest r K1 L n hs _ _ _ _ _ _ h ho hl _ _ (put_K hK hset) hR hz next
      · cases h
    · cases h
theorem symRds_sound {P : Program} {N : Nat} {ops : Array Oper} {S : List Nat} {W0 : World} {Q : Act → Prop} {w : World} : ∀ (l : List Oper) (K : Slots) (L : Ents) (hs : Hints) (K' : Slots) (hs' : Hints) (obs : Obs) (obl : List Prop),
    symRds P N ops l K L hs = some (K', hs', obs, obl) → Same obs → AllP obl → ∀ a, Kn N K a → Rep S W0 L w →
    (∀ a', Kn N K' a' → Q a') → wpStill P ops w Q l a
  | [], K, L, hs, K', hs', obs, obl, h, _, _, a, hK, _, next => by
    simp only [symRds, Option.some.injEq, Prod.mk.injEq] at h
    obtain ⟨rfl, _⟩ := h
    exact next a hK
  | o :: r, K, L, hs, K', hs', obs, obl, h, ho, hl, a, hK, hR, next => by
    simp only [symRds] at h
    split at h
    · rename_i hg
      split at h
      · rename_i v h1 o1 l1 hop
        split at h
        · rename_i K1 hset
          split at h
          · rename_i K2 h2 o2 l2 hrest
            simp only [Option.some.injEq, Prod.mk.injEq] at h
            obtain ⟨rfl, rfl, rfl, rfl⟩ := h
            obtain ⟨nx, hv, hr⟩ := symRd_sound (S := S) (W0 := W0) hop ho.app.1 hl.app.1 hK
            have ih := symRds_sound (Q := Q) r K1 L h1 _ _ _ _ hrest ho.app.2 hl.app.2 _ (put_K (v := v) hK hset) hR next
            unfold wpStill
            rw [if_pos (guard_K hK hg)]
            unfold Oper.still
            rw [hr w hR]
            cases nx <;> simp [valOf] at hv
            · subst hv; exact ⟨rfl, ih⟩
            · subst hv; exact ⟨rfl, ih⟩
          · cases h
        · cases h
      · cases h
    · rename_i hg
      split at h
      · rename_i K1 hset
        unfold wpStill
        rw [if_neg (by rw [guard_K hK hg]; simp)]
        exact symRds_sound r K1 L hs _ _ _ _ h ho hl _ (put_K hK hset) hR next
      · cases h
    · cases h

/-- What comes behind a run. -/
inductive XT where
  | normal
  | exit (id : Nat)
  | ret
def XT.out : XT → Exit
  | .normal => .normal
  | .exit id => .exit id
  | .ret => .ret

def reads : Op → Bool
  | .alloc _ | .box _ _ | .store _ _ _ | .buildSlice _ _ _ | .makeSlice _ _ _ => false
  | .call c => match c.callee with
    | .builtin .len | .builtin .cap | .builtin .min | .builtin .max => true
    | _ => false
  | _ => true
def headLen : List Oper → Nat
  | [] => 0
  | o :: r => bif reads o.op then headLen r + 1 else 0

/-- A region that draws its order: reads; or reads, then a chain. -/
def runDraw (P : Program) (N B : Nat) (l : List Oper) (K : Slots) (L : Ents) (n : Nat) (hs : Hints) : Option (Slots × Ents × Nat × Hints × Obs × List Prop) :=
  bif P.follows .mixedOrders then
    bif Nat.beq (headLen l) l.length && Region.lexB .any l.toArray then match symRds P N l.toArray l K L hs with
      | some (K', hs', obs, obl) => some (K', L, n, hs', obs, obl)
      | none => none
    else bif Region.lexTailB .any l.toArray (headLen l) then match symRds P N l.toArray (l.take (headLen l)) K L hs with
      | some (K1, h1, o1, l1) => match symOps P N l.toArray B (l.drop (headLen l)) K1 L n h1 with
        | some (K', L', n', hs', o2, l2) => some (K', L', n', hs', o1 ++ o2, l1 ++ l2)
        | none => none
      | none => none
    else none
  else none

def runC (P : Program) (N B : Nat) : Nat → Code → Slots → Ents → Nat → Hints → Option (XT × Slots × Ents × Nat × Hints × Obs × List Prop)
  | 0, _, _, _, _, _ => none
  | f + 1, c, K, L, n, hs => match c with
    | .skip => some (.normal, K, L, n, hs, [], [])
    | .exit id => some (.exit id, K, L, n, hs, [], [])
    | .ret => some (.ret, K, L, n, hs, [], [])
    | .region _ ops false => match symOps P N ops B ops.toList K L n hs with
      | some (K', L', n', hs', obs, obl) => some (.normal, K', L', n', hs', obs, obl)
      | none => none
    | .region _ ops true => match runDraw P N B ops.toList K L n hs with
      | some (K', L', n', hs', obs, obl) => some (.normal, K', L', n', hs', obs, obl)
      | none => none
    | .seq x y => match runC P N B f x K L n hs with
      | some (.normal, K1, L1, n1, h1, o1, l1) => match runC P N B f y K1 L1 n1 h1 with
        | some (e, K', L', n', hs', o2, l2) => some (e, K', L', n', hs', o1 ++ o2, l1 ++ l2)
        | none => none
      | some (e, K1, L1, n1, h1, o1, l1) => some (e, K1, L1, n1, h1, o1, l1)
      | none => none
    | .cond c x y => match KE K c with
      | some (.bool true) => runC P N B f x K L n hs
      | some (.bool false) => runC P N B f y K L n hs
      | _ => none
    | .block id x => match runC P N B f x K L n hs with
      | some (.exit id', K1, L1, n1, h1, o1, l1) => bif Nat.beq id' id then some (.normal, K1, L1, n1, h1, o1, l1) else some (.exit id', K1, L1, n1, h1, o1, l1)
      | r => r
    | .loop x => match runC P N B f x K L n hs with
      | some (.normal, K1, L1, n1, h1, o1, l1) => match runC P N B f (.loop x) K1 L1 n1 h1 with
        | some (e, K', L', n', hs', o2, l2) => some (e, K', L', n', hs', o1 ++ o2, l1 ++ l2)
        | none => none
      | r => r
    | _ => none

theorem runDraw_sound {P : Program} {N B : Nat} {S : List Nat} {W0 : World} {Q : Exit → Act → World → Prop} {id : Nat} {l : List Oper} {K : Slots} {L : Ents} {n : Nat} {hs : Hints} {K' : Slots} {L' : Ents} {n' : Nat} {hs' : Hints} {obs : Obs} {obl : List Prop}
    (h : runDraw P N B l K L n hs = some (K', L', n', hs', obs, obl)) (ho : Same obs) (hl : AllP obl) {a : Act} {w : World} (hK : Kn N K a) (hR : Rep S W0 L w) (hz : w.heap.size = B + n)
    (next : ∀ a' w', Kn N K' a' → Rep S W0 L' w' → w'.heap.size = B + n' → Q .normal a' w') : (Code.region id l.toArray true).wp P Q a w := by
  unfold runDraw at h
  cases hm : P.follows .mixedOrders with
  | false => rw [hm] at h; cases h
  | true =>
    rw [hm] at h
    simp only [cond_true] at h
    cases hB : (Nat.beq (headLen l) l.length && Region.lexB .any l.toArray) with
    | true =>
      rw [hB] at h
      simp only [Bool.and_eq_true] at hB
      replace hB := hB.2
      simp only [cond_true] at h
      split at h
      · rename_i K1 h1 o1 l1 hr
        simp only [Option.some.injEq, Prod.mk.injEq] at h
        obtain ⟨rfl, rfl, rfl, rfl, rfl, rfl⟩ := h
        exact wp_region_still_lit hm hB (symRds_sound l K L hs _ _ _ _ hr ho hl a hK hR.drew (fun a' hK' => next a' _ hK' hR.drew hz))
      · cases h
    | false =>
      rw [hB] at h
      simp only [cond_false] at h
      cases hT : Region.lexTailB .any l.toArray (headLen l) with
      | false => rw [hT] at h; cases h
      | true =>
        rw [hT] at h
        simp only [cond_true] at h
        split at h
        · rename_i K1 h1 o1 l1 hr
          split at h
          · rename_i K2 L2 n2 h2 o2 l2 hr2
            simp only [Option.some.injEq, Prod.mk.injEq] at h
            obtain ⟨rfl, rfl, rfl, rfl, rfl, rfl⟩ := h
            refine wp_region_still_tail _ hm hT (symRds_sound (l.take (headLen l)) K L hs _ _ _ _ hr ho.app.1 hl.app.1 a hK hR.drew (fun a' hK' => ?_))
            have := symOps_sound (Q := Q) (ops := l.toArray) (S := S) (W0 := W0) [] (l.drop (headLen l)) K1 L n h1 _ _ _ _ _ _ hr2 ho.app.2 hl.app.2 a' w.drew hK' hR.drew hz (fun a2 w2 k2 r2 z2 => wpList_nil (next a2 w2 k2 r2 z2))
            simpa using this
          · cases h
        · cases h

theorem runC_sound {P : Program} {N B : Nat} {S : List Nat} {W0 : World} : ∀ (f : Nat) (c : Code) (K : Slots) (L : Ents) (n : Nat) (hs : Hints) (e : XT) (K' : Slots) (L' : Ents) (n' : Nat) (hs' : Hints) (obs : Obs) (obl : List Prop),
    runC P N B f c K L n hs = some (e, K', L', n', hs', obs, obl) → Same obs → AllP obl → ∀ (Q : Exit → Act → World → Prop) a w, Kn N K a → Rep S W0 L w → w.heap.size = B + n →
    (∀ a' w', Kn N K' a' → Rep S W0 L' w' → w'.heap.size = B + n' → Q e.out a' w') → c.wp P Q a w ∧ ∀ x, c = .loop x → Code.rounds P x Q f a w := by
  intro f
  induction f with
  | zero => intro c K L n hs e K' L' n' hs' obs obl h; simp [runC] at h
  | succ f ih =>
    intro c K L n hs e K' L' n' hs' obs obl h ho hl Q a w hK hR hz next
    cases c with
    | skip =>
      simp only [runC, Option.some.injEq, Prod.mk.injEq] at h
      obtain ⟨rfl, rfl, rfl, rfl, _⟩ := h
      exact ⟨wp_skip (next a w hK hR hz), fun x hx => by cases hx⟩
    | exit id =>
      simp only [runC, Option.some.injEq, Prod.mk.injEq] at h
      obtain ⟨rfl, rfl, rfl, rfl, _⟩ := h
      exact ⟨wp_exit (next a w hK hR hz), fun x hx => by cases hx⟩
    | ret =>
      simp only [runC, Option.some.injEq, Prod.mk.injEq] at h
      obtain ⟨rfl, rfl, rfl, rfl, _⟩ := h
      exact ⟨wp_ret (next a w hK hR hz), fun x hx => by cases hx⟩
    | region id ops draw =>
      refine ⟨?_, fun x hx => by cases hx⟩
      cases draw with
      | false =>
        simp only [runC] at h
        split at h
        · rename_i K1 L1 n1 h1 o1 l1 hr
          simp only [Option.some.injEq, Prod.mk.injEq] at h
          obtain ⟨rfl, rfl, rfl, rfl, rfl, rfl, rfl⟩ := h
          refine wp_region_list ?_
          have := symOps_sound (Q := Q) (ops := ops) (S := S) (W0 := W0) [] ops.toList K L n hs _ _ _ _ _ _ hr ho hl a w hK hR hz (fun a2 w2 k2 r2 z2 => wpList_nil (next a2 w2 k2 r2 z2))
          simpa using this
        · cases h
      | true =>
        simp only [runC] at h
        split at h
        · rename_i K1 L1 n1 h1 o1 l1 hr
          simp only [Option.some.injEq, Prod.mk.injEq] at h
          obtain ⟨rfl, rfl, rfl, rfl, rfl, rfl, rfl⟩ := h
          have := runDraw_sound (id := id) (Q := Q) hr ho hl hK hR hz next
          simpa using this
        · cases h
    | seq x y =>
      refine ⟨?_, fun x hx => by cases hx⟩
      simp only [runC] at h
      split at h
      · rename_i K1 L1 n1 h1 o1 l1 hx
        split at h
        · rename_i e2 K2 L2 n2 h2 o2 l2 hy
          simp only [Option.some.injEq, Prod.mk.injEq] at h
          obtain ⟨rfl, rfl, rfl, rfl, rfl, rfl, rfl⟩ := h
          exact wp_seq (ih x K L n hs _ _ _ _ _ _ _ hx ho.app.1 hl.app.1 _ a w hK hR hz (fun a1 w1 k1 r1 z1 =>
            (ih y K1 L1 n1 h1 _ _ _ _ _ _ _ hy ho.app.2 hl.app.2 Q a1 w1 k1 r1 z1 next).1)).1
        · cases h
      · rename_i e1 K1 L1 n1 h1 o1 l1 hne hx
        simp only [Option.some.injEq, Prod.mk.injEq] at h
        obtain ⟨rfl, rfl, rfl, rfl, rfl, rfl, rfl⟩ := h
        refine wp_seq (ih x K L n hs _ _ _ _ _ _ _ hx ho hl _ a w hK hR hz (fun a1 w1 k1 r1 z1 => ?_)).1
        have := next a1 w1 k1 r1 z1
        cases e1 with
        | normal => exact (hne rfl).elim
        | exit id => exact this
        | ret => exact this
      · cases h
    | cond c x y =>
      refine ⟨?_, fun x hx => by cases hx⟩
      simp only [runC] at h
      split at h
      · rename_i hc
        have hc' := KE_eval hK (x := c) (by rw [hc]; rfl)
        exact wp_cond_true (by rw [hc']; simp [KEt, hc]) (ih x K L n hs _ _ _ _ _ _ _ h ho hl Q a w hK hR hz next).1
      · rename_i hc
        have hc' := KE_eval hK (x := c) (by rw [hc]; rfl)
        exact wp_cond_false (by rw [hc']; simp [KEt, hc]) (ih y K L n hs _ _ _ _ _ _ _ h ho hl Q a w hK hR hz next).1
      · cases h
    | block id x =>
      refine ⟨wp_block ?_, fun x hx => by cases hx⟩
      simp only [runC] at h
      split at h
      · rename_i id' K1 L1 n1 h1 o1 l1 hx
        refine (ih x K L n hs (.exit id') K1 L1 n1 h1 o1 l1 hx ?_ ?_ _ a w hK hR hz (fun a1 w1 k1 r1 z1 => ?_)).1
        · cases hb : Nat.beq id' id <;> rw [hb] at h <;> simp only [cond_true, cond_false, Option.some.injEq, Prod.mk.injEq] at h <;> obtain ⟨rfl, rfl, rfl, rfl, rfl, rfl, rfl⟩ := h <;> exact ho
        · cases hb : Nat.beq id' id <;> rw [hb] at h <;> simp only [cond_true, cond_false, Option.some.injEq, Prod.mk.injEq] at h <;> obtain ⟨rfl, rfl, rfl, rfl, rfl, rfl, rfl⟩ := h <;> exact hl
        · cases hb : Nat.beq id' id with
          | true =>
            rw [hb] at h
            simp only [cond_true, Option.some.injEq, Prod.mk.injEq] at h
            obtain ⟨rfl, rfl, rfl, rfl, rfl, rfl, rfl⟩ := h
            have := Nat.eq_of_beq_eq_true hb
            simp only [XT.out, Exit.inBlock, if_pos this]
            exact next a1 w1 k1 r1 z1
          | false =>
            rw [hb] at h
            simp only [cond_false, Option.some.injEq, Prod.mk.injEq] at h
            obtain ⟨rfl, rfl, rfl, rfl, rfl, rfl, rfl⟩ := h
            have := Nat.ne_of_beq_eq_false hb
            simp only [XT.out, Exit.inBlock, if_neg this]
            exact next a1 w1 k1 r1 z1
      · rename_i hne
        refine (ih x K L n hs _ _ _ _ _ _ _ h ho hl _ a w hK hR hz (fun a1 w1 k1 r1 z1 => ?_)).1
        have := next a1 w1 k1 r1 z1
        cases e with
        | normal => exact this
        | exit id' => exact absurd h (by intro h; exact hne _ _ _ _ _ _ _ h)
        | ret => exact this
    | loop x =>
      have hr : Code.rounds P x Q (f + 1) a w := by
        rw [rounds_succ]
        simp only [runC] at h
        split at h
        · rename_i K1 L1 n1 h1 o1 l1 hx
          split at h
          · rename_i e2 K2 L2 n2 h2 o2 l2 hy
            simp only [Option.some.injEq, Prod.mk.injEq] at h
            obtain ⟨rfl, rfl, rfl, rfl, rfl, rfl, rfl⟩ := h
            exact (ih x K L n hs _ _ _ _ _ _ _ hx ho.app.1 hl.app.1 _ a w hK hR hz (fun a1 w1 k1 r1 z1 =>
              (ih (.loop x) K1 L1 n1 h1 _ _ _ _ _ _ _ hy ho.app.2 hl.app.2 Q a1 w1 k1 r1 z1 next).2 x rfl)).1
          · cases h
        · rename_i hne
          refine (ih x K L n hs _ _ _ _ _ _ _ h ho hl _ a w hK hR hz (fun a1 w1 k1 r1 z1 => ?_)).1
          have := next a1 w1 k1 r1 z1
          cases e with
          | normal => exact absurd h (by intro h; exact hne _ _ _ _ _ _ h)
          | exit id' => exact this
          | ret => exact this
      exact ⟨wp_loop_rounds _ hr, fun y hy => by cases hy; exact hr⟩
    | rangeFunc f ps x y => simp [runC] at h
    | scope x => simp [runC] at h
    | label l => simp [runC] at h
    | goto l => simp [runC] at h
    | refuse s => simp [runC] at h


section
variable {P : Program} {N : Nat} {S : List Nat} {W0 : World} {K : Slots} {L : Ents} {Q : Exit → Act → World → Prop}

/-- Code, where slots and memory are known. -/
def At (P : Program) (N : Nat) (S : List Nat) (W0 : World) (K : Slots) (L : Ents) (c : Code) (Q : Exit → Act → World → Prop) : Prop := ∀ a w, Kn N K a → Rep S W0 L w → c.wp P Q a w
def Ends (N : Nat) (S : List Nat) (W0 : World) (K : Slots) (L : Ents) (e : XT) (Q : Exit → Act → World → Prop) : Prop := ∀ a w, Kn N K a → Rep S W0 L w → Q e.out a w
def AtL (P : Program) (N : Nat) (S : List Nat) (W0 : World) (K : Slots) (L : Ents) (ops : Array Oper) (l : List Oper) (Q : Exit → Act → World → Prop) : Prop := ∀ a w, Kn N K a → Rep S W0 L w → wpList P ops Q l a w

def restr (K : Slots) : List Nat → Option Slots
  | [] => some []
  | t :: r => match lk K t with
    | some v => match restr K r with
      | some K' => some ((t, v) :: K')
      | none => none
    | none => none
def pickL : Ents → List Bool → Option Ents
  | [], [] => some []
  | e :: L, b :: r => match pickL L r with
    | some L' => some (bif b then e :: L' else L')
    | none => none
  | _, _ => none
theorem restr_lk : ∀ {l : List Nat} {K K' : Slots}, restr K l = some K' → ∀ t v, lk K' t = some v → lk K t = some v
  | [], K, K', h, t, v, hv => by simp only [restr, Option.some.injEq] at h; subst h; cases hv
  | s :: r, K, K', h, t, v, hv => by
    simp only [restr] at h
    split at h
    · rename_i u hu
      split at h
      · rename_i K2 h2
        simp only [Option.some.injEq] at h
        subst h
        simp only [lk] at hv
        cases hb : Nat.beq s t with
        | true =>
          rw [hb] at hv
          have := Nat.eq_of_beq_eq_true hb
          subst this
          simp only [cond_true, Option.some.injEq] at hv
          subst hv; exact hu
        | false => rw [hb] at hv; exact restr_lk h2 t v hv
      · cases h
    · cases h
theorem pickL_sub : ∀ {L : Ents} {l : List Bool} {L' : Ents}, pickL L l = some L' → L'.Sublist L
  | [], [], L', h => by simp only [pickL, Option.some.injEq] at h; subst h; exact List.nil_sublist _
  | [], _ :: _, L', h => by simp [pickL] at h
  | _ :: _, [], L', h => by simp [pickL] at h
  | e :: L, b :: r, L', h => by
    simp only [pickL] at h
    split at h
    · rename_i L2 h2
      simp only [Option.some.injEq] at h
      subst h
      cases b with
      | true => exact (pickL_sub h2).cons_cons e
      | false => exact (pickL_sub h2).trans (List.sublist_cons_self _ _)
    · cases h
theorem Kn.restr {K K' : Slots} {a : Act} {l : List Nat} (h : Kn N K a) (hr : restr K l = some K') : Kn N K' a := ⟨h.1, h.2.1, fun t v hv => h.2.2 t v (restr_lk hr t v hv)⟩
theorem Rep.sub {L L' : Ents} {w : World} (h : Rep S W0 L w) (hs : L'.Sublist L) : Rep S W0 L' w :=
  ⟨h.ext, fun e he => h.ok e (hs.subset he), h.sep.sublist hs, fun e he => h.mine e (hs.subset he)⟩

def runK (P : Program) (N B f : Nat) (c : Code) (K : Slots) (L : Ents) (hs : Hints) (keep : List Nat) (keepL : List Bool) : Option (XT × Slots × Ents × Obs × List Prop) :=
  match runC P N B f c K L 0 hs with
  | some (e, K', L', _, _, obs, obl) => match Go.Proofs.Ytojnpaenpaobcaa.restr K' keep, pickL L' keepL with
    | some K2, some L2 => some (e, K2, L2, obs, obl)
    | _, _ => none
  | none => none
def runL (P : Program) (N B : Nat) (ops : Array Oper) (l : List Oper) (K : Slots) (L : Ents) (hs : Hints) (keep : List Nat) (keepL : List Bool) : Option (Slots × Ents × Obs × List Prop) :=
  match symOps P N ops B l K L 0 hs with
  | some (K', L', _, _, obs, obl) => match Go.Proofs.Ytojnpaenpaobcaa.restr K' keep, pickL L' keepL with
    | some K2, some L2 => some (K2, L2, obs, obl)
    | _, _ => none
  | none => none

/-- Code that is evaluated at once. -/
theorem At.run {c : Code} (hs : Hints) (keep : List Nat) (keepL : List Bool) (e : XT) (K' : Nat → Slots) (L' : Nat → Ents) (E : Nat → List Nat) (obl : Nat → List Prop)
    (h : ∀ B, runK P N B 10000 c K L hs keep keepL = some (e, K' B, L' B, dup (E B), obl B)) (hl : ∀ B, AllP (obl B)) (next : ∀ B, Ends N S W0 (K' B) (L' B) e Q) : At P N S W0 K L c Q := by
  intro a w hK hR
  have h := h w.heap.size
  unfold runK at h
  split at h
  · rename_i e1 K1 L1 n1 h1 o1 l1 hc
    split at h
    · rename_i K2 L2 hr hp
      simp only [Option.some.injEq, Prod.mk.injEq] at h
      obtain ⟨rfl, rfl, rfl, rfl, rfl⟩ := h
      exact (runC_sound 10000 c K L 0 hs _ _ _ _ _ _ _ hc (dup_same _) (hl _) Q a w hK hR rfl (fun a' w' k r _ => next _ a' w' (k.restr hr) (r.sub (pickL_sub hp)))).1
    · cases h
  · cases h
theorem AtL.run {ops : Array Oper} {l : List Oper} (m : Nat) (hs : Hints) (keep : List Nat) (keepL : List Bool) (K' : Nat → Slots) (L' : Nat → Ents) (E : Nat → List Nat) (obl : Nat → List Prop)
    (h : ∀ B, runL P N B ops (l.take m) K L hs keep keepL = some (K' B, L' B, dup (E B), obl B)) (hl : ∀ B, AllP (obl B)) (next : ∀ B, AtL P N S W0 (K' B) (L' B) ops (l.drop m) Q) : AtL P N S W0 K L ops l Q := by
  intro a w hK hR
  have h := h w.heap.size
  unfold runL at h
  split at h
  · rename_i K1 L1 n1 h1 o1 l1 hc
    split at h
    · rename_i K2 L2 hr hp
      simp only [Option.some.injEq, Prod.mk.injEq] at h
      obtain ⟨rfl, rfl, rfl, rfl⟩ := h
      have := symOps_sound (Q := Q) (S := S) (W0 := W0) (l.drop m) (l.take m) K L 0 hs _ _ _ _ _ _ hc (dup_same _) (hl _) a w hK hR rfl (fun a' w' k r _ => next _ a' w' (k.restr hr) (r.sub (pickL_sub hp)))
      rwa [List.take_append_drop] at this
    · cases h
  · cases h
/-- Where memory stays as it is. -/
theorem At.runR {c : Code} (hs : Hints) (keep : List Nat) (keepL : List Bool) (e : XT) (K' : Slots) (E : List Nat) (obl : List Prop)
    (h : ∀ B, runK P N B 10000 c K L hs keep keepL = some (e, K', L, dup E, obl)) (hl : AllP obl) (next : Ends N S W0 K' L e Q) : At P N S W0 K L c Q :=
  At.run hs keep keepL e (fun _ => K') (fun _ => L) (fun _ => E) (fun _ => obl) h (fun _ => hl) (fun _ => next)
theorem AtL.runR {ops : Array Oper} {l : List Oper} (m : Nat) (hs : Hints) (keep : List Nat) (keepL : List Bool) (K' : Slots) (E : List Nat) (obl : List Prop)
    (h : ∀ B, runL P N B ops (l.take m) K L hs keep keepL = some (K', L, dup E, obl)) (hl : AllP obl) (next : AtL P N S W0 K' L ops (l.drop m) Q) : AtL P N S W0 K L ops l Q :=
  AtL.run m hs keep keepL (fun _ => K') (fun _ => L) (fun _ => E) (fun _ => obl) h (fun _ => hl) (fun _ => next)
theorem AtL.nil {ops : Array Oper} {l : List Oper} (h : l = []) (next : Ends N S W0 K L .normal Q) : AtL P N S W0 K L ops l Q := by
  subst h; exact fun a w hK hR => next a w hK hR
theorem At.region {id : Nat} {ops : Array Oper} (h : AtL P N S W0 K L ops ops.toList Q) : At P N S W0 K L (.region id ops false) Q :=
  fun a w hK hR => wp_region_list (h a w hK hR)

theorem At.seq {x y : Code} (h : At P N S W0 K L x (Exit.then (y.wp P Q) Q)) : At P N S W0 K L (.seq x y) Q := fun a w hK hR => wp_seq (h a w hK hR)
theorem At.block {id : Nat} {x : Code} (h : At P N S W0 K L x (Exit.inBlock id Q)) : At P N S W0 K L (.block id x) Q := fun a w hK hR => wp_block (h a w hK hR)
theorem Ends.seq {y : Code} (h : At P N S W0 K L y Q) : Ends N S W0 K L .normal (Exit.then (y.wp P Q) Q) := h
theorem Ends.then_exit {F : Act → World → Prop} {id : Nat} (h : Ends N S W0 K L (.exit id) Q) : Ends N S W0 K L (.exit id) (Exit.then F Q) := h
theorem Ends.then_ret {F : Act → World → Prop} (h : Ends N S W0 K L .ret Q) : Ends N S W0 K L .ret (Exit.then F Q) := h
theorem Ends.block_hit {id : Nat} (h : Ends N S W0 K L .normal Q) : Ends N S W0 K L (.exit id) (Exit.inBlock id Q) := fun a w hK hR => by
  simp only [XT.out, Exit.inBlock, if_true]; exact h a w hK hR
theorem Ends.block_pass {id id' : Nat} (hn : id' ≠ id) (h : Ends N S W0 K L (.exit id') Q) : Ends N S W0 K L (.exit id') (Exit.inBlock id Q) := fun a w hK hR => by
  simp only [XT.out, Exit.inBlock, if_neg hn]; exact h a w hK hR
theorem Ends.block_normal {id : Nat} (h : Ends N S W0 K L .normal Q) : Ends N S W0 K L .normal (Exit.inBlock id Q) := h
theorem Ends.block_ret {id : Nat} (h : Ends N S W0 K L .ret Q) : Ends N S W0 K L .ret (Exit.inBlock id Q) := h
theorem At.cond {c : Operand} {x y : Code} (b : Bool) (hc : KE K c = some (.bool b)) (ht : b = true → At P N S W0 K L x Q) (hf : b = false → At P N S W0 K L y Q) : At P N S W0 K L (.cond c x y) Q := by
  intro a w hK hR
  have hc' := KE_eval hK (x := c) (by rw [hc]; rfl)
  cases b with
  | true => exact wp_cond_true (by rw [hc']; simp [KEt, hc]) (ht rfl a w hK hR)
  | false => exact wp_cond_false (by rw [hc']; simp [KEt, hc]) (hf rfl a w hK hR)

theorem Ends.weak {e : XT} (keep : List Nat) (keepL : List Bool) (K' : Slots) (L' : Ents) (hk : restr K keep = some K') (hl : pickL L keepL = some L') (h : Ends N S W0 K' L' e Q) : Ends N S W0 K L e Q := fun a w hK hR => h a w (hK.restr hk) (hR.sub (pickL_sub hl))
theorem At.weak {c : Code} (keep : List Nat) (keepL : List Bool) (K' : Slots) (L' : Ents) (hk : restr K keep = some K') (hl : pickL L keepL = some L') (h : At P N S W0 K' L' c Q) : At P N S W0 K L c Q := fun a w hK hR => h a w (hK.restr hk) (hR.sub (pickL_sub hl))
/-- What is known where ways meet. -/
def Mid (N : Nat) (S : List Nat) (W0 : World) {σ : Type} (I : σ → Prop) (K : σ → Slots) (L : σ → Ents) (a : Act) (w : World) : Prop := ∃ s, I s ∧ Kn N (K s) a ∧ Rep S W0 (L s) w
theorem At.seq_mid {σ : Type} (I : σ → Prop) (K' : σ → Slots) (L' : σ → Ents) {x y : Code} (h : At P N S W0 K L x (Exit.then (Mid N S W0 I K' L') Q)) (hy : ∀ s, I s → At P N S W0 (K' s) (L' s) y Q) : At P N S W0 K L (.seq x y) Q :=
  fun a w hK hR => wp_seq (wp_mono (h a w hK hR) (fun e a' w' q => by
    cases e with
    | normal => obtain ⟨s, hi, k, r⟩ := q; exact hy s hi a' w' k r
    | _ => exact q))
theorem Ends.mid {σ : Type} {I : σ → Prop} {K' : σ → Slots} {L' : σ → Ents} (s : σ) (hi : I s) (hk : K = K' s) (hl : L = L' s) : Ends N S W0 K L .normal (Exit.then (Mid N S W0 I K' L') Q) := fun a w hK hR => ⟨s, hi, hk ▸ hK, hl ▸ hR⟩
/-- A loop. -/
def Round (N : Nat) (S : List Nat) (W0 : World) {σ : Type} (I : Nat → σ → Prop) (K : σ → Slots) (L : σ → Ents) (n : Nat) (a : Act) (w : World) : Prop := ∃ n', n' < n ∧ ∃ s, I n' s ∧ Kn N (K s) a ∧ Rep S W0 (L s) w
theorem At.loop {σ : Type} (I : Nat → σ → Prop) (K' : σ → Slots) (L' : σ → Ents) {x : Code} (n0 : Nat) (s0 : σ) (h0 : I n0 s0) (hk : K = K' s0) (hl : L = L' s0)
    (round : ∀ n s, I n s → At P N S W0 (K' s) (L' s) x (Exit.then (Round N S W0 I K' L' n) Q)) : At P N S W0 K L (.loop x) Q := fun a w hK hR =>
  wp_loop_ghost (fun n a w => ∃ s, I n s ∧ Kn N (K' s) a ∧ Rep S W0 (L' s) w) n0 ⟨s0, h0, hk ▸ hK, hl ▸ hR⟩ (fun n a w ⟨s, hi, k, r⟩ => round n s hi a w k r)
theorem Ends.round {σ : Type} {I : Nat → σ → Prop} {K' : σ → Slots} {L' : σ → Ents} {n : Nat} (n' : Nat) (s : σ) (hn : n' < n) (hi : I n' s) (hk : K = K' s) (hl : L = L' s) : Ends N S W0 K L .normal (Exit.then (Round N S W0 I K' L' n) Q) :=
  fun a w hK hR => ⟨n', hn, s, hi, hk ▸ hK, hl ▸ hR⟩

def repK (K : Slots) (t : Nat) (v : Value) : Slots := K.map fun x => bif Nat.beq x.1 t then (t, v) else x
theorem lk_repK (t : Nat) (u : Value) : ∀ (K : Slots) (s : Nat), lk (repK K t u) s = if s = t then (lk K s).map (fun _ => u) else lk K s
  | [], s => by simp [repK, lk]
  | (r, x) :: K, s => by
    have ih := lk_repK t u K s
    simp only [repK, List.map_cons] at ih ⊢
    cases h1 : Nat.beq r t with
    | true =>
      have e1 := Nat.eq_of_beq_eq_true h1
      subst e1
      simp only [cond_true, lk]
      cases h2 : Nat.beq r s with
      | true => have e2 := Nat.eq_of_beq_eq_true h2; subst e2; simp
      | false =>
        have e2 := Nat.ne_of_beq_eq_false h2
        simp only [cond_false]
        rw [ih]
    | false =>
      have e1 := Nat.ne_of_beq_eq_false h1
      simp only [cond_false, lk]
      cases h2 : Nat.beq r s with
      | true => have e2 := Nat.eq_of_beq_eq_true h2; subst e2; simp [e1]
      | false => simp only [cond_false]; rw [ih]
theorem Kn.bool {t : Nat} {b : Bool} {a : Act} (h : Kn N K a) (ht : lk K t = some (.bool b)) (c : Bool) (e : b = c) : Kn N (repK K t (.bool c)) a := by
  refine ⟨h.1, h.2.1, fun s v hv => ?_⟩
  rw [lk_repK] at hv
  split at hv
  · rename_i hs
    subst hs
    rw [ht] at hv
    simp only [Option.map_some, Option.some.injEq] at hv
    subst hv
    rw [h.2.2 s _ ht, e]
  · exact h.2.2 s v hv
theorem AtL.bool {ops : Array Oper} {l : List Oper} (t : Nat) (b : Bool) (h : lk K t = some (.bool b)) (ht : b = true → AtL P N S W0 (repK K t (.bool true)) L ops l Q) (hf : b = false → AtL P N S W0 (repK K t (.bool false)) L ops l Q) : AtL P N S W0 K L ops l Q := by
  intro a w hK hR
  cases hb : b with
  | true => exact ht hb a w (hK.bool h true hb) hR
  | false => exact hf hb a w (hK.bool h false hb) hR
theorem At.bool {x : Code} (t : Nat) (b : Bool) (h : lk K t = some (.bool b)) (ht : b = true → At P N S W0 (repK K t (.bool true)) L x Q) (hf : b = false → At P N S W0 (repK K t (.bool false)) L x Q) : At P N S W0 K L x Q := by
  intro a w hK hR
  cases hb : b with
  | true => exact ht hb a w (hK.bool h true hb) hR
  | false => exact hf hb a w (hK.bool h false hb) hR

theorem Kn.val {t : Nat} {u : Value} {a : Act} (h : Kn N K a) (ht : lk K t = some u) (v : Value) (e : u = v) : Kn N (repK K t v) a := by
  refine ⟨h.1, h.2.1, fun s x hv => ?_⟩
  rw [lk_repK] at hv
  split at hv
  · rename_i hs
    subst hs
    rw [ht] at hv
    simp only [Option.map_some, Option.some.injEq] at hv
    subst hv
    rw [h.2.2 s _ ht, e]
  · exact h.2.2 s x hv
theorem AtL.eq {ops : Array Oper} {l : List Oper} (t : Nat) (k : IntKind) (x c : Int) (h : lk K t = some (.int k x)) (ht : (x == c) = true → AtL P N S W0 (repK K t (.int k c)) L ops l Q) (hf : (x == c) = false → AtL P N S W0 K L ops l Q) : AtL P N S W0 K L ops l Q := by
  intro a w hK hR
  cases hb : x == c with
  | true => exact ht hb a w (hK.val h _ (by rw [eq_of_beq hb])) hR
  | false => exact hf hb a w hK hR
theorem At.unroll {x : Code} (n : Nat) (h : ∀ a w, Kn N K a → Rep S W0 L w → Code.rounds P x Q n a w) : At P N S W0 K L (.loop x) Q := fun a w hK hR => wp_loop_rounds n (h a w hK hR)
def AtR (P : Program) (N : Nat) (S : List Nat) (W0 : World) (K : Slots) (L : Ents) (x : Code) (Q : Exit → Act → World → Prop) (n : Nat) : Prop := ∀ a w, Kn N K a → Rep S W0 L w → Code.rounds P x Q n a w
theorem AtR.succ {x : Code} {n : Nat} (h : At P N S W0 K L x (Exit.then (Code.rounds P x Q n) Q)) : AtR P N S W0 K L x Q (n + 1) := h
theorem Ends.rounds {x : Code} {n : Nat} (h : AtR P N S W0 K L x Q n) : Ends N S W0 K L .normal (Exit.then (Code.rounds P x Q n) Q) := h
/-- A call: the function, its arguments, where the result goes. -/
def callK (P : Program) (N : Nat) (ops : Array Oper) (K : Slots) (l : List Oper) : Option (FuncId × Array Value × Option Tmp) :=
  match l with
  | [] => none
  | o :: _ => match guardK ops K o with
    | some true => bif covers K o then match symR P (execOp (KEt K) o) [] [] with
        | some (.enter g vs, _, [], []) => some (g, vs, o.dst)
        | _ => none
      else none
    | _ => none
theorem rep_nil {L : Ents} {w : World} (h : Rep S W0 L w) : Rep S W0 [] w := h.sub (List.nil_sublist _)
theorem AtL.call {ops : Array Oper} {l : List Oper} (g : FuncId) (vs : Array Value) (d : Option Tmp) (h : callK P N ops K l = some (g, vs, d)) (R : World → Ending → World → Prop) (hc : ∀ w, Rep S W0 L w → Calls P g vs w (R w))
    (next : ∀ w e w', Rep S W0 L w → R w e w' → ∃ v K' L', e = .returned v ∧ setD N K d v = some K' ∧ Rep S W0 L' w' ∧ AtL P N S W0 K' L' ops l.tail Q) : AtL P N S W0 K L ops l Q := by
  intro a w hK hR
  match l, h with
  | o :: r, h =>
    simp only [callK] at h
    split at h
    · rename_i hg
      cases hcv : covers K o with
      | false => rw [hcv] at h; cases h
      | true =>
        rw [hcv] at h
        simp only [cond_true] at h
        split at h
        · rename_i g' vs' hs' hr
          simp only [Option.some.injEq, Prod.mk.injEq] at h
          obtain ⟨rfl, rfl, rfl⟩ := h
          have hrun := symR_sound _ _ _ _ _ _ _ hr (by intro p hp; cases hp) trivial w (rep_nil hR)
          unfold wpList
          rw [if_pos (guard_K hK hg)]
          refine .inl ?_
          unfold Oper.wp
          rw [exec_K hK hcv, hrun, Oper.upon_enter]
          refine (hc w hR).mono fun e w' he => ?_
          obtain ⟨v, K', L', rfl, hset, hR', hn⟩ := next w e w' hR he
          exact hn _ w' (put_K hK hset) hR'
        · cases h
    · cases h

/-! The end -/
def resOne (tmps : Array Value) : ResultVar → Sem Value
  | .tmp t => pure (tmps.getD t undef)
  | .cell a t => do loadVar t (← asAddr (tmps.getD a undef))
def resL (tmps : Array Value) : List ResultVar → Sem (List Value)
  | [] => pure []
  | r :: rs => do
    let x ← resOne tmps r
    let xs ← resL tmps rs
    pure (x :: xs)
def single : List Value → Value
  | [v] => v
  | vs => .tuple vs.toArray
theorem mapM_resL (tmps : Array Value) : ∀ l : List ResultVar, l.mapM (resOne tmps) = resL tmps l
  | [] => rfl
  | r :: l => by rw [List.mapM_cons, resL, mapM_resL tmps l]
theorem results_eq (fn : Func) (tmps : Array Value) : results fn tmps = (do let vs ← resL tmps fn.results.toList; pure (single vs)) := by
  have e : ∀ g : ResultVar → Sem Value, (∀ r, g r = resOne tmps r) → (do let vs ← fn.results.mapM g; pure (if h : vs.size = 1 then vs[0] else .tuple vs) : Sem Value) = (do let vs ← resL tmps fn.results.toList; pure (single vs)) := by
    intro g hg
    rw [show g = resOne tmps from funext hg, Array.mapM_eq_mapM_toList, mapM_resL]
    simp only [map_eq_pure_bind, bind_assoc, pure_bind]
    congr 1
    funext vs
    match vs with
    | [] => rfl
    | [v] => rfl
    | v :: u :: vs => simp [single]
  exact e _ (fun r => by cases r <;> rfl)
def resKOne (K : Slots) : ResultVar → Sem Value
  | .tmp t => pure ((lk K t).getD undef)
  | .cell a t => do loadVar t (← asAddr ((lk K a).getD undef))
def resK (K : Slots) : List ResultVar → Sem (List Value)
  | [] => pure []
  | r :: rs => do
    let x ← resKOne K r
    let xs ← resK K rs
    pure (x :: xs)
def covR (K : Slots) : List ResultVar → Bool
  | [] => true
  | .tmp t :: r => (lk K t).isSome && covR K r
  | .cell t _ :: r => (lk K t).isSome && covR K r
theorem resK_eq {a : Act} (h : Kn N K a) : ∀ l, covR K l = true → resL a.tmps l = resK K l
  | [], _ => rfl
  | .tmp t :: r, hc => by
    simp only [covR, Bool.and_eq_true] at hc
    obtain ⟨v, hv⟩ := Option.isSome_iff_exists.1 hc.1
    have e : a.tmps.getD t undef = v := by simp [h.2.2 t v hv]
    simp only [resL, resK, resOne, resKOne, resK_eq h r hc.2, e, hv, Option.getD_some]
  | .cell t ty :: r, hc => by
    simp only [covR, Bool.and_eq_true] at hc
    obtain ⟨v, hv⟩ := Option.isSome_iff_exists.1 hc.1
    have e : a.tmps.getD t undef = v := by simp [h.2.2 t v hv]
    simp only [resL, resK, resOne, resKOne, resK_eq h r hc.2, e, hv, Option.getD_some]
def retK (P : Program) (fn : Func) (K : Slots) (L : Ents) (hs : Hints) : Option (Value × Obs × List Prop) :=
  bif covR K fn.results.toList then match symR P (do let vs ← resK K fn.results.toList; pure (single vs) : Sem Value) hs L with
    | some (v, _, obs, obl) => some (v, obs, obl)
    | none => none
  else none
theorem Ends.body {fn : Func} {R : Ending → World → Prop} (hs : Hints) (v : Value) (E : List Nat) (h : retK P fn K L hs = some (v, dup E, [])) (hR : ∀ w, Rep S W0 L w → R (.returned v) w) : Ends N S W0 K L .ret (bodyPost P fn R) := by
  intro a w hK hRep
  unfold retK at h
  cases hc : covR K fn.results.toList with
  | false => rw [hc] at h; cases h
  | true =>
    rw [hc] at h
    simp only [cond_true] at h
    split at h
    · rename_i v1 h1 o1 l1 hr
      simp only [Option.some.injEq, Prod.mk.injEq] at h
      obtain ⟨rfl, rfl, rfl⟩ := h
      refine ⟨hK.2.1, v1, ?_, hR w hRep⟩
      rw [results_eq, resK_eq hK _ hc]
      exact symR_sound _ _ _ _ _ _ _ hr (dup_same _) trivial w hRep
    · cases h

theorem Ends.body_normal {fn : Func} {R : Ending → World → Prop} (hs : Hints) (v : Value) (E : List Nat) (h : retK P fn K L hs = some (v, dup E, [])) (hR : ∀ w, Rep S W0 L w → R (.returned v) w) : Ends N S W0 K L .normal (bodyPost P fn R) := by
  intro a w hK hRep
  unfold retK at h
  cases hc : covR K fn.results.toList with
  | false => rw [hc] at h; cases h
  | true =>
    rw [hc] at h
    simp only [cond_true] at h
    split at h
    · rename_i v1 h1 o1 l1 hr
      simp only [Option.some.injEq, Prod.mk.injEq] at h
      obtain ⟨rfl, rfl, rfl⟩ := h
      refine ⟨hK.2.1, v1, ?_, hR w hRep⟩
      rw [results_eq, resK_eq hK _ hc]
      exact symR_sound _ _ _ _ _ _ _ hr (dup_same _) trivial w hRep
    · cases h

/-- A function's beginning. -/
def AllK (arr : Array Value) : Slots → Prop
  | [] => True
  | (t, v) :: r => arr[t]? = some v ∧ AllK arr r
theorem AllK.lk {arr : Array Value} : ∀ {K : Slots}, AllK arr K → ∀ t v, lk K t = some v → arr[t]? = some v
  | [], _, _, _, h => by cases h
  | (s, u) :: K, hA, t, v, h => by
    simp only [Go.Proofs.Ytojnpaenpaobcaa.lk] at h
    cases hb : Nat.beq s t with
    | true =>
      rw [hb] at h
      have := Nat.eq_of_beq_eq_true hb
      subst this
      simp only [cond_true, Option.some.injEq] at h
      subst h; exact hA.1
    | false => rw [hb] at h; exact AllK.lk hA.2 t v h
theorem At.enter {f : FuncId} {fn : Func} {c : Code} {args : Array Value} {w : World} {R : Ending → World → Prop} (hf : P.funcs[f]? = some fn) (hb : fn.body = some c) (N : Nat) (K : Slots) (L : Ents) (S : List Nat)
    (hN : args.size + (fn.ntmps - args.size) = N) (hK : AllK args K) (hR : Rep S w L w) (h : At P N S w K L c (bodyPost P fn R)) : Calls P f args w R := by
  refine calls_of_wp hf hb (h _ w ⟨by simpa using hN, rfl, fun t v hv => ?_⟩ hR)
  have := hK.lk t v hv
  have hlt := (Array.getElem?_eq_some_iff.1 this).1
  rw [Array.getElem?_append_left hlt]; exact this
theorem Rep.start (w : World) : Rep S w [] w := ⟨Ex.refl _ _, by simp, by simp, by simp⟩
/-- A slice that came in. -/
theorem Rep.sl {α : Type} {k : Nat} {f : α → List Value} {L : Ents} {w : World} (h : Rep [] w L w) {a : Option Addr} {cap : Nat} {xs : List α} (d : α) (hs : Sl k f w a cap xs) (hL : ∀ e ∈ L, e.mut = none) : Rep [] w (.sl a k xs.length (fun i => f (nth xs d i)) :: L) w := by
  refine ⟨h.ext, ?_, ?_, ?_⟩
  · intro e he
    rcases List.mem_cons.1 he with rfl | he
    · intro hn
      obtain ⟨b, off, rfl, hb, hc⟩ := hs.cells hn
      refine ⟨rfl, hb, fun i hi j v hv => ?_⟩
      replace hv : (f (nth xs d i))[j]? = some v := hv
      rw [← nth_eq xs d i hi] at hv
      exact hc i hi j v hv
    · exact h.ok e he
  · refine List.pairwise_cons.2 ⟨fun e he => ⟨fun b hb => by simp [Ent.mut] at hb, fun b hb => by rw [hL e he] at hb; cases hb⟩, h.sep⟩
  · intro e he b hb
    rcases List.mem_cons.1 he with rfl | he
    · simp [Ent.mut] at hb
    · exact h.mine e he b hb
/-- An index that is looked at. -/
def inB (i : Int) (n : Nat) : Bool := decide (0 ≤ i) && decide (i < (n : Int))
theorem inB_lt {i : Int} {n : Nat} (h : inB i n = true) : i.toNat < n := by
  simp only [inB, Bool.and_eq_true, decide_eq_true_eq] at h; omega
theorem inB_idx {a : Option Addr} {i : Int} {n : Nat} (h : inB i n = true) : IdxOk a a n n i := by
  simp only [inB, Bool.and_eq_true, decide_eq_true_eq] at h
  exact ⟨h.1, h.2, rfl, rfl⟩
theorem bne_ne {a : Int} (h : (a != 0) = true) : a ≠ 0 := by simpa using h
/-! Steps through what a function means -/
theorem gd {α : Type} {c : Bool} {x : Option α} {v : α} (h : (bif c then x else none) = some v) : c = true ∧ x = some v := by cases c <;> simp_all
theorem br_t {α : Type} {c : Bool} {x y : Option α} {v : α} (h : (bif c then x else y) = some v) (hc : c = true) : x = some v := by subst hc; exact h
theorem br_f {α : Type} {c : Bool} {x y : Option α} {v : α} (h : (bif c then x else y) = some v) (hc : c = false) : y = some v := by subst hc; exact h
theorem bd {α β : Type} {o : Option α} {f : α → Option β} {v : β} (h : o.bind f = some v) : ∃ a, o = some a ∧ f a = some v := Option.bind_eq_some_iff.1 h
/-- What a slice is in a world of which it is known. -/
theorem Rep.toSl {α : Type} {k : Nat} {f : α → List Value} {w : World} {a : Option Addr} {cap : Nat} {xs : List α} {d : α} (h : Rep S W0 L w) (i : Nat) (hi : L[i]? = some (.sl a k xs.length (fun i => f (nth xs d i)))) (hle : xs.length ≤ cap) (hb : cap ≤ 9223372036854775807) : Sl k f w a cap xs := by
  refine ⟨hle, hb, fun hn => ?_⟩
  obtain ⟨h1, h2, h3⟩ := h.ok _ (List.mem_of_getElem? hi) hn
  refine ⟨slB a, slO a, h1, h2, fun j hj l v hv => h3 j hj l v ?_⟩
  rw [nth_eq xs d j hj] at hv
  exact hv
end
def onSum {α β γ : Type} (f : α → Option γ) (g : β → Option γ) : Sum α β → Option γ
  | .inl a => f a
  | .inr b => g b

def runY (P : Program) (N : Nat) (ops : Array Oper) (m : List Oper) (K : Slots) (L : Ents) (hs : Hints) (keep : List Nat) : Option (Slots × Obs × List Prop) :=
  match symRds P N ops m K L hs with
  | some (K', _, obs, obl) => match restr K' keep with
    | some K2 => some (K2, obs, obl)
    | none => none
  | none => none
theorem Ent.sep_symm {e f : Ent} (h : e.sep f) : f.sep e := ⟨h.2, h.1⟩
section
variable {P : Program} {N : Nat} {S : List Nat} {W0 : World} {K : Slots} {L : Ents} {Q : Exit → Act → World → Prop}
/-- Entries in another order, or fewer. -/
def selL (L : Ents) : List Nat → Option Ents
  | [] => some []
  | i :: r => match L[i]? with
    | some e => match selL L r with
      | some L' => some (e :: L')
      | none => none
    | none => none
def nodupB : List Nat → Bool
  | [] => true
  | i :: r => r.all (fun j => !Nat.beq i j) && nodupB r
theorem selL_mem : ∀ {r : List Nat} {L L' : Ents}, selL L r = some L' → ∀ e ∈ L', ∃ i ∈ r, L[i]? = some e
  | [], L, L', h, e, he => by simp only [selL, Option.some.injEq] at h; subst h; cases he
  | i :: r, L, L', h, e, he => by
    simp only [selL] at h
    split at h
    · rename_i f hf
      split at h
      · rename_i L2 h2
        simp only [Option.some.injEq] at h
        subst h
        rcases List.mem_cons.1 he with rfl | he
        · exact ⟨i, by simp, hf⟩
        · obtain ⟨j, hj, hjf⟩ := selL_mem h2 e he
          exact ⟨j, by simp [hj], hjf⟩
      · cases h
    · cases h
theorem sep_at {w : World} (h : Rep S W0 L w) {i j : Nat} {e f : Ent} (hij : i ≠ j) (hi : L[i]? = some e) (hj : L[j]? = some f) : e.sep f := by
  obtain ⟨h1, g1⟩ := List.getElem?_eq_some_iff.1 hi
  obtain ⟨h2, g2⟩ := List.getElem?_eq_some_iff.1 hj
  have hp := List.pairwise_iff_getElem.1 h.sep
  rcases Nat.lt_or_gt_of_ne hij with hlt | hlt
  · have := hp i j h1 h2 hlt; rwa [g1, g2] at this
  · have := hp j i h2 h1 hlt; rw [g1, g2] at this; exact Ent.sep_symm this
theorem Rep.sel {w : World} (h : Rep S W0 L w) : ∀ {r : List Nat} {L' : Ents}, selL L r = some L' → nodupB r = true → Rep S W0 L' w
  | [], L', hs, _ => by simp only [selL, Option.some.injEq] at hs; subst hs; exact ⟨h.ext, by simp, by simp, by simp⟩
  | i :: r, L', hs, hn => by
    simp only [selL] at hs
    simp only [nodupB, Bool.and_eq_true, List.all_eq_true, Bool.not_eq_true'] at hn
    split at hs
    · rename_i e he
      split at hs
      · rename_i L2 h2
        simp only [Option.some.injEq] at hs
        subst hs
        have ih := Rep.sel h h2 hn.2
        refine ⟨h.ext, ?_, ?_, ?_⟩
        · intro f hf
          rcases List.mem_cons.1 hf with rfl | hf
          · exact h.ok _ (List.mem_of_getElem? he)
          · exact ih.ok f hf
        · refine List.pairwise_cons.2 ⟨fun f hf => ?_, ih.sep⟩
          obtain ⟨j, hj, hjf⟩ := selL_mem h2 f hf
          have := Nat.ne_of_beq_eq_false (hn.1 j hj)
          exact sep_at h this he hjf
        · intro f hf b hb
          rcases List.mem_cons.1 hf with rfl | hf
          · exact h.mine _ (List.mem_of_getElem? he) b hb
          · exact ih.mine f hf b hb
      · cases hs
    · cases hs
end
section
variable {P : Program} {N : Nat} {S : List Nat} {W0 : World} {K : Slots} {L : Ents} {Q : Exit → Act → World → Prop} {l : List Oper} {Ls : Ents}
def AtP (P : Program) (N : Nat) (S : List Nat) (W0 : World) (l : List Oper) (Ls : Ents) (K : Slots) (L : Ents) (segs : List Seg) (Q : Exit → Act → World → Prop) : Prop :=
  ∀ a w, Kn N K a → Rep S W0 L w → wpPlan P l (Rep S W0 Ls) Q segs a w
def AtY (P : Program) (N : Nat) (S : List Nat) (W0 : World) (X : World → Prop) (K : Slots) (L : Ents) (ops : Array Oper) (m : List Oper) (F : Act → World → Prop) : Prop :=
  ∀ a w, Kn N K a → Rep S W0 L w → wpYield P ops X (fun a' => F a' w) m a
theorem At.plan {id : Nat} {ops : Array Oper} (Ls : Ents) (idx : List Nat) (hl : selL L idx = some Ls) (hn : nodupB idx = true) (segs : List Seg) (hm : P.follows .mixedOrders = true)
    (hB : (Region.noSelect ops && planOk .any ops (exOf segs) segs (Array.replicate ops.size false) && endTl segs && (lens segs == ops.size)) = true)
    (h : AtP P N S W0 ops.toList Ls K L segs Q) : At P N S W0 K L (.region id ops true) Q := by
  intro a w hK hR
  have := region_plan (P := P) (l := ops.toList) (id := id) (a := a) (Q := Q) (w := w) (Rep S W0 Ls) segs hm (by simpa using hB) (hR.sel hl hn).drew (h a w.drew hK hR.drew)
  simpa using this
theorem AtP.nil (h : Ends N S W0 K L .normal Q) : AtP P N S W0 l Ls K L [] Q := fun a w hK hR => h a w hK hR
theorem AtP.st {is : List Nat} {r : List Seg} (h : AtY P N S W0 (Rep S W0 Ls) K L l.toArray (pick l is) (wpPlan P l (Rep S W0 Ls) Q r)) : AtP P N S W0 l Ls K L (.st is :: r) Q := fun a w hK hR => h a w hK hR
theorem AtP.pu {is : List Nat} {r : List Seg} (h : AtY P N S W0 (fun _ => True) K L l.toArray (pick l is) (wpPlan P l (Rep S W0 Ls) Q r)) : AtP P N S W0 l Ls K L (.pu is :: r) Q := fun a w hK hR => h a w hK hR
theorem AtP.mv {i : Nat} {r : List Seg} (h : AtL P N S W0 K L l.toArray (pick l [i]) (fun e a' w' => e = .normal ∧ Rep S W0 Ls w' ∧ wpPlan P l (Rep S W0 Ls) Q r a' w')) : AtP P N S W0 l Ls K L (.mv i :: r) Q := fun a w hK hR => h a w hK hR
theorem AtP.tl {is : List Nat} {r : List Seg} (h : AtL P N S W0 K L l.toArray (pick l is) (fun e a' w' => e = .normal ∧ wpPlan P l (Rep S W0 Ls) Q r a' w')) : AtP P N S W0 l Ls K L (.tl is :: r) Q := fun a w hK hR => h a w hK hR
theorem Ends.mv {r : List Seg} (idx : List Nat) (hl : selL L idx = some Ls) (hn : nodupB idx = true) (h : AtP P N S W0 l Ls K L r Q) : Ends N S W0 K L .normal (fun e a' w' => e = .normal ∧ Rep S W0 Ls w' ∧ wpPlan P l (Rep S W0 Ls) Q r a' w') := fun a w hK hR =>
  ⟨rfl, hR.sel hl hn, h a w hK hR⟩
theorem Ends.tl {r : List Seg} (h : AtP P N S W0 l Ls K L r Q) : Ends N S W0 K L .normal (fun e a' w' => e = .normal ∧ wpPlan P l (Rep S W0 Ls) Q r a' w') := fun a w hK hR => ⟨rfl, h a w hK hR⟩
theorem AtY.nil {X : World → Prop} {ops : Array Oper} {m : List Oper} {r : List Seg} (hm : m = []) (h : AtP P N S W0 l Ls K L r Q) : AtY P N S W0 X K L ops m (wpPlan P l (Rep S W0 Ls) Q r) := by
  subst hm; exact fun a w hK hR => h a w hK hR
theorem AtY.bool {X : World → Prop} {ops : Array Oper} {m : List Oper} {F : Act → World → Prop} (t : Nat) (b : Bool) (h : lk K t = some (.bool b)) (ht : b = true → AtY P N S W0 X (repK K t (.bool true)) L ops m F) (hf : b = false → AtY P N S W0 X (repK K t (.bool false)) L ops m F) : AtY P N S W0 X K L ops m F := by
  intro a w hK hR
  cases hb : b with
  | true => exact ht hb a w (hK.bool h true hb) hR
  | false => exact hf hb a w (hK.bool h false hb) hR
theorem AtY.eq {X : World → Prop} {ops : Array Oper} {m : List Oper} {F : Act → World → Prop} (t : Nat) (k : IntKind) (x c : Int) (h : lk K t = some (.int k x)) (ht : (x == c) = true → AtY P N S W0 X (repK K t (.int k c)) L ops m F) (hf : (x == c) = false → AtY P N S W0 X K L ops m F) : AtY P N S W0 X K L ops m F := by
  intro a w hK hR
  cases hb : x == c with
  | true => exact ht hb a w (hK.val h _ (by rw [eq_of_beq hb])) hR
  | false => exact hf hb a w hK hR
theorem symRds_yield {ops : Array Oper} {X : World → Prop} {F : Act → Prop} (rest : List Oper) : ∀ (m : List Oper) (K : Slots) (L : Ents) (hs : Hints) (K' : Slots) (hs' : Hints) (obs : Obs) (obl : List Prop),
    symRds P N ops m K L hs = some (K', hs', obs, obl) → Same obs → AllP obl → ((∀ w, X w → Rep S W0 L w) ∨ L = []) → ∀ a, Kn N K a → (∀ a', Kn N K' a' → wpYield P ops X F rest a') → wpYield P ops X F (m ++ rest) a
  | [], K, L, hs, K', hs', obs, obl, h, _, _, _, a, hK, next => by
    simp only [symRds, Option.some.injEq, Prod.mk.injEq] at h
    obtain ⟨rfl, _⟩ := h
    exact next a hK
  | o :: r, K, L, hs, K', hs', obs, obl, h, ho, hl, hX, a, hK, next => by
    simp only [symRds] at h
    split at h
    · rename_i hg
      split at h
      · rename_i v h1 o1 l1 hop
        split at h
        · rename_i K1 hset
          split at h
          · rename_i K2 h2 o2 l2 hrest
            simp only [Option.some.injEq, Prod.mk.injEq] at h
            obtain ⟨rfl, rfl, rfl, rfl⟩ := h
            have ih := symRds_yield rest r K1 L h1 _ _ _ _ hrest ho.app.2 hl.app.2 hX _ (put_K (v := v) hK hset) next
            show wpYield P ops X F (o :: (r ++ rest)) a
            unfold wpYield
            rw [if_pos (guard_K hK hg)]
            refine ⟨v, fun w hw => ?_, ih⟩
            unfold symRd at hop
            cases hc : covers K o with
            | false => rw [hc] at hop; cases hop
            | true =>
              rw [hc] at hop
              simp only [cond_true] at hop
              rw [exec_K hK hc]
              split at hop
              · rename_i u h9 ps hx
                simp only [Option.some.injEq, Prod.mk.injEq] at hop
                obtain ⟨rfl, rfl, rfl, rfl⟩ := hop
                rcases hX with hX | hX
                · exact symX_sound hx hl.app.1 (hX w hw)
                · subst hX
                  exact symX_sound (S := []) (W0 := w) hx hl.app.1 (Rep.start w)
              · split at hop
                · rename_i nx h3 o3 l3 hr
                  split at hop
                  · rename_i u hu
                    simp only [Option.some.injEq, Prod.mk.injEq] at hop
                    obtain ⟨rfl, rfl, rfl, rfl⟩ := hop
                    have hrun : (execOp (KEt K) o).run P w = .ok nx w := by
                      rcases hX with hX | hX
                      · exact symR_sound _ _ _ _ _ _ _ hr ho.app.1 hl.app.1 w (hX w hw)
                      · subst hX; exact symR_pure _ _ _ _ _ _ hr w
                    cases nx <;> simp [valOf1] at hu
                    subst hu; exact hrun
                  · cases hop
                · cases hop
          · cases h
        · cases h
      · cases h
    · rename_i hg
      split at h
      · rename_i K1 hset
        show wpYield P ops X F (o :: (r ++ rest)) a
        unfold wpYield
        rw [if_neg (by rw [guard_K hK hg]; simp)]
        exact symRds_yield rest r K1 L hs _ _ _ _ h ho hl hX _ (put_K hK hset) next
      · cases h
    · cases h
theorem AtY.run {ops : Array Oper} {m : List Oper} {F : Act → World → Prop} (c : Nat) (hs : Hints) (keep : List Nat) (K' : Slots) (E : List Nat) (obl : List Prop)
    (h : runY P N ops (m.take c) K Ls hs keep = some (K', dup E, obl)) (hl : AllP obl) (next : AtY P N S W0 (Rep S W0 Ls) K' L ops (m.drop c) F) : AtY P N S W0 (Rep S W0 Ls) K L ops m F := by
  intro a w hK hR
  unfold runY at h
  split at h
  · rename_i K1 h1 o1 l1 hr
    split at h
    · rename_i K2 hk
      simp only [Option.some.injEq, Prod.mk.injEq] at h
      obtain ⟨rfl, rfl, rfl⟩ := h
      have := symRds_yield (X := Rep S W0 Ls) (S := S) (W0 := W0) (F := fun a' => F a' w) (m.drop c) (m.take c) K Ls hs _ _ _ _ hr (dup_same _) hl (.inl fun _ h => h) a hK (fun a' k => next a' w (k.restr hk) hR)
      rwa [List.take_append_drop] at this
    · cases h
  · cases h
theorem AtY.runp {ops : Array Oper} {m : List Oper} {F : Act → World → Prop} (c : Nat) (keep : List Nat) (K' : Slots) (obl : List Prop)
    (h : runY P N ops (m.take c) K [] [] keep = some (K', [], obl)) (hl : AllP obl) (next : AtY P N S W0 (fun _ => True) K' L ops (m.drop c) F) : AtY P N S W0 (fun _ => True) K L ops m F := by
  intro a w hK hR
  unfold runY at h
  split at h
  · rename_i K1 h1 o1 l1 hr
    split at h
    · rename_i K2 hk
      simp only [Option.some.injEq, Prod.mk.injEq] at h
      obtain ⟨rfl, rfl, rfl⟩ := h
      have := symRds_yield (X := fun _ => True) (S := S) (W0 := W0) (F := fun a' => F a' w) (m.drop c) (m.take c) K [] [] _ _ _ _ hr (by intro p hp; cases hp) hl (.inr rfl) a hK (fun a' k => next a' w (k.restr hk) hR)
      rwa [List.take_append_drop] at this
    · cases h
  · cases h
end

theorem flat_nth {α : Type} (enc : α → List Value) (d : α) (xs : List α) : (List.range xs.length).flatMap (fun i => enc (nth xs d i)) = xs.flatMap enc := by
  have : (List.range xs.length).map (fun i => nth xs d i) = xs := by
    apply List.ext_getElem
    · simp
    · intro i h1 h2
      simp [nth, h2]
  conv => rhs; rw [← this, List.flatMap_map]
/-- The call's own slice, as an entry. -/
abbrev owE {α : Type} (enc : α → List Value) (d : α) (a : Option Addr) (c : Nat) (T k : Nat) (xs : List α) : Ent := .ow a c T k xs.length (fun i => enc (nth xs d i))
theorem owE_own {α : Type} {enc : α → List Value} {d : α} {a : Option Addr} {c T k base : Nat} {xs : List α} {w : World} (h : (owE enc d a c T k xs).ok base w) : Own T k enc base w (.slice a xs.length c) xs := by
  have := h.1
  rwa [flat_nth] at this
theorem own_owE {α : Type} {enc : α → List Value} {d : α} {a : Option Addr} {c T k base : Nat} {xs : List α} {w : World} (h : Own T k enc base w (.slice a xs.length c) xs) (he : ∀ x, (enc x).length = k) : (owE enc d a c T k xs).ok base w :=
  ⟨by rw [flat_nth]; exact h, fun i => he _⟩
theorem own_slice {α : Type} {enc : α → List Value} {T k base : Nat} {xs : List α} {w : World} {v : Value} (h : Own T k enc base w v xs) : ∃ a c, v = .slice a xs.length c := by
  rcases h.2 with ⟨h1, h2⟩ | ⟨g, cap, cur, h1, _⟩
  · exact ⟨none, 0, by rw [h1, h2]⟩
  · exact ⟨_, cap, h1⟩
section
variable {P : Program} {N : Nat} {S : List Nat} {W0 : World} {K : Slots} {L : Ents} {Q : Exit → Act → World → Prop}
/-- One more entry, whose block is new or nobody's. -/
theorem Rep.add {w w' : World} (h : Rep S W0 L w) {B : List Nat} (hE : Ex B w w') (hB : ∀ e ∈ L, ∀ b, e.looks b → b ∉ B) (hB0 : ∀ b ∈ B, W0.heap.size ≤ b ∨ b ∈ S) (e : Ent) (he : e.ok W0.heap.size w')
    (hnew : ∀ b, e.looks b → (∀ f ∈ L, ¬ f.looks b) ∧ (W0.heap.size ≤ b ∨ b ∈ S)) : Rep S W0 (L ++ [e]) w' := by
  refine ⟨?_, ?_, ?_, ?_⟩
  · refine ⟨hE.os.trans h.ext.os, hE.tape.trans h.ext.tape, hE.output.trans h.ext.output, Nat.le_trans h.ext.size hE.size, fun k hk hs => ?_⟩
    have hkB : k ∉ B := fun hb => by
      rcases hB0 k hb with h1 | h1
      · omega
      · exact hs h1
    rw [hE.block k (Nat.lt_of_lt_of_le hk h.ext.size) hkB]
    exact h.ext.block k hk hs
  · intro f hf
    rcases List.mem_append.1 hf with hf | hf
    · exact Ent.ok_ex (h.ok f hf) hE (hB f hf)
    · simp only [List.mem_singleton] at hf; subst hf; exact he
  · rw [List.pairwise_append]
    refine ⟨h.sep, by simp, fun f hf g hg => ?_⟩
    simp only [List.mem_singleton] at hg; subst hg
    refine ⟨fun b hb hb2 => ?_, fun b hb hb2 => ?_⟩
    · exact (hnew b hb2).1 f hf (Ent.mut_looks hb)
    · exact (hnew b (Ent.mut_looks hb)).1 f hf hb2
  · intro f hf b hb
    rcases List.mem_append.1 hf with hf | hf
    · exact h.mine f hf b hb
    · simp only [List.mem_singleton] at hf; subst hf
      exact (hnew b (Ent.mut_looks hb)).2
theorem Rep.erase {w : World} (h : Rep S W0 L w) (i : Nat) : Rep S W0 (L.eraseIdx i) w := h.sub (List.eraseIdx_sublist _ _)
theorem Rep.other {w : World} (h : Rep S W0 L w) {i : Nat} {e : Ent} (hi : L[i]? = some e) : ∀ f ∈ L.eraseIdx i, e.sep f := by
  intro f hf
  obtain ⟨j, hj, hjf⟩ := List.mem_eraseIdx_iff_getElem?.1 hf
  exact sep_at h (Ne.symm hj) hi hjf
theorem Ends.sel {e : XT} (keep : List Nat) (idx : List Nat) (K' : Slots) (L' : Ents) (hk : restr K keep = some K') (hl : selL L idx = some L') (hn : nodupB idx = true) (h : Ends N S W0 K' L' e Q) : Ends N S W0 K L e Q := fun a w hK hR => h a w (hK.restr hk) (hR.sel hl hn)
theorem At.sel {c : Code} (keep : List Nat) (idx : List Nat) (K' : Slots) (L' : Ents) (hk : restr K keep = some K') (hl : selL L idx = some L') (hn : nodupB idx = true) (h : At P N S W0 K' L' c Q) : At P N S W0 K L c Q := fun a w hK hR => h a w (hK.restr hk) (hR.sel hl hn)
theorem AtL.sel {ops : Array Oper} {l : List Oper} (idx : List Nat) (L' : Ents) (hl : selL L idx = some L') (hn : nodupB idx = true) (h : AtL P N S W0 K L' ops l Q) : AtL P N S W0 K L ops l Q := fun a w hK hR => h a w hK (hR.sel hl hn)
theorem AtL.fit {ops : Array Oper} {l : List Oper} (keep : List Nat) (K' : Slots) (L' : Ents) (hk : restr K keep = some K') (hl : L = L') (h : AtL P N S W0 K' L' ops l Q) : AtL P N S W0 K L ops l Q := fun a w hK hR => h a w (hK.restr hk) (hl ▸ hR)
theorem AtL.fit2 {ops : Array Oper} {l : List Oper} (K' : Slots) (L' : Ents) (hk : K = K') (hl : L = L') (h : AtL P N S W0 K' L' ops l Q) : AtL P N S W0 K L ops l Q := hk ▸ hl ▸ h
/-- A region by a tree of orders. -/
def AtT (P : Program) (N : Nat) (S : List Nat) (W0 : World) (l : List Oper) (Ls : Ents) (K : Slots) (L : Ents) (t : Tree) (Q : Exit → Act → World → Prop) : Prop :=
  ∀ a w, Kn N K a → Rep S W0 L w → wpTree P l (Rep S W0 Ls) Q t a w
theorem At.tree {id : Nat} {ops : Array Oper} (Ls : Ents) (idx : List Nat) (hl : selL L idx = some Ls) (hn : nodupB idx = true) (t : Tree) (hm : P.follows .mixedOrders = true)
    (hB : (Region.noSelect ops && treeOk .any ops t (Array.replicate ops.size false) && (t.len == ops.size)) = true)
    (h : AtT P N S W0 ops.toList Ls K L t Q) : At P N S W0 K L (.region id ops true) Q := by
  intro a w hK hR
  have := region_tree (P := P) (l := ops.toList) (id := id) (a := a) (Q := Q) (w := w) (Rep S W0 Ls) t hm (by simpa using hB) (hR.sel hl hn).drew (h a w.drew hK hR.drew)
  simpa using this
theorem AtT.done {l : List Oper} {Ls : Ents} (h : Ends N S W0 K L .normal Q) : AtT P N S W0 l Ls K L .done Q := fun a w hK hR => h a w hK hR
theorem AtT.st {l : List Oper} {Ls : Ents} {is : List Nat} {t : Tree} (h : AtY P N S W0 (Rep S W0 Ls) K L l.toArray (pick l is) (wpTree P l (Rep S W0 Ls) Q t)) : AtT P N S W0 l Ls K L (.st is t) Q := fun a w hK hR => h a w hK hR
theorem AtT.pu {l : List Oper} {Ls : Ents} {is : List Nat} {t : Tree} (h : AtY P N S W0 (fun _ => True) K L l.toArray (pick l is) (wpTree P l (Rep S W0 Ls) Q t)) : AtT P N S W0 l Ls K L (.pu is t) Q := fun a w hK hR => h a w hK hR
theorem AtT.mv {l : List Oper} {Ls : Ents} {i : Nat} {t : Tree} (h : AtL P N S W0 K L l.toArray (pick l [i]) (fun e a' w' => e = .normal ∧ Rep S W0 Ls w' ∧ wpTree P l (Rep S W0 Ls) Q t a' w')) : AtT P N S W0 l Ls K L (.mv i t) Q := fun a w hK hR => h a w hK hR
theorem AtT.fork {l : List Oper} {Ls : Ents} {i j : Nat} {s t : Tree} (h1 : AtT P N S W0 l Ls K L (.mv i s) Q) (h2 : AtT P N S W0 l Ls K L (.mv j t) Q) : AtT P N S W0 l Ls K L (.fork i s j t) Q := fun a w hK hR => ⟨h1 a w hK hR, h2 a w hK hR⟩
theorem Ends.mvt {l : List Oper} {Ls : Ents} {t : Tree} (idx : List Nat) (hl : selL L idx = some Ls) (hn : nodupB idx = true) (h : AtT P N S W0 l Ls K L t Q) : Ends N S W0 K L .normal (fun e a' w' => e = .normal ∧ Rep S W0 Ls w' ∧ wpTree P l (Rep S W0 Ls) Q t a' w') := fun a w hK hR =>
  ⟨rfl, hR.sel hl hn, h a w hK hR⟩
theorem AtY.nilt {l : List Oper} {Ls : Ents} {X : World → Prop} {ops : Array Oper} {m : List Oper} {t : Tree} (hm : m = []) (h : AtT P N S W0 l Ls K L t Q) : AtY P N S W0 X K L ops m (wpTree P l (Rep S W0 Ls) Q t) := by
  subst hm; exact fun a w hK hR => h a w hK hR
/-- A nil slice is the call's own. -/
theorem Rep.addNil {w : World} (h : Rep S W0 L w) {α : Type} (enc : α → List Value) (d : α) (T k : Nat) (he : ∀ x, (enc x).length = k) : Rep S W0 (L ++ [owE enc d none 0 T k []]) w :=
  h.add (B := []) (Ex.refl _ _) (by simp) (by simp) _ (own_owE (Own.nil w) he) (fun b hb => by simp [Ent.looks] at hb)
/-- A row that a literal made is the call's own. -/
theorem Rep.addRow {w : World} (h : Rep S W0 L w) {i b T : Nat} {cs : List Value} (hi : L[i]? = some (.blk b cs T)) {α : Type} (enc : α → List Value) (d : α) (k : Nat) (xs : List α) (he : ∀ x, (enc x).length = k) (hx : cs = xs.flatMap enc) (hn : xs.length ≤ 1000000) (hS : b ∉ S) :
    Rep S W0 (L.eraseIdx i ++ [owE enc d (some ⟨b, 0, none⟩) xs.length T k xs]) w := by
  have hok : w.heap[b]? = some (.cells cs.toArray T (0, 0)) := h.ok _ (List.mem_of_getElem? hi)
  have hsep := h.other hi
  have hlen : ∀ zs : List α, (zs.flatMap enc).length = zs.length * k := by
    intro zs
    induction zs with
    | nil => simp
    | cons z zs ih => simp only [List.flatMap_cons, List.length_append, ih, he, List.length_cons, Nat.add_mul]; omega
  have hmine := h.mine _ (List.mem_of_getElem? hi) b rfl
  have hb : W0.heap.size ≤ b := hmine.resolve_right hS
  refine (h.erase i).add (B := []) (Ex.refl _ _) (by simp) (by simp) _ (own_owE ⟨hlen xs, .inr ⟨b, xs.length, cs.toArray, rfl, hb, hok, Nat.le_refl _, by unfold maxLen; omega, by rw [hx]; simpa using hlen xs, by rw [hx, List.take_of_length_le (by rw [hlen xs]; exact Nat.le_refl _)]⟩⟩ he) (fun b' hb' => ?_)
  simp only [Ent.looks, Option.map_some, Option.some.injEq] at hb'
  subst hb'
  exact ⟨fun f hf hfb => (hsep f hf).1 b rfl hfb, .inl hb⟩
theorem Ends.addNil {e : XT} {α : Type} (enc : α → List Value) (d : α) (T k : Nat) (he : ∀ x, (enc x).length = k) (h : Ends N S W0 K (L ++ [owE enc d none 0 T k []]) e Q) : Ends N S W0 K L e Q := fun a w hK hR => h a w hK (hR.addNil enc d T k he)
theorem At.addNil {c : Code} {α : Type} (enc : α → List Value) (d : α) (T k : Nat) (he : ∀ x, (enc x).length = k) (h : At P N S W0 K (L ++ [owE enc d none 0 T k []]) c Q) : At P N S W0 K L c Q := fun a w hK hR => h a w hK (hR.addNil enc d T k he)
theorem AtL.addNil {ops : Array Oper} {l : List Oper} {α : Type} (enc : α → List Value) (d : α) (T k : Nat) (he : ∀ x, (enc x).length = k) (h : AtL P N S W0 K (L ++ [owE enc d none 0 T k []]) ops l Q) : AtL P N S W0 K L ops l Q := fun a w hK hR => h a w hK (hR.addNil enc d T k he)
theorem Ends.addRow {e : XT} {α : Type} (i b T : Nat) (cs : List Value) (hi : L[i]? = some (.blk b cs T)) (enc : α → List Value) (d : α) (k : Nat) (xs : List α) (he : ∀ x, (enc x).length = k) (hx : cs = xs.flatMap enc) (hn : xs.length ≤ 1000000) (hS : b ∉ S) (h : Ends N S W0 K (L.eraseIdx i ++ [owE enc d (some ⟨b, 0, none⟩) xs.length T k xs]) e Q) : Ends N S W0 K L e Q := fun a w hK hR => h a w hK (hR.addRow hi enc d k xs he hx hn hS)
theorem At.addRow {c : Code} {α : Type} (i b T : Nat) (cs : List Value) (hi : L[i]? = some (.blk b cs T)) (enc : α → List Value) (d : α) (k : Nat) (xs : List α) (he : ∀ x, (enc x).length = k) (hx : cs = xs.flatMap enc) (hn : xs.length ≤ 1000000) (hS : b ∉ S) (h : At P N S W0 K (L.eraseIdx i ++ [owE enc d (some ⟨b, 0, none⟩) xs.length T k xs]) c Q) : At P N S W0 K L c Q := fun a w hK hR => h a w hK (hR.addRow hi enc d k xs he hx hn hS)
theorem AtL.addRow {ops : Array Oper} {l : List Oper} {α : Type} (i b T : Nat) (cs : List Value) (hi : L[i]? = some (.blk b cs T)) (enc : α → List Value) (d : α) (k : Nat) (xs : List α) (he : ∀ x, (enc x).length = k) (hx : cs = xs.flatMap enc) (hn : xs.length ≤ 1000000) (hS : b ∉ S) (h : AtL P N S W0 K (L.eraseIdx i ++ [owE enc d (some ⟨b, 0, none⟩) xs.length T k xs]) ops l Q) : AtL P N S W0 K L ops l Q := fun a w hK hR => h a w hK (hR.addRow hi enc d k xs he hx hn hS)
/-- The elements that a call of append adds. -/
structure Adds {α : Type} (S : List Nat) (W0 : World) (L : Ents) (k : Nat) (enc : α → List Value) (ad : Option Addr) (c : Nat) (ys : List α) : Prop where
  sl : ∀ w, Rep S W0 L w → Sl k enc w ad c ys
theorem Adds.row {α : Type} {k : Nat} {enc : α → List Value} {i b T : Nat} {cs : List Value} (y : α) (hi : L[i]? = some (.blk b cs T)) (hc : cs = enc y) : Adds S W0 L k enc (some ⟨b, 0, none⟩) 1 [y] :=
  ⟨fun w h => ⟨by simp, by omega, fun _ => ⟨b, 0, rfl, Ent.lt (e := .blk b cs T) (h.ok _ (List.mem_of_getElem? hi)) rfl, fun j hj l v hv => by
    have h0 : j = 0 := by simp at hj; omega
    subst h0
    have hok : w.heap[b]? = some (.cells cs.toArray T (0, 0)) := h.ok _ (List.mem_of_getElem? hi)
    simp only [Nat.zero_mul, Nat.zero_add]
    exact blk_cell hok l (by rw [hc]; simpa using hv)⟩⟩⟩
theorem Adds.sl_ {α : Type} {k : Nat} {enc : α → List Value} {i : Nat} {a : Option Addr} {c : Nat} {d : α} {ys : List α} (hi : L[i]? = some (.sl a k ys.length (fun i => enc (nth ys d i)))) (hle : ys.length ≤ c) (hb : c ≤ 9223372036854775807) : Adds S W0 L k enc a c ys :=
  ⟨fun _ h => h.toSl i hi hle hb⟩
theorem Adds.ow {α : Type} {k : Nat} {enc : α → List Value} {i : Nat} {a : Option Addr} {c T : Nat} {d : α} {ys : List α} (hi : L[i]? = some (owE enc d a c T k ys)) (he : ∀ x, (enc x).length = k) : Adds S W0 L k enc a c ys :=
  ⟨fun w h => by
    obtain ⟨a', c', h1, h2, _⟩ := (owE_own (h.ok _ (List.mem_of_getElem? hi))).sl he
    simp only [Value.slice.injEq] at h1
    obtain ⟨rfl, _, rfl⟩ := h1
    exact h2⟩
theorem Adds.nil {α : Type} {k : Nat} {enc : α → List Value} : Adds S W0 L k enc none 0 ([] : List α) := ⟨fun _ _ => Sl.nil _ _ _⟩
/-- The operation at the head is append of these two. -/
def appK (N : Nat) (ops : Array Oper) (K : Slots) (l : List Oper) : Option (TypeId × Value × Value × Option Tmp) :=
  match l with
  | [] => none
  | o :: _ => match o.guard, o.op with
    | none, .call ⟨.builtin .append, ⟨[s, x]⟩, ⟨[t, t']⟩⟩ => match KE K s, KE K x with
      | some v, some u => bif Nat.beq t t' && (match o.dst with | some d => Nat.ble (d + 1) N | none => true) then some (t, v, u, o.dst) else none
      | _, _ => none
    | _, _ => none
theorem AtL.append {ops : Array Oper} {l : List Oper} {α : Type} {enc : α → List Value} (dd : α) {t T k bytes : Nat} (he : EI P t T k bytes) (hf : ∀ x : α, (enc x).length = k) (h1 : ∀ (x : α), ∀ u ∈ enc x, u.oneCell' = true) (hbytes : 1000000 * bytes ≤ 140737488355328) (d : Option Tmp)
    (i : Nat) (a : Option Addr) (c : Nat) (xs : List α) (hi : L[i]? = some (owE enc dd a c T k xs)) (ad : Option Addr) (m cd : Nat) (ys : List α) (hm : m = ys.length) (h : appK N ops K l = some (t, .slice a xs.length c, .slice ad m cd, d))
    (hys : Adds S W0 L k enc ad cd ys) (hlen : xs.length + ys.length ≤ 1000000)
    (next : ∀ a' c' K', setD N K d (.slice a' (xs ++ ys).length c') = some K' → AtL P N S W0 K' (L.eraseIdx i ++ [owE enc dd a' c' T k (xs ++ ys)]) ops l.tail Q) : AtL P N S W0 K L ops l Q := by
  intro act w hK hR
  subst hm
  match l, h with
  | o :: r, h =>
    simp only [appK] at h
    split at h
    · rename_i s x t1 t2 hg hop
      split at h
      · rename_i v u hv hu
        cases hb : (Nat.beq t1 t2 && (match o.dst with | some d => Nat.ble (d + 1) N | none => true)) with
        | false => rw [hb] at h; cases h
        | true =>
          rw [hb] at h
          simp only [cond_true, Option.some.injEq, Prod.mk.injEq] at h
          obtain ⟨rfl, rfl, rfl, rfl⟩ := h
          simp only [Bool.and_eq_true] at hb
          have ht := Nat.eq_of_beq_eq_true hb.1
          subst ht
          have e1 : act.eval s = .slice a xs.length c := by rw [KE_eval hK (by rw [hv]; rfl), KEt, hv]; rfl
          have e2 : act.eval x = .slice ad ys.length cd := by rw [KE_eval hK (by rw [hu]; rfl), KEt, hu]; rfl
          have hown := owE_own (hR.ok _ (List.mem_of_getElem? hi))
          have hsep := hR.other hi
          refine wpList_appendAny (base := W0.heap.size) he hf h1 hg s x hop _ xs e1 hown ad cd ys e2 (hys.sl w hR) (by have := Nat.mul_le_mul_right bytes hlen; omega) (by omega) hR.ext.size ?_
          intro v' w' hO hE hb2 _
          obtain ⟨a', c', rfl⟩ := own_slice hO
          have hK' : ∃ K', setD N K o.dst (.slice a' (xs ++ ys).length c') = some K' := by
            cases hd : o.dst with
            | none => exact ⟨K, rfl⟩
            | some d => rw [hd] at hb; simp only [setD, hb.2]; exact ⟨_, rfl⟩
          obtain ⟨K', hK'⟩ := hK'
          refine next a' c' K' hK' _ w' (put_K hK hK') ?_
          refine (hR.erase i).add hE ?_ ?_ _ (own_owE hO hf) ?_
          · intro f hf' b hb' hbm
            rw [Option.mem_toList] at hbm
            have hmut : (owE enc dd a c T k xs).mut = some b := by
              simp only [Ent.mut]
              cases a with
              | none => simp [Value.ownBlock] at hbm
              | some a => simp only [Value.ownBlock, Option.mem_def, Option.some.injEq] at hbm; simp [hbm]
            exact (hsep f hf').1 b hmut hb'
          · intro b hbm
            rw [Option.mem_toList] at hbm
            exact .inl (hown.base_le hbm)
          · intro b hb'
            have hbo : (Value.slice a' (xs ++ ys).length c').ownBlock = some b := by
              simp only [Ent.looks] at hb'
              cases a' with
              | none => simp at hb'
              | some a' => simpa [Value.ownBlock] using hb'
            refine ⟨fun f hf' hfb => ?_, .inl (hO.base_le hbo)⟩
            rcases hb2 b hbo with h3 | h3
            · have hmut : (owE enc dd a c T k xs).mut = some b := by
                simp only [Ent.mut]
                cases a with
                | none => simp [Value.ownBlock] at h3
                | some a => simp only [Value.ownBlock, Option.some.injEq] at h3; simp [h3]
              exact (hsep f hf').1 b hmut hfb
            · have := Ent.lt ((hR.erase i).ok f hf') hfb
              omega
      · cases h
    · cases h
/-- make([]T, n) or make([]T, 0, n). -/
def mkK (N : Nat) (ops : Array Oper) (K : Slots) (l : List Oper) : Option (TypeId × Value × Value × Option Tmp) :=
  match l with
  | [] => none
  | o :: _ => match o.guard, o.op with
    | none, .makeSlice t n c => match KE K n, KE K c with
      | some v, some u => bif (match o.dst with | some d => Nat.ble (d + 1) N | none => true) then some (t, v, u, o.dst) else none
      | _, _ => none
    | _, _ => none
theorem AtL.make {ops : Array Oper} {l : List Oper} {α : Type} {enc : α → List Value} (dd : α) {t T bytes : Nat} (he : EI P t T 1 bytes) (u : Value) (hz : (P.info? T).bind (fun i => i.zero) = some u) (hu : u.cells = #[u]) (y : α) (hy : enc y = [u]) (hf : ∀ x : α, (enc x).length = 1) (hbytes : 1000000 * bytes ≤ 140737488355328) (d : Option Tmp)
    (x : Int) (h : mkK N ops K l = some (t, .int .i64 x, .int .i64 x, d)) (hx : (decide (0 ≤ x) && decide (x ≤ 1000000)) = true)
    (next : ∀ a' c' K', setD N K d (.slice a' (List.replicate x.toNat y).length c') = some K' → AtL P N S W0 K' (L ++ [owE enc dd a' c' T 1 (List.replicate x.toNat y)]) ops l.tail Q) : AtL P N S W0 K L ops l Q := by
  intro act w hK hR
  simp only [Bool.and_eq_true, decide_eq_true_eq] at hx
  match l, h with
  | o :: r, h =>
    simp only [mkK] at h
    split at h
    · rename_i t1 n c hg hop
      split at h
      · rename_i v v2 hv hv2
        cases hb : (match o.dst with | some d => Nat.ble (d + 1) N | none => true) with
        | false => rw [hb] at h; cases h
        | true =>
          rw [hb] at h
          simp only [cond_true, Option.some.injEq, Prod.mk.injEq] at h
          obtain ⟨rfl, rfl, rfl, rfl⟩ := h
          have hxn : ((x.toNat : Nat) : Int) = x := by omega
          have e1 : act.eval n = .int .i64 (x.toNat : Nat) := by rw [KE_eval hK (by rw [hv]; rfl), KEt, hv, hxn]; rfl
          have e2 : act.eval c = .int .i64 (x.toNat : Nat) := by rw [KE_eval hK (by rw [hv2]; rfl), KEt, hv2, hxn]; rfl
          refine wpList_make1 (f := enc) (base := W0.heap.size) he u hz hu y hy hg n c hop x.toNat e1 e2 (by have := Nat.mul_le_mul_left bytes (show x.toNat ≤ 1000000 by omega); omega) (by omega) hR.ext.size ?_
          intro w' hO hE hlt
          have hK' : ∃ K', setD N K o.dst (.slice (some ⟨w.heap.size, 0, none⟩) (List.replicate x.toNat y).length x.toNat) = some K' := by
            cases hd : o.dst with
            | none => exact ⟨K, rfl⟩
            | some d => rw [hd] at hb; simp only [setD, hb]; exact ⟨_, rfl⟩
          obtain ⟨K', hK'⟩ := hK'
          refine next _ _ K' hK' _ w' (put_K hK hK') ?_
          refine hR.add hE (by simp) (by simp) _ (own_owE hO hf) (fun b hb' => ?_)
          simp only [Ent.looks, Option.map_some, Option.some.injEq] at hb'
          subst hb'
          exact ⟨fun f hf' hfb => (by have := Ent.lt (hR.ok f hf') hfb; omega), .inl hR.ext.size⟩
      · cases h
    · cases h
theorem flat_set {α : Type} {enc : α → List Value} {k : Nat} (he : ∀ x : α, (enc x).length = k) {j : Nat} (hj : j < k) {u : Value} {y : α} : ∀ (zs : List α) (i : Nat) (hi : i < zs.length), enc y = (enc zs[i]).set j u → (zs.set i y).flatMap enc = (zs.flatMap enc).set (i * k + j) u
  | [], i, hi, _ => by simp at hi
  | z :: zs, 0, _, h => by
    simp only [List.getElem_cons_zero] at h
    simp only [List.set_cons_zero, List.flatMap_cons, Nat.zero_mul, Nat.zero_add, h]
    rw [List.set_append_left _ _ (by rw [he]; exact hj)]
  | z :: zs, i + 1, hi, h => by
    have ih := flat_set he hj zs i (by simpa using hi) (by simpa using h)
    simp only [List.set_cons_succ, List.flatMap_cons, ih]
    rw [List.set_append_right _ _ (by rw [he, Nat.add_mul]; omega), he, show (i + 1) * k + j - k = i * k + j by rw [Nat.add_mul]; omega]
theorem Own.setAt {α : Type} {enc : α → List Value} {T k base : Nat} {w : World} {a : Option Addr} {c : Nat} {xs : List α} (h : Own T k enc base w (.slice a xs.length c) xs) (he : ∀ x : α, (enc x).length = k) {i : Nat} (hi : i < xs.length) {j : Nat} (hj : j < k) {y : α} {u : Value} (hy : enc y = (enc xs[i]).set j u) :
    a = some ⟨slB a, slO a, none⟩ ∧ slO a = 0 ∧ (∃ v, w.cell? ⟨slB a, i * k + j, none⟩ = some v) ∧ w.frozen? ⟨slB a, i * k + j, none⟩ = false ∧ Own T k enc base (w.setCell ⟨slB a, i * k + j, none⟩ u) (.slice a (xs.set i y).length c) (xs.set i y) := by
  obtain ⟨h1, h2⟩ := h
  rcases h2 with ⟨_, h0⟩ | ⟨g, cap, cur, hv, hb, hg, hn, hc, hs, ht⟩
  · omega
  · simp only [Value.slice.injEq] at hv
    obtain ⟨rfl, _, rfl⟩ := hv
    have hlt : i * k + j < cur.size := by
      rw [hs]
      have : (i + 1) * k ≤ c * k := Nat.mul_le_mul_right k (by omega)
      rw [Nat.add_mul] at this; omega
    refine ⟨rfl, rfl, ⟨cur[i * k + j], blk_cell hg _ (by simp [hlt])⟩, blk_free hg _, ?_⟩
    refine ⟨by rw [flat_set he hj xs i hi hy]; simp [h1], .inr ⟨g, c, _, by simp, hb, blk_set hg _ u, by simpa using hn, hc, by simpa using hs, ?_⟩⟩
    rw [flat_set he hj xs i hi hy, ← ht]
    simp only [List.length_set, Array.toList_setIfInBounds]
    rw [List.take_set]
theorem Rep.setOw {w : World} (h : Rep S W0 L w) {e : Nat} {α : Type} {enc : α → List Value} {d : α} {a : Option Addr} {c T k : Nat} {xs : List α} (he : L[e]? = some (owE enc d a c T k xs)) (hl : ∀ x, (enc x).length = k) {i : Nat} (hi : i < xs.length) {j : Nat} (hj : j < k) {y : α} {u : Value} (hy : enc y = (enc (nth xs d i)).set j u) :
    (∃ v, w.cell? ⟨slB a, slO a + i * k + j, none⟩ = some v) ∧ w.frozen? ⟨slB a, slO a + i * k + j, none⟩ = false ∧ Rep S W0 (L.set e (owE enc d a c T k (xs.set i y))) (w.setCell ⟨slB a, slO a + i * k + j, none⟩ u) := by
  obtain ⟨hlt, hget⟩ := List.getElem?_eq_some_iff.1 he
  have hmem := List.mem_of_getElem? he
  rw [← nth_eq xs d i hi] at hy
  obtain ⟨ha, ho, hc, hf, hO⟩ := (owE_own (h.ok _ hmem)).setAt hl hi hj hy
  rw [show slO a + i * k + j = i * k + j by omega]
  have hmut : (owE enc d a c T k xs).mut = some (slB a) := by simp only [Ent.mut]; rw [ha]; rfl
  refine ⟨hc, hf, ⟨h.ext.setCell ?_ u, ?_, ?_, ?_⟩⟩
  · rcases h.mine _ hmem _ hmut with h1 | h1
    · exact .inr h1
    · exact .inl h1
  · intro f hf'
    obtain ⟨m, hm, hfm⟩ := List.mem_iff_getElem.1 hf'
    rw [List.getElem_set] at hfm
    split at hfm
    · subst hfm
      exact own_owE hO hl
    · rename_i hne
      have hm' : m < L.length := by simpa using hm
      have hin : L[m]? = some f := by rw [List.getElem?_eq_getElem hm', hfm]
      refine Ent.ok_ex (h.ok f (List.mem_of_getElem? hin)) (S := [slB a]) ((Ex.refl _ _).setCell (.inl (by simp)) u) ?_
      intro b hb hbb
      simp only [List.mem_singleton] at hbb
      subst hbb
      exact (sep_at h (fun e' => hne e') he hin).1 _ hmut hb
  · rw [List.pairwise_iff_getElem]
    have hp := List.pairwise_iff_getElem.1 h.sep
    have same : ∀ g : Ent, ((owE enc d a c T k xs).sep g → (owE enc d a c T k (xs.set i y)).sep g) ∧ (g.sep (owE enc d a c T k xs) → g.sep (owE enc d a c T k (xs.set i y))) := fun g => ⟨fun h => h, fun h => h⟩
    intro m m' hm hm' hlt2
    simp only [List.length_set] at hm hm'
    have hp' := hp m m' hm hm' hlt2
    rw [List.getElem_set, List.getElem_set]
    split <;> split
    · omega
    · rename_i h1 h2
      subst h1
      rw [hget] at hp'
      exact (same _).1 hp'
    · rename_i h1 h2
      subst h2
      rw [hget] at hp'
      exact (same _).2 hp'
    · exact hp'
  · intro f hf' b hb
    obtain ⟨m, hm, hfm⟩ := List.mem_iff_getElem.1 hf'
    rw [List.getElem_set] at hfm
    split at hfm
    · subst hfm
      exact h.mine _ hmem b hb
    · have hm' : m < L.length := by simpa using hm
      exact h.mine f (by rw [← hfm]; exact List.getElem_mem hm') b hb
/-- One cell is stored. -/
def oneStore (P : Program) {α : Type} : Sem α → Option (Addr × Value × α)
  | .program k => oneStore P (k P)
  | .store _ a v (.pure x) => some (a, v, x)
  | _ => none
theorem oneStore_run {P : Program} {α : Type} : ∀ (s : Sem α) (a : Addr) (v : Value) (x : α), oneStore P s = some (a, v, x) → one v = true → ∀ w, (∃ u, w.cell? a = some u) → w.frozen? a = false → s.run P w = .ok x (w.setCell a v)
  | .program k, a, v, x, h, ho, w, hc, hf => oneStore_run (k P) a v x (by simpa [oneStore] using h) ho w hc hf
  | .store m a' v' (.pure x'), a, v, x, h, ho, w, hc, hf => by
    simp only [oneStore, Option.some.injEq, Prod.mk.injEq] at h
    obtain ⟨rfl, rfl, rfl⟩ := h
    obtain ⟨u, hu⟩ := hc
    cases v' with
    | agg c => simp [one] at ho
    | tuple c => simp [one] at ho
    | _ => simp [Sem.run, hu, hf]
  | .store m a' v' (.load ..), a, v, x, h, ho, w, hc, hf => by simp [oneStore] at h
  | .store m a' v' (.store ..), a, v, x, h, ho, w, hc, hf => by simp [oneStore] at h
  | .store m a' v' (.new ..), a, v, x, h, ho, w, hc, hf => by simp [oneStore] at h
  | .store m a' v' (.shape ..), a, v, x, h, ho, w, hc, hf => by simp [oneStore] at h
  | .store m a' v' (.freeze ..), a, v, x, h, ho, w, hc, hf => by simp [oneStore] at h
  | .store m a' v' (.frozen ..), a, v, x, h, ho, w, hc, hf => by simp [oneStore] at h
  | .store m a' v' (.getObj ..), a, v, x, h, ho, w, hc, hf => by simp [oneStore] at h
  | .store m a' v' (.setObj ..), a, v, x, h, ho, w, hc, hf => by simp [oneStore] at h
  | .store m a' v' (.choose ..), a, v, x, h, ho, w, hc, hf => by simp [oneStore] at h
  | .store m a' v' (.sys ..), a, v, x, h, ho, w, hc, hf => by simp [oneStore] at h
  | .store m a' v' (.program ..), a, v, x, h, ho, w, hc, hf => by simp [oneStore] at h
  | .store m a' v' (.mark ..), a, v, x, h, ho, w, hc, hf => by simp [oneStore] at h
  | .store m a' v' (.halt ..), a, v, x, h, ho, w, hc, hf => by simp [oneStore] at h
  | .pure .., a, v, x, h, ho, w, hc, hf => by simp [oneStore] at h
  | .load .., a, v, x, h, ho, w, hc, hf => by simp [oneStore] at h
  | .new .., a, v, x, h, ho, w, hc, hf => by simp [oneStore] at h
  | .shape .., a, v, x, h, ho, w, hc, hf => by simp [oneStore] at h
  | .freeze .., a, v, x, h, ho, w, hc, hf => by simp [oneStore] at h
  | .frozen .., a, v, x, h, ho, w, hc, hf => by simp [oneStore] at h
  | .getObj .., a, v, x, h, ho, w, hc, hf => by simp [oneStore] at h
  | .setObj .., a, v, x, h, ho, w, hc, hf => by simp [oneStore] at h
  | .choose .., a, v, x, h, ho, w, hc, hf => by simp [oneStore] at h
  | .sys .., a, v, x, h, ho, w, hc, hf => by simp [oneStore] at h
  | .mark .., a, v, x, h, ho, w, hc, hf => by simp [oneStore] at h
  | .halt .., a, v, x, h, ho, w, hc, hf => by simp [oneStore] at h
def storeK (P : Program) (ops : Array Oper) (K : Slots) (l : List Oper) : Option (Addr × Value) :=
  match l with
  | [] => none
  | o :: _ => match guardK ops K o, o.dst with
    | some true, none => bif covers K o then match oneStore P (execOp (KEt K) o) with
        | some (a, v, .skip) => bif one v then some (a, v) else none
        | _ => none
      else none
    | _, _ => none
theorem AtL.storeOw {ops : Array Oper} {l : List Oper} (e : Nat) {α : Type} {enc : α → List Value} (d : α) (a : Option Addr) (c T k : Nat) (xs : List α) (he : L[e]? = some (owE enc d a c T k xs)) (hl : ∀ x, (enc x).length = k) (i : Nat) (hi : i < xs.length) (j : Nat) (hj : j < k) (y : α) (u : Value) (hy : enc y = (enc (nth xs d i)).set j u)
    (ad : Addr) (h : storeK P ops K l = some (ad, u)) (had : ad = ⟨slB a, slO a + i * k + j, none⟩) (next : AtL P N S W0 K (L.set e (owE enc d a c T k (xs.set i y))) ops l.tail Q) : AtL P N S W0 K L ops l Q := by
  intro act w hK hR
  subst had
  match l, h with
  | o :: r, h =>
    simp only [storeK] at h
    split at h
    · rename_i hg hd
      cases hcv : covers K o with
      | false => rw [hcv] at h; cases h
      | true =>
        rw [hcv] at h
        simp only [cond_true] at h
        split at h
        · rename_i a' v' hs
          cases hon : one v' with
          | false => rw [hon] at h; cases h
          | true =>
            rw [hon] at h
            simp only [cond_true, Option.some.injEq, Prod.mk.injEq] at h
            obtain ⟨rfl, rfl⟩ := h
            obtain ⟨hc, hf, hR'⟩ := hR.setOw he hl hi hj hy
            have hrun := oneStore_run _ _ _ _ hs hon w hc hf
            unfold wpList
            rw [if_pos (guard_K hK hg)]
            refine .inl ?_
            unfold Oper.wp
            rw [exec_K hK hcv, hrun]
            have : act.put o.dst undef = act := by rw [hd]; rfl
            show wpList P ops Q r (act.put o.dst undef) _
            rw [this]
            exact next act _ hK hR'
        · cases h
    · cases h
/-- What a call hands back: a slice of its own. -/
theorem Rep.addOwn {w w' : World} (h : Rep S W0 L w) (hE : Ext w w') {α : Type} {enc : α → List Value} (d : α) {a : Option Addr} {c T k : Nat} {xs : List α} (hO : Own T k enc w.heap.size w' (.slice a xs.length c) xs) (he : ∀ x, (enc x).length = k) : Rep S W0 (L ++ [owE enc d a c T k xs]) w' := by
  refine h.add hE (by simp) (by simp) _ (own_owE (hO.mono h.ext.size) he) (fun b hb => ?_)
  have hbo : (Value.slice a xs.length c).ownBlock = some b := by
    simp only [Ent.looks] at hb
    cases a with
    | none => simp at hb
    | some a => simpa [Value.ownBlock] using hb
  have hle := hO.base_le hbo
  exact ⟨fun f hf hfb => (by have := Ent.lt (h.ok f hf) hfb; omega), .inl (Nat.le_trans h.ext.size hle)⟩
theorem Rep.toOwn {w : World} (h : Rep S W0 L w) (i : Nat) {α : Type} {enc : α → List Value} {d : α} {a : Option Addr} {c T k : Nat} {xs : List α} (hi : L[i]? = some (owE enc d a c T k xs)) : Own T k enc W0.heap.size w (.slice a xs.length c) xs := owE_own (h.ok _ (List.mem_of_getElem? hi))
theorem Rep.owSl {w : World} (h : Rep S W0 L w) (i : Nat) {α : Type} {enc : α → List Value} {d : α} {a : Option Addr} {c T k : Nat} {xs : List α} (hi : L[i]? = some (owE enc d a c T k xs)) (he : ∀ x, (enc x).length = k) : Sl k enc w a c xs := (Adds.ow hi he).sl w h
end
theorem Ent.ok_base {e : Ent} {b b' : Nat} {w : World} (h : e.ok b w) (hb : b' ≤ b) : e.ok b' w := by
  cases e with
  | blk _ _ _ => exact h
  | sl _ _ _ _ => exact h
  | rws _ _ _ _ _ _ => exact h
  | ow a c T k n f =>
    obtain ⟨⟨h1, h2⟩, h3⟩ := h
    refine ⟨⟨h1, ?_⟩, h3⟩
    rcases h2 with h2 | ⟨g, cap, cur, h2, hg, r⟩
    · exact .inl h2
    · exact .inr ⟨g, cap, cur, h2, Nat.le_trans hb hg, r⟩
/-- A block that is written no more. -/
theorem Rep.freeze {S : List Nat} {W0 : World} {L : Ents} {w : World} (h : Rep S W0 L w) {i b T : Nat} {cs : List Value} (hi : L[i]? = some (.blk b cs T)) : Rep S W0 (L.set i (.sl (some ⟨b, 0, none⟩) cs.length 1 (fun _ => cs))) w := by
  obtain ⟨hlt, hget⟩ := List.getElem?_eq_some_iff.1 hi
  have hmem := List.mem_of_getElem? hi
  have hok : w.heap[b]? = some (.cells cs.toArray T (0, 0)) := h.ok _ hmem
  have hl : ∀ x, (Ent.sl (some ⟨b, 0, none⟩) cs.length 1 (fun _ => cs)).looks x → x = b := fun x hx => (Option.some.inj hx.2).symm
  refine ⟨h.ext, ?_, ?_, ?_⟩
  · intro f hf
    obtain ⟨m, hm, hfm⟩ := List.mem_iff_getElem.1 hf
    rw [List.getElem_set] at hfm
    split at hfm
    · subst hfm
      intro _
      refine ⟨rfl, lt_of_block hok, fun j hj l v hv => ?_⟩
      have : j = 0 := by omega
      subst this
      simp only [slB, slO, Nat.zero_mul, Nat.zero_add]
      exact blk_cell hok l (by simpa using hv)
    · have hm' : m < L.length := by simpa using hm
      exact h.ok f (by rw [← hfm]; exact List.getElem_mem hm')
  · rw [List.pairwise_iff_getElem]
    have hp := List.pairwise_iff_getElem.1 h.sep
    intro m m' hm hm' hlt2
    simp only [List.length_set] at hm hm'
    have hp' := hp m m' hm hm' hlt2
    rw [List.getElem_set, List.getElem_set]
    split <;> split
    · omega
    · rename_i h1 h2
      subst h1
      rw [hget] at hp'
      exact ⟨fun c hc => (by cases hc), fun c hc hc2 => hp'.2 c hc (hl c hc2)⟩
    · rename_i h1 h2
      subst h2
      rw [hget] at hp'
      exact ⟨fun c hc hc2 => hp'.1 c hc (hl c hc2), fun c hc => (by cases hc)⟩
    · exact hp'
  · intro f hf c hc
    obtain ⟨m, hm, hfm⟩ := List.mem_iff_getElem.1 hf
    rw [List.getElem_set] at hfm
    split at hfm
    · subst hfm; cases hc
    · have hm' : m < L.length := by simpa using hm
      exact h.mine f (by rw [← hfm]; exact List.getElem_mem hm') c hc
theorem AtL.freeze {P : Program} {N : Nat} {S : List Nat} {W0 : World} {K : Slots} {L : Ents} {Q : Exit → Act → World → Prop} {ops : Array Oper} {l : List Oper} (i b T : Nat) (cs : List Value) (hi : L[i]? = some (.blk b cs T)) (h : AtL P N S W0 K (L.set i (.sl (some ⟨b, 0, none⟩) cs.length 1 (fun _ => cs))) ops l Q) : AtL P N S W0 K L ops l Q :=
  fun a w hK hR => h a w hK (hR.freeze hi)
theorem At.freeze {P : Program} {N : Nat} {S : List Nat} {W0 : World} {K : Slots} {L : Ents} {Q : Exit → Act → World → Prop} {x : Code} (i b T : Nat) (cs : List Value) (hi : L[i]? = some (.blk b cs T)) (h : At P N S W0 K (L.set i (.sl (some ⟨b, 0, none⟩) cs.length 1 (fun _ => cs))) x Q) : At P N S W0 K L x Q :=
  fun a w hK hR => h a w hK (hR.freeze hi)
theorem At.fit2 {P : Program} {N : Nat} {S : List Nat} {W0 : World} {K : Slots} {L : Ents} {Q : Exit → Act → World → Prop} {x : Code} (K' : Slots) (L' : Ents) (hk : K = K') (hl : L = L') (h : At P N S W0 K' L' x Q) : At P N S W0 K L x Q := hk ▸ hl ▸ h
theorem Rep.replace {S : List Nat} {W0 : World} {L : Ents} {w : World} (h : Rep S W0 L w) {i : Nat} {e e' : Ent} (hi : L[i]? = some e) (ho : e'.ok W0.heap.size w) (hm : e'.mut = none) (hl : ∀ b, e'.looks b → e.looks b) : Rep S W0 (L.set i e') w := by
  obtain ⟨hlt, hget⟩ := List.getElem?_eq_some_iff.1 hi
  refine ⟨h.ext, ?_, ?_, ?_⟩
  · intro f hf
    obtain ⟨m, hm', hfm⟩ := List.mem_iff_getElem.1 hf
    rw [List.getElem_set] at hfm
    split at hfm
    · subst hfm; exact ho
    · have hm2 : m < L.length := by simpa using hm'
      exact h.ok f (by rw [← hfm]; exact List.getElem_mem hm2)
  · rw [List.pairwise_iff_getElem]
    have hp := List.pairwise_iff_getElem.1 h.sep
    intro m m' hm1 hm' hlt2
    simp only [List.length_set] at hm1 hm'
    have hp' := hp m m' hm1 hm' hlt2
    rw [List.getElem_set, List.getElem_set]
    split <;> split
    · omega
    · rename_i h1 h2
      subst h1
      rw [hget] at hp'
      exact ⟨fun c hc => (by rw [hm] at hc; cases hc), fun c hc hc2 => hp'.2 c hc (hl c hc2)⟩
    · rename_i h1 h2
      subst h2
      rw [hget] at hp'
      exact ⟨fun c hc hc2 => hp'.1 c hc (hl c hc2), fun c hc => (by rw [hm] at hc; cases hc)⟩
    · exact hp'
  · intro f hf c hc
    obtain ⟨m, hm1, hfm⟩ := List.mem_iff_getElem.1 hf
    rw [List.getElem_set] at hfm
    split at hfm
    · subst hfm; rw [hm] at hc; cases hc
    · have hm' : m < L.length := by simpa using hm1
      exact h.mine f (by rw [← hfm]; exact List.getElem_mem hm') c hc
theorem AtL.freezeOw {P : Program} {N : Nat} {S : List Nat} {W0 : World} {K : Slots} {L : Ents} {Q : Exit → Act → World → Prop} {ops : Array Oper} {l : List Oper} (i : Nat) {α : Type} (enc : α → List Value) (d : α) (a : Option Addr) (c T k : Nat) (xs : List α) (hi : L[i]? = some (owE enc d a c T k xs)) (he : ∀ x, (enc x).length = k)
    (h : xs.length ≤ c → c ≤ 9223372036854775807 → AtL P N S W0 K (L.set i (.sl a k xs.length (fun i => enc (nth xs d i)))) ops l Q) : AtL P N S W0 K L ops l Q := by
  intro act w hK hR
  have hs := hR.owSl i hi he
  refine h hs.le hs.big act w hK (hR.replace hi ?_ rfl ?_)
  · intro hn
    obtain ⟨b, off, rfl, hb, hc⟩ := hs.cells hn
    refine ⟨rfl, hb, fun i hi j v hv => ?_⟩
    replace hv : (enc (nth xs d i))[j]? = some v := hv
    rw [← nth_eq xs d i hi] at hv
    exact hc i hi j v hv
  · intro b hb
    exact hb.2
theorem At.freezeOw {P : Program} {N : Nat} {S : List Nat} {W0 : World} {K : Slots} {L : Ents} {Q : Exit → Act → World → Prop} {x : Code} (i : Nat) {α : Type} (enc : α → List Value) (d : α) (a : Option Addr) (c T k : Nat) (xs : List α) (hi : L[i]? = some (owE enc d a c T k xs)) (he : ∀ x, (enc x).length = k)
    (h : xs.length ≤ c → c ≤ 9223372036854775807 → At P N S W0 K (L.set i (.sl a k xs.length (fun i => enc (nth xs d i)))) x Q) : At P N S W0 K L x Q := by
  intro act w hK hR
  have hs := hR.owSl i hi he
  refine h hs.le hs.big act w hK (hR.replace hi ?_ rfl ?_)
  · intro hn
    obtain ⟨b, off, rfl, hb, hc⟩ := hs.cells hn
    refine ⟨rfl, hb, fun i hi j v hv => ?_⟩
    replace hv : (enc (nth xs d i))[j]? = some v := hv
    rw [← nth_eq xs d i hi] at hv
    exact hc i hi j v hv
  · intro b hb
    exact hb.2
/-- A slice that a call hands back, only read. -/
theorem Rep.addSl {S : List Nat} {W0 : World} {L : Ents} {w w' : World} (h : Rep S W0 L w) (hE : Ext w w') (hm : ∀ e ∈ L, e.mut = none) {α : Type} {enc : α → List Value} (d : α) {k : Nat} {a : Option Addr} {c : Nat} {xs : List α} (hs : Sl k enc w' a c xs) : Rep S W0 (L ++ [.sl a k xs.length (fun i => enc (nth xs d i))]) w' := by
  refine ⟨h.ext.trans (hE.ex S), ?_, ?_, ?_⟩
  · intro e he
    rcases List.mem_append.1 he with he | he
    · exact Ent.ok_ex (h.ok e he) hE (by simp)
    · simp only [List.mem_singleton] at he; subst he
      intro hn
      obtain ⟨b, off, rfl, hb, hc⟩ := hs.cells hn
      refine ⟨rfl, hb, fun i hi j v hv => ?_⟩
      replace hv : (enc (nth xs d i))[j]? = some v := hv
      rw [← nth_eq xs d i hi] at hv
      exact hc i hi j v hv
  · rw [List.pairwise_append]
    refine ⟨h.sep, by simp, fun e he f hf => ?_⟩
    simp only [List.mem_singleton] at hf; subst hf
    exact ⟨fun b hb => (by rw [hm e he] at hb; cases hb), fun b hb => (by cases hb)⟩
  · intro e he b hb
    rcases List.mem_append.1 he with he | he
    · exact h.mine e he b hb
    · simp only [List.mem_singleton] at he; subst he; cases hb
/-- What a call made: its blocks are new. -/
def Ent.fresh (base : Nat) : Ent → Prop
  | .blk _ _ _ => True
  | .ow _ _ _ _ _ _ => True
  | .sl _ _ _ _ => False
  | .rws lo _ _ _ _ _ => base ≤ lo
def Ent.low (base : Nat) : Ent → Ent
  | .rws _ n A C m g => .rws base n A C m g
  | e => e
theorem Ent.low_mut (b : Nat) (e : Ent) : (e.low b).mut = e.mut := by cases e <;> rfl
theorem Ent.low_looks (b x : Nat) (e : Ent) : (e.low b).looks x ↔ e.looks x := by cases e <;> exact Iff.rfl
theorem Ent.low_ok {e : Ent} {b base : Nat} {w : World} (h : e.ok base w) (hf : e.fresh base) (hb : b ≤ base) : (e.low b).ok b w := by
  cases e with
  | blk _ _ _ => exact h
  | sl _ _ _ _ => cases hf
  | ow _ _ _ _ _ _ => exact Ent.ok_base h hb
  | rws lo n A C m g =>
    intro r hr
    obtain ⟨h0, h1⟩ := h r hr
    refine ⟨h0, fun hm => ?_⟩
    obtain ⟨h2, h3⟩ := h1 hm
    exact ⟨Nat.le_trans hb (Nat.le_trans hf h2), h3⟩
theorem Ent.fresh_big {e : Ent} {base : Nat} {w : World} (h : e.ok base w) (hf : e.fresh base) (hm : ∀ b, e.mut = some b → base ≤ b) {b : Nat} (hb : e.looks b) : base ≤ b := by
  cases e with
  | blk b' _ _ => exact hm b (by replace hb : b = b' := hb; subst hb; rfl)
  | sl _ _ _ _ => cases hf
  | ow _ _ _ _ _ _ => exact hm b hb
  | rws lo n A C m g =>
    obtain ⟨r, hr, hm0, hb⟩ := hb
    obtain ⟨h2, h3, _⟩ := (h r hr).2 hm0
    rw [h3] at hb
    simp only [Option.map_some, Option.some.injEq] at hb
    subst hb
    exact Nat.le_trans hf h2
/-- What a call made, beside what was known. -/
theorem Rep.join {S : List Nat} {W0 w w' : World} {L Lr : Ents} (h : Rep S W0 L w) (h2 : Rep [] w Lr w') (hm : ∀ f ∈ Lr, f.fresh w.heap.size) : Rep S W0 (L ++ Lr.map (Ent.low W0.heap.size)) w' := by
  have big : ∀ f ∈ Lr, ∀ b, f.looks b → w.heap.size ≤ b := fun f hf b hb => Ent.fresh_big (h2.ok f hf) (hm f hf) (fun b hb => by
    rcases h2.mine f hf b hb with h3 | h3
    · exact h3
    · cases h3) hb
  refine ⟨h.ext.trans (h2.ext.ex S), ?_, ?_, ?_⟩
  · intro e he
    rcases List.mem_append.1 he with he | he
    · exact Ent.ok_ex (h.ok e he) h2.ext (by simp)
    · obtain ⟨f, hf, rfl⟩ := List.mem_map.1 he
      exact Ent.low_ok (h2.ok f hf) (hm f hf) h.ext.size
  · rw [List.pairwise_append]
    refine ⟨h.sep, List.pairwise_map.2 (h2.sep.imp (fun {a b} hab => ⟨fun x hx hx2 => hab.1 x (by rw [← Ent.low_mut]; exact hx) ((Ent.low_looks _ _ _).1 hx2), fun x hx hx2 => hab.2 x (by rw [← Ent.low_mut]; exact hx) ((Ent.low_looks _ _ _).1 hx2)⟩)), fun e he f' hf' => ?_⟩
    obtain ⟨f, hf, rfl⟩ := List.mem_map.1 hf'
    refine ⟨fun b hb hb2 => ?_, fun b hb hb2 => ?_⟩
    · have := Ent.lt (h.ok e he) (Ent.mut_looks hb); have := big f hf b ((Ent.low_looks _ _ _).1 hb2); omega
    · rw [Ent.low_mut] at hb
      have := Ent.lt (h.ok e he) hb2; have := big f hf b (Ent.mut_looks hb); omega
  · intro e he b hb
    rcases List.mem_append.1 he with he | he
    · exact h.mine e he b hb
    · obtain ⟨f, hf, rfl⟩ := List.mem_map.1 he
      rw [Ent.low_mut] at hb
      rcases h2.mine f hf b hb with h3 | h3
      · exact .inl (Nat.le_trans h.ext.size h3)
      · cases h3
theorem all_one {α : Type} {enc : α → List Value} (h : ∀ x, (enc x).all Value.oneCell' = true) : ∀ (x : α), ∀ u ∈ enc x, u.oneCell' = true := fun x u hu => List.all_eq_true.1 (h x) u hu
def bitAnd (k : IntKind) (x y : Int) : Int := k.wrap ((BitVec.ofInt k.bits x &&& BitVec.ofInt k.bits y).toNat : Int)
def bitOr (k : IntKind) (x y : Int) : Int := k.wrap ((BitVec.ofInt k.bits x ||| BitVec.ofInt k.bits y).toNat : Int)
def bitXor (k : IntKind) (x y : Int) : Int := k.wrap ((BitVec.ofInt k.bits x ^^^ BitVec.ofInt k.bits y).toNat : Int)
def bitAndNot (k : IntKind) (x y : Int) : Int := k.wrap ((BitVec.ofInt k.bits x &&& ~~~ (BitVec.ofInt k.bits y)).toNat : Int)
def boolCells (b : Bool) : List Value := [.bool b]
def u8Cells (n : Int) : List Value := [.int .u8 n]
def lenOk (n m : Nat) : Bool := decide (n + m ≤ 1000000)
theorem lenOk_le {n m : Nat} (h : lenOk n m = true) : n + m ≤ 1000000 := by simpa [lenOk] using h
def makeOk (x : Int) : Bool := decide (0 ≤ x) && decide (x ≤ 1000000)

/-- Rows that are only read. -/
abbrev rwE {α : Type} (lo : Nat) (enc : α → List Value) (d : α) (x : List (List α)) (A : Nat → Option Addr) (C : Nat → Nat) : Ent := .rws lo x.length A C (fun r => (nth x [] r).length) (fun r j => enc (nth (nth x [] r) d j))
/-- One row that is only read. -/
abbrev roE {α : Type} (lo : Nat) (enc : α → List Value) (d : α) (a : Option Addr) (c : Nat) (xs : List α) : Ent := .rws lo 1 (fun _ => a) (fun _ => c) (fun _ => xs.length) (fun _ j => enc (nth xs d j))
/-- The heads of rows, the call's own. -/
abbrev hdE {α : Type} (T : Nat) (x : List (List α)) (A : Nat → Option Addr) (C : Nat → Nat) (a : Option Addr) (c : Nat) : Ent := .ow a c T 1 x.length (fun i => [.slice (A i) (nth x [] i).length (C i)])
abbrev Hd := Option Addr × Nat × Nat
def Hd.cells (h : Hd) : List Value := [.slice h.1 h.2.1 h.2.2]
def hdrs {α : Type} (x : List (List α)) (A : Nat → Option Addr) (C : Nat → Nat) : List Hd := (List.range x.length).map (fun i => (A i, (nth x [] i).length, C i))
def snocF {β : Type} (n : Nat) (A : Nat → β) (a : β) : Nat → β := fun i => if i < n then A i else a
theorem hdrs_len {α : Type} (x : List (List α)) (A : Nat → Option Addr) (C : Nat → Nat) : (hdrs x A C).length = x.length := by simp [hdrs]
theorem hdrs_flat {α : Type} (x : List (List α)) (A : Nat → Option Addr) (C : Nat → Nat) : (hdrs x A C).flatMap Hd.cells = (List.range x.length).flatMap (fun i => [Value.slice (A i) (nth x [] i).length (C i)]) := by
  rw [hdrs, List.flatMap_map]; rfl
theorem nth_app_l {α : Type} (x : List α) (y d : α) {i : Nat} (h : i < x.length) : nth (x ++ [y]) d i = nth x d i := by simp [nth, List.getD, List.getElem?_append_left h]
theorem nth_app_r {α : Type} (x : List α) (y d : α) : nth (x ++ [y]) d x.length = y := by simp [nth, List.getD]
theorem hdrs_snoc {α : Type} (x : List (List α)) (y : List α) (A : Nat → Option Addr) (C : Nat → Nat) (a : Option Addr) (c : Nat) : hdrs x A C ++ [(a, y.length, c)] = hdrs (x ++ [y]) (snocF x.length A a) (snocF x.length C c) := by
  unfold hdrs
  rw [List.length_append, List.length_singleton, List.range_succ, List.map_append]
  congr 1
  · apply List.map_congr_left
    intro i hi
    rw [List.mem_range] at hi
    simp [snocF, hi, nth_app_l x y [] hi]
  · simp [snocF, nth_app_r]
theorem hd_own {α : Type} {x : List (List α)} {A : Nat → Option Addr} {C : Nat → Nat} {a : Option Addr} {c T base : Nat} {w : World} : (hdE T x A C a c).ok base w ↔ (owE Hd.cells (none, 0, 0) a c T 1 (hdrs x A C)).ok base w := by
  have e : (owE Hd.cells (none, 0, 0) a c T 1 (hdrs x A C)).ok base w ↔ w.ownsRow base T 1 (.slice a (hdrs x A C).length c) (hdrs x A C).length ((hdrs x A C).flatMap Hd.cells) ∧ ∀ i, (Hd.cells (nth (hdrs x A C) (none, 0, 0) i)).length = 1 := by
    show w.ownsRow _ _ _ _ _ _ ∧ _ ↔ _
    rw [flat_nth]
  rw [e, hdrs_flat, hdrs_len]
  exact ⟨fun h => ⟨h.1, fun _ => rfl⟩, fun h => ⟨h.1, fun _ => rfl⟩⟩
section
variable {P : Program} {N : Nat} {S : List Nat} {W0 : World} {K : Slots} {L : Ents} {Q : Exit → Act → World → Prop} {w : World} {α : Type} {enc : α → List Value} {d : α}
theorem rowE_of {lo base : Nat} {a : Option Addr} {c : Nat} {xs : List α} (h : Sl 1 enc w a c xs) (hlo : 0 < xs.length → lo ≤ slB a) : (roE lo enc d a c xs).ok base w := by
  intro r _
  refine ⟨⟨h.le, h.big⟩, fun hm => ⟨hlo hm, ?_⟩⟩
  obtain ⟨b, off, rfl, hb, hc⟩ := h.cells hm
  refine ⟨rfl, hb, fun i hi j v hv => ?_⟩
  replace hv : (enc (nth xs d i))[j]? = some v := hv
  rw [← nth_eq xs d i hi] at hv
  exact hc i hi j v hv
theorem rows_sl {lo base : Nat} {x : List (List α)} {A : Nat → Option Addr} {C : Nat → Nat} (h : (rwE lo enc d x A C).ok base w) {r : Nat} (hr : r < x.length) : Sl 1 enc w (A r) (C r) (nth x [] r) := by
  obtain ⟨⟨h0, h1⟩, h2⟩ := h r hr
  refine ⟨h0, h1, fun hm => ?_⟩
  obtain ⟨_, h3, h4, h5⟩ := h2 hm
  refine ⟨_, _, h3, h4, fun i hi j v hv => h5 i hi j v ?_⟩
  show (enc (nth (nth x [] r) d i))[j]? = some v
  rw [← nth_eq (nth x [] r) d i hi]; exact hv
theorem row_sl {lo base : Nat} {a : Option Addr} {c : Nat} {xs : List α} (h : (roE lo enc d a c xs).ok base w) : Sl 1 enc w a c xs := by
  obtain ⟨⟨h0, h1⟩, h2⟩ := h 0 Nat.one_pos
  refine ⟨h0, h1, fun hm => ?_⟩
  obtain ⟨_, h3, h4, h5⟩ := h2 hm
  refine ⟨_, _, h3, h4, fun i hi j v hv => h5 i hi j v ?_⟩
  show (enc (nth xs d i))[j]? = some v
  rw [← nth_eq xs d i hi]; exact hv
theorem rows_lo {lo base : Nat} {x : List (List α)} {A : Nat → Option Addr} {C : Nat → Nat} (h : (rwE lo enc d x A C).ok base w) {r : Nat} (hr : r < x.length) (hm : 0 < (nth x [] r).length) : lo ≤ slB (A r) := ((h r hr).2 hm).1
theorem row_lo {lo base : Nat} {a : Option Addr} {c : Nat} {xs : List α} (h : (roE lo enc d a c xs).ok base w) (hm : 0 < xs.length) : lo ≤ slB a := ((h 0 Nat.one_pos).2 hm).1
theorem rows_snoc {lo lo1 lo2 base : Nat} {x : List (List α)} {y : List α} {A : Nat → Option Addr} {C : Nat → Nat} {a : Option Addr} {c : Nat} (h : (rwE lo1 enc d x A C).ok base w) (h2 : (roE lo2 enc d a c y).ok base w) (l1 : lo ≤ lo1) (l2 : lo ≤ lo2) : (rwE lo enc d (x ++ [y]) (snocF x.length A a) (snocF x.length C c)).ok base w := by
  intro r hr
  replace hr : r < (x ++ [y]).length := hr
  rw [List.length_append, List.length_singleton] at hr
  by_cases hx : r < x.length
  · obtain ⟨g1, g2⟩ := h r hx
    have e1 : snocF x.length A a r = A r := by simp [snocF, hx]
    have e2 : snocF x.length C c r = C r := by simp [snocF, hx]
    simp only [e1, e2, nth_app_l x y [] hx]
    exact ⟨g1, fun hm => ⟨Nat.le_trans l1 (g2 hm).1, (g2 hm).2⟩⟩
  · obtain rfl : r = x.length := by omega
    obtain ⟨g1, g2⟩ := h2 0 Nat.one_pos
    have e1 : snocF x.length A a x.length = a := by simp [snocF]
    have e2 : snocF x.length C c x.length = c := by simp [snocF]
    simp only [e1, e2, nth_app_r]
    exact ⟨g1, fun hm => ⟨Nat.le_trans l2 (g2 hm).1, (g2 hm).2⟩⟩
/-- One more fact of what is only read. -/
theorem Rep.derive (h : Rep S W0 L w) {e' : Ent} (ho : e'.ok W0.heap.size w) (hm : e'.mut = none) (hl : ∀ b, e'.looks b → ∃ e ∈ L, e.mut = none ∧ e.looks b) : Rep S W0 (L ++ [e']) w := by
  refine ⟨h.ext, ?_, ?_, ?_⟩
  · intro f hf
    rcases List.mem_append.1 hf with hf | hf
    · exact h.ok f hf
    · simp only [List.mem_singleton] at hf; subst hf; exact ho
  · rw [List.pairwise_append]
    refine ⟨h.sep, by simp, fun f hf g hg => ?_⟩
    simp only [List.mem_singleton] at hg; subst hg
    refine ⟨fun b hb hb2 => ?_, fun b hb => by rw [hm] at hb; cases hb⟩
    obtain ⟨e, he, hem, hel⟩ := hl b hb2
    obtain ⟨i, hi, hif⟩ := List.mem_iff_getElem.1 hf
    obtain ⟨j, hj, hje⟩ := List.mem_iff_getElem.1 he
    have hne : i ≠ j := fun hij => by subst hij; rw [hif] at hje; subst hje; rw [hb] at hem; cases hem
    exact (sep_at h hne (by rw [List.getElem?_eq_getElem hi, hif]) (by rw [List.getElem?_eq_getElem hj, hje])).1 b hb hel
  · intro f hf b hb
    rcases List.mem_append.1 hf with hf | hf
    · exact h.mine f hf b hb
    · simp only [List.mem_singleton] at hf; subst hf; rw [hm] at hb; cases hb
/-- An entry in another form. -/
theorem Rep.reform (h : Rep S W0 L w) {i : Nat} {e e' : Ent} (hi : L[i]? = some e) (ho : e'.ok W0.heap.size w) (hm : e'.mut = e.mut) (hl : ∀ b, e'.looks b → e.looks b) : Rep S W0 (L.set i e') w := by
  obtain ⟨hlt, hget⟩ := List.getElem?_eq_some_iff.1 hi
  refine ⟨h.ext, ?_, ?_, ?_⟩
  · intro f hf
    obtain ⟨m, hm', hfm⟩ := List.mem_iff_getElem.1 hf
    rw [List.getElem_set] at hfm
    split at hfm
    · subst hfm; exact ho
    · have hm2 : m < L.length := by simpa using hm'
      exact h.ok f (by rw [← hfm]; exact List.getElem_mem hm2)
  · rw [List.pairwise_iff_getElem]
    have hp := List.pairwise_iff_getElem.1 h.sep
    intro m m' hm1 hm' hlt2
    simp only [List.length_set] at hm1 hm'
    have hp' := hp m m' hm1 hm' hlt2
    rw [List.getElem_set, List.getElem_set]
    split <;> split
    · omega
    · rename_i h1 h2
      subst h1
      rw [hget] at hp'
      exact ⟨fun c hc => hp'.1 c (by rw [← hm]; exact hc), fun c hc hc2 => hp'.2 c hc (hl c hc2)⟩
    · rename_i h1 h2
      subst h2
      rw [hget] at hp'
      exact ⟨fun c hc hc2 => hp'.1 c hc (hl c hc2), fun c hc => hp'.2 c (by rw [← hm]; exact hc)⟩
    · exact hp'
  · intro f hf c hc
    obtain ⟨m, hm1, hfm⟩ := List.mem_iff_getElem.1 hf
    rw [List.getElem_set] at hfm
    split at hfm
    · subst hfm; rw [hm] at hc; exact h.mine e (List.mem_of_getElem? hi) c hc
    · have hm' : m < L.length := by simpa using hm1
      exact h.mine f (by rw [← hfm]; exact List.getElem_mem hm') c hc
theorem Rep.rowsSl (h : Rep S W0 L w) (i : Nat) {lo : Nat} {x : List (List α)} {A : Nat → Option Addr} {C : Nat → Nat} (hi : L[i]? = some (rwE lo enc d x A C)) (r : Nat) (hr : r < x.length) : Sl 1 enc w (A r) (C r) (nth x [] r) := rows_sl (h.ok _ (List.mem_of_getElem? hi)) hr
theorem Rep.rowSl (h : Rep S W0 L w) (i : Nat) {lo : Nat} {a : Option Addr} {c : Nat} {xs : List α} (hi : L[i]? = some (roE lo enc d a c xs)) : Sl 1 enc w a c xs := row_sl (h.ok _ (List.mem_of_getElem? hi))
theorem Adds.rows {i : Nat} {lo : Nat} {x : List (List α)} {A : Nat → Option Addr} {C : Nat → Nat} (hi : L[i]? = some (rwE lo enc d x A C)) {r : Nat} (hr : r < x.length) : Adds S W0 L 1 enc (A r) (C r) (nth x [] r) := ⟨fun _ h => h.rowsSl i hi r hr⟩
theorem Adds.row1 {i : Nat} {lo : Nat} {a : Option Addr} {c : Nat} {xs : List α} (hi : L[i]? = some (roE lo enc d a c xs)) : Adds S W0 L 1 enc a c xs := ⟨fun _ h => h.rowSl i hi⟩
/-- A row of rows. -/
theorem Rep.rowRo (h : Rep S W0 L w) (i : Nat) {lo : Nat} {x : List (List α)} {A : Nat → Option Addr} {C : Nat → Nat} (hi : L[i]? = some (rwE lo enc d x A C)) (r : Nat) (hr : r < x.length) (lo' : Nat) (hlo : lo' ≤ lo) : Rep S W0 (L ++ [roE lo' enc d (A r) (C r) (nth x [] r)]) w := by
  have hok := h.ok _ (List.mem_of_getElem? hi)
  refine h.derive (rowE_of (rows_sl hok hr) (fun hm => Nat.le_trans hlo (rows_lo hok hr hm))) rfl (fun b hb => ⟨_, List.mem_of_getElem? hi, rfl, ?_⟩)
  obtain ⟨_, _, hm, hb⟩ := hb
  exact ⟨r, hr, hm, hb⟩
/-- A slice that is only read, with its capacity. -/
theorem Rep.slRo (h : Rep S W0 L w) (i : Nat) {a : Option Addr} {c : Nat} {xs : List α} (hi : L[i]? = some (.sl a 1 xs.length (fun i => enc (nth xs d i)))) (hle : xs.length ≤ c) (hb : c ≤ 9223372036854775807) : Rep S W0 (L ++ [roE 0 enc d a c xs]) w := by
  refine h.derive (rowE_of (h.toSl i hi hle hb) (fun _ => Nat.zero_le _)) rfl (fun b hb => ⟨_, List.mem_of_getElem? hi, rfl, ?_⟩)
  obtain ⟨_, _, hm, hb⟩ := hb
  exact ⟨hm, hb⟩
theorem Rep.nilRo (h : Rep S W0 L w) (lo : Nat) (enc : α → List Value) (d : α) : Rep S W0 (L ++ [roE lo enc d none 0 []]) w := by
  refine h.derive (rowE_of (Sl.nil _ _ _) (fun hm => by cases hm)) rfl (fun b hb => ?_)
  obtain ⟨_, _, hm, _⟩ := hb
  cases hm
theorem Rep.roLow (h : Rep S W0 L w) (i : Nat) {lo : Nat} {a : Option Addr} {c : Nat} {xs : List α} (hi : L[i]? = some (roE lo enc d a c xs)) (lo' : Nat) (hlo : lo' ≤ lo) : Rep S W0 (L ++ [roE lo' enc d a c xs]) w := by
  have hok := h.ok _ (List.mem_of_getElem? hi)
  exact h.derive (rowE_of (row_sl hok) (fun hm => Nat.le_trans hlo (row_lo hok hm))) rfl (fun b hb => ⟨_, List.mem_of_getElem? hi, rfl, hb⟩)
theorem Rep.rwLow (h : Rep S W0 L w) (i : Nat) {lo : Nat} {x : List (List α)} {A : Nat → Option Addr} {C : Nat → Nat} (hi : L[i]? = some (rwE lo enc d x A C)) (lo' : Nat) (hlo : lo' ≤ lo) : Rep S W0 (L ++ [rwE lo' enc d x A C]) w := by
  have hok := h.ok _ (List.mem_of_getElem? hi)
  refine h.derive (fun r hr => ?_) rfl (fun b hb => ⟨_, List.mem_of_getElem? hi, rfl, hb⟩)
  obtain ⟨g1, g2⟩ := hok r hr
  exact ⟨g1, fun hm => ⟨Nat.le_trans hlo (g2 hm).1, (g2 hm).2⟩⟩
/-- A slice of the call's own, only read from now on. -/
theorem Rep.owRo (h : Rep S W0 L w) (hS : S = []) (i : Nat) {a : Option Addr} {c T : Nat} {xs : List α} (hi : L[i]? = some (owE enc d a c T 1 xs)) (he : ∀ x, (enc x).length = 1) (lo : Nat) (hlo : lo ≤ W0.heap.size) : Rep S W0 (L.set i (roE lo enc d a c xs)) w := by
  refine h.replace hi (rowE_of (h.owSl i hi he) (fun hm => ?_)) rfl (fun b hb => ?_)
  · have hs := h.owSl i hi he
    obtain ⟨b, off, rfl, _⟩ := hs.cells hm
    subst hS
    rcases h.mine _ (List.mem_of_getElem? hi) b rfl with h1 | h1
    · exact Nat.le_trans hlo h1
    · cases h1
  · obtain ⟨_, _, _, hb⟩ := hb
    exact hb
/-- Rows that are none. -/
theorem Rep.rwNil (h : Rep S W0 L w) (lo : Nat) (enc : α → List Value) (d : α) (A : Nat → Option Addr) (C : Nat → Nat) : Rep S W0 (L ++ [rwE lo enc d [] A C]) w :=
  h.derive (fun r hr => by cases hr) rfl (fun b hb => by obtain ⟨r, hr, _⟩ := hb; cases hr)
theorem Rep.hdNil (h : Rep S W0 L w) (lo T : Nat) (enc : α → List Value) (d : α) : Rep S W0 (L ++ [hdE T ([] : List (List α)) (fun _ => none) (fun _ => 0) none 0] ++ [rwE lo enc d [] (fun _ => none) (fun _ => 0)]) w := by
  refine Rep.rwNil ?_ lo enc d _ _
  have := h.addNil Hd.cells (none, 0, 0) T 1 (fun _ => rfl)
  have h2 := this.reform (i := L.length) (e' := hdE T ([] : List (List α)) (fun _ => none) (fun _ => 0) none 0) (e := owE Hd.cells (none, 0, 0) none 0 T 1 []) (by simp) (hd_own.2 (this.ok _ (List.mem_append_right _ (List.mem_singleton.2 rfl)))) rfl (fun b hb => hb)
  simpa using h2
theorem Rep.hdRow0 (h : Rep S W0 L w) (hS : S = []) {i b T : Nat} (hi : L[i]? = some (.blk b [] T)) (lo : Nat) (enc : α → List Value) (d : α) : Rep S W0 (L.eraseIdx i ++ [hdE T ([] : List (List α)) (fun _ => none) (fun _ => 0) (some ⟨b, 0, none⟩) 0] ++ [rwE lo enc d [] (fun _ => none) (fun _ => 0)]) w := by
  refine Rep.rwNil ?_ lo enc d _ _
  have := h.addRow hi Hd.cells (none, 0, 0) 1 [] (fun _ => rfl) rfl (by simp) (by simp [hS])
  have h2 := this.reform (i := (L.eraseIdx i).length) (e' := hdE T ([] : List (List α)) (fun _ => none) (fun _ => 0) (some ⟨b, 0, none⟩) 0) (e := owE Hd.cells (none, 0, 0) (some ⟨b, 0, none⟩) 0 T 1 []) (by simp) (hd_own.2 (this.ok _ (List.mem_append_right _ (List.mem_singleton.2 rfl)))) rfl (fun b hb => hb)
  simpa using h2
theorem roE_looks {lo : Nat} {a : Option Addr} {c : Nat} {xs : List α} {b : Nat} : (roE lo enc d a c xs).looks b ↔ 0 < xs.length ∧ a.map (·.block) = some b := ⟨fun ⟨_, _, h⟩ => h, fun h => ⟨0, Nat.one_pos, h⟩⟩
theorem rows_one {lo lo2 base : Nat} {y : List α} {a : Option Addr} {c : Nat} (h2 : (roE lo2 enc d a c y).ok base w) (l2 : lo ≤ lo2) : (rwE lo enc d [y] (fun _ => a) (fun _ => c)).ok base w := by
  intro r hr
  obtain rfl : r = 0 := by replace hr : r < 1 := hr; omega
  obtain ⟨g1, g2⟩ := h2 0 Nat.one_pos
  exact ⟨g1, fun hm => ⟨Nat.le_trans l2 (g2 hm).1, (g2 hm).2⟩⟩
theorem Rep.hdRow1 (h : Rep S W0 L w) (hS : S = []) {i b T : Nat} {a : Option Addr} {c : Nat} {y : List α} (hi : L[i]? = some (.blk b [.slice a y.length c] T)) {j lo2 : Nat} (hj : (L.eraseIdx i)[j]? = some (roE lo2 enc d a c y)) (lo : Nat) (hlo : lo ≤ lo2) : Rep S W0 (L.eraseIdx i ++ [hdE T [y] (fun _ => a) (fun _ => c) (some ⟨b, 0, none⟩) 1] ++ [rwE lo enc d [y] (fun _ => a) (fun _ => c)]) w := by
  have := h.addRow hi Hd.cells (none, 0, 0) 1 [(a, y.length, c)] (fun _ => rfl) rfl (by simp) (by simp [hS])
  have h2 := this.reform (i := (L.eraseIdx i).length) (e' := hdE T [y] (fun _ => a) (fun _ => c) (some ⟨b, 0, none⟩) 1) (e := owE Hd.cells (none, 0, 0) (some ⟨b, 0, none⟩) 1 T 1 [(a, y.length, c)]) (by simp) (hd_own.2 (this.ok _ (by simp [hdrs, nth, List.range_succ]))) rfl (fun b hb => hb)
  have h3 : Rep S W0 (L.eraseIdx i ++ [hdE T [y] (fun _ => a) (fun _ => c) (some ⟨b, 0, none⟩) 1]) w := by simpa using h2
  have hmem := List.mem_of_getElem? hj
  refine h3.derive (rows_one (h3.ok _ (List.mem_append_left _ hmem)) hlo) rfl (fun b hb => ⟨_, List.mem_append_left _ hmem, rfl, ?_⟩)
  obtain ⟨r, hr, hm, hb⟩ := hb
  obtain rfl : r = 0 := by replace hr : r < 1 := hr; omega
  exact roE_looks.2 ⟨hm, hb⟩
end
section
variable {P : Program} {N : Nat} {S : List Nat} {W0 : World} {K : Slots} {L : Ents} {Q : Exit → Act → World → Prop} {α : Type} {enc : α → List Value} {d : α}
theorem AtY.fit2 {X : World → Prop} {ops : Array Oper} {m : List Oper} {F : Act → World → Prop} (K' : Slots) (hk : K = K') (h : AtY P N S W0 X K' L ops m F) : AtY P N S W0 X K L ops m F := hk ▸ h
def dropOk (l : Int) (n : Nat) : Bool := decide (0 ≤ l) && decide (l ≤ (n : Int))
theorem dropOk_is {l : Int} {n c : Nat} (h : dropOk l n = true) (hc : n ≤ c) : DropOk l n c := by
  simp only [dropOk, Bool.and_eq_true, decide_eq_true_eq] at h
  exact ⟨h.1, h.2, hc⟩
/-- x[l:], read only. -/
theorem Sl.dropA {k : Nat} {w : World} {a : Option Addr} {c : Nat} {xs : List α} (h : Sl k enc w a c xs) {l : Int} (hl : dropOk l xs.length = true) : Sl k enc w (dropA a c l.toNat k) (c - l.toNat) (xs.drop l.toNat) := by
  have hle := h.le; have hb := h.big
  simp only [dropOk, Bool.and_eq_true, decide_eq_true_eq] at hl
  refine ⟨by rw [List.length_drop]; omega, by omega, fun h0 => ?_⟩
  rw [List.length_drop] at h0
  obtain ⟨b, off, rfl, hbw, hc⟩ := h.cells (by omega)
  refine ⟨b, off + l.toNat * k, ?_, hbw, fun i hi j v hv => ?_⟩
  · unfold Go.Proofs.Ytojnpaenpaobcaa.dropA
    rw [if_neg (by omega)]; simp [Addr.add]
  · rw [List.length_drop] at hi
    have h2 : l.toNat + i < xs.length := by omega
    have h3 := hc (l.toNat + i) h2 j v (by simpa using hv)
    rw [show off + l.toNat * k + i * k + j = off + (l.toNat + i) * k + j by rw [Nat.add_mul]; omega]
    exact h3
/-- Another list of entries, that the old one gives. -/
def To (S : List Nat) (W0 : World) (L L' : Ents) : Prop := ∀ w, Rep S W0 L w → Rep S W0 L' w
theorem At.to {c : Code} {L' : Ents} (t : To S W0 L L') (h : At P N S W0 K L' c Q) : At P N S W0 K L c Q := fun a w hK hR => h a w hK (t w hR)
theorem AtL.to {ops : Array Oper} {l : List Oper} {L' : Ents} (t : To S W0 L L') (h : AtL P N S W0 K L' ops l Q) : AtL P N S W0 K L ops l Q := fun a w hK hR => h a w hK (t w hR)
theorem Ends.to {e : XT} {L' : Ents} (t : To S W0 L L') (h : Ends N S W0 K L' e Q) : Ends N S W0 K L e Q := fun a w hK hR => h a w hK (t w hR)
theorem To.rowRo (i : Nat) {lo : Nat} {x : List (List α)} {A : Nat → Option Addr} {C : Nat → Nat} (hi : L[i]? = some (rwE lo enc d x A C)) (r : Nat) (hr : r < x.length) (lo' : Nat) (hlo : lo' ≤ lo) : To S W0 L (L ++ [roE lo' enc d (A r) (C r) (nth x [] r)]) := fun _ h => h.rowRo i hi r hr lo' hlo
theorem To.roLow (i : Nat) {lo : Nat} {a : Option Addr} {c : Nat} {xs : List α} (hi : L[i]? = some (roE lo enc d a c xs)) (lo' : Nat) (hlo : lo' ≤ lo) : To S W0 L (L ++ [roE lo' enc d a c xs]) := fun _ h => h.roLow i hi lo' hlo
theorem To.rwLow (i : Nat) {lo : Nat} {x : List (List α)} {A : Nat → Option Addr} {C : Nat → Nat} (hi : L[i]? = some (rwE lo enc d x A C)) (lo' : Nat) (hlo : lo' ≤ lo) : To S W0 L (L ++ [rwE lo' enc d x A C]) := fun _ h => h.rwLow i hi lo' hlo
theorem To.slRo (i : Nat) {a : Option Addr} {c : Nat} {xs : List α} (hi : L[i]? = some (.sl a 1 xs.length (fun i => enc (nth xs d i)))) (hle : xs.length ≤ c) (hb : c ≤ 9223372036854775807) : To S W0 L (L ++ [roE 0 enc d a c xs]) := fun _ h => h.slRo i hi hle hb
theorem To.nilRo (lo : Nat) (enc : α → List Value) (d : α) : To S W0 L (L ++ [roE lo enc d none 0 []]) := fun _ h => h.nilRo lo enc d
theorem To.owRo (i : Nat) {a : Option Addr} {c T : Nat} {xs : List α} (hi : L[i]? = some (owE enc d a c T 1 xs)) (he : ∀ x, (enc x).length = 1) (lo : Nat) (hlo : lo ≤ W0.heap.size) : To [] W0 L (L.set i (roE lo enc d a c xs)) := fun _ h => h.owRo rfl i hi he lo hlo
theorem To.hdNil (lo T : Nat) (enc : α → List Value) (d : α) : To S W0 L (L ++ [hdE T ([] : List (List α)) (fun _ => none) (fun _ => 0) none 0] ++ [rwE lo enc d [] (fun _ => none) (fun _ => 0)]) := fun _ h => h.hdNil lo T enc d
theorem To.hdRow0 {i b T : Nat} (hi : L[i]? = some (.blk b [] T)) (lo : Nat) (enc : α → List Value) (d : α) : To [] W0 L (L.eraseIdx i ++ [hdE T ([] : List (List α)) (fun _ => none) (fun _ => 0) (some ⟨b, 0, none⟩) 0] ++ [rwE lo enc d [] (fun _ => none) (fun _ => 0)]) := fun _ h => h.hdRow0 rfl hi lo enc d
theorem To.hdRow1 {i b T : Nat} {a : Option Addr} {c : Nat} {y : List α} (hi : L[i]? = some (.blk b [.slice a y.length c] T)) {j lo2 : Nat} (hj : (L.eraseIdx i)[j]? = some (roE lo2 enc d a c y)) (lo : Nat) (hlo : lo ≤ lo2) : To [] W0 L (L.eraseIdx i ++ [hdE T [y] (fun _ => a) (fun _ => c) (some ⟨b, 0, none⟩) 1] ++ [rwE lo enc d [y] (fun _ => a) (fun _ => c)]) := fun _ h => h.hdRow1 rfl hi hj lo hlo
/-- append of one row to rows. -/
theorem AtL.appendHd {ops : Array Oper} {l : List Oper} {t T bytes : Nat} (he : EI P t T 1 bytes) (hbytes : 1000000 * bytes ≤ 140737488355328) (dst : Option Tmp)
    (i : Nat) (a : Option Addr) (c : Nat) (x : List (List α)) (A : Nat → Option Addr) (C : Nat → Nat) (hi : L[i]? = some (hdE T x A C a c)) (ad : Option Addr) (ra : Option Addr) (rc : Nat) (y : List α) (h : appK N ops K l = some (t, .slice a x.length c, .slice ad 1 1, dst))
    (i3 b3 T3 : Nat) (hb : L[i3]? = some (.blk b3 [.slice ra y.length rc] T3)) (had : ad = some ⟨b3, 0, none⟩) (hi3 : i3 ≠ i) (i2 lo1 : Nat) (h2 : (L.eraseIdx i)[i2]? = some (rwE lo1 enc d x A C)) (i4 lo2 : Nat) (h4 : (L.eraseIdx i)[i4]? = some (roE lo2 enc d ra rc y)) (lo : Nat) (l1 : lo ≤ lo1) (l2 : lo ≤ lo2)
    (hlen : x.length + 1 ≤ 1000000)
    (next : ∀ a' c' A' C' K', setD N K dst (.slice a' (x ++ [y]).length c') = some K' → AtL P N S W0 K' (L.eraseIdx i ++ [hdE T (x ++ [y]) A' C' a' c'] ++ [rwE lo enc d (x ++ [y]) A' C']) ops l.tail Q) : AtL P N S W0 K L ops l Q := by
  subst had
  refine AtL.to (L' := L.set i (owE Hd.cells (none, 0, 0) a c T 1 (hdrs x A C))) (fun w hR => hR.reform hi (hd_own.1 (hR.ok _ (List.mem_of_getElem? hi))) rfl (fun b hb => hb)) ?_
  have hilt : i < L.length := (List.getElem?_eq_some_iff.1 hi).1
  refine AtL.append (enc := Hd.cells) (none, 0, 0) he (fun _ => rfl) (all_one (fun _ => rfl)) hbytes dst i a c (hdrs x A C) (by simp [hilt]) (some ⟨b3, 0, none⟩) 1 1 [(ra, y.length, rc)] rfl (by rw [hdrs_len]; exact h)
    (Adds.row (i := i3) (b := b3) (T := T3) (cs := [.slice ra y.length rc]) _ (by rw [List.getElem?_set_ne (Ne.symm hi3)]; exact hb) rfl) (by simpa [hdrs_len] using hlen) ?_
  intro a' c' K' hK'
  have hlen2 : (hdrs x A C ++ [(ra, y.length, rc)]).length = (x ++ [y]).length := by simp [hdrs_len]
  rw [hlen2] at hK'
  rw [List.eraseIdx_set_eq]
  refine AtL.to ?_ (next a' c' (snocF x.length A ra) (snocF x.length C rc) K' hK')
  intro w hR
  have h5 := hR.reform (i := (L.eraseIdx i).length) (e' := hdE T (x ++ [y]) (snocF x.length A ra) (snocF x.length C rc) a' c') (e := owE Hd.cells (none, 0, 0) a' c' T 1 (hdrs x A C ++ [(ra, y.length, rc)])) (by simp) (hd_own.2 (by rw [← hdrs_snoc]; exact hR.ok _ (by simp))) rfl (fun b hb => hb)
  have h6 : Rep S W0 (L.eraseIdx i ++ [hdE T (x ++ [y]) (snocF x.length A ra) (snocF x.length C rc) a' c']) w := by simpa using h5
  have m2 := List.mem_append_left [hdE T (x ++ [y]) (snocF x.length A ra) (snocF x.length C rc) a' c'] (List.mem_of_getElem? h2)
  have m4 := List.mem_append_left [hdE T (x ++ [y]) (snocF x.length A ra) (snocF x.length C rc) a' c'] (List.mem_of_getElem? h4)
  refine h6.derive (rows_snoc (h6.ok _ m2) (h6.ok _ m4) l1 l2) rfl (fun b hb => ?_)
  obtain ⟨r, hr, hm, hb⟩ := hb
  replace hr : r < (x ++ [y]).length := hr
  rw [List.length_append, List.length_singleton] at hr
  replace hm : 0 < (nth (x ++ [y]) [] r).length := hm
  by_cases hx : r < x.length
  · refine ⟨_, m2, rfl, r, hx, ?_, ?_⟩
    · rw [nth_app_l x y [] hx] at hm; exact hm
    · simpa [snocF, hx] using hb
  · obtain rfl : r = x.length := by omega
    refine ⟨_, m4, rfl, roE_looks.2 ⟨?_, ?_⟩⟩
    · rw [nth_app_r] at hm; exact hm
    · simpa [snocF] using hb
end

section
variable {P : Program} {ops : Array Oper} {Q : Exit → Act → World → Prop} {md : Region.Mode} {S S2 : World → Prop} {ex : List Nat}
def wpAnyZ (P : Program) (md : Region.Mode) (ops : Array Oper) (Q : Exit → Act → World → Prop) (S S2 : World → Prop) (ex : List Nat) : Nat → Array Bool → Act → World → Prop
  | 0, listed, a, w => Region.ready md ops listed = [] ∧ Q .normal a w
  | fuel + 1, listed, a, w =>
    (Region.ready md ops listed = [] → Q .normal a w) ∧
    ∀ i ∈ Region.ready md ops listed, wpOp P ops Q i (fun a' w' => ((ex.contains i = false → S w → S w') ∧ (S2 w → S2 w')) ∧ wpAnyZ P md ops Q S S2 ex fuel (listed.setIfInBounds i true) a' w') a w
theorem wpAny_of_Z : ∀ (fuel : Nat) (listed : Array Bool) (a : Act) (w : World), wpAnyZ P md ops Q S S2 ex fuel listed a w → wpAny P md ops Q fuel listed a w
  | 0, _, _, _, h => h
  | fuel + 1, _, _, _, h => ⟨h.1, fun i hi => wpOp_mono (fun a' w' h' => wpAny_of_Z fuel _ a' w' h'.2) (h.2 i hi)⟩
/-- What one operation keeps. -/
def StepOk (S S2 : World → Prop) (ex : List Nat) (j : Nat) (w w' : World) : Prop := (ex.contains j = false → S w → S w') ∧ (S2 w → S2 w')
/-- A read may be taken first, where what it needs is kept by all that need not wait for it. -/
theorem wpAnyZ_first {T : World → Prop} {ex' : List Nat} (keep : ∀ (j : Nat) (w w' : World), StepOk S S2 ex j w w' → ex'.contains j = false → T w → T w') {i : Nat} {oi : Oper} {v : Value} (hi : ops[i]? = some oi) (hsel : ∀ (j : Nat) (o : Oper) cs b, ops[j]? = some o → o.op ≠ .select cs b)
    (hQ : ∀ c a w, Q (.panic c) (a.put oi.dst v) w → Q (.panic c) a w) (n : Nat) (hw : ∀ m ∈ ex', waits md ops n m i = true) :
    ∀ (fuel : Nat) (listed : Array Bool) (a : Act) (w : World), Closed md ops listed →
      (∀ j oj, ops[j]? = some oj → j ≠ i → listed.getD j true = false → (∀ e ∈ oj.after, Region.binds md e = true → e.on ≠ i) → oi.apart ops oj = true) →
      i ∈ Region.ready md ops listed → YieldsIf P ops T oi v a → T w →
      wpAnyZ P md ops Q S S2 ex fuel (listed.setIfInBounds i true) (a.put oi.dst v) w → wpAnyZ P md ops Q S S2 ex (fuel + 1) listed a w := by
  intro fuel
  induction fuel with
  | zero =>
    intro listed a w _ _ hr hy hT H
    refine ⟨fun h => (by rw [h] at hr; cases hr), fun j hj => ?_⟩
    by_cases hji : j = i
    · subst hji; exact hy.wpOp hi hT ⟨⟨fun _ h => h, fun h => h⟩, H⟩
    · have := ready_mono hj hji
      rw [H.1] at this
      cases this
  | succ fuel ih =>
    intro listed a w hc hfree hr hy hT H
    refine ⟨fun h => (by rw [h] at hr; cases hr), fun j hj => ?_⟩
    by_cases hji : j = i
    · subst hji; exact hy.wpOp hi hT ⟨⟨fun _ h => h, fun h => h⟩, H⟩
    · have h1 := H.2 j (ready_mono hj hji)
      obtain ⟨hjun, oj, hoj, hall⟩ := mem_ready.1 hj
      have hil := ready_not_listed hr
      have hjx : ex'.contains j = false := by
        cases hx : ex'.contains j with
        | false => rfl
        | true =>
          have hmem : j ∈ ex' := by simpa using hx
          have := waits_listed hc n j i (hw j hmem) (fun o ho e he hb => by rw [hoj] at ho; cases ho; exact hall e he hb)
          rw [hil] at this; cases this
      have hnot : ∀ e ∈ oj.after, Region.binds md e = true → e.on ≠ i := fun e he hb heq => by
        have h1 := hall e he hb
        rw [heq, hil] at h1; cases h1
      have h2 := wpOp_putIf hoj (hfree j oj hoj hji hjun hnot) (fun cs b => hsel i oi cs b hi) (fun cs b => hsel j oj cs b hoj) hQ hy h1
      have hfree' : ∀ k ok, ops[k]? = some ok → k ≠ i → (listed.setIfInBounds j true).getD k true = false →
          (∀ e ∈ ok.after, Region.binds md e = true → e.on ≠ i) → oi.apart ops ok = true := fun k ok hk hki hun hno => by
        refine hfree k ok hk hki ?_ hno
        by_cases hjk : j = k
        · subst hjk; exact hjun
        · rw [getD_set_ne true hjk] at hun; exact hun
      refine wpOp_mono (fun a' w' h3 => ?_) h2
      have hT' := keep j w w' h3.2.1 hjx hT
      refine ⟨h3.2.1, ih (listed.setIfInBounds j true) a' w' (closed_set hc hj) hfree' (ready_mono hr (Ne.symm hji)) h3.1 hT' ?_⟩
      rw [Array.setIfInBounds_comm _ _ hji]
      exact h3.2.2
inductive Sg where
  | pu (l : List Nat)
  | st (l : List Nat)
  | wk (l : List Nat)
  | mv (i : Nat)
  | tm (i : Nat)
def Sg.nums : Sg → List Nat
  | .pu l => l
  | .st l => l
  | .wk l => l
  | .mv i => [i]
  | .tm i => [i]
def exOf2 : List Sg → List Nat
  | [] => []
  | .tm i :: r => i :: exOf2 r
  | _ :: r => exOf2 r
def plan2Ok (md : Region.Mode) (ops : Array Oper) (ex : List Nat) : List Sg → Array Bool → Bool
  | [], listed => (Region.ready md ops listed).isEmpty
  | .pu l :: r, listed => stOk md ops [] l listed && plan2Ok md ops ex r (marks l listed)
  | .st l :: r, listed => stOk md ops ex l listed && plan2Ok md ops ex r (marks l listed)
  | .wk l :: r, listed => stOk md ops [] l listed && plan2Ok md ops ex r (marks l listed)
  | .mv i :: r, listed => (Region.ready md ops listed == [i]) && plan2Ok md ops ex r (listed.setIfInBounds i true)
  | .tm i :: r, listed => (Region.ready md ops listed == [i]) && plan2Ok md ops ex r (listed.setIfInBounds i true)
def lens2 : List Sg → Nat
  | [] => 0
  | s :: r => s.nums.length + lens2 r
/-- Behind a change only what holds throughout. -/
def onlyTm : List Sg → Bool
  | [] => true
  | .pu _ :: r => onlyTm r
  | .wk _ :: r => onlyTm r
  | .tm _ :: r => onlyTm r
  | _ => false
def endTm : List Sg → Bool
  | [] => true
  | .tm _ :: r => onlyTm r
  | _ :: r => endTm r
theorem onlyTm_end : ∀ l : List Sg, onlyTm l = true → endTm l = true
  | [], _ => rfl
  | .pu _ :: r, h => onlyTm_end r h
  | .wk _ :: r, h => onlyTm_end r h
  | .tm _ :: r, h => h
  | .st _ :: _, h => by cases h
  | .mv _ :: _, h => by cases h
def wpPlan2 (P : Program) (l : List Oper) (S S2 : World → Prop) (Q : Exit → Act → World → Prop) : List Sg → Act → World → Prop
  | [], a, w => Q .normal a w
  | .pu is :: r, a, w => wpYield P l.toArray (fun _ => True) (fun a' => wpPlan2 P l S S2 Q r a' w) (pick l is) a
  | .st is :: r, a, w => wpYield P l.toArray S (fun a' => wpPlan2 P l S S2 Q r a' w) (pick l is) a
  | .wk is :: r, a, w => wpYield P l.toArray S2 (fun a' => wpPlan2 P l S S2 Q r a' w) (pick l is) a
  | .mv i :: r, a, w => wpList P l.toArray (fun e a' w' => e = .normal ∧ (S w' ∧ S2 w') ∧ wpPlan2 P l S S2 Q r a' w') (pick l [i]) a w
  | .tm i :: r, a, w => wpList P l.toArray (fun e a' w' => e = .normal ∧ S2 w' ∧ wpPlan2 P l S S2 Q r a' w') (pick l [i]) a w
end
section
variable {P : Program} {l : List Oper} {S S2 : World → Prop} {Q : Exit → Act → World → Prop} {md : Region.Mode} {ex : List Nat}
theorem rd_sound {T : World → Prop} {ex' : List Nat} (keep : ∀ (j : Nat) (w w' : World), StepOk S S2 ex j w w' → ex'.contains j = false → T w → T w') (hs : Region.noSelect l.toArray = true) {w : World} (hT : T w) {R : Act → Prop} (N : Nat) : ∀ (is : List Nat) (listed : Array Bool) (a : Act), Closed md l.toArray listed → stOk md l.toArray ex' is listed = true →
    (∀ a', Closed md l.toArray (marks is listed) → R a' → wpAnyZ P md l.toArray (Calm Q) S S2 ex N (marks is listed) a' w) → wpYield P l.toArray T R (pick l is) a → wpAnyZ P md l.toArray (Calm Q) S S2 ex (is.length + N) listed a w
  | [], listed, a, hc, _, hN, h => by simpa [marks] using hN a hc h
  | i :: is, listed, a, hc, h1, hN, h => by
    simp only [stOk, Bool.and_eq_true] at h1
    obtain ⟨⟨⟨hr, hf⟩, hwt⟩, hrest⟩ := h1
    have hr' : i ∈ Region.ready md l.toArray listed := by simpa using hr
    obtain ⟨o, ho⟩ := getD_size hr'
    simp only [pick, pick_one ho, List.cons_append, List.nil_append] at h
    have hlen : (i :: is).length + N = (is.length + N) + 1 := by simp; omega
    rw [hlen]
    have hwt' : ∀ m ∈ ex', waits md l.toArray l.toArray.size m i = true := fun m hm => List.all_eq_true.1 hwt m hm
    have key : ∀ v, YieldsIf P l.toArray T o v a → wpYield P l.toArray T R (pick l is) (a.put o.dst v) → wpAnyZ P md l.toArray (Calm Q) S S2 ex (is.length + N + 1) listed a w := fun v hy hn =>
      wpAnyZ_first keep ho (Region.noSelect_spec hs) (fun _ _ _ q => q) l.toArray.size hwt' _ listed a w hc (Region.free_spec ho hf) hr' hy hT
        (rd_sound keep hs hT N is (listed.setIfInBounds i true) (a.put o.dst v) (closed_set hc hr') hrest hN hn)
    unfold wpYield at h
    split at h
    · rename_i hwd
      obtain ⟨v, hv, hn⟩ := h
      exact key v (.inl ⟨hwd, hv⟩) hn
    · rename_i hwd
      exact key undef (.inr ⟨by simpa using hwd, rfl⟩) h
theorem plan2_sound (hs : Region.noSelect l.toArray = true) : ∀ (segs : List Sg) (listed : Array Bool) (a : Act) (w : World), Closed md l.toArray listed → plan2Ok md l.toArray ex segs listed = true →
    (∀ i ∈ exOf2 segs, i ∈ ex) → (S w ∧ endTm segs = true) ∨ onlyTm segs = true → S2 w →
    wpPlan2 P l S S2 Q segs a w → wpAnyZ P md l.toArray (Calm Q) S S2 ex (lens2 segs) listed a w
  | [], listed, a, w, _, hB, _, _, _, h => ⟨by simpa [plan2Ok] using hB, h⟩
  | .pu is :: r, listed, a, w, hc, hB, hx, hS, h2, h => by
    simp only [plan2Ok, Bool.and_eq_true] at hB
    exact rd_sound (T := fun _ => True) (ex' := []) (fun _ _ _ _ _ _ => trivial) hs trivial (lens2 r) is listed a hc hB.1 (fun a' hc' hr => plan2_sound hs r _ a' w hc' hB.2 hx (hS.imp (fun h => ⟨h.1, h.2⟩) id) h2 hr) h
  | .st is :: r, listed, a, w, hc, hB, hx, hS, h2, h => by
    obtain ⟨hS, he⟩ := hS.resolve_right (by simp [onlyTm])
    simp only [plan2Ok, Bool.and_eq_true] at hB
    exact rd_sound (T := S) (ex' := ex) (fun j w w' hk hj h => hk.1 hj h) hs hS (lens2 r) is listed a hc hB.1 (fun a' hc' hr => plan2_sound hs r _ a' w hc' hB.2 hx (.inl ⟨hS, he⟩) h2 hr) h
  | .wk is :: r, listed, a, w, hc, hB, hx, hS, h2, h => by
    simp only [plan2Ok, Bool.and_eq_true] at hB
    exact rd_sound (T := S2) (ex' := []) (fun j w w' hk _ h => hk.2 h) hs h2 (lens2 r) is listed a hc hB.1 (fun a' hc' hr => plan2_sound hs r _ a' w hc' hB.2 hx (hS.imp (fun h => ⟨h.1, h.2⟩) id) h2 hr) h
  | .mv i :: r, listed, a, w, hc, hB, hx, hS, h2, h => by
    obtain ⟨_, he⟩ := hS.resolve_right (by simp [onlyTm])
    simp only [plan2Ok, Bool.and_eq_true, beq_iff_eq] at hB
    obtain ⟨h1, h3⟩ := hB
    have hr' : i ∈ Region.ready md l.toArray listed := by rw [h1]; simp
    obtain ⟨o, ho⟩ := getD_size hr'
    unfold wpPlan2 at h
    simp only [pick, pick_one ho, List.append_nil] at h
    have hlen : lens2 (.mv i :: r) = lens2 r + 1 := by simp [lens2, Sg.nums]; omega
    rw [hlen]
    refine ⟨fun h0 => (by rw [h1] at h0; cases h0), fun j hj => ?_⟩
    rw [h1] at hj
    obtain rfl : j = i := by simpa using hj
    refine wpOp_mono (fun a' w' hh => ?_) (wpOp_of_one ho h)
    obtain ⟨_, ⟨hS', h2'⟩, hn⟩ := hh
    exact ⟨⟨fun _ _ => hS', fun _ => h2'⟩, plan2_sound hs r _ a' w' (closed_set hc hr') h3 hx (.inl ⟨hS', he⟩) h2' hn⟩
  | .tm i :: r, listed, a, w, hc, hB, hx, hS, h2, h => by
    have he : onlyTm r = true := by
      rcases hS with ⟨_, he⟩ | he
      · exact he
      · exact he
    simp only [plan2Ok, Bool.and_eq_true, beq_iff_eq] at hB
    obtain ⟨h1, h3⟩ := hB
    have hr' : i ∈ Region.ready md l.toArray listed := by rw [h1]; simp
    obtain ⟨o, ho⟩ := getD_size hr'
    unfold wpPlan2 at h
    simp only [pick, pick_one ho, List.append_nil] at h
    have hlen : lens2 (.tm i :: r) = lens2 r + 1 := by simp [lens2, Sg.nums]; omega
    rw [hlen]
    refine ⟨fun h0 => (by rw [h1] at h0; cases h0), fun j hj => ?_⟩
    rw [h1] at hj
    obtain rfl : j = i := by simpa using hj
    have hmem : ex.contains j = true := by simpa using hx j (by simp [exOf2])
    refine wpOp_mono (fun a' w' hh => ?_) (wpOp_of_one ho h)
    obtain ⟨_, h2', hn⟩ := hh
    exact ⟨⟨fun hxx _ => (by rw [hmem] at hxx; cases hxx), fun _ => h2'⟩, plan2_sound hs r _ a' w' (closed_set hc hr') h3 (fun k hk => hx k (by simp [exOf2, hk])) (.inr he) h2' hn⟩
/-- A region that draws its order, by such a plan. -/
theorem region_plan2 {id : Nat} {a : Act} {w : World} (S S2 : World → Prop) (segs : List Sg) (hm : P.follows .mixedOrders = true)
    (hB : (Region.noSelect l.toArray && plan2Ok .any l.toArray (exOf2 segs) segs (Array.replicate l.toArray.size false) && endTm segs && (lens2 segs == l.toArray.size)) = true) (hS : S w.drew) (hS2 : S2 w.drew) (h : wpPlan2 P l S S2 Q segs a w.drew) : (Code.region id l.toArray true).wp P Q a w := by
  simp only [Bool.and_eq_true, beq_iff_eq] at hB
  obtain ⟨⟨⟨hs, hp⟩, he⟩, hn⟩ := hB
  refine Code.wp_mono (Q := Calm Q) (fun e a w q => by cases e <;> first | exact q | exact q.elim) ?_
  refine wp_region_any hm (wpAny_of_Z (S := S) (S2 := S2) (ex := exOf2 segs) _ _ _ _ ?_)
  have := plan2_sound (md := .any) (ex := exOf2 segs) (P := P) (S := S) (S2 := S2) (Q := Q) hs segs (Array.replicate l.toArray.size false) a w.drew
    (fun j oj _ hl => by rw [getD_replicate_false] at hl; cases hl) hp (fun _ hi => hi) (.inl ⟨hS, he⟩) hS2 h
  rw [hn] at this
  exact this
end

section
variable {P : Program} {N : Nat} {S : List Nat} {W0 : World} {K : Slots} {L : Ents} {Q : Exit → Act → World → Prop} {l : List Oper} {Ls Lw : Ents}
def AtQ (P : Program) (N : Nat) (S : List Nat) (W0 : World) (l : List Oper) (Ls Lw : Ents) (K : Slots) (L : Ents) (segs : List Sg) (Q : Exit → Act → World → Prop) : Prop :=
  ∀ a w, Kn N K a → Rep S W0 L w → wpPlan2 P l (Rep S W0 Ls) (Rep S W0 Lw) Q segs a w
theorem At.plan2 {id : Nat} {ops : Array Oper} (Ls : Ents) (idx : List Nat) (hl : selL L idx = some Ls) (hn : nodupB idx = true) (Lw : Ents) (idw : List Nat) (hl2 : selL L idw = some Lw) (hn2 : nodupB idw = true) (segs : List Sg) (hm : P.follows .mixedOrders = true)
    (hB : (Region.noSelect ops && plan2Ok .any ops (exOf2 segs) segs (Array.replicate ops.size false) && endTm segs && (lens2 segs == ops.size)) = true)
    (h : AtQ P N S W0 ops.toList Ls Lw K L segs Q) : At P N S W0 K L (.region id ops true) Q := by
  intro a w hK hR
  have := region_plan2 (P := P) (l := ops.toList) (id := id) (a := a) (Q := Q) (w := w) (Rep S W0 Ls) (Rep S W0 Lw) segs hm (by simpa using hB) (hR.sel hl hn).drew (hR.sel hl2 hn2).drew (h a w.drew hK hR.drew)
  simpa using this
theorem AtQ.nil (h : Ends N S W0 K L .normal Q) : AtQ P N S W0 l Ls Lw K L [] Q := fun a w hK hR => h a w hK hR
theorem AtQ.pu {is : List Nat} {r : List Sg} (h : AtY P N S W0 (fun _ => True) K L l.toArray (pick l is) (wpPlan2 P l (Rep S W0 Ls) (Rep S W0 Lw) Q r)) : AtQ P N S W0 l Ls Lw K L (.pu is :: r) Q := fun a w hK hR => h a w hK hR
theorem AtQ.st {is : List Nat} {r : List Sg} (h : AtY P N S W0 (Rep S W0 Ls) K L l.toArray (pick l is) (wpPlan2 P l (Rep S W0 Ls) (Rep S W0 Lw) Q r)) : AtQ P N S W0 l Ls Lw K L (.st is :: r) Q := fun a w hK hR => h a w hK hR
theorem AtQ.wk {is : List Nat} {r : List Sg} (h : AtY P N S W0 (Rep S W0 Lw) K L l.toArray (pick l is) (wpPlan2 P l (Rep S W0 Ls) (Rep S W0 Lw) Q r)) : AtQ P N S W0 l Ls Lw K L (.wk is :: r) Q := fun a w hK hR => h a w hK hR
theorem AtQ.mv {i : Nat} {r : List Sg} (h : AtL P N S W0 K L l.toArray (pick l [i]) (fun e a' w' => e = .normal ∧ (Rep S W0 Ls w' ∧ Rep S W0 Lw w') ∧ wpPlan2 P l (Rep S W0 Ls) (Rep S W0 Lw) Q r a' w')) : AtQ P N S W0 l Ls Lw K L (.mv i :: r) Q := fun a w hK hR => h a w hK hR
theorem AtQ.tm {i : Nat} {r : List Sg} (h : AtL P N S W0 K L l.toArray (pick l [i]) (fun e a' w' => e = .normal ∧ Rep S W0 Lw w' ∧ wpPlan2 P l (Rep S W0 Ls) (Rep S W0 Lw) Q r a' w')) : AtQ P N S W0 l Ls Lw K L (.tm i :: r) Q := fun a w hK hR => h a w hK hR
theorem Ends.qmv {r : List Sg} (idx : List Nat) (hl : selL L idx = some Ls) (hn : nodupB idx = true) (idw : List Nat) (hl2 : selL L idw = some Lw) (hn2 : nodupB idw = true) (h : AtQ P N S W0 l Ls Lw K L r Q) : Ends N S W0 K L .normal (fun e a' w' => e = .normal ∧ (Rep S W0 Ls w' ∧ Rep S W0 Lw w') ∧ wpPlan2 P l (Rep S W0 Ls) (Rep S W0 Lw) Q r a' w') := fun a w hK hR =>
  ⟨rfl, ⟨hR.sel hl hn, hR.sel hl2 hn2⟩, h a w hK hR⟩
theorem Ends.qtm {r : List Sg} (idw : List Nat) (hl2 : selL L idw = some Lw) (hn2 : nodupB idw = true) (h : AtQ P N S W0 l Ls Lw K L r Q) : Ends N S W0 K L .normal (fun e a' w' => e = .normal ∧ Rep S W0 Lw w' ∧ wpPlan2 P l (Rep S W0 Ls) (Rep S W0 Lw) Q r a' w') := fun a w hK hR =>
  ⟨rfl, hR.sel hl2 hn2, h a w hK hR⟩
theorem AtY.nilq {X : World → Prop} {ops : Array Oper} {m : List Oper} {r : List Sg} (hm : m = []) (h : AtQ P N S W0 l Ls Lw K L r Q) : AtY P N S W0 X K L ops m (wpPlan2 P l (Rep S W0 Ls) (Rep S W0 Lw) Q r) := by
  subst hm; exact fun a w hK hR => h a w hK hR
end

open Go.ChangeShapes Go.WideShapes Go.Deep
/-- A number is one of its kind. -/
def fit : Value → Prop
  | .int k n => k.min ≤ n ∧ n ≤ k.max
  | .string s => s.size ≤ maxLen
  | _ => True
def Fits (l : List Value) : Prop := ∀ v ∈ l, fit v
theorem Fits.nil : Fits [] := fun _ h => by cases h
theorem Fits.app {l r : List Value} (h : Fits l) (h2 : Fits r) : Fits (l ++ r) := fun v hv => (List.mem_append.1 hv).elim (h v) (h2 v)
theorem Fits.one {v : Value} (h : fit v) : Fits [v] := fun u hu => by simp only [List.mem_singleton] at hu; subst hu; exact h
theorem someOf {α : Type} {xs : List α} {i n : Nat} (hl : xs.length = n) (hi : i < n) : ∃ y, xs[i]? = some y := ⟨_, List.getElem?_eq_getElem (by omega)⟩
/-- A row of cells is its parts, one behind the other. -/
def contig : Nat → List (Nat × Nat) → Nat → Bool
  | o, [], t => o == t
  | o, (p, n) :: r, t => p == o && contig (o + n) r t
theorem parts_ : ∀ (l : List (Nat × Nat)) (o t : Nat) (cs : List Value), contig o l t = true → cs.length = t → cs.drop o = (l.map fun x => (cs.drop x.1).take x.2).flatten
  | [], o, t, cs, h, hl => by
    simp only [contig, beq_iff_eq] at h
    simp [List.drop_eq_nil_of_le (show cs.length ≤ o by omega)]
  | (p, n) :: r, o, t, cs, h, hl => by
    simp only [contig, Bool.and_eq_true, beq_iff_eq] at h
    obtain ⟨rfl, h⟩ := h
    have ih := parts_ r (p + n) t cs h hl
    simp only [List.map_cons, List.flatten_cons, ← ih]
    rw [← List.drop_drop]
    exact (List.take_append_drop n (cs.drop p)).symm
theorem parts {cs : List Value} {t : Nat} (l : List (Nat × Nat)) (h : contig 0 l t = true) (hl : cs.length = t) : cs = (l.map fun x => (cs.drop x.1).take x.2).flatten := by
  have := parts_ l 0 t cs h hl
  rwa [List.drop_zero] at this
section
variable {P : Program} {H : Type} {enc : TypeId × Value → H} {W : World} {base : Nat} {spare : Nat → Bool} {held : Bool} {fuel : Nat} {cs : List Value} {x : DataW H × List MemPlace} {t : TypeId}
theorem fo_int {k : IntKind} (ht : P.underlying t = some (.int k)) (h : DataW.trod enc P W base spare held fuel t cs = some x) : ∃ n : Int, cs = [.int k n] ∧ Fits [.int k n] := by
  obtain ⟨n, hn, _, hw⟩ := DataW.trod_int ht h
  simp only [Lit.wf, Bool.and_eq_true, decide_eq_true_eq] at hw
  exact ⟨n, hn, .one hw⟩
theorem fo_bool (ht : P.underlying t = some .bool) (h : DataW.trod enc P W base spare held fuel t cs = some x) : ∃ b : Bool, cs = [.bool b] ∧ Fits [.bool b] := by
  obtain ⟨n, hn, _⟩ := DataW.trod_bool ht h
  exact ⟨n, hn, .one trivial⟩
theorem fo_string (ht : P.underlying t = some .string) (h : DataW.trod enc P W base spare held fuel t cs = some x) : ∃ s : ByteArray, cs = [.string s] ∧ Fits [.string s] := by
  obtain ⟨n, hn, _, hs⟩ := DataW.trod_string ht h
  exact ⟨n, hn, .one hs⟩
theorem wide_int {r : Reach} {v : Value} {k : IntKind} (ht : P.underlying t = some (.int k)) (h : Value.okWide P W r base t v) (hx : DataW.trod enc P W 0 (fun _ => true) true fuel t v.cells.toList = some x) : ∃ n, v = .int k n := by
  obtain ⟨n, hn, _⟩ := DataW.trod_int ht hx
  cases v with
  | agg c => simp [Value.okWide, ht, Cell.okWide, Cell.ok] at h
  | _ => simp_all [Value.cells]
theorem wide_bool {r : Reach} {v : Value} (ht : P.underlying t = some .bool) (h : Value.okWide P W r base t v) (hx : DataW.trod enc P W 0 (fun _ => true) true fuel t v.cells.toList = some x) : ∃ n, v = .bool n := by
  obtain ⟨n, hn, _⟩ := DataW.trod_bool ht hx
  cases v with
  | agg c => simp [Value.okWide, ht, Cell.okWide, Cell.ok] at h
  | _ => simp_all [Value.cells]
theorem addrAdd (b off n : Nat) : (⟨b, off, none⟩ : Addr).add n = ⟨b, off + n, none⟩ := by unfold Addr.add; split <;> simp_all
/-- A slice that came in, over elements that are opened. -/
theorem fo_slice {α : Type} {f : α → List Value} {Pr : α → Prop} (d : α) {k : Nat} {e : TypeId} (ht : P.underlying t = some (.slice e)) (hk : P.cellsOf e = k) (hpos : 0 < k) (hf : ∀ l : α, (f l).length = k)
    (hel : ∀ n cs x, DataW.trod enc P W base spare held n e cs = some x → ∃ l : α, cs = f l ∧ Pr l) (h : DataW.trod enc P W base spare held fuel t cs = some x) (hsp : spare = fun _ => true) :
    ∃ (a : Option Addr) (cap : Nat) (xs : List α), cs = [.slice a xs.length cap] ∧ Sl k f W a cap xs ∧ ∀ y ∈ xs, Pr y := by
  subst hsp
  rcases open_slice ht h with ⟨hcs, _⟩ | ⟨a, len, cap, m, n, D, Pl, hcs, hb, hl, hm, hmm, hx, hi⟩
  · exact ⟨none, 0, [], hcs, Sl.nil _ _ _, by simp⟩
  · simp only [if_true] at hmm
    have hex : ∀ i, ∃ l : α, i < m → W.cells? base (a.add (i * k)) k = some (f l) ∧ Pr l := fun i => by
      by_cases him : i < m
      · obtain ⟨cs', hc, ht'⟩ := hi i him
        obtain ⟨l, hl', hp⟩ := hel n cs' _ ht'
        rw [hk] at hc
        exact ⟨l, fun _ => ⟨by rw [hc, hl'], hp⟩⟩
      · exact ⟨d, fun h => absurd h him⟩
    obtain ⟨g, hg⟩ := Classical.axiomOfChoice hex
    refine ⟨some a, cap, (List.range len).map g, by rw [hcs, List.length_map, List.length_range], ⟨by simpa using hl, by unfold maxLen at hm; omega, fun h0 => ?_⟩, fun y hy => ?_⟩
    · have h0' : 0 < len := by simpa using h0
      obtain ⟨b, off, spot⟩ := a
      have h00 := (hg 0 (by omega)).1
      obtain ⟨_, _, hat0⟩ := World.cells?_some h00
      have hat := (hat0 0 hpos).trans (List.getElem?_eq_getElem (by rw [hf]; exact hpos))
      have hspot : spot = none := by simpa [Addr.add] using World.cell?_spot hat
      subst hspot
      have hlt : b < W.heap.size := by
        have h9 := cell_lt (by simpa [Addr.add] using hat : W.cell? ⟨b, off, none⟩ = some _)
        exact h9
      refine ⟨b, off, rfl, hlt, fun i hi' j v hv => ?_⟩
      have hi2 : i < len := by simpa using hi'
      have hgi := (hg i (by omega)).1
      obtain ⟨_, hcl, hat1⟩ := World.cells?_some hgi
      simp only [List.getElem_map, List.getElem_range] at hv
      have hj : j < k := by have h9 := (List.getElem?_eq_some_iff.1 hv).1; rwa [hf] at h9
      have h1 := hat1 j hj
      rw [hv] at h1
      rw [addrAdd, addrAdd] at h1
      exact h1
    · obtain ⟨i, hi', rfl⟩ := List.mem_map.1 hy
      exact (hg i (by have := List.mem_range.1 hi'; omega)).2
end
end Go.Proofs.Ytojnpaenpaobcaa
