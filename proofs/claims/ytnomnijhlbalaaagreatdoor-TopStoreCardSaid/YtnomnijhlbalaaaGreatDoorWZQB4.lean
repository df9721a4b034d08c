/- A part of the proof of the theorem of the last file. No condition. By an AI agent. -/
import Derived.WalkKit
import Derived.Below
import Derived.Lib.Hide
import Derived.BigQuiet
import Derived.Deep.RegionHeld3
import Derived.Deep.LoopGhost
import Derived.Deep.DeepCutAuto
import Derived.StillTailTactics
import Derived.OrdersHeld
import Derived.Deep.AppendLies
import Derived.Deep.AppendSrc
namespace Go.Proofs.YtnomnijhlbalaaaGreatDoor
open Go.RowKit
theorem nbT {a b : Nat} (h : Nat.beq a b = true) : a = b := Nat.eq_of_beq_eq_true h
structure Ex (S : List Nat) (w w' : World) : Prop where
 os : w'.os = w.os
 tape : w'.tape = w.tape
 output : w'.output = w.output
 size : w.heap.size <= w'.heap.size
 block : ∀ k, k < w.heap.size -> k ∉ S -> w'.heap[k]? = w.heap[k]?
abbrev Ext (w w' : World) : Prop := Ex [] w w'
theorem Ex.refl (S : List Nat) (w : World) : Ex S w w := ⟨rfl, rfl, rfl, Nat.le_refl _, fun _ _ _ => rfl⟩
theorem Ex.trans {S : List Nat} {a b c : World} (h : Ex S a b) (k : Ex S b c) : Ex S a c :=
 ⟨k.os.trans h.os, k.tape.trans h.tape, k.output.trans h.output, Nat.le_trans h.size k.size, fun i hi hs => (k.block i (Nat.lt_of_lt_of_le hi h.size) hs).trans (h.block i hi hs)⟩
theorem Ex.mono {S T : List Nat} {a b : World} (h : Ex S a b) (hs : ∀ x ∈ S, x ∈ T) : Ex T a b :=
 ⟨h.os, h.tape, h.output, h.size, fun i hi hn => h.block i hi (fun hm => hn (hs i hm))⟩
theorem Ex.ex {a b : World} (h : Ext a b) (S : List Nat) : Ex S a b := h.mono (by simp)
theorem Ex.fresh {S T : List Nat} {a b : World} (h : Ex S a b) (hs : ∀ x ∈ S, x ∈ T \/ a.heap.size <= x) : Ex T a b :=
 ⟨h.os, h.tape, h.output, h.size, fun i hi hn => h.block i hi (fun hm => by rcases hs i hm with h1 | h1; exact hn h1; omega)⟩
theorem Ex.alloc {S : List Nat} {a w : World} (h : Ex S a w) (o : Obj) : Ex S a (w.alloc o) :=
 h.trans ⟨rfl, rfl, rfl, by simp, fun k hk _ => Below.heap_alloc _ _ _ hk⟩
theorem Ex.drew {S : List Nat} {a w : World} (h : Ex S a w) : Ex S a w.drew := ⟨h.os, h.tape, h.output, h.size, h.block⟩
theorem Ex.drewN {S : List Nat} {a w : World} (h : Ex S a w) (n : Nat) : Ex S a (w.drewN n) := ⟨h.os, h.tape, h.output, h.size, h.block⟩
theorem Ex.setCell {S : List Nat} {a w : World} (h : Ex S a w) {p : Addr} (hp : p.block ∈ S \/ a.heap.size <= p.block) (u : Value) : Ex S a (w.setCell p u) :=
 ⟨h.os, h.tape, h.output, by simpa [World.setCell] using h.size, fun k hk hs => by
  rw [Below.heap_setCell _ _ _ _ (fun e => by subst e; rcases hp with h1 | h1; exact hs h1; omega)]; exact h.block k hk hs⟩
theorem Ex.below {w w' : World} (h : Ext w w') : Below w.heap.size w w' := ⟨h.os, h.tape, h.output, h.size, fun k hk => h.block k hk (by simp)⟩
theorem Ex.of_below {w w' : World} (h : Below w.heap.size w w') : Ext w w' := ⟨h.os, h.tape, h.output, h.size, fun k hk _ => h.block k hk⟩
theorem Ex.of_grown {w w' : World} {row : Option Nat} (hg : w.grownBy w' row) : Ex row.toList w w' :=
 ⟨hg.os, hg.tape, hg.output, hg.size, fun k hk hs => hg.block k hk (fun e => hs (by simp [<- e]))⟩
theorem cell_lt {w : World} {b o : Nat} {v : Value} (hc : w.cell? ⟨b, o, none⟩ = some v) : b < w.heap.size := World.block_lt_of_cell? w ⟨b, o, none⟩ hc
theorem Ex.cell {S : List Nat} {w w' : World} (h : Ex S w w') {b o : Nat} {v : Value} (hs : b ∉ S) (hc : w.cell? ⟨b, o, none⟩ = some v) : w'.cell? ⟨b, o, none⟩ = some v := by
 rw [<- hc]; exact World.cell?_of_block (w := w) (h.block b (cell_lt hc) hs)
theorem Ex.heap {S : List Nat} {w w' : World} (h : Ex S w w') {b : Nat} {o : Obj} (hs : b ∉ S) (hc : w.heap[b]? = some o) : w'.heap[b]? = some o := by
 rw [h.block b (lt_of_block hc) hs]; exact hc
theorem xAb {w : World} {b : Nat} {cs : Array Value} {t : TypeId} {z : Nat × Nat} (h : w.heap[b]? = some (.cells cs t z)) (i : Nat) {v : Value} (hv : cs[i]? = some v) : w.cell? ⟨b, i, none⟩ = some v := by
 simp [World.cell?, h, hv]
theorem xBv {w : World} {b : Nat} {cs : Array Value} {t : TypeId} (h : w.heap[b]? = some (.cells cs t (0, 0))) (i : Nat) : w.frozen? ⟨b, i, none⟩ = false := by
 simp [World.frozen?, h]
theorem xAF {w : World} {b : Nat} {cs : Array Value} {t : TypeId} {z : Nat × Nat} (h : w.heap[b]? = some (.cells cs t z)) (i : Nat) (u : Value) :
  (w.setCell ⟨b, i, none⟩ u).heap[b]? = some (.cells (cs.setIfInBounds i u) t z) := by
 have hlt := lt_of_block h;have h' : w.heap[b] = .cells cs t z := by simpa [Array.getElem?_eq_getElem hlt] using h
 show (w.heap.modify b _)[b]? = _;rw [Array.getElem?_eq_getElem (by simpa using hlt), Array.getElem_modify_self, h'];rfl
theorem xAu {w : World} {b c i : Nat} {u : Value} {o : Obj} (h : w.heap[b]? = some o) (hn : b ≠ c) : (w.setCell ⟨c, i, none⟩ u).heap[b]? = some o := by
 rw [Below.heap_setCell _ _ _ _ hn]; exact h
theorem xBB {w : World} {b : Nat} {o o' : Obj} (h : w.heap[b]? = some o) : (w.alloc o').heap[b]? = some o := by
 rw [Below.heap_alloc _ _ _ (lt_of_block h)]; exact h
theorem xAq (w : World) (o : Obj) : (w.alloc o).heap[w.heap.size]? = some o := heap_alloc_new w o
theorem xLC {w : World} {b : Nat} {o : Obj} (h : w.heap[b]? = some o) : w.drew.heap[b]? = some o := h
theorem xVx {w : World} {b : Nat} {cs cs' : Array Value} {t : TypeId} {z : Nat × Nat} (h : w.heap[b]? = some (.cells cs t z)) (hc : cs = cs') : w.heap[b]? = some (.cells cs' t z) := hc ▸ h
theorem xAp {S : List Nat} {W : World} {b : Nat} {cs : Array Value} {t : TypeId} {z : Nat × Nat} (h : W.heap[b]? = some (.cells cs t z)) (hs : b ∉ S) (i : Nat) {v : Value} (hv : cs[i]? = some v) :
  ∀ w', Ex S W w' -> w'.cell? ⟨b, i, none⟩ = some v := fun _ hE => hE.cell hs (xAb h i hv)
theorem xF9 {P : Program} {c : Code} {Q : Exit -> Act -> World -> Prop} {a : Act} {X : World} (F : World -> Prop) (h : F X) (k : ∀ W, F W -> c.wp P Q a W) : c.wp P Q a X := k X h
def Ret (v : Value) (w : World) : Ending -> World -> Prop := fun e w' => e = .returned v /\ Ext w w'
structure Sl {α : Type} (k : Nat) (f : α -> List Value) (w : World) (a : Option Addr) (cap : Nat) (xs : List α) : Prop where
 le : xs.length <= cap
 big : cap <= 9223372036854775807
 cells : 0 < xs.length -> ∃ b off, a = some ⟨b, off, none⟩ /\ b < w.heap.size /\ ∀ i (hi : i < xs.length) j v, (f xs[i])[j]? = some v -> w.cell? ⟨b, off + i * k + j, none⟩ = some v
theorem Sl.ext {α : Type} {k : Nat} {f : α -> List Value} {w w' : World} {a : Option Addr} {cap : Nat} {xs : List α} (h : Sl k f w a cap xs) (hE : Ext w w') : Sl k f w' a cap xs :=
 ⟨h.le, h.big, fun h0 => by
  obtain ⟨b, off, ha, hb, hc⟩ := h.cells h0;exact ⟨b, off, ha, Nat.lt_of_lt_of_le hb hE.size, fun i hi j v hv => hE.cell (by simp) (hc i hi j v hv)⟩⟩
theorem Sl.nil {α : Type} (k : Nat) (f : α -> List Value) (w : World) : Sl k f w none 0 [] := ⟨Nat.le_refl _, by omega, fun h => absurd h (by simp)⟩
def nth {α : Type} (xs : List α) (d : α) (k : Nat) : α := xs.getD k d
theorem xAG {α : Type} (xs : List α) (d : α) (k : Nat) (h : k < xs.length) : xs[k] = nth xs d k := by simp [nth, h]
theorem Sl.block {α : Type} {k : Nat} {f : α -> List Value} {w : World} {b : Nat} {cs : Array Value} {t : TypeId} {z : Nat × Nat} {xs : List α} (h : w.heap[b]? = some (.cells cs t z))
  (hn : xs.length <= 9223372036854775807) (hx : ∀ i (hi : i < xs.length) j v, (f xs[i])[j]? = some v -> cs[i * k + j]? = some v) : Sl k f w (some ⟨b, 0, none⟩) xs.length xs :=
 ⟨Nat.le_refl _, hn, fun _ => ⟨b, 0, rfl, lt_of_block h, fun i hi j v hv => by rw [Nat.zero_add]; exact xAb h _ (hx i hi j v hv)⟩⟩
theorem xDY {S : List Nat} {W : World} {b : Nat} {cs : Array Value} {t : TypeId} (h : W.heap[b]? = some (.cells cs t (0, 0))) (hs : b ∉ S) (i : Nat) :
  ∀ w', Ex S W w' -> w'.frozen? ⟨b, i, none⟩ = false := fun _ hE => xBv (hE.heap hs h) i
theorem ret_at {P : Program} {fn : Func} {R : Ending -> World -> Prop} {e : Exit} {a : Act} {X : World} (F : World -> Prop) (h : F X) (k : ∀ W, F W -> bodyPost P fn R e a W) : bodyPost P fn R e a X := k X h
theorem xIf {P : Program} {id : Nat} {Q : Exit -> Act -> World -> Prop} {a : Act} {w : World} {l : List Oper} (n : Nat) (hm : P.follows .mixedOrders = true) (hB : Region.lexTailB .any l.toArray n = true)
  (h : wpStill P l.toArray w.drew (fun a' => wpList P l.toArray Q (l.drop n) a' w.drew) (l.take n) a) : (Code.region id l.toArray true).wp P Q a w :=
 wp_region_still_tail n hm hB h
section
variable {P : Program} {ops : Array Oper} {Q : Exit -> Act -> World -> Prop} {md : Region.Mode} {S : World -> Prop} {ex : List Nat}
def xCH (P : Program) (md : Region.Mode) (ops : Array Oper) (Q : Exit -> Act -> World -> Prop) (S : World -> Prop) (ex : List Nat) : Nat -> Array Bool -> Act -> World -> Prop
 | 0, listed, a, w => Region.ready md ops listed = [] /\ Q .normal a w
 | fuel + 1, listed, a, w =>
  (Region.ready md ops listed = [] -> Q .normal a w) /\
  ∀ i ∈ Region.ready md ops listed, wpOp P ops Q i (fun a' w' => (ex.contains i = false -> S w -> S w') /\ xCH P md ops Q S ex fuel (listed.setIfInBounds i true) a' w') a w
theorem xJm : ∀ (fuel : Nat) (listed : Array Bool) (a : Act) (w : World), xCH P md ops Q S ex fuel listed a w -> wpAny P md ops Q fuel listed a w
 | 0, _, _, _, h => h
 | fuel + 1, _, _, _, h => ⟨h.1, fun i hi => wpOp_mono (fun a' w' h' => xJm fuel _ a' w' h'.2) (h.2 i hi)⟩
def waits (md : Region.Mode) (ops : Array Oper) : Nat -> Nat -> Nat -> Bool
 | 0, _, _ => false
 | n + 1, m, i => match ops[m]? with
  | none => false
  | some o => o.after.any fun e => Region.binds md e && (e.on == i || waits md ops n e.on i)
def Closed (md : Region.Mode) (ops : Array Oper) (listed : Array Bool) : Prop :=
 ∀ j oj, ops[j]? = some oj -> listed.getD j false = true -> ∀ e ∈ oj.after, Region.binds md e = true -> listed.getD e.on false = true
theorem xEc {listed : Array Bool} (hc : Closed md ops listed) : ∀ (n m i : Nat), waits md ops n m i = true -> (∀ o, ops[m]? = some o -> ∀ e ∈ o.after, Region.binds md e = true -> listed.getD e.on false = true) -> listed.getD i false = true
 | 0, _, _, h, _ => by simp [waits] at h
 | n + 1, m, i, h, hm => by
  unfold waits at h
  cases ho : ops[m]? with
  | none => simp [ho] at h
  | some o =>
   simp only [ho] at h;obtain ⟨e, he, hb⟩ := Array.any_eq_true'.1 h;simp only [Bool.and_eq_true, Bool.or_eq_true, beq_iff_eq] at hb;obtain ⟨hb1, hb2⟩ := hb;have hl := hm o ho e he hb1;rcases hb2 with hb2 | hb2
   ·rw [<- hb2]; exact hl
   ·exact xEc hc n e.on i hb2 (fun o' ho' => hc e.on o' ho' hl)
theorem xBd {listed : Array Bool} {i : Nat} (hc : Closed md ops listed) (hr : i ∈ Region.ready md ops listed) : Closed md ops (listed.setIfInBounds i true) := by
 intro j oj hj hl e he hb;by_cases hji : j = i
 ·subst hji;obtain ⟨_, o, ho, hall⟩ := mem_ready.1 hr;rw [hj] at ho; cases ho;exact getD_set_true (hall e he hb)
 ·rw [getD_set_ne false (Ne.symm hji)] at hl;exact getD_set_true (hc j oj hj hl e he hb)
theorem xBD {listed : Array Bool} {i : Nat} (hr : i ∈ Region.ready md ops listed) : listed.getD i false = false := by
 have h0 := (mem_ready.1 hr).1;rcases Nat.lt_or_ge i listed.size with h' | h'
 ·simpa [h'] using h0
 ·simp [Array.getElem?_eq_none h']
theorem xLL {i : Nat} {oi : Oper} {v : Value} (hi : ops[i]? = some oi) (hsel : ∀ (j : Nat) (o : Oper) cs b, ops[j]? = some o -> o.op ≠ .select cs b)
  (hQ : ∀ c a w, Q (.panic c) (a.put oi.dst v) w -> Q (.panic c) a w) (n : Nat) (hw : ∀ m ∈ ex, waits md ops n m i = true) :
  ∀ (fuel : Nat) (listed : Array Bool) (a : Act) (w : World), Closed md ops listed ->
   (∀ j oj, ops[j]? = some oj -> j ≠ i -> listed.getD j true = false -> (∀ e ∈ oj.after, Region.binds md e = true -> e.on ≠ i) -> oi.apart ops oj = true) ->
   i ∈ Region.ready md ops listed -> YieldsIf P ops S oi v a -> S w ->
   xCH P md ops Q S ex fuel (listed.setIfInBounds i true) (a.put oi.dst v) w -> xCH P md ops Q S ex (fuel + 1) listed a w := by
 intro fuel
 induction fuel with
 | zero =>
  intro listed a w _ _ hr hy hS H;refine ⟨fun h => (by rw [h] at hr; cases hr), fun j hj => ?_⟩;by_cases hji : j = i
  ·subst hji; exact hy.wpOp hi hS ⟨fun _ _ => hS, H⟩
  ·have := ready_mono hj hji;rw [H.1] at this;cases this
 | succ fuel ih =>
  intro listed a w hc hfree hr hy hS H;refine ⟨fun h => (by rw [h] at hr; cases hr), fun j hj => ?_⟩;by_cases hji : j = i
  ·subst hji; exact hy.wpOp hi hS ⟨fun _ _ => hS, H⟩
  ·have h1 := H.2 j (ready_mono hj hji);obtain ⟨hjun, oj, hoj, hall⟩ := mem_ready.1 hj;have hil := xBD hr;have hjx : ex.contains j = false := by
    cases hx : ex.contains j with
    | false => rfl
    | true =>
     have hmem : j ∈ ex := by simpa using hx
     have := xEc hc n j i (hw j hmem) (fun o ho e he hb => by rw [hoj] at ho; cases ho; exact hall e he hb);rw [hil] at this; cases this
   have hnot : ∀ e ∈ oj.after, Region.binds md e = true -> e.on ≠ i := fun e he hb heq => by
    have h1 := hall e he hb;rw [heq, hil] at h1; cases h1
   have h2 := wpOp_putIf hoj (hfree j oj hoj hji hjun hnot) (fun cs b => hsel i oi cs b hi) (fun cs b => hsel j oj cs b hoj) hQ hy h1;have hfree' : ∀ k ok, ops[k]? = some ok -> k ≠ i -> (listed.setIfInBounds j true).getD k true = false ->
     (∀ e ∈ ok.after, Region.binds md e = true -> e.on ≠ i) -> oi.apart ops ok = true := fun k ok hk hki hun hno => by
    refine hfree k ok hk hki ?_ hno;by_cases hjk : j = k
    ·subst hjk; exact hjun
    ·rw [getD_set_ne true hjk] at hun; exact hun
   refine wpOp_mono (fun a' w' h3 => ?_) h2;have hS' := h3.2.1 hjx hS;refine ⟨fun _ _ => hS', ih (listed.setIfInBounds j true) a' w' (xBd hc hj) hfree' (ready_mono hr (Ne.symm hji)) h3.1 hS' ?_⟩;rw [Array.setIfInBounds_comm _ _ hji];exact h3.2.2
theorem xNM {i : Nat} {oi : Oper} {v : Value} (hi : ops[i]? = some oi) (hsel : ∀ (j : Nat) (o : Oper) cs b, ops[j]? = some o -> o.op ≠ .select cs b)
  (hQ : ∀ c a w, Q (.panic c) (a.put oi.dst v) w -> Q (.panic c) a w) :
  ∀ (fuel : Nat) (listed : Array Bool) (a : Act) (w : World), Closed md ops listed ->
   (∀ j oj, ops[j]? = some oj -> j ≠ i -> listed.getD j true = false -> (∀ e ∈ oj.after, Region.binds md e = true -> e.on ≠ i) -> oi.apart ops oj = true) ->
   i ∈ Region.ready md ops listed -> YieldsIf P ops (fun _ => True) oi v a ->
   xCH P md ops Q S ex fuel (listed.setIfInBounds i true) (a.put oi.dst v) w -> xCH P md ops Q S ex (fuel + 1) listed a w := by
 intro fuel
 induction fuel with
 | zero =>
  intro listed a w _ _ hr hy H;refine ⟨fun h => (by rw [h] at hr; cases hr), fun j hj => ?_⟩;by_cases hji : j = i
  ·subst hji; exact hy.wpOp hi trivial ⟨fun _ h => h, H⟩
  ·have := ready_mono hj hji;rw [H.1] at this;cases this
 | succ fuel ih =>
  intro listed a w hc hfree hr hy H;refine ⟨fun h => (by rw [h] at hr; cases hr), fun j hj => ?_⟩;by_cases hji : j = i
  ·subst hji; exact hy.wpOp hi trivial ⟨fun _ h => h, H⟩
  ·have h1 := H.2 j (ready_mono hj hji);obtain ⟨hjun, oj, hoj, hall⟩ := mem_ready.1 hj;have hil := xBD hr;have hnot : ∀ e ∈ oj.after, Region.binds md e = true -> e.on ≠ i := fun e he hb heq => by
    have h1 := hall e he hb;rw [heq, hil] at h1; cases h1
   have h2 := wpOp_putIf hoj (hfree j oj hoj hji hjun hnot) (fun cs b => hsel i oi cs b hi) (fun cs b => hsel j oj cs b hoj) hQ hy h1;have hfree' : ∀ k ok, ops[k]? = some ok -> k ≠ i -> (listed.setIfInBounds j true).getD k true = false ->
     (∀ e ∈ ok.after, Region.binds md e = true -> e.on ≠ i) -> oi.apart ops ok = true := fun k ok hk hki hun hno => by
    refine hfree k ok hk hki ?_ hno;by_cases hjk : j = k
    ·subst hjk; exact hjun
    ·rw [getD_set_ne true hjk] at hun; exact hun
   refine wpOp_mono (fun a' w' h3 => ?_) h2;refine ⟨h3.2.1, ih (listed.setIfInBounds j true) a' w' (xBd hc hj) hfree' (ready_mono hr (Ne.symm hji)) h3.1 ?_⟩;rw [Array.setIfInBounds_comm _ _ hji];exact h3.2.2
inductive Seg where
 | pu (l : List Nat)
 | st (l : List Nat)
 | mv (i : Nat)
 | tl (l : List Nat)
def Seg.nums : Seg -> List Nat
 | .pu l => l
 | .st l => l
 | .mv i => [i]
 | .tl l => l
def exOf : List Seg -> List Nat
 | [] => []
 | .tl l :: r => l ++ exOf r
 | _ :: r => exOf r
def xV0 (md : Region.Mode) (ops : Array Oper) (ex : List Nat) : List Nat -> Array Bool -> Bool
 | [], _ => true
 | i :: l, listed => (Region.ready md ops listed).contains i && Region.free md ops listed i && ex.all (fun m => waits md ops ops.size m i) && xV0 md ops ex l (listed.setIfInBounds i true)
def tlOk (md : Region.Mode) (ops : Array Oper) : List Nat -> Array Bool -> Bool
 | [], _ => true
 | i :: l, listed => (Region.ready md ops listed == [i]) && tlOk md ops l (listed.setIfInBounds i true)
def marks (l : List Nat) (listed : Array Bool) : Array Bool := l.foldl (fun t i => t.setIfInBounds i true) listed
def xEk (md : Region.Mode) (ops : Array Oper) (ex : List Nat) : List Seg -> Array Bool -> Bool
 | [], listed => (Region.ready md ops listed).isEmpty
 | .pu l :: r, listed => xV0 md ops [] l listed && xEk md ops ex r (marks l listed)
 | .st l :: r, listed => xV0 md ops ex l listed && xEk md ops ex r (marks l listed)
 | .mv i :: r, listed => (Region.ready md ops listed == [i]) && xEk md ops ex r (listed.setIfInBounds i true)
 | .tl l :: r, listed => tlOk md ops l listed && xEk md ops ex r (marks l listed)
def lens : List Seg -> Nat
 | [] => 0
 | s :: r => s.nums.length + lens r
def pick (l : List Oper) : List Nat -> List Oper
 | [] => []
 | i :: r => (l.drop i).take 1 ++ pick l r
def xAO (P : Program) (ops : Array Oper) (S : World -> Prop) (Q : Act -> Prop) : List Oper -> Act -> Prop
 | [], a => Q a
 | o :: rest, a => if Region.wanted o (yielded ops a.tmps) then ∃ v, (∀ w, S w -> (execOp a.eval o).run P w = .ok (.value v) w) /\ xAO P ops S Q rest (a.put o.dst v) else xAO P ops S Q rest (a.put o.dst undef)
theorem xAW {Q : Act -> Prop} {a : Act} (h : Q a) : xAO P ops S Q [] a := h
theorem xAP {Q : Act -> Prop} {a : Act} {o : Oper} {rest : List Oper} (v : Value) (hw : Region.wanted o (yielded ops a.tmps) = true)
  (hv : ∀ w, S w -> (execOp a.eval o).run P w = .ok (.value v) w) (h : xAO P ops S Q rest (a.put o.dst v)) : xAO P ops S Q (o :: rest) a := by
 unfold xAO; rw [if_pos hw]; exact ⟨v, hv, h⟩
theorem xA4 {Q : Act -> Prop} {a : Act} {o : Oper} {rest : List Oper} (hw : Region.wanted o (yielded ops a.tmps) = false)
  (h : xAO P ops S Q rest (a.put o.dst undef)) : xAO P ops S Q (o :: rest) a := by
 unfold xAO; rw [if_neg (by simp [hw])]; exact h
def xBl (P : Program) (l : List Oper) (S : World -> Prop) (Q : Exit -> Act -> World -> Prop) : List Seg -> Act -> World -> Prop
 | [], a, w => Q .normal a w
 | .pu is :: r, a, w => xAO P l.toArray (fun _ => True) (fun a' => xBl P l S Q r a' w) (pick l is) a
 | .st is :: r, a, w => xAO P l.toArray S (fun a' => xBl P l S Q r a' w) (pick l is) a
 | .mv i :: r, a, w => wpList P l.toArray (fun e a' w' => e = .normal /\ S w' /\ xBl P l S Q r a' w') (pick l [i]) a w
 | .tl is :: r, a, w => wpList P l.toArray (fun e a' w' => e = .normal /\ xBl P l S Q r a' w') (pick l is) a w
end
section
variable {P : Program} {l : List Oper} {S : World -> Prop} {Q : Exit -> Act -> World -> Prop} {md : Region.Mode} {ex : List Nat}
def Calm (Q : Exit -> Act -> World -> Prop) : Exit -> Act -> World -> Prop
 | .normal, a, w => Q .normal a w
 | _, _, _ => False
theorem Oper.wp_calm {o : Oper} {a : Act} {w : World} {K : Act -> World -> Prop} {Q1 Q2 : Exit -> Act -> World -> Prop} (hp : ∀ c a w, Q1 (.panic c) a w -> False) (ho : ∀ a w, Q1 .outgrown a w -> False)
  (h : o.wp P a w K Q1) : o.wp P a w K Q2 := by
 unfold Oper.wp at *;generalize (execOp a.eval o).run P w = r at *
 cases r with
 | ok n w' =>
  cases n <;> simp only [Oper.upon] at h ⊢ <;>
   first
    | exact h
    | exact Calls.mono h (fun e w'' he => by
      cases e with
      | returned v => exact he
      | panicked c => exact (hp _ _ _ he).elim
      | outgrown => obtain ⟨a, w, q⟩ := he; exact (ho _ _ q).elim)
 | halt x w' =>
  cases x <;> simp only [Oper.upon] at h ⊢
  case panic u => exact (hp _ _ _ h).elim
theorem xHz {i : Nat} {o : Oper} (h : l.toArray[i]? = some o) : (l.drop i).take 1 = [o] := by
 have h' : l[i]? = some o := by simpa using h
 obtain ⟨hi, e⟩ := List.getElem?_eq_some_iff.1 h';rw [List.drop_eq_getElem_cons hi, e]; rfl
theorem xHI {o : Oper} {i : Nat} (h : l.toArray[i]? = some o) {R : Act -> World -> Prop} {a : Act} {w : World} {rest : List Oper}
  (hw : wpList P l.toArray (fun e a' w' => e = .normal /\ R a' w') (o :: rest) a w) :
  wpOp P l.toArray (Calm Q) i (wpList P l.toArray (fun e a' w' => e = .normal /\ R a' w') rest) a w := by
 have hw' : if Region.wanted o (yielded l.toArray a.tmps) then o.wp P a w (wpList P l.toArray (fun e a' w' => e = .normal /\ R a' w') rest) (fun e a' w' => e = .normal /\ R a' w') \/ (o.asks P a w /\ LetsOut (fun e a' w' => e = .normal /\ R a' w')) else wpList P l.toArray (fun e a' w' => e = .normal /\ R a' w') rest (a.put o.dst undef) w := hw;clear hw;have hw := hw';unfold wpOp;simp only [h];split
 ·rename_i hwd;rw [if_pos hwd] at hw;rcases hw with hw | ⟨_, a0, w0, h0, _⟩
  ·refine .inl (Oper.wp_calm (Q1 := fun e a' w' => e = .normal /\ R a' w') (fun _ _ _ q => by cases q.1) (fun _ _ q => by cases q.1) hw)
  ·cases h0
 ·rename_i hwd;simp only [hwd] at hw;exact hw
theorem xFV {listed : Array Bool} {i : Nat} (h : i ∈ Region.ready md l.toArray listed) : ∃ o, l.toArray[i]? = some o := by
 obtain ⟨_, o, ho, _⟩ := mem_ready.1 h;exact ⟨o, ho⟩
theorem xPe (hs : Region.noSelect l.toArray = true) {w : World} (hS : S w) {R : Act -> Prop} (N : Nat) : ∀ (is : List Nat) (listed : Array Bool) (a : Act), Closed md l.toArray listed -> xV0 md l.toArray ex is listed = true ->
  (∀ a', Closed md l.toArray (marks is listed) -> R a' -> xCH P md l.toArray (Calm Q) S ex N (marks is listed) a' w) -> xAO P l.toArray S R (pick l is) a -> xCH P md l.toArray (Calm Q) S ex (is.length + N) listed a w
 | [], listed, a, hc, _, hN, h => by simpa [marks] using hN a hc h
 | i :: is, listed, a, hc, h1, hN, h => by
  simp only [xV0, Bool.and_eq_true] at h1;obtain ⟨⟨⟨hr, hf⟩, hwt⟩, hrest⟩ := h1;have hr' : i ∈ Region.ready md l.toArray listed := by simpa using hr
  obtain ⟨o, ho⟩ := xFV hr';simp only [pick, xHz ho, List.cons_append, List.nil_append] at h;have hlen : (i :: is).length + N = (is.length + N) + 1 := by simp; omega
  rw [hlen];have hwt' : ∀ m ∈ ex, waits md l.toArray l.toArray.size m i = true := fun m hm => List.all_eq_true.1 hwt m hm;have key : ∀ v, YieldsIf P l.toArray S o v a -> xAO P l.toArray S R (pick l is) (a.put o.dst v) -> xCH P md l.toArray (Calm Q) S ex (is.length + N + 1) listed a w := fun v hy hn =>
   xLL ho (Region.noSelect_spec hs) (fun _ _ _ q => q) l.toArray.size hwt' _ listed a w hc (Region.free_spec ho hf) hr' hy hS
    (xPe hs hS N is (listed.setIfInBounds i true) (a.put o.dst v) (xBd hc hr') hrest hN hn)
  unfold xAO at h;split at h
  ·rename_i hwd;obtain ⟨v, hv, hn⟩ := h;exact key v (.inl ⟨hwd, hv⟩) hn
  ·rename_i hwd;exact key undef (.inr ⟨by simpa using hwd, rfl⟩) h
theorem xPJ (hs : Region.noSelect l.toArray = true) {w : World} {R : Act -> Prop} (N : Nat) : ∀ (is : List Nat) (listed : Array Bool) (a : Act), Closed md l.toArray listed -> xV0 md l.toArray [] is listed = true ->
  (∀ a', Closed md l.toArray (marks is listed) -> R a' -> xCH P md l.toArray (Calm Q) S ex N (marks is listed) a' w) -> xAO P l.toArray (fun _ => True) R (pick l is) a -> xCH P md l.toArray (Calm Q) S ex (is.length + N) listed a w
 | [], listed, a, hc, _, hN, h => by simpa [marks] using hN a hc h
 | i :: is, listed, a, hc, h1, hN, h => by
  simp only [xV0, Bool.and_eq_true] at h1;obtain ⟨⟨⟨hr, hf⟩, hwt⟩, hrest⟩ := h1;have hr' : i ∈ Region.ready md l.toArray listed := by simpa using hr
  obtain ⟨o, ho⟩ := xFV hr';simp only [pick, xHz ho, List.cons_append, List.nil_append] at h;have hlen : (i :: is).length + N = (is.length + N) + 1 := by simp; omega
  rw [hlen];have key : ∀ v, YieldsIf P l.toArray (fun _ => True) o v a -> xAO P l.toArray (fun _ => True) R (pick l is) (a.put o.dst v) -> xCH P md l.toArray (Calm Q) S ex (is.length + N + 1) listed a w := fun v hy hn =>
   xNM ho (Region.noSelect_spec hs) (fun _ _ _ q => q) _ listed a w hc (Region.free_spec ho hf) hr' hy
    (xPJ hs N is (listed.setIfInBounds i true) (a.put o.dst v) (xBd hc hr') hrest hN hn)
  unfold xAO at h;split at h
  ·rename_i hwd;obtain ⟨v, hv, hn⟩ := h;exact key v (.inl ⟨hwd, hv⟩) hn
  ·rename_i hwd;exact key undef (.inr ⟨by simpa using hwd, rfl⟩) h
theorem xPa {R : Act -> World -> Prop} (N : Nat) : ∀ (is : List Nat) (listed : Array Bool) (a : Act) (w : World), Closed md l.toArray listed -> tlOk md l.toArray is listed = true -> (∀ i ∈ is, i ∈ ex) ->
  (∀ a' w', Closed md l.toArray (marks is listed) -> R a' w' -> xCH P md l.toArray (Calm Q) S ex N (marks is listed) a' w') -> wpList P l.toArray (fun e a' w' => e = .normal /\ R a' w') (pick l is) a w -> xCH P md l.toArray (Calm Q) S ex (is.length + N) listed a w
 | [], listed, a, w, hc, _, _, hN, h => by simpa [marks] using hN a w hc h.2
 | i :: is, listed, a, w, hc, h1, hx, hN, h => by
  simp only [tlOk, Bool.and_eq_true, beq_iff_eq] at h1;obtain ⟨h1, hrest⟩ := h1;have hr' : i ∈ Region.ready md l.toArray listed := by rw [h1]; simp
  obtain ⟨o, ho⟩ := xFV hr';simp only [pick, xHz ho, List.cons_append, List.nil_append] at h;have hlen : (i :: is).length + N = (is.length + N) + 1 := by simp; omega
  rw [hlen];refine ⟨fun h0 => (by rw [h1] at h0; cases h0), fun j hj => ?_⟩;rw [h1] at hj;obtain rfl : j = i := by simpa using hj
  refine wpOp_mono (fun a' w' hh => ⟨fun hxx _ => ?_, xPa N is _ a' w' (xBd hc hr') hrest (fun k hk => hx k (List.mem_cons_of_mem _ hk)) hN hh⟩) (xHI ho h);have : ex.contains j = true := by simpa using hx j (List.mem_cons_self ..)
  rw [this] at hxx; cases hxx
def xIo : List Seg -> Bool
 | [] => true
 | .pu _ :: r => xIo r
 | .tl _ :: r => xIo r
 | _ => false
def endTl : List Seg -> Bool
 | [] => true
 | .tl _ :: r => xIo r
 | _ :: r => endTl r
theorem xDs (hs : Region.noSelect l.toArray = true) : ∀ (segs : List Seg) (listed : Array Bool) (a : Act) (w : World), Closed md l.toArray listed -> xEk md l.toArray ex segs listed = true ->
  (∀ i ∈ exOf segs, i ∈ ex) -> (S w /\ endTl segs = true) \/ xIo segs = true ->
  xBl P l S Q segs a w -> xCH P md l.toArray (Calm Q) S ex (lens segs) listed a w
 | [], listed, a, w, _, hB, _, _, h => ⟨by simpa [xEk] using hB, h⟩
 | .pu is :: r, listed, a, w, hc, hB, hx, hS, h => by
  simp only [xEk, Bool.and_eq_true] at hB;exact xPJ hs (lens r) is listed a hc hB.1 (fun a' hc' hr => xDs hs r _ a' w hc' hB.2 hx (hS.imp (fun h => ⟨h.1, h.2⟩) id) hr) h
 | .st is :: r, listed, a, w, hc, hB, hx, hS, h => by
  obtain ⟨hS, he⟩ := hS.resolve_right (by simp [xIo]);simp only [xEk, Bool.and_eq_true] at hB;exact xPe hs hS (lens r) is listed a hc hB.1 (fun a' hc' hr => xDs hs r _ a' w hc' hB.2 hx (.inl ⟨hS, he⟩) hr) h
 | .mv i :: r, listed, a, w, hc, hB, hx, hS, h => by
  obtain ⟨_, he⟩ := hS.resolve_right (by simp [xIo]);simp only [xEk, Bool.and_eq_true, beq_iff_eq] at hB;obtain ⟨h1, h2⟩ := hB;have hr' : i ∈ Region.ready md l.toArray listed := by rw [h1]; simp
  obtain ⟨o, ho⟩ := xFV hr';unfold xBl at h;simp only [pick, xHz ho, List.append_nil] at h;have hlen : lens (.mv i :: r) = lens r + 1 := by simp [lens, Seg.nums]; omega
  rw [hlen];refine ⟨fun h0 => (by rw [h1] at h0; cases h0), fun j hj => ?_⟩;rw [h1] at hj;obtain rfl : j = i := by simpa using hj
  refine wpOp_mono (fun a' w' hh => ?_) (xHI ho h);obtain ⟨_, hS', hn⟩ := hh;exact ⟨fun _ _ => hS', xDs hs r _ a' w' (xBd hc hr') h2 hx (.inl ⟨hS', he⟩) hn⟩
 | .tl is :: r, listed, a, w, hc, hB, hx, hS, h => by
  have he : xIo r = true := by
   rcases hS with ⟨_, he⟩ | he
   ·exact he
   ·exact he
  simp only [xEk, Bool.and_eq_true] at hB;exact xPa (lens r) is listed a w hc hB.1 (fun i hi => hx i (List.mem_append_left _ hi)) (fun a' w' hc' hr => xDs hs r _ a' w' hc' hB.2 (fun i hi => hx i (List.mem_append_right _ hi)) (.inr he) hr) h
theorem xE9 {id : Nat} {a : Act} {w : World} (S : World -> Prop) (segs : List Seg) (hm : P.follows .mixedOrders = true)
  (hB : (Region.noSelect l.toArray && xEk .any l.toArray (exOf segs) segs (Array.replicate l.toArray.size false) && endTl segs && (lens segs == l.toArray.size)) = true) (hS : S w.drew) (h : xBl P l S Q segs a w.drew) : (Code.region id l.toArray true).wp P Q a w := by
 simp only [Bool.and_eq_true, beq_iff_eq] at hB;obtain ⟨⟨⟨hs, hp⟩, he⟩, hn⟩ := hB;refine Code.wp_mono (Q := Calm Q) (fun e a w q => by cases e <;> first | exact q | exact q.elim) ?_
 refine wp_region_any hm (xJm (S := S) (ex := exOf segs) _ _ _ _ ?_);have := xDs (md := .any) (ex := exOf segs) (P := P) (S := S) (Q := Q) hs segs (Array.replicate l.toArray.size false) a w.drew
  (fun j oj _ hl => by rw [getD_replicate_false] at hl; cases hl) hp (fun _ hi => hi) (.inl ⟨hS, he⟩) h
 rw [hn] at this;exact this
theorem xKK {a : Act} {w : World} (h : Q .normal a w) : xBl P l S Q [] a w := h
theorem xKJ {is : List Nat} {r : List Seg} {a : Act} {w : World} (h : ∀ K : Act -> Prop, (∀ a', xBl P l S Q r a' w -> K a') -> xAO P l.toArray S K (pick l is) a) : xBl P l S Q (.st is :: r) a w := h _ (fun _ h => h)
theorem xGj {is : List Nat} {r : List Seg} {a : Act} {w : World} (h : ∀ K : Act -> Prop, (∀ a', xBl P l S Q r a' w -> K a') -> xAO P l.toArray (fun _ => True) K (pick l is) a) : xBl P l S Q (.pu is :: r) a w := h _ (fun _ h => h)
theorem xEj {i : Nat} {r : List Seg} {a : Act} {w : World} (h : ∀ K : Act -> World -> Prop, (∀ a' w', S w' -> xBl P l S Q r a' w' -> K a' w') -> wpList P l.toArray (fun e a' w' => e = .normal /\ K a' w') (pick l [i]) a w) : xBl P l S Q (.mv i :: r) a w :=
 h (fun a' w' => S w' /\ xBl P l S Q r a' w') (fun _ _ h1 h2 => ⟨h1, h2⟩)
theorem xTt {is : List Nat} {r : List Seg} {a : Act} {w : World} (h : ∀ K : Act -> World -> Prop, (∀ a' w', xBl P l S Q r a' w' -> K a' w') -> wpList P l.toArray (fun e a' w' => e = .normal /\ K a' w') (pick l is) a w) : xBl P l S Q (.tl is :: r) a w :=
 h (fun a' w' => xBl P l S Q r a' w') (fun _ _ h1 => h1)
end
theorem Ex.trans_fresh {S T : List Nat} {a b c : World} (h : Ex S a b) (k : Ex T b c) (hs : ∀ x ∈ T, x ∈ S \/ a.heap.size <= x) : Ex S a c :=
 ⟨k.os.trans h.os, k.tape.trans h.tape, k.output.trans h.output, Nat.le_trans h.size k.size, fun i hi hn =>
  (k.block i (Nat.lt_of_lt_of_le hi h.size) (fun hm => by rcases hs i hm with h1 | h1; exact hn h1; omega)).trans (h.block i hi hn)⟩
structure EI (P : Program) (t T : TypeId) (k bytes : Nat) : Prop where
 ht : P.underlying t = some (.slice T)
 ex : ∃ i z, P.info? T = some i /\ i.zero = some z /\ i.size = k /\ i.bytes = bytes /\ z.cells.size = k
 pos : 0 < k
theorem EI.mk' {P : Program} {t T k bytes : Nat} {z : Value} (ht : P.underlying t = some (.slice T)) (hi : (P.info? T).map (fun i => (i.zero, i.size, i.bytes)) = some (some z, k, bytes)) (hz : z.cells.size = k) (hk : 0 < k) : EI P t T k bytes := by
 obtain ⟨i, h1, h2, h3, h4⟩ := info_parts hi;exact ⟨ht, ⟨i, z, h1, h2, h3, h4, hz⟩, hk⟩
def Own {α : Type} (T k : Nat) (f : α -> List Value) (base : Nat) (w : World) (v : Value) (xs : List α) : Prop := w.ownsRow base T k v xs.length (xs.flatMap f)
section
variable {α : Type} {T k : Nat} {f : α -> List Value} {base : Nat} {w w' : World} {v : Value} {xs : List α}
theorem Own.nil (w : World) : Own T k f base w (.slice none 0 0) [] := World.ownsRow_nil w base T k
theorem Own.ex (h : Own T k f base w v xs) {S : List Nat} (hE : Ex S w w') (hv : ∀ g, v.ownBlock = some g -> g ∉ S) : Own T k f base w' v xs := by
 obtain ⟨h1, h2⟩ := h;refine ⟨h1, ?_⟩;rcases h2 with h2 | ⟨g, cap, cur, rfl, hb, hg, r⟩
 ·exact .inl h2
 ·exact .inr ⟨g, cap, cur, rfl, hb, hE.heap (hv g rfl) hg, r⟩
theorem Own.ext (h : Own T k f base w v xs) (hE : Ext w w') : Own T k f base w' v xs := h.ex hE (by simp)
theorem Own.base_le (h : Own T k f base w v xs) {g : Nat} (hg : v.ownBlock = some g) : base <= g := by
 rcases h.2 with ⟨rfl, _⟩ | ⟨g', cap, cur, rfl, hb, _⟩
 ·simp [Value.ownBlock] at hg
 ·simp [Value.ownBlock] at hg; omega
theorem Own.lt (h : Own T k f base w v xs) {g : Nat} (hg : v.ownBlock = some g) : g < w.heap.size := by
 rcases h.2 with ⟨rfl, _⟩ | ⟨g', cap, cur, rfl, hb, hh, _⟩
 ·simp [Value.ownBlock] at hg
 ·simp [Value.ownBlock] at hg; subst hg; exact lt_of_block hh
theorem Own.mono (h : Own T k f base w v xs) {b' : Nat} (hb : b' <= base) : Own T k f b' w v xs := by
 obtain ⟨h1, h2⟩ := h;refine ⟨h1, ?_⟩;rcases h2 with h2 | ⟨g, cap, cur, rfl, hbb, r⟩
 ·exact .inl h2
 ·exact .inr ⟨g, cap, cur, rfl, by omega, r⟩
theorem Own.cong {ys : List α} (h : Own T k f base w v xs) (e : xs = ys) : Own T k f base w v ys := e ▸ h
theorem flat_get (hf : ∀ x : α, (f x).length = k) : ∀ (xs : List α) (i : Nat) (hi : i < xs.length) (j : Nat) (u : Value), (f xs[i])[j]? = some u -> (xs.flatMap f)[i * k + j]? = some u
 | [], i, hi, _, _, _ => by simp at hi
 | x :: xs, 0, _, j, u, h => by
  have hj : j < (f x).length := (List.getElem?_eq_some_iff.1 h).1;simp only [List.flatMap_cons, Nat.zero_mul, Nat.zero_add];rw [List.getElem?_append_left hj]; exact h
 | x :: xs, i + 1, hi, j, u, h => by
  have := flat_get hf xs i (by simpa using hi) j u h;simp only [List.flatMap_cons];rw [List.getElem?_append_right (by rw [hf]; rw [Nat.add_mul]; omega), hf, show (i + 1) * k + j - k = i * k + j by rw [Nat.add_mul]; omega];exact this
theorem Own.sl (h : Own T k f base w v xs) (hf : ∀ x : α, (f x).length = k) : ∃ a cap, v = .slice a xs.length cap /\ Sl k f w a cap xs /\ (∀ b, a = some b -> base <= b.block) := by
 obtain ⟨h1, h2⟩ := h;rcases h2 with ⟨rfl, h0⟩ | ⟨g, cap, cur, rfl, hb, hg, hn, hc, hs, ht⟩
 ·have : xs = [] := List.length_eq_zero_iff.1 h0;subst this;exact ⟨none, 0, rfl, Sl.nil _ _ _, by simp⟩
 ·refine ⟨some ⟨g, 0, none⟩, cap, rfl, ⟨hn, by unfold maxLen at hc; omega, fun _ => ⟨g, 0, rfl, lt_of_block hg, fun i hi j u hu => ?_⟩⟩, ?_⟩
  ·have h3 := flat_get hf xs i hi j u hu;rw [<- ht, List.getElem?_take] at h3;split at h3
   ·rw [Nat.zero_add]; exact xAb hg _ (by simpa using h3)
   ·cases h3
  ·intro b hb'; cases hb'; exact hb
end
section
variable {α : Type} {P : Program} {t T k bytes : Nat} {f : α -> List Value} {base : Nat}
theorem xHJ (he : EI P t T k bytes) (hf : ∀ x : α, (f x).length = k) (h1 : ∀ (x : α), ∀ u ∈ f x, u.oneCell' = true) {ops : Array Oper} {rest : List Oper} {o : Oper} {a : Act} {w : World} {Q : Exit -> Act -> World -> Prop} (hgd : o.guard = none) (s x : Operand)
  (ho : o.op = .call { callee := .builtin .append, args := #[s, x], argTypes := #[t, t] }) (v : Value) (xs : List α) (hs : a.eval s = v) (hown : Own T k f base w v xs)
  (b : Nat) (y : α) (hx : a.eval x = .slice (some ⟨b, 0, none⟩) 1 1) (hnews : ∀ j u, (f y)[j]? = some u -> w.cell? ⟨b, j, none⟩ = some u) (hbytes : (xs.length + 1) * bytes <= 140737488355328) (h63 : xs.length + 1 <= 9223372036854775807) (hbase : base <= w.heap.size)
  (h : ∀ g cap w', Own T k f base w' (.slice (some ⟨g, 0, none⟩) (xs.length + 1) cap) (xs ++ [y]) -> Ex v.ownBlock.toList w w' -> (v.ownBlock = some g \/ g = w.heap.size) -> g < w'.heap.size -> wpList P ops Q rest (a.put o.dst (.slice (some ⟨g, 0, none⟩) (xs.length + 1) cap)) w') : wpList P ops Q (o :: rest) a w := by
 obtain ⟨i, z, hi, hz, hsz, hby, hzs⟩ := he.ex;refine wpList_append_lies w hgd s x t ho base T i z k bytes he.ht hi hz hsz hby hzs he.pos v xs.length (xs.flatMap f) hs hown ⟨b, 0, none⟩ 1 1 (f y) hx (by rw [hf]; omega) ?_ (h1 y) (by omega) (by unfold maxLen; omega) hbytes hbase w.heap.size rfl ?_
 ·intro j u hu;have hadd : (⟨b, 0, none⟩ : Addr).add j = ⟨b, j, none⟩ := by unfold Addr.add; split <;> simp_all
  rw [hadd]; exact hnews j u hu
 ·intro g cap w' h2 h3 h4 h5;refine h g cap w' ?_ (Ex.of_grown h3) h4 h5;unfold Own;rw [show (xs ++ [y]).flatMap f = xs.flatMap f ++ f y by simp, show (xs ++ [y]).length = xs.length + 1 by simp];exact h2
theorem xKn (he : EI P t T k bytes) (hf : ∀ x : α, (f x).length = k) (h1 : ∀ (x : α), ∀ u ∈ f x, u.oneCell' = true) {ops : Array Oper} {rest : List Oper} {o : Oper} {a : Act} {w : World} {Q : Exit -> Act -> World -> Prop} (hgd : o.guard = none) (s x : Operand)
  (ho : o.op = .call { callee := .builtin .append, args := #[s, x], argTypes := #[t, t] }) (v : Value) (xs : List α) (hs : a.eval s = v) (hown : Own T k f base w v xs)
  (ad : Option Addr) (c : Nat) (ys : List α) (hx : a.eval x = .slice ad ys.length c) (hys : Sl k f w ad c ys) (hne : 0 < ys.length) (hbytes : (xs.length + ys.length) * bytes <= 140737488355328) (h63 : xs.length + ys.length <= 9223372036854775807) (hbase : base <= w.heap.size)
  (h : ∀ g cap w', Own T k f base w' (.slice (some ⟨g, 0, none⟩) (xs.length + ys.length) cap) (xs ++ ys) -> Ex v.ownBlock.toList w w' -> (v.ownBlock = some g \/ g = w.heap.size) -> g < w'.heap.size -> wpList P ops Q rest (a.put o.dst (.slice (some ⟨g, 0, none⟩) (xs.length + ys.length) cap)) w') : wpList P ops Q (o :: rest) a w := by
 obtain ⟨i, z, hi, hz, hsz, hby, hzs⟩ := he.ex;obtain ⟨b, off, rfl, hb, hc⟩ := hys.cells hne;have hlen : ∀ zs : List α, (zs.flatMap f).length = zs.length * k := by
  intro zs
  induction zs with
  | nil => simp
  | cons z zs ih => simp only [List.flatMap_cons, List.length_append, ih, hf, List.length_cons, Nat.add_mul]; omega
 refine wpList_append_lies w hgd s x t ho base T i z k bytes he.ht hi hz hsz hby hzs he.pos v xs.length (xs.flatMap f) hs hown ⟨b, off, none⟩ ys.length c (ys.flatMap f) hx (hlen ys) ?_ ?_ hne (by unfold maxLen; omega) hbytes hbase w.heap.size rfl ?_
 ·intro j u hu;have hadd : (⟨b, off, none⟩ : Addr).add j = ⟨b, off + j, none⟩ := by unfold Addr.add; split <;> simp_all
  rw [hadd];have hj : j < ys.length * k := by
   have := (List.getElem?_eq_some_iff.1 hu).1;rwa [hlen] at this
  have hq : j / k < ys.length := (Nat.div_lt_iff_lt_mul he.pos).2 hj;have hr : j % k < k := Nat.mod_lt _ he.pos;have hsome : (f ys[j / k])[j % k]? = some ((f ys[j / k])[j % k]'(by rw [hf]; exact hr)) := List.getElem?_eq_getElem _;have hfl := flat_get hf ys (j / k) hq (j % k) _ hsome;have hdm : j / k * k + j % k = j := by rw [Nat.mul_comm]; exact Nat.div_add_mod j k
  rw [hdm, hu] at hfl;have hcc := hc (j / k) hq (j % k) _ hsome;rw [<- Option.some.inj hfl, Nat.add_assoc, hdm] at hcc;exact hcc
 ·intro u hu;obtain ⟨y, _, hy⟩ := List.mem_flatMap.1 hu;exact h1 y u hy
 ·intro g cap w' h2 h3 h4 h5;refine h g cap w' ?_ (Ex.of_grown h3) h4 h5;unfold Own;rw [show (xs ++ ys).flatMap f = xs.flatMap f ++ ys.flatMap f by simp, show (xs ++ ys).length = xs.length + ys.length by simp];exact h2
theorem xHf (he : EI P t T k bytes) {ty : TypeId} {w : World} (v : Value) (xs : List α) (hown : Own T k f base w v xs) (ad : Option Addr) (c : Nat) :
  (Builtin.append_ #[t, t] ty #[v, .slice ad 0 c]).run P w = .ok v w := by
 obtain ⟨i, z, hi, hz, hsz, hby, hzs⟩ := he.ex;rcases hown.2 with ⟨rfl, h0⟩ | ⟨g, cap, cur, rfl, hb, hg, hn, _⟩
 ·cases ad <;> simp [Builtin.append_, run_underlying he.ht, sizeOf, typeInfo, hi, Builtin.lenOf, Builtin.firstCells, loadCells, loadCellsFrom]
 ·have hn' : xs.length + 0 <= cap := hn;cases ad <;> simp [Builtin.append_, run_underlying he.ht, sizeOf, typeInfo, hi, Builtin.lenOf, Builtin.firstCells, loadCells, loadCellsFrom, hn, storeCells]
end
theorem Sl.ex {α : Type} {k : Nat} {f : α -> List Value} {S : List Nat} {w w' : World} {a : Option Addr} {cap : Nat} {xs : List α} (h : Sl k f w a cap xs) (hE : Ex S w w') (hs : ∀ b, a = some b -> b.block ∉ S) : Sl k f w' a cap xs :=
 ⟨h.le, h.big, fun h0 => by
  obtain ⟨b, off, ha, hb, hc⟩ := h.cells h0;exact ⟨b, off, ha, Nat.lt_of_lt_of_le hb hE.size, fun i hi j v hv => hE.cell (hs _ ha) (hc i hi j v hv)⟩⟩
section
variable {α : Type} {P : Program} {t T k bytes : Nat} {f : α -> List Value} {base : Nat}
theorem xHb (he : EI P t T k bytes) (hf : ∀ x : α, (f x).length = k) (h1 : ∀ (x : α), ∀ u ∈ f x, u.oneCell' = true) {ops : Array Oper} {rest : List Oper} {o : Oper} {a : Act} {w : World} {Q : Exit -> Act -> World -> Prop} (hgd : o.guard = none) (s x : Operand)
  (ho : o.op = .call { callee := .builtin .append, args := #[s, x], argTypes := #[t, t] }) (v : Value) (xs : List α) (hs : a.eval s = v) (hown : Own T k f base w v xs)
  (ad : Option Addr) (c : Nat) (ys : List α) (hx : a.eval x = .slice ad ys.length c) (hys : Sl k f w ad c ys) (hbytes : (xs.length + ys.length) * bytes <= 140737488355328) (h63 : xs.length + ys.length <= 9223372036854775807) (hbase : base <= w.heap.size)
  (h : ∀ v' w', Own T k f base w' v' (xs ++ ys) -> Ex v.ownBlock.toList w w' -> (∀ g, v'.ownBlock = some g -> v.ownBlock = some g \/ g = w.heap.size) -> (∃ a c, v' = .slice a (xs.length + ys.length) c) -> wpList P ops Q rest (a.put o.dst v') w') : wpList P ops Q (o :: rest) a w := by
 by_cases hne : 0 < ys.length
 ·exact xKn he hf h1 hgd s x ho v xs hs hown ad c ys hx hys hne hbytes h63 hbase fun g cap w' h2 h3 h4 _ => h _ w' h2 h3 (fun g' hg' => by
   simp only [Value.ownBlock, Option.some.injEq] at hg';subst hg'; exact h4) ⟨_, _, rfl⟩
 ·have h0 : ys = [] := List.length_eq_zero_iff.1 (by omega);subst h0;have hv : ∃ a c, v = .slice a xs.length c := by
   rcases hown.2 with ⟨rfl, h0⟩ | ⟨g, cap, cur, rfl, _⟩
   ·rw [h0]; exact ⟨_, _, rfl⟩
   ·exact ⟨_, _, rfl⟩
  refine wpList_plain hgd fun K hK => ?_;have hr := xHf (P := P) (base := base) he (ty := o.type) v xs hown ad c;unfold Oper.wp execOp;simp only [ho, resolve, invoke, builtin, Sem.run_bind, Sem.run_pure, Result.andThen_ok, List.map_toArray, List.map_cons, List.map_nil, hs, hx, List.length_nil, hr];exact hK _ _ (h v w (by simpa using hown) (Ex.refl _ _) (fun g hg => .inl hg) (by simpa using hv))
theorem Own.empty {w : World} (hb : base <= w.heap.size) : Own T k f base (w.alloc (.cells #[] T (0, 0))) (.slice (some ⟨w.heap.size, 0, none⟩) 0 0) ([] : List α) :=
 ⟨by simp, .inr ⟨w.heap.size, 0, #[], rfl, hb, xAq _ _, by simp, Nat.zero_le _, by simp, by simp⟩⟩
end
end Go.Proofs.YtnomnijhlbalaaaGreatDoor
