/- make of slices; append where there is room. No condition. -/
import Derived.Test.YtcbbhiobibhdnaaDoorWQB4
import Derived.Laws.OwnMore
import Derived.Test.YtcbbhiobibhdnaaDoorWQR
import Derived.Test.YtcbbhiobibhdnaaDoorProg
import Derived.Test.YtcbbhiobibhdnaaDoorWQB
import Derived.Handy
import Derived.Test.YtcbbhiobibhdnaaDoorWQB2
import Derived.StillTailTactics

namespace Go.Proofs.YtcbbhiobibhdnaaDoor
open Go.RowKit
theorem blk_at (w : World) (o : Obj) {b : Nat} (h : b = w.heap.size) : (w.alloc o).heap[b]? = some o := h ▸ xAB w o
/-- The builtin max, so that the walk does not part on it. -/
def mx (x y : Int) : Int := if x < y then y else x
section
variable {α : Type} {P : Program} {t T k bytes : Nat} {f : α → List Value} {base : Nat}
/-- append(v, y), y in a block of its own, where there is room. -/
theorem xBW (he : EI P t T k bytes) (hf : ∀ x : α, (f x).length = k) (h1 : ∀ (x : α), ∀ u ∈ f x, u.oneCell' = true) {ops : Array Oper} {rest : List Oper} {o : Oper} {a : Act} {w : World} {Q : Exit → Act → World → Prop} (hgd : o.guard = none) (s x : Operand)
  (ho : o.op = .call { callee := .builtin .append, args := #[s, x], argTypes := #[t, t] }) (g n cap : Nat) (xs : List α) (hn : xs.length = n) (hs : a.eval s = .slice (some ⟨g, 0, none⟩) n cap) (hown : Own T k f base w (.slice (some ⟨g, 0, none⟩) n cap) xs)
  (b : Nat) (y : α) (hx : a.eval x = .slice (some ⟨b, 0, none⟩) 1 1) (hnews : ∀ j u, (f y)[j]? = some u → w.cell? ⟨b, j, none⟩ = some u) (hroom : n + 1 ≤ cap)
  (h : ∀ w', Own T k f base w' (.slice (some ⟨g, 0, none⟩) (n + 1) cap) (xs ++ [y]) → Ex [g] w w' → wpList P ops Q rest (a.put o.dst (.slice (some ⟨g, 0, none⟩) (n + 1) cap)) w') : wpList P ops Q (o :: rest) a w := by
 obtain ⟨i, z, hi, hz, hsz, hby, hzs⟩ := he.ex
 subst hn
 obtain ⟨w', hr, ho1, hg⟩ := run_append_fits (P := P) w base t o.type T i k he.ht hi hsz g xs.length cap (xs.flatMap f) hown ⟨b, 0, none⟩ 1 1 (f y) (by rw [hf]; omega) (by
  intro j u hu
  have hadd : (⟨b, 0, none⟩ : Addr).add j = ⟨b, j, none⟩ := by unfold Addr.add; split <;> simp_all
  rw [hadd]; exact hnews j u hu) (h1 y) hroom
 refine wpList_plain hgd fun K hK => ?_
 unfold Oper.wp execOp
 simp only [ho, resolve, invoke, builtin, Sem.run_bind, Sem.run_pure, Result.andThen_ok, List.map_toArray, List.map_cons, List.map_nil, hs, hx, hr]
 refine hK _ _ (h w' ?_ (Ex.of_grown hg))
 unfold Own
 rw [show (xs ++ [y]).flatMap f = xs.flatMap f ++ f y by simp, show (xs ++ [y]).length = xs.length + 1 by simp]
 exact ho1
end
end Go.Proofs.YtcbbhiobibhdnaaDoor


namespace Go.Proofs.YtcbbhiobibhdnaaDoor
open Go.RowKit
end Go.Proofs.YtcbbhiobibhdnaaDoor


namespace Go.Proofs.YtcbbhiobibhdnaaDoor
open Go.RowKit
/-- x[l:], read only. -/
theorem Sl.drop {α : Type} {P : Program} {t T k bytes : Nat} {f : α → List Value} (he : EI P t T k bytes) {w : World} {a : Option Addr} {cap : Nat} {xs : List α} (h : Sl k f w a cap xs) (l : Nat) (hl : l ≤ xs.length) :
  ∃ a', (∀ w', (Instr.sliceAt t (.slice a xs.length cap) (some (.int .i64 l)) none none).run P w' = .ok (.slice a' (xs.drop l).length (cap - l)) w') ∧ Sl k f w a' (cap - l) (xs.drop l) ∧ (∀ b, a' = some b → ∃ c, a = some c ∧ b.block = c.block) := by
 obtain ⟨i, z, hi, hz, hsz, hby, hzs⟩ := he.ex
 have hle := h.le; have hb := h.big
 have hel : P.elem t = T := by simp [Program.elem, he.ht]
 refine ⟨if cap = l then a else a.map (·.add (l * k)), fun w' => ?_, ⟨by simp; omega, by omega, fun h0 => ?_⟩, ?_⟩
 ·rw [run_sliceAt_slice w' t _ _ _ _ (by rw [hel]; exact he.ht), run_slice_l w' t a xs.length cap (by rw [hel]; exact he.ht) .i64 l (by omega) (by omega)]
  simp [sizeOf, typeInfo, hel, hi, hsz, Result.andThen, sliced]
 ·have h1 : l < xs.length := by simp at h0; omega
  obtain ⟨b, off, rfl, hbw, hc⟩ := h.cells (by omega)
  refine ⟨b, off + l * k, by rw [if_neg (by omega)]; simp [Addr.add], hbw, fun i hi j v hv => ?_⟩
  have h2 : l + i < xs.length := by simp at hi; omega
  have h3 := hc (l + i) h2 j v (by simpa using hv)
  rw [show off + l * k + i * k + j = off + (l + i) * k + j by rw [Nat.add_mul]; omega]
  exact h3
 ·intro b hb'
  split at hb'
  ·exact ⟨b, hb', rfl⟩
  ·cases a with
   | none => simp at hb'
   | some c =>
    simp only [Option.map_some, Option.some.injEq] at hb'
    refine ⟨c, rfl, ?_⟩
    rw [← hb']; unfold Addr.add; split <;> rfl
end Go.Proofs.YtcbbhiobibhdnaaDoor


namespace Go.Proofs.YtcbbhiobibhdnaaDoor
open Go.RowKit
def xDC (n a b : Int) : Bool := decide (a ≤ n) && decide (n ≤ b)
set_option maxHeartbeats 400000 in
theorem xRY (n a b : Int) (w : World) :
  Calls Tryd.prog 83 #[.int .i64 n, .int .i64 a, .int .i64 b] w (Ret (.bool (xDC n a b)) w) := by
 unfold Ret xDC
 go_enter Tryd.func83, Tryd.ntmps83
 go_wp2
 all_goals go_ret
 all_goals (refine ⟨?_, Ex.refl _ _⟩; simp <;> omega)
def xBr (n a b : Int) : Bool := decide (0 ≤ n) && decide (n ≤ a) && decide (a ≤ b)
set_option maxHeartbeats 400000 in
theorem xC6 (n a b : Int) (w : World) :
  Calls Tryd.prog 73 #[.agg #[.int .i64 n, .int .i64 a], .int .i64 b] w (Ret (.bool (xBr n a b)) w) := by
 unfold Ret xBr
 go_enter Tryd.func73, Tryd.ntmps73
 go_wp2
 all_goals go_ret
 all_goals (refine ⟨?_, (Ex.refl _ _).alloc _⟩; simp <;> omega)
set_option maxHeartbeats 400000 in
theorem xLI (n a : Int) (w : World) :
  Calls Tryd.prog 101 #[.agg #[.int .i64 n, .int .i64 a]] w (Ret (.bool (!xBr n a 100000000)) w) := by
 go_enter Tryd.func101, Tryd.ntmps101
 go_wp2_with (go_at_call 73; refine (xC6 _ _ _ _).mono ?_; rintro e w1 ⟨rfl, hw⟩)
 go_ret
 exact ⟨rfl, ((Ex.refl _ _).alloc _).trans hw⟩
structure Rng where
 lo : Int
 hi : Int
 deriving DecidableEq
def Rng.cells (r : Rng) : List Value := [.int .i64 r.lo, .int .i64 r.hi]
def intCells (n : Int) : List Value := [.int .i64 n]
/-- The first index whose element the function likes, or -1. -/
def idxOf {α : Type} (p : α → Bool) : List α → Nat → Int
 | [], _ => -1
 | x :: xs, i => if p x then (i : Int) else idxOf p xs (i + 1)
theorem xFi {α : Type} (p : α → Bool) : ∀ (xs : List α) (i : Nat), decide (0 ≤ idxOf p xs i) = xs.any p
 | [], _ => rfl
 | x :: xs, i => by
  unfold idxOf
  cases h : p x
  ·simpa [h] using xFi p xs (i + 1)
  ·simp [h]
theorem xCs {α : Type} (p : α → Bool) (xs : List α) (k : Nat) (hk : k < xs.length) : idxOf p (xs.drop k) k = if p xs[k] then (k : Int) else idxOf p (xs.drop (k + 1)) (k + 1) := by
 rw [List.drop_eq_getElem_cons hk, idxOf]
theorem xHE {α : Type} (p : α → Bool) (xs : List α) (k : Nat) (hk : ¬ k < xs.length) : idxOf p (xs.drop k) k = -1 := by
 rw [List.drop_of_length_le (by omega), idxOf]
set_option maxHeartbeats 1000000 in
theorem xLd (p : Rng → Bool) (g : Nat) (cap0 : Array Value) (a : Option Addr) (cap : Nat) (xs : List Rng) (w : World) (hs : Sl 2 Rng.cells w a cap xs)
  (hg : ∀ x : Rng, x ∈ xs → ∀ w', Ext w w' → Calls Tryd.prog g (#[.agg #[.int .i64 x.lo, .int .i64 x.hi]] ++ cap0) w' (Ret (.bool (p x)) w'))
  (hgo : ∀ w x, (callFunc g (#[x] ++ cap0)).run Tryd.prog w = .ok (.enter g (#[x] ++ cap0)) w) :
  Calls Tryd.prog 94 #[.slice a xs.length cap, .func (.func g) #[] cap0] w (Ret (.int .i64 (idxOf p xs 0)) w) := by
 have hle := hs.le; have hb := hs.big
 have hg' := Lib.hid hg; clear hg
 go_enter Tryd.func94, Tryd.ntmps94
 go_wp2_with fail
 go_loopw [8] (fun i wr => ∃ k : Nat, k ≤ xs.length ∧ i = .int .i64 k ∧ Ext w wr ∧ idxOf p xs 0 = idxOf p (xs.drop k) k) (fun i _ => xs.length - (intOf i).toNat)
 case atStart => exact ⟨0, by omega, rfl, Ex.refl _ _, rfl⟩
 case round =>
  obtain ⟨k, hk, rfl, hE, hi⟩ := hrel
  have hi' := Lib.hid hi; clear hi
  by_cases hlt : k < xs.length
  ·obtain ⟨b, off, rfl, hbw, hc⟩ := hs.cells (by omega)
   have c0 := hE.cell (by simp) (hc k (by omega) 0 _ rfl)
   rw [Nat.add_zero] at c0
   have c1 := hE.cell (by simp) (hc k (by omega) 1 _ rfl)
   clear hc
   cases hp : p xs[k]
   all_goals
    have hp' := Lib.hid hp; clear hp
    go_wp2_with fail
    refine (hg'.out xs[k] (List.getElem_mem _) _ hE).mono ?_
    rintro e w1 ⟨rfl, hE1⟩
    rw [hp'.out]
    go_wp2_with fail
   ·go_roundw
    case rel => exact ⟨k + 1, by omega, by go_num, hE.trans hE1, by rw [hi'.out, xCs p xs k hlt, hp'.out]; rfl⟩
    case measure => simp [intOf]; omega
   ·go_ret
    exact ⟨by rw [hi'.out, xCs p xs k hlt, hp'.out]; rfl, hE.trans hE1⟩
  ·go_wp2_with fail
   go_ret
   exact ⟨by rw [hi'.out, xHE p xs k hlt]; rfl, hE⟩
set_option maxHeartbeats 400000 in
theorem xH1 (p : Rng → Bool) (g : Nat) (cap0 : Array Value) (a : Option Addr) (cap : Nat) (xs : List Rng) (w : World) (hs : Sl 2 Rng.cells w a cap xs)
  (hg : ∀ x : Rng, x ∈ xs → ∀ w', Ext w w' → Calls Tryd.prog g (#[.agg #[.int .i64 x.lo, .int .i64 x.hi]] ++ cap0) w' (Ret (.bool (p x)) w'))
  (hgo : ∀ w x, (callFunc g (#[x] ++ cap0)).run Tryd.prog w = .ok (.enter g (#[x] ++ cap0)) w) :
  Calls Tryd.prog 61 #[.slice a xs.length cap, .func (.func g) #[] cap0] w (Ret (.bool (xs.any p)) w) := by
 have hg' := Lib.hid hg; clear hg
 go_enter Tryd.func61, Tryd.ntmps61
 go_wp2_with fail
 refine (xLd p g cap0 a cap xs _ hs hg'.out hgo).mono ?_
 rintro e w1 ⟨rfl, hE1⟩
 go_wp2_with fail
 go_ret
 exact ⟨by rw [← xFi p xs 0]; rfl, hE1⟩
structure Bnds where
 a : Rng
 b : Rng
 c : Rng
 deriving DecidableEq
def xBl (b : Bnds) : Bool := xBr b.a.lo b.a.hi 100000000 && xBr b.b.lo b.b.hi 100000000 && xBr b.c.lo b.c.hi 100000000
set_option maxHeartbeats 400000 in
theorem xCb (b : Bnds) (w : World) :
  Calls Tryd.prog 74 #[.agg #[.int .i64 b.a.lo, .int .i64 b.a.hi, .int .i64 b.b.lo, .int .i64 b.b.hi, .int .i64 b.c.lo, .int .i64 b.c.hi]] w (Ret (.bool (xBl b)) w) := by
 go_enter Tryd.func74, Tryd.ntmps74
 go_wp2_with fail
 refine (xH1 (fun r => !xBr r.lo r.hi 100000000) 101 #[] _ _ [b.a, b.b, b.c] _ (Sl.block (xAB _ _) (by simp) ?_) (fun x _ w _ => xLI _ _ _) (fun w x => by kernel_rfl)).mono ?_
 ·intro i hi j v hv
  match i, hi, j with
  | 0, _, 0 | 0, _, 1 | 1, _, 0 | 1, _, 1 | 2, _, 0 | 2, _, 1 => exact hv
  | 0, _, j + 2 | 1, _, j + 2 | 2, _, j + 2 => simp [Rng.cells] at hv
 rintro e w1 ⟨rfl, hE1⟩
 go_wp2_with fail
 go_ret
 exact ⟨by simp [xBl, Bool.and_assoc], ((Ex.refl _ _).alloc _).trans hE1⟩
end Go.Proofs.YtcbbhiobibhdnaaDoor


namespace Go.Proofs.YtcbbhiobibhdnaaDoor
open Go.RowKit
structure Lot where
 count : Int
 mass : Int
 con : Bnds
 cost : Int
 deriving DecidableEq
structure Pile where
 mass : Int
 con : Bnds
 deriving DecidableEq
structure Recipe where
 lots : List Lot
 mass : Rng
 target : Bnds
 deriving DecidableEq
def Lot.cells (l : Lot) : List Value := [.int .i64 l.count, .int .i64 l.mass, .int .i64 l.con.a.lo, .int .i64 l.con.a.hi, .int .i64 l.con.b.lo, .int .i64 l.con.b.hi, .int .i64 l.con.c.lo, .int .i64 l.con.c.hi, .int .i64 l.cost]
def Pile.cells (l : Pile) : List Value := [.int .i64 l.mass, .int .i64 l.con.a.lo, .int .i64 l.con.a.hi, .int .i64 l.con.b.lo, .int .i64 l.con.b.hi, .int .i64 l.con.c.lo, .int .i64 l.con.c.hi]
def xBJ (l : Lot) : Bool := xDC l.count 0 1000 && xDC l.mass 1 1000000 && xBl l.con && xDC l.cost 0 1000000
set_option maxHeartbeats 400000 in
theorem isLot_c (l : Lot) (w : World) :
  Calls Tryd.prog 72 #[.agg #[.int .i64 l.count, .int .i64 l.mass, .int .i64 l.con.a.lo, .int .i64 l.con.a.hi, .int .i64 l.con.b.lo, .int .i64 l.con.b.hi, .int .i64 l.con.c.lo, .int .i64 l.con.c.hi, .int .i64 l.cost]] w (Ret (.bool (xBJ l)) w) := by
 unfold xBJ
 go_enter Tryd.func72, Tryd.ntmps72
 go_upto_region 1 with (fail)
 refine xFC (fun W => Ext w W ∧ w.heap.size + 1 = W.heap.size ∧ W.heap[w.heap.size]? = some (.cells #[.int .i64 l.count, .int .i64 l.mass, .int .i64 l.con.a.lo, .int .i64 l.con.a.hi, .int .i64 l.con.b.lo, .int .i64 l.con.b.hi, .int .i64 l.con.c.lo, .int .i64 l.con.c.hi, .int .i64 l.cost] 95 (0, 0))) ⟨by (repeat (with_reducible first | exact Ex.refl _ _ | assumption | refine Ex.alloc ?_ _ | refine Ex.drew ?_ | refine Ex.drewN ?_ _ | refine Ex.setCell ?_ (by first | (left; simp; done) | (right; simp; done) | (right; simp; omega)) _ | refine Ex.trans ?_ (by assumption))), by simp, xAB _ _⟩ (fun W hW => ?_)
 obtain ⟨hr0, hsz, hB0⟩ := hW
 have hr : Ex [] W W := Ex.refl _ _
 have f0_0 := xAh (S := []) hB0 (by simp) 0 rfl
 have f0_1 := xAh (S := []) hB0 (by simp) 1 rfl
 have f0_2 := xAh (S := []) hB0 (by simp) 2 rfl
 have f0_3 := xAh (S := []) hB0 (by simp) 3 rfl
 have f0_4 := xAh (S := []) hB0 (by simp) 4 rfl
 have f0_5 := xAh (S := []) hB0 (by simp) 5 rfl
 have f0_6 := xAh (S := []) hB0 (by simp) 6 rfl
 have f0_7 := xAh (S := []) hB0 (by simp) 7 rfl
 have f0_8 := xAh (S := []) hB0 (by simp) 8 rfl
 clear hB0
 have hsz' := Nat.le_of_eq hsz.symm; have hsz'' := Nat.le_of_eq hsz; clear hsz
 go_wp2_with (first | (go_at_call 83; refine (xRY _ _ _ _).mono ?_; rintro e w1 ⟨rfl, h1⟩; replace h1 : Ex [] W w1 := Ex.trans (by first | (with_reducible assumption) | (repeat (with_reducible first | exact Ex.refl _ _ | assumption | refine Ex.alloc ?_ _ | refine Ex.drew ?_ | refine Ex.drewN ?_ _ | refine Ex.setCell ?_ (by first | (left; simp; done) | (right; simp; done) | (right; simp; omega)) _ | refine Ex.trans ?_ (by assumption)))) (h1.ex _)) | (go_at_call 74; refine (xCb l.con _).mono ?_; rintro e w1 ⟨rfl, h1⟩; replace h1 : Ex [] W w1 := Ex.trans (by first | (with_reducible assumption) | (repeat (with_reducible first | exact Ex.refl _ _ | assumption | refine Ex.alloc ?_ _ | refine Ex.drew ?_ | refine Ex.drewN ?_ _ | refine Ex.setCell ?_ (by first | (left; simp; done) | (right; simp; done) | (right; simp; omega)) _ | refine Ex.trans ?_ (by assumption)))) (h1.ex _)))
 all_goals go_returns
 all_goals (refine ⟨?_, by (repeat (with_reducible first | exact Ex.refl _ _ | assumption | exact Ex.trans hr0 (by assumption) | refine Ex.alloc ?_ _ | refine Ex.drew ?_ | refine Ex.drewN ?_ _ | refine Ex.setCell ?_ (by first | (left; simp; done) | (right; simp; done) | (right; simp; omega)) _ | refine Ex.trans ?_ (by assumption)))⟩; simp [*])
set_option maxHeartbeats 400000 in
theorem xFt (l : Lot) (w : World) :
  Calls Tryd.prog 71 #[.agg #[.int .i64 l.count, .int .i64 l.mass, .int .i64 l.con.a.lo, .int .i64 l.con.a.hi, .int .i64 l.con.b.lo, .int .i64 l.con.b.hi, .int .i64 l.con.c.lo, .int .i64 l.con.c.hi, .int .i64 l.cost]] w (Ret (.bool (!xBJ l)) w) := by
 go_enter Tryd.func71, Tryd.ntmps71
 go_upto_region 1 with (fail)
 refine xFC (fun W => Ext w W ∧ w.heap.size + 1 = W.heap.size ∧ W.heap[w.heap.size]? = some (.cells #[.int .i64 l.count, .int .i64 l.mass, .int .i64 l.con.a.lo, .int .i64 l.con.a.hi, .int .i64 l.con.b.lo, .int .i64 l.con.b.hi, .int .i64 l.con.c.lo, .int .i64 l.con.c.hi, .int .i64 l.cost] 95 (0, 0))) ⟨by (repeat (with_reducible first | exact Ex.refl _ _ | assumption | refine Ex.alloc ?_ _ | refine Ex.drew ?_ | refine Ex.drewN ?_ _ | refine Ex.setCell ?_ (by first | (left; simp; done) | (right; simp; done) | (right; simp; omega)) _ | refine Ex.trans ?_ (by assumption))), by simp, xAB _ _⟩ (fun W hW => ?_)
 obtain ⟨hr0, hsz, hB0⟩ := hW
 have hr : Ex [] W W := Ex.refl _ _
 have f0_0 := xAh (S := []) hB0 (by simp) 0 rfl
 have f0_1 := xAh (S := []) hB0 (by simp) 1 rfl
 have f0_2 := xAh (S := []) hB0 (by simp) 2 rfl
 have f0_3 := xAh (S := []) hB0 (by simp) 3 rfl
 have f0_4 := xAh (S := []) hB0 (by simp) 4 rfl
 have f0_5 := xAh (S := []) hB0 (by simp) 5 rfl
 have f0_6 := xAh (S := []) hB0 (by simp) 6 rfl
 have f0_7 := xAh (S := []) hB0 (by simp) 7 rfl
 have f0_8 := xAh (S := []) hB0 (by simp) 8 rfl
 clear hB0
 have hsz' := Nat.le_of_eq hsz.symm; have hsz'' := Nat.le_of_eq hsz; clear hsz
 go_wp2_with (first | (go_at_call 72; refine (isLot_c l _).mono ?_; rintro e w1 ⟨rfl, h1⟩; replace h1 : Ex [] W w1 := Ex.trans (by first | (with_reducible assumption) | (repeat (with_reducible first | exact Ex.refl _ _ | assumption | refine Ex.alloc ?_ _ | refine Ex.drew ?_ | refine Ex.drewN ?_ _ | refine Ex.setCell ?_ (by first | (left; simp; done) | (right; simp; done) | (right; simp; omega)) _ | refine Ex.trans ?_ (by assumption)))) (h1.ex _)))
 go_returns
 exact ⟨rfl, by (repeat (with_reducible first | exact Ex.refl _ _ | assumption | exact Ex.trans hr0 (by assumption) | refine Ex.alloc ?_ _ | refine Ex.drew ?_ | refine Ex.drewN ?_ _ | refine Ex.setCell ?_ (by first | (left; simp; done) | (right; simp; done) | (right; simp; omega)) _ | refine Ex.trans ?_ (by assumption)))⟩
set_option maxHeartbeats 1000000 in
theorem xLe (p : Lot → Bool) (g : Nat) (cap0 : Array Value) (a : Option Addr) (cap : Nat) (xs : List Lot) (w : World) (hs : Sl 9 Lot.cells w a cap xs)
  (hg : ∀ x : Lot, x ∈ xs → ∀ w', Ext w w' → Calls Tryd.prog g (#[.agg #[.int .i64 x.count, .int .i64 x.mass, .int .i64 x.con.a.lo, .int .i64 x.con.a.hi, .int .i64 x.con.b.lo, .int .i64 x.con.b.hi, .int .i64 x.con.c.lo, .int .i64 x.con.c.hi, .int .i64 x.cost]] ++ cap0) w' (Ret (.bool (p x)) w'))
  (hgo : ∀ w x, (callFunc g (#[x] ++ cap0)).run Tryd.prog w = .ok (.enter g (#[x] ++ cap0)) w) :
  Calls Tryd.prog 100 #[.slice a xs.length cap, .func (.func g) #[] cap0] w (Ret (.int .i64 (idxOf p xs 0)) w) := by
 have hle := hs.le; have hb := hs.big
 have hg' := Lib.hid hg; clear hg
 go_enter Tryd.func100, Tryd.ntmps100
 go_wp2_with fail
 go_loopw [8] (fun i wr => ∃ k : Nat, k ≤ xs.length ∧ i = .int .i64 k ∧ Ext w wr ∧ idxOf p xs 0 = idxOf p (xs.drop k) k) (fun i _ => xs.length - (intOf i).toNat)
 case atStart => exact ⟨0, by omega, rfl, Ex.refl _ _, rfl⟩
 case round =>
  obtain ⟨k, hk, rfl, hE, hi⟩ := hrel
  have hi' := Lib.hid hi; clear hi
  by_cases hlt : k < xs.length
  ·obtain ⟨b, off, rfl, hbw, hc⟩ := hs.cells (by omega)
   have c0 := hE.cell (by simp) (hc k (by omega) 0 _ rfl)
   rw [Nat.add_zero] at c0
   have c1 := hE.cell (by simp) (hc k (by omega) 1 _ rfl)
   have c2 := hE.cell (by simp) (hc k (by omega) 2 _ rfl)
   have c3 := hE.cell (by simp) (hc k (by omega) 3 _ rfl)
   have c4 := hE.cell (by simp) (hc k (by omega) 4 _ rfl)
   have c5 := hE.cell (by simp) (hc k (by omega) 5 _ rfl)
   have c6 := hE.cell (by simp) (hc k (by omega) 6 _ rfl)
   have c7 := hE.cell (by simp) (hc k (by omega) 7 _ rfl)
   have c8 := hE.cell (by simp) (hc k (by omega) 8 _ rfl)
   clear hc
   cases hp : p xs[k]
   all_goals
    have hp' := Lib.hid hp; clear hp
    go_wp2_with fail
    refine (hg'.out xs[k] (List.getElem_mem _) _ hE).mono ?_
    rintro e w1 ⟨rfl, hE1⟩
    rw [hp'.out]
    go_wp2_with fail
   ·go_roundw
    case rel => exact ⟨k + 1, by omega, by go_num, hE.trans hE1, by rw [hi'.out, xCs p xs k hlt, hp'.out]; rfl⟩
    case measure => simp [intOf]; omega
   ·go_ret
    exact ⟨by rw [hi'.out, xCs p xs k hlt, hp'.out]; rfl, hE.trans hE1⟩
  ·go_wp2_with fail
   go_ret
   exact ⟨by rw [hi'.out, xHE p xs k hlt]; rfl, hE⟩
set_option maxHeartbeats 400000 in
theorem xBB (p : Lot → Bool) (g : Nat) (cap0 : Array Value) (a : Option Addr) (cap : Nat) (xs : List Lot) (w : World) (hs : Sl 9 Lot.cells w a cap xs)
  (hg : ∀ x : Lot, x ∈ xs → ∀ w', Ext w w' → Calls Tryd.prog g (#[.agg #[.int .i64 x.count, .int .i64 x.mass, .int .i64 x.con.a.lo, .int .i64 x.con.a.hi, .int .i64 x.con.b.lo, .int .i64 x.con.b.hi, .int .i64 x.con.c.lo, .int .i64 x.con.c.hi, .int .i64 x.cost]] ++ cap0) w' (Ret (.bool (p x)) w'))
  (hgo : ∀ w x, (callFunc g (#[x] ++ cap0)).run Tryd.prog w = .ok (.enter g (#[x] ++ cap0)) w) :
  Calls Tryd.prog 70 #[.slice a xs.length cap, .func (.func g) #[] cap0] w (Ret (.bool (xs.any p)) w) := by
 have hg' := Lib.hid hg; clear hg
 go_enter Tryd.func70, Tryd.ntmps70
 go_wp2_with fail
 refine (xLe p g cap0 a cap xs _ hs hg'.out hgo).mono ?_
 rintro e w1 ⟨rfl, hE1⟩
 go_wp2_with fail
 go_ret
 exact ⟨by rw [← xFi p xs 0]; rfl, hE1⟩
set_option maxHeartbeats 1000000 in
theorem xLf (p : Int → Bool) (g : Nat) (cap0 : Array Value) (a : Option Addr) (cap : Nat) (xs : List Int) (w : World) (hs : Sl 1 intCells w a cap xs)
  (hg : ∀ x : Int, x ∈ xs → ∀ w', Ext w w' → Calls Tryd.prog g (#[.int .i64 x] ++ cap0) w' (Ret (.bool (p x)) w'))
  (hgo : ∀ w x, (callFunc g (#[x] ++ cap0)).run Tryd.prog w = .ok (.enter g (#[x] ++ cap0)) w) :
  Calls Tryd.prog 81 #[.slice a xs.length cap, .func (.func g) #[] cap0] w (Ret (.int .i64 (idxOf p xs 0)) w) := by
 have hle := hs.le; have hb := hs.big
 have hg' := Lib.hid hg; clear hg
 go_enter Tryd.func81, Tryd.ntmps81
 go_wp2_with fail
 go_loopw [8] (fun i wr => ∃ k : Nat, k ≤ xs.length ∧ i = .int .i64 k ∧ Ext w wr ∧ idxOf p xs 0 = idxOf p (xs.drop k) k) (fun i _ => xs.length - (intOf i).toNat)
 case atStart => exact ⟨0, by omega, rfl, Ex.refl _ _, rfl⟩
 case round =>
  obtain ⟨k, hk, rfl, hE, hi⟩ := hrel
  have hi' := Lib.hid hi; clear hi
  by_cases hlt : k < xs.length
  ·obtain ⟨b, off, rfl, hbw, hc⟩ := hs.cells (by omega)
   have c0 := hE.cell (by simp) (hc k (by omega) 0 _ rfl)
   rw [Nat.add_zero] at c0
   rw [Nat.mul_one] at c0
   clear hc
   cases hp : p xs[k]
   all_goals
    have hp' := Lib.hid hp; clear hp
    go_wp2_with fail
    refine (hg'.out xs[k] (List.getElem_mem _) _ hE).mono ?_
    rintro e w1 ⟨rfl, hE1⟩
    rw [hp'.out]
    go_wp2_with fail
   ·go_roundw
    case rel => exact ⟨k + 1, by omega, by go_num, hE.trans hE1, by rw [hi'.out, xCs p xs k hlt, hp'.out]; rfl⟩
    case measure => simp [intOf]; omega
   ·go_ret
    exact ⟨by rw [hi'.out, xCs p xs k hlt, hp'.out]; rfl, hE.trans hE1⟩
  ·go_wp2_with fail
   go_ret
   exact ⟨by rw [hi'.out, xHE p xs k hlt]; rfl, hE⟩
end Go.Proofs.YtcbbhiobibhdnaaDoor


namespace Go.Proofs.YtcbbhiobibhdnaaDoor
open Go.RowKit
def xBD (p : Recipe) : Int := if 6 < (p.lots.length : Int) then 5 else if p.lots.any (fun l => !xBJ l) || !xBr p.mass.lo p.mass.hi 1000000000 || !xBl p.target then 2 else 0
abbrev SlL := Sl 9 Lot.cells
abbrev SlI := Sl 1 intCells
set_option maxHeartbeats 400000 in
theorem xRg (p : Recipe) (a : Option Addr) (cap : Nat) (w : World) (hs : SlL w a cap p.lots) :
  Calls Tryd.prog 39 #[.agg #[.slice a p.lots.length cap, .int .i64 p.mass.lo, .int .i64 p.mass.hi, .int .i64 p.target.a.lo, .int .i64 p.target.a.hi, .int .i64 p.target.b.lo, .int .i64 p.target.b.hi, .int .i64 p.target.c.lo, .int .i64 p.target.c.hi]] w (Ret (.int .i64 (xBD p)) w) := by
 have hle := hs.le; have hb := hs.big
 go_enter Tryd.func39, Tryd.ntmps39
 go_upto_region 1 with (fail)
 refine xFC (fun W => Ext w W ∧ w.heap.size + 1 = W.heap.size ∧ W.heap[w.heap.size]? = some (.cells #[.slice a p.lots.length cap, .int .i64 p.mass.lo, .int .i64 p.mass.hi, .int .i64 p.target.a.lo, .int .i64 p.target.a.hi, .int .i64 p.target.b.lo, .int .i64 p.target.b.hi, .int .i64 p.target.c.lo, .int .i64 p.target.c.hi] 62 (0, 0))) ⟨by (repeat (with_reducible first | exact Ex.refl _ _ | assumption | refine Ex.alloc ?_ _ | refine Ex.drew ?_ | refine Ex.drewN ?_ _ | refine Ex.setCell ?_ (by first | (left; simp; done) | (right; simp; done) | (right; simp; omega)) _ | refine Ex.trans ?_ (by assumption))), by simp, xAB _ _⟩ (fun W hW => ?_)
 obtain ⟨hr0, hsz, hB0⟩ := hW
 have hr : Ex [] W W := Ex.refl _ _
 have f0_0 := xAh (S := []) hB0 (by simp) 0 rfl
 have f0_1 := xAh (S := []) hB0 (by simp) 1 rfl
 have f0_2 := xAh (S := []) hB0 (by simp) 2 rfl
 have f0_3 := xAh (S := []) hB0 (by simp) 3 rfl
 have f0_4 := xAh (S := []) hB0 (by simp) 4 rfl
 have f0_5 := xAh (S := []) hB0 (by simp) 5 rfl
 have f0_6 := xAh (S := []) hB0 (by simp) 6 rfl
 have f0_7 := xAh (S := []) hB0 (by simp) 7 rfl
 have f0_8 := xAh (S := []) hB0 (by simp) 8 rfl
 clear hB0
 have hsz' := Nat.le_of_eq hsz.symm; have hsz'' := Nat.le_of_eq hsz; clear hsz
 by_cases hb0 : 6 < (p.lots.length : Int)
 ·skip
  go_wp2_with (first | (go_at_call 70; refine (xBB (fun l => !xBJ l) 71 #[] a cap p.lots _ (hs.ext (Ex.trans hr0 (by assumption))) (fun x _ w _ => xFt _ _) (fun w x => by kernel_rfl)).mono ?_; rintro e w1 ⟨rfl, h1⟩; replace h1 : Ex [] W w1 := Ex.trans (by first | (with_reducible assumption) | (repeat (with_reducible first | exact Ex.refl _ _ | assumption | refine Ex.alloc ?_ _ | refine Ex.drew ?_ | refine Ex.drewN ?_ _ | refine Ex.setCell ?_ (by first | (left; simp; done) | (right; simp; done) | (right; simp; omega)) _ | refine Ex.trans ?_ (by assumption)))) (h1.ex _)) | (go_at_call 73; refine (xC6 _ _ _ _).mono ?_; rintro e w1 ⟨rfl, h1⟩; replace h1 : Ex [] W w1 := Ex.trans (by first | (with_reducible assumption) | (repeat (with_reducible first | exact Ex.refl _ _ | assumption | refine Ex.alloc ?_ _ | refine Ex.drew ?_ | refine Ex.drewN ?_ _ | refine Ex.setCell ?_ (by first | (left; simp; done) | (right; simp; done) | (right; simp; omega)) _ | refine Ex.trans ?_ (by assumption)))) (h1.ex _)) | (go_at_call 74; refine (xCb p.target _).mono ?_; rintro e w1 ⟨rfl, h1⟩; replace h1 : Ex [] W w1 := Ex.trans (by first | (with_reducible assumption) | (repeat (with_reducible first | exact Ex.refl _ _ | assumption | refine Ex.alloc ?_ _ | refine Ex.drew ?_ | refine Ex.drewN ?_ _ | refine Ex.setCell ?_ (by first | (left; simp; done) | (right; simp; done) | (right; simp; omega)) _ | refine Ex.trans ?_ (by assumption)))) (h1.ex _)))
  go_returns
  exact ⟨by simp [xBD, *], by (repeat (with_reducible first | exact Ex.refl _ _ | assumption | exact Ex.trans hr0 (by assumption) | refine Ex.alloc ?_ _ | refine Ex.drew ?_ | refine Ex.drewN ?_ _ | refine Ex.setCell ?_ (by first | (left; simp; done) | (right; simp; done) | (right; simp; omega)) _ | refine Ex.trans ?_ (by assumption)))⟩
 ·skip
  cases hb1 : p.lots.any (fun l => !xBJ l)
  case false =>
   cases hb2 : xBr p.mass.lo p.mass.hi 1000000000
   case false =>
    go_wp2_with (first | (go_at_call 70; refine (xBB (fun l => !xBJ l) 71 #[] a cap p.lots _ (hs.ext (Ex.trans hr0 (by assumption))) (fun x _ w _ => xFt _ _) (fun w x => by kernel_rfl)).mono ?_; rintro e w1 ⟨rfl, h1⟩; replace h1 : Ex [] W w1 := Ex.trans (by first | (with_reducible assumption) | (repeat (with_reducible first | exact Ex.refl _ _ | assumption | refine Ex.alloc ?_ _ | refine Ex.drew ?_ | refine Ex.drewN ?_ _ | refine Ex.setCell ?_ (by first | (left; simp; done) | (right; simp; done) | (right; simp; omega)) _ | refine Ex.trans ?_ (by assumption)))) (h1.ex _)) | (go_at_call 73; refine (xC6 _ _ _ _).mono ?_; rintro e w1 ⟨rfl, h1⟩; replace h1 : Ex [] W w1 := Ex.trans (by first | (with_reducible assumption) | (repeat (with_reducible first | exact Ex.refl _ _ | assumption | refine Ex.alloc ?_ _ | refine Ex.drew ?_ | refine Ex.drewN ?_ _ | refine Ex.setCell ?_ (by first | (left; simp; done) | (right; simp; done) | (right; simp; omega)) _ | refine Ex.trans ?_ (by assumption)))) (h1.ex _)) | (go_at_call 74; refine (xCb p.target _).mono ?_; rintro e w1 ⟨rfl, h1⟩; replace h1 : Ex [] W w1 := Ex.trans (by first | (with_reducible assumption) | (repeat (with_reducible first | exact Ex.refl _ _ | assumption | refine Ex.alloc ?_ _ | refine Ex.drew ?_ | refine Ex.drewN ?_ _ | refine Ex.setCell ?_ (by first | (left; simp; done) | (right; simp; done) | (right; simp; omega)) _ | refine Ex.trans ?_ (by assumption)))) (h1.ex _)))
    go_returns
    exact ⟨by simp [xBD, *], by (repeat (with_reducible first | exact Ex.refl _ _ | assumption | exact Ex.trans hr0 (by assumption) | refine Ex.alloc ?_ _ | refine Ex.drew ?_ | refine Ex.drewN ?_ _ | refine Ex.setCell ?_ (by first | (left; simp; done) | (right; simp; done) | (right; simp; omega)) _ | refine Ex.trans ?_ (by assumption)))⟩
   case true =>
    cases hb3 : xBl p.target
    case false =>
     go_wp2_with (first | (go_at_call 70; refine (xBB (fun l => !xBJ l) 71 #[] a cap p.lots _ (hs.ext (Ex.trans hr0 (by assumption))) (fun x _ w _ => xFt _ _) (fun w x => by kernel_rfl)).mono ?_; rintro e w1 ⟨rfl, h1⟩; replace h1 : Ex [] W w1 := Ex.trans (by first | (with_reducible assumption) | (repeat (with_reducible first | exact Ex.refl _ _ | assumption | refine Ex.alloc ?_ _ | refine Ex.drew ?_ | refine Ex.drewN ?_ _ | refine Ex.setCell ?_ (by first | (left; simp; done) | (right; simp; done) | (right; simp; omega)) _ | refine Ex.trans ?_ (by assumption)))) (h1.ex _)) | (go_at_call 73; refine (xC6 _ _ _ _).mono ?_; rintro e w1 ⟨rfl, h1⟩; replace h1 : Ex [] W w1 := Ex.trans (by first | (with_reducible assumption) | (repeat (with_reducible first | exact Ex.refl _ _ | assumption | refine Ex.alloc ?_ _ | refine Ex.drew ?_ | refine Ex.drewN ?_ _ | refine Ex.setCell ?_ (by first | (left; simp; done) | (right; simp; done) | (right; simp; omega)) _ | refine Ex.trans ?_ (by assumption)))) (h1.ex _)) | (go_at_call 74; refine (xCb p.target _).mono ?_; rintro e w1 ⟨rfl, h1⟩; replace h1 : Ex [] W w1 := Ex.trans (by first | (with_reducible assumption) | (repeat (with_reducible first | exact Ex.refl _ _ | assumption | refine Ex.alloc ?_ _ | refine Ex.drew ?_ | refine Ex.drewN ?_ _ | refine Ex.setCell ?_ (by first | (left; simp; done) | (right; simp; done) | (right; simp; omega)) _ | refine Ex.trans ?_ (by assumption)))) (h1.ex _)))
     go_returns
     exact ⟨by simp [xBD, *], by (repeat (with_reducible first | exact Ex.refl _ _ | assumption | exact Ex.trans hr0 (by assumption) | refine Ex.alloc ?_ _ | refine Ex.drew ?_ | refine Ex.drewN ?_ _ | refine Ex.setCell ?_ (by first | (left; simp; done) | (right; simp; done) | (right; simp; omega)) _ | refine Ex.trans ?_ (by assumption)))⟩
    case true =>
     go_wp2_with (first | (go_at_call 70; refine (xBB (fun l => !xBJ l) 71 #[] a cap p.lots _ (hs.ext (Ex.trans hr0 (by assumption))) (fun x _ w _ => xFt _ _) (fun w x => by kernel_rfl)).mono ?_; rintro e w1 ⟨rfl, h1⟩; replace h1 : Ex [] W w1 := Ex.trans (by first | (with_reducible assumption) | (repeat (with_reducible first | exact Ex.refl _ _ | assumption | refine Ex.alloc ?_ _ | refine Ex.drew ?_ | refine Ex.drewN ?_ _ | refine Ex.setCell ?_ (by first | (left; simp; done) | (right; simp; done) | (right; simp; omega)) _ | refine Ex.trans ?_ (by assumption)))) (h1.ex _)) | (go_at_call 73; refine (xC6 _ _ _ _).mono ?_; rintro e w1 ⟨rfl, h1⟩; replace h1 : Ex [] W w1 := Ex.trans (by first | (with_reducible assumption) | (repeat (with_reducible first | exact Ex.refl _ _ | assumption | refine Ex.alloc ?_ _ | refine Ex.drew ?_ | refine Ex.drewN ?_ _ | refine Ex.setCell ?_ (by first | (left; simp; done) | (right; simp; done) | (right; simp; omega)) _ | refine Ex.trans ?_ (by assumption)))) (h1.ex _)) | (go_at_call 74; refine (xCb p.target _).mono ?_; rintro e w1 ⟨rfl, h1⟩; replace h1 : Ex [] W w1 := Ex.trans (by first | (with_reducible assumption) | (repeat (with_reducible first | exact Ex.refl _ _ | assumption | refine Ex.alloc ?_ _ | refine Ex.drew ?_ | refine Ex.drewN ?_ _ | refine Ex.setCell ?_ (by first | (left; simp; done) | (right; simp; done) | (right; simp; omega)) _ | refine Ex.trans ?_ (by assumption)))) (h1.ex _)))
     go_returns
     exact ⟨by simp [xBD, *], by (repeat (with_reducible first | exact Ex.refl _ _ | assumption | exact Ex.trans hr0 (by assumption) | refine Ex.alloc ?_ _ | refine Ex.drew ?_ | refine Ex.drewN ?_ _ | refine Ex.setCell ?_ (by first | (left; simp; done) | (right; simp; done) | (right; simp; omega)) _ | refine Ex.trans ?_ (by assumption)))⟩
  case true =>
   go_wp2_with (first | (go_at_call 70; refine (xBB (fun l => !xBJ l) 71 #[] a cap p.lots _ (hs.ext (Ex.trans hr0 (by assumption))) (fun x _ w _ => xFt _ _) (fun w x => by kernel_rfl)).mono ?_; rintro e w1 ⟨rfl, h1⟩; replace h1 : Ex [] W w1 := Ex.trans (by first | (with_reducible assumption) | (repeat (with_reducible first | exact Ex.refl _ _ | assumption | refine Ex.alloc ?_ _ | refine Ex.drew ?_ | refine Ex.drewN ?_ _ | refine Ex.setCell ?_ (by first | (left; simp; done) | (right; simp; done) | (right; simp; omega)) _ | refine Ex.trans ?_ (by assumption)))) (h1.ex _)) | (go_at_call 73; refine (xC6 _ _ _ _).mono ?_; rintro e w1 ⟨rfl, h1⟩; replace h1 : Ex [] W w1 := Ex.trans (by first | (with_reducible assumption) | (repeat (with_reducible first | exact Ex.refl _ _ | assumption | refine Ex.alloc ?_ _ | refine Ex.drew ?_ | refine Ex.drewN ?_ _ | refine Ex.setCell ?_ (by first | (left; simp; done) | (right; simp; done) | (right; simp; omega)) _ | refine Ex.trans ?_ (by assumption)))) (h1.ex _)) | (go_at_call 74; refine (xCb p.target _).mono ?_; rintro e w1 ⟨rfl, h1⟩; replace h1 : Ex [] W w1 := Ex.trans (by first | (with_reducible assumption) | (repeat (with_reducible first | exact Ex.refl _ _ | assumption | refine Ex.alloc ?_ _ | refine Ex.drew ?_ | refine Ex.drewN ?_ _ | refine Ex.setCell ?_ (by first | (left; simp; done) | (right; simp; done) | (right; simp; omega)) _ | refine Ex.trans ?_ (by assumption)))) (h1.ex _)))
   go_returns
   exact ⟨by simp [xBD, *], by (repeat (with_reducible first | exact Ex.refl _ _ | assumption | exact Ex.trans hr0 (by assumption) | refine Ex.alloc ?_ _ | refine Ex.drew ?_ | refine Ex.drewN ?_ _ | refine Ex.setCell ?_ (by first | (left; simp; done) | (right; simp; done) | (right; simp; omega)) _ | refine Ex.trans ?_ (by assumption)))⟩
end Go.Proofs.YtcbbhiobibhdnaaDoor


namespace Go.Proofs.YtcbbhiobibhdnaaDoor
open Go.RowKit
def xBo (p : Pile) (l : Lot) (n : Int) : Pile := ⟨wrap64 (p.mass + wrap64 (n * l.mass)), ⟨⟨wrap64 (p.con.a.lo + wrap64 (n * l.con.a.lo)), wrap64 (p.con.a.hi + wrap64 (n * l.con.a.hi))⟩, ⟨wrap64 (p.con.b.lo + wrap64 (n * l.con.b.lo)), wrap64 (p.con.b.hi + wrap64 (n * l.con.b.hi))⟩, ⟨wrap64 (p.con.c.lo + wrap64 (n * l.con.c.lo)), wrap64 (p.con.c.hi + wrap64 (n * l.con.c.hi))⟩⟩⟩
set_option maxHeartbeats 4000000 in
theorem put0_c (p : Pile) (l : Lot) (n : Int) (b : Nat) (T : TypeId) (w : World) (hB : w.heap[b]? = some (.cells #[.int .i64 p.mass, .int .i64 p.con.a.lo, .int .i64 p.con.a.hi, .int .i64 p.con.b.lo, .int .i64 p.con.b.hi, .int .i64 p.con.c.lo, .int .i64 p.con.c.hi] T (0, 0))) :
  Calls Tryd.prog 75 #[.pointer (some ⟨b, 0, none⟩), .agg #[.int .i64 l.count, .int .i64 l.mass, .int .i64 l.con.a.lo, .int .i64 l.con.a.hi, .int .i64 l.con.b.lo, .int .i64 l.con.b.hi, .int .i64 l.con.c.lo, .int .i64 l.con.c.hi, .int .i64 l.cost], .int .i64 n] w (fun e w' => e = .returned (.tuple #[]) ∧ Ex [b] w w' ∧ w'.heap[b]? = some (.cells #[.int .i64 (xBo p l n).mass, .int .i64 (xBo p l n).con.a.lo, .int .i64 (xBo p l n).con.a.hi, .int .i64 (xBo p l n).con.b.lo, .int .i64 (xBo p l n).con.b.hi, .int .i64 (xBo p l n).con.c.lo, .int .i64 (xBo p l n).con.c.hi] T (0, 0))) := by
 have hlt := lt_of_block hB
 have k0 := xAf hB 0 rfl
 have z0 := xBG hB 0
 have k1 := xAf hB 1 rfl
 have z1 := xBG hB 1
 have k2 := xAf hB 2 rfl
 have z2 := xBG hB 2
 have k3 := xAf hB 3 rfl
 have z3 := xBG hB 3
 have k4 := xAf hB 4 rfl
 have z4 := xBG hB 4
 have k5 := xAf hB 5 rfl
 have z5 := xBG hB 5
 have k6 := xAf hB 6 rfl
 have z6 := xBG hB 6
 have hB' := Lib.hid hB; clear hB
 go_enter Tryd.func75, Tryd.ntmps75
 go_wp2
 go_region
 go_wp2
 refine wp_loop_rounds 4 ?_
 iterate 3 (rw [rounds_succ]; go_wp2; go_region; go_wp2; go_region; go_wp2)
 rw [rounds_succ]
 go_wp2
 go_returns
 refine ⟨rfl, by (repeat (with_reducible first | exact Ex.refl _ _ | assumption | refine Ex.alloc ?_ _ | refine Ex.drew ?_ | refine Ex.drewN ?_ _ | refine Ex.setCell ?_ (by first | (left; simp; done) | (right; simp; done) | (right; simp; omega)) _ | refine Ex.trans ?_ (by assumption))), ?_⟩
 repeat (with_reducible refine xKn ?_)
 refine xRB (xBN (xAJ (xAJ (xAJ (xAJ (xAJ (xAJ (xAJ hB'.out 0 _) 1 _) 2 _) 3 _) 4 _) 5 _) 6 _)) ?_
 kernel_rfl
end Go.Proofs.YtcbbhiobibhdnaaDoor


namespace Go.Proofs.YtcbbhiobibhdnaaDoor
open Go.RowKit
def Rng.zero : Rng := ⟨0, 0⟩
def Bnds.zero : Bnds := ⟨.zero, .zero, .zero⟩
def Pile.zero : Pile := ⟨0, .zero⟩
def Lot.zero : Lot := ⟨0, 0, .zero, 0⟩
end Go.Proofs.YtcbbhiobibhdnaaDoor


namespace Go.Proofs.YtcbbhiobibhdnaaDoor
open Go.RowKit
end Go.Proofs.YtcbbhiobibhdnaaDoor


namespace Go.Proofs.YtcbbhiobibhdnaaDoor
open Go.RowKit
end Go.Proofs.YtcbbhiobibhdnaaDoor


namespace Go.Proofs.YtcbbhiobibhdnaaDoor
open Go.RowKit
structure Mar where
 (m0 m1 m2 m3 m4 m5 m6 m7 : Int)
 deriving DecidableEq
def Mar.zero : Mar := ⟨0, 0, 0, 0, 0, 0, 0, 0⟩
def Mar.list (m : Mar) : List Int := [m.m0, m.m1, m.m2, m.m3, m.m4, m.m5, m.m6, m.m7]
def Mar.cells (m : Mar) : List Value := [.int .i64 m.m0, .int .i64 m.m1, .int .i64 m.m2, .int .i64 m.m3, .int .i64 m.m4, .int .i64 m.m5, .int .i64 m.m6, .int .i64 m.m7]
def xCK (p : Recipe) : Mar := ⟨wrap64 (-p.mass.lo), p.mass.hi, 0, 0, 0, 0, 0, 0⟩
def xDM (a b : Mar) (n : Int) : Mar := ⟨wrap64 (a.m0 + wrap64 (n * b.m0)), wrap64 (a.m1 + wrap64 (n * b.m1)), wrap64 (a.m2 + wrap64 (n * b.m2)), wrap64 (a.m3 + wrap64 (n * b.m3)), wrap64 (a.m4 + wrap64 (n * b.m4)), wrap64 (a.m5 + wrap64 (n * b.m5)), wrap64 (a.m6 + wrap64 (n * b.m6)), wrap64 (a.m7 + wrap64 (n * b.m7))⟩
def ofM (p : Recipe) (x : Pile) : Mar := ⟨x.mass, wrap64 (-x.mass), wrap64 (wrap64 (p.target.a.hi * x.mass) - wrap64 (1000000 * x.con.a.hi)), wrap64 (wrap64 (1000000 * x.con.a.lo) - wrap64 (p.target.a.lo * x.mass)), wrap64 (wrap64 (p.target.b.hi * x.mass) - wrap64 (1000000 * x.con.b.hi)), wrap64 (wrap64 (1000000 * x.con.b.lo) - wrap64 (p.target.b.lo * x.mass)), wrap64 (wrap64 (p.target.c.hi * x.mass) - wrap64 (1000000 * x.con.c.hi)), wrap64 (wrap64 (1000000 * x.con.c.lo) - wrap64 (p.target.c.lo * x.mass))⟩
def xDY (m : Mar) : Int := idxOf (fun n => decide (n < 0)) m.list 0
set_option maxHeartbeats 2000000 in
theorem xNh (a b : Mar) (n : Int) (w : World) :
  Calls Tryd.prog 79 #[.agg #[.int .i64 a.m0, .int .i64 a.m1, .int .i64 a.m2, .int .i64 a.m3, .int .i64 a.m4, .int .i64 a.m5, .int .i64 a.m6, .int .i64 a.m7], .agg #[.int .i64 b.m0, .int .i64 b.m1, .int .i64 b.m2, .int .i64 b.m3, .int .i64 b.m4, .int .i64 b.m5, .int .i64 b.m6, .int .i64 b.m7], .int .i64 n] w (Ret (.agg #[.int .i64 ((xDM a b n).m0), .int .i64 ((xDM a b n).m1), .int .i64 ((xDM a b n).m2), .int .i64 ((xDM a b n).m3), .int .i64 ((xDM a b n).m4), .int .i64 ((xDM a b n).m5), .int .i64 ((xDM a b n).m6), .int .i64 ((xDM a b n).m7)]) w) := by
 go_enter Tryd.func79, Tryd.ntmps79
 go_wp2
 refine wp_loop_rounds 9 ?_
 iterate 8 (rw [rounds_succ]; go_wp2; go_region; go_wp2)
 rw [rounds_succ]
 go_wp2
 go_returns
 exact ⟨rfl, by (repeat (with_reducible first | exact Ex.refl _ _ | assumption | refine Ex.alloc ?_ _ | refine Ex.drew ?_ | refine Ex.drewN ?_ _ | refine Ex.setCell ?_ (by first | (left; simp; done) | (right; simp; done) | (right; simp; omega)) _ | refine Ex.trans ?_ (by assumption)))⟩
set_option maxHeartbeats 1000000 in
theorem base_c (p : Recipe) (a : Option Addr) (cap : Nat) (w : World) :
  Calls Tryd.prog 80 #[.agg #[.slice a p.lots.length cap, .int .i64 p.mass.lo, .int .i64 p.mass.hi, .int .i64 p.target.a.lo, .int .i64 p.target.a.hi, .int .i64 p.target.b.lo, .int .i64 p.target.b.hi, .int .i64 p.target.c.lo, .int .i64 p.target.c.hi]] w (Ret (.agg #[.int .i64 ((xCK p).m0), .int .i64 ((xCK p).m1), .int .i64 ((xCK p).m2), .int .i64 ((xCK p).m3), .int .i64 ((xCK p).m4), .int .i64 ((xCK p).m5), .int .i64 ((xCK p).m6), .int .i64 ((xCK p).m7)]) w) := by
 go_enter Tryd.func80, Tryd.ntmps80
 go_wp2
 go_returns
 exact ⟨rfl, by (repeat (with_reducible first | exact Ex.refl _ _ | assumption | refine Ex.alloc ?_ _ | refine Ex.drew ?_ | refine Ex.drewN ?_ _ | refine Ex.setCell ?_ (by first | (left; simp; done) | (right; simp; done) | (right; simp; omega)) _ | refine Ex.trans ?_ (by assumption)))⟩
set_option maxRecDepth 100000 in
set_option maxHeartbeats 4000000 in
theorem of_c (p : Recipe) (x : Pile) (a : Option Addr) (cap : Nat) (w : World) :
  Calls Tryd.prog 76 #[.agg #[.slice a p.lots.length cap, .int .i64 p.mass.lo, .int .i64 p.mass.hi, .int .i64 p.target.a.lo, .int .i64 p.target.a.hi, .int .i64 p.target.b.lo, .int .i64 p.target.b.hi, .int .i64 p.target.c.lo, .int .i64 p.target.c.hi], .agg #[.int .i64 x.mass, .int .i64 x.con.a.lo, .int .i64 x.con.a.hi, .int .i64 x.con.b.lo, .int .i64 x.con.b.hi, .int .i64 x.con.c.lo, .int .i64 x.con.c.hi]] w (Ret (.agg #[.int .i64 ((ofM p x).m0), .int .i64 ((ofM p x).m1), .int .i64 ((ofM p x).m2), .int .i64 ((ofM p x).m3), .int .i64 ((ofM p x).m4), .int .i64 ((ofM p x).m5), .int .i64 ((ofM p x).m6), .int .i64 ((ofM p x).m7)]) w) := by
 have ix0 : ∀ w, (Instr.index 25 (.agg #[.int .i64 p.target.a.lo, .int .i64 p.target.a.hi, .int .i64 p.target.b.lo, .int .i64 p.target.b.hi, .int .i64 p.target.c.lo, .int .i64 p.target.c.hi]) (.int .i64 0)).run Tryd.prog w = .ok (.agg #[.int .i64 p.target.a.lo, .int .i64 p.target.a.hi]) w := fun _ => by kernel_rfl
 have ix1 : ∀ w, (Instr.index 25 (.agg #[.int .i64 p.target.a.lo, .int .i64 p.target.a.hi, .int .i64 p.target.b.lo, .int .i64 p.target.b.hi, .int .i64 p.target.c.lo, .int .i64 p.target.c.hi]) (.int .i64 1)).run Tryd.prog w = .ok (.agg #[.int .i64 p.target.b.lo, .int .i64 p.target.b.hi]) w := fun _ => by kernel_rfl
 have ix2 : ∀ w, (Instr.index 25 (.agg #[.int .i64 p.target.a.lo, .int .i64 p.target.a.hi, .int .i64 p.target.b.lo, .int .i64 p.target.b.hi, .int .i64 p.target.c.lo, .int .i64 p.target.c.hi]) (.int .i64 2)).run Tryd.prog w = .ok (.agg #[.int .i64 p.target.c.lo, .int .i64 p.target.c.hi]) w := fun _ => by kernel_rfl
 have wl0 : IntKind.i64.wrap 0 = 0 := by decide
 have wl1 : IntKind.i64.wrap 1 = 1 := by decide
 have wl2 : IntKind.i64.wrap 2 = 2 := by decide
 have wl3 : IntKind.i64.wrap 3 = 3 := by decide
 have wl4 : IntKind.i64.wrap 4 = 4 := by decide
 have wl5 : IntKind.i64.wrap 5 = 5 := by decide
 have wl6 : IntKind.i64.wrap 6 = 6 := by decide
 have wl7 : IntKind.i64.wrap 7 = 7 := by decide
 go_enter Tryd.func76, Tryd.ntmps76
 go_wp2
 go_region
 go_wp2
 refine wp_loop_rounds 4 ?_
 iterate 3 (rw [rounds_succ]; go_wp2; (refine xHe 16 (by kernel_rfl) (by kernel_rfl) ?_; simp only [List.take_succ_cons, List.take_zero, List.drop_succ_cons, List.drop_zero]; (repeat still_step); refine wpStill_nil ?_); go_wp2; (refine xHe 16 (by kernel_rfl) (by kernel_rfl) ?_; simp only [List.take_succ_cons, List.take_zero, List.drop_succ_cons, List.drop_zero]; (repeat still_step); refine wpStill_nil ?_); go_wp2)
 rw [rounds_succ]
 go_wp2
 go_returns
 exact ⟨rfl, by (repeat (with_reducible first | exact Ex.refl _ _ | assumption | refine Ex.alloc ?_ _ | refine Ex.drew ?_ | refine Ex.drewN ?_ _ | refine Ex.setCell ?_ (by first | (left; simp; done) | (right; simp; done) | (right; simp; omega)) _ | refine Ex.trans ?_ (by assumption)))⟩
set_option maxHeartbeats 400000 in
theorem xRz (n : Int) (w : World) : Calls Tryd.prog 82 #[.int .i64 n] w (Ret (.bool (decide (n < 0))) w) := by
 go_enter Tryd.func82, Tryd.ntmps82
 go_wp2
 go_returns
 exact ⟨rfl, Ex.refl _ _⟩
set_option maxHeartbeats 400000 in
theorem xFx (m : Mar) (w : World) : Calls Tryd.prog 44 #[.agg #[.int .i64 m.m0, .int .i64 m.m1, .int .i64 m.m2, .int .i64 m.m3, .int .i64 m.m4, .int .i64 m.m5, .int .i64 m.m6, .int .i64 m.m7]] w (Ret (.int .i64 (xDY m)) w) := by
 go_enter Tryd.func44, Tryd.ntmps44
 go_wp2_with fail
 refine (xLf (fun n => decide (n < 0)) 82 #[] _ _ m.list _ (Sl.block (xAB _ _) (by simp [Mar.list]) ?_) (fun x _ w _ => xRz _ _) (fun w x => by kernel_rfl)).mono ?_
 ·intro i hi j v hv
  match i, hi, j with
  | 0, _, 0 | 1, _, 0 | 2, _, 0 | 3, _, 0 | 4, _, 0 | 5, _, 0 | 6, _, 0 | 7, _, 0 => exact hv
  | _, _, j + 1 => simp [intCells] at hv
  | i + 8, hi, 0 => simp [Mar.list] at hi; omega
 rintro e w1 ⟨rfl, hE1⟩
 go_wp2_with fail
 go_returns
 exact ⟨rfl, ((Ex.refl _ _).alloc _).trans hE1⟩
end Go.Proofs.YtcbbhiobibhdnaaDoor


namespace Go.Proofs.YtcbbhiobibhdnaaDoor
open Go.RowKit
end Go.Proofs.YtcbbhiobibhdnaaDoor
