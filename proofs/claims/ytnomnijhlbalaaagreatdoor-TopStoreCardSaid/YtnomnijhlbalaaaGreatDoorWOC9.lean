/- A part of the proof of the theorem of the last file. No condition. By an AI agent. -/
import Derived.Test.YtnomnijhlbalaaaGreatDoorWZQB4
import Derived.Test.YtnomnijhlbalaaaGreatDoorProg
import Derived.Handy
import Derived.StillTailTactics
namespace Go.Proofs.YtnomnijhlbalaaaGreatDoor
open Go.RowKit
theorem exI {S : List Nat} {w w1 : World} (h : Ex S w w1 := by first | (with_reducible assumption) | (repeat (with_reducible first | exact Ex.refl _ _ | assumption | exact Ex.mono (by assumption) (by simp; done) | refine Ex.alloc ?_ _ | refine Ex.drew ?_ | refine Ex.drewN ?_ _ | refine Ex.setCell ?_ (by first | (left; simp; done) | (right; simp; done) | (right; simp; omega)) _ | refine Ex.trans ?_ (by assumption)))) : Ex S w w1 := h
theorem cE {S : List Nat} {W : World} {b : Nat} {cs : Array Value} {t : TypeId} {z : Nat × Nat} (h : W.heap[b]? = some (.cells cs t z)) (i : Nat) {v : Value} (hv : cs[i]? = some v) (hs : b ∉ S := by first | (simp; done) | (simp; omega)) : ∀ w1, Ex S W w1 -> w1.cell? ⟨b, i, none⟩ = some v := xAp (S := S) h hs i hv
def xGb (n a b : Int) : Bool := decide (a <= n) && decide (n <= b)
set_option maxHeartbeats 400000 in
theorem xWa (n a b : Int) (w : World) :
  Calls Tryz.prog 63 #[.int .i64 n, .int .i64 a, .int .i64 b] w (Ret (.bool (xGb n a b)) w) := by
 unfold Ret xGb
 go_enter Tryz.func63, Tryz.ntmps63
 go_wp2
 all_goals go_ret
 all_goals (refine ⟨?_, Ex.refl _ _⟩; simp <;> omega)
def xCw (n a b : Int) : Bool := decide (0 <= n) && decide (n <= a) && decide (a <= b)
set_option maxHeartbeats 400000 in
theorem xDw (n a b : Int) (w : World) :
  Calls Tryz.prog 108 #[.agg #[.int .i64 n, .int .i64 a], .int .i64 b] w (Ret (.bool (xCw n a b)) w) := by
 unfold Ret xCw
 go_enter Tryz.func108, Tryz.ntmps108
 go_wp2
 all_goals go_ret
 all_goals (refine ⟨?_, (Ex.refl _ _).alloc _⟩; simp <;> omega)
set_option maxHeartbeats 400000 in
theorem xNI (n a : Int) (w : World) :
  Calls Tryz.prog 136 #[.agg #[.int .i64 n, .int .i64 a]] w (Ret (.bool (!xCw n a 100000000)) w) := by
 go_enter Tryz.func136, Tryz.ntmps136
 go_wp2_with (go_at_call 108; refine (xDw _ _ _ _).mono ?_; rintro e w1 ⟨rfl, hw⟩)
 go_ret
 exact ⟨rfl, ((Ex.refl _ _).alloc _).trans hw⟩
structure Rng where
 lo : Int
 hi : Int
 deriving DecidableEq
def Rng.cells (r : Rng) : List Value := [.int .i64 r.lo, .int .i64 r.hi]
def intCells (n : Int) : List Value := [.int .i64 n]
def idxOf {α : Type} (p : α -> Bool) : List α -> Nat -> Int
 | [], _ => -1
 | x :: xs, i => if p x then (i : Int) else idxOf p xs (i + 1)
theorem xIG {α : Type} (p : α -> Bool) : ∀ (xs : List α) (i : Nat), decide (0 <= idxOf p xs i) = xs.any p
 | [], _ => rfl
 | x :: xs, i => by
  unfold idxOf;cases h : p x
  ·simpa [h] using xIG p xs (i + 1)
  ·simp [h]
theorem xCF {α : Type} (p : α -> Bool) (xs : List α) (k : Nat) (hk : k < xs.length) : idxOf p (xs.drop k) k = if p xs[k] then (k : Int) else idxOf p (xs.drop (k + 1)) (k + 1) := by
 rw [List.drop_eq_getElem_cons hk, idxOf]
theorem xIH {α : Type} (p : α -> Bool) (xs : List α) (k : Nat) (hk : ¬ k < xs.length) : idxOf p (xs.drop k) k = -1 := by
 rw [List.drop_of_length_le (by omega), idxOf]
set_option maxHeartbeats 1000000 in
theorem xM6 (p : Rng -> Bool) (g : Nat) (cap0 : Array Value) (a : Option Addr) (cap : Nat) (xs : List Rng) (w : World) (hs : Sl 2 Rng.cells w a cap xs)
  (hg : ∀ x : Rng, x ∈ xs -> ∀ w', Ext w w' -> Calls Tryz.prog g (#[.agg #[.int .i64 x.lo, .int .i64 x.hi]] ++ cap0) w' (Ret (.bool (p x)) w'))
  (hgo : ∀ w x, (callFunc g (#[x] ++ cap0)).run Tryz.prog w = .ok (.enter g (#[x] ++ cap0)) w) :
  Calls Tryz.prog 207 #[.slice a xs.length cap, .func (.func g) #[] cap0] w (Ret (.int .i64 (idxOf p xs 0)) w) := by
 have hle := hs.le; have hb := hs.big;have hg' := Lib.hid hg; clear hg
 go_enter Tryz.func207, Tryz.ntmps207
 go_wp2_with fail
 go_loopw [8] (fun i wr => ∃ k : Nat, k <= xs.length /\ i = .int .i64 k /\ Ext w wr /\ idxOf p xs 0 = idxOf p (xs.drop k) k) (fun i _ => xs.length - (intOf i).toNat)
 case atStart => exact ⟨0, by omega, rfl, Ex.refl _ _, rfl⟩
 case round =>
  obtain ⟨k, hk, rfl, hE, hi⟩ := hrel;have hi' := Lib.hid hi; clear hi;by_cases hlt : k < xs.length
  ·obtain ⟨b, off, rfl, hbw, hc⟩ := hs.cells (by omega);have c0 := hE.cell (by simp) (hc k (by omega) 0 _ rfl);rw [Nat.add_zero] at c0;have c1 := hE.cell (by simp) (hc k (by omega) 1 _ rfl);clear hc;cases hp : p xs[k]
   all_goals
    have hp' := Lib.hid hp; clear hp
    go_wp2_with fail
    refine (hg'.out xs[k] (List.getElem_mem _) _ hE).mono ?_
    rintro e w1 ⟨rfl, hE1⟩
    rw [hp'.out]
    go_wp2_with fail
   ·go_roundw
    case rel => exact ⟨k + 1, by omega, by go_num, hE.trans hE1, by rw [hi'.out, xCF p xs k hlt, hp'.out]; rfl⟩
    case measure => simp [intOf]; omega
   ·go_ret
    exact ⟨by rw [hi'.out, xCF p xs k hlt, hp'.out]; rfl, hE.trans hE1⟩
  ·go_wp2_with fail
   go_ret
   exact ⟨by rw [hi'.out, xIH p xs k hlt]; rfl, hE⟩
set_option maxHeartbeats 400000 in
theorem xIV (p : Rng -> Bool) (g : Nat) (cap0 : Array Value) (a : Option Addr) (cap : Nat) (xs : List Rng) (w : World) (hs : Sl 2 Rng.cells w a cap xs)
  (hg : ∀ x : Rng, x ∈ xs -> ∀ w', Ext w w' -> Calls Tryz.prog g (#[.agg #[.int .i64 x.lo, .int .i64 x.hi]] ++ cap0) w' (Ret (.bool (p x)) w'))
  (hgo : ∀ w x, (callFunc g (#[x] ++ cap0)).run Tryz.prog w = .ok (.enter g (#[x] ++ cap0)) w) :
  Calls Tryz.prog 135 #[.slice a xs.length cap, .func (.func g) #[] cap0] w (Ret (.bool (xs.any p)) w) := by
 have hg' := Lib.hid hg; clear hg
 go_enter Tryz.func135, Tryz.ntmps135
 go_wp2_with fail
 refine (xM6 p g cap0 a cap xs _ hs hg'.out hgo).mono ?_
 rintro e w1 ⟨rfl, hE1⟩
 go_wp2_with fail
 go_ret
 exact ⟨by rw [<- xIG p xs 0]; rfl, hE1⟩
structure Bnds where
 a : Rng
 b : Rng
 c : Rng
 deriving DecidableEq
def xDE (b : Bnds) : Bool := xCw b.a.lo b.a.hi 100000000 && xCw b.b.lo b.b.hi 100000000 && xCw b.c.lo b.c.hi 100000000
set_option maxHeartbeats 400000 in
theorem xCa (b : Bnds) (w : World) :
  Calls Tryz.prog 64 #[.agg #[.int .i64 b.a.lo, .int .i64 b.a.hi, .int .i64 b.b.lo, .int .i64 b.b.hi, .int .i64 b.c.lo, .int .i64 b.c.hi]] w (Ret (.bool (xDE b)) w) := by
 go_enter Tryz.func64, Tryz.ntmps64
 go_wp2_with fail
 refine (xIV (fun r => !xCw r.lo r.hi 100000000) 136 #[] _ _ [b.a, b.b, b.c] _ (Sl.block (xAq _ _) (by simp) ?_) (fun x _ w _ => xNI _ _ _) (fun w x => by kernel_rfl)).mono ?_
 ·intro i hi j v hv
  match i, hi, j with
  | 0, _, 0 | 0, _, 1 | 1, _, 0 | 1, _, 1 | 2, _, 0 | 2, _, 1 => exact hv
  | 0, _, j + 2 | 1, _, j + 2 | 2, _, j + 2 => simp [Rng.cells] at hv
 rintro e w1 ⟨rfl, hE1⟩
 go_wp2_with fail
 go_ret
 exact ⟨by simp [xDE, Bool.and_assoc], ((Ex.refl _ _).alloc _).trans hE1⟩
structure Lot where
 count : Int
 mass : Int
 con : Bnds
 cost : Int
 deriving DecidableEq
structure Pile where
 mass : Int
 con : Bnds
 deriving DecidableEq
structure Recipe where
 lots : List Lot
 mass : Rng
 target : Bnds
 deriving DecidableEq
def Lot.cells (l : Lot) : List Value := [.int .i64 l.count, .int .i64 l.mass, .int .i64 l.con.a.lo, .int .i64 l.con.a.hi, .int .i64 l.con.b.lo, .int .i64 l.con.b.hi, .int .i64 l.con.c.lo, .int .i64 l.con.c.hi, .int .i64 l.cost]
def xCY (l : Lot) : Bool := xGb l.count 0 1000 && xGb l.mass 1 1000000 && xDE l.con && xGb l.cost 0 1000000
set_option maxHeartbeats 400000 in
theorem isLot_c (l : Lot) (w : World) :
  Calls Tryz.prog 30 #[.agg #[.int .i64 l.count, .int .i64 l.mass, .int .i64 l.con.a.lo, .int .i64 l.con.a.hi, .int .i64 l.con.b.lo, .int .i64 l.con.b.hi, .int .i64 l.con.c.lo, .int .i64 l.con.c.hi, .int .i64 l.cost]] w (Ret (.bool (xCY l)) w) := by
 unfold xCY
 go_enter Tryz.func30, Tryz.ntmps30
 go_upto_region 1 with (fail)
 refine xF9 (fun W => Ext w W /\ w.heap.size + 1 = W.heap.size /\ W.heap[w.heap.size]? = some (.cells #[.int .i64 l.count, .int .i64 l.mass, .int .i64 l.con.a.lo, .int .i64 l.con.a.hi, .int .i64 l.con.b.lo, .int .i64 l.con.b.hi, .int .i64 l.con.c.lo, .int .i64 l.con.c.hi, .int .i64 l.cost] 40 (0, 0))) ⟨by (exact exI), by simp, xAq _ _⟩ (fun W hW => ?_);obtain ⟨hr0, hsz, hB0⟩ := hW;have hr : Ex [] W W := Ex.refl _ _;have f0_0 := xAp (S := []) hB0 (by simp) 0 rfl;have f0_1 := xAp (S := []) hB0 (by simp) 1 rfl;have f0_2 := xAp (S := []) hB0 (by simp) 2 rfl;have f0_3 := xAp (S := []) hB0 (by simp) 3 rfl;have f0_4 := xAp (S := []) hB0 (by simp) 4 rfl;have f0_5 := xAp (S := []) hB0 (by simp) 5 rfl;have f0_6 := xAp (S := []) hB0 (by simp) 6 rfl;have f0_7 := xAp (S := []) hB0 (by simp) 7 rfl;have f0_8 := xAp (S := []) hB0 (by simp) 8 rfl;clear hB0;have hsz' := Nat.le_of_eq hsz.symm; have hsz'' := Nat.le_of_eq hsz; clear hsz
 go_wp2_with (first | (go_at_call 63; refine (xWa _ _ _ _).mono ?_; rintro e w1 ⟨rfl, h1⟩; replace h1 : Ex [] W w1 := Ex.trans exI (h1.ex _)) | (go_at_call 64; refine (xCa l.con _).mono ?_; rintro e w1 ⟨rfl, h1⟩; replace h1 : Ex [] W w1 := Ex.trans exI (h1.ex _)))
 all_goals go_returns
 all_goals (refine ⟨?_, by (repeat (with_reducible first | exact Ex.refl _ _ | assumption | exact Ex.trans hr0 (by assumption) | refine Ex.alloc ?_ _ | refine Ex.drew ?_ | refine Ex.drewN ?_ _ | refine Ex.setCell ?_ (by first | (left; simp; done) | (right; simp; done) | (right; simp; omega)) _ | refine Ex.trans ?_ (by assumption)))⟩; simp [*])
set_option maxHeartbeats 400000 in
theorem xF1 (l : Lot) (w : World) :
  Calls Tryz.prog 107 #[.agg #[.int .i64 l.count, .int .i64 l.mass, .int .i64 l.con.a.lo, .int .i64 l.con.a.hi, .int .i64 l.con.b.lo, .int .i64 l.con.b.hi, .int .i64 l.con.c.lo, .int .i64 l.con.c.hi, .int .i64 l.cost]] w (Ret (.bool (!xCY l)) w) := by
 go_enter Tryz.func107, Tryz.ntmps107
 go_upto_region 1 with (fail)
 refine xF9 (fun W => Ext w W /\ w.heap.size + 1 = W.heap.size /\ W.heap[w.heap.size]? = some (.cells #[.int .i64 l.count, .int .i64 l.mass, .int .i64 l.con.a.lo, .int .i64 l.con.a.hi, .int .i64 l.con.b.lo, .int .i64 l.con.b.hi, .int .i64 l.con.c.lo, .int .i64 l.con.c.hi, .int .i64 l.cost] 40 (0, 0))) ⟨by (exact exI), by simp, xAq _ _⟩ (fun W hW => ?_);obtain ⟨hr0, hsz, hB0⟩ := hW;have hr : Ex [] W W := Ex.refl _ _;have f0_0 := xAp (S := []) hB0 (by simp) 0 rfl;have f0_1 := xAp (S := []) hB0 (by simp) 1 rfl;have f0_2 := xAp (S := []) hB0 (by simp) 2 rfl;have f0_3 := xAp (S := []) hB0 (by simp) 3 rfl;have f0_4 := xAp (S := []) hB0 (by simp) 4 rfl;have f0_5 := xAp (S := []) hB0 (by simp) 5 rfl;have f0_6 := xAp (S := []) hB0 (by simp) 6 rfl;have f0_7 := xAp (S := []) hB0 (by simp) 7 rfl;have f0_8 := xAp (S := []) hB0 (by simp) 8 rfl;clear hB0;have hsz' := Nat.le_of_eq hsz.symm; have hsz'' := Nat.le_of_eq hsz; clear hsz
 go_wp2_with (first | (go_at_call 30; refine (isLot_c l _).mono ?_; rintro e w1 ⟨rfl, h1⟩; replace h1 : Ex [] W w1 := Ex.trans exI (h1.ex _)))
 go_returns
 exact ⟨rfl, by (repeat (with_reducible first | exact Ex.refl _ _ | assumption | exact Ex.trans hr0 (by assumption) | refine Ex.alloc ?_ _ | refine Ex.drew ?_ | refine Ex.drewN ?_ _ | refine Ex.setCell ?_ (by first | (left; simp; done) | (right; simp; done) | (right; simp; omega)) _ | refine Ex.trans ?_ (by assumption)))⟩
set_option maxHeartbeats 1000000 in
theorem xM7 (p : Lot -> Bool) (g : Nat) (cap0 : Array Value) (a : Option Addr) (cap : Nat) (xs : List Lot) (w : World) (hs : Sl 9 Lot.cells w a cap xs)
  (hg : ∀ x : Lot, x ∈ xs -> ∀ w', Ext w w' -> Calls Tryz.prog g (#[.agg #[.int .i64 x.count, .int .i64 x.mass, .int .i64 x.con.a.lo, .int .i64 x.con.a.hi, .int .i64 x.con.b.lo, .int .i64 x.con.b.hi, .int .i64 x.con.c.lo, .int .i64 x.con.c.hi, .int .i64 x.cost]] ++ cap0) w' (Ret (.bool (p x)) w'))
  (hgo : ∀ w x, (callFunc g (#[x] ++ cap0)).run Tryz.prog w = .ok (.enter g (#[x] ++ cap0)) w) :
  Calls Tryz.prog 179 #[.slice a xs.length cap, .func (.func g) #[] cap0] w (Ret (.int .i64 (idxOf p xs 0)) w) := by
 have hle := hs.le; have hb := hs.big;have hg' := Lib.hid hg; clear hg
 go_enter Tryz.func179, Tryz.ntmps179
 go_wp2_with fail
 go_loopw [8] (fun i wr => ∃ k : Nat, k <= xs.length /\ i = .int .i64 k /\ Ext w wr /\ idxOf p xs 0 = idxOf p (xs.drop k) k) (fun i _ => xs.length - (intOf i).toNat)
 case atStart => exact ⟨0, by omega, rfl, Ex.refl _ _, rfl⟩
 case round =>
  obtain ⟨k, hk, rfl, hE, hi⟩ := hrel;have hi' := Lib.hid hi; clear hi;by_cases hlt : k < xs.length
  ·obtain ⟨b, off, rfl, hbw, hc⟩ := hs.cells (by omega);have c0 := hE.cell (by simp) (hc k (by omega) 0 _ rfl);rw [Nat.add_zero] at c0;have c1 := hE.cell (by simp) (hc k (by omega) 1 _ rfl);have c2 := hE.cell (by simp) (hc k (by omega) 2 _ rfl);have c3 := hE.cell (by simp) (hc k (by omega) 3 _ rfl);have c4 := hE.cell (by simp) (hc k (by omega) 4 _ rfl);have c5 := hE.cell (by simp) (hc k (by omega) 5 _ rfl);have c6 := hE.cell (by simp) (hc k (by omega) 6 _ rfl);have c7 := hE.cell (by simp) (hc k (by omega) 7 _ rfl);have c8 := hE.cell (by simp) (hc k (by omega) 8 _ rfl);clear hc;cases hp : p xs[k]
   all_goals
    have hp' := Lib.hid hp; clear hp
    go_wp2_with fail
    refine (hg'.out xs[k] (List.getElem_mem _) _ hE).mono ?_
    rintro e w1 ⟨rfl, hE1⟩
    rw [hp'.out]
    go_wp2_with fail
   ·go_roundw
    case rel => exact ⟨k + 1, by omega, by go_num, hE.trans hE1, by rw [hi'.out, xCF p xs k hlt, hp'.out]; rfl⟩
    case measure => simp [intOf]; omega
   ·go_ret
    exact ⟨by rw [hi'.out, xCF p xs k hlt, hp'.out]; rfl, hE.trans hE1⟩
  ·go_wp2_with fail
   go_ret
   exact ⟨by rw [hi'.out, xIH p xs k hlt]; rfl, hE⟩
set_option maxHeartbeats 400000 in
theorem xBp (p : Lot -> Bool) (g : Nat) (cap0 : Array Value) (a : Option Addr) (cap : Nat) (xs : List Lot) (w : World) (hs : Sl 9 Lot.cells w a cap xs)
  (hg : ∀ x : Lot, x ∈ xs -> ∀ w', Ext w w' -> Calls Tryz.prog g (#[.agg #[.int .i64 x.count, .int .i64 x.mass, .int .i64 x.con.a.lo, .int .i64 x.con.a.hi, .int .i64 x.con.b.lo, .int .i64 x.con.b.hi, .int .i64 x.con.c.lo, .int .i64 x.con.c.hi, .int .i64 x.cost]] ++ cap0) w' (Ret (.bool (p x)) w'))
  (hgo : ∀ w x, (callFunc g (#[x] ++ cap0)).run Tryz.prog w = .ok (.enter g (#[x] ++ cap0)) w) :
  Calls Tryz.prog 106 #[.slice a xs.length cap, .func (.func g) #[] cap0] w (Ret (.bool (xs.any p)) w) := by
 have hg' := Lib.hid hg; clear hg
 go_enter Tryz.func106, Tryz.ntmps106
 go_wp2_with fail
 refine (xM7 p g cap0 a cap xs _ hs hg'.out hgo).mono ?_
 rintro e w1 ⟨rfl, hE1⟩
 go_wp2_with fail
 go_ret
 exact ⟨by rw [<- xIG p xs 0]; rfl, hE1⟩
set_option maxHeartbeats 1000000 in
theorem xM8 (p : Int -> Bool) (g : Nat) (cap0 : Array Value) (a : Option Addr) (cap : Nat) (xs : List Int) (w : World) (hs : Sl 1 intCells w a cap xs)
  (hg : ∀ x : Int, x ∈ xs -> ∀ w', Ext w w' -> Calls Tryz.prog g (#[.int .i64 x] ++ cap0) w' (Ret (.bool (p x)) w'))
  (hgo : ∀ w x, (callFunc g (#[x] ++ cap0)).run Tryz.prog w = .ok (.enter g (#[x] ++ cap0)) w) :
  Calls Tryz.prog 114 #[.slice a xs.length cap, .func (.func g) #[] cap0] w (Ret (.int .i64 (idxOf p xs 0)) w) := by
 have hle := hs.le; have hb := hs.big;have hg' := Lib.hid hg; clear hg
 go_enter Tryz.func114, Tryz.ntmps114
 go_wp2_with fail
 go_loopw [8] (fun i wr => ∃ k : Nat, k <= xs.length /\ i = .int .i64 k /\ Ext w wr /\ idxOf p xs 0 = idxOf p (xs.drop k) k) (fun i _ => xs.length - (intOf i).toNat)
 case atStart => exact ⟨0, by omega, rfl, Ex.refl _ _, rfl⟩
 case round =>
  obtain ⟨k, hk, rfl, hE, hi⟩ := hrel;have hi' := Lib.hid hi; clear hi;by_cases hlt : k < xs.length
  ·obtain ⟨b, off, rfl, hbw, hc⟩ := hs.cells (by omega);have c0 := hE.cell (by simp) (hc k (by omega) 0 _ rfl);rw [Nat.add_zero] at c0;rw [Nat.mul_one] at c0;clear hc;cases hp : p xs[k]
   all_goals
    have hp' := Lib.hid hp; clear hp
    go_wp2_with fail
    refine (hg'.out xs[k] (List.getElem_mem _) _ hE).mono ?_
    rintro e w1 ⟨rfl, hE1⟩
    rw [hp'.out]
    go_wp2_with fail
   ·go_roundw
    case rel => exact ⟨k + 1, by omega, by go_num, hE.trans hE1, by rw [hi'.out, xCF p xs k hlt, hp'.out]; rfl⟩
    case measure => simp [intOf]; omega
   ·go_ret
    exact ⟨by rw [hi'.out, xCF p xs k hlt, hp'.out]; rfl, hE.trans hE1⟩
  ·go_wp2_with fail
   go_ret
   exact ⟨by rw [hi'.out, xIH p xs k hlt]; rfl, hE⟩
def xBM (p : Recipe) : Int := if 6 < (p.lots.length : Int) then 5 else if p.lots.any (fun l => !xCY l) || !xCw p.mass.lo p.mass.hi 1000000000 || !xDE p.target then 2 else 0
abbrev SlL := Sl 9 Lot.cells
abbrev SlI := Sl 1 intCells
set_option maxHeartbeats 400000 in
theorem xVi (p : Recipe) (a : Option Addr) (cap : Nat) (w : World) (hs : SlL w a cap p.lots) :
  Calls Tryz.prog 40 #[.agg #[.slice a p.lots.length cap, .int .i64 p.mass.lo, .int .i64 p.mass.hi, .int .i64 p.target.a.lo, .int .i64 p.target.a.hi, .int .i64 p.target.b.lo, .int .i64 p.target.b.hi, .int .i64 p.target.c.lo, .int .i64 p.target.c.hi]] w (Ret (.int .i64 (xBM p)) w) := by
 have hle := hs.le; have hb := hs.big
 go_enter Tryz.func40, Tryz.ntmps40
 go_upto_region 1 with (fail)
 refine xF9 (fun W => Ext w W /\ w.heap.size + 1 = W.heap.size /\ W.heap[w.heap.size]? = some (.cells #[.slice a p.lots.length cap, .int .i64 p.mass.lo, .int .i64 p.mass.hi, .int .i64 p.target.a.lo, .int .i64 p.target.a.hi, .int .i64 p.target.b.lo, .int .i64 p.target.b.hi, .int .i64 p.target.c.lo, .int .i64 p.target.c.hi] 32 (0, 0))) ⟨by (exact exI), by simp, xAq _ _⟩ (fun W hW => ?_);obtain ⟨hr0, hsz, hB0⟩ := hW;have hr : Ex [] W W := Ex.refl _ _;have f0_0 := xAp (S := []) hB0 (by simp) 0 rfl;have f0_1 := xAp (S := []) hB0 (by simp) 1 rfl;have f0_2 := xAp (S := []) hB0 (by simp) 2 rfl;have f0_3 := xAp (S := []) hB0 (by simp) 3 rfl;have f0_4 := xAp (S := []) hB0 (by simp) 4 rfl;have f0_5 := xAp (S := []) hB0 (by simp) 5 rfl;have f0_6 := xAp (S := []) hB0 (by simp) 6 rfl;have f0_7 := xAp (S := []) hB0 (by simp) 7 rfl;have f0_8 := xAp (S := []) hB0 (by simp) 8 rfl;clear hB0;have hsz' := Nat.le_of_eq hsz.symm; have hsz'' := Nat.le_of_eq hsz; clear hsz;by_cases hb0 : 6 < (p.lots.length : Int)
 ·skip
  go_wp2_with (first | (go_at_call 106; refine (xBp (fun l => !xCY l) 107 #[] a cap p.lots _ (hs.ext (Ex.trans hr0 (by assumption))) (fun x _ w _ => xF1 _ _) (fun w x => by kernel_rfl)).mono ?_; rintro e w1 ⟨rfl, h1⟩; replace h1 : Ex [] W w1 := Ex.trans exI (h1.ex _)) | (go_at_call 108; refine (xDw _ _ _ _).mono ?_; rintro e w1 ⟨rfl, h1⟩; replace h1 : Ex [] W w1 := Ex.trans exI (h1.ex _)) | (go_at_call 64; refine (xCa p.target _).mono ?_; rintro e w1 ⟨rfl, h1⟩; replace h1 : Ex [] W w1 := Ex.trans exI (h1.ex _)))
  go_returns
  exact ⟨by simp [xBM, *], by (repeat (with_reducible first | exact Ex.refl _ _ | assumption | exact Ex.trans hr0 (by assumption) | refine Ex.alloc ?_ _ | refine Ex.drew ?_ | refine Ex.drewN ?_ _ | refine Ex.setCell ?_ (by first | (left; simp; done) | (right; simp; done) | (right; simp; omega)) _ | refine Ex.trans ?_ (by assumption)))⟩
 ·skip
  cases hb1 : p.lots.any (fun l => !xCY l)
  case false =>
   cases hb2 : xCw p.mass.lo p.mass.hi 1000000000
   case false =>
    go_wp2_with (first | (go_at_call 106; refine (xBp (fun l => !xCY l) 107 #[] a cap p.lots _ (hs.ext (Ex.trans hr0 (by assumption))) (fun x _ w _ => xF1 _ _) (fun w x => by kernel_rfl)).mono ?_; rintro e w1 ⟨rfl, h1⟩; replace h1 : Ex [] W w1 := Ex.trans exI (h1.ex _)) | (go_at_call 108; refine (xDw _ _ _ _).mono ?_; rintro e w1 ⟨rfl, h1⟩; replace h1 : Ex [] W w1 := Ex.trans exI (h1.ex _)) | (go_at_call 64; refine (xCa p.target _).mono ?_; rintro e w1 ⟨rfl, h1⟩; replace h1 : Ex [] W w1 := Ex.trans exI (h1.ex _)))
    go_returns
    exact ⟨by simp [xBM, *], by (repeat (with_reducible first | exact Ex.refl _ _ | assumption | exact Ex.trans hr0 (by assumption) | refine Ex.alloc ?_ _ | refine Ex.drew ?_ | refine Ex.drewN ?_ _ | refine Ex.setCell ?_ (by first | (left; simp; done) | (right; simp; done) | (right; simp; omega)) _ | refine Ex.trans ?_ (by assumption)))⟩
   case true =>
    cases hb3 : xDE p.target
    case false =>
     go_wp2_with (first | (go_at_call 106; refine (xBp (fun l => !xCY l) 107 #[] a cap p.lots _ (hs.ext (Ex.trans hr0 (by assumption))) (fun x _ w _ => xF1 _ _) (fun w x => by kernel_rfl)).mono ?_; rintro e w1 ⟨rfl, h1⟩; replace h1 : Ex [] W w1 := Ex.trans exI (h1.ex _)) | (go_at_call 108; refine (xDw _ _ _ _).mono ?_; rintro e w1 ⟨rfl, h1⟩; replace h1 : Ex [] W w1 := Ex.trans exI (h1.ex _)) | (go_at_call 64; refine (xCa p.target _).mono ?_; rintro e w1 ⟨rfl, h1⟩; replace h1 : Ex [] W w1 := Ex.trans exI (h1.ex _)))
     go_returns
     exact ⟨by simp [xBM, *], by (repeat (with_reducible first | exact Ex.refl _ _ | assumption | exact Ex.trans hr0 (by assumption) | refine Ex.alloc ?_ _ | refine Ex.drew ?_ | refine Ex.drewN ?_ _ | refine Ex.setCell ?_ (by first | (left; simp; done) | (right; simp; done) | (right; simp; omega)) _ | refine Ex.trans ?_ (by assumption)))⟩
    case true =>
     go_wp2_with (first | (go_at_call 106; refine (xBp (fun l => !xCY l) 107 #[] a cap p.lots _ (hs.ext (Ex.trans hr0 (by assumption))) (fun x _ w _ => xF1 _ _) (fun w x => by kernel_rfl)).mono ?_; rintro e w1 ⟨rfl, h1⟩; replace h1 : Ex [] W w1 := Ex.trans exI (h1.ex _)) | (go_at_call 108; refine (xDw _ _ _ _).mono ?_; rintro e w1 ⟨rfl, h1⟩; replace h1 : Ex [] W w1 := Ex.trans exI (h1.ex _)) | (go_at_call 64; refine (xCa p.target _).mono ?_; rintro e w1 ⟨rfl, h1⟩; replace h1 : Ex [] W w1 := Ex.trans exI (h1.ex _)))
     go_returns
     exact ⟨by simp [xBM, *], by (repeat (with_reducible first | exact Ex.refl _ _ | assumption | exact Ex.trans hr0 (by assumption) | refine Ex.alloc ?_ _ | refine Ex.drew ?_ | refine Ex.drewN ?_ _ | refine Ex.setCell ?_ (by first | (left; simp; done) | (right; simp; done) | (right; simp; omega)) _ | refine Ex.trans ?_ (by assumption)))⟩
  case true =>
   go_wp2_with (first | (go_at_call 106; refine (xBp (fun l => !xCY l) 107 #[] a cap p.lots _ (hs.ext (Ex.trans hr0 (by assumption))) (fun x _ w _ => xF1 _ _) (fun w x => by kernel_rfl)).mono ?_; rintro e w1 ⟨rfl, h1⟩; replace h1 : Ex [] W w1 := Ex.trans exI (h1.ex _)) | (go_at_call 108; refine (xDw _ _ _ _).mono ?_; rintro e w1 ⟨rfl, h1⟩; replace h1 : Ex [] W w1 := Ex.trans exI (h1.ex _)) | (go_at_call 64; refine (xCa p.target _).mono ?_; rintro e w1 ⟨rfl, h1⟩; replace h1 : Ex [] W w1 := Ex.trans exI (h1.ex _)))
   go_returns
   exact ⟨by simp [xBM, *], by (repeat (with_reducible first | exact Ex.refl _ _ | assumption | exact Ex.trans hr0 (by assumption) | refine Ex.alloc ?_ _ | refine Ex.drew ?_ | refine Ex.drewN ?_ _ | refine Ex.setCell ?_ (by first | (left; simp; done) | (right; simp; done) | (right; simp; omega)) _ | refine Ex.trans ?_ (by assumption)))⟩
def xBr (p : Pile) (l : Lot) (n : Int) : Pile := ⟨wrap64 (p.mass + wrap64 (n * l.mass)), ⟨⟨wrap64 (p.con.a.lo + wrap64 (n * l.con.a.lo)), wrap64 (p.con.a.hi + wrap64 (n * l.con.a.hi))⟩, ⟨wrap64 (p.con.b.lo + wrap64 (n * l.con.b.lo)), wrap64 (p.con.b.hi + wrap64 (n * l.con.b.hi))⟩, ⟨wrap64 (p.con.c.lo + wrap64 (n * l.con.c.lo)), wrap64 (p.con.c.hi + wrap64 (n * l.con.c.hi))⟩⟩⟩
set_option maxHeartbeats 4000000 in
theorem put0_c (p : Pile) (l : Lot) (n : Int) (b : Nat) (T : TypeId) (w : World) (hB : w.heap[b]? = some (.cells #[.int .i64 p.mass, .int .i64 p.con.a.lo, .int .i64 p.con.a.hi, .int .i64 p.con.b.lo, .int .i64 p.con.b.hi, .int .i64 p.con.c.lo, .int .i64 p.con.c.hi] T (0, 0))) :
  Calls Tryz.prog 50 #[.pointer (some ⟨b, 0, none⟩), .agg #[.int .i64 l.count, .int .i64 l.mass, .int .i64 l.con.a.lo, .int .i64 l.con.a.hi, .int .i64 l.con.b.lo, .int .i64 l.con.b.hi, .int .i64 l.con.c.lo, .int .i64 l.con.c.hi, .int .i64 l.cost], .int .i64 n] w (fun e w' => e = .returned (.tuple #[]) /\ Ex [b] w w' /\ w'.heap[b]? = some (.cells #[.int .i64 (xBr p l n).mass, .int .i64 (xBr p l n).con.a.lo, .int .i64 (xBr p l n).con.a.hi, .int .i64 (xBr p l n).con.b.lo, .int .i64 (xBr p l n).con.b.hi, .int .i64 (xBr p l n).con.c.lo, .int .i64 (xBr p l n).con.c.hi] T (0, 0))) := by
 have hlt := lt_of_block hB;have k0 := xAb hB 0 rfl;have z0 := xBv hB 0;have k1 := xAb hB 1 rfl;have z1 := xBv hB 1;have k2 := xAb hB 2 rfl;have z2 := xBv hB 2;have k3 := xAb hB 3 rfl;have z3 := xBv hB 3;have k4 := xAb hB 4 rfl;have z4 := xBv hB 4;have k5 := xAb hB 5 rfl;have z5 := xBv hB 5;have k6 := xAb hB 6 rfl;have z6 := xBv hB 6;have hB' := Lib.hid hB; clear hB
 go_enter Tryz.func50, Tryz.ntmps50
 go_wp2
 go_region
 go_wp2
 refine wp_loop_rounds 4 ?_
 iterate 3 (rw [rounds_succ]; go_wp2; go_region; go_wp2; go_region; go_wp2)
 rw [rounds_succ]
 go_wp2
 go_returns
 refine ⟨rfl, by (exact exI), ?_⟩
 repeat (with_reducible refine xLC ?_)
 refine xVx (xBB (xAF (xAF (xAF (xAF (xAF (xAF (xAF hB'.out 0 _) 1 _) 2 _) 3 _) 4 _) 5 _) 6 _)) ?_;kernel_rfl
def Rng.zero : Rng := ⟨0, 0⟩
def Bnds.zero : Bnds := ⟨.zero, .zero, .zero⟩
def Pile.zero : Pile := ⟨0, .zero⟩
def Lot.zero : Lot := ⟨0, 0, .zero, 0⟩
structure Mar where
 (m0 m1 m2 m3 m4 m5 m6 m7 : Int)
 deriving DecidableEq
def Mar.zero : Mar := ⟨0, 0, 0, 0, 0, 0, 0, 0⟩
def Mar.list (m : Mar) : List Int := [m.m0, m.m1, m.m2, m.m3, m.m4, m.m5, m.m6, m.m7]
def Mar.cells (m : Mar) : List Value := [.int .i64 m.m0, .int .i64 m.m1, .int .i64 m.m2, .int .i64 m.m3, .int .i64 m.m4, .int .i64 m.m5, .int .i64 m.m6, .int .i64 m.m7]
def xDh (p : Recipe) : Mar := ⟨wrap64 (-p.mass.lo), p.mass.hi, 0, 0, 0, 0, 0, 0⟩
def xFb (a b : Mar) (n : Int) : Mar := ⟨wrap64 (a.m0 + wrap64 (n * b.m0)), wrap64 (a.m1 + wrap64 (n * b.m1)), wrap64 (a.m2 + wrap64 (n * b.m2)), wrap64 (a.m3 + wrap64 (n * b.m3)), wrap64 (a.m4 + wrap64 (n * b.m4)), wrap64 (a.m5 + wrap64 (n * b.m5)), wrap64 (a.m6 + wrap64 (n * b.m6)), wrap64 (a.m7 + wrap64 (n * b.m7))⟩
def ofM (p : Recipe) (x : Pile) : Mar := ⟨x.mass, wrap64 (-x.mass), wrap64 (wrap64 (p.target.a.hi * x.mass) - wrap64 (1000000 * x.con.a.hi)), wrap64 (wrap64 (1000000 * x.con.a.lo) - wrap64 (p.target.a.lo * x.mass)), wrap64 (wrap64 (p.target.b.hi * x.mass) - wrap64 (1000000 * x.con.b.hi)), wrap64 (wrap64 (1000000 * x.con.b.lo) - wrap64 (p.target.b.lo * x.mass)), wrap64 (wrap64 (p.target.c.hi * x.mass) - wrap64 (1000000 * x.con.c.hi)), wrap64 (wrap64 (1000000 * x.con.c.lo) - wrap64 (p.target.c.lo * x.mass))⟩
def xIY (m : Mar) : Int := idxOf (fun n => decide (n < 0)) m.list 0
set_option maxHeartbeats 2000000 in
theorem xPL (a b : Mar) (n : Int) (w : World) :
  Calls Tryz.prog 112 #[.agg #[.int .i64 a.m0, .int .i64 a.m1, .int .i64 a.m2, .int .i64 a.m3, .int .i64 a.m4, .int .i64 a.m5, .int .i64 a.m6, .int .i64 a.m7], .agg #[.int .i64 b.m0, .int .i64 b.m1, .int .i64 b.m2, .int .i64 b.m3, .int .i64 b.m4, .int .i64 b.m5, .int .i64 b.m6, .int .i64 b.m7], .int .i64 n] w (Ret (.agg #[.int .i64 ((xFb a b n).m0), .int .i64 ((xFb a b n).m1), .int .i64 ((xFb a b n).m2), .int .i64 ((xFb a b n).m3), .int .i64 ((xFb a b n).m4), .int .i64 ((xFb a b n).m5), .int .i64 ((xFb a b n).m6), .int .i64 ((xFb a b n).m7)]) w) := by
 go_enter Tryz.func112, Tryz.ntmps112
 go_wp2
 refine wp_loop_rounds 9 ?_
 iterate 8 (rw [rounds_succ]; go_wp2; go_region; go_wp2)
 rw [rounds_succ]
 go_wp2
 go_returns
 exact ⟨rfl, by (exact exI)⟩
set_option maxHeartbeats 1000000 in
theorem base_c (p : Recipe) (a : Option Addr) (cap : Nat) (w : World) :
  Calls Tryz.prog 113 #[.agg #[.slice a p.lots.length cap, .int .i64 p.mass.lo, .int .i64 p.mass.hi, .int .i64 p.target.a.lo, .int .i64 p.target.a.hi, .int .i64 p.target.b.lo, .int .i64 p.target.b.hi, .int .i64 p.target.c.lo, .int .i64 p.target.c.hi]] w (Ret (.agg #[.int .i64 ((xDh p).m0), .int .i64 ((xDh p).m1), .int .i64 ((xDh p).m2), .int .i64 ((xDh p).m3), .int .i64 ((xDh p).m4), .int .i64 ((xDh p).m5), .int .i64 ((xDh p).m6), .int .i64 ((xDh p).m7)]) w) := by
 go_enter Tryz.func113, Tryz.ntmps113
 go_wp2
 go_returns
 exact ⟨rfl, by (exact exI)⟩
set_option maxRecDepth 100000 in
set_option maxHeartbeats 4000000 in
theorem of_c (p : Recipe) (x : Pile) (a : Option Addr) (cap : Nat) (w : World) :
  Calls Tryz.prog 109 #[.agg #[.slice a p.lots.length cap, .int .i64 p.mass.lo, .int .i64 p.mass.hi, .int .i64 p.target.a.lo, .int .i64 p.target.a.hi, .int .i64 p.target.b.lo, .int .i64 p.target.b.hi, .int .i64 p.target.c.lo, .int .i64 p.target.c.hi], .agg #[.int .i64 x.mass, .int .i64 x.con.a.lo, .int .i64 x.con.a.hi, .int .i64 x.con.b.lo, .int .i64 x.con.b.hi, .int .i64 x.con.c.lo, .int .i64 x.con.c.hi]] w (Ret (.agg #[.int .i64 ((ofM p x).m0), .int .i64 ((ofM p x).m1), .int .i64 ((ofM p x).m2), .int .i64 ((ofM p x).m3), .int .i64 ((ofM p x).m4), .int .i64 ((ofM p x).m5), .int .i64 ((ofM p x).m6), .int .i64 ((ofM p x).m7)]) w) := by
 have ix0 : ∀ w, (Instr.index 30 (.agg #[.int .i64 p.target.a.lo, .int .i64 p.target.a.hi, .int .i64 p.target.b.lo, .int .i64 p.target.b.hi, .int .i64 p.target.c.lo, .int .i64 p.target.c.hi]) (.int .i64 0)).run Tryz.prog w = .ok (.agg #[.int .i64 p.target.a.lo, .int .i64 p.target.a.hi]) w := fun _ => by kernel_rfl
 have ix1 : ∀ w, (Instr.index 30 (.agg #[.int .i64 p.target.a.lo, .int .i64 p.target.a.hi, .int .i64 p.target.b.lo, .int .i64 p.target.b.hi, .int .i64 p.target.c.lo, .int .i64 p.target.c.hi]) (.int .i64 1)).run Tryz.prog w = .ok (.agg #[.int .i64 p.target.b.lo, .int .i64 p.target.b.hi]) w := fun _ => by kernel_rfl
 have ix2 : ∀ w, (Instr.index 30 (.agg #[.int .i64 p.target.a.lo, .int .i64 p.target.a.hi, .int .i64 p.target.b.lo, .int .i64 p.target.b.hi, .int .i64 p.target.c.lo, .int .i64 p.target.c.hi]) (.int .i64 2)).run Tryz.prog w = .ok (.agg #[.int .i64 p.target.c.lo, .int .i64 p.target.c.hi]) w := fun _ => by kernel_rfl
 have wl0 : IntKind.i64.wrap 0 = 0 := by decide
 have wl1 : IntKind.i64.wrap 1 = 1 := by decide
 have wl2 : IntKind.i64.wrap 2 = 2 := by decide
 have wl3 : IntKind.i64.wrap 3 = 3 := by decide
 have wl4 : IntKind.i64.wrap 4 = 4 := by decide
 have wl5 : IntKind.i64.wrap 5 = 5 := by decide
 have wl6 : IntKind.i64.wrap 6 = 6 := by decide
 have wl7 : IntKind.i64.wrap 7 = 7 := by decide
 go_enter Tryz.func109, Tryz.ntmps109
 go_wp2
 go_region
 go_wp2
 refine wp_loop_rounds 4 ?_
 iterate 3 (rw [rounds_succ]; go_wp2; (refine xIf 16 (by kernel_rfl) (by kernel_rfl) ?_; simp only [List.take_succ_cons, List.take_zero, List.drop_succ_cons, List.drop_zero]; (repeat still_step); refine wpStill_nil ?_); go_wp2; (refine xIf 16 (by kernel_rfl) (by kernel_rfl) ?_; simp only [List.take_succ_cons, List.take_zero, List.drop_succ_cons, List.drop_zero]; (repeat still_step); refine wpStill_nil ?_); go_wp2)
 rw [rounds_succ]
 go_wp2
 go_returns
 exact ⟨rfl, by (exact exI)⟩
set_option maxHeartbeats 400000 in
theorem xVu (n : Int) (w : World) : Calls Tryz.prog 115 #[.int .i64 n] w (Ret (.bool (decide (n < 0))) w) := by
 go_enter Tryz.func115, Tryz.ntmps115
 go_wp2
 go_returns
 exact ⟨rfl, Ex.refl _ _⟩
set_option maxHeartbeats 400000 in
theorem xF3 (m : Mar) (w : World) : Calls Tryz.prog 45 #[.agg #[.int .i64 m.m0, .int .i64 m.m1, .int .i64 m.m2, .int .i64 m.m3, .int .i64 m.m4, .int .i64 m.m5, .int .i64 m.m6, .int .i64 m.m7]] w (Ret (.int .i64 (xIY m)) w) := by
 go_enter Tryz.func45, Tryz.ntmps45
 go_wp2_with fail
 refine (xM8 (fun n => decide (n < 0)) 115 #[] _ _ m.list _ (Sl.block (xAq _ _) (by simp [Mar.list]) ?_) (fun x _ w _ => xVu _ _) (fun w x => by kernel_rfl)).mono ?_
 ·intro i hi j v hv
  match i, hi, j with
  | 0, _, 0 | 1, _, 0 | 2, _, 0 | 3, _, 0 | 4, _, 0 | 5, _, 0 | 6, _, 0 | 7, _, 0 => exact hv
  | _, _, j + 1 => simp [intCells] at hv
  | i + 8, hi, 0 => simp [Mar.list] at hi; omega
 rintro e w1 ⟨rfl, hE1⟩
 go_wp2_with fail
 go_returns
 exact ⟨rfl, ((Ex.refl _ _).alloc _).trans hE1⟩
end Go.Proofs.YtnomnijhlbalaaaGreatDoor
