/- A proof is accepted. No condition. -/
import Derived.Test.YtojnpaenpaobcaaC15
import Derived.Test.YtojnpaenpaobcaaB6
namespace Go.Proofs.Ytojnpaenpaobcaa
open Go.RowKit

structure Split where
  (lot at_ reason : Int)
  deriving DecidableEq
def Split.cells (s : Split) : List Value := [.int .i64 s.lot, .int .i64 s.at_, .int .i64 s.reason]
theorem Split.len (m : Split) : m.cells.length = 3 := rfl
theorem Split.one (m : Split) : ∀ u ∈ m.cells, u.oneCell' = true := by simp [Split.cells, Value.oneCell']
theorem eiSplit : EI Try.prog 53 55 3 24 := EI.mk' (z := .agg #[.int .i64 0, .int .i64 0, .int .i64 0]) (by kernel_rfl) (by kernel_rfl) (by rfl) (by omega)
theorem Own.toSl {α : Type} {T k : Nat} {f : α → List Value} {base : Nat} {w : World} {a : Option Addr} {n cap : Nat} {xs : List α} (h : Own T k f base w (.slice a n cap) xs) (hf : ∀ x : α, (f x).length = k) : Sl k f w a cap xs := by
  obtain ⟨a', c', e, h2, _⟩ := h.sl hf
  simp only [Value.slice.injEq] at e
  obtain ⟨rfl, _, rfl⟩ := e
  exact h2
def Mar.at' (m : Mar) (r : Int) : Int := m.list.getD r.toNat 0
set_option maxRecDepth 100000 in
theorem ixM (m : Mar) (r : Int) (h : withinB r 0 7 = true) : ∀ w, (Instr.index 110 (.agg #[.int .i64 m.m0, .int .i64 m.m1, .int .i64 m.m2, .int .i64 m.m3, .int .i64 m.m4, .int .i64 m.m5, .int .i64 m.m6, .int .i64 m.m7]) (.int .i64 r)).run Try.prog w = .ok (.int .i64 (m.at' r)) w := by
  unfold withinB at h
  simp only [Bool.and_eq_true, decide_eq_true_eq] at h
  obtain rfl | rfl | rfl | rfl | rfl | rfl | rfl | rfl : r = 0 ∨ r = 1 ∨ r = 2 ∨ r = 3 ∨ r = 4 ∨ r = 5 ∨ r = 6 ∨ r = 7 := by omega
  all_goals exact fun _ => by kernel_rfl

/-- What follows a proof for a box at the beginning of a list. -/
def acceptM (p : Recipe) (ones : List Mar) : Nat → List Int → List Int → List Split → List Split × Bool
  | 0, _, _, _ => ([], false)
  | _ + 1, _, _, [] => ([], false)
  | n + 1, lows, highs, x :: rest =>
    if (x.lot == -1) = true then (rest, (x.at_ == 0) && withinB x.reason 0 7 && decide ((greatM p ones lows highs).at' x.reason < 0))
    else if withinB x.lot 0 (p.lots.length - 1) && (x.reason == 0) && withinB x.at_ (nth lows 0 x.lot.toNat) (wrap64 (nth highs 0 x.lot.toNat - 1)) then
      if (acceptM p ones n lows (highs.set x.lot.toNat x.at_) rest).2 then acceptM p ones n (lows.set x.lot.toNat (wrap64 (x.at_ + 1))) highs (acceptM p ones n lows (highs.set x.lot.toNat x.at_) rest).1 else ([], false)
    else ([], false)
theorem acceptM_nil (p : Recipe) (ones : List Mar) (n : Nat) (lows highs : List Int) : acceptM p ones n lows highs [] = ([], false) := by cases n <;> rfl
theorem acceptM_len (p : Recipe) (ones : List Mar) : ∀ (n : Nat) (lows highs : List Int) (l : List Split), (acceptM p ones n lows highs l).1.length ≤ l.length := by
  intro n
  induction n with
  | zero => intro lows highs l; simp [acceptM]
  | succ n ih =>
    intro lows highs l
    cases l with
    | nil => simp [acceptM]
    | cons x rest =>
      rw [acceptM]
      split
      · simp
      · split
        · split
          · have h1 := ih (lows.set x.lot.toNat (wrap64 (x.at_ + 1))) highs (acceptM p ones n lows (highs.set x.lot.toNat x.at_) rest).1
            have h2 := ih lows (highs.set x.lot.toNat x.at_) rest
            simp only [List.length_cons]
            omega
          · simp
        · simp

def AcceptPost (p : Recipe) (ones : List Mar) (n : Nat) (lows highs : List Int) (l : List Split) (w : World) (e : Ending) (w' : World) : Prop :=
  ∃ a' c', e = .returned (.tuple #[.slice a' (acceptM p ones n lows highs l).1.length c', .bool (acceptM p ones n lows highs l).2]) ∧ Sl 3 Split.cells w' a' c' (acceptM p ones n lows highs l).1 ∧ Ext w w'

set_option maxHeartbeats 1000000 in
theorem accept_nil_c (p : Recipe) (a : Option Addr) (cap : Nat) (a2 : Option Addr) (cap2 : Nat) (ones : List Mar) (n : Nat) (la ha : Option Addr) (lc hc : Nat) (lows highs : List Int) (pa : Option Addr) (pc : Nat) (w : World) :
    Calls Try.prog 75 #[.agg #[.slice a p.lots.length cap, .int .i64 p.mass.lo, .int .i64 p.mass.hi, .int .i64 p.target.a.lo, .int .i64 p.target.a.hi, .int .i64 p.target.b.lo, .int .i64 p.target.b.hi, .int .i64 p.target.c.lo, .int .i64 p.target.c.hi, .slice a2 ones.length cap2], .agg #[.slice la lows.length lc, .slice ha highs.length hc], .slice pa 0 pc] w (AcceptPost p ones n lows highs [] w) := by
  go_enter Try.func75, Try.ntmps75
  go_wp2_with fail
  go_returns
  refine ⟨none, 0, by rw [acceptM_nil]; rfl, by rw [acceptM_nil]; exact Sl.nil _ _ _, ?_⟩
  (repeat (with_reducible first | exact Ex.refl _ _ | assumption | exact Ex.mono (by assumption) (by simp; done) | refine Ex.alloc ?_ _ | refine Ex.drew ?_ | refine Ex.drewN ?_ _ | refine Ex.setCell ?_ (by first | (left; simp; done) | (right; simp; done) | (right; simp; omega)) _ | refine Ex.trans ?_ (by assumption)))
end Go.Proofs.Ytojnpaenpaobcaa
