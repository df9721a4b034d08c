/- A part of the proof of the theorem of the last file. No condition. By an AI agent. -/
import Derived.Test.YtnomnijhlbalaaaGreatDoorWZ2
namespace Go.Proofs.YtnomnijhlbalaaaGreatDoor
open Go.RowKit
noncomputable section
def gFit (e w n : Nat) : Bool := Nat.beq (Nat.mod e w) 0 && Nat.ble (Nat.succ (Nat.div e w)) n
def gRow (e w : Nat) : Nat := Nat.div e w
def gTab : Nat -> Option (Sigma fun U : TC => List U.ty)
 | 1 => some ⟨.pair .bool (.pair .bool .bool), [(true, (false, false))]⟩
 | 2 => some ⟨.pair .bool (.pair .bool .bool), [(false, (true, true))]⟩
 | 0 => some ⟨.pair (.int .i64) .bool, [(0, false), (20000, true), (1000000000000, true), (1000000000000, false), (10000, false)]⟩
 | _ => none
theorem cell_g {w : World} (hg : gOk w) {b : Nat} (hb : b ∈ gT) {j : Nat} {v : Value} (h : (xG1 b)[j]? = some v) : w.cell? ⟨b, j, none⟩ = some v := by
 obtain ⟨T, f, h1⟩ := hg.1 b hb;unfold World.cell?;simp only [h1];simpa using h
theorem gTab_ok {w : World} (hg : gOk w) {b : Nat} {U : TC} {xs : List U.ty} (h : gTab b = some ⟨U, xs⟩) : b ∈ xIJ /\ ∀ r < xs.length, ∃ us : List Value, (∀ O, DenL O (U.enc (elemAt U xs r)) us) /\ ∀ (t : Nat) (v : Value), us[t]? = some v -> w.cell? ⟨b, r * U.w + t, none⟩ = some v := by
 have three : ∀ {b : Nat} {x y z : Bool}, b ∈ gT -> xG1 b = [.bool x, .bool y, .bool z] -> ∀ r < [(x, (y, z))].length, ∃ us : List Value, (∀ O, DenL O (TC.enc (.pair .bool (.pair .bool .bool)) (elemAt (.pair .bool (.pair .bool .bool)) [(x, (y, z))] r)) us) /\ ∀ (t : Nat) (v : Value), us[t]? = some v -> w.cell? ⟨b, r * 3 + t, none⟩ = some v := by
  intro b x y z hb hc r hr;have : r = 0 := by simp at hr; omega
  subst this;refine ⟨[.bool x, .bool y, .bool z], fun O => ⟨_, _, rfl, ⟨rfl, rfl⟩, _, _, rfl, ⟨rfl, rfl⟩, _, _, rfl, ⟨rfl, rfl⟩, rfl⟩, fun t v hv => cell_g hg hb ?_⟩;rw [hc, Nat.zero_mul, Nat.zero_add]; exact hv
 match b, h with
 | 1, h =>
  cases h;exact ⟨by decide, three (by decide) rfl⟩
 | 2, h =>
  cases h;exact ⟨by decide, three (by decide) rfl⟩
 | 0, h =>
  cases h;refine ⟨by decide, fun r hr => ?_⟩;have two : ∀ (n : Int) (q : Bool), elemAt (.pair (.int .i64) .bool) [((0 : Int), false), (20000, true), (1000000000000, true), (1000000000000, false), (10000, false)] r = (n, q) -> (∀ t v, [Value.int .i64 n, .bool q][t]? = some v -> (xG1 0)[r * 2 + t]? = some v) -> ∃ us : List Value, (∀ O, DenL O (TC.enc (.pair (.int .i64) .bool) (elemAt (.pair (.int .i64) .bool) [((0 : Int), false), (20000, true), (1000000000000, true), (1000000000000, false), (10000, false)] r)) us) /\ ∀ (t : Nat) (v : Value), us[t]? = some v -> w.cell? ⟨0, r * 2 + t, none⟩ = some v := by
   intro n q e hc;refine ⟨[.int .i64 n, .bool q], fun O => ?_, fun t v hv => cell_g hg (by decide) (hc t v hv)⟩;rw [e];exact ⟨_, _, rfl, ⟨rfl, rfl⟩, _, _, rfl, ⟨rfl, rfl⟩, rfl⟩
  have hr' : r < 5 := hr;have tt : ∀ (n : Int) (q : Bool), (xG1 0)[r * 2]? = some (.int .i64 n) -> (xG1 0)[r * 2 + 1]? = some (.bool q) -> ∀ t v, [Value.int .i64 n, .bool q][t]? = some v -> (xG1 0)[r * 2 + t]? = some v := by
   intro n q h0 h1 t v hv
   match t with
   | 0 => cases hv; exact h0
   | 1 => cases hv; exact h1
   | t + 2 => simp at hv
  match r, hr' with
  | 0, _ => exact two 0 false rfl (tt 0 false rfl rfl)
  | 1, _ => exact two 20000 true rfl (tt 20000 true rfl rfl)
  | 2, _ => exact two 1000000000000 true rfl (tt 1000000000000 true rfl rfl)
  | 3, _ => exact two 1000000000000 false rfl (tt 1000000000000 false rfl rfl)
  | 4, _ => exact two 10000 false rfl (tt 10000 false rfl rfl)
 | n + 3, h => cases h
end
end Go.Proofs.YtnomnijhlbalaaaGreatDoor
