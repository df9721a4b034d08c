/- Tables of constants in package variables: none. No condition. -/
import Derived.Test.YthmicafabimfkaaWZ2
namespace Go.Proofs.Ythmicafabimfkaa
open Go.RowKit
noncomputable section
/-- Whether a place is the beginning of a row, and which one. -/
def gFit (e w n : Nat) : Bool := Nat.beq (Nat.mod e w) 0 && Nat.ble (Nat.succ (Nat.div e w)) n
def gRow (e w : Nat) : Nat := Nat.div e w
/-- What a package variable holds, as data. -/
def gTab (_ : Nat) : Option (Sigma fun τ : TC => List τ.ty) := none
theorem gTab_ok {w : World} (_ : gOk w) {b : Nat} {τ : TC} {xs : List τ.ty} (h : gTab b = some ⟨τ, xs⟩) : b ∈ gBlk ∧ ∀ r < xs.length, ∃ us : List Value, (∀ ρ, DenL ρ (τ.enc (elemAt τ xs r)) us) ∧ ∀ (t : Nat) (v : Value), us[t]? = some v → w.cell? ⟨b, r * τ.w + t, none⟩ = some v := by cases h
end
end Go.Proofs.Ythmicafabimfkaa
