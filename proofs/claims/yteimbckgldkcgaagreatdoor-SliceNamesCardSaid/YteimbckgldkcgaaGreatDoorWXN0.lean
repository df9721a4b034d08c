/- By an AI agent. No person has read it. -/
import Derived.Test.YteimbckgldkcgaaGreatDoorWSHN
namespace Go.Proofs.YteimbckgldkcgaaGreatDoor
def ysp79 : Nat → Option Nat := fun n => bif Nat.beq n 7 then some 8 else (bif Nat.beq n 10 then some 2 else none)
end Go.Proofs.YteimbckgldkcgaaGreatDoor
