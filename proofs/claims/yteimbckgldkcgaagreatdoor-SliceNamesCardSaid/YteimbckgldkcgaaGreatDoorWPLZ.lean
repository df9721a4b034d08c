/- By an AI agent. No person has read it. -/
import Derived.Test.YteimbckgldkcgaaGreatDoorWY6
import Derived.Test.YteimbckgldkcgaaGreatDoorProg
import Derived.KernelRfl
namespace Go.Proofs.YteimbckgldkcgaaGreatDoor
open Go.RowKit
noncomputable section
set_option maxRecDepth 100000
def plans : Plans := [
  (5, [(4, .rd 0 (.rd 1 (.rd 2 (.rd 3 (.rd 4 (.rd 8 (.rd 9 (.rd 10 (.rd 13 (.go 5 [] (.rd 6 (.rd 7 (.go 11 [] (.rd 12 (.rd 14 (.rd 15 (.rd 16 (.done))))))))))))))))))]),
  (6, [(9, .rd 0 (.rd 1 (.rd 2 (.rd 3 (.rd 4 (.rd 8 (.rd 9 (.go 5 [] (.rd 6 (.rd 7 (.go 10 [] (.rd 11 (.rd 12 (.rd 13 (.done)))))))))))))))]),
  (9, [(7, .rd 0 (.rd 1 (.rd 3 (.rd 4 (.rd 7 (.rd 8 (.rd 9 (.rd 10 (.rd 11 (.rd 12 (.rd 13 (.rd 14 (.rd 15 (.rd 16 (.rd 17 (.rd 18 (.rd 19 (.rd 20 (.go 2 [22] (.go 5 [22] (.rd 6 (.rd 21 (.go 22 [] (.go 23 [] (.done))))))))))))))))))))))))), (11, .rd 0 (.rd 1 (.rd 2 (.rd 3 (.rd 4 (.rd 5 (.rd 6 (.rd 7 (.rd 8 (.rd 9 (.rd 10 (.rd 11 (.rd 12 (.go 13 [] (.go 14 [] (.rd 15 (.go 16 [] (.done))))))))))))))))))]),
  (12, [(6, .rd 0 (.rd 1 (.rd 2 (.rd 3 (.rd 4 (.rd 5 (.rd 6 (.rd 8 (.rd 9 (.rd 10 (.rd 11 (.rd 12 (.rd 13 (.rd 14 (.go 7 [] (.go 15 [] (.rd 16 (.rd 17 (.rd 18 (.done))))))))))))))))))))]),
  (22, [(1, .rd 0 (.rd 1 (.rd 2 (.rd 3 (.rd 4 (.rd 5 (.rd 6 (.rd 7 (.rd 8 (.rd 9 (.rd 10 (.rd 11 (.rd 12 (.rd 13 (.go 14 [] (.go 15 [] (.rd 16 (.rd 17 (.rd 18 (.go 19 [] (.rd 20 (.rd 21 (.done)))))))))))))))))))))))]),
  (23, [(1, .rd 0 (.rd 1 (.rd 2 (.rd 3 (.rd 4 (.rd 5 (.rd 6 (.rd 7 (.rd 8 (.rd 9 (.rd 10 (.rd 11 (.rd 12 (.rd 13 (.go 14 [] (.go 15 [] (.rd 16 (.rd 17 (.rd 18 (.go 19 [] (.rd 20 (.rd 21 (.done)))))))))))))))))))))))]),
  (25, [(3, .rd 0 (.rd 1 (.rd 2 (.rd 3 (.rd 4 (.rd 5 (.rd 6 (.rd 7 (.rd 8 (.rd 9 (.rd 10 (.rd 11 (.rd 12 (.rd 13 (.rd 14 (.rd 15 (.rd 16 (.done))))))))))))))))))]),
  (34, [(3, .rd 0 (.rd 1 (.rd 2 (.rd 3 (.rd 5 (.rd 6 (.rd 7 (.rd 8 (.rd 9 (.rd 11 (.go 4 [] (.rd 10 (.rd 12 (.done))))))))))))))]),
  (37, [(1, .rd 0 (.rd 1 (.rd 2 (.rd 3 (.rd 5 (.rd 6 (.rd 7 (.rd 8 (.rd 9 (.go 4 [] (.go 10 [] (.rd 11 (.done)))))))))))))]),
  (38, [(3, .rd 0 (.rd 1 (.rd 2 (.rd 3 (.rd 4 (.rd 5 (.rd 6 (.rd 7 (.rd 8 (.rd 9 (.rd 10 (.rd 11 (.done)))))))))))))]),
  (41, [(17, .rd 0 (.rd 1 (.rd 2 (.go 3 [] (.go 4 [] (.go 5 [] (.done)))))))]),
  (44, [(4, .rd 0 (.rd 1 (.rd 2 (.rd 4 (.rd 5 (.go 3 [] (.go 6 [] (.rd 7 (.done)))))))))]),
  (50, [(0, .rd 0 (.rd 1 (.rd 2 (.rd 3 (.rd 6 (.rd 9 (.rd 10 (.rd 11 (.rd 12 (.rd 13 (.go 4 [] (.rd 5 (.rd 7 (.go 8 [] (.rd 14 (.rd 15 (.done)))))))))))))))))]),
  (53, [(1, .rd 0 (.rd 1 (.rd 3 (.go 2 [] (.rd 4 (.go 5 [] (.rd 6 (.done))))))))]),
  (54, [(1, .rd 0 (.rd 1 (.rd 3 (.go 2 [] (.rd 4 (.go 5 [] (.rd 6 (.done))))))))]),
  (68, [(7, .rd 0 (.rd 1 (.rd 2 (.rd 3 (.rd 4 (.rd 5 (.rd 6 (.rd 7 (.rd 8 (.rd 9 (.rd 10 (.rd 11 (.go 12 [] (.rd 13 (.go 14 [] (.done)))))))))))))))), (8, .rd 0 (.rd 1 (.rd 2 (.rd 3 (.rd 4 (.rd 5 (.rd 6 (.rd 7 (.rd 8 (.rd 9 (.rd 10 (.rd 11 (.go 12 [] (.rd 13 (.go 14 [] (.done)))))))))))))))), (9, .rd 0 (.rd 1 (.rd 2 (.rd 3 (.rd 4 (.rd 5 (.rd 6 (.rd 7 (.rd 8 (.rd 9 (.rd 10 (.rd 11 (.go 12 [] (.rd 13 (.go 14 [] (.done)))))))))))))))), (10, .rd 0 (.rd 1 (.rd 2 (.rd 3 (.rd 4 (.rd 5 (.rd 6 (.rd 7 (.rd 8 (.rd 9 (.rd 10 (.rd 11 (.go 12 [] (.rd 13 (.go 14 [] (.done)))))))))))))))), (17, .rd 0 (.rd 1 (.rd 2 (.rd 3 (.rd 4 (.rd 5 (.rd 6 (.rd 7 (.rd 8 (.rd 9 (.rd 10 (.rd 11 (.go 12 [] (.rd 13 (.go 14 [] (.done)))))))))))))))), (18, .rd 0 (.rd 1 (.rd 2 (.rd 3 (.rd 4 (.rd 5 (.rd 6 (.rd 7 (.rd 8 (.rd 9 (.rd 10 (.rd 11 (.go 12 [] (.rd 13 (.go 14 [] (.done)))))))))))))))), (23, .rd 0 (.rd 1 (.rd 2 (.rd 3 (.rd 4 (.rd 5 (.rd 6 (.rd 7 (.rd 8 (.rd 9 (.rd 10 (.rd 11 (.go 12 [] (.rd 13 (.go 14 [] (.done))))))))))))))))]),
  (79, [(4, .rd 0 (.rd 1 (.rd 3 (.rd 4 (.rd 5 (.go 2 [6] (.go 6 [] (.go 7 [] (.rd 8 (.done))))))))))]),
  (94, [(6, .rd 0 (.rd 1 (.rd 2 (.rd 3 (.rd 4 (.rd 5 (.rd 6 (.done)))))))), (7, .rd 0 (.rd 1 (.rd 2 (.rd 3 (.rd 4 (.rd 5 (.rd 6 (.go 7 [] (.rd 8 (.done)))))))))), (14, .rd 0 (.rd 1 (.rd 2 (.rd 3 (.rd 4 (.rd 5 (.rd 6 (.rd 7 (.rd 8 (.rd 9 (.rd 10 (.done)))))))))))), (31, .rd 0 (.rd 1 (.rd 2 (.rd 3 (.rd 4 (.rd 5 (.rd 6 (.rd 7 (.rd 8 (.rd 9 (.rd 10 (.done))))))))))))])]
theorem progMixed : Tryz.prog.follows .mixedOrders = true := by kernel_rfl
theorem plansAll : plans.all (bodyOk Tryz.prog) = true := by kernel_rfl
theorem plansOk : PlansOk Tryz.prog plans := fun p hp => List.all_eq_true.1 plansAll p hp
def fb (β : Type) : CallF β := evCall Tryz.prog 70 plans noSums 50
theorem progFb : ∀ β, CallOk Tryz.prog (fb β) := fun _ => evCall_ok progMixed 70 plansOk noSums_ok 50
def tab0 (_ : Nat) : List Ent := []
theorem tab0_ok (F : Nat) : EntsOk Tryz.prog (tab0 F) := trivial
end
end Go.Proofs.YteimbckgldkcgaaGreatDoor
