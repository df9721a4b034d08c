/- By an AI agent. No person has read it. -/
import Derived.Test.YtbnapejkjaddoaaDoorWY6
import Derived.Test.YtbnapejkjaddoaaDoorProg
import Derived.KernelRfl
namespace Go.Proofs.YtbnapejkjaddoaaDoor
open Go.RowKit
noncomputable section
set_option maxRecDepth 100000
def plans : Plans := [
  (4, [(6, .rd 0 (.rd 2 (.rd 4 (.rd 6 (.go 1 [8, 9, 10, 11] (.go 3 [8, 9, 10, 11] (.go 5 [8, 9, 10, 11] (.go 7 [8, 9, 10, 11] (.go 8 [9, 10, 11] (.go 9 [10, 11] (.go 10 [11] (.go 11 [] (.go 12 [] (.go 13 [] (.go 14 [] (.go 15 [] (.done))))))))))))))))), (12, .rd 0 (.rd 1 (.rd 2 (.rd 3 (.rd 4 (.rd 5 (.rd 6 (.rd 7 (.rd 8 (.rd 9 (.rd 10 (.rd 11 (.rd 12 (.go 13 [] (.done))))))))))))))), (16, .rd 0 (.rd 1 (.rd 2 (.rd 3 (.rd 4 (.rd 5 (.rd 6 (.rd 7 (.rd 8 (.rd 9 (.rd 10 (.rd 11 (.rd 12 (.rd 13 (.go 14 [] (.done))))))))))))))))]),
  (5, [(17, .rd 0 (.rd 1 (.rd 2 (.rd 3 (.rd 4 (.rd 5 (.rd 6 (.rd 7 (.rd 8 (.rd 9 (.rd 10 (.rd 11 (.rd 12 (.rd 13 (.rd 14 (.rd 15 (.rd 16 (.rd 17 (.rd 18 (.done))))))))))))))))))))]),
  (6, [(12, .rd 0 (.rd 1 (.rd 2 (.rd 3 (.rd 4 (.rd 5 (.rd 6 (.rd 7 (.rd 8 (.rd 9 (.rd 10 (.rd 11 (.rd 12 (.rd 13 (.rd 14 (.rd 15 (.done))))))))))))))))), (26, .rd 0 (.rd 1 (.rd 2 (.rd 3 (.rd 4 (.rd 5 (.rd 6 (.rd 7 (.rd 8 (.rd 9 (.rd 10 (.rd 11 (.rd 12 (.rd 13 (.rd 14 (.rd 15 (.rd 16 (.rd 17 (.rd 18 (.rd 19 (.rd 20 (.rd 21 (.rd 22 (.rd 23 (.rd 24 (.rd 25 (.rd 26 (.rd 27 (.rd 28 (.rd 29 (.rd 30 (.rd 31 (.rd 32 (.rd 33 (.rd 34 (.rd 35 (.rd 36 (.rd 37 (.rd 38 (.rd 39 (.rd 40 (.rd 41 (.rd 42 (.rd 43 (.rd 44 (.rd 45 (.rd 46 (.rd 47 (.rd 48 (.rd 49 (.rd 50 (.done)))))))))))))))))))))))))))))))))))))))))))))))))))), (28, .rd 0 (.rd 1 (.rd 2 (.rd 3 (.rd 4 (.rd 5 (.rd 6 (.rd 7 (.rd 8 (.rd 9 (.rd 10 (.rd 11 (.rd 12 (.rd 13 (.rd 14 (.rd 15 (.rd 16 (.rd 17 (.rd 18 (.rd 19 (.done)))))))))))))))))))))]),
  (7, [(3, .rd 0 (.rd 1 (.rd 2 (.rd 4 (.rd 5 (.rd 6 (.go 3 [9] (.go 7 [9] (.rd 8 (.go 9 [] (.go 10 [] (.done)))))))))))), (14, .rd 0 (.rd 1 (.rd 3 (.rd 4 (.go 2 [] (.go 5 [] (.rd 6 (.go 7 [] (.done))))))))), (17, .rd 0 (.rd 1 (.rd 2 (.rd 3 (.rd 4 (.rd 5 (.rd 6 (.rd 7 (.rd 8 (.go 9 [] (.done))))))))))), (19, .rd 0 (.rd 1 (.rd 2 (.rd 3 (.rd 4 (.rd 5 (.rd 6 (.rd 7 (.rd 8 (.rd 9 (.rd 10 (.rd 11 (.rd 12 (.go 13 [] (.done))))))))))))))), (20, .rd 0 (.rd 2 (.rd 3 (.rd 5 (.rd 6 (.go 1 [] (.go 4 [] (.go 7 [] (.rd 8 (.go 9 [] (.rd 10 (.rd 11 (.rd 12 (.rd 13 (.rd 14 (.done))))))))))))))))]),
  (8, [(5, .rd 0 (.rd 1 (.go 2 [] (.go 3 [] (.rd 4 (.rd 5 (.rd 6 (.rd 7 (.rd 8 (.rd 9 (.rd 10 (.done)))))))))))), (12, .rd 0 (.rd 1 (.rd 2 (.rd 3 (.rd 4 (.rd 5 (.rd 6 (.rd 7 (.rd 8 (.rd 9 (.rd 10 (.done)))))))))))), (17, .rd 0 (.rd 1 (.rd 2 (.rd 3 (.rd 4 (.rd 5 (.rd 6 (.rd 7 (.rd 8 (.rd 9 (.rd 10 (.done))))))))))))]),
  (9, [(8, .rd 0 (.rd 2 (.rd 3 (.rd 5 (.rd 6 (.go 1 [] (.go 4 [] (.go 7 [] (.rd 8 (.go 9 [] (.rd 10 (.rd 11 (.rd 12 (.rd 13 (.rd 14 (.done)))))))))))))))), (14, .rd 0 (.rd 2 (.rd 3 (.rd 5 (.rd 6 (.go 1 [] (.go 4 [] (.go 7 [] (.rd 8 (.go 9 [] (.rd 10 (.rd 11 (.rd 12 (.rd 13 (.rd 14 (.done))))))))))))))))]),
  (10, [(6, .rd 0 (.rd 1 (.rd 2 (.rd 4 (.rd 5 (.rd 6 (.rd 7 (.rd 8 (.rd 10 (.rd 11 (.rd 12 (.go 3 [] (.go 9 [] (.go 13 [] (.rd 14 (.rd 15 (.rd 16 (.done))))))))))))))))))]),
  (11, [(23, .rd 0 (.rd 1 (.rd 2 (.rd 3 (.rd 4 (.rd 5 (.rd 6 (.rd 7 (.rd 8 (.rd 9 (.rd 10 (.rd 11 (.rd 12 (.rd 13 (.rd 14 (.rd 15 (.rd 16 (.rd 17 (.rd 18 (.rd 19 (.rd 20 (.rd 21 (.rd 22 (.rd 23 (.done))))))))))))))))))))))))), (36, .rd 0 (.rd 1 (.rd 2 (.rd 3 (.rd 6 (.rd 7 (.go 4 [8] (.go 5 [8] (.rd 10 (.go 8 [] (.go 9 [] (.go 11 [] (.rd 12 (.go 13 [] (.done))))))))))))))), (44, .rd 0 (.rd 1 (.rd 2 (.rd 3 (.rd 6 (.rd 7 (.go 4 [8] (.go 5 [8] (.rd 10 (.go 8 [] (.go 9 [] (.go 11 [] (.rd 12 (.go 13 [] (.done)))))))))))))))]),
  (12, [(51, .rd 0 (.rd 1 (.rd 2 (.rd 3 (.rd 4 (.rd 5 (.rd 6 (.rd 7 (.rd 8 (.rd 9 (.rd 10 (.rd 11 (.rd 12 (.rd 13 (.rd 14 (.rd 15 (.rd 16 (.rd 17 (.rd 18 (.rd 19 (.rd 20 (.rd 21 (.rd 22 (.rd 23 (.rd 24 (.rd 25 (.rd 26 (.rd 27 (.rd 28 (.rd 29 (.rd 30 (.rd 31 (.rd 32 (.rd 33 (.rd 34 (.rd 35 (.go 36 [] (.rd 37 (.rd 38 (.done))))))))))))))))))))))))))))))))))))))))]),
  (14, [(16, .rd 0 (.rd 1 (.rd 2 (.rd 3 (.rd 4 (.rd 5 (.rd 6 (.rd 7 (.go 8 [] (.rd 9 (.done)))))))))))]),
  (16, [(3, .go 0 [] (.rd 1 (.rd 2 (.rd 3 (.go 4 [] (.rd 5 (.rd 6 (.rd 7 (.go 8 [] (.rd 9 (.rd 10 (.rd 11 (.rd 12 (.rd 13 (.done)))))))))))))))]),
  (17, [(19, .rd 0 (.rd 1 (.rd 2 (.rd 3 (.rd 5 (.rd 6 (.rd 9 (.go 4 [] (.go 7 [] (.rd 8 (.rd 10 (.done)))))))))))), (20, .rd 0 (.rd 1 (.rd 4 (.rd 5 (.rd 6 (.go 2 [] (.go 3 [] (.go 7 [] (.rd 8 (.rd 9 (.rd 10 (.done))))))))))))]),
  (18, [(1, .rd 1 (.rd 2 (.rd 5 (.rd 6 (.rd 9 (.rd 10 (.go 0 [4, 8] (.go 3 [4, 8] (.go 4 [8] (.go 7 [8] (.go 8 [] (.go 11 [] (.rd 12 (.go 13 [] (.done)))))))))))))))]),
  (19, [(11, .rd 0 (.rd 1 (.rd 2 (.rd 3 (.rd 4 (.rd 5 (.rd 6 (.rd 7 (.rd 8 (.rd 9 (.rd 10 (.rd 11 (.rd 12 (.done))))))))))))))]),
  (20, [(3, .rd 0 (.rd 1 (.rd 2 (.rd 4 (.rd 5 (.go 3 [] (.rd 6 (.done)))))))), (8, .rd 0 (.rd 1 (.rd 2 (.rd 3 (.rd 4 (.rd 5 (.rd 6 (.rd 7 (.go 8 [] (.rd 9 (.rd 10 (.rd 11 (.rd 12 (.rd 13 (.rd 14 (.rd 15 (.rd 16 (.go 17 [] (.rd 18 (.rd 19 (.done))))))))))))))))))))), (11, .rd 0 (.rd 1 (.rd 2 (.rd 3 (.rd 4 (.rd 5 (.rd 6 (.rd 7 (.rd 8 (.rd 9 (.rd 10 (.rd 11 (.rd 12 (.rd 13 (.rd 14 (.rd 15 (.rd 16 (.done)))))))))))))))))), (13, .rd 0 (.rd 1 (.rd 2 (.rd 3 (.rd 4 (.rd 5 (.rd 6 (.rd 7 (.rd 8 (.rd 9 (.rd 10 (.rd 11 (.rd 12 (.rd 13 (.rd 14 (.done))))))))))))))))]),
  (21, [(6, .rd 0 (.rd 1 (.rd 2 (.rd 3 (.rd 4 (.rd 5 (.rd 6 (.rd 7 (.rd 8 (.done))))))))))]),
  (25, [(9, .rd 0 (.rd 1 (.rd 2 (.rd 3 (.rd 4 (.rd 5 (.rd 6 (.rd 7 (.rd 8 (.rd 9 (.rd 10 (.rd 11 (.go 12 [] (.go 13 [] (.rd 14 (.done))))))))))))))))]),
  (28, [(6, .rd 0 (.rd 1 (.rd 2 (.rd 3 (.rd 4 (.rd 5 (.rd 6 (.rd 7 (.rd 8 (.rd 9 (.rd 10 (.rd 11 (.rd 12 (.rd 13 (.rd 14 (.rd 15 (.rd 16 (.rd 17 (.rd 18 (.rd 19 (.rd 20 (.rd 21 (.rd 22 (.done))))))))))))))))))))))))]),
  (29, [(4, .rd 0 (.rd 1 (.rd 2 (.rd 3 (.rd 4 (.rd 5 (.rd 6 (.rd 7 (.rd 8 (.rd 9 (.rd 10 (.rd 11 (.rd 12 (.rd 13 (.rd 14 (.rd 15 (.rd 16 (.rd 17 (.rd 18 (.rd 19 (.rd 20 (.rd 21 (.rd 22 (.rd 23 (.done)))))))))))))))))))))))))]),
  (31, [(12, .rd 0 (.rd 1 (.rd 2 (.rd 3 (.rd 5 (.go 4 [] (.rd 6 (.go 7 [] (.go 8 [] (.rd 9 (.go 10 [] (.done))))))))))))]),
  (32, [(9, .rd 0 (.rd 1 (.rd 2 (.rd 3 (.rd 4 (.rd 5 (.rd 6 (.rd 7 (.rd 8 (.rd 9 (.rd 10 (.rd 11 (.rd 12 (.rd 13 (.rd 14 (.done)))))))))))))))), (19, .rd 0 (.rd 1 (.rd 2 (.go 3 [] (.rd 4 (.rd 5 (.rd 6 (.rd 7 (.rd 8 (.rd 9 (.rd 10 (.rd 11 (.rd 12 (.rd 13 (.rd 14 (.rd 15 (.rd 16 (.rd 17 (.rd 18 (.rd 19 (.rd 20 (.rd 21 (.rd 22 (.rd 23 (.rd 24 (.done))))))))))))))))))))))))))]),
  (36, [(3, .rd 0 (.rd 1 (.rd 2 (.rd 3 (.rd 4 (.rd 5 (.go 6 [] (.rd 7 (.rd 8 (.done)))))))))), (7, .rd 0 (.rd 1 (.rd 2 (.rd 3 (.rd 4 (.rd 5 (.go 6 [] (.rd 7 (.go 8 [] (.go 9 [] (.go 10 [] (.rd 11 (.rd 12 (.go 13 [] (.done)))))))))))))))]),
  (37, [(7, .rd 0 (.rd 1 (.rd 2 (.rd 3 (.rd 4 (.rd 5 (.go 6 [] (.go 7 [] (.rd 8 (.rd 9 (.go 10 [] (.done))))))))))))]),
  (39, [(8, .rd 0 (.rd 1 (.rd 2 (.rd 3 (.rd 4 (.rd 5 (.rd 6 (.rd 7 (.rd 8 (.rd 9 (.rd 10 (.rd 11 (.rd 12 (.rd 13 (.rd 14 (.rd 15 (.rd 16 (.rd 17 (.go 18 [] (.rd 19 (.rd 20 (.done))))))))))))))))))))))]),
  (43, [(26, .rd 0 (.rd 1 (.rd 2 (.rd 3 (.rd 4 (.rd 7 (.rd 8 (.rd 9 (.rd 10 (.rd 11 (.go 5 [12] (.go 6 [12] (.go 12 [] (.go 13 [] (.rd 14 (.rd 15 (.done)))))))))))))))))]),
  (46, [(5, .rd 0 (.rd 1 (.rd 2 (.rd 3 (.rd 4 (.rd 5 (.rd 6 (.rd 7 (.rd 8 (.rd 9 (.rd 10 (.rd 11 (.rd 12 (.rd 13 (.rd 14 (.go 15 [] (.rd 16 (.done))))))))))))))))))]),
  (47, [(3, .rd 0 (.rd 1 (.rd 2 (.rd 3 (.rd 4 (.rd 5 (.rd 6 (.rd 7 (.go 8 [] (.rd 9 (.rd 10 (.done))))))))))))]),
  (48, [(14, .rd 0 (.rd 1 (.rd 2 (.rd 3 (.rd 4 (.rd 7 (.rd 8 (.rd 9 (.rd 10 (.rd 11 (.rd 12 (.rd 13 (.rd 14 (.go 5 [15] (.go 6 [15] (.go 15 [] (.go 16 [] (.rd 17 (.rd 18 (.done))))))))))))))))))))]),
  (49, [(10, .rd 0 (.rd 1 (.rd 2 (.rd 3 (.rd 4 (.rd 5 (.rd 6 (.rd 7 (.rd 8 (.rd 9 (.rd 10 (.rd 11 (.go 12 [] (.rd 13 (.rd 14 (.rd 15 (.rd 16 (.rd 17 (.done))))))))))))))))))), (17, .rd 0 (.rd 1 (.rd 2 (.rd 3 (.rd 4 (.rd 5 (.rd 6 (.rd 7 (.rd 8 (.rd 9 (.rd 10 (.rd 11 (.rd 12 (.rd 13 (.rd 14 (.rd 15 (.rd 16 (.rd 17 (.rd 18 (.rd 19 (.rd 20 (.rd 21 (.rd 22 (.rd 23 (.rd 24 (.rd 25 (.rd 26 (.rd 27 (.rd 28 (.rd 29 (.rd 30 (.rd 31 (.rd 32 (.done))))))))))))))))))))))))))))))))))]),
  (50, [(2, .rd 6 (.rd 9 (.rd 12 (.rd 13 (.go 0 [14] (.rd 1 (.go 2 [14] (.rd 3 (.go 5 [4, 14] (.rd 7 (.go 8 [4, 14] (.rd 10 (.go 4 [11, 14] (.go 11 [14] (.go 14 [] (.rd 15 (.go 16 [] (.done))))))))))))))))))]),
  (51, [(9, .rd 0 (.rd 1 (.rd 2 (.rd 3 (.rd 4 (.rd 5 (.rd 6 (.rd 7 (.go 8 [] (.rd 9 (.go 10 [] (.go 11 [] (.rd 12 (.done))))))))))))))]),
  (53, [(1, .rd 0 (.rd 1 (.rd 2 (.rd 3 (.rd 4 (.rd 6 (.go 7 [5, 9] (.go 5 [9] (.rd 8 (.go 9 [] (.go 10 [] (.done))))))))))))]),
  (56, [(1, .rd 0 (.rd 1 (.rd 2 (.rd 3 (.rd 4 (.rd 5 (.rd 6 (.rd 7 (.rd 8 (.rd 9 (.rd 10 (.rd 11 (.rd 12 (.rd 13 (.rd 14 (.go 15 [] (.rd 16 (.rd 17 (.done)))))))))))))))))))]),
  (59, [(4, .rd 0 (.rd 1 (.rd 2 (.rd 3 (.rd 4 (.rd 5 (.rd 6 (.rd 7 (.rd 8 (.rd 9 (.rd 10 (.rd 11 (.rd 12 (.rd 13 (.rd 14 (.rd 15 (.rd 16 (.rd 17 (.done)))))))))))))))))))]),
  (60, [(4, .rd 0 (.rd 1 (.rd 2 (.rd 3 (.rd 4 (.rd 5 (.rd 6 (.rd 7 (.rd 8 (.rd 9 (.rd 10 (.rd 11 (.rd 12 (.rd 13 (.rd 14 (.rd 15 (.rd 16 (.rd 17 (.done)))))))))))))))))))]),
  (61, [(4, .rd 0 (.rd 1 (.rd 2 (.rd 3 (.rd 4 (.rd 5 (.rd 6 (.rd 7 (.rd 8 (.rd 9 (.rd 10 (.rd 11 (.rd 12 (.rd 13 (.rd 14 (.rd 15 (.rd 16 (.rd 17 (.rd 18 (.rd 19 (.rd 20 (.rd 21 (.rd 22 (.done))))))))))))))))))))))))]),
  (72, [(13, .rd 0 (.rd 1 (.rd 2 (.rd 3 (.rd 4 (.rd 5 (.rd 6 (.rd 7 (.rd 8 (.rd 9 (.done)))))))))))]),
  (76, [(3, .rd 0 (.rd 1 (.rd 2 (.rd 3 (.rd 4 (.rd 5 (.rd 6 (.rd 7 (.rd 8 (.rd 9 (.rd 10 (.rd 11 (.done)))))))))))))]),
  (80, [(6, .rd 0 (.rd 1 (.rd 2 (.rd 3 (.rd 4 (.rd 5 (.rd 6 (.rd 9 (.rd 10 (.go 7 [11] (.go 8 [11] (.rd 13 (.go 11 [] (.go 12 [] (.go 14 [] (.rd 15 (.done)))))))))))))))))]),
  (83, [(22, .rd 0 (.rd 1 (.rd 2 (.rd 3 (.rd 4 (.rd 5 (.rd 6 (.rd 7 (.rd 8 (.rd 9 (.rd 10 (.rd 11 (.rd 12 (.rd 13 (.rd 14 (.rd 15 (.go 16 [] (.go 17 [] (.go 18 [] (.rd 19 (.go 20 [] (.rd 21 (.done))))))))))))))))))))))), (31, .rd 0 (.rd 1 (.rd 2 (.rd 3 (.rd 4 (.rd 5 (.rd 6 (.rd 7 (.rd 8 (.rd 9 (.rd 10 (.rd 11 (.rd 12 (.rd 13 (.go 14 [] (.go 15 [] (.rd 16 (.go 17 [] (.done))))))))))))))))))), (33, .rd 0 (.rd 1 (.rd 2 (.rd 3 (.rd 4 (.rd 5 (.rd 6 (.rd 7 (.rd 8 (.rd 9 (.go 10 [] (.rd 11 (.done))))))))))))), (34, .rd 0 (.rd 1 (.rd 2 (.rd 3 (.rd 4 (.rd 5 (.rd 6 (.rd 7 (.rd 8 (.rd 9 (.rd 10 (.rd 11 (.rd 12 (.rd 13 (.rd 14 (.rd 15 (.rd 16 (.go 17 [] (.rd 18 (.go 19 [] (.done)))))))))))))))))))))]),
  (93, [(1, .rd 0 (.rd 1 (.rd 2 (.rd 3 (.rd 4 (.rd 5 (.rd 6 (.done))))))))]),
  (94, [(1, .rd 0 (.rd 1 (.rd 2 (.rd 3 (.rd 4 (.rd 5 (.rd 6 (.rd 7 (.rd 8 (.rd 9 (.rd 10 (.rd 11 (.done)))))))))))))]),
  (96, [(5, .rd 0 (.rd 1 (.rd 2 (.rd 3 (.rd 4 (.rd 5 (.go 6 [] (.rd 7 (.done)))))))))]),
  (100, [(4, .rd 0 (.rd 1 (.rd 2 (.rd 4 (.rd 5 (.go 3 [] (.go 6 [] (.rd 7 (.done)))))))))]),
  (114, [(6, .rd 0 (.rd 1 (.rd 2 (.rd 3 (.rd 4 (.rd 5 (.rd 6 (.done)))))))), (7, .rd 0 (.rd 1 (.rd 2 (.rd 3 (.rd 4 (.rd 5 (.rd 6 (.go 7 [] (.rd 8 (.done)))))))))), (14, .rd 0 (.rd 1 (.rd 2 (.rd 3 (.rd 4 (.rd 5 (.rd 6 (.rd 7 (.rd 8 (.rd 9 (.rd 10 (.done)))))))))))), (31, .rd 0 (.rd 1 (.rd 2 (.rd 3 (.rd 4 (.rd 5 (.rd 6 (.rd 7 (.rd 8 (.rd 9 (.rd 10 (.done))))))))))))])]
theorem progMixed : Tryd.prog.follows .mixedOrders = true := by kernel_rfl
theorem plansAll : plans.all (bodyOk Tryd.prog) = true := by kernel_rfl
theorem plansOk : PlansOk Tryd.prog plans := fun p hp => List.all_eq_true.1 plansAll p hp
def fb (β : Type) : CallF β := evCall Tryd.prog 70 plans noSums 50
theorem progFb : ∀ β, CallOk Tryd.prog (fb β) := fun _ => evCall_ok progMixed 70 plansOk noSums_ok 50
end
end Go.Proofs.YtbnapejkjaddoaaDoor
