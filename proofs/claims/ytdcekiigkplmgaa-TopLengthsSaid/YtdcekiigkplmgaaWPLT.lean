/- By an AI agent. No person has read it. -/
import Derived.Test.YtdcekiigkplmgaaWY6
import Derived.Test.YtdcekiigkplmgaaProg
import Derived.KernelRfl
namespace Go.Proofs.Ytdcekiigkplmgaa
open Go.RowKit
noncomputable section
set_option maxRecDepth 100000
def plans : Plans := [
  (3, [(3, .rd 1 (.rd 3 (.rd 4 (.go 0 [10] (.go 2 [10] (.go 5 [10] (.rd 6 (.rd 7 (.rd 8 (.rd 9 (.go 10 [] (.go 11 [] (.rd 12 (.rd 13 (.done))))))))))))))), (15, .rd 1 (.rd 3 (.rd 4 (.rd 5 (.go 0 [11] (.go 2 [11] (.go 6 [11] (.rd 7 (.rd 8 (.rd 9 (.rd 10 (.go 11 [] (.go 12 [] (.rd 13 (.rd 14 (.done)))))))))))))))), (21, .rd 0 (.rd 1 (.rd 2 (.rd 3 (.rd 4 (.rd 5 (.rd 6 (.rd 7 (.rd 8 (.rd 9 (.done)))))))))))]),
  (4, [(12, .rd 1 (.rd 3 (.go 0 [] (.go 2 [] (.go 4 [] (.rd 5 (.rd 6 (.rd 7 (.rd 8 (.rd 9 (.rd 10 (.rd 11 (.done))))))))))))), (13, .rd 1 (.rd 3 (.rd 5 (.go 0 [4, 11] (.go 2 [4, 11] (.go 4 [11] (.go 6 [11] (.go 7 [11] (.rd 8 (.rd 9 (.rd 10 (.go 11 [] (.go 12 [] (.rd 13 (.done))))))))))))))), (22, .rd 0 (.rd 1 (.rd 2 (.rd 3 (.rd 4 (.rd 5 (.rd 6 (.rd 7 (.rd 8 (.rd 9 (.rd 10 (.rd 11 (.rd 12 (.go 13 [17] (.rd 14 (.rd 15 (.rd 16 (.go 17 [] (.go 18 [] (.rd 19 (.done))))))))))))))))))))), (24, .rd 0 (.rd 1 (.rd 2 (.rd 3 (.rd 4 (.rd 5 (.rd 6 (.rd 7 (.rd 8 (.rd 9 (.rd 10 (.rd 11 (.rd 12 (.rd 13 (.rd 14 (.rd 15 (.go 16 [] (.rd 17 (.rd 18 (.go 19 [] (.rd 20 (.rd 21 (.done))))))))))))))))))))))), (25, .rd 0 (.rd 1 (.rd 2 (.rd 3 (.rd 4 (.rd 5 (.rd 6 (.rd 7 (.rd 10 (.rd 11 (.go 8 [] (.rd 9 (.go 12 [] (.rd 13 (.rd 14 (.rd 15 (.done)))))))))))))))))]),
  (5, [(7, .rd 1 (.rd 3 (.rd 4 (.go 0 [10] (.go 2 [10] (.go 5 [10] (.rd 6 (.rd 7 (.rd 8 (.rd 9 (.go 10 [] (.go 11 [] (.rd 12 (.rd 13 (.done))))))))))))))), (8, .rd 1 (.rd 3 (.rd 4 (.go 0 [10] (.go 2 [10] (.go 5 [10] (.rd 6 (.rd 7 (.rd 8 (.rd 9 (.go 10 [] (.go 11 [] (.rd 12 (.rd 13 (.done)))))))))))))))]),
  (6, [(7, .rd 0 (.rd 1 (.rd 2 (.rd 3 (.rd 4 (.rd 5 (.rd 6 (.rd 7 (.rd 8 (.rd 9 (.rd 10 (.rd 11 (.rd 12 (.go 13 [] (.go 14 [] (.rd 15 (.rd 16 (.rd 17 (.rd 19 (.rd 20 (.go 18 [21] (.go 21 [] (.go 22 [] (.rd 23 (.rd 24 (.rd 25 (.rd 26 (.rd 27 (.rd 28 (.rd 29 (.rd 30 (.rd 31 (.rd 32 (.rd 33 (.rd 34 (.done))))))))))))))))))))))))))))))))))))]),
  (8, [(15, .rd 0 (.rd 1 (.rd 2 (.rd 3 (.rd 4 (.rd 5 (.go 6 [] (.rd 7 (.rd 8 (.rd 9 (.go 10 [] (.rd 11 (.done))))))))))))), (17, .rd 0 (.rd 1 (.rd 2 (.rd 3 (.rd 4 (.rd 5 (.go 6 [] (.go 7 [] (.rd 8 (.rd 9 (.rd 10 (.go 11 [] (.rd 12 (.done))))))))))))))]),
  (12, [(12, .rd 0 (.rd 1 (.rd 2 (.rd 3 (.rd 4 (.rd 5 (.rd 6 (.rd 7 (.done)))))))))]),
  (13, [(11, .rd 0 (.rd 1 (.rd 2 (.rd 3 (.rd 4 (.rd 5 (.rd 6 (.rd 7 (.rd 8 (.rd 9 (.rd 10 (.rd 11 (.rd 12 (.rd 13 (.rd 18 (.go 14 [] (.rd 15 (.go 16 [] (.rd 17 (.done))))))))))))))))))))]),
  (14, [(3, .rd 0 (.rd 1 (.rd 2 (.rd 3 (.rd 4 (.go 5 [8] (.go 6 [8] (.rd 7 (.go 8 [] (.go 9 [] (.done))))))))))), (7, .rd 0 (.rd 1 (.rd 2 (.rd 3 (.rd 4 (.rd 5 (.rd 6 (.rd 7 (.rd 8 (.rd 9 (.rd 14 (.rd 15 (.rd 16 (.rd 17 (.rd 18 (.rd 19 (.rd 20 (.rd 21 (.rd 22 (.rd 23 (.go 10 [] (.go 11 [] (.go 12 [] (.go 13 [] (.rd 28 (.go 24 [] (.go 25 [] (.go 26 [] (.go 27 [] (.go 29 [] (.rd 30 (.go 31 [] (.done)))))))))))))))))))))))))))))))))]),
  (17, [(4, .rd 0 (.rd 1 (.rd 2 (.rd 3 (.rd 4 (.rd 6 (.rd 7 (.rd 8 (.rd 9 (.rd 10 (.go 5 [17] (.go 11 [17] (.go 12 [17] (.go 13 [17] (.rd 14 (.rd 15 (.rd 16 (.go 17 [] (.go 18 [] (.rd 19 (.done)))))))))))))))))))))]),
  (21, [(5, .rd 0 (.rd 1 (.rd 2 (.rd 3 (.rd 4 (.rd 5 (.rd 6 (.rd 7 (.rd 8 (.rd 9 (.rd 10 (.rd 11 (.rd 12 (.rd 13 (.rd 14 (.rd 15 (.rd 16 (.rd 17 (.rd 18 (.rd 19 (.rd 20 (.go 21 [] (.rd 22 (.done)))))))))))))))))))))))), (15, .rd 0 (.rd 1 (.rd 2 (.rd 3 (.rd 4 (.rd 5 (.rd 6 (.go 7 [] (.rd 8 (.done))))))))))]),
  (23, [(1, .rd 0 (.rd 1 (.rd 2 (.rd 3 (.rd 4 (.rd 5 (.rd 6 (.rd 7 (.done)))))))))]),
  (25, [(8, .rd 0 (.rd 1 (.rd 2 (.rd 3 (.rd 4 (.rd 5 (.rd 6 (.rd 7 (.rd 8 (.rd 9 (.rd 10 (.rd 11 (.rd 12 (.rd 13 (.rd 14 (.rd 15 (.rd 16 (.rd 17 (.rd 18 (.go 19 [] (.rd 20 (.rd 21 (.rd 22 (.go 23 [] (.done)))))))))))))))))))))))))]),
  (26, [(3, .rd 0 (.rd 1 (.rd 2 (.rd 3 (.rd 4 (.rd 5 (.rd 6 (.rd 7 (.rd 8 (.rd 9 (.go 10 [] (.rd 11 (.rd 12 (.go 13 [] (.rd 14 (.done))))))))))))))))]),
  (29, [(4, .rd 0 (.rd 1 (.rd 2 (.rd 3 (.rd 4 (.rd 5 (.rd 6 (.rd 7 (.rd 8 (.rd 9 (.done)))))))))))]),
  (30, [(7, .rd 0 (.rd 1 (.rd 3 (.rd 4 (.rd 7 (.rd 8 (.rd 9 (.rd 10 (.rd 11 (.rd 12 (.rd 13 (.rd 14 (.rd 15 (.rd 16 (.rd 17 (.rd 18 (.rd 19 (.rd 20 (.go 2 [22] (.go 5 [22] (.rd 6 (.rd 21 (.go 22 [] (.go 23 [] (.done))))))))))))))))))))))))), (11, .rd 0 (.rd 1 (.rd 2 (.rd 3 (.rd 4 (.rd 5 (.rd 6 (.rd 7 (.rd 8 (.rd 9 (.rd 10 (.rd 11 (.rd 12 (.go 13 [] (.go 14 [] (.rd 15 (.go 16 [] (.done))))))))))))))))))]),
  (31, [(17, .rd 0 (.rd 1 (.go 2 [3] (.go 3 [] (.go 4 [] (.go 5 [] (.done))))))), (22, .rd 0 (.rd 1 (.rd 3 (.go 2 [] (.go 4 [] (.rd 5 (.rd 6 (.rd 7 (.rd 8 (.rd 9 (.rd 10 (.rd 11 (.done)))))))))))))]),
  (33, [(5, .rd 0 (.rd 1 (.rd 2 (.rd 3 (.rd 5 (.rd 6 (.go 4 [] (.go 7 [] (.go 8 [] (.rd 9 (.go 10 [] (.done))))))))))))]),
  (34, [(9, .rd 0 (.rd 1 (.rd 2 (.go 3 [6] (.rd 4 (.rd 5 (.go 6 [] (.go 7 [] (.done)))))))))]),
  (39, [(6, .rd 0 (.rd 1 (.rd 2 (.rd 3 (.go 4 [] (.rd 5 (.rd 6 (.rd 7 (.rd 8 (.rd 9 (.rd 10 (.go 11 [] (.rd 12 (.rd 13 (.rd 14 (.done)))))))))))))))), (8, .rd 0 (.rd 1 (.rd 2 (.rd 4 (.rd 5 (.go 3 [] (.go 6 [] (.rd 7 (.rd 8 (.rd 9 (.rd 10 (.rd 11 (.rd 12 (.go 13 [] (.go 14 [] (.rd 15 (.rd 16 (.rd 17 (.rd 18 (.rd 19 (.rd 20 (.rd 21 (.go 22 [] (.go 23 [] (.rd 24 (.rd 25 (.done)))))))))))))))))))))))))))]),
  (51, [(1, .rd 0 (.rd 1 (.rd 2 (.rd 3 (.rd 4 (.rd 5 (.rd 6 (.rd 7 (.rd 8 (.rd 9 (.rd 10 (.rd 11 (.rd 12 (.rd 13 (.rd 14 (.rd 15 (.rd 16 (.rd 17 (.rd 18 (.rd 19 (.rd 20 (.rd 21 (.rd 22 (.rd 23 (.rd 24 (.rd 25 (.rd 26 (.rd 27 (.rd 28 (.rd 29 (.rd 31 (.rd 32 (.go 30 [] (.go 33 [] (.rd 34 (.rd 35 (.rd 36 (.rd 38 (.rd 39 (.go 37 [40] (.go 40 [] (.go 41 [] (.rd 42 (.rd 43 (.done)))))))))))))))))))))))))))))))))))))))))))))]),
  (52, [(5, .rd 0 (.rd 1 (.rd 2 (.rd 3 (.rd 4 (.rd 5 (.rd 6 (.rd 7 (.rd 8 (.go 9 [] (.go 10 [] (.rd 11 (.done)))))))))))))]),
  (53, [(5, .rd 0 (.rd 1 (.rd 2 (.go 3 [] (.go 4 [] (.done)))))), (6, .rd 0 (.rd 1 (.rd 2 (.go 3 [] (.go 4 [] (.done))))))]),
  (54, [(3, .rd 0 (.rd 1 (.rd 2 (.rd 3 (.rd 4 (.rd 5 (.rd 6 (.rd 7 (.rd 8 (.go 9 [11] (.rd 10 (.go 11 [] (.go 12 [] (.done)))))))))))))), (8, .rd 0 (.rd 1 (.rd 2 (.rd 3 (.rd 6 (.rd 7 (.rd 8 (.rd 9 (.rd 10 (.rd 11 (.rd 12 (.rd 13 (.rd 14 (.go 4 [15] (.go 5 [15] (.rd 17 (.go 15 [] (.go 16 [] (.go 18 [] (.rd 19 (.go 20 [] (.done))))))))))))))))))))))]),
  (55, [(17, .rd 0 (.rd 1 (.rd 2 (.rd 3 (.rd 4 (.rd 5 (.rd 6 (.rd 7 (.rd 8 (.rd 9 (.rd 10 (.rd 11 (.rd 12 (.rd 13 (.rd 14 (.rd 15 (.rd 16 (.rd 17 (.rd 18 (.rd 19 (.go 20 [] (.done))))))))))))))))))))))]),
  (56, [(4, .rd 0 (.rd 1 (.rd 2 (.rd 3 (.rd 4 (.rd 5 (.rd 6 (.go 7 [] (.rd 8 (.done))))))))))]),
  (63, [(1, .rd 0 (.rd 1 (.rd 2 (.rd 3 (.rd 4 (.rd 5 (.rd 6 (.rd 7 (.rd 8 (.rd 9 (.rd 10 (.rd 11 (.rd 12 (.rd 13 (.go 14 [] (.go 15 [] (.rd 16 (.rd 17 (.rd 18 (.go 19 [] (.rd 20 (.rd 21 (.done)))))))))))))))))))))))]),
  (64, [(1, .rd 0 (.rd 1 (.rd 2 (.rd 3 (.rd 4 (.rd 5 (.rd 6 (.rd 7 (.rd 8 (.rd 9 (.rd 10 (.rd 11 (.rd 12 (.rd 13 (.go 14 [] (.go 15 [] (.rd 16 (.rd 17 (.rd 18 (.go 19 [] (.rd 20 (.rd 21 (.done)))))))))))))))))))))))]),
  (66, [(3, .rd 0 (.rd 1 (.rd 2 (.rd 3 (.rd 4 (.rd 5 (.rd 6 (.rd 7 (.rd 8 (.rd 9 (.rd 10 (.rd 11 (.rd 12 (.rd 13 (.rd 14 (.rd 15 (.rd 16 (.done))))))))))))))))))]),
  (74, [(9, .rd 0 (.rd 1 (.rd 2 (.rd 3 (.rd 4 (.rd 5 (.rd 6 (.go 7 [] (.rd 8 (.rd 9 (.done)))))))))))]),
  (76, [(1, .rd 0 (.rd 1 (.rd 2 (.rd 3 (.rd 5 (.rd 6 (.rd 7 (.rd 8 (.go 4 [] (.go 9 [] (.go 10 [] (.go 11 [] (.rd 12 (.done))))))))))))))]),
  (77, [(5, .rd 0 (.rd 1 (.rd 2 (.rd 3 (.rd 4 (.rd 5 (.rd 6 (.rd 7 (.rd 8 (.rd 9 (.rd 10 (.rd 11 (.rd 12 (.rd 13 (.rd 14 (.rd 15 (.rd 16 (.rd 17 (.rd 18 (.rd 19 (.rd 20 (.done))))))))))))))))))))))]),
  (80, [(17, .rd 0 (.rd 1 (.rd 2 (.go 3 [] (.go 4 [] (.go 5 [] (.done)))))))]),
  (81, [(1, .rd 0 (.rd 1 (.rd 2 (.rd 3 (.rd 4 (.rd 5 (.rd 6 (.rd 7 (.rd 8 (.rd 9 (.rd 10 (.go 11 [] (.done)))))))))))))]),
  (88, [(1, .rd 0 (.rd 1 (.rd 2 (.rd 3 (.rd 4 (.rd 5 (.rd 6 (.rd 7 (.rd 8 (.rd 9 (.rd 10 (.rd 11 (.rd 12 (.rd 13 (.rd 14 (.rd 15 (.rd 16 (.rd 17 (.rd 18 (.rd 19 (.rd 20 (.rd 21 (.rd 22 (.rd 23 (.rd 24 (.rd 25 (.done)))))))))))))))))))))))))))]),
  (92, [(6, .rd 0 (.rd 1 (.rd 2 (.rd 3 (.rd 4 (.rd 5 (.rd 6 (.rd 7 (.rd 8 (.rd 9 (.rd 10 (.rd 11 (.done)))))))))))))]),
  (96, [(6, .rd 0 (.rd 1 (.rd 2 (.rd 3 (.rd 4 (.rd 5 (.rd 6 (.rd 7 (.done)))))))))]),
  (107, [(12, .rd 0 (.rd 1 (.rd 2 (.rd 3 (.rd 4 (.rd 5 (.rd 6 (.rd 7 (.go 8 [9] (.go 9 [] (.go 10 [] (.go 11 [] (.done))))))))))))), (13, .rd 0 (.rd 1 (.rd 2 (.rd 3 (.rd 4 (.rd 5 (.rd 6 (.rd 7 (.rd 9 (.rd 10 (.rd 11 (.rd 14 (.rd 15 (.rd 16 (.rd 18 (.rd 19 (.rd 20 (.go 8 [25] (.go 12 [25] (.rd 13 (.go 17 [25] (.go 21 [25] (.rd 22 (.rd 23 (.rd 24 (.go 25 [] (.go 26 [] (.done))))))))))))))))))))))))))))]),
  (109, [(1, .rd 0 (.rd 1 (.go 2 [3] (.go 3 [] (.go 4 [] (.go 5 [] (.done)))))))]),
  (110, [(1, .rd 0 (.rd 1 (.rd 2 (.rd 3 (.rd 4 (.rd 5 (.rd 6 (.rd 7 (.rd 8 (.rd 9 (.rd 10 (.rd 11 (.done)))))))))))))]),
  (116, [(4, .rd 0 (.rd 1 (.rd 3 (.rd 4 (.rd 5 (.go 2 [6] (.go 6 [] (.go 7 [] (.rd 8 (.done))))))))))]),
  (118, [(1, .rd 0 (.rd 1 (.rd 2 (.rd 3 (.rd 5 (.rd 6 (.rd 7 (.rd 8 (.go 4 [] (.go 9 [] (.go 10 [] (.rd 11 (.done)))))))))))))]),
  (122, [(1, .rd 0 (.rd 1 (.rd 2 (.rd 3 (.rd 4 (.rd 5 (.rd 6 (.rd 7 (.rd 8 (.rd 9 (.rd 10 (.rd 11 (.done))))))))))))), (3, .rd 0 (.rd 1 (.rd 2 (.rd 3 (.rd 4 (.rd 5 (.rd 6 (.rd 7 (.done))))))))), (4, .rd 0 (.rd 1 (.rd 2 (.rd 3 (.rd 4 (.rd 5 (.go 6 [] (.done))))))))])]
theorem progMixed : Try.prog.follows .mixedOrders = true := by kernel_rfl
theorem plansAll : plans.all (bodyOk Try.prog) = true := by kernel_rfl
theorem plansOk : PlansOk Try.prog plans := fun p hp => List.all_eq_true.1 plansAll p hp
def fb (β : Type) : CallF β := evCall Try.prog 70 plans noSums 50
theorem progFb : ∀ β, CallOk Try.prog (fb β) := fun _ => evCall_ok progMixed 70 plansOk noSums_ok 50
def tab0 (_ : Nat) : List Ent := []
theorem tab0_ok (F : Nat) : EntsOk Try.prog (tab0 F) := trivial
end
end Go.Proofs.Ytdcekiigkplmgaa
