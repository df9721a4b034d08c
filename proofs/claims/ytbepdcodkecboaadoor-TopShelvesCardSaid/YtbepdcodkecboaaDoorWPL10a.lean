/- By an AI agent. No person has read it. -/
import Derived.Test.YtbepdcodkecboaaDoorWY6
import Derived.Test.YtbepdcodkecboaaDoorProg
import Derived.KernelRfl
namespace Go.Proofs.YtbepdcodkecboaaDoor
open Go.RowKit
noncomputable section
set_option maxRecDepth 100000
def plans : Plans := [
  (3, [(11, .rd 0 (.rd 1 (.rd 2 (.rd 3 (.rd 4 (.rd 5 (.rd 6 (.rd 7 (.rd 8 (.rd 9 (.rd 10 (.rd 11 (.rd 12 (.rd 13 (.rd 14 (.rd 15 (.rd 16 (.rd 17 (.rd 18 (.rd 19 (.rd 20 (.rd 21 (.rd 22 (.done)))))))))))))))))))))))), (14, .rd 0 (.rd 1 (.rd 2 (.rd 3 (.rd 4 (.rd 5 (.rd 6 (.rd 7 (.rd 8 (.rd 9 (.rd 10 (.rd 11 (.rd 12 (.rd 13 (.rd 14 (.rd 15 (.rd 16 (.go 17 [] (.go 18 [] (.rd 19 (.go 20 [] (.done)))))))))))))))))))))), (42, .rd 0 (.rd 1 (.rd 2 (.rd 3 (.rd 4 (.rd 5 (.rd 6 (.rd 7 (.rd 8 (.rd 9 (.rd 10 (.rd 11 (.rd 12 (.rd 13 (.rd 14 (.rd 15 (.rd 16 (.rd 17 (.rd 18 (.rd 19 (.rd 20 (.rd 21 (.rd 22 (.rd 23 (.rd 24 (.rd 25 (.rd 26 (.rd 27 (.rd 28 (.rd 29 (.rd 30 (.rd 31 (.done))))))))))))))))))))))))))))))))), (44, .rd 0 (.rd 1 (.rd 2 (.rd 3 (.rd 4 (.rd 5 (.rd 6 (.rd 7 (.rd 8 (.rd 9 (.rd 10 (.rd 11 (.rd 12 (.rd 13 (.rd 14 (.rd 15 (.go 16 [] (.rd 17 (.rd 18 (.rd 19 (.rd 20 (.rd 21 (.rd 22 (.rd 23 (.done))))))))))))))))))))))))), (45, .rd 0 (.rd 1 (.rd 2 (.rd 3 (.rd 4 (.rd 5 (.rd 6 (.rd 7 (.rd 8 (.rd 9 (.rd 10 (.rd 11 (.rd 12 (.rd 13 (.rd 14 (.rd 15 (.rd 16 (.go 17 [] (.rd 18 (.rd 19 (.done))))))))))))))))))))), (47, .rd 0 (.rd 1 (.rd 2 (.rd 3 (.rd 4 (.rd 5 (.rd 6 (.rd 7 (.rd 8 (.rd 9 (.rd 10 (.rd 11 (.done)))))))))))))]),
  (5, [(7, .rd 0 (.rd 1 (.rd 3 (.rd 4 (.rd 7 (.rd 8 (.rd 9 (.rd 10 (.rd 11 (.rd 12 (.rd 13 (.rd 14 (.rd 15 (.rd 16 (.rd 17 (.rd 18 (.rd 19 (.rd 20 (.go 2 [22] (.go 5 [22] (.rd 6 (.rd 21 (.go 22 [] (.go 23 [] (.done))))))))))))))))))))))))), (11, .rd 0 (.rd 1 (.rd 2 (.rd 3 (.rd 4 (.rd 5 (.rd 6 (.rd 7 (.rd 8 (.rd 9 (.rd 10 (.rd 11 (.rd 12 (.go 13 [] (.go 14 [] (.rd 15 (.go 16 [] (.done))))))))))))))))))]),
  (8, [(3, .rd 0 (.rd 1 (.rd 2 (.rd 3 (.rd 4 (.rd 5 (.go 6 [] (.rd 7 (.rd 8 (.done)))))))))), (7, .rd 0 (.rd 1 (.rd 2 (.rd 3 (.rd 4 (.rd 5 (.go 6 [] (.rd 7 (.go 8 [] (.go 9 [] (.go 10 [] (.rd 11 (.rd 12 (.go 13 [] (.done)))))))))))))))]),
  (10, [(7, .rd 0 (.rd 1 (.rd 2 (.rd 3 (.rd 4 (.rd 5 (.go 6 [] (.go 7 [] (.rd 8 (.rd 9 (.go 10 [] (.done))))))))))))]),
  (11, [(26, .rd 0 (.rd 1 (.rd 2 (.rd 3 (.rd 4 (.rd 7 (.rd 8 (.rd 9 (.rd 10 (.rd 11 (.go 5 [12] (.go 6 [12] (.go 12 [] (.go 13 [] (.rd 14 (.rd 15 (.done)))))))))))))))))]),
  (12, [(19, .rd 0 (.rd 1 (.rd 2 (.rd 3 (.rd 5 (.rd 6 (.rd 9 (.go 4 [] (.go 7 [] (.rd 8 (.rd 10 (.done)))))))))))), (20, .rd 0 (.rd 1 (.rd 4 (.rd 5 (.rd 6 (.go 2 [] (.go 3 [] (.go 7 [] (.rd 8 (.rd 9 (.rd 10 (.done))))))))))))]),
  (13, [(12, .rd 0 (.rd 1 (.rd 2 (.rd 3 (.rd 5 (.go 4 [] (.rd 6 (.go 7 [] (.go 8 [] (.rd 9 (.go 10 [] (.done))))))))))))]),
  (15, [(9, .rd 0 (.rd 1 (.rd 2 (.rd 3 (.rd 4 (.rd 5 (.rd 6 (.rd 7 (.rd 8 (.rd 9 (.rd 10 (.rd 11 (.go 12 [] (.go 13 [] (.rd 14 (.done))))))))))))))))]),
  (16, [(8, .rd 0 (.rd 1 (.rd 2 (.rd 3 (.rd 4 (.rd 5 (.rd 6 (.rd 7 (.rd 8 (.rd 9 (.rd 10 (.rd 11 (.rd 12 (.rd 13 (.rd 14 (.rd 15 (.rd 16 (.rd 17 (.go 18 [] (.rd 19 (.rd 20 (.done))))))))))))))))))))))]),
  (19, [(1, .rd 0 (.rd 1 (.rd 2 (.rd 3 (.rd 4 (.rd 5 (.rd 6 (.rd 7 (.rd 8 (.rd 9 (.rd 10 (.rd 11 (.rd 12 (.rd 13 (.go 14 [] (.go 15 [] (.rd 16 (.rd 17 (.rd 18 (.go 19 [] (.rd 20 (.rd 21 (.done)))))))))))))))))))))))]),
  (20, [(1, .rd 0 (.rd 1 (.rd 2 (.rd 3 (.rd 4 (.rd 5 (.rd 6 (.rd 7 (.rd 8 (.rd 9 (.rd 10 (.rd 11 (.rd 12 (.rd 13 (.go 14 [] (.go 15 [] (.rd 16 (.rd 17 (.rd 18 (.go 19 [] (.rd 20 (.rd 21 (.done)))))))))))))))))))))))]),
  (22, [(3, .rd 0 (.rd 1 (.rd 2 (.rd 3 (.rd 4 (.rd 5 (.rd 6 (.rd 7 (.rd 8 (.rd 9 (.rd 10 (.rd 11 (.rd 12 (.rd 13 (.rd 14 (.rd 15 (.rd 16 (.done))))))))))))))))))]),
  (31, [(3, .rd 0 (.rd 1 (.rd 2 (.rd 3 (.rd 4 (.rd 5 (.rd 6 (.rd 7 (.rd 8 (.rd 9 (.rd 10 (.rd 11 (.done)))))))))))))]),
  (33, [(9, .rd 0 (.rd 1 (.rd 2 (.rd 3 (.rd 4 (.rd 5 (.rd 6 (.rd 7 (.go 8 [] (.rd 9 (.go 10 [] (.go 11 [] (.rd 12 (.done))))))))))))))]),
  (35, [(1, .rd 0 (.rd 1 (.rd 2 (.rd 3 (.rd 4 (.rd 6 (.go 7 [5, 9] (.go 5 [9] (.rd 8 (.go 9 [] (.go 10 [] (.done))))))))))))]),
  (39, [(4, .rd 0 (.rd 1 (.rd 2 (.rd 3 (.rd 4 (.rd 5 (.rd 6 (.rd 7 (.rd 8 (.rd 9 (.rd 10 (.rd 11 (.rd 12 (.rd 13 (.rd 14 (.rd 15 (.rd 16 (.rd 17 (.done)))))))))))))))))))]),
  (42, [(4, .rd 0 (.rd 1 (.rd 2 (.rd 3 (.rd 4 (.rd 5 (.rd 6 (.rd 7 (.rd 8 (.rd 9 (.rd 10 (.rd 11 (.rd 12 (.rd 13 (.rd 14 (.rd 15 (.rd 16 (.rd 17 (.done)))))))))))))))))))]),
  (46, [(17, .rd 0 (.rd 1 (.rd 2 (.go 3 [] (.go 4 [] (.go 5 [] (.done)))))))]),
  (54, [(1, .rd 0 (.rd 1 (.rd 2 (.rd 3 (.rd 4 (.rd 5 (.rd 6 (.done))))))))]),
  (61, [(22, .rd 0 (.rd 1 (.rd 2 (.rd 3 (.rd 4 (.rd 5 (.rd 6 (.rd 7 (.rd 8 (.rd 9 (.rd 10 (.rd 11 (.rd 12 (.rd 13 (.rd 14 (.rd 15 (.go 16 [] (.go 17 [] (.go 18 [] (.rd 19 (.go 20 [] (.rd 21 (.done))))))))))))))))))))))), (31, .rd 0 (.rd 1 (.rd 2 (.rd 3 (.rd 4 (.rd 5 (.rd 6 (.rd 7 (.rd 8 (.rd 9 (.rd 10 (.rd 11 (.rd 12 (.rd 13 (.go 14 [] (.go 15 [] (.rd 16 (.go 17 [] (.done))))))))))))))))))), (33, .rd 0 (.rd 1 (.rd 2 (.rd 3 (.rd 4 (.rd 5 (.rd 6 (.rd 7 (.rd 8 (.rd 9 (.go 10 [] (.rd 11 (.done))))))))))))), (34, .rd 0 (.rd 1 (.rd 2 (.rd 3 (.rd 4 (.rd 5 (.rd 6 (.rd 7 (.rd 8 (.rd 9 (.rd 10 (.rd 11 (.rd 12 (.rd 13 (.rd 14 (.rd 15 (.rd 16 (.go 17 [] (.rd 18 (.go 19 [] (.done)))))))))))))))))))))]),
  (69, [(4, .rd 0 (.rd 1 (.rd 2 (.rd 4 (.rd 5 (.go 3 [] (.go 6 [] (.rd 7 (.done)))))))))]),
  (72, [(1, .rd 0 (.rd 1 (.rd 2 (.rd 3 (.rd 4 (.rd 5 (.rd 6 (.rd 7 (.rd 8 (.rd 9 (.rd 10 (.rd 11 (.done)))))))))))))]),
  (74, [(5, .rd 0 (.rd 1 (.rd 2 (.rd 3 (.rd 4 (.rd 5 (.go 6 [] (.rd 7 (.done)))))))))]),
  (75, [(4, .rd 0 (.rd 1 (.rd 3 (.rd 4 (.rd 5 (.go 2 [6] (.go 6 [] (.go 7 [] (.rd 8 (.done))))))))))]),
  (89, [(6, .rd 0 (.rd 1 (.rd 2 (.rd 3 (.rd 4 (.rd 5 (.rd 6 (.done)))))))), (7, .rd 0 (.rd 1 (.rd 2 (.rd 3 (.rd 4 (.rd 5 (.rd 6 (.go 7 [] (.rd 8 (.done)))))))))), (14, .rd 0 (.rd 1 (.rd 2 (.rd 3 (.rd 4 (.rd 5 (.rd 6 (.rd 7 (.rd 8 (.rd 9 (.rd 10 (.done)))))))))))), (31, .rd 0 (.rd 1 (.rd 2 (.rd 3 (.rd 4 (.rd 5 (.rd 6 (.rd 7 (.rd 8 (.rd 9 (.rd 10 (.done))))))))))))])]
theorem progMixed : Tryd.prog.follows .mixedOrders = true := by kernel_rfl
theorem plansAll : plans.all (bodyOk Tryd.prog) = true := by kernel_rfl
theorem plansOk : PlansOk Tryd.prog plans := fun p hp => List.all_eq_true.1 plansAll p hp
def fb (β : Type) : CallF β := evCall Tryd.prog 70 plans noSums 50
theorem progFb : ∀ β, CallOk Tryd.prog (fb β) := fun _ => evCall_ok progMixed 70 plansOk noSums_ok 50
end
end Go.Proofs.YtbepdcodkecboaaDoor
