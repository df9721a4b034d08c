/- A part of the proof of the theorem of the last file. No condition. By an AI agent. -/
import Derived.Test.YtnomnijhlbalaaaGreatDoorWY6
import Derived.Test.YtnomnijhlbalaaaGreatDoorProg
import Derived.KernelRfl
set_option maxRecDepth 100000
namespace Go.Proofs.YtnomnijhlbalaaaGreatDoor
open Go.RowKit
noncomputable section
def rn : Nat -> Nat -> PT -> PT
 | _, 0, t => t
 | a, n + 1, t => .rd a (rn (a + 1) n t)
abbrev f7 (x : Int × ((Int × Int) × ((Int × Int) × (Int × Int)))) : Int × (Int × (Int × (Int × (Int × (Int × Int))))) := (x.1, (x.2.1.1, (x.2.1.2, (x.2.2.1.1, (x.2.2.1.2, x.2.2.2)))))
abbrev u7 (x : Int × (Int × (Int × (Int × (Int × (Int × Int)))))) : Int × ((Int × Int) × ((Int × Int) × (Int × Int))) := (x.1, ((x.2.1, x.2.2.1), ((x.2.2.2.1, x.2.2.2.2.1), x.2.2.2.2.2)))
abbrev pw4 : Nat × List (Nat × PT) := (4, [(6, rn 0 10 (.done)), (12, rn 0 19 (.go 19 [] (.done))), (13, rn 0 16 (.go 16 [] (.done))), (14, .rd 0 (.rd 1 (.rd 5 (.rd 9 (.go 2 [] (.rd 3 (.rd 4 (.go 6 [] (.rd 7 (.rd 8 (.go 10 [] (.rd 11 (.rd 12 (.go 13 [] (rn 14 5 (.done)))))))))))))))), (30, .rd 0 (.rd 1 (.rd 5 (.rd 6 (.go 2 [] (.rd 3 (.rd 4 (.go 7 [] (.rd 8 (.rd 9 (.done))))))))))), (38, .rd 0 (.rd 1 (.rd 3 (.go 2 [4] (.go 4 [] (.go 5 [] (.go 6 [] (.rd 7 (.done))))))))), (43, .rd 0 (.rd 1 (.go 2 [7] (.go 3 [7] (rn 4 3 (.go 7 [] (.go 8 [] (.rd 9 (.done))))))))), (51, rn 0 10 (.rd 12 (.rd 13 (.rd 17 (.rd 18 (.rd 22 (.rd 23 (.go 10 [] (.rd 11 (.go 14 [] (.rd 15 (.rd 16 (.go 19 [] (.rd 20 (.rd 21 (.go 24 [] (rn 25 4 (.done)))))))))))))))))), (54, .rd 0 (.rd 1 (.rd 3 (.rd 4 (.go 2 [] (.go 5 [] (rn 6 5 (.done))))))))])
abbrev pw10 : Nat × List (Nat × PT) := (10, [(5, .both 8 2 (.rd 0 (.rd 1 (rn 3 4 (.go 7 [] (.rd 8 (.go 2 [] (.rd 9 (.rd 10 (.done))))))))) (.rd 0 (.rd 1 (rn 3 4 (.go 2 [7] (.go 7 [] (rn 8 3 (.done))))))))])
abbrev pw11 : Nat × List (Nat × PT) := (11, [(1, .rd 0 (.rd 1 (.rd 4 (.rd 5 (.rd 9 (.rd 10 (.go 2 [] (.rd 3 (.go 6 [] (.rd 7 (.rd 8 (.go 11 [] (.rd 12 (.rd 13 (.done)))))))))))))))])
abbrev pw13 : Nat × List (Nat × PT) := (13, [(6, rn 1 3 (.go 0 [8] (rn 4 4 (.go 8 [] (.go 9 [] (.rd 10 (.done))))))), (14, rn 0 8 (.go 8 [] (.rd 9 (.done))))])
abbrev pw19 : Nat × List (Nat × PT) := (19, [(1, .rd 0 (.rd 1 (.rd 4 (.rd 5 (.go 2 [] (.rd 3 (.go 6 [] (.rd 7 (.rd 8 (.done))))))))))])
abbrev pw21 : Nat × List (Nat × PT) := (21, [(7, rn 0 8 (.done)), (14, rn 0 9 (.done)), (21, rn 0 8 (.done)), (22, rn 0 11 (.go 11 [] (.done))), (23, rn 0 9 (.go 9 [] (.done)))])
abbrev pw22 : Nat × List (Nat × PT) := (22, [(2, .rd 0 (.rd 1 (.go 2 [] (.go 3 [] (.done))))), (6, rn 0 9 (.go 9 [] (.done))), (7, rn 0 5 (.go 5 [] (.go 6 [] (.done))))])
abbrev pw28 : Nat × List (Nat × PT) := (28, [(4, rn 0 5 (rn 8 3 (.rd 13 (.go 5 [] (.rd 6 (.rd 7 (.go 11 [] (.rd 12 (rn 14 3 (.done))))))))))])
abbrev pw33 : Nat × List (Nat × PT) := (33, [(4, rn 0 8 (.go 8 [] (.go 9 [] (.done))))])
abbrev pw50 : Nat × List (Nat × PT) := (50, [(1, rn 0 11 (.go 11 [] (.done))), (5, rn 0 19 (.go 19 [] (.done))), (6, rn 0 19 (.go 19 [] (.done)))])
abbrev pw54 : Nat × List (Nat × PT) := (54, [(1, .rd 0 (.rd 1 (.go 2 [3] (.go 3 [] (.go 4 [] (.go 5 [] (.done))))))), (2, rn 0 11 (.go 11 [] (.done))), (4, rn 0 7 (rn 8 3 (.go 7 [] (.go 11 [] (.go 12 [] (.done)))))), (8, rn 0 7 (rn 8 3 (.go 7 [] (.go 11 [] (.go 12 [] (.done)))))), (14, rn 0 16 (.go 16 [] (.done))), (18, rn 0 17 (.go 17 [] (.done))), (19, rn 0 17 (.go 17 [] (.done))), (20, rn 0 13 (.go 13 [] (.done))), (21, rn 0 4 (.rd 8 (.rd 9 (.go 4 [] (rn 5 3 (.rd 10 (.rd 11 (.go 12 [] (.done))))))))), (22, rn 0 4 (.rd 8 (.rd 9 (.go 4 [] (rn 5 3 (.rd 10 (.rd 11 (.go 12 [] (.done))))))))), (23, rn 0 4 (.rd 8 (.rd 9 (.go 4 [] (rn 5 3 (.rd 10 (.rd 11 (.go 12 [] (.done))))))))), (24, rn 0 4 (.rd 8 (.rd 9 (.go 4 [] (rn 5 3 (.rd 10 (.rd 11 (.go 12 [] (.done)))))))))])
abbrev pw67 : Nat × List (Nat × PT) := (67, [(1, rn 0 25 (.go 25 [] (.go 26 [] (.done)))), (3, rn 0 5 (.go 5 [] (.rd 6 (.rd 7 (.go 8 [] (rn 9 4 (.done))))))), (4, rn 0 6 (.go 6 [] (.go 7 [] (.rd 8 (.rd 9 (.go 10 [] (rn 11 4 (.done))))))))])
abbrev pw71 : Nat × List (Nat × PT) := (71, [(11, rn 0 10 (.go 10 [] (.rd 11 (.go 12 [] (.go 13 [] (.done))))))])
abbrev pw75 : Nat × List (Nat × PT) := (75, [(1, rn 0 12 (.done))])
abbrev pw76 : Nat × List (Nat × PT) := (76, [(4, .rd 0 (rn 3 6 (.go 1 [11] (.rd 2 (.rd 9 (.rd 10 (.go 11 [] (.go 12 [] (.done)))))))))])
abbrev pw77 : Nat × List (Nat × PT) := (77, [(1, rn 0 12 (.done)), (4, rn 0 20 (.go 20 [] (rn 21 5 (.done))))])
abbrev pw94 : Nat × List (Nat × PT) := (94, [(13, .rd 0 (.rd 1 (.rd 3 (.rd 4 (.rd 6 (.rd 8 (.go 2 [] (.go 5 [] (.go 7 [] (.go 9 [] (.go 10 [] (.go 11 [] (.rd 12 (.rd 13 (.done)))))))))))))))])
abbrev pw96 : Nat × List (Nat × PT) := (96, [(2, rn 0 6 (.go 6 [] (.go 7 [] (.rd 8 (.rd 9 (.go 10 [] (.done)))))))])
abbrev pw97 : Nat × List (Nat × PT) := (97, [(3, rn 0 6 (.go 6 [] (.go 7 [] (.rd 8 (.rd 9 (.go 10 [] (.done)))))))])
abbrev pw123 : Nat × List (Nat × PT) := (123, [(1, rn 0 7 (.go 7 [8] (.go 8 [] (.go 9 [] (.done))))), (2, rn 0 5 (.go 5 [] (.go 6 [] (.done)))), (11, .rd 0 (.rd 1 (.go 2 [] (.go 3 [] (.done)))))])
abbrev pw144 : Nat × List (Nat × PT) := (144, [(4, rn 0 6 (.go 6 [10] (rn 7 3 (.go 10 [] (.go 11 [] (.rd 12 (.done))))))), (6, rn 0 3 (.go 3 [] (.rd 4 (.done)))), (7, .rd 0 (.rd 2 (.rd 4 (.rd 5 (.go 1 [] (.rd 3 (.go 6 [] (.rd 7 (.done))))))))), (8, .rd 0 (.rd 1 (.go 2 [] (.rd 3 (.done))))), (10, .rd 0 (.rd 1 (.go 2 [] (.rd 3 (.done))))), (12, .rd 0 (.rd 1 (.go 2 [] (.rd 3 (.done))))), (18, rn 0 14 (.go 14 [] (.done))), (19, rn 0 14 (.go 14 [] (.done))), (22, rn 0 3 (.go 3 [] (.rd 4 (.done))))])
abbrev pw146 : Nat × List (Nat × PT) := (146, [(4, rn 0 6 (.go 6 [] (.done)))])
abbrev pw147 : Nat × List (Nat × PT) := (147, [(1, rn 0 12 (.done))])
abbrev pw148 : Nat × List (Nat × PT) := (148, [(1, rn 0 4 (.rd 5 (.go 4 [6] (.go 6 [] (.go 7 [] (.rd 8 (.done)))))))])
abbrev pw149 : Nat × List (Nat × PT) := (149, [(4, rn 0 8 (.go 8 [] (.go 9 [] (.done)))), (8, .both 3 7 (rn 0 7 (.go 7 [] (.go 8 [] (rn 9 4 (.done))))) (rn 0 3 (.rd 5 (.rd 6 (.go 7 [] (.rd 3 (.rd 4 (.go 8 [] (rn 9 4 (.done))))))))))])
abbrev pw151 : Nat × List (Nat × PT) := (151, [(1, rn 0 8 (.go 8 [12] (rn 9 3 (.go 12 [] (.go 13 [] (.rd 14 (.done)))))))])
abbrev pw152 : Nat × List (Nat × PT) := (152, [(1, rn 0 12 (.done)), (7, rn 0 15 (.done))])
abbrev pw153 : Nat × List (Nat × PT) := (153, [(1, .rd 0 (.rd 1 (.rd 4 (.rd 5 (.go 2 [] (.rd 3 (.go 6 [] (.rd 7 (.rd 8 (.done))))))))))])
abbrev pw183 : Nat × List (Nat × PT) := (183, [(0, rn 0 6 (.done))])
abbrev pw184 : Nat × List (Nat × PT) := (184, [(5, rn 0 6 (rn 7 6 (.go 6 [] (.go 13 [] (.rd 14 (.rd 15 (.done))))))), (7, rn 0 3 (rn 4 3 (.go 3 [] (.go 7 [] (.rd 8 (.rd 9 (.done))))))), (8, rn 0 6 (.done))])
abbrev pw243 : Nat × List (Nat × PT) := (243, [(6, rn 0 8 (.done))])
def plans : xFm := [pw4, pw10, pw11, pw13, pw19, pw21, pw22, pw28, pw33, pw50, pw54, pw67, pw71, pw75, pw76, pw77, pw94, pw96, pw97, pw123, pw144, pw146, pw147, pw148, pw149, pw151, pw152, pw153, pw183, pw184, pw243]
theorem xAg : Tryz.prog.follows .mixedOrders = true := by kernel_rfl
theorem plan_4 : xAV Tryz.prog pw4 = true := by kernel_rfl
theorem plan_10 : xAV Tryz.prog pw10 = true := by kernel_rfl
theorem plan_11 : xAV Tryz.prog pw11 = true := by kernel_rfl
theorem plan_13 : xAV Tryz.prog pw13 = true := by kernel_rfl
theorem plan_19 : xAV Tryz.prog pw19 = true := by kernel_rfl
theorem plan_21 : xAV Tryz.prog pw21 = true := by kernel_rfl
theorem plan_22 : xAV Tryz.prog pw22 = true := by kernel_rfl
theorem plan_28 : xAV Tryz.prog pw28 = true := by kernel_rfl
theorem plan_33 : xAV Tryz.prog pw33 = true := by kernel_rfl
theorem plan_50 : xAV Tryz.prog pw50 = true := by kernel_rfl
theorem plan_54 : xAV Tryz.prog pw54 = true := by kernel_rfl
theorem plan_67 : xAV Tryz.prog pw67 = true := by kernel_rfl
theorem plan_71 : xAV Tryz.prog pw71 = true := by kernel_rfl
theorem plan_75 : xAV Tryz.prog pw75 = true := by kernel_rfl
theorem plan_76 : xAV Tryz.prog pw76 = true := by kernel_rfl
theorem plan_77 : xAV Tryz.prog pw77 = true := by kernel_rfl
theorem plan_94 : xAV Tryz.prog pw94 = true := by kernel_rfl
theorem plan_96 : xAV Tryz.prog pw96 = true := by kernel_rfl
theorem plan_97 : xAV Tryz.prog pw97 = true := by kernel_rfl
theorem xY6 : xAV Tryz.prog pw123 = true := by kernel_rfl
theorem xY5 : xAV Tryz.prog pw144 = true := by kernel_rfl
theorem xY4 : xAV Tryz.prog pw146 = true := by kernel_rfl
theorem xY3 : xAV Tryz.prog pw147 = true := by kernel_rfl
theorem xY2 : xAV Tryz.prog pw148 = true := by kernel_rfl
theorem xY1 : xAV Tryz.prog pw149 = true := by kernel_rfl
theorem xY0 : xAV Tryz.prog pw151 = true := by kernel_rfl
theorem xYZ : xAV Tryz.prog pw152 = true := by kernel_rfl
theorem xYY : xAV Tryz.prog pw153 = true := by kernel_rfl
theorem xYX : xAV Tryz.prog pw183 = true := by kernel_rfl
theorem xYW : xAV Tryz.prog pw184 = true := by kernel_rfl
theorem xYV : xAV Tryz.prog pw243 = true := by kernel_rfl
theorem xFl {a b : Bool} (h : a = true) (k : b = true) : (a && b) = true := by rw [h, k]; rfl
theorem xYU : plans.all (xAV Tryz.prog) = true := xFl plan_4 (xFl plan_10 (xFl plan_11 (xFl plan_13 (xFl plan_19 (xFl plan_21 (xFl plan_22 (xFl plan_28 (xFl plan_33 (xFl plan_50 (xFl plan_54 (xFl plan_67 (xFl plan_71 (xFl plan_75 (xFl plan_76 (xFl plan_77 (xFl plan_94 (xFl plan_96 (xFl plan_97 (xFl xY6 (xFl xY5 (xFl xY4 (xFl xY3 (xFl xY2 (xFl xY1 (xFl xY0 (xFl xYZ (xFl xYY (xFl xYX (xFl xYW (xFl xYV (rfl)))))))))))))))))))))))))))))))
theorem xAG : xEl Tryz.prog plans := fun p hp => List.all_eq_true.1 xYU p hp
def fb (β : Type) : xAT β := xRR Tryz.prog 70 plans noSums 50
theorem progFb : ∀ β, xAS Tryz.prog (fb β) := fun _ => xOx xAg 70 xAG xUZ 50
def tab0 (_ : Nat) : List Ent := []
theorem tab0_ok (F : Nat) : xAf Tryz.prog (tab0 F) := trivial
end
abbrev TC.i : TC := .int .i64
abbrev Sg.i : Sg := .t .i
abbrev Sg.z : Sg := .k (.lit (.int .i64 (0)))
abbrev C_0 : TC := .pair (.pair .i .i) (.pair (.pair .i .i) (.pair .i .i))
abbrev C_1 : TC := .pair (.pair .i C_0) (.pair (.rf 1 3) (.pair (.rf 2 1) (.pair (.int .u8) (.pair (.rf 1 4) .bool))))
abbrev C_2 : TC := .pair (.int .u8) (.pair .i C_0)
abbrev C_3 : TC := .pair (.pair .i (.pair .i (.pair C_0 .i))) (.rf 2 1)
abbrev C_4 : TC := .pair .bool (.pair .bool (.int .u8))
abbrev C_5 : TC := .pair (.int .u8) (.pair (.int .u16) (.pair (.pair (.int .u8) (.pair (.int .u8) (.int .u8))) (.pair (.pair (.int .u8) (.pair (.int .u8) (.int .u8))) (.pair .i .i))))
abbrev C_6 : TC := .pair .bool (.pair .bool .bool)
abbrev D_0 := TC.dflt (.pair .i .i)
abbrev D_1 := TC.dflt C_1
abbrev D_2 := TC.dflt C_2
abbrev D_3 := TC.dflt (.pair .i C_0)
abbrev T_0 : Type := (Int × Int) × ((Int × Int) × (Int × Int))
abbrev T_1 : Type := Int × (Int × (Int × (Int × (Int × (Int × Int)))))
abbrev T_2 : Type := Int × (Int × (Int × (Int × (Int × (Int × (Int × (Int × (Int × (Int × (Int × (Int × (Int × (Int × (Int × (Int × (Int × T_1))))))))))))))))
abbrev T_3 : Type := List ((Int × (Int × (T_0 × Int))) × Nat)
abbrev T_4 : Type := List ((Int × T_0) × (Nat × (Nat × (Int × (Nat × Bool)))))
abbrev T_5 : Type := List (Option (List (Int × Bool)))
abbrev T_6 : Type := Int × (Int × (Int × (Int × (Int × (Int × (Int × (Int × (Int × (Int × (Int × (Int × ByteArray)))))))))))
abbrev T_7 : Type := List (Option (List (Bool × (Bool × Int))))
abbrev T_8 : Type := List (Option (List (Int × (Int × T_0))))
abbrev T_9 : Type := Int × (T_1 × (Bool × (Bool × Bool)))
abbrev B_0 : ByteArray := ByteArray.mk (Array.mk (75 :: (49 :: [])))
abbrev B_1 : ByteArray := ByteArray.mk (Array.mk [])
abbrev B_2 : ByteArray := ByteArray.mk (Array.mk (32 :: []))
abbrev B_3 : ByteArray := ByteArray.mk (Array.mk (46 :: (46 :: [])))
abbrev B_4 : ByteArray := ByteArray.mk (Array.mk (102 :: (114 :: (101 :: (101 :: (122 :: (101 :: (32 :: (75 :: (49 :: (32 :: [])))))))))))
abbrev K_0 : RK := .blk 114 [.k (.pt 1 0 0 0), .k (.hv 3), .k (.hv 4), .k (.lit (.slice none 0 0)), .k (.lit (.slice none 0 0)), .k (.lit (.slice none 0 0)), .k (.lit (.pointer none))]
abbrev K_1 : RK := .blk 82 [.k (.sl 2 7), .i, .i, .i, .i, .i, .i, .i, .i, .i, .i, .i, .i, .i, .i, .i, .i, .i, .i, .i, .i, .i, .i, .i, .i, .i]
abbrev K_2 : RK := .arm 1 (.i .i64) false .bool
abbrev K_3 : RK := .mp .s false (.rf 0 2)
abbrev K_4 : RK := .mp (.i .i64) false (.rf 0 0)
abbrev K_5 : RK := .blk 175 [.i, .i, .i, .i, .i, .i, .i, .k (.sl 0 8), .k (.lit (.int .i64 (2)))]
abbrev K_6 : RK := .blk 175 [.i, .i, .i, .i, .i, .i, .i, .k (.sl 0 8), .k (.lit (.int .i64 (1)))]
abbrev K_7 : RK := .blk 117 [.k (.hv 2), .i, .i, .i, .i, .i, .i, .i]
abbrev K_8 : RK := .blk 175 [.i, .i, .i, .i, .i, .i, .i, .k (.sl 0 8), .z]
abbrev K_9 : RK := .aro 0 123 C_3
abbrev K_10 : RK := .blk 114 [.k (.pt 15 0 0 0), .k (.hv 16), .k (.hv 17), .k (.lit (.slice none 0 0)), .k (.lit (.slice none 0 0)), .k (.lit (.slice none 0 0)), .k (.lit (.pointer none))]
abbrev xDa : RK := .ars 4 244 C_4
abbrev xC9 : RK := .aro 2 236 C_1
abbrev xC8 : RK := .ars 3 77 C_2
abbrev xTh : RK := .blk 117 [.k (.hv 1), .i, .i, .i, .i, .i, .i, .i]
abbrev xGR : RK := .blk 69 [.k (.sl 0 8)]
abbrev xBI : RK := .blk 3 [.i]
abbrev xEO : RK := .blk 207 [.t C_6]
abbrev xMF : RK := .blk 177 [.k (.pt 1 0 0 0)]
abbrev K_19 : RK := .blk 117 [.k (.hv 2), .t (.pair .i C_0)]
abbrev K_20 : RK := .blk 114 [.k (.pt 16 0 0 0), .k (.hv 17), .k (.hv 18), .k (.lit (.slice none 0 0)), .k (.lit (.slice none 0 0)), .k (.lit (.slice none 0 0)), .k (.lit (.pointer none))]
abbrev xME : RK := .blk 210 [.k (.hv 13)]
abbrev xMD : RK := .blk 203 [.k (.hv 9)]
abbrev K_23 : RK := .blk 137 [.k (.sl 6 1), .k (.sl 7 2), .k (.sl 8 6), .i, .i, .i, .i, .i, .i, .i, .i, .i, .i, .i, .i, .k (.sl 9 2), .k (.sl 10 1), .t .str]
abbrev xTg : RK := .blk 65 [.t (.pair .i C_0)]
abbrev K_25 : RK := .blk 137 [.k (.lit (.slice none 0 0)), .k (.lit (.slice none 0 0)), .k (.lit (.slice none 0 0)), .i, .i, .i, .i, .i, .i, .i, .i, .i, .i, .i, .i, .k (.lit (.slice none 0 0)), .k (.lit (.slice none 0 0)), .t .str]
abbrev K_26 : RK := .blk 74 [.t (.pair .i C_0)]
abbrev K_27 : RK := .blk 137 [.k (.sl 6 1), .k (.sl 7 2), .k (.lit (.slice none 0 0)), .i, .i, .i, .i, .i, .i, .i, .i, .i, .i, .i, .i, .k (.lit (.slice none 0 0)), .k (.sl 8 1), .t .str]
abbrev xH7 : RK := .blk 3 [.z]
abbrev K_29 : RK := .blk 117 [.k (.hv 1), .t (.pair .i C_0)]
abbrev K_30 : RK := .blk 117 [.k (.hv 18), .i, .i, .i, .i, .i, .i, .i]
abbrev K_31 : RK := .blk 28 [.t (.pair .i .i)]
abbrev K_32 : RK := .blk 137 [.k (.sl 1 1), .k (.sl 2 2), .k (.sl 3 6), .i, .i, .i, .i, .i, .i, .i, .i, .i, .i, .i, .i, .k (.sl 6 2), .k (.sl 5 1), .t .str]
abbrev K_33 : RK := .blk 137 [.k (.sl 1 1), .k (.sl 2 2), .k (.sl 3 6), .i, .i, .i, .i, .i, .i, .i, .i, .i, .i, .i, .i, .k (.sl 4 2), .k (.sl 5 1), .t .str]
abbrev K_34 : RK := .blk 89 [.k (.lit (.int .i64 (2)))]
abbrev K_35 : RK := .blk 89 [.k (.lit (.int .i64 (1)))]
abbrev yAo : RK := .blk 210 [.k (.hv 9)]
abbrev K_37 : RK := .blk 117 [.k (.hv 19), .i, .i, .i, .i, .i, .i, .i]
abbrev H_0 : Sch := ⟨[(0, .c (.k (.pt 0 0 0 0))), (1, .c (.t .str))], [K_0, K_19, K_4, K_3, K_3, K_9, K_2, xC9, xC8, xDa]⟩
abbrev H_1 : Sch := ⟨[(13, .c (.t .str)), (14, .c .i)], [K_0, K_7, K_4, K_3, K_3, .dead, .dead, .dead, .dead, .dead, K_9, K_2, xC9, xC8, xDa]⟩
abbrev H_2 : Sch := ⟨[(0, .c (.k (.sl 0 8))), (3, .c (.k (.pt 11 0 0 0))), (5, .c (.k (.pt 12 0 0 0))), (8, .c (.k (.pt 13 0 0 0))), (15, .c (.k (.sl 14 8))), (16, .c .i)], [.ro C_2, .dead, .dead, .dead, .dead, .dead, K_9, K_2, xC9, xC8, xDa, .blk 73 [.t C_5], K_10, K_26, .rows 77 C_2, K_30, K_3, K_3, K_4]⟩
abbrev H_3 : Sch := ⟨[(2, .c .i), (3, .c .i), (4, .c (.k (.pt 0 0 0 0))), (10, .c (.k (.pt 1 0 0 0))), (15, .c (.t .bool))], [.blk 77 [.t C_2], K_31]⟩
abbrev H_4 : Sch := ⟨[(4, .c (.t .bool))], [.ro C_2, .dead, .dead, .dead, .dead, .dead, K_9, K_2, xC9, xC8, xDa]⟩
abbrev _root_.Prod.t4 {a0 a1 a2 a3 a4 : Type} (x : a0 × a1 × a2 × a3 × a4) : a4 := x.2.2.2.2
abbrev _root_.Prod.t5 {a0 a1 a2 a3 a4 a5 : Type} (x : a0 × a1 × a2 × a3 × a4 × a5) : a5 := x.2.2.2.2.2
abbrev _root_.Prod.t6 {a0 a1 a2 a3 a4 a5 a6 : Type} (x : a0 × a1 × a2 × a3 × a4 × a5 × a6) : a6 := x.2.2.2.2.2.2
abbrev _root_.Prod.t7 {a0 a1 a2 a3 a4 a5 a6 a7 : Type} (x : a0 × a1 × a2 × a3 × a4 × a5 × a6 × a7) : a7 := x.2.2.2.2.2.2.2
abbrev _root_.Prod.t8 {a0 a1 a2 a3 a4 a5 a6 a7 a8 : Type} (x : a0 × a1 × a2 × a3 × a4 × a5 × a6 × a7 × a8) : a8 := x.2.2.2.2.2.2.2.2
abbrev _root_.Prod.t9 {a0 a1 a2 a3 a4 a5 a6 a7 a8 a9 : Type} (x : a0 × a1 × a2 × a3 × a4 × a5 × a6 × a7 × a8 × a9) : a9 := x.2.2.2.2.2.2.2.2.2
theorem xTW (c : Code) : xAw c [] = c := by cases c <;> rfl
theorem fK {T : List Ent} {n f : Nat} {an : An} {In : Sch} {Out : FSch} {spec : In.ty -> Option Out.ty} (hT : xAf Tryz.prog T) (hA : AnP Tryz.prog In.roots.length (xAA Tryz.prog f n) (xAj Tryz.prog f) an []) (hr : xAU (xE4 plans f) (xAj Tryz.prog f) = true := by kernel_rfl) (hs : ∀ s, spec s = fnEv Tryz.prog 70 (xE4 plans f) (xCk Tryz.prog 70 plans T 20) 1000 n an f In Out s := by intro s; kernel_rfl) : FnSem Tryz.prog f n In Out spec := xZV (xAF xAg 70 xAG hT 20) xAg hr (xTW (xAj Tryz.prog f) ▸ xDW (c := xAj Tryz.prog f) (p := []) hA) hs
theorem lK {T : List Ent} {f : Nat} {p : List Nat} {m N : Nat} {an : An} {S : Sch} {o : xBO} {M : Nat -> S.ty -> Option (xAK o)} (hT : xAf Tryz.prog T) (hA : AnP Tryz.prog m N (xAj Tryz.prog f) an p) (hr : xAU (xE4 plans f) (xAw (xAj Tryz.prog f) p) = true := by kernel_rfl) (h0 : ∀ s, M 0 s = none := by intro _; rfl) (hs : ∀ (n : Nat) (s : S.ty), M (n + 1) s = evA Tryz.prog 70 (xE4 plans f) (xCk Tryz.prog 70 plans T 20) m N 1000 an (xAw (xAj Tryz.prog f) p) (xAK o) (xA2 same S.slots (S.a s)) (xAn same S.roots (S.b s)) (fun e K h => match e with
 | .normal => ob (S.dec m K h) (fun s' => M n s')
 | e => xBt m o e K h) := by intro n s; kernel_rfl) : ∀ n, xAW Tryz.prog m N (xAw (xAj Tryz.prog f) p) S o (M n) := loop_ok (xAF xAg 70 xAG hT 20) xAg (xDW hA) hr h0 hs
theorem cs {α : Type} {x : Option α} {a b : α} (h : x = some a) (e : a = b := by kernel_rfl) : x = some b := h.trans (congrArg some e)
abbrev nS {A : Type} (s : (Int × (Int × (Int × Int))) × ((List (Int × (Int × ((Int × Int) × ((Int × Int) × (Int × Int)))))) × A)) : Int × (Int × ((Int × Int) × ((Int × Int) × (Int × Int)))) := nth s.2.1 D_2 s.1.2.2.2.toNat
abbrev nI {A : Type} (s : (Int × (Int × (Int × Int))) × A) : Int := IntKind.i64.wrap (s.1.2.2.2 + (1 : Int))
abbrev g6 (i : Int) (t : List (Int × (Int × (Int × Int)))) : Int × (Int × Int) := xAI (KK.i IntKind.i64) ((0 : Int), ((0 : Int), (0 : Int))) i t
abbrev n3 (a b c : Int) (k : Nat) : Int := nth (a :: (b :: ((IntKind.i64.wrap c) :: []))) (0 : Int) k
abbrev gN (a : T_4) (w : List (ByteArray × Nat)) := nth a D_1 ((xAI KK.s 0 B_0 w) - 1)
abbrev gJ (w : List (ByteArray × Nat)) : Nat := (xAI KK.s 0 B_0 w) - 1
abbrev gK (w : List (ByteArray × Nat)) : Nat := xAI KK.s 0 B_0 w
abbrev jI : IntKind := IntKind.i64
abbrev jU : IntKind := IntKind.u64
end Go.Proofs.YtnomnijhlbalaaaGreatDoor
