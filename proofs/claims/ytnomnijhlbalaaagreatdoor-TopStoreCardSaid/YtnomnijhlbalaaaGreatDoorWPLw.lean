/- A part of the proof of the theorem of the last file. No condition. By an AI agent. -/
import Derived.Test.YtnomnijhlbalaaaGreatDoorWY6
import Derived.Test.YtnomnijhlbalaaaGreatDoorProg
import Derived.KernelRfl
set_option maxRecDepth 100000
namespace Go.Proofs.YtnomnijhlbalaaaGreatDoor
open Go.RowKit
noncomputable section
def rn : Nat -> Nat -> PT -> PT
 | _, 0, t => t
 | a, n + 1, t => .rd a (rn (a + 1) n t)
abbrev f7 (x : Int × ((Int × Int) × ((Int × Int) × (Int × Int)))) : Int × (Int × (Int × (Int × (Int × (Int × Int))))) := (x.1, (x.2.1.1, (x.2.1.2, (x.2.2.1.1, (x.2.2.1.2, x.2.2.2)))))
abbrev u7 (x : Int × (Int × (Int × (Int × (Int × (Int × Int)))))) : Int × ((Int × Int) × ((Int × Int) × (Int × Int))) := (x.1, ((x.2.1, x.2.2.1), ((x.2.2.2.1, x.2.2.2.2.1), x.2.2.2.2.2)))
abbrev pw3 : Nat × List (Nat × PT) := (3, [(12, .rd 0 (.rd 1 (.rd 4 (.rd 5 (.rd 9 (.rd 10 (.rd 14 (.rd 15 (.go 2 [] (.rd 3 (.go 6 [] (.rd 7 (.rd 8 (.go 11 [] (.rd 12 (.rd 13 (.go 16 [] (.rd 17 (.rd 18 (.done)))))))))))))))))))), (20, .rd 0 (.rd 1 (.rd 3 (.go 2 [] (.go 4 [] (.go 5 [] (rn 6 5 (.done)))))))), (38, rn 0 3 (.rd 5 (.rd 6 (rn 9 5 (.go 3 [7] (.go 4 [7] (.rd 14 (.go 7 [] (.go 8 [] (.go 15 [] (.rd 16 (.rd 17 (.done))))))))))))), (41, rn 0 3 (.rd 6 (.rd 7 (.rd 11 (.go 3 [] (.rd 4 (.rd 5 (.go 8 [] (.rd 9 (.rd 10 (.go 12 [] (.rd 13 (.go 14 [] (rn 15 5 (.done))))))))))))))), (48, rn 0 14 (.go 14 [] (.rd 15 (.done)))), (50, rn 0 7 (rn 9 6 (.go 7 [] (.rd 8 (.go 15 [] (.rd 16 (.go 17 [] (.go 18 [] (.rd 19 (.done))))))))))])
abbrev pw10 : Nat × List (Nat × PT) := (10, [(5, .both 8 2 (.rd 0 (.rd 1 (rn 3 4 (.go 7 [] (.rd 8 (.go 2 [] (.rd 9 (.rd 10 (.done))))))))) (.rd 0 (.rd 1 (rn 3 4 (.go 2 [7] (.go 7 [] (rn 8 3 (.done))))))))])
abbrev pw11 : Nat × List (Nat × PT) := (11, [(1, .rd 0 (.rd 1 (.rd 4 (.rd 5 (.rd 9 (.rd 10 (.go 2 [] (.rd 3 (.go 6 [] (.rd 7 (.rd 8 (.go 11 [] (.rd 12 (.rd 13 (.done)))))))))))))))])
abbrev pw13 : Nat × List (Nat × PT) := (13, [(6, rn 1 3 (.go 0 [8] (rn 4 4 (.go 8 [] (.go 9 [] (.rd 10 (.done))))))), (14, rn 0 8 (.go 8 [] (.rd 9 (.done))))])
abbrev pw19 : Nat × List (Nat × PT) := (19, [(1, .rd 0 (.rd 1 (.rd 4 (.rd 5 (.go 2 [] (.rd 3 (.go 6 [] (.rd 7 (.rd 8 (.done))))))))))])
abbrev pw21 : Nat × List (Nat × PT) := (21, [(7, rn 0 8 (.done)), (14, rn 0 9 (.done)), (21, rn 0 8 (.done)), (22, rn 0 11 (.go 11 [] (.done))), (23, rn 0 9 (.go 9 [] (.done)))])
abbrev pw22 : Nat × List (Nat × PT) := (22, [(2, .rd 0 (.rd 1 (.go 2 [] (.go 3 [] (.done))))), (6, rn 0 9 (.go 9 [] (.done))), (7, rn 0 5 (.go 5 [] (.go 6 [] (.done))))])
abbrev pw28 : Nat × List (Nat × PT) := (28, [(4, rn 0 5 (rn 8 3 (.rd 13 (.go 5 [] (.rd 6 (.rd 7 (.go 11 [] (.rd 12 (rn 14 3 (.done))))))))))])
abbrev pw33 : Nat × List (Nat × PT) := (33, [(4, rn 0 8 (.go 8 [] (.go 9 [] (.done))))])
abbrev pw50 : Nat × List (Nat × PT) := (50, [(1, rn 0 11 (.go 11 [] (.done))), (5, rn 0 19 (.go 19 [] (.done))), (6, rn 0 19 (.go 19 [] (.done)))])
abbrev pw54 : Nat × List (Nat × PT) := (54, [(1, .rd 0 (.rd 1 (.go 2 [3] (.go 3 [] (.go 4 [] (.go 5 [] (.done))))))), (2, rn 0 11 (.go 11 [] (.done))), (4, rn 0 7 (rn 8 3 (.go 7 [] (.go 11 [] (.go 12 [] (.done)))))), (8, rn 0 7 (rn 8 3 (.go 7 [] (.go 11 [] (.go 12 [] (.done)))))), (14, rn 0 16 (.go 16 [] (.done))), (18, rn 0 17 (.go 17 [] (.done))), (19, rn 0 17 (.go 17 [] (.done))), (20, rn 0 13 (.go 13 [] (.done))), (21, rn 0 4 (.rd 8 (.rd 9 (.go 4 [] (rn 5 3 (.rd 10 (.rd 11 (.go 12 [] (.done))))))))), (22, rn 0 4 (.rd 8 (.rd 9 (.go 4 [] (rn 5 3 (.rd 10 (.rd 11 (.go 12 [] (.done))))))))), (23, rn 0 4 (.rd 8 (.rd 9 (.go 4 [] (rn 5 3 (.rd 10 (.rd 11 (.go 12 [] (.done))))))))), (24, rn 0 4 (.rd 8 (.rd 9 (.go 4 [] (rn 5 3 (.rd 10 (.rd 11 (.go 12 [] (.done)))))))))])
abbrev pw67 : Nat × List (Nat × PT) := (67, [(1, rn 0 25 (.go 25 [] (.go 26 [] (.done)))), (3, rn 0 5 (.go 5 [] (.rd 6 (.rd 7 (.go 8 [] (rn 9 4 (.done))))))), (4, rn 0 6 (.go 6 [] (.go 7 [] (.rd 8 (.rd 9 (.go 10 [] (rn 11 4 (.done))))))))])
abbrev pw68 : Nat × List (Nat × PT) := (68, [(1, rn 0 10 (.go 10 [14] (rn 11 3 (.go 14 [] (.go 15 [] (.rd 16 (.done)))))))])
abbrev pw69 : Nat × List (Nat × PT) := (69, [(1, rn 0 10 (.go 10 [] (rn 11 5 (.done))))])
abbrev pw70 : Nat × List (Nat × PT) := (70, [(1, rn 0 13 (.go 13 [] (.go 14 [] (.done))))])
abbrev pw71 : Nat × List (Nat × PT) := (71, [(11, rn 0 10 (.go 10 [] (.rd 11 (.go 12 [] (.go 13 [] (.done))))))])
abbrev pw94 : Nat × List (Nat × PT) := (94, [(13, .rd 0 (.rd 1 (.rd 3 (.rd 4 (.rd 6 (.rd 8 (.go 2 [] (.go 5 [] (.go 7 [] (.go 9 [] (.go 10 [] (.go 11 [] (.rd 12 (.rd 13 (.done)))))))))))))))])
abbrev pw96 : Nat × List (Nat × PT) := (96, [(2, rn 0 6 (.go 6 [] (.go 7 [] (.rd 8 (.rd 9 (.go 10 [] (.done)))))))])
abbrev pw97 : Nat × List (Nat × PT) := (97, [(3, rn 0 6 (.go 6 [] (.go 7 [] (.rd 8 (.rd 9 (.go 10 [] (.done)))))))])
abbrev pw123 : Nat × List (Nat × PT) := (123, [(1, rn 0 7 (.go 7 [8] (.go 8 [] (.go 9 [] (.done))))), (2, rn 0 5 (.go 5 [] (.go 6 [] (.done)))), (11, .rd 0 (.rd 1 (.go 2 [] (.go 3 [] (.done)))))])
abbrev pw144 : Nat × List (Nat × PT) := (144, [(4, rn 0 6 (.go 6 [10] (rn 7 3 (.go 10 [] (.go 11 [] (.rd 12 (.done))))))), (6, rn 0 3 (.go 3 [] (.rd 4 (.done)))), (7, .rd 0 (.rd 2 (.rd 4 (.rd 5 (.go 1 [] (.rd 3 (.go 6 [] (.rd 7 (.done))))))))), (8, .rd 0 (.rd 1 (.go 2 [] (.rd 3 (.done))))), (10, .rd 0 (.rd 1 (.go 2 [] (.rd 3 (.done))))), (12, .rd 0 (.rd 1 (.go 2 [] (.rd 3 (.done))))), (18, rn 0 14 (.go 14 [] (.done))), (19, rn 0 14 (.go 14 [] (.done))), (22, rn 0 3 (.go 3 [] (.rd 4 (.done))))])
abbrev pw146 : Nat × List (Nat × PT) := (146, [(4, rn 0 6 (.go 6 [] (.done)))])
abbrev pw147 : Nat × List (Nat × PT) := (147, [(1, rn 0 12 (.done))])
abbrev pw148 : Nat × List (Nat × PT) := (148, [(1, rn 0 4 (.rd 5 (.go 4 [6] (.go 6 [] (.go 7 [] (.rd 8 (.done)))))))])
abbrev pw149 : Nat × List (Nat × PT) := (149, [(4, rn 0 8 (.go 8 [] (.go 9 [] (.done)))), (8, .both 3 7 (rn 0 7 (.go 7 [] (.go 8 [] (rn 9 4 (.done))))) (rn 0 3 (.rd 5 (.rd 6 (.go 7 [] (.rd 3 (.rd 4 (.go 8 [] (rn 9 4 (.done))))))))))])
abbrev pw151 : Nat × List (Nat × PT) := (151, [(1, rn 0 8 (.go 8 [12] (rn 9 3 (.go 12 [] (.go 13 [] (.rd 14 (.done)))))))])
abbrev pw183 : Nat × List (Nat × PT) := (183, [(0, rn 0 6 (.done))])
abbrev pw184 : Nat × List (Nat × PT) := (184, [(5, rn 0 6 (rn 7 6 (.go 6 [] (.go 13 [] (.rd 14 (.rd 15 (.done))))))), (7, rn 0 3 (rn 4 3 (.go 3 [] (.go 7 [] (.rd 8 (.rd 9 (.done))))))), (8, rn 0 6 (.done))])
abbrev pw243 : Nat × List (Nat × PT) := (243, [(6, rn 0 8 (.done))])
def plans : xFo := [pw3, pw10, pw11, pw13, pw19, pw21, pw22, pw28, pw33, pw50, pw54, pw67, pw68, pw69, pw70, pw71, pw94, pw96, pw97, pw123, pw144, pw146, pw147, pw148, pw149, pw151, pw183, pw184, pw243]
theorem xAn : Tryz.prog.follows .mixedOrders = true := by kernel_rfl
theorem plan_3 : xAQ Tryz.prog pw3 = true := by kernel_rfl
theorem plan_10 : xAQ Tryz.prog pw10 = true := by kernel_rfl
theorem plan_11 : xAQ Tryz.prog pw11 = true := by kernel_rfl
theorem plan_13 : xAQ Tryz.prog pw13 = true := by kernel_rfl
theorem plan_19 : xAQ Tryz.prog pw19 = true := by kernel_rfl
theorem plan_21 : xAQ Tryz.prog pw21 = true := by kernel_rfl
theorem plan_22 : xAQ Tryz.prog pw22 = true := by kernel_rfl
theorem plan_28 : xAQ Tryz.prog pw28 = true := by kernel_rfl
theorem plan_33 : xAQ Tryz.prog pw33 = true := by kernel_rfl
theorem plan_50 : xAQ Tryz.prog pw50 = true := by kernel_rfl
theorem plan_54 : xAQ Tryz.prog pw54 = true := by kernel_rfl
theorem plan_67 : xAQ Tryz.prog pw67 = true := by kernel_rfl
theorem plan_68 : xAQ Tryz.prog pw68 = true := by kernel_rfl
theorem plan_69 : xAQ Tryz.prog pw69 = true := by kernel_rfl
theorem plan_70 : xAQ Tryz.prog pw70 = true := by kernel_rfl
theorem plan_71 : xAQ Tryz.prog pw71 = true := by kernel_rfl
theorem plan_94 : xAQ Tryz.prog pw94 = true := by kernel_rfl
theorem plan_96 : xAQ Tryz.prog pw96 = true := by kernel_rfl
theorem plan_97 : xAQ Tryz.prog pw97 = true := by kernel_rfl
theorem xWU : xAQ Tryz.prog pw123 = true := by kernel_rfl
theorem xWT : xAQ Tryz.prog pw144 = true := by kernel_rfl
theorem xWS : xAQ Tryz.prog pw146 = true := by kernel_rfl
theorem xWR : xAQ Tryz.prog pw147 = true := by kernel_rfl
theorem xWQ : xAQ Tryz.prog pw148 = true := by kernel_rfl
theorem xWP : xAQ Tryz.prog pw149 = true := by kernel_rfl
theorem xWO : xAQ Tryz.prog pw151 = true := by kernel_rfl
theorem xWN : xAQ Tryz.prog pw183 = true := by kernel_rfl
theorem xWM : xAQ Tryz.prog pw184 = true := by kernel_rfl
theorem xWL : xAQ Tryz.prog pw243 = true := by kernel_rfl
theorem xF6 {a b : Bool} (h : a = true) (k : b = true) : (a && b) = true := by rw [h, k]; rfl
theorem xWK : plans.all (xAQ Tryz.prog) = true := xF6 plan_3 (xF6 plan_10 (xF6 plan_11 (xF6 plan_13 (xF6 plan_19 (xF6 plan_21 (xF6 plan_22 (xF6 plan_28 (xF6 plan_33 (xF6 plan_50 (xF6 plan_54 (xF6 plan_67 (xF6 plan_68 (xF6 plan_69 (xF6 plan_70 (xF6 plan_71 (xF6 plan_94 (xF6 plan_96 (xF6 plan_97 (xF6 xWU (xF6 xWT (xF6 xWS (xF6 xWR (xF6 xWQ (xF6 xWP (xF6 xWO (xF6 xWN (xF6 xWM (xF6 xWL (rfl)))))))))))))))))))))))))))))
theorem xBn : xEy Tryz.prog plans := fun p hp => List.all_eq_true.1 xWK p hp
def fb (β : Type) : xAK β := xQw Tryz.prog 70 plans noSums 50
theorem progFb : ∀ β, xAJ Tryz.prog (fb β) := fun _ => xNk xAn 70 xBn xTK 50
def tab0 (_ : Nat) : List Ent := []
theorem tab0_ok (F : Nat) : xAj Tryz.prog (tab0 F) := trivial
end
abbrev TC.i : TC := .int .i64
abbrev Sg.i : Sg := .t .i
abbrev Sg.z : Sg := .k (.lit (.int .i64 (0)))
abbrev C_0 : TC := .pair (.pair .i .i) (.pair (.pair .i .i) (.pair .i .i))
abbrev C_1 : TC := .pair .i (.pair .i (.pair C_0 .i))
abbrev C_2 : TC := .pair (.pair .i C_0) (.pair (.rf 1 3) (.pair (.rf 2 1) (.pair (.int .u8) (.pair (.rf 1 4) .bool))))
abbrev C_3 : TC := .pair (.int .u8) (.pair .i C_0)
abbrev C_4 : TC := .pair .bool (.pair .bool (.int .u8))
abbrev D_0 := TC.dflt (.pair C_1 (.rf 2 1))
abbrev D_1 := TC.dflt (.pair .i .i)
abbrev T_0 : Type := (Int × Int) × ((Int × Int) × (Int × Int))
abbrev T_1 : Type := Int × (Int × (Int × (Int × (Int × (Int × Int)))))
abbrev T_2 : Type := List ((Int × (Int × (T_0 × Int))) × Nat)
abbrev T_3 : Type := List ((Int × T_0) × (Nat × (Nat × (Int × (Nat × Bool)))))
abbrev T_4 : Type := List (Option (List (Int × Bool)))
abbrev T_5 : Type := Int × (Int × (Int × (Int × (Int × (Int × (Int × (Int × (Int × (Int × (Int × (Int × ByteArray)))))))))))
abbrev T_6 : Type := List (Option (List (Bool × (Bool × Int))))
abbrev T_7 : Type := List (Option (List (Int × (Int × T_0))))
abbrev T_8 : Type := List (Int × (Int × (T_0 × Int)))
abbrev B_0 : ByteArray := ByteArray.mk (Array.mk (32 :: []))
abbrev B_1 : ByteArray := ByteArray.mk (Array.mk [])
abbrev K_0 : RK := .blk 114 [.k (.pt 1 0 0 0), .k (.hv 3), .k (.hv 4), .k (.lit (.slice none 0 0)), .k (.lit (.slice none 0 0)), .k (.lit (.slice none 0 0)), .k (.lit (.pointer none))]
abbrev K_1 : RK := .aro 0 123 (.pair C_1 (.rf 2 1))
abbrev K_2 : RK := .arm 1 (.i .i64) false .bool
abbrev K_3 : RK := .mp (.i .i64) false (.rf 0 0)
abbrev K_4 : RK := .mp .s false (.rf 0 2)
abbrev K_5 : RK := .ro (.pair .i .i)
abbrev K_6 : RK := .blk 117 [.k (.hv 2), .i, .i, .i, .i, .i, .i, .i]
abbrev K_7 : RK := .blk 137 [.k (.sl 6 1), .k (.sl 7 2), .k (.sl 8 6), .i, .i, .i, .i, .i, .i, .i, .i, .i, .i, .i, .i, .k (.sl 9 2), .k (.sl 10 1), .t .str]
abbrev K_8 : RK := .blk 117 [.k (.hv 1), .i, .i, .i, .i, .i, .i, .i]
abbrev K_9 : RK := .blk 26 [.k (.sl 0 9), .k (.sl 1 1), .k (.sl 2 2)]
abbrev K_10 : RK := .blk 82 [.k (.sl 2 7), .i, .i, .i, .i, .i, .i, .i, .i, .i, .i, .i, .i, .i, .i, .i, .i, .i, .i, .i, .i, .i, .i, .i, .i, .i]
abbrev xCA : RK := .ars 4 244 C_4
abbrev xCz : RK := .aro 2 236 C_2
abbrev K_13 : RK := .blk 137 [.k (.sl 1 1), .k (.sl 2 2), .k (.sl 3 6), .i, .i, .i, .i, .i, .i, .i, .i, .i, .i, .i, .i, .k (.sl 6 2), .k (.sl 5 1), .t .str]
abbrev xR3 : RK := .blk 32 [.k (.sl 3 9), .i, .i, .i, .i, .i, .i, .i, .i]
abbrev K_15 : RK := .blk 114 [.k (.pt 21 0 0 0), .k (.hv 22), .k (.hv 23), .k (.lit (.slice none 0 0)), .k (.lit (.slice none 0 0)), .k (.lit (.slice none 0 0)), .k (.lit (.pointer none))]
abbrev xCy : RK := .ars 3 77 C_3
abbrev K_17 : RK := .blk 114 [.k (.pt 19 0 0 0), .k (.hv 20), .k (.hv 21), .k (.lit (.slice none 0 0)), .k (.lit (.slice none 0 0)), .k (.lit (.slice none 0 0)), .k (.lit (.pointer none))]
abbrev xXX : RK := .blk 207 [.t (.pair .bool (.pair .bool .bool))]
abbrev K_19 : RK := .blk 117 [.k (.hv 2), .t (.pair .i C_0)]
abbrev K_20 : RK := .blk 117 [.k (.hv 24), .i, .i, .i, .i, .i, .i, .i]
abbrev xKk : RK := .arr 7 (.int .u8)
abbrev xRX : RK := .blk 65 [.t (.pair .i C_0)]
abbrev K_23 : RK := .blk 117 [.k (.hv 23), .i, .i, .i, .i, .i, .i, .i]
abbrev K_24 : RK := .blk 117 [.k (.hv 1), .t (.pair .i C_0)]
abbrev K_25 : RK := .blk 137 [.k (.lit (.slice none 0 0)), .k (.lit (.slice none 0 0)), .k (.lit (.slice none 0 0)), .i, .i, .i, .i, .i, .i, .i, .i, .i, .i, .i, .i, .k (.lit (.slice none 0 0)), .k (.lit (.slice none 0 0)), .t .str]
abbrev K_26 : RK := .blk 117 [.k (.hv 22), .i, .i, .i, .i, .i, .i, .i]
abbrev xKj : RK := .ro (.rf 1 7)
abbrev K_28 : RK := .blk 114 [.k (.pt 20 0 0 0), .k (.hv 21), .k (.hv 22), .k (.lit (.slice none 0 0)), .k (.lit (.slice none 0 0)), .k (.lit (.slice none 0 0)), .k (.lit (.pointer none))]
abbrev K_29 : RK := .blk 137 [.k (.sl 1 1), .k (.sl 2 2), .k (.sl 3 6), .t (.pair (.pair .i .i) (.pair (.pair .i .i) (.pair (.pair .i .i) C_0))), .k (.sl 4 2), .k (.sl 5 1), .t .str]
abbrev K_30 : RK := .blk 137 [.k (.sl 1 1), .k (.sl 2 2), .k (.sl 3 6), .i, .i, .i, .i, .i, .i, .i, .i, .i, .i, .i, .i, .k (.sl 4 2), .k (.sl 5 1), .t .str]
abbrev xXW : RK := .blk 69 [.k (.sl 0 8)]
abbrev xLJ : RK := .blk 3 [.i]
abbrev K_33 : RK := .blk 177 [.k (.pt 1 0 0 0)]
abbrev H_0 : Sch := ⟨[(0, .c (.k (.pt 0 0 0 0))), (1, .c (.t .str))], [K_0, K_19, K_3, K_4, K_4, K_1, K_2, xCz, xCy, xCA]⟩
abbrev H_1 : Sch := ⟨[(4, .c (.t .bool))], [.ro C_1, xKj, K_5, .ro C_1, .dead, .dead, .dead, .dead, .dead, xKk, K_1, K_2, xCz, xCy, xCA]⟩
abbrev _root_.Prod.t4 {a0 a1 a2 a3 a4 : Type} (x : a0 × a1 × a2 × a3 × a4) : a4 := x.2.2.2.2
abbrev _root_.Prod.t5 {a0 a1 a2 a3 a4 a5 : Type} (x : a0 × a1 × a2 × a3 × a4 × a5) : a5 := x.2.2.2.2.2
abbrev _root_.Prod.t6 {a0 a1 a2 a3 a4 a5 a6 : Type} (x : a0 × a1 × a2 × a3 × a4 × a5 × a6) : a6 := x.2.2.2.2.2.2
abbrev _root_.Prod.t7 {a0 a1 a2 a3 a4 a5 a6 a7 : Type} (x : a0 × a1 × a2 × a3 × a4 × a5 × a6 × a7) : a7 := x.2.2.2.2.2.2.2
abbrev _root_.Prod.t8 {a0 a1 a2 a3 a4 a5 a6 a7 a8 : Type} (x : a0 × a1 × a2 × a3 × a4 × a5 × a6 × a7 × a8) : a8 := x.2.2.2.2.2.2.2.2
abbrev _root_.Prod.t9 {a0 a1 a2 a3 a4 a5 a6 a7 a8 a9 : Type} (x : a0 × a1 × a2 × a3 × a4 × a5 × a6 × a7 × a8 × a9) : a9 := x.2.2.2.2.2.2.2.2.2
theorem xSx (c : Code) : xAt c [] = c := by cases c <;> rfl
theorem fK {T : List Ent} {n f : Nat} {an : An} {In : Sch} {Out : FSch} {spec : In.ty -> Option Out.ty} (hT : xAj Tryz.prog T) (hA : AnP Tryz.prog In.roots.length (xAv Tryz.prog f n) (xAi Tryz.prog f) an []) (hr : xAL (xFp plans f) (xAi Tryz.prog f) = true := by kernel_rfl) (hs : ∀ s, spec s = fnEv Tryz.prog 70 (xFp plans f) (xCr Tryz.prog 70 plans T 20) 1000 n an f In Out s := by intro s; kernel_rfl) : FnSem Tryz.prog f n In Out spec := xXr (xA7 xAn 70 xBn hT 20) xAn hr (xSx (xAi Tryz.prog f) ▸ xD8 (c := xAi Tryz.prog f) (p := []) hA) hs
theorem lK {T : List Ent} {f : Nat} {p : List Nat} {m N : Nat} {an : An} {S : Sch} {o : xBY} {M : Nat -> S.ty -> Option (xAB o)} (hT : xAj Tryz.prog T) (hA : AnP Tryz.prog m N (xAi Tryz.prog f) an p) (hr : xAL (xFp plans f) (xAt (xAi Tryz.prog f) p) = true := by kernel_rfl) (h0 : ∀ s, M 0 s = none := by intro _; rfl) (hs : ∀ (n : Nat) (s : S.ty), M (n + 1) s = evA Tryz.prog 70 (xFp plans f) (xCr Tryz.prog 70 plans T 20) m N 1000 an (xAt (xAi Tryz.prog f) p) (xAB o) (xAM same S.slots (S.a s)) (xAe same S.roots (S.b s)) (fun e K h => match e with
 | .normal => ob (S.dec m K h) (fun s' => M n s')
 | e => xBk m o e K h) := by intro n s; kernel_rfl) : ∀ n, xAS Tryz.prog m N (xAt (xAi Tryz.prog f) p) S o (M n) := loop_ok (xA7 xAn 70 xBn hT 20) xAn (xD8 hA) hr h0 hs
theorem cs {α : Type} {x : Option α} {a b : α} (h : x = some a) (e : a = b := by kernel_rfl) : x = some b := h.trans (congrArg some e)
abbrev jI : IntKind := IntKind.i64
end Go.Proofs.YtnomnijhlbalaaaGreatDoor
