/- A part of the proof of the theorem of the last file. No condition. By an AI agent. -/
import Derived.Test.YtnomnijhlbalaaaGreatDoorWXW5
set_option maxRecDepth 100000
set_option maxHeartbeats 4000000
namespace Go.Proofs.YtnomnijhlbalaaaGreatDoor
open Go.RowKit Go.Proofs
noncomputable section
def xBC (F : Nat) (n : Int) (least : Int) (most : Int) : Option (Bool) := (bif (decide (n >= least)) then (some (decide (n <= most))) else (some false))
abbrev xNJ : Sch := ⟨[(0, .c .i), (1, .c .i), (2, .c .i)], []⟩
abbrev xNI : FSch := ⟨.one (.c (.t .bool)), []⟩
def xVm (F : Nat) : Ent := ⟨118, 3, xNJ, xNI, fun s => xBC F s.1 s.2.1 s.2.2, []⟩
theorem xSK (F : Nat) : FnSem Tryz.prog 118 3 xNJ xNI (fun s => xBC F s.1 s.2.1 s.2.2) :=
 fK (an := .no) (xIU F) (trivial)
def xNH (F : Nat) : List Ent := xVm F :: xQW F
theorem xG5 (F : Nat) : xAf Tryz.prog (xNH F) := ⟨⟨by kernel_rfl, xSK F⟩, xIU F⟩
def xBz (F : Nat) (r : (Int × Int)) (most : Int) : Option (Bool) := (bif (decide (0 <= r.1)) then (bif (decide (r.1 <= r.2)) then (some (decide (r.2 <= most))) else (some false)) else (some false))
abbrev xKS : Sch := ⟨[(0, .ag [.t (.pair .i .i)]), (1, .c .i)], []⟩
abbrev xKR : FSch := ⟨.one (.c (.t .bool)), []⟩
def xSL (F : Nat) : Ent := ⟨56, 2, xKS, xKR, fun s => xBz F s.1 s.2, []⟩
theorem xPt (F : Nat) : FnSem Tryz.prog 56 2 xKS xKR (fun s => xBz F s.1 s.2) :=
 fK (an := .no) (xG5 F) (trivial)
def xKQ (F : Nat) : List Ent := xSL F :: xNH F
theorem xDD (F : Nat) : xAf Tryz.prog (xKQ F) := ⟨⟨by kernel_rfl, xPt F⟩, xG5 F⟩
abbrev ixB_n : Nat := 2
def xRo (F : Nat) (t7 : Int) (g0 : (List (Int × Int))) (g2 : Int) : Nat -> Int -> Option ((Int × ((List (Int × Int)) × Int)) ⊕ ((List (Int × Int)) × Int))
 | 0, _ => none
 | n_ + 1, t8 => (bif (decide (t8 < t7)) then (bif (inB t8 (g0.length - 0)) then (ob (xBz F (nth g0 D_0 t8.toNat) g2) (fun r => (bif (!r) then (some (.inl (t8, (g0, g2)))) else (xRo F t7 g0 g2 n_ (jI.wrap (t8 + 1)))))) else none) else (some (.inr (g0, g2))))
abbrev xRm : Sch := ⟨[(0, .c (.k (.sl 0 2))), (1, .c (.k (.hv 1))), (7, .c .i), (8, .c .i)], [.ro (.pair .i .i), .clo 182 [] [.k (.pt 2 0 0 0)], xBI]⟩
abbrev xRn : xBO := [(.ret, ⟨[(4, .c .i)], [.ro (.pair .i .i), .clo 182 [] [.k (.pt 2 0 0 0)], xBI]⟩), ((.exit 0), ⟨[], [.ro (.pair .i .i), .clo 182 [] [.k (.pt 2 0 0 0)], xBI]⟩)]
theorem xV4 (F : Nat) : ∀ n, xAW Tryz.prog 3 (xAA Tryz.prog 207 ixB_n) (xAw (xAj Tryz.prog 207) [1, 0, 1, 0, 0]) xRm xRn (fun s => (xRo F s.1.1 s.2.1 s.2.2 n s.1.2)) :=
 lK (an := .no) (xDD F) (trivial)
def ixB_S (F : Nat) (s1 : (List (Int × Int))) (f0 : Int) : Option ((Int × Int)) := (ob (xRo F ((s1.length - 0) : Int) s1 f0 F 0) (fun o_ => su o_ (fun s2 => (some (s2.1, s2.2.2))) (fun s3 => (some ((-1 : Int), s3.2)))))
abbrev ixB_I : Sch := ⟨[(0, .c (.k (.sl 0 2))), (1, .c (.k (.hv 1)))], [.ro (.pair .i .i), .clo 182 [] [.k (.pt 2 0 0 0)], xBI]⟩
abbrev ixB_O : FSch := ⟨.one (.c .i), [.dead, .dead, xBI]⟩
def ixB_E (F : Nat) : Ent := ⟨207, 2, ixB_I, ixB_O, fun s => ixB_S F s.1 s.2, []⟩
theorem ixB_ok (F : Nat) : FnSem Tryz.prog 207 2 ixB_I ixB_O (fun s => ixB_S F s.1 s.2) :=
 fK (an := (.two .no (.two (.two .no (.one (.loop xRm xRn (fun s => (xRo F s.1.1 s.2.1 s.2.2 F s.1.2))))) .no))) (xDD F) (⟨trivial, ⟨⟨trivial, (xV4 F F)⟩, trivial⟩⟩)
def ixB_T (F : Nat) : List Ent := ixB_E F :: xKQ F
theorem xRl (F : Nat) : xAf Tryz.prog (ixB_T F) := ⟨⟨by kernel_rfl, ixB_ok F⟩, xDD F⟩
def cfB_S (F : Nat) (s1 : (List (Int × Int))) (f0 : Int) : Option ((Bool × Int)) := (ob (ixB_S F s1 f0) (fun r => (some ((decide (r.1 >= 0)), r.2))))
abbrev cfB_I : Sch := ⟨[(0, .c (.k (.sl 0 2))), (1, .c (.k (.hv 1)))], [.ro (.pair .i .i), .clo 182 [] [.k (.pt 2 0 0 0)], xBI]⟩
abbrev cfB_O : FSch := ⟨.one (.c (.t .bool)), [.dead, .dead, xBI]⟩
def cfB_E (F : Nat) : Ent := ⟨135, 2, cfB_I, cfB_O, fun s => cfB_S F s.1 s.2, []⟩
theorem cfB_ok (F : Nat) : FnSem Tryz.prog 135 2 cfB_I cfB_O (fun s => cfB_S F s.1 s.2) :=
 fK (an := .no) (xRl F) (trivial)
def cfB_T (F : Nat) : List Ent := cfB_E F :: ixB_T F
theorem xR1 (F : Nat) : xAf Tryz.prog (cfB_T F) := ⟨⟨by kernel_rfl, cfB_ok F⟩, xRl F⟩
def xB2 (F : Nat) (b : T_0) (most : Int) : Option (Bool) := (ob (xBz F b.1 most) (fun r => (bif (!r) then (some false) else (ob (xBz F b.2.1 most) (fun r1 => (bif (!r1) then (some false) else (ob (xBz F b.2.2 most) (fun r2 => (bif (!r2) then (some false) else (some true))))))))))
abbrev xVx : Sch := ⟨[(0, .ag [.t C_0]), (1, .c .i)], []⟩
abbrev xVw : FSch := ⟨.one (.c (.t .bool)), []⟩
def mAreB_E (F : Nat) : Ent := ⟨119, 2, xVx, xVw, fun s => xB2 F s.1 s.2, []⟩
theorem xZr (F : Nat) : FnSem Tryz.prog 119 2 xVx xVw (fun s => xB2 F s.1 s.2) :=
 fK (an := .no) (xR1 F) (trivial)
def xVv (F : Nat) : List Ent := mAreB_E F :: cfB_T F
theorem xKT (F : Nat) : xAf Tryz.prog (xVv F) := ⟨⟨by kernel_rfl, xZr F⟩, xR1 F⟩
def xF0 (F : Nat) (m : (Int × T_0)) : Option (Bool) := (ob (xBC F m.1 0 1000000000) (fun r => (bif r then (ob (xB2 F m.2 1000000000000) (fun r1 => (some r1))) else (some false))))
abbrev xRv : Sch := ⟨[(0, .ag [.t (.pair .i C_0)])], []⟩
abbrev xRu : FSch := ⟨.one (.c (.t .bool)), []⟩
def xZJ (F : Nat) : Ent := ⟨51, 1, xRv, xRu, fun s => xF0 F s, []⟩
theorem xV9 (F : Nat) : FnSem Tryz.prog 51 1 xRv xRu (fun s => xF0 F s) :=
 fK (an := .no) (xKT F) (trivial)
def xRt (F : Nat) : List Ent := xZJ F :: xVv F
theorem xJo (F : Nat) : xAf Tryz.prog (xRt F) := ⟨⟨by kernel_rfl, xV9 F⟩, xKT F⟩
def xFY (F : Nat) (x : (Int × (Int × T_0))) : Option (Bool) := (ob (xBC F (jI.wrap x.1) 1 4) (fun r => (bif (!r) then (some false) else (bif (inB x.1 5) then (bif (gFit (0 + (x.1.toNat * 2)) 2 5) then (bif (x.2.1 == 0) then (ob (xBC F x.2.1 1 1000000000) (fun r1 => (bif r1 then (ob (xB2 F x.2.2 (nth ((0, false) :: ((20000, true) :: ((1000000000000, true) :: ((1000000000000, false) :: ((10000, false) :: []))))) (TC.dflt (.pair .i .bool)) (gRow (0 + (x.1.toNat * 2)) 2)).1) (fun r2 => (some r2))) else (bif (!(nth ((0, false) :: ((20000, true) :: ((1000000000000, true) :: ((1000000000000, false) :: ((10000, false) :: []))))) (TC.dflt (.pair .i .bool)) (gRow (0 + (x.1.toNat * 2)) 2)).2) then (ob (xB2 F x.2.2 (nth ((0, false) :: ((20000, true) :: ((1000000000000, true) :: ((1000000000000, false) :: ((10000, false) :: []))))) (TC.dflt (.pair .i .bool)) (gRow (0 + (x.1.toNat * 2)) 2)).1) (fun r3 => (some r3))) else (some false))))) else (bif (nth ((0, false) :: ((20000, true) :: ((1000000000000, true) :: ((1000000000000, false) :: ((10000, false) :: []))))) (TC.dflt (.pair .i .bool)) (gRow (0 + (x.1.toNat * 2)) 2)).2 then (ob (xBC F x.2.1 1 1000000000) (fun r4 => (bif r4 then (ob (xB2 F x.2.2 (nth ((0, false) :: ((20000, true) :: ((1000000000000, true) :: ((1000000000000, false) :: ((10000, false) :: []))))) (TC.dflt (.pair .i .bool)) (gRow (0 + (x.1.toNat * 2)) 2)).1) (fun r5 => (some r5))) else (bif (!(nth ((0, false) :: ((20000, true) :: ((1000000000000, true) :: ((1000000000000, false) :: ((10000, false) :: []))))) (TC.dflt (.pair .i .bool)) (gRow (0 + (x.1.toNat * 2)) 2)).2) then (ob (xB2 F x.2.2 (nth ((0, false) :: ((20000, true) :: ((1000000000000, true) :: ((1000000000000, false) :: ((10000, false) :: []))))) (TC.dflt (.pair .i .bool)) (gRow (0 + (x.1.toNat * 2)) 2)).1) (fun r6 => (some r6))) else (some false))))) else (some false))) else none) else none))))
abbrev xRr : Sch := ⟨[(0, .ag [.t C_2])], []⟩
abbrev xRq : FSch := ⟨.one (.c (.t .bool)), []⟩
def xZI (F : Nat) : Ent := ⟨52, 1, xRr, xRq, fun s => xFY F s, []⟩
theorem xV5 (F : Nat) : FnSem Tryz.prog 52 1 xRr xRq (fun s => xFY F s) :=
 fK (an := .no) (xJo F) (trivial)
def xRp (F : Nat) : List Ent := xZI F :: xRt F
theorem xJj (F : Nat) : xAf Tryz.prog (xRp F) := ⟨⟨by kernel_rfl, xV5 F⟩, xJo F⟩
def xAB (F : Nat) (mass : Int) (x : (Int × (Int × T_0))) : Option (Int) := (bif (x.1 == 1) then (some (jI.wrap (mass - x.2.1))) else (bif (x.1 == 2) then (some (jI.wrap (mass + x.2.1))) else (some mass)))
abbrev xWl : Sch := ⟨[(0, .c .i), (1, .ag [.t C_2])], []⟩
abbrev xWk : FSch := ⟨.one (.c .i), []⟩
def grown_E (F : Nat) : Ent := ⟨53, 2, xWl, xWk, fun s => xAB F s.1 s.2, []⟩
theorem xZP (F : Nat) : FnSem Tryz.prog 53 2 xWl xWk (fun s => xAB F s.1 s.2) :=
 fK (an := .no) (xJj F) (trivial)
def xWj (F : Nat) : List Ent := grown_E F :: xRp F
theorem xGB (F : Nat) : xAf Tryz.prog (xWj F) := ⟨⟨by kernel_rfl, xZP F⟩, xJj F⟩
abbrev xZp : Nat := 2
def xCe (F : Nat) (t19 : Int) (g0 : (List (Int × (Int × T_0)))) : Nat -> Int -> Int -> Option ((Int × (List (Int × (Int × T_0)))) ⊕ (List (Int × (Int × T_0))))
 | 0, _, _ => none
 | n_ + 1, mass, t20 => (bif (decide (t20 < t19)) then (bif (inB t20 (g0.length - 0)) then (ob (xFY F (nth g0 D_2 t20.toNat)) (fun r1 => (bif (!r1) then (some (.inl ((2 : Int), g0))) else (ob (xAB F mass (nth g0 D_2 t20.toNat)) (fun r2 => (bif (decide (r2 < 0)) then (some (.inl ((31 : Int), g0))) else (bif (decide (r2 > 1000000000)) then (some (.inl ((8 : Int), g0))) else (xCe F t19 g0 n_ r2 (jI.wrap (t20 + 1)))))))))) else none) else (some (.inr g0)))
abbrev xI0 : Sch := ⟨[(5, .c .i), (18, .c (.k (.sl 0 8))), (19, .c .i), (20, .c .i)], [.ro C_2]⟩
abbrev xI1 : xBO := [(.ret, ⟨[(4, .c .i)], [.ro C_2]⟩), ((.exit 1), ⟨[], [.ro C_2]⟩)]
theorem xNK (F : Nat) : ∀ n, xAW Tryz.prog 1 (xAA Tryz.prog 23 xZp) (xAw (xAj Tryz.prog 23) [1, 1, 1, 0, 1, 0, 0]) xI0 xI1 (fun s => (xCe F s.1.2.1 s.2 n s.1.1 s.1.2.2)) :=
 lK (an := .no) (xGB F) (trivial)
def xAJ (F : Nat) (m : (Int × T_0)) (l : (List (Int × (Int × T_0)))) : Option (Int) := (ob (xF0 F m) (fun r => (bif (!r) then (some (2 : Int)) else (bif (decide (((l.length - 0) : Int) > 200)) then (some (5 : Int)) else (ob (xCe F ((l.length - 0) : Int) l F m.1 0) (fun o_ => su o_ (fun s1 => (some s1.1)) (fun s2 => (some (0 : Int)))))))))
abbrev xQ4 : Sch := ⟨[(0, .ag [.t (.pair .i C_0)]), (1, .c (.k (.sl 0 8)))], [.ro C_2]⟩
abbrev xQ3 : FSch := ⟨.one (.c .i), [.dead]⟩
def xZq (F : Nat) : Ent := ⟨23, 2, xQ4, xQ3, fun s => xAJ F s.1 s.2, []⟩
theorem xVu (F : Nat) : FnSem Tryz.prog 23 2 xQ4 xQ3 (fun s => xAJ F s.1 s.2) :=
 fK (an := (.two .no (.two .no (.two .no (.two (.two .no (.one (.loop xI0 xI1 (fun s => (xCe F s.1.2.1 s.2 F s.1.1 s.1.2.2))))) .no))))) (xGB F) (⟨trivial, ⟨trivial, ⟨trivial, ⟨⟨trivial, (xNK F F)⟩, trivial⟩⟩⟩⟩)
def xQ2 (F : Nat) : List Ent := xZq F :: xWj F
theorem xIZ (F : Nat) : xAf Tryz.prog (xQ2 F) := ⟨⟨by kernel_rfl, xVu F⟩, xGB F⟩
def xBc (F : Nat) (share : Int) (units0 : Int) (m : Int) (mass : Int) (how : Int) : Option (Int) := (ob (xCa F units0 (jI.wrap (share * m)) (jI.wrap (10000 * mass)) how) (fun r => (some (if units0 < r.1 then units0 else r.1))))
abbrev part_I : Sch := ⟨[(0, .c .i), (1, .c .i), (2, .c .i), (3, .c .i), (4, .c (.t (.int .u8)))], []⟩
abbrev part_O : FSch := ⟨.one (.c .i), []⟩
def part_E (F : Nat) : Ent := ⟨239, 5, part_I, part_O, fun s => xBc F s.1 s.2.1 s.2.2.1 s.2.2.2.1 s.t4, []⟩
theorem part_ok (F : Nat) : FnSem Tryz.prog 239 5 part_I part_O (fun s => xBc F s.1 s.2.1 s.2.2.1 s.2.2.2.1 s.t4) :=
 fK (an := .no) (xIZ F) (trivial)
def part_T (F : Nat) : List Ent := part_E F :: xQ2 F
theorem xNA (F : Nat) : xAf Tryz.prog (part_T F) := ⟨⟨by kernel_rfl, part_ok F⟩, xIZ F⟩
def xCw (F : Nat) (x : (Int × (Int × T_0))) (d : Int) (mass : Int) : Option ((Int × Int)) := (ob (bif (x.1 == 1) then (some ((d, mass, (x.2.1 == mass)), (x, x.2.2.1))) else (some ((d, mass, false), (x, x.2.2.1)))) (fun s1 => (bif s1.1.2.2 then (some (s1.1.1, s1.1.1)) else (bif (s1.2.1.1 == 1) then (ob (xBc F s1.2.2.1 s1.1.1 s1.2.1.2.1 s1.1.2.1 1) (fun r => (ob (xBc F s1.2.2.2 s1.1.1 s1.2.1.2.1 s1.1.2.1 2) (fun r1 => (some (r, r1)))))) else (bif (s1.2.1.1 == 4) then (ob (xBc F s1.2.2.1 s1.1.1 1 1 1) (fun r2 => (ob (xBc F s1.2.2.2 s1.1.1 1 1 2) (fun r3 => (some (r2, r3)))))) else (some s1.2.2))))))
abbrev xLs : Sch := ⟨[(0, .ag [.t C_2]), (1, .c .z), (2, .c .i), (3, .c .i)], []⟩
abbrev xLr : FSch := ⟨.tu [(false, [.i]), (false, [.i])], []⟩
def xS9 (F : Nat) : Ent := ⟨184, 4, xLs, xLr, fun s => xCw F s.1 s.2.1 s.2.2, []⟩
theorem xPW (F : Nat) : FnSem Tryz.prog 184 4 xLs xLr (fun s => xCw F s.1 s.2.1 s.2.2) :=
 fK (an := (.two .no (.two .no (.two (.one (.two (.join [(.normal, H_3)] .no) .no)) .no)))) (xNA F) (⟨trivial, ⟨trivial, ⟨⟨trivial, trivial⟩, trivial⟩⟩⟩)
def xLq (F : Nat) : List Ent := xS9 F :: part_T F
theorem xGd (F : Nat) : xAf Tryz.prog (xLq F) := ⟨⟨by kernel_rfl, xPW F⟩, xNA F⟩
def xCv (F : Nat) (x : (Int × (Int × T_0))) (d : Int) (mass : Int) : Option ((Int × Int)) := (ob (bif (x.1 == 1) then (some ((d, mass, (x.2.1 == mass)), (x, x.2.2.2.1))) else (some ((d, mass, false), (x, x.2.2.2.1)))) (fun s1 => (bif s1.1.2.2 then (some (s1.1.1, s1.1.1)) else (bif (s1.2.1.1 == 1) then (ob (xBc F s1.2.2.1 s1.1.1 s1.2.1.2.1 s1.1.2.1 1) (fun r => (ob (xBc F s1.2.2.2 s1.1.1 s1.2.1.2.1 s1.1.2.1 2) (fun r1 => (some (r, r1)))))) else (bif (s1.2.1.1 == 4) then (ob (xBc F s1.2.2.1 s1.1.1 1 1 1) (fun r2 => (ob (xBc F s1.2.2.2 s1.1.1 1 1 2) (fun r3 => (some (r2, r3)))))) else (some s1.2.2))))))
abbrev xLp : Sch := ⟨[(0, .ag [.t C_2]), (1, .c (.k (.lit (.int .i64 (1))))), (2, .c .i), (3, .c .i)], []⟩
abbrev xLo : FSch := ⟨.tu [(false, [.i]), (false, [.i])], []⟩
def xS8 (F : Nat) : Ent := ⟨184, 4, xLp, xLo, fun s => xCv F s.1 s.2.1 s.2.2, []⟩
theorem xPV (F : Nat) : FnSem Tryz.prog 184 4 xLp xLo (fun s => xCv F s.1 s.2.1 s.2.2) :=
 fK (an := (.two .no (.two .no (.two (.one (.two (.join [(.normal, H_3)] .no) .no)) .no)))) (xGd F) (⟨trivial, ⟨trivial, ⟨⟨trivial, trivial⟩, trivial⟩⟩⟩)
def xLn (F : Nat) : List Ent := xS8 F :: xLq F
theorem xGc (F : Nat) : xAf Tryz.prog (xLn F) := ⟨⟨by kernel_rfl, xPV F⟩, xGd F⟩
def xCu (F : Nat) (x : (Int × (Int × T_0))) (d : Int) (mass : Int) : Option ((Int × Int)) := (ob (bif (x.1 == 1) then (some ((d, mass, (x.2.1 == mass)), (x, x.t4))) else (some ((d, mass, false), (x, x.t4)))) (fun s1 => (bif s1.1.2.2 then (some (s1.1.1, s1.1.1)) else (bif (s1.2.1.1 == 1) then (ob (xBc F s1.2.2.1 s1.1.1 s1.2.1.2.1 s1.1.2.1 1) (fun r => (ob (xBc F s1.2.2.2 s1.1.1 s1.2.1.2.1 s1.1.2.1 2) (fun r1 => (some (r, r1)))))) else (bif (s1.2.1.1 == 4) then (ob (xBc F s1.2.2.1 s1.1.1 1 1 1) (fun r2 => (ob (xBc F s1.2.2.2 s1.1.1 1 1 2) (fun r3 => (some (r2, r3)))))) else (some s1.2.2))))))
abbrev xLm : Sch := ⟨[(0, .ag [.t C_2]), (1, .c (.k (.lit (.int .i64 (2))))), (2, .c .i), (3, .c .i)], []⟩
abbrev xLl : FSch := ⟨.tu [(false, [.i]), (false, [.i])], []⟩
def xS7 (F : Nat) : Ent := ⟨184, 4, xLm, xLl, fun s => xCu F s.1 s.2.1 s.2.2, []⟩
theorem xPU (F : Nat) : FnSem Tryz.prog 184 4 xLm xLl (fun s => xCu F s.1 s.2.1 s.2.2) :=
 fK (an := (.two .no (.two .no (.two (.one (.two (.join [(.normal, H_3)] .no) .no)) .no)))) (xGc F) (⟨trivial, ⟨trivial, ⟨⟨trivial, trivial⟩, trivial⟩⟩⟩)
def xLk (F : Nat) : List Ent := xS7 F :: xLn F
theorem xGb (F : Nat) : xAf Tryz.prog (xLk F) := ⟨⟨by kernel_rfl, xPU F⟩, xGc F⟩
def xBA (F : Nat) (i : Int) (least : Int) (most : Int) (t3 : (Bool × (Bool × Bool))) (t4 : (List (Int × (Int × T_0)))) : Option ((Int × (Bool × (Bool × Bool)))) := (ob (bif (inB i (t4.length - 0)) then (bif ((nth t4 D_2 i.toNat).1 == 1) then (some ((least, most, t3.2.1), (t3, t4))) else (bif ((nth t4 D_2 i.toNat).1 == 4) then (some ((least, most, t3.2.2), (t3, t4))) else (some ((least, most, t3.1), (t3, t4))))) else none) (fun s1 => (bif s1.1.2.2 then (some (s1.1.2.1, s1.2.1)) else (some (s1.1.1, s1.2.1)))))
abbrev pick_I : Sch := ⟨[(0, .c .i), (1, .c .i), (2, .c .i), (3, .c (.k (.pt 0 0 0 0))), (4, .c (.k (.pt 1 0 0 0)))], [xEO, .blk 69 [.k (.sl 2 8)], .ro C_2]⟩
abbrev pick_O : FSch := ⟨.one (.c .i), [xEO, .blk 69 [.k (.sl 2 8)], .dead]⟩
def pick_E (F : Nat) : Ent := ⟨185, 5, pick_I, pick_O, fun s => xBA F s.1.1 s.1.2.1 s.1.2.2 s.2.1 s.2.2, []⟩
theorem pick_ok (F : Nat) : FnSem Tryz.prog 185 5 pick_I pick_O (fun s => xBA F s.1.1 s.1.2.1 s.1.2.2 s.2.1 s.2.2) :=
 fK (an := (.two .no (.two .no (.two (.join [(.normal, ⟨[(1, .c .i), (2, .c .i), (9, .c (.t .bool))], [xEO, .blk 69 [.k (.sl 2 8)], .ro C_2]⟩)] .no) .no)))) (xGb F) (⟨trivial, ⟨trivial, ⟨trivial, trivial⟩⟩⟩)
def xQQ (F : Nat) : List Ent := pick_E F :: xLk F
theorem xIM (F : Nat) : xAf Tryz.prog (xQQ F) := ⟨⟨by kernel_rfl, pick_ok F⟩, xGb F⟩
end
def xBY : Nat -> Option Nat := fun n => bif Nat.beq n 10 then some 6 else none
end Go.Proofs.YtnomnijhlbalaaaGreatDoor
