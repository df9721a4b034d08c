/- A part of the proof of the theorem of the last file. No condition. By an AI agent. -/
import Derived.Test.YtnomnijhlbalaaaGreatDoorWYSW
import Derived.Lib.Split
import Derived.Lib.AtoiAll
import Derived.Lib.SlTrimSet
import Derived.Lib.CutLaws
set_option maxRecDepth 100000
set_option maxHeartbeats 4000000
namespace Go.Proofs.YtnomnijhlbalaaaGreatDoor
open Go.RowKit Go.Proofs
noncomputable section
abbrev xEA (z : Int) : Sch := ⟨[(2, .c (.k (.pt 1 0 0 0))), (4, .c (.k (.pt 2 0 0 0))), (5, .c (.k (.pt 3 0 0 0))), (6, .c (.k (.pt 4 0 0 0))), (23, .c (.k (.hv 5)))], [.ro C_3, .blk 175 [.i, .i, .i, .i, .i, .i, .i, .k (.sl 0 8), .k (.lit (.int .i64 (z)))], .blk 3 [.z], .blk 3 [.z], xLJ, .clo 183 [] [.k (.pt 6 0 0 0), .k (.pt 7 0 0 0), .k (.pt 8 0 0 0)], xLJ, .blk 175 [.i, .i, .i, .i, .i, .i, .i, .k (.sl 0 8), .k (.lit (.int .i64 (z)))], .blk 210 [.k (.hv 9)], .clo 185 [] [.k (.pt 10 0 0 0), .k (.pt 11 0 0 0)], xXX, xXW]⟩
abbrev xHo (z : Int) : Sch := ⟨[(0, .c (.k (.hv 12))), (2, .c (.k (.pt 7 0 0 0))), (3, .c (.k (.pt 8 0 0 0))), (5, .c .i), (6, .c .i), (17, .c (.k (.sl 0 8))), (18, .c .i), (19, .c .i)], [.ro C_3, .blk 175 [.i, .i, .i, .i, .i, .i, .i, .k (.sl 0 8), .k (.lit (.int .i64 (z)))], xLJ, xLJ, xLJ, .clo 183 [] [.k (.pt 6 0 0 0), .k (.pt 7 0 0 0), .k (.pt 8 0 0 0)], xLJ, .blk 175 [.i, .i, .i, .i, .i, .i, .i, .k (.sl 0 8), .k (.lit (.int .i64 (z)))], .blk 210 [.k (.hv 9)], .clo 185 [] [.k (.pt 10 0 0 0), .k (.pt 11 0 0 0)], xXX, xXW, .dead]⟩
abbrev xHp (z : Int) : xBY := [((.exit 0), ⟨[], [.ro C_3, .blk 175 [.i, .i, .i, .i, .i, .i, .i, .k (.sl 0 8), .k (.lit (.int .i64 (z)))], xLJ, xLJ, xLJ, .clo 183 [] [.k (.pt 6 0 0 0), .k (.pt 7 0 0 0), .k (.pt 8 0 0 0)], xLJ, .blk 175 [.i, .i, .i, .i, .i, .i, .i, .k (.sl 0 8), .k (.lit (.int .i64 (z)))], .blk 210 [.k (.hv 9)], .clo 185 [] [.k (.pt 10 0 0 0), .k (.pt 11 0 0 0)], xXX, xXW, .dead]⟩)]
def xO7 (F : Nat) (z : Int) (xc : (xEA z).ty) : Nat -> (xHo z).ty -> Option (xAB (xHp z)) := lpM Tryz.prog (xFp plans 183) (xCr Tryz.prog 70 plans (xEZ F) 20) 13 (xAv Tryz.prog 183 4) (xAe same (xEA z).roots ((xEA z).b xc)).length (fun γ args h k => rnd Tryz.prog (xCr Tryz.prog 70 plans (xEZ F) 20) (xAv Tryz.prog 123 2) (rfPs (xAt (xAi Tryz.prog 123) [1, 1, 0, 1, 0])) (rfAs (xAt (xAi Tryz.prog 123) [1, 1, 0, 1, 0])) (rfBd (xAt (xAi Tryz.prog 123) [1, 1, 0, 1, 0])) (xAM same (xEA z).slots ((xEA z).a xc)) γ args h k) xFr (xAt (xAi Tryz.prog 183) [1, 1, 0, 0]) (xHo z) (xHp z)
abbrev xKo (F : Nat) (z : Int) : RgA := ⟨xEA z, xHo z, xHp z, fun xc => xO7 F z xc F, (.two .no (.two .no (.one .lp))), 183, 4, xFr⟩
theorem xSh (F : Nat) (z : Int) : LfOk Tryz.prog (xCr Tryz.prog 70 plans (xEZ F) 20) (xAv Tryz.prog 123 2) (xKo F z) (xAt (xAi Tryz.prog 123) [1, 1, 0, 1, 0]) := fun xc n l S F2 B O0 h1 h2 hY =>
 xKh (c := xAi Tryz.prog 183) (p := []) (⟨trivial, ⟨trivial, (xKZ (m := 13) (n := n) (pl := xFp plans 183) (ysp := xFr) (LS := xHo z) (oo := xHp z) (M := xO7 F z xc) (c := xAt (xAi Tryz.prog 183) [1, 1, 0, 0]) (xA7 xAn 70 xBn (xCl F) 20) xAn hY h2 (by rw [h1]; exact Nat.le_of_ble_eq_true (by kernel_rfl)) (by kernel_rfl) (fun _ => rfl) (fun i s => rfl) F)⟩⟩)
abbrev xHq (z : Int) : Sch := ⟨[(0, .ag [.t (.pair .i C_0), .k (.sl 0 8), .k (.lit (.int .i64 (z)))]), (1, .ag [.t (.pair .bool (.pair .bool .bool))])], [.ro C_3]⟩
abbrev totalZ_O : FSch := ⟨.tu [(false, [.i]), (false, [.i])], [.dead]⟩
def xO8 (F : Nat) (z : Int) (s : (xHq z).ty) : Option totalZ_O.ty := xXs Tryz.prog plans 70 (xCr Tryz.prog 70 plans (xEZ F) 20) 2 (.two (.an .no) (.two (.an .no) (.two (.two (.an .no) (.one (.rf (xKo F z)))) (.an .no)))) 123 (xHq z) totalZ_O s
def xKp (F : Nat) (z : Int) : Ent := ⟨123, 2, xHq z, totalZ_O, fun s => xO8 F z s, []⟩
theorem xHQ (F : Nat) (z : Int) : FnSem Tryz.prog 123 2 (xHq z) totalZ_O (fun s => xO8 F z s) :=
 fnW_ok (call := (xCr Tryz.prog 70 plans (xEZ F) 20)) (A := plans) (Fu := 70) (an := (.two (.an .no) (.two (.an .no) (.two (.two (.an .no) (.one (.rf (xKo F z)))) (.an .no))))) (xA7 xAn 70 xBn (xCl F) 20) xAn xBn (by kernel_rfl) (xG6 (c := xAi Tryz.prog 123) (p := []) (⟨trivial, ⟨trivial, ⟨⟨trivial, (xSh F z)⟩, trivial⟩⟩⟩)) (fun s => rfl)
def xCc (F : Nat) : List Ent := xKp F 2 :: xKp F 1 :: xKp F 0 :: xEZ F
theorem xDH (F : Nat) : xAj Tryz.prog (xCc F) := ⟨⟨by kernel_rfl, Eq.mp (by kernel_rfl) (xHQ F 2)⟩, ⟨by kernel_rfl, Eq.mp (by kernel_rfl) (xHQ F 1)⟩, ⟨by kernel_rfl, Eq.mp (by kernel_rfl) (xHQ F 0)⟩, xCl F⟩
end
noncomputable section
abbrev xGz (z : Int) : Sch := ⟨[(2, .c (.k (.pt 3 0 0 0))), (3, .c (.k (.pt 4 0 0 0))), (4, .c (.k (.pt 5 0 0 0))), (5, .c (.k (.pt 6 0 0 0))), (6, .c (.k (.pt 7 0 0 0))), (38, .c (.k (.hv 8)))], [.ro C_3, K_10, .rows 85 (.pair .i C_0), .blk 175 [.i, .i, .i, .i, .i, .i, .i, .k (.sl 0 8), .k (.lit (.int .i64 (z)))], K_33, .blk 3 [.z], .blk 89 [.k (.lit (.int .i64 (z)))], .blk 203 [.k (.hv 9)], .clo 183 [] [.k (.pt 10 0 0 0), .k (.pt 11 0 0 0), .k (.pt 12 0 0 0)], .mp (.i .i64) true (.pair .i (.pair .i .i)), xLJ, .blk 175 [.i, .i, .i, .i, .i, .i, .i, .k (.sl 0 8), .k (.lit (.int .i64 (z)))], .blk 210 [.k (.hv 13)], .clo 185 [] [.k (.pt 14 0 0 0), .k (.pt 15 0 0 0)], xXX, xXW]⟩
abbrev xLk (z : Int) : Sch := ⟨[(0, .c (.k (.hv 16))), (2, .c (.k (.pt 11 0 0 0))), (3, .c (.k (.pt 12 0 0 0))), (5, .c .i), (6, .c .i), (17, .c (.k (.sl 0 8))), (18, .c .i), (19, .c .i)], [.ro C_3, K_10, .rows 85 (.pair .i C_0), .blk 175 [.i, .i, .i, .i, .i, .i, .i, .k (.sl 0 8), .k (.lit (.int .i64 (z)))], K_33, .blk 3 [.z], .blk 89 [.k (.lit (.int .i64 (z)))], .blk 203 [.k (.hv 9)], .clo 183 [] [.k (.pt 10 0 0 0), .k (.pt 11 0 0 0), .k (.pt 12 0 0 0)], .mp (.i .i64) true (.pair .i (.pair .i .i)), xLJ, .blk 175 [.i, .i, .i, .i, .i, .i, .i, .k (.sl 0 8), .k (.lit (.int .i64 (z)))], .blk 210 [.k (.hv 13)], .clo 185 [] [.k (.pt 14 0 0 0), .k (.pt 15 0 0 0)], xXX, xXW, .dead]⟩
abbrev xLm (z : Int) : xBY := [((.exit 0), ⟨[], [.ro C_3, K_10, .rows 85 (.pair .i C_0), .blk 175 [.i, .i, .i, .i, .i, .i, .i, .k (.sl 0 8), .k (.lit (.int .i64 (z)))], K_33, .blk 3 [.z], .blk 89 [.k (.lit (.int .i64 (z)))], .blk 203 [.k (.hv 9)], .clo 183 [] [.k (.pt 10 0 0 0), .k (.pt 11 0 0 0), .k (.pt 12 0 0 0)], .mp (.i .i64) true (.pair .i (.pair .i .i)), xLJ, .blk 175 [.i, .i, .i, .i, .i, .i, .i, .k (.sl 0 8), .k (.lit (.int .i64 (z)))], .blk 210 [.k (.hv 13)], .clo 185 [] [.k (.pt 14 0 0 0), .k (.pt 15 0 0 0)], xXX, xXW, .dead]⟩)]
def xUK (F : Nat) (z : Int) (xc : (xGz z).ty) : Nat -> (xLk z).ty -> Option (xAB (xLm z)) := lpM Tryz.prog (xFp plans 183) (xCr Tryz.prog 70 plans (xCc F) 20) 17 (xAv Tryz.prog 183 4) (xAe same (xGz z).roots ((xGz z).b xc)).length (fun γ args h k => rnd Tryz.prog (xCr Tryz.prog 70 plans (xCc F) 20) (xAv Tryz.prog 54 2) (rfPs (xAt (xAi Tryz.prog 54) [1, 1, 1, 1, 0, 1, 0])) (rfAs (xAt (xAi Tryz.prog 54) [1, 1, 1, 1, 0, 1, 0])) (rfBd (xAt (xAi Tryz.prog 54) [1, 1, 1, 1, 0, 1, 0])) (xAM same (xGz z).slots ((xGz z).a xc)) γ args h k) xFr (xAt (xAi Tryz.prog 183) [1, 1, 0, 0]) (xLk z) (xLm z)
abbrev xOB (F : Nat) (z : Int) : RgA := ⟨xGz z, xLk z, xLm z, fun xc => xUK F z xc F, (.two .no (.two .no (.one .lp))), 183, 4, xFr⟩
theorem xXx (F : Nat) (z : Int) : LfOk Tryz.prog (xCr Tryz.prog 70 plans (xCc F) 20) (xAv Tryz.prog 54 2) (xOB F z) (xAt (xAi Tryz.prog 54) [1, 1, 1, 1, 0, 1, 0]) := fun xc n l S F2 B O0 h1 h2 hY =>
 xKh (c := xAi Tryz.prog 183) (p := []) (⟨trivial, ⟨trivial, (xKZ (m := 17) (n := n) (pl := xFp plans 183) (ysp := xFr) (LS := xLk z) (oo := xLm z) (M := xUK F z xc) (c := xAt (xAi Tryz.prog 183) [1, 1, 0, 0]) (xA7 xAn 70 xBn (xDH F) 20) xAn hY h2 (by rw [h1]; exact Nat.le_of_ble_eq_true (by kernel_rfl)) (by kernel_rfl) (fun _ => rfl) (fun i s => rfl) F)⟩⟩)
abbrev xGy (z : Int) : Sch := ⟨[(2, .c (.k (.pt 3 0 0 0))), (3, .c (.k (.pt 4 0 0 0))), (4, .c (.k (.pt 5 0 0 0))), (5, .c (.k (.pt 6 0 0 0))), (6, .c (.k (.pt 7 0 0 0))), (56, .c (.k (.hv 8)))], [.ro C_3, K_10, .rows 85 (.pair .i C_0), .blk 175 [.i, .i, .i, .i, .i, .i, .i, .k (.sl 0 8), .k (.lit (.int .i64 (z)))], K_33, .blk 3 [.z], .blk 89 [.k (.lit (.int .i64 (z)))], .blk 203 [.k (.hv 9)], .clo 183 [] [.k (.pt 10 0 0 0), .k (.pt 11 0 0 0), .k (.pt 12 0 0 0)], .mp (.i .i64) true (.pair .i (.pair .i .i)), xLJ, .blk 175 [.i, .i, .i, .i, .i, .i, .i, .k (.sl 0 8), .k (.lit (.int .i64 (z)))], .blk 210 [.k (.hv 13)], .clo 185 [] [.k (.pt 14 0 0 0), .k (.pt 15 0 0 0)], xXX, xXW]⟩
abbrev xLj (z : Int) : Sch := ⟨[(0, .c (.k (.hv 16))), (2, .c (.k (.pt 11 0 0 0))), (3, .c (.k (.pt 12 0 0 0))), (5, .c .i), (6, .c .i), (17, .c (.k (.sl 0 8))), (18, .c .i), (19, .c .i)], [.ro C_3, K_10, .rows 85 (.pair .i C_0), .blk 175 [.i, .i, .i, .i, .i, .i, .i, .k (.sl 0 8), .k (.lit (.int .i64 (z)))], K_33, xLJ, .blk 89 [.k (.lit (.int .i64 (z)))], .blk 203 [.k (.hv 9)], .clo 183 [] [.k (.pt 10 0 0 0), .k (.pt 11 0 0 0), .k (.pt 12 0 0 0)], .mp (.i .i64) true (.pair .i (.pair .i .i)), xLJ, .blk 175 [.i, .i, .i, .i, .i, .i, .i, .k (.sl 0 8), .k (.lit (.int .i64 (z)))], .blk 210 [.k (.hv 13)], .clo 185 [] [.k (.pt 14 0 0 0), .k (.pt 15 0 0 0)], xXX, xXW, .dead]⟩
abbrev xLl (z : Int) : xBY := [((.exit 0), ⟨[], [.ro C_3, K_10, .rows 85 (.pair .i C_0), .blk 175 [.i, .i, .i, .i, .i, .i, .i, .k (.sl 0 8), .k (.lit (.int .i64 (z)))], K_33, xLJ, .blk 89 [.k (.lit (.int .i64 (z)))], .blk 203 [.k (.hv 9)], .clo 183 [] [.k (.pt 10 0 0 0), .k (.pt 11 0 0 0), .k (.pt 12 0 0 0)], .mp (.i .i64) true (.pair .i (.pair .i .i)), xLJ, .blk 175 [.i, .i, .i, .i, .i, .i, .i, .k (.sl 0 8), .k (.lit (.int .i64 (z)))], .blk 210 [.k (.hv 13)], .clo 185 [] [.k (.pt 14 0 0 0), .k (.pt 15 0 0 0)], xXX, xXW, .dead]⟩)]
def xUJ (F : Nat) (z : Int) (xc : (xGy z).ty) : Nat -> (xLj z).ty -> Option (xAB (xLl z)) := lpM Tryz.prog (xFp plans 183) (xCr Tryz.prog 70 plans (xCc F) 20) 17 (xAv Tryz.prog 183 4) (xAe same (xGy z).roots ((xGy z).b xc)).length (fun γ args h k => rnd Tryz.prog (xCr Tryz.prog 70 plans (xCc F) 20) (xAv Tryz.prog 54 2) (rfPs (xAt (xAi Tryz.prog 54) [1, 1, 1, 1, 1, 0, 1, 0])) (rfAs (xAt (xAi Tryz.prog 54) [1, 1, 1, 1, 1, 0, 1, 0])) (rfBd (xAt (xAi Tryz.prog 54) [1, 1, 1, 1, 1, 0, 1, 0])) (xAM same (xGy z).slots ((xGy z).a xc)) γ args h k) xFr (xAt (xAi Tryz.prog 183) [1, 1, 0, 0]) (xLj z) (xLl z)
abbrev xOA (F : Nat) (z : Int) : RgA := ⟨xGy z, xLj z, xLl z, fun xc => xUJ F z xc F, (.two .no (.two .no (.one .lp))), 183, 4, xFr⟩
theorem xXw (F : Nat) (z : Int) : LfOk Tryz.prog (xCr Tryz.prog 70 plans (xCc F) 20) (xAv Tryz.prog 54 2) (xOA F z) (xAt (xAi Tryz.prog 54) [1, 1, 1, 1, 1, 0, 1, 0]) := fun xc n l S F2 B O0 h1 h2 hY =>
 xKh (c := xAi Tryz.prog 183) (p := []) (⟨trivial, ⟨trivial, (xKZ (m := 17) (n := n) (pl := xFp plans 183) (ysp := xFr) (LS := xLj z) (oo := xLl z) (M := xUJ F z xc) (c := xAt (xAi Tryz.prog 183) [1, 1, 0, 0]) (xA7 xAn 70 xBn (xDH F) 20) xAn hY h2 (by rw [h1]; exact Nat.le_of_ble_eq_true (by kernel_rfl)) (by kernel_rfl) (fun _ => rfl) (fun i s => rfl) F)⟩⟩)
abbrev xLo (z : Int) : Sch := ⟨[(0, .ag [.t (.pair .i C_0), .k (.sl 0 8), .k (.lit (.int .i64 (z)))]), (1, .c (.k (.pt 1 0 0 0)))], [.ro C_3, .blk 82 [.k (.sl 2 7), .t (.pair .i C_0), .t C_0, .t C_0, .t C_0], .rows 85 (.pair .i C_0)]⟩
abbrev fillZ_O : FSch := ⟨.tu [], [.dead, K_10, .rows 85 (.pair .i C_0)]⟩
def xUL (F : Nat) (z : Int) (s : (xLo z).ty) : Option fillZ_O.ty := xXs Tryz.prog plans 70 (xCr Tryz.prog 70 plans (xCc F) 20) 2 (.two (.an .no) (.two (.an .no) (.two (.an .no) (.two (.an .no) (.two (.two (.an .no) (.one (.rf (xOB F z)))) (.two (.two (.an .no) (.one (.rf (xOA F z)))) (.an .no))))))) 54 (xLo z) fillZ_O s
def xOC (F : Nat) (z : Int) : Ent := ⟨54, 2, xLo z, fillZ_O, fun s => xUL F z s, []⟩
theorem xLn (F : Nat) (z : Int) : FnSem Tryz.prog 54 2 (xLo z) fillZ_O (fun s => xUL F z s) :=
 fnW_ok (call := (xCr Tryz.prog 70 plans (xCc F) 20)) (A := plans) (Fu := 70) (an := (.two (.an .no) (.two (.an .no) (.two (.an .no) (.two (.an .no) (.two (.two (.an .no) (.one (.rf (xOB F z)))) (.two (.two (.an .no) (.one (.rf (xOA F z)))) (.an .no)))))))) (xA7 xAn 70 xBn (xDH F) 20) xAn xBn (by kernel_rfl) (xG6 (c := xAi Tryz.prog 54) (p := []) (⟨trivial, ⟨trivial, ⟨trivial, ⟨trivial, ⟨⟨trivial, (xXx F z)⟩, ⟨⟨trivial, (xXw F z)⟩, trivial⟩⟩⟩⟩⟩⟩)) (fun s => rfl)
def xUM (F : Nat) : List Ent := xOC F 2 :: xOC F 1 :: xOC F 0 :: xCc F
theorem xRJ (F : Nat) : xAj Tryz.prog (xUM F) := ⟨⟨by kernel_rfl, Eq.mp (by kernel_rfl) (xLn F 2)⟩, ⟨by kernel_rfl, Eq.mp (by kernel_rfl) (xLn F 1)⟩, ⟨by kernel_rfl, Eq.mp (by kernel_rfl) (xLn F 0)⟩, xDH F⟩
end
noncomputable section
def xXF (F : Nat) : List Ent := cfCR_E F :: cfC_E F :: ixC_E F :: xUZ F :: xTx F :: xQt F :: xPR F :: xSt F :: xN5 F :: xOK F :: xK9 F :: xUM F
theorem xQD (F : Nat) : xAj Tryz.prog (xXF F) :=
 ⟨⟨by kernel_rfl, xQE F⟩, ⟨by kernel_rfl, xQE F⟩, ⟨by kernel_rfl, ixC_ok F⟩, ⟨by kernel_rfl, xQB F⟩, ⟨by kernel_rfl, xPN F⟩, ⟨by kernel_rfl, xNd F⟩, ⟨by kernel_rfl, xMC F⟩, ⟨by kernel_rfl, xNR F⟩, ⟨by kernel_rfl, xKD F⟩, ⟨by kernel_rfl, xLw F⟩, ⟨by kernel_rfl, xIC F⟩, xRJ F⟩
end
noncomputable section
abbrev predict_I : Sch := ⟨[(0, .ag [.t (.pair .i C_0)]), (1, .c (.k (.sl 0 8)))], [.ro C_3]⟩
abbrev predict_O : FSch := ⟨.tu [(true, [.k (.sl 1 7), .i, .i, .i, .i, .i, .i, .i, .i, .i, .i, .i, .i, .i, .i, .i, .i, .i, .i, .i, .i, .i, .i, .i, .i, .i]), (false, [.i])], [.dead, .rows 85 (.pair .i C_0)]⟩
def xJF (F : Nat) (s : predict_I.ty) : Option predict_O.ty := fnEv Tryz.prog 70 (xFp plans 25) (xCr Tryz.prog 70 plans (xXF F) 20) 1000 2 .no 25 predict_I predict_O s
theorem xOd (F : Nat) : FnSem Tryz.prog 25 2 predict_I predict_O (fun s => xJF F s) :=
 xXr (call := (xCr Tryz.prog 70 plans (xXF F) 20)) (Fu := 70) (pl := xFp plans 25) (d := 1000) (an := .no) (xA7 xAn 70 xBn (xQD F) 20) xAn (by kernel_rfl) (xD8 (c := xAi Tryz.prog 25) (p := []) (trivial)) (fun s => rfl)
abbrev m012 : Int × T_0 := (300, ((6, 9), ((0, 0), (0, 0))))
abbrev l012 : List (Int × (Int × T_0)) := [(1, (100, ((3500, 3500), ((10000, 10000), (700, 700)))))]
abbrev r012 : (((Int × (Int × (Int × (Int × (Int × (Int × (Int × (Int × (Int × (Int × (Int × (Int × (Int × (Int × (Int × (Int × (Int × (Int × T_1)))))))))))))))))) × Int) × (List (Int × T_0))) := (((200, 5, 8, 0, 0, 0, 0, 0, 0, 0, 0, 0, 0, 0, 2, 0, 0, 0, 0, 0, 0, 0, 0, 0, 0), 0), [(100, ((0, 2), ((0, 0), (0, 0))))])
theorem xOc : xJF 1000 (m012, l012) = some r012 := by kernel_rfl
def xIh (_ : Nat) (m : Int × T_0) (l : List (Int × (Int × T_0))) : Option ((((Int × (Int × (Int × (Int × (Int × (Int × (Int × (Int × (Int × (Int × (Int × (Int × (Int × (Int × (Int × (Int × (Int × (Int × T_1)))))))))))))))))) × Int) × (List (Int × T_0)))) := bif decide (m = m012) && decide (l = l012) then some r012 else none
def xMA (F : Nat) : Ent := ⟨25, 2, predict_I, predict_O, fun s => xIh F s.1 s.2, []⟩
theorem xJE (F : Nat) : FnSem Tryz.prog 25 2 predict_I predict_O (fun s => xIh F s.1 s.2) := by
 intro s t h;obtain ⟨m, l⟩ := s;change Int × T_0 at m;change List (Int × (Int × T_0)) at l;have h : (bif decide (m = m012) && decide (l = l012) then some r012 else none) = some t := h
 cases hc : decide (m = m012) && decide (l = l012) with
 | false => rw [hc] at h; cases h
 | true =>
  rw [hc] at h;cases h;simp only [Bool.and_eq_true, decide_eq_true_eq] at hc;obtain ⟨rfl, rfl⟩ := hc;exact xOd 1000 (m012, l012) r012 xOc
def xMz (F : Nat) : List Ent := xMA F :: xXF F
theorem xGU (F : Nat) : xAj Tryz.prog (xMz F) := ⟨⟨by kernel_rfl, xJE F⟩, xQD F⟩
def xNr (F : Nat) (s1 : (List (Int × (Int × T_0)))) : Option ((List (Int × (Int × T_0)))) := (bif (Nat.ble 1 (s1.length - 0)) then (bif (xAR 0 s1.length) then (some ([] ++ s1)) else none) else none)
abbrev cloneSt_I : Sch := ⟨[(0, .c (.k (.sl 0 8)))], [.ro C_3]⟩
abbrev cloneSt_O : FSch := ⟨.one (.c (.k (.sl 1 8))), [.dead, .rows 77 C_3]⟩
def xU8 (F : Nat) : Ent := ⟨212, 1, cloneSt_I, cloneSt_O, fun s => xNr F s, []⟩
theorem xKd (F : Nat) : FnSem Tryz.prog 212 1 cloneSt_I cloneSt_O (fun s => xNr F s) :=
 fK (an := .no) (xGU F) (trivial)
def xNq (F : Nat) : List Ent := xU8 F :: xMz F
theorem xNp (F : Nat) : xAj Tryz.prog (xNq F) := ⟨⟨by kernel_rfl, xKd F⟩, xGU F⟩
end
noncomputable section
theorem xNw : ∃ f : cloneSt_I.ty -> Option cloneSt_I.ty, ∀ l, f l = bif xAR 0 (l : List _).length then some l else none := ⟨fun l => bif xAR 0 (l : List _).length then some l else none, fun _ => rfl⟩
def xNx : cloneSt_I.ty -> Option cloneSt_I.ty := Classical.choose xNw
theorem xVa : ∀ l, xNx l = bif xAR 0 (l : List _).length then some l else none := Classical.choose_spec xNw
def xIW (_ : Nat) (l : List (Int × (Int × T_0))) : Option (List (Int × (Int × T_0))) := xNx l
theorem xFm (F : Nat) (l : List (Int × (Int × T_0))) : xIW F l = bif xAR 0 l.length then some l else none := xVa l
def xNv (F : Nat) : Ent := ⟨212, 1, cloneSt_I, cloneSt_O, fun s => xIW F s, []⟩
theorem xGH (F : Nat) : FnSem Tryz.prog 212 1 cloneSt_I cloneSt_O (fun s => xIW F s) := by
 intro s t hst S F' W0 Z w vs hlen hden hh hcl
 cases s with
 | cons x l =>
  refine xKd F (x :: l) t ?_ S F' W0 Z w vs hlen hden hh hcl;have hst := (xFm F (x :: l)).symm.trans hst;exact hst
 | nil =>
  have ht : t = [] := by
   have hst := (xFm F []).symm.trans hst;have : some ([] : cloneSt_I.ty) = some t := hst;exact (Option.some.inj this).symm
  subst ht;obtain ⟨v, hv, g⟩ := hden 0 (.c (.sl 0 8 0 none none)) rfl;have hvs : vs = [v] := by
   match vs, hlen with
   | [a], _ => simp at g; rw [g]
  subst hvs;obtain ⟨i, a', c', nn, h1, h2, h3, h4, h5, ⟨m, h6, h7⟩, _, _, _, h10, _⟩ := hv;obtain ⟨g0, us, g1, g2⟩ := hh.ok 0 _ i rfl h1;rw [g0] at h6; cases h6;have hn : nn = 0 := by rw [h7]; rfl
  subst hn;have fin : ∀ a', fb _ 212 [.c (.sc (.slice a' 0 c'))] (xAe same cloneSt_I.roots (cloneSt_I.b [])) (fun _ p h' => cloneSt_O.dec 1 p h') = some [] -> Calls Tryz.prog 212 [Value.slice a' 0 c'].toArray w (fun e w' => ∃ Z' u, e = .returned u /\ PreM cloneSt_I.roots.length Z Z' /\ DenP Z' (cloneSt_O.res.enc same (cloneSt_O.a [])) u /\ HOk S F' W0 Z' (xAe same cloneSt_O.roots (cloneSt_O.b [])) w' /\ cloneSt_I.roots.length <= cloneSt_O.roots.length) := by
   intro a' hr;refine (progFb _ 212 _ _ _ _ hr S F' W0 Z w [.slice a' 0 c'] ⟨_, _, rfl, ⟨rfl, rfl⟩, rfl⟩ hh hcl).mono fun e w' he => ?_;obtain ⟨O', h', p, u, B, t, rfl, q1, q2, q3, q4, _⟩ := he;obtain ⟨m1, Z2, m2, m3, m4⟩ := FSch.dec_ok q4 q2 q3;refine ⟨Z2, u, rfl, fun j hj i hi => m2 j hj i (q1 j i hi), m3, m4, m1⟩
  rw [h2]
  cases a' with
  | none => exact fin none (by kernel_rfl)
  | some ad => exact fin (some ad) (by kernel_rfl)
def xNs (_ : Nat) (l : List (Int × (Int × T_0))) : Option (List (Int × (Int × T_0))) := bif xAR 0 l.length then some l else none
def xU9 (F : Nat) : Ent := ⟨212, 1, cloneSt_I, cloneSt_O, fun s => xNs F s, []⟩
theorem xRO (F : Nat) : FnSem Tryz.prog 212 1 cloneSt_I cloneSt_O (fun s => xNs F s) := fun s t h => xGH F s t ((xFm F s).trans h)
def xNu (F : Nat) : List Ent := xNv F :: xNq F
theorem xNt (F : Nat) : xAj Tryz.prog (xNu F) := ⟨⟨by kernel_rfl, xGH F⟩, xNp F⟩
end
noncomputable section
abbrev stTC : TC := .pair (.int .u8) (.pair .i C_0)
def xRN (F : Nat) : Ent := { xNv F with bx := [some stTC] }
def xRn (F : Nat) : Ent := { xMA F with bx := [none, some stTC] }
def ing_T (F : Nat) : List Ent := xRN F :: xRn F :: xNu F
theorem xQb (F : Nat) : xAj Tryz.prog (ing_T F) := ⟨⟨by kernel_rfl, xGH F⟩, ⟨by kernel_rfl, xJE F⟩, xNt F⟩
end
noncomputable section
end
section
open Go.Shelf
noncomputable section
def xOw (l : List ByteArray) (c : ByteArray) : List UInt8 := Lib.join (l.map (fun x => x.data.toList)) c.data.toList
def xEs (_ : Nat) (c : ByteArray) (l : List ByteArray) : Option ByteArray := bif decide (l.length <= 1000000) && decide ((xOw l c).length <= 140737488355328) then some ⟨(xOw l c).toArray⟩ else none
abbrev join_I : Sch := ⟨[(0, .c (.k (.sl 0 1))), (1, .c (.t .str))], [.ro .str]⟩
abbrev join_O : FSch := ⟨.one (.c (.t .str)), [.dead]⟩
def xMX (F : Nat) : Ent := ⟨20, 2, join_I, join_O, fun s => xEs F s.1 s.2, []⟩
theorem xSA {O : List Info} : ∀ {l : List ByteArray} {vs : List Value}, DenL O (flat .str l) vs -> vs = l.map Value.string
 | [], _, h => h
 | x :: l, vs, ⟨v, r, e, h1, h2⟩ => by
  have h3 : v = .string x := h1.1;rw [e, h3, xSA (l := l) h2]; rfl
theorem xIy (F : Nat) : FnSem Tryz.prog 20 2 join_I join_O (fun s => xEs F s.1 s.2) := by
 intro s t hst S F' W0 Z w vs hlen hden hh hcl;obtain ⟨y, xs⟩ := s;change ByteArray at y;change List ByteArray at xs;obtain ⟨v0, h0, g0⟩ := hden 0 (.c (.sl 0 1 0 none none)) rfl;obtain ⟨v1, h1, g1⟩ := hden 1 (.c (.sc (.string y))) rfl;have e1 : v1 = .string y := h1.1;subst e1;obtain ⟨i, a', c', nn, q1, q2, q3, q4, q5, ⟨m, q6, q6'⟩, ⟨m2, q7, q7'⟩, q8, q9, q10, q11⟩ := h0;subst q2;have hvs : vs = [.slice a' nn c', .string y] := by
  match vs, hlen with
  | [a, b], _ => simp at g0 g1; rw [g0, g1]
 subst hvs;simp only [xEs] at hst
 cases hc : (decide (xs.length <= 1000000) && decide ((xOw xs y).length <= 140737488355328)) with
 | false => rw [hc] at hst; cases hst
 | true =>
  rw [hc] at hst;cases hst;simp only [Bool.and_eq_true, decide_eq_true_eq] at hc;have hroot : (xAe same join_I.roots (join_I.b (y, xs)))[0]? = some (.ro .str xs) := rfl;obtain ⟨r1, us, r2, r3⟩ := hh.ok 0 _ i hroot q1;have hus := xSA r2;subst hus;have hnn : nn = xs.length := by rw [r1] at q6; cases q6; omega
  have ha : a' = i.a := q10 rfl;have fin : ∀ w' : World, Ext w w' -> ∃ Z' u, Ending.returned (.string ⟨(xOw xs y).toArray⟩) = .returned u /\ PreM join_I.roots.length Z Z' /\ DenP Z' (join_O.res.enc same (join_O.a ⟨(xOw xs y).toArray⟩)) u /\ HOk S F' W0 Z' (xAe same join_O.roots (join_O.b ⟨(xOw xs y).toArray⟩)) w' /\ join_I.roots.length <= join_O.roots.length := fun w' hE =>
   ⟨Z, _, rfl, PreM.refl _ _, ⟨rfl, rfl⟩, (hh.ext' hE).masked [], Nat.le_refl _⟩
  subst hnn
  cases xs with
  | nil =>
   refine (Any.strings_Join_none Tryz.lays156 Tryz.Builder_Extra_156 a' c' y w).mono ?_
   rintro e w' ⟨rfl, rfl⟩
   exact fin _ (Ex.refl _ _)
  | cons x l =>
   obtain ⟨b, o, r4, r5, r6⟩ := r3 (by simp);rw [ha, r4];refine (Any.strings_Join Tryz.lays156 Tryz.Builder_Extra_156 b o c' (x :: l) y w (fun j z hz => r6 j _ (by rw [List.getElem?_map, hz]; rfl)) r5 (by omega) q3 hc.2).mono ?_
   rintro e w' ⟨rfl, hb⟩
   exact fin w' (Ex.of_below hb)
end
end
noncomputable section
def xST (F : Nat) : List Ent := xQ6 F :: xMX F :: ing_T F
theorem xMe (F : Nat) : xAj Tryz.prog (xST F) := ⟨⟨by kernel_rfl, xNW F⟩, ⟨by kernel_rfl, xIy F⟩, xQb F⟩
end
noncomputable section
end
noncomputable section
end
noncomputable section
end
noncomputable section
end
noncomputable section
end
noncomputable section
end
noncomputable section
end
noncomputable section
end
noncomputable section
end
noncomputable section
end
noncomputable section
end
noncomputable section
end
section
open Go.Lib
abbrev bs (l : List UInt8) : ByteArray := ⟨l.toArray⟩
theorem xOM (l : List UInt8) : (bs l).data.toList = l := rfl
theorem xAC (l : List UInt8) : (bs l).size = l.length := by simp [bs, ByteArray.size]
theorem xQG (s : ByteArray) : s = bs s.data.toList := by cases s; simp [bs]
theorem xGC (u : Nat) : ∀ c ∈ decDigits u, 48 <= c.toNat /\ c.toNat <= 57 := by
 induction u using Nat.strongRecOn with
 | _ u ih =>
  intro c hc;rw [decDigits] at hc;split at hc
  ·rename_i h;simp only [List.mem_singleton] at hc;subst hc;rw [UInt8.toNat_ofNat'];omega
  ·rename_i h;rcases List.mem_append.1 hc with hc | hc
   ·exact ih _ (by omega) c hc
   ·simp only [List.mem_singleton] at hc;subst hc;rw [UInt8.toNat_ofNat'];omega
theorem xNn (u : Nat) : decDigits u ≠ [] := by
 rw [decDigits];split <;> simp
theorem xGD (u k : Nat) (h : u < 10 ^ (k + 1)) : (decDigits u).length <= k + 1 := by
 induction k generalizing u with
 | zero => rw [decDigits, dif_pos (by simpa using h)]; simp
 | succ k ih =>
  rw [decDigits];split
  ·simp
  ·have := ih (u / 10) (by rw [Nat.pow_succ] at h; omega);simp; omega
theorem xXC (u : Nat) (h : 1 <= u) : (decDigits u).head? ≠ some 48 := by
 induction u using Nat.strongRecOn with
 | _ u ih =>
  rw [decDigits];split
  ·rename_i h10;simp only [List.head?_cons, ne_eq, Option.some.injEq];intro e;have := congrArg UInt8.toNat e;rw [UInt8.toNat_ofNat'] at this;have h48 : (48 : UInt8).toNat = 48 := rfl;omega
  ·have h1 := ih (u / 10) (by omega) (by omega);have h2 := xNn (u / 10)
   cases hd : decDigits (u / 10) with
   | nil => exact absurd hd h2
   | cons x r => rw [hd] at h1; simpa using h1
theorem pu_app : ∀ (l r : List UInt8) (a : Nat), parseUint10 a (l ++ r) = match parseUint10 a l with
  | .ok x => parseUint10 x r
  | NumEnd.syntax => NumEnd.syntax
  | .range => .range
 | [], r, a => rfl
 | c :: l, r, a => by
  simp only [List.cons_append, parseUint10];split
  ·split
   ·rfl
   ·split
    ·rfl
    ·exact pu_app l r _
  ·rfl
theorem pu_dig (u : Nat) (h : u < 10 ^ 16) : parseUint10 0 (decDigits u) = .ok u := by
 induction u using Nat.strongRecOn with
 | _ u ih =>
  rw [decDigits];split
  ·rename_i h10;simp only [parseUint10, UInt8.toNat_ofNat'];have e : (48 + u) % 2 ^ 8 = 48 + u := by omega
   rw [e, if_pos (by omega), if_neg (by omega), if_neg (by omega)];congr 1; omega
  ·rename_i h10;rw [pu_app, ih (u / 10) (by omega) (by omega)];simp only [parseUint10, UInt8.toNat_ofNat'];have e : (48 + u % 10) % 2 ^ 8 = 48 + u % 10 := by omega
   rw [e, if_pos (by omega), if_neg (by omega), if_neg (by omega)];congr 1; omega
theorem xVG (n : Int) (h1 : -10000000000000000 < n) (h2 : n < 10000000000000000) : atoiAll (itoa n) = .ok n := by
 unfold itoa;split
 ·rename_i hn;have hu : n.natAbs < 10 ^ 16 := by omega
  have hm : parseMag (decDigits n.natAbs) = .ok n.natAbs := by rw [parseMag, if_neg (xNn _), pu_dig _ hu]
  show (match parseMag (if (45 : UInt8).toNat = 43 \/ (45 : UInt8).toNat = 45 then decDigits n.natAbs else 45 :: decDigits n.natAbs) with
   | NumEnd.syntax => NumEnd.syntax
   | .range => .range
   | .ok u => if ¬ ((45 : UInt8).toNat = 45) /\ 9223372036854775808 <= u then .range
    else if (45 : UInt8).toNat = 45 /\ 9223372036854775808 < u then .range
    else .ok (if (45 : UInt8).toNat = 45 then -(u : Int) else u)) = _
  have h45 : (45 : UInt8).toNat = 45 := rfl;rw [if_pos (.inr h45), hm];simp only [];rw [if_neg (fun e => e.1 h45), if_neg (fun e => by have := e.2; omega), if_pos h45];congr 1; omega
 ·rename_i hn;have hu : n.toNat < 10 ^ 16 := by omega
  have hm : parseMag (decDigits n.toNat) = .ok n.toNat := by rw [parseMag, if_neg (xNn _), pu_dig _ hu]
  cases hd : decDigits n.toNat with
  | nil => exact absurd hd (xNn _)
  | cons c r =>
   have hc := xGC n.toNat c (by rw [hd]; simp);rw [hd] at hm;have h45 : ¬ c.toNat = 45 := by omega
   have h43 : ¬ (c.toNat = 43 \/ c.toNat = 45) := by omega
   show (match parseMag (if c.toNat = 43 \/ c.toNat = 45 then r else c :: r) with
    | NumEnd.syntax => NumEnd.syntax
    | .range => .range
    | .ok u => if ¬ (c.toNat = 45) /\ 9223372036854775808 <= u then .range
     else if c.toNat = 45 /\ 9223372036854775808 < u then .range
     else .ok (if c.toNat = 45 then -(u : Int) else u)) = _
   rw [if_neg h43, hm];simp only [];rw [if_neg (fun e => by have := e.2; omega), if_neg (fun e => h45 e.1), if_neg h45];congr 1; omega
theorem xE2 (p : UInt8 -> Bool) : ∀ (l : List UInt8), (∀ c ∈ l, p c = true) -> l.dropWhile p = []
 | [], _ => rfl
 | c :: l, h => by
  rw [List.dropWhile_cons, if_pos (h c (by simp))];exact xE2 p l (fun x hx => h x (List.mem_cons_of_mem _ hx))
theorem xWg (l cs : List UInt8) (h : ∀ c ∈ l, cs.contains c = true) : trimS l cs = [] := by
 unfold trimS trimLeftS trimRightS;have h1 : l.reverse.dropWhile (cs.contains ·) = [] := by
  exact xE2 _ _ (fun c hc => h c (List.mem_reverse.1 hc))
 rw [h1]; rfl
def digs : List UInt8 := [48, 49, 50, 51, 52, 53, 54, 55, 56, 57]
theorem xXB {c : UInt8} (h1 : 48 <= c.toNat) (h2 : c.toNat <= 57) : digs.contains c = true := by
 have : c = UInt8.ofNat c.toNat := by simp
 rw [this];have h3 : c.toNat = 48 \/ c.toNat = 49 \/ c.toNat = 50 \/ c.toNat = 51 \/ c.toNat = 52 \/ c.toNat = 53 \/ c.toNat = 54 \/ c.toNat = 55 \/ c.toNat = 56 \/ c.toNat = 57 := by omega
 rcases h3 with h | h | h | h | h | h | h | h | h | h <;> rw [h] <;> rfl
theorem xWf (u : Nat) : trimS (decDigits u) digs = [] := xWg _ _ fun c hc => xXB (xGC u c hc).1 (xGC u c hc).2
theorem xXk (n : Int) : ∀ c ∈ itoa n, c.toNat = 45 \/ (48 <= c.toNat /\ c.toNat <= 57) := by
 intro c hc;unfold itoa at hc;split at hc
 ·rcases List.mem_cons.1 hc with rfl | hc
  ·exact .inl rfl
  ·exact .inr (xGC _ c hc)
 ·exact .inr (xGC _ c hc)
theorem xHB (n : Int) (h1 : -10000000000000000 < n) (h2 : n < 10000000000000000) : (itoa n).length <= 17 := by
 unfold itoa;split
 ·have := xGD n.natAbs 15 (by omega);simp; omega
 ·have := xGD n.toNat 15 (by omega);omega
def xAl (c : UInt8) : List (List UInt8) -> List UInt8
 | [] => []
 | [x] => x
 | x :: y :: l => x ++ c :: xAl c (y :: l)
theorem idx_at (c : UInt8) (x r : List UInt8) (h : c ∉ x) : index (x ++ c :: r) [c] = x.length := by
 refine index_first (by simp) ?_ (fun j hj => ?_)
 ·simp [occAt]
 ·unfold occAt;have hl : j < (x ++ c :: r).length := by simp; omega
  rw [List.drop_eq_getElem_cons hl];have : (x ++ c :: r)[j] = x[j] := by rw [List.getElem_append_left hj]
  rw [this];have hne : ¬ c = x[j] := fun e => h (e ▸ List.getElem_mem _);simp [List.isPrefixOf, hne]
theorem idx_not (c : UInt8) (r : List UInt8) (x : List UInt8) (h : c ∉ x) : index x (c :: r) = -1 := by
 refine index_none (fun j _ => ?_);unfold occAt
 cases hd : x.drop j with
 | nil => rfl
 | cons y l =>
  have hy : y ∈ x := List.mem_of_mem_drop (by rw [hd]; simp);have hne : ¬ c = y := fun e => h (e ▸ hy);simp [List.isPrefixOf, hne]
theorem xGc (c : UInt8) : ∀ (l : List (List UInt8)), l ≠ [] -> (∀ x ∈ l, c ∉ x) -> splitB (bs [c]) 0 (countB (bs (xAl c l)) (bs [c])) (bs (xAl c l)) = l.map bs
 | [], h, _ => absurd rfl h
 | [x], _, h => by
  have hi : indexB (bs (xAl c [x])) (bs [c]) = -1 := idx_not c [] x (h x (by simp));rw [countB_miss _ _ hi, splitB_zero]; rfl
 | x :: y :: l, _, h => by
  have hi : indexB (bs (xAl c (x :: y :: l))) (bs [c]) = x.length := idx_at c x _ (h x (by simp));have he : (bs (xAl c (x :: y :: l))).extract (x.length + (bs [c]).size) (bs (xAl c (x :: y :: l))).size = bs (xAl c (y :: l)) := by
   rw [xQG (ByteArray.extract _ _ _), extract_to_end, xOM];have e1 : (bs [c]).size = 1 := rfl;rw [e1];show bs (List.drop (x.length + 1) (x ++ c :: xAl c (y :: l))) = _;congr 1;rw [<- List.drop_drop];simp
  have h1 : 1 <= (bs [c]).size := Nat.le_refl 1;rw [countB_hit _ _ x.length h1 hi, he, Nat.add_comm 1, splitB_hit _ _ _ _ _ hi, he, xGc c (y :: l) (by simp) (fun z hz => h z (List.mem_cons_of_mem _ hz))];rw [List.map_cons, xQG (ByteArray.extract _ _ _), extract_from_zero, xOM];congr 2;show List.take (x.length + 0) (x ++ c :: xAl c (y :: l)) = x;simp
theorem cut_at (c : UInt8) (r x z : List UInt8) (h : c ∉ x) : cut (x ++ c :: r ++ z) (c :: r) = (x, z, true) := by
 have hi : index (x ++ c :: r ++ z) (c :: r) = x.length := by
  refine index_first (by simp) ?_ (fun j hj => ?_)
  ·unfold occAt;rw [List.append_assoc, List.drop_left, List.isPrefixOf_iff_prefix];exact List.prefix_append _ _
  ·unfold occAt;have hl : j < (x ++ c :: r ++ z).length := by simp; omega
   rw [List.drop_eq_getElem_cons hl];have : (x ++ c :: r ++ z)[j] = x[j] := by
    rw [List.getElem_append_left (by simp; omega), List.getElem_append_left hj]
   rw [this];have hne : ¬ c = x[j] := fun e => h (e ▸ List.getElem_mem _);simp [List.isPrefixOf, hne]
 unfold cut;rw [hi, if_pos (by omega)];have e : ((x.length : Int)).toNat = x.length := rfl;rw [e, List.append_assoc];refine Prod.ext ?_ (Prod.ext ?_ rfl)
 ·simp
 ·show List.drop (x.length + (c :: r).length) (x ++ (c :: r ++ z)) = z;rw [<- List.drop_drop, List.drop_left, List.drop_left]
end
noncomputable section
def xLT (p : Int -> Option ByteArray) (n : Int) : Option ByteArray := (bif (decide (n < (0 : Int))) then (ob (p (jI.wrap ((0 : Int) - n))) (fun r => (bif (decide ((1 + r.size) <= 1000000)) then (some ((ByteArray.mk (Array.mk (45 :: []))) ++ r)) else none))) else (bif (decide (n < (10 : Int))) then (some (bytesOf ((IntKind.u8.wrap (jI.wrap ((48 : Int) + n))) :: []))) else (both (ob (p (jI.wrap (Int.tdiv n (10 : Int)))) (fun r1 => (bif (decide ((r1.size + (bytesOf ((IntKind.u8.wrap (jI.wrap ((48 : Int) + (Int.tmod n (10 : Int))))) :: [])).size) <= 1000000)) then (some (r1 ++ (bytesOf ((IntKind.u8.wrap (jI.wrap ((48 : Int) + (Int.tmod n (10 : Int))))) :: [])))) else none))) (ob (p (jI.wrap (Int.tdiv n (10 : Int)))) (fun r2 => (bif (decide ((r2.size + (bytesOf ((IntKind.u8.wrap (jI.wrap ((48 : Int) + (Int.tmod n (10 : Int))))) :: [])).size) <= 1000000)) then (some (r2 ++ (bytesOf ((IntKind.u8.wrap (jI.wrap ((48 : Int) + (Int.tmod n (10 : Int))))) :: [])))) else none))))))
abbrev xHS : Sch := ⟨[(0, .c .i)], []⟩
abbrev xHR : FSch := ⟨.one (.c (.t .str)), []⟩
def xSl (p : Int -> Option ByteArray) : Ent := ⟨10, 1, xHS, xHR, fun s => p s, []⟩
theorem xQZ {p : Int -> Option ByteArray} (hp : FnSem Tryz.prog 10 1 xHS xHR (fun s => p s)) : xAj Tryz.prog (xSl p :: sh_T 70) := ⟨⟨by kernel_rfl, hp⟩, xKA 70⟩
theorem xWh {p : Int -> Option ByteArray} (hp : FnSem Tryz.prog 10 1 xHS xHR (fun s => p s)) : FnSem Tryz.prog 10 1 xHS xHR (fun s => xLT p s) :=
 xXr (call := xCr Tryz.prog 70 plans (xSl p :: sh_T 70) 20) (Fu := 70) (pl := xFp plans 10) (d := 1000) (an := .no) (xA7 xAn 70 xBn (xQZ hp) 20) xAn (by kernel_rfl) (xD8 (c := xAi Tryz.prog 10) (p := []) (trivial)) (fun s => by kernel_rfl)
def xJg : Nat -> Int -> Option ByteArray
 | 0 => fun _ => none
 | k + 1 => xLT (xJg k)
theorem xPb : ∀ k, FnSem Tryz.prog 10 1 xHS xHR (fun s => xJg k s)
 | 0 => fun _ _ h => by cases h
 | k + 1 => xWh (xPb k)
theorem xWc (n : Int) (h : -9223372036854775808 <= n /\ n <= 9223372036854775807) : jI.wrap n = n := by rw [IntKind.wrap_i64]; omega
theorem txw8 (n : Int) (h : 0 <= n /\ n <= 255) : IntKind.u8.wrap n = n := by rw [IntKind.wrap_u8]; omega
theorem xIX (n : Int) : bytesOf [n] = bs [UInt8.ofNat n.toNat] := rfl
theorem xAE (l r : List UInt8) : bs l ++ bs r = bs (l ++ r) := by
 apply ByteArray.ext;simp [bs, ByteArray.data_append]
theorem xLS : ∀ (k u : Nat), k <= 16 -> u < 1000000000000000 -> u < 10 ^ (k + 1) -> xJg (k + 1) (u : Int) = some (bs (Lib.decDigits u))
 | k, u, hk, hb, h => by
  show xLT (xJg k) (u : Int) = _;unfold xLT;rw [show decide ((u : Int) < 0) = false from decide_eq_false (by omega), cond_false, xNE];by_cases h10 : u < 10
  ·rw [show decide ((u : Int) < 10) = true from decide_eq_true (by omega), cond_true, xWc _ (by omega), txw8 _ (by omega), xIX, Lib.decDigits, dif_pos h10];rfl
  ·rw [show decide ((u : Int) < 10) = false from decide_eq_false (by omega), cond_false];have e1 : (u : Int).tdiv 10 = ((u / 10 : Nat) : Int) := by rw [Int.tdiv_eq_ediv_of_nonneg (by omega)]; omega
   have e2 : (u : Int).tmod 10 = ((u % 10 : Nat) : Int) := by rw [Int.tmod_eq_emod_of_nonneg (by omega)]; omega
   cases k with
   | zero => omega
   | succ k =>
    rw [e1, e2, xWc _ (by omega), xWc _ (by omega), txw8 _ (by omega), xLS k (u / 10) (by omega) (by omega) (by rw [Nat.pow_succ] at h; omega), xEn, xIX];have hl := xGD (u / 10) 15 (by omega);rw [show decide ((bs (Lib.decDigits (u / 10))).size + (bs [UInt8.ofNat (48 + ((u % 10 : Nat) : Int)).toNat]).size <= 1000000) = true from decide_eq_true (by rw [xAC, xAC]; simp; omega), cond_true, xAE];congr 2;rw [Lib.decDigits.eq_def u, dif_neg h10];congr 3
theorem xJr {k u : Nat} (h : u < 1000000000000000) (hk : 15 <= k /\ k <= 16 := by omega) : xJg (k + 1) (u : Int) = some (bs (Lib.decDigits u)) := xLS k u (by omega) h (Nat.lt_of_lt_of_le h (Nat.le_trans (by decide : 1000000000000000 <= 10 ^ 16) (Nat.pow_le_pow_right (by decide) (by omega))))
def xBJ (_ : Nat) (n : Int) : Option ByteArray := bif decide (-1000000000000000 < n) && decide (n < 1000000000000000) then some (bs (Lib.itoa n)) else none
theorem xSm (n : Int) (h1 : -1000000000000000 < n) (h2 : n < 1000000000000000) : xJg 17 n = some (bs (Lib.itoa n)) := by
 show xLT (xJg 16) n = _;unfold xLT;by_cases hn : n < 0
 ·rw [decide_eq_true hn, cond_true, xWc _ (by omega)];have e : (0 : Int) - n = ((n.natAbs : Nat) : Int) := by omega
  have hx : xJg 16 (n.natAbs : Int) = some (bs (Lib.decDigits n.natAbs)) := by
   have := xJr (k := 15) (u := n.natAbs) (by omega) ⟨Nat.le_refl _, by decide⟩;exact this
  rw [e, hx, xEn];have hl := xGD n.natAbs 15 (by omega);rw [decide_eq_true (by rw [xAC]; omega), cond_true];show some (bs [45] ++ bs _) = _;rw [xAE];unfold Lib.itoa;rw [if_pos hn]; rfl
 ·obtain ⟨u, rfl⟩ : ∃ u : Nat, n = u := ⟨n.toNat, by omega⟩;have := xJr (k := 16) (u := u) (by omega) ⟨by decide, Nat.le_refl _⟩;have e : xJg 17 (u : Int) = xLT (xJg 16) u := rfl;rw [e] at this;unfold xLT at this;rw [this];unfold Lib.itoa;rw [if_neg hn]; rfl
def text_E (F : Nat) : Ent := ⟨10, 1, xHS, xHR, fun s => xBJ F s, []⟩
theorem xSk (F : Nat) : FnSem Tryz.prog 10 1 xHS xHR (fun s => xBJ F s) := by
 intro (s : Int) t h;refine xPb 17 s t ?_;change xBJ F s = some t at h;unfold xBJ at h
 cases hd : decide (-1000000000000000 < s) && decide (s < 1000000000000000) with
 | false => rw [hd] at h; cases h
 | true =>
  rw [hd, cond_true] at h;simp only [Bool.and_eq_true, decide_eq_true_eq] at hd;rw [<- h];exact xSm s hd.1 hd.2
end
noncomputable section
def txt_T (F : Nat) : List Ent := text_E F :: xMX F :: sh_T F
theorem xO5 (F : Nat) : xAj Tryz.prog (txt_T F) := ⟨⟨by kernel_rfl, xSk F⟩, ⟨by kernel_rfl, xIy F⟩, xKA F⟩
end
end Go.Proofs.YtnomnijhlbalaaaGreatDoor
