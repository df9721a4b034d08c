/- By an AI agent. No person has read it. -/
import Derived.Test.YtdcekiigkplmgaaWPLT
import Derived.Test.YtdcekiigkplmgaaWYH
namespace Go.Proofs.Ytdcekiigkplmgaa
open Go.RowKit
set_option maxRecDepth 100000
set_option maxHeartbeats 4000000
noncomputable section
abbrev I6 : TC := .int .i64
abbrev tPt : TC := .pair I6 (.pair I6 I6)
abbrev tRg : TC := .pair I6 I6
abbrev cPf : List Sg := [.t I6, .t I6, .t I6, .t I6, .t I6, .t I6, .t I6, .t I6, .t I6, .t I6, .t I6, .t I6, .t I6, .t I6, .t I6, .t I6, .t I6, .t I6, .t .bool]
abbrev fl_C : Sch := ⟨[(3, .c (.k (.pt 2 0 0 0))), (4, .c (.k (.pt 3 0 0 0))), (5, .c (.k (.pt 4 0 0 0))), (8, .c (.k (.hv 5)))], [.ro tPt, .ro tRg, .blk 36 [.k (.sl 1 2)], .blk 139 cPf, .blk 139 cPf, .clo 107 [] [.k (.pt 6 0 0 0)], .blk 130 [.k (.sl 0 3)]]⟩
def ysp107 : Nat → Option Nat := fun n => bif Nat.beq n 19 then some 6 else none
abbrev fl_R : RgA := ⟨fl_C, sch0, sch0, fun _ => lm0, 0, .no, 107, 2, ysp107⟩
abbrev fl_I : Sch := ⟨[(0, .c (.k (.sl 0 3))), (1, .c (.k (.sl 1 2)))], [.ro tPt, .ro tRg]⟩
abbrev fl_O : FSch := ⟨.tu [(true, cPf), (true, cPf)], [.dead, .dead]⟩
abbrev fl_call (F : Nat) := callD Try.prog 70 plans (tab0 F) 20
def fl_S (F : Nat) (s : fl_I.ty) : Option fl_O.ty := fnEvZ Try.prog plans 70 (fl_call F) fl_R (.two .no (.two (.two .no (.one .lp)) .no)) 2 53 fl_I fl_O s
def fl_E (F : Nat) : Ent := ⟨53, 2, fl_I, fl_O, fun s => fl_S F s, []⟩
theorem fl_lf (F : Nat) : LfOk Try.prog (fl_call F) (tmpsOf Try.prog 53 2) fl_R (subAt (bodyOf Try.prog 53) [1, 0, 1, 0]) := fun _ _ _ _ _ _ _ _ _ _ => trivial
theorem fl_ok (F : Nat) : FnSem Try.prog 53 2 fl_I fl_O (fun s => fl_S F s) :=
  fnZ_ok (call := fl_call F) (A := plans) (Fu := 70) (R := fl_R) (sk := (.two .no (.two (.two .no (.one .lp)) .no))) (callD_ok progMixed 70 plansOk (tab0_ok F) 20) progMixed plansOk (by kernel_rfl) (nodeP_ok (c := bodyOf Try.prog 53) (p := []) (⟨trivial, ⟨⟨trivial, (fl_lf F)⟩, trivial⟩⟩)) (fun s => rfl)
def fl_T (F : Nat) : List Ent := fl_E F :: tab0 F
theorem fl_T_ok (F : Nat) : EntsOk Try.prog (fl_T F) := ⟨⟨by kernel_rfl, fl_ok F⟩, tab0_ok F⟩
end
end Go.Proofs.Ytdcekiigkplmgaa
