/- By an AI agent. No person has read it. -/
import Derived.Test.YtdfgmfddkcmalaaDoorWSH8
namespace Go.Proofs.YtdfgmfddkcmalaaDoor
open Go.RowKit
set_option maxRecDepth 100000
set_option maxHeartbeats 4000000
noncomputable section
abbrev isIngot_n : Nat := 1
def isIngot_S (F : Nat) (s1 : ByteArray) : Option (Bool) := (ob (within_S F (s1.size : Int) (1 : Int) (12 : Int)) (fun r => (bif r then (bif (inB (0 : Int) s1.size) then (bif (decide ((bAt s1 0) ≥ (65 : Int))) then (bif (inB (0 : Int) s1.size) then (bif (decide ((bAt s1 0) ≤ (90 : Int))) then (ob (trim_S F s1 (ByteArray.mk (Array.mk (65 :: (66 :: (67 :: (68 :: (69 :: (70 :: (71 :: (72 :: (73 :: (74 :: (75 :: (76 :: (77 :: (78 :: (79 :: (80 :: (81 :: (82 :: (83 :: (84 :: (85 :: (86 :: (87 :: (88 :: (89 :: (90 :: (48 :: (49 :: (50 :: (51 :: (52 :: (53 :: (54 :: (55 :: (56 :: (57 :: []))))))))))))))))))))))))))))))))))))))) (fun r1 => (some ((ByteArray.toList.loop (FSch.a (Ent.Out (trim_E F)) r1) 0 []) == (ByteArray.toList.loop (ByteArray.mk (List.toArray [])) 0 []))))) else (some false)) else none) else (some false)) else none) else (some false))))
abbrev isIngot_I : Sch := ⟨[(0, .c (.t .str))], []⟩
abbrev isIngot_O : FSch := ⟨.one (.c (.t .bool)), []⟩
def isIngot_E (F : Nat) : Ent := ⟨88, 1, isIngot_I, isIngot_O, fun s => isIngot_S F s, []⟩
theorem isIngot_ok (F : Nat) : FnSem Tryd.prog 88 1 isIngot_I isIngot_O (fun s => isIngot_S F s) :=
  fn_ok (call := callD Tryd.prog 70 plans (sh_T F) 20) (Fu := 70) (pl := plOf plans 88) (d := 1000) (an := .no) (callD_ok progMixed 70 plansOk (sh_T_ok F) 20) progMixed (by kernel_rfl) (anP_ok (c := bodyOf Tryd.prog 88) (p := []) (trivial)) (fun s => by kernel_rfl)
def isIngot_T (F : Nat) : List Ent := isIngot_E F :: sh_T F
theorem isIngot_T_ok (F : Nat) : EntsOk Tryd.prog (isIngot_T F) := ⟨⟨by kernel_rfl, isIngot_ok F⟩, sh_T_ok F⟩
abbrev isName_n : Nat := 1
def isName_S (F : Nat) (n : (ByteArray × (Int × Int))) : Option (Bool) := (ob (isIngot_S F n.1) (fun r => (bif r then (ob (within_S F n.2.1 (1 : Int) (999 : Int)) (fun r1 => (bif r1 then (ob (within_S F n.2.2 (0 : Int) (9999 : Int)) (fun r2 => (some r2))) else (some false)))) else (some false))))
abbrev isName_I : Sch := ⟨[(0, .ag [.t (.pair .str (.pair (.int .i64) (.int .i64)))])], []⟩
abbrev isName_O : FSch := ⟨.one (.c (.t .bool)), []⟩
def isName_E (F : Nat) : Ent := ⟨74, 1, isName_I, isName_O, fun s => isName_S F s, []⟩
theorem isName_ok (F : Nat) : FnSem Tryd.prog 74 1 isName_I isName_O (fun s => isName_S F s) :=
  fn_ok (call := callD Tryd.prog 70 plans (isIngot_T F) 20) (Fu := 70) (pl := plOf plans 74) (d := 1000) (an := .no) (callD_ok progMixed 70 plansOk (isIngot_T_ok F) 20) progMixed (by kernel_rfl) (anP_ok (c := bodyOf Tryd.prog 74) (p := []) (trivial)) (fun s => by kernel_rfl)
def isName_T (F : Nat) : List Ent := isName_E F :: isIngot_T F
theorem isName_T_ok (F : Nat) : EntsOk Tryd.prog (isName_T F) := ⟨⟨by kernel_rfl, isName_ok F⟩, isIngot_T_ok F⟩
abbrev known_I : Sch := ⟨[], []⟩
abbrev known_O : FSch := ⟨.one (.c (.t .bool)), []⟩
theorem known_ok : FnSem Tryd.prog 14 0 known_I known_O (fun _ => some true) :=
  fn_ok (call := callD Tryd.prog 70 plans (isName_T 1000) 20) (Fu := 70) (pl := plOf plans 14) (d := 1000) (an := .no) (callD_ok progMixed 70 plansOk (isName_T_ok 1000) 20) progMixed (by kernel_rfl) (anP_ok (c := bodyOf Tryd.prog 14) (p := []) (trivial)) (fun _ => by kernel_rfl)
def known_E : Ent := ⟨14, 0, known_I, known_O, fun _ => some true, []⟩
def known_T (F : Nat) : List Ent := known_E :: isName_T F
theorem known_T_ok (F : Nat) : EntsOk Tryd.prog (known_T F) := ⟨⟨by kernel_rfl, known_ok⟩, isName_T_ok F⟩
end
end Go.Proofs.YtdfgmfddkcmalaaDoor
