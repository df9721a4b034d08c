/- By an AI agent. No person has read it. -/
import Derived.Test.YteimbckgldkcgaaGreatDoorWXN3
namespace Go.Proofs.YteimbckgldkcgaaGreatDoor
open Go.RowKit
set_option maxRecDepth 100000
set_option maxHeartbeats 4000000
noncomputable section
abbrev sNames_n : Nat := 2
def sNames_S (F : Nat) (n : (ByteArray × (Int × Int))) (s1 : ByteArray) : Option (Bool) := (bif (decide ((n.1.size : Int) > (60 : Int))) then (some true) else (bif (decide ((s1.size : Int) > (60 : Int))) then (some true) else (ob (name_S F n) (fun r => (ob (rName_S F n) (fun r1 => (ob (bif (!(r1.2 == (r.2 == (0 : Int)))) then (some ((s1, r.1, r1.2, true), n)) else (bif (!r1.2) then (bif (r.2 != (2 : Int)) then (some ((s1, r.1, r1.2, true), n)) else (some ((s1, r.1, r1.2, (!((ByteArray.toList.loop r.1 0 []) == (ByteArray.toList.loop r1.1 0 [])))), n))) else (some ((s1, r.1, r1.2, (!((ByteArray.toList.loop r.1 0 []) == (ByteArray.toList.loop r1.1 0 [])))), n)))) (fun s2 => (bif s2.1.2.2.2 then (some false) else (ob (bif s2.1.2.2.1 then (ob (parseName_S F s2.1.2.1) (fun r2 => (bif (r2.2 != (0 : Int)) then (some (.inl false)) else (bif (bif true then (!((r2.1.1 == s2.2.1) && ((r2.1.2.1 == s2.2.2.1) && (r2.1.2.2 == s2.2.2.2)))) else ((r2.1.1 == s2.2.1) && ((r2.1.2.1 == s2.2.2.1) && (r2.1.2.2 == s2.2.2.2)))) then (some (.inl false)) else (some (.inr s2.1.1)))))) else (some (.inr s2.1.1))) (fun o_ => su o_ (fun s3 => (some s3)) (fun s4 => (ob (parseName_S F s4) (fun r3 => (ob (rParse_S F s4) (fun r4 => (bif (r4.2 == (r3.2 == (0 : Int))) then (bif r4.2 then (bif (bif false then (!((r3.1.1 == r4.1.1) && ((r3.1.2.1 == r4.1.2.1) && (r3.1.2.2 == r4.1.2.2)))) else ((r3.1.1 == r4.1.1) && ((r3.1.2.1 == r4.1.2.1) && (r3.1.2.2 == r4.1.2.2)))) then (some true) else (some false)) else (bif (r3.2 == (4 : Int)) then (bif (bif false then (!((r3.1.1 == r4.1.1) && ((r3.1.2.1 == r4.1.2.1) && (r3.1.2.2 == r4.1.2.2)))) else ((r3.1.1 == r4.1.1) && ((r3.1.2.1 == r4.1.2.1) && (r3.1.2.2 == r4.1.2.2)))) then (some true) else (some false)) else (some false))) else (some false))))))))))))))))))
abbrev sNames_I : Sch := ⟨[(0, .ag [.t (.pair .str (.pair (.int .i64) (.int .i64)))]), (1, .c (.t .str))], []⟩
abbrev sNames_O : FSch := ⟨.one (.c (.t .bool)), []⟩
def sNames_E (F : Nat) : Ent := ⟨3, 2, sNames_I, sNames_O, fun s => sNames_S F s.1 s.2, []⟩
theorem sNames_ok (F : Nat) : FnSem Tryz.prog 3 2 sNames_I sNames_O (fun s => sNames_S F s.1 s.2) :=
  fn_ok (call := callD Tryz.prog 70 plans (known_T F) 20) (Fu := 70) (pl := plOf plans 3) (d := 1000) (an := (.two .no (.two .no (.two .no (.two .no (.two (.two (.join [(.normal, ⟨[(1, .c (.t .str)), (2, .c (.k (.pt 0 0 0 0))), (5, .c (.t .str)), (8, .c (.t .bool)), (51, .c (.t .bool))], [.blk 23 [.t (.pair .str (.pair (.int .i64) (.int .i64)))]]⟩)] .no) .no) (.two (.join [(.ret, ⟨[(4, .c (.t .bool))], []⟩), (.normal, ⟨[(1, .c (.t .str))], []⟩)] .no) .no))))))) (callD_ok progMixed 70 plansOk (known_T_ok F) 20) progMixed (by kernel_rfl) (anP_ok (c := bodyOf Tryz.prog 3) (p := []) (⟨trivial, ⟨trivial, ⟨trivial, ⟨trivial, ⟨⟨trivial, trivial⟩, ⟨trivial, trivial⟩⟩⟩⟩⟩⟩)) (fun s => by kernel_rfl)
def sNames_T (F : Nat) : List Ent := sNames_E F :: known_T F
theorem sNames_T_ok (F : Nat) : EntsOk Tryz.prog (sNames_T F) := ⟨⟨by kernel_rfl, sNames_ok F⟩, known_T_ok F⟩

end
end Go.Proofs.YteimbckgldkcgaaGreatDoor
