/- By an AI agent. No person has read it. -/
import Derived.Test.YtdcekiigkplmgaaWXS0
namespace Go.Proofs.Ytdcekiigkplmgaa
open Go.RowKit
set_option maxRecDepth 100000
set_option maxHeartbeats 4000000
noncomputable section
abbrev within_n : Nat := 3
def within_S (F : Nat) (n : Int) (least : Int) (most : Int) : Option (Bool) := (bif (decide (n ≥ least)) then (some (decide (n ≤ most))) else (some false))
abbrev within_I : Sch := ⟨[(0, .c (.t (.int .i64))), (1, .c (.t (.int .i64))), (2, .c (.t (.int .i64)))], []⟩
abbrev within_O : FSch := ⟨.one (.c (.t .bool)), []⟩
def within_E (F : Nat) : Ent := ⟨41, 3, within_I, within_O, fun s => within_S F s.1 s.2.1 s.2.2, []⟩
theorem within_ok (F : Nat) : FnSem Try.prog 41 3 within_I within_O (fun s => within_S F s.1 s.2.1 s.2.2) :=
  fn_ok (call := callD Try.prog 70 plans (tab0 F) 20) (Fu := 70) (pl := plOf plans 41) (d := 1000) (an := .no) (callD_ok progMixed 70 plansOk (tab0_ok F) 20) progMixed (by kernel_rfl) (anP_ok (c := bodyOf Try.prog 41) (p := []) (trivial)) (fun s => by kernel_rfl)
def within_T (F : Nat) : List Ent := within_E F :: tab0 F
theorem within_T_ok (F : Nat) : EntsOk Try.prog (within_T F) := ⟨⟨by kernel_rfl, within_ok F⟩, tab0_ok F⟩
abbrev isRange_n : Nat := 3
def isRange_S (F : Nat) (r : (Int × Int)) (least : Int) (most : Int) : Option (Bool) := (bif (decide (least ≤ r.1)) then (bif (decide (r.1 ≤ r.2)) then (some (decide (r.2 ≤ most))) else (some false)) else (some false))
abbrev isRange_I : Sch := ⟨[(0, .ag [.t (.pair (.int .i64) (.int .i64))]), (1, .c (.t (.int .i64))), (2, .c (.t (.int .i64)))], []⟩
abbrev isRange_O : FSch := ⟨.one (.c (.t .bool)), []⟩
def isRange_E (F : Nat) : Ent := ⟨82, 3, isRange_I, isRange_O, fun s => isRange_S F s.1 s.2.1 s.2.2, []⟩
theorem isRange_ok (F : Nat) : FnSem Try.prog 82 3 isRange_I isRange_O (fun s => isRange_S F s.1 s.2.1 s.2.2) :=
  fn_ok (call := callD Try.prog 70 plans (within_T F) 20) (Fu := 70) (pl := plOf plans 82) (d := 1000) (an := .no) (callD_ok progMixed 70 plansOk (within_T_ok F) 20) progMixed (by kernel_rfl) (anP_ok (c := bodyOf Try.prog 82) (p := []) (trivial)) (fun s => by kernel_rfl)
def isRange_T (F : Nat) : List Ent := isRange_E F :: within_T F
theorem isRange_T_ok (F : Nat) : EntsOk Try.prog (isRange_T F) := ⟨⟨by kernel_rfl, isRange_ok F⟩, within_T_ok F⟩
abbrev isWire_n : Nat := 1
def isWire_S (F : Nat) (w : ((Int × Int) × ((Int × Int) × Int))) : Option (Bool) := (ob (isRange_S F w.1 (1 : Int) (10000000 : Int)) (fun r => (bif r then (ob (isRange_S F w.2.1 (0 : Int) (10000000 : Int)) (fun r1 => (bif r1 then (ob (within_S F w.2.2 (0 : Int) (10000000 : Int)) (fun r2 => (some r2))) else (some false)))) else (some false))))
abbrev isWire_I : Sch := ⟨[(0, .ag [.t (.pair (.pair (.int .i64) (.int .i64)) (.pair (.pair (.int .i64) (.int .i64)) (.int .i64)))])], []⟩
abbrev isWire_O : FSch := ⟨.one (.c (.t .bool)), []⟩
def isWire_E (F : Nat) : Ent := ⟨40, 1, isWire_I, isWire_O, fun s => isWire_S F s, []⟩
theorem isWire_ok (F : Nat) : FnSem Try.prog 40 1 isWire_I isWire_O (fun s => isWire_S F s) :=
  fn_ok (call := callD Try.prog 70 plans (isRange_T F) 20) (Fu := 70) (pl := plOf plans 40) (d := 1000) (an := .no) (callD_ok progMixed 70 plansOk (isRange_T_ok F) 20) progMixed (by kernel_rfl) (anP_ok (c := bodyOf Try.prog 40) (p := []) (trivial)) (fun s => by kernel_rfl)
def isWire_T (F : Nat) : List Ent := isWire_E F :: isRange_T F
theorem isWire_T_ok (F : Nat) : EntsOk Try.prog (isWire_T F) := ⟨⟨by kernel_rfl, isWire_ok F⟩, isRange_T_ok F⟩
abbrev isWidth_n : Nat := 1
def isWidth_S (F : Nat) (r : (Int × Int)) : Option (Bool) := (ob (isRange_S F r (0 : Int) (10000000 : Int)) (fun r1 => (some r1)))
abbrev isWidth_I : Sch := ⟨[(0, .ag [.t (.pair (.int .i64) (.int .i64))])], []⟩
abbrev isWidth_O : FSch := ⟨.one (.c (.t .bool)), []⟩
def isWidth_E (F : Nat) : Ent := ⟨42, 1, isWidth_I, isWidth_O, fun s => isWidth_S F s, []⟩
theorem isWidth_ok (F : Nat) : FnSem Try.prog 42 1 isWidth_I isWidth_O (fun s => isWidth_S F s) :=
  fn_ok (call := callD Try.prog 70 plans (isWire_T F) 20) (Fu := 70) (pl := plOf plans 42) (d := 1000) (an := .no) (callD_ok progMixed 70 plansOk (isWire_T_ok F) 20) progMixed (by kernel_rfl) (anP_ok (c := bodyOf Try.prog 42) (p := []) (trivial)) (fun s => by kernel_rfl)
def isWidth_T (F : Nat) : List Ent := isWidth_E F :: isWire_T F
theorem isWidth_T_ok (F : Nat) : EntsOk Try.prog (isWidth_T F) := ⟨⟨by kernel_rfl, isWidth_ok F⟩, isWire_T_ok F⟩
abbrev check_n : Nat := 3
def check_S (F : Nat) (w : ((Int × Int) × ((Int × Int) × Int))) (b : (Int × (Int × (Int × (Int × Int))))) (length : Int) : Option (Int) := (ob (ob (isWire_S F w) (fun r => (bif (!r) then (some (length, true)) else (ob (within_S F b.1 (1 : Int) (10000000 : Int)) (fun r1 => (bif (!r1) then (some (length, true)) else (ob (within_S F b.2.1 (1 : Int) (2000 : Int)) (fun r2 => (bif (!r2) then (some (length, true)) else (ob (within_S F b.2.2.1 (0 : Int) (600000000 : Int)) (fun r3 => (bif (!r3) then (some (length, true)) else (ob (isWidth_S F b.2.2.2) (fun r4 => (bif (!r4) then (some (length, true)) else (some (length, (decide ((IntKind.wrap IntKind.i64 (w.1.2 + b.2.2.2.2)) ≥ b.1))))))))))))))))))) (fun s1 => (bif s1.2 then (some (2 : Int)) else (ob (within_S F s1.1 (1 : Int) (600000000 : Int)) (fun r5 => (bif (!r5) then (some (3 : Int)) else (some (0 : Int))))))))
abbrev check_I : Sch := ⟨[(0, .ag [.t (.pair (.pair (.int .i64) (.int .i64)) (.pair (.pair (.int .i64) (.int .i64)) (.int .i64)))]), (1, .ag [.t (.pair (.int .i64) (.pair (.int .i64) (.pair (.int .i64) (.pair (.int .i64) (.int .i64)))))]), (2, .c (.t (.int .i64)))], []⟩
abbrev check_O : FSch := ⟨.one (.c (.t (.int .i64))), []⟩
def check_E (F : Nat) : Ent := ⟨15, 3, check_I, check_O, fun s => check_S F s.1 s.2.1 s.2.2, []⟩
theorem check_ok (F : Nat) : FnSem Try.prog 15 3 check_I check_O (fun s => check_S F s.1 s.2.1 s.2.2) :=
  fn_ok (call := callD Try.prog 70 plans (isWidth_T F) 20) (Fu := 70) (pl := plOf plans 15) (d := 1000) (an := (.two .no (.two (.one (.two (.join [(.normal, ⟨[(2, .c (.t (.int .i64))), (7, .c (.t .bool))], []⟩)] .no) .no)) .no))) (callD_ok progMixed 70 plansOk (isWidth_T_ok F) 20) progMixed (by kernel_rfl) (anP_ok (c := bodyOf Try.prog 15) (p := []) (⟨trivial, ⟨⟨trivial, trivial⟩, trivial⟩⟩)) (fun s => by kernel_rfl)
def check_T (F : Nat) : List Ent := check_E F :: isWidth_T F
theorem check_T_ok (F : Nat) : EntsOk Try.prog (check_T F) := ⟨⟨by kernel_rfl, check_ok F⟩, isWidth_T_ok F⟩
abbrev used_n : Nat := 1
def used_S (F : Nat) (s1 : (((Int × Int) × ((Int × Int) × Int)) × ((Int × (Int × (Int × (Int × Int)))) × Int))) : Option (Int) := (bif (decide (s1.2.1.2.2.1 ≥ s1.2.2)) then (some (0 : Int)) else (bif (!(s1.2.1.1 == (0 : Int))) then (some (if (IntKind.wrap IntKind.i64 ((IntKind.wrap IntKind.i64 (Int.tdiv (IntKind.wrap IntKind.i64 ((IntKind.wrap IntKind.i64 (s1.2.2 - s1.2.1.2.2.1)) - (1 : Int))) s1.2.1.1)) + (1 : Int))) < s1.2.1.2.1 then (IntKind.wrap IntKind.i64 ((IntKind.wrap IntKind.i64 (Int.tdiv (IntKind.wrap IntKind.i64 ((IntKind.wrap IntKind.i64 (s1.2.2 - s1.2.1.2.2.1)) - (1 : Int))) s1.2.1.1)) + (1 : Int))) else s1.2.1.2.1)) else none))
abbrev used_I : Sch := ⟨[(0, .ag [.t (.pair (.pair (.pair (.int .i64) (.int .i64)) (.pair (.pair (.int .i64) (.int .i64)) (.int .i64))) (.pair (.pair (.int .i64) (.pair (.int .i64) (.pair (.int .i64) (.pair (.int .i64) (.int .i64))))) (.int .i64)))])], []⟩
abbrev used_O : FSch := ⟨.one (.c (.t (.int .i64))), []⟩
def used_E (F : Nat) : Ent := ⟨66, 1, used_I, used_O, fun s => used_S F s, []⟩
theorem used_ok (F : Nat) : FnSem Try.prog 66 1 used_I used_O (fun s => used_S F s) :=
  fn_ok (call := callD Try.prog 70 plans (check_T F) 20) (Fu := 70) (pl := plOf plans 66) (d := 1000) (an := .no) (callD_ok progMixed 70 plansOk (check_T_ok F) 20) progMixed (by kernel_rfl) (anP_ok (c := bodyOf Try.prog 66) (p := []) (trivial)) (fun s => by kernel_rfl)
def used_T (F : Nat) : List Ent := used_E F :: check_T F
theorem used_T_ok (F : Nat) : EntsOk Try.prog (used_T F) := ⟨⟨by kernel_rfl, used_ok F⟩, check_T_ok F⟩
abbrev atR_n : Nat := 2
def atR_S (F : Nat) (r : (Int × Int)) (place : Int) : Option (Int) := (some (IntKind.wrap IntKind.i64 (r.1 + (IntKind.wrap IntKind.i64 (Int.tdiv (IntKind.wrap IntKind.i64 ((IntKind.wrap IntKind.i64 (r.2 - r.1)) * (IntKind.wrap IntKind.i64 place))) (255 : Int))))))
abbrev atR_I : Sch := ⟨[(0, .ag [.t (.pair (.int .i64) (.int .i64))]), (1, .c (.t (.int .u8)))], []⟩
abbrev atR_O : FSch := ⟨.one (.c (.t (.int .i64))), []⟩
def atR_E (F : Nat) : Ent := ⟨37, 2, atR_I, atR_O, fun s => atR_S F s.1 s.2, []⟩
theorem atR_ok (F : Nat) : FnSem Try.prog 37 2 atR_I atR_O (fun s => atR_S F s.1 s.2) :=
  fn_ok (call := callD Try.prog 70 plans (used_T F) 20) (Fu := 70) (pl := plOf plans 37) (d := 1000) (an := .no) (callD_ok progMixed 70 plansOk (used_T_ok F) 20) progMixed (by kernel_rfl) (anP_ok (c := bodyOf Try.prog 37) (p := []) (trivial)) (fun s => by kernel_rfl)
def atR_T (F : Nat) : List Ent := atR_E F :: used_T F
theorem atR_T_ok (F : Nat) : EntsOk Try.prog (atR_T F) := ⟨⟨by kernel_rfl, atR_ok F⟩, used_T_ok F⟩
abbrev place_n : Nat := 2
def place_S (F : Nat) (i : Int) (t : (List Int)) : Option (Int) := (bif (((t.length - 0) : Int) == (0 : Int)) then (some (0 : Int)) else (bif (!(((t.length - 0) : Int) == (0 : Int))) then (bif (inB (Int.tmod i ((t.length - 0) : Int)) (t.length - 0)) then (some (nth t (0 : Int) (Int.tmod i ((t.length - 0) : Int)).toNat)) else none) else none))
abbrev place_I : Sch := ⟨[(0, .c (.k (.sl 0 1))), (1, .c (.t (.int .i64)))], [.ro (.int .u8)]⟩
abbrev place_O : FSch := ⟨.one (.c (.t (.int .u8))), [.dead]⟩
def place_E (F : Nat) : Ent := ⟨38, 2, place_I, place_O, fun s => place_S F s.1 s.2, []⟩
theorem place_ok (F : Nat) : FnSem Try.prog 38 2 place_I place_O (fun s => place_S F s.1 s.2) :=
  fn_ok (call := callD Try.prog 70 plans (atR_T F) 20) (Fu := 70) (pl := plOf plans 38) (d := 1000) (an := .no) (callD_ok progMixed 70 plansOk (atR_T_ok F) 20) progMixed (by kernel_rfl) (anP_ok (c := bodyOf Try.prog 38) (p := []) (trivial)) (fun s => by kernel_rfl)
def place_T (F : Nat) : List Ent := place_E F :: atR_T F
theorem place_T_ok (F : Nat) : EntsOk Try.prog (place_T F) := ⟨⟨by kernel_rfl, place_ok F⟩, atR_T_ok F⟩
abbrev sumOf_n : Nat := 1
def sumOf_L0 (F : Nat) (g0 : (List Int)) : Nat → Int → Int → Option ((Int × (List Int)))
  | 0, _, _ => none
  | n_ + 1, n, i => (bif (decide (i < ((g0.length - 0) : Int))) then (bif (inB i (g0.length - 0)) then (sumOf_L0 F g0 n_ (IntKind.wrap IntKind.i64 (n + (nth g0 (0 : Int) i.toNat))) (IntKind.wrap IntKind.i64 (i + (1 : Int)))) else none) else (some (n, g0)))
abbrev sumOf_L0_s : Sch := ⟨[(0, .c (.k (.sl 0 1))), (3, .c (.t (.int .i64))), (4, .c (.t (.int .i64)))], [.ro (.int .i64)]⟩
abbrev sumOf_L0_o : Outs := [((.exit 0), ⟨[(3, .c (.t (.int .i64)))], [.ro (.int .i64)]⟩)]
theorem sumOf_L0_ok (F : Nat) : ∀ n, LoopSem Try.prog 1 (tmpsOf Try.prog 16 sumOf_n) (subAt (bodyOf Try.prog 16) [1, 1, 0, 1, 0, 0]) sumOf_L0_s sumOf_L0_o (fun s => (sumOf_L0 F s.2 n s.1.1 s.1.2)) :=
  loop_ok (m := 1) (N := tmpsOf Try.prog 16 sumOf_n) (S := sumOf_L0_s) (o := sumOf_L0_o) (call := callD Try.prog 70 plans (place_T F) 20) (Fu := 70) (pl := (plOf plans 16)) (d := 1000) (an := .no) (M := fun n (s : sumOf_L0_s.ty) => (sumOf_L0 F s.2 n s.1.1 s.1.2)) (callD_ok progMixed 70 plansOk (place_T_ok F) 20) progMixed (anP_ok (c := bodyOf Try.prog 16) (p := [1, 1, 0, 1, 0, 0]) (trivial)) (by kernel_rfl) (fun _ => rfl) (fun n s => by
    show (sumOf_L0 F s.2 (n + 1) s.1.1 s.1.2) = _
    kernel_rfl)
def sumOf_S (F : Nat) (l : (List Int)) : Option (Int) := (ob (sumOf_L0 F l F (0 : Int) (0 : Int)) (fun s1 => (some s1.1)))
abbrev sumOf_I : Sch := ⟨[(0, .c (.k (.sl 0 1)))], [.ro (.int .i64)]⟩
abbrev sumOf_O : FSch := ⟨.one (.c (.t (.int .i64))), [.dead]⟩
def sumOf_E (F : Nat) : Ent := ⟨16, 1, sumOf_I, sumOf_O, fun s => sumOf_S F s, []⟩
theorem sumOf_ok (F : Nat) : FnSem Try.prog 16 1 sumOf_I sumOf_O (fun s => sumOf_S F s) :=
  fn_ok (call := callD Try.prog 70 plans (place_T F) 20) (Fu := 70) (pl := plOf plans 16) (d := 1000) (an := (.two .no (.two .no (.two (.two .no (.one (.loop sumOf_L0_s sumOf_L0_o (fun s => (sumOf_L0 F s.2 F s.1.1 s.1.2))))) .no)))) (callD_ok progMixed 70 plansOk (place_T_ok F) 20) progMixed (by kernel_rfl) (anP_ok (c := bodyOf Try.prog 16) (p := []) (⟨trivial, ⟨trivial, ⟨⟨trivial, (sumOf_L0_ok F F)⟩, trivial⟩⟩⟩)) (fun s => by kernel_rfl)
def sumOf_T (F : Nat) : List Ent := sumOf_E F :: place_T F
theorem sumOf_T_ok (F : Nat) : EntsOk Try.prog (sumOf_T F) := ⟨⟨by kernel_rfl, sumOf_ok F⟩, place_T_ok F⟩
abbrev indexF_n : Nat := 2
def indexF_L0 (F : Nat) (t7 : Int) (g0 : (List Int)) (g2 : (Int × Int)) : Nat → Int → Option ((Int × ((List Int) × (Int × Int))) ⊕ ((List Int) × (Int × Int)))
  | 0, _ => none
  | n_ + 1, t8 => (bif (decide (t8 < t7)) then (bif (inB t8 (g0.length - 0)) then (ob (within_S F (nth g0 (0 : Int) t8.toNat) g2.1 g2.2) (fun r => (bif (!r) then (some (.inl (t8, (g0, g2)))) else (indexF_L0 F t7 g0 g2 n_ (IntKind.wrap IntKind.i64 (t8 + (1 : Int))))))) else none) else (some (.inr (g0, g2))))
abbrev indexF_L0_s : Sch := ⟨[(0, .c (.k (.sl 0 1))), (1, .c (.k (.hv 1))), (7, .c (.t (.int .i64))), (8, .c (.t (.int .i64)))], [.ro (.int .i64), .clo 79 [] [.k (.pt 2 0 0 0)], .blk 24 [.t (.pair (.int .i64) (.int .i64))]]⟩
abbrev indexF_L0_o : Outs := [(.ret, ⟨[(4, .c (.t (.int .i64)))], [.ro (.int .i64), .clo 79 [] [.k (.pt 2 0 0 0)], .blk 24 [.t (.pair (.int .i64) (.int .i64))]]⟩), ((.exit 0), ⟨[], [.ro (.int .i64), .clo 79 [] [.k (.pt 2 0 0 0)], .blk 24 [.t (.pair (.int .i64) (.int .i64))]]⟩)]
theorem indexF_L0_ok (F : Nat) : ∀ n, LoopSem Try.prog 3 (tmpsOf Try.prog 58 indexF_n) (subAt (bodyOf Try.prog 58) [1, 0, 1, 0, 0]) indexF_L0_s indexF_L0_o (fun s => (indexF_L0 F s.1.1 s.2.1 s.2.2 n s.1.2)) :=
  loop_ok (m := 3) (N := tmpsOf Try.prog 58 indexF_n) (S := indexF_L0_s) (o := indexF_L0_o) (call := callD Try.prog 70 plans (sumOf_T F) 20) (Fu := 70) (pl := (plOf plans 58)) (d := 1000) (an := .no) (M := fun n (s : indexF_L0_s.ty) => (indexF_L0 F s.1.1 s.2.1 s.2.2 n s.1.2)) (callD_ok progMixed 70 plansOk (sumOf_T_ok F) 20) progMixed (anP_ok (c := bodyOf Try.prog 58) (p := [1, 0, 1, 0, 0]) (trivial)) (by kernel_rfl) (fun _ => rfl) (fun n s => by
    show (indexF_L0 F s.1.1 s.2.1 s.2.2 (n + 1) s.1.2) = _
    kernel_rfl)
def indexF_S (F : Nat) (s1 : (List Int)) (f0 : (Int × Int)) : Option ((Int × (Int × Int))) := (ob (indexF_L0 F ((s1.length - 0) : Int) s1 f0 F (0 : Int)) (fun o_ => su o_ (fun s2 => (some (s2.1, s2.2.2))) (fun s3 => (some ((-1 : Int), s3.2)))))
abbrev indexF_I : Sch := ⟨[(0, .c (.k (.sl 0 1))), (1, .c (.k (.hv 1)))], [.ro (.int .i64), .clo 79 [] [.k (.pt 2 0 0 0)], .blk 24 [.t (.pair (.int .i64) (.int .i64))]]⟩
abbrev indexF_O : FSch := ⟨.one (.c (.t (.int .i64))), [.dead, .dead, .blk 24 [.t (.pair (.int .i64) (.int .i64))]]⟩
def indexF_E (F : Nat) : Ent := ⟨58, 2, indexF_I, indexF_O, fun s => indexF_S F s.1 s.2, []⟩
theorem indexF_ok (F : Nat) : FnSem Try.prog 58 2 indexF_I indexF_O (fun s => indexF_S F s.1 s.2) :=
  fn_ok (call := callD Try.prog 70 plans (sumOf_T F) 20) (Fu := 70) (pl := plOf plans 58) (d := 1000) (an := (.two .no (.two (.two .no (.one (.loop indexF_L0_s indexF_L0_o (fun s => (indexF_L0 F s.1.1 s.2.1 s.2.2 F s.1.2))))) .no))) (callD_ok progMixed 70 plansOk (sumOf_T_ok F) 20) progMixed (by kernel_rfl) (anP_ok (c := bodyOf Try.prog 58) (p := []) (⟨trivial, ⟨⟨trivial, (indexF_L0_ok F F)⟩, trivial⟩⟩)) (fun s => by kernel_rfl)
def indexF_T (F : Nat) : List Ent := indexF_E F :: sumOf_T F
theorem indexF_T_ok (F : Nat) : EntsOk Try.prog (indexF_T F) := ⟨⟨by kernel_rfl, indexF_ok F⟩, sumOf_T_ok F⟩
abbrev contF_n : Nat := 2
def contF_S (F : Nat) (s1 : (List Int)) (f0 : (Int × Int)) : Option ((Bool × (Int × Int))) := (ob (indexF_S F s1 f0) (fun r => (some ((decide (r.1 ≥ (0 : Int))), r.2))))
abbrev contF_I : Sch := ⟨[(0, .c (.k (.sl 0 1))), (1, .c (.k (.hv 1)))], [.ro (.int .i64), .clo 79 [] [.k (.pt 2 0 0 0)], .blk 24 [.t (.pair (.int .i64) (.int .i64))]]⟩
abbrev contF_O : FSch := ⟨.one (.c (.t .bool)), [.dead, .dead, .blk 24 [.t (.pair (.int .i64) (.int .i64))]]⟩
def contF_E (F : Nat) : Ent := ⟨22, 2, contF_I, contF_O, fun s => contF_S F s.1 s.2, []⟩
theorem contF_ok (F : Nat) : FnSem Try.prog 22 2 contF_I contF_O (fun s => contF_S F s.1 s.2) :=
  fn_ok (call := callD Try.prog 70 plans (indexF_T F) 20) (Fu := 70) (pl := plOf plans 22) (d := 1000) (an := .no) (callD_ok progMixed 70 plansOk (indexF_T_ok F) 20) progMixed (by kernel_rfl) (anP_ok (c := bodyOf Try.prog 22) (p := []) (trivial)) (fun s => by kernel_rfl)
def contF_T (F : Nat) : List Ent := contF_E F :: indexF_T F
theorem contF_T_ok (F : Nat) : EntsOk Try.prog (contF_T F) := ⟨⟨by kernel_rfl, contF_ok F⟩, indexF_T_ok F⟩
abbrev within7_n : Nat := 3
def within7_S (F : Nat) (n : Int) (least : Int) (most : Int) : Option (Bool) := (bif (decide (n ≥ least)) then (some (decide (n ≤ most))) else (some false))
abbrev within7_I : Sch := ⟨[(0, .c (.t (.int .i64))), (1, .c (.t (.int .i64))), (2, .c (.t (.int .i64)))], []⟩
abbrev within7_O : FSch := ⟨.one (.c (.t .bool)), []⟩
def within7_E (F : Nat) : Ent := ⟨71, 3, within7_I, within7_O, fun s => within7_S F s.1 s.2.1 s.2.2, []⟩
theorem within7_ok (F : Nat) : FnSem Try.prog 71 3 within7_I within7_O (fun s => within7_S F s.1 s.2.1 s.2.2) :=
  fn_ok (call := callD Try.prog 70 plans (contF_T F) 20) (Fu := 70) (pl := plOf plans 71) (d := 1000) (an := .no) (callD_ok progMixed 70 plansOk (contF_T_ok F) 20) progMixed (by kernel_rfl) (anP_ok (c := bodyOf Try.prog 71) (p := []) (trivial)) (fun s => by kernel_rfl)
def within7_T (F : Nat) : List Ent := within7_E F :: contF_T F
theorem within7_T_ok (F : Nat) : EntsOk Try.prog (within7_T F) := ⟨⟨by kernel_rfl, within7_ok F⟩, contF_T_ok F⟩
abbrev indexB_n : Nat := 2
def indexB_L0 (F : Nat) (t7 : Int) (g0 : (List (Int × Int))) : Nat → Int → Option ((Int × (List (Int × Int))) ⊕ (List (Int × Int)))
  | 0, _ => none
  | n_ + 1, t8 => (bif (decide (t8 < t7)) then (bif (inB t8 (g0.length - 0)) then (ob (within7_S F (nth g0 (TC.dflt (TC.pair (TC.int IntKind.i64) (TC.int IntKind.i64))) t8.toNat).1 (1 : Int) (3000 : Int)) (fun r => (bif (!r) then (some (.inl (t8, g0))) else (ob (within7_S F (nth g0 (TC.dflt (TC.pair (TC.int IntKind.i64) (TC.int IntKind.i64))) t8.toNat).2 (-1 : Int) (1000 : Int)) (fun r1 => (bif (!r1) then (some (.inl (t8, g0))) else (indexB_L0 F t7 g0 n_ (IntKind.wrap IntKind.i64 (t8 + (1 : Int)))))))))) else none) else (some (.inr g0)))
abbrev indexB_L0_s : Sch := ⟨[(0, .c (.k (.sl 0 2))), (1, .c (.k (.lit (.func (.func 70) ⟨[]⟩ ⟨[]⟩)))), (7, .c (.t (.int .i64))), (8, .c (.t (.int .i64)))], [.ro (.pair (.int .i64) (.int .i64))]⟩
abbrev indexB_L0_o : Outs := [(.ret, ⟨[(4, .c (.t (.int .i64)))], [.ro (.pair (.int .i64) (.int .i64))]⟩), ((.exit 0), ⟨[], [.ro (.pair (.int .i64) (.int .i64))]⟩)]
theorem indexB_L0_ok (F : Nat) : ∀ n, LoopSem Try.prog 1 (tmpsOf Try.prog 99 indexB_n) (subAt (bodyOf Try.prog 99) [1, 0, 1, 0, 0]) indexB_L0_s indexB_L0_o (fun s => (indexB_L0 F s.1.1 s.2 n s.1.2)) :=
  loop_ok (m := 1) (N := tmpsOf Try.prog 99 indexB_n) (S := indexB_L0_s) (o := indexB_L0_o) (call := callD Try.prog 70 plans (within7_T F) 20) (Fu := 70) (pl := (plOf plans 99)) (d := 1000) (an := .no) (M := fun n (s : indexB_L0_s.ty) => (indexB_L0 F s.1.1 s.2 n s.1.2)) (callD_ok progMixed 70 plansOk (within7_T_ok F) 20) progMixed (anP_ok (c := bodyOf Try.prog 99) (p := [1, 0, 1, 0, 0]) (trivial)) (by kernel_rfl) (fun _ => rfl) (fun n s => by
    show (indexB_L0 F s.1.1 s.2 (n + 1) s.1.2) = _
    kernel_rfl)
def indexB_S (F : Nat) (s1 : (List (Int × Int))) : Option (Int) := (ob (indexB_L0 F ((s1.length - 0) : Int) s1 F (0 : Int)) (fun o_ => su o_ (fun s2 => (some s2.1)) (fun s3 => (some (-1 : Int)))))
abbrev indexB_I : Sch := ⟨[(0, .c (.k (.sl 0 2))), (1, .c (.k (.lit (.func (.func 70) ⟨[]⟩ ⟨[]⟩))))], [.ro (.pair (.int .i64) (.int .i64))]⟩
abbrev indexB_O : FSch := ⟨.one (.c (.t (.int .i64))), [.dead]⟩
def indexB_E (F : Nat) : Ent := ⟨99, 2, indexB_I, indexB_O, fun s => indexB_S F s, []⟩
theorem indexB_ok (F : Nat) : FnSem Try.prog 99 2 indexB_I indexB_O (fun s => indexB_S F s) :=
  fn_ok (call := callD Try.prog 70 plans (within7_T F) 20) (Fu := 70) (pl := plOf plans 99) (d := 1000) (an := (.two .no (.two (.two .no (.one (.loop indexB_L0_s indexB_L0_o (fun s => (indexB_L0 F s.1.1 s.2 F s.1.2))))) .no))) (callD_ok progMixed 70 plansOk (within7_T_ok F) 20) progMixed (by kernel_rfl) (anP_ok (c := bodyOf Try.prog 99) (p := []) (⟨trivial, ⟨⟨trivial, (indexB_L0_ok F F)⟩, trivial⟩⟩)) (fun s => by kernel_rfl)
def indexB_T (F : Nat) : List Ent := indexB_E F :: within7_T F
theorem indexB_T_ok (F : Nat) : EntsOk Try.prog (indexB_T F) := ⟨⟨by kernel_rfl, indexB_ok F⟩, within7_T_ok F⟩
abbrev contB_n : Nat := 2
def contB_S (F : Nat) (s1 : (List (Int × Int))) : Option (Bool) := (ob (indexB_S F s1) (fun r => (some (decide (r ≥ (0 : Int))))))
abbrev contB_I : Sch := ⟨[(0, .c (.k (.sl 0 2))), (1, .c (.k (.lit (.func (.func 70) ⟨[]⟩ ⟨[]⟩))))], [.ro (.pair (.int .i64) (.int .i64))]⟩
abbrev contB_O : FSch := ⟨.one (.c (.t .bool)), [.dead]⟩
def contB_E (F : Nat) : Ent := ⟨72, 2, contB_I, contB_O, fun s => contB_S F s, []⟩
theorem contB_ok (F : Nat) : FnSem Try.prog 72 2 contB_I contB_O (fun s => contB_S F s) :=
  fn_ok (call := callD Try.prog 70 plans (indexB_T F) 20) (Fu := 70) (pl := plOf plans 72) (d := 1000) (an := .no) (callD_ok progMixed 70 plansOk (indexB_T_ok F) 20) progMixed (by kernel_rfl) (anP_ok (c := bodyOf Try.prog 72) (p := []) (trivial)) (fun s => by kernel_rfl)
def contB_T (F : Nat) : List Ent := contB_E F :: indexB_T F
theorem contB_T_ok (F : Nat) : EntsOk Try.prog (contB_T F) := ⟨⟨by kernel_rfl, contB_ok F⟩, indexB_T_ok F⟩
abbrev len7_n : Nat := 1
def len7_L0 (F : Nat) (t6 : Int) (g0 : (List (Int × Int))) : Nat → Int → Int → Option ((Int × (List (Int × Int))))
  | 0, _, _ => none
  | n_ + 1, n, t7 => (bif (decide (t7 < t6)) then (bif (inB t7 (g0.length - 0)) then (len7_L0 F t6 g0 n_ (IntKind.wrap IntKind.i64 (n + (if (3001 : Int) < (nth g0 (TC.dflt (TC.pair (TC.int IntKind.i64) (TC.int IntKind.i64))) t7.toNat).1 then (3001 : Int) else (nth g0 (TC.dflt (TC.pair (TC.int IntKind.i64) (TC.int IntKind.i64))) t7.toNat).1))) (IntKind.wrap IntKind.i64 (t7 + (1 : Int)))) else none) else (some (n, g0)))
abbrev len7_L0_s : Sch := ⟨[(2, .c (.t (.int .i64))), (5, .c (.k (.sl 0 2))), (6, .c (.t (.int .i64))), (7, .c (.t (.int .i64)))], [.ro (.pair (.int .i64) (.int .i64))]⟩
abbrev len7_L0_o : Outs := [((.exit 0), ⟨[(2, .c (.t (.int .i64)))], [.ro (.pair (.int .i64) (.int .i64))]⟩)]
theorem len7_L0_ok (F : Nat) : ∀ n, LoopSem Try.prog 1 (tmpsOf Try.prog 73 len7_n) (subAt (bodyOf Try.prog 73) [1, 0, 1, 0, 0]) len7_L0_s len7_L0_o (fun s => (len7_L0 F s.1.2.1 s.2 n s.1.1 s.1.2.2)) :=
  loop_ok (m := 1) (N := tmpsOf Try.prog 73 len7_n) (S := len7_L0_s) (o := len7_L0_o) (call := callD Try.prog 70 plans (contB_T F) 20) (Fu := 70) (pl := (plOf plans 73)) (d := 1000) (an := .no) (M := fun n (s : len7_L0_s.ty) => (len7_L0 F s.1.2.1 s.2 n s.1.1 s.1.2.2)) (callD_ok progMixed 70 plansOk (contB_T_ok F) 20) progMixed (anP_ok (c := bodyOf Try.prog 73) (p := [1, 0, 1, 0, 0]) (trivial)) (by kernel_rfl) (fun _ => rfl) (fun n s => by
    show (len7_L0 F s.1.2.1 s.2 (n + 1) s.1.1 s.1.2.2) = _
    kernel_rfl)
def len7_S (F : Nat) (l : (List (Int × Int))) : Option (Int) := (ob (len7_L0 F ((l.length - 0) : Int) l F (0 : Int) (0 : Int)) (fun s1 => (some s1.1)))
abbrev len7_I : Sch := ⟨[(0, .c (.k (.sl 0 2)))], [.ro (.pair (.int .i64) (.int .i64))]⟩
abbrev len7_O : FSch := ⟨.one (.c (.t (.int .i64))), [.dead]⟩
def len7_E (F : Nat) : Ent := ⟨73, 1, len7_I, len7_O, fun s => len7_S F s, []⟩
theorem len7_ok (F : Nat) : FnSem Try.prog 73 1 len7_I len7_O (fun s => len7_S F s) :=
  fn_ok (call := callD Try.prog 70 plans (contB_T F) 20) (Fu := 70) (pl := plOf plans 73) (d := 1000) (an := (.two .no (.two (.two .no (.one (.loop len7_L0_s len7_L0_o (fun s => (len7_L0 F s.1.2.1 s.2 F s.1.1 s.1.2.2))))) .no))) (callD_ok progMixed 70 plansOk (contB_T_ok F) 20) progMixed (by kernel_rfl) (anP_ok (c := bodyOf Try.prog 73) (p := []) (⟨trivial, ⟨⟨trivial, (len7_L0_ok F F)⟩, trivial⟩⟩)) (fun s => by kernel_rfl)
def len7_T (F : Nat) : List Ent := len7_E F :: contB_T F
theorem len7_T_ok (F : Nat) : EntsOk Try.prog (len7_T F) := ⟨⟨by kernel_rfl, len7_ok F⟩, contB_T_ok F⟩
abbrev check7_n : Nat := 2
def check7_S (F : Nat) (s1 : (Int × (Int × Int))) (l : (List (Int × Int))) : Option (Int) := (bif (decide (((l.length - 0) : Int) > (60 : Int))) then (some (5 : Int)) else (ob (ob (contB_S F l) (fun r => (bif r then (some (true, l)) else (ob (len7_S F l) (fun r1 => (bif (decide (r1 > (3000 : Int))) then (some (true, l)) else (bif (decide (s1.1 < (1 : Int))) then (some (true, l)) else (bif (decide (s1.1 > s1.2.1)) then (some (true, l)) else (bif (decide (s1.2.1 > (600 : Int))) then (some (true, l)) else (ob (within7_S F s1.2.2 (0 : Int) (20 : Int)) (fun r2 => (some ((!r2), l))))))))))))) (fun s2 => (bif s2.1 then (some (2 : Int)) else (some (0 : Int))))))
abbrev check7_I : Sch := ⟨[(0, .c (.k (.sl 0 2))), (1, .ag [.t (.pair (.int .i64) (.pair (.int .i64) (.int .i64)))])], [.ro (.pair (.int .i64) (.int .i64))]⟩
abbrev check7_O : FSch := ⟨.one (.c (.t (.int .i64))), [.dead]⟩
def check7_E (F : Nat) : Ent := ⟨32, 2, check7_I, check7_O, fun s => check7_S F s.1 s.2, []⟩
theorem check7_ok (F : Nat) : FnSem Try.prog 32 2 check7_I check7_O (fun s => check7_S F s.1 s.2) :=
  fn_ok (call := callD Try.prog 70 plans (len7_T F) 20) (Fu := 70) (pl := plOf plans 32) (d := 1000) (an := (.two .no (.two .no (.two (.one (.two .no (.two .no (.two (.join [(.normal, ⟨[(10, .c (.t .bool))], [.ro (.pair (.int .i64) (.int .i64))]⟩)] .no) .no)))) .no)))) (callD_ok progMixed 70 plansOk (len7_T_ok F) 20) progMixed (by kernel_rfl) (anP_ok (c := bodyOf Try.prog 32) (p := []) (⟨trivial, ⟨trivial, ⟨⟨trivial, ⟨trivial, ⟨trivial, trivial⟩⟩⟩, trivial⟩⟩⟩)) (fun s => by kernel_rfl)
def check7_T (F : Nat) : List Ent := check7_E F :: len7_T F
theorem check7_T_ok (F : Nat) : EntsOk Try.prog (check7_T F) := ⟨⟨by kernel_rfl, check7_ok F⟩, len7_T_ok F⟩
abbrev behind_n : Nat := 2
def behind_S (F : Nat) (b : (Int × (Int × Int))) (x : (Int × Int)) (b_worth : (List Int)) : Option (Int) := (some (if ((b_worth.length - 0) : Int) < (IntKind.wrap IntKind.i64 (x.2 + b.2.2)) then ((b_worth.length - 0) : Int) else (IntKind.wrap IntKind.i64 (x.2 + b.2.2))))
abbrev behind_I : Sch := ⟨[(0, .ag [.t (.pair (.int .i64) (.pair (.int .i64) (.int .i64))), .k (.sl 0 1)]), (1, .ag [.t (.pair (.int .i64) (.int .i64))])], [.ro (.int .i64)]⟩
abbrev behind_O : FSch := ⟨.one (.c (.t (.int .i64))), [.dead]⟩
def behind_E (F : Nat) : Ent := ⟨35, 2, behind_I, behind_O, fun s => behind_S F s.1.1 s.1.2 s.2, []⟩
theorem behind_ok (F : Nat) : FnSem Try.prog 35 2 behind_I behind_O (fun s => behind_S F s.1.1 s.1.2 s.2) :=
  fn_ok (call := callD Try.prog 70 plans (check7_T F) 20) (Fu := 70) (pl := plOf plans 35) (d := 1000) (an := .no) (callD_ok progMixed 70 plansOk (check7_T_ok F) 20) progMixed (by kernel_rfl) (anP_ok (c := bodyOf Try.prog 35) (p := []) (trivial)) (fun s => by kernel_rfl)
def behind_T (F : Nat) : List Ent := behind_E F :: check7_T F
theorem behind_T_ok (F : Nat) : EntsOk Try.prog (behind_T F) := ⟨⟨by kernel_rfl, behind_ok F⟩, check7_T_ok F⟩
abbrev cmpI_n : Nat := 2
def cmpI_S (F : Nat) (x : Int) (y : Int) : Option (Int) := (bif (x != x) then (bif (y != y) then (some (0 : Int)) else (some (-1 : Int))) else (bif (y != y) then (some (1 : Int)) else (bif (decide (x < y)) then (some (-1 : Int)) else (bif (decide (x > y)) then (some (1 : Int)) else (some (0 : Int))))))
abbrev cmpI_I : Sch := ⟨[(0, .c (.t (.int .i64))), (1, .c (.t (.int .i64)))], []⟩
abbrev cmpI_O : FSch := ⟨.one (.c (.t (.int .i64))), []⟩
def cmpI_E (F : Nat) : Ent := ⟨103, 2, cmpI_I, cmpI_O, fun s => cmpI_S F s.1 s.2, []⟩
theorem cmpI_ok (F : Nat) : FnSem Try.prog 103 2 cmpI_I cmpI_O (fun s => cmpI_S F s.1 s.2) :=
  fn_ok (call := callD Try.prog 70 plans (behind_T F) 20) (Fu := 70) (pl := plOf plans 103) (d := 1000) (an := .no) (callD_ok progMixed 70 plansOk (behind_T_ok F) 20) progMixed (by kernel_rfl) (anP_ok (c := bodyOf Try.prog 103) (p := []) (trivial)) (fun s => by kernel_rfl)
def cmpI_T (F : Nat) : List Ent := cmpI_E F :: behind_T F
theorem cmpI_T_ok (F : Nat) : EntsOk Try.prog (cmpI_T F) := ⟨⟨by kernel_rfl, cmpI_ok F⟩, behind_T_ok F⟩
abbrev orI_n : Nat := 1
def orI_L0 (F : Nat) (zero : Int) (t7 : Int) (g0 : (List Int)) : Nat → Int → Option ((Int × (List Int)) ⊕ (Int × (List Int)))
  | 0, _ => none
  | n_ + 1, t8 => (bif (decide (t8 < t7)) then (bif (inB t8 (g0.length - 0)) then (bif ((nth g0 (0 : Int) t8.toNat) != zero) then (some (.inl ((nth g0 (0 : Int) t8.toNat), g0))) else (orI_L0 F zero t7 g0 n_ (IntKind.wrap IntKind.i64 (t8 + (1 : Int))))) else none) else (some (.inr (zero, g0))))
abbrev orI_L0_s : Sch := ⟨[(3, .c (.t (.int .i64))), (6, .c (.k (.sl 0 1))), (7, .c (.t (.int .i64))), (8, .c (.t (.int .i64)))], [.ro (.int .i64)]⟩
abbrev orI_L0_o : Outs := [(.ret, ⟨[(2, .c (.t (.int .i64)))], [.ro (.int .i64)]⟩), ((.exit 0), ⟨[(3, .c (.t (.int .i64)))], [.ro (.int .i64)]⟩)]
theorem orI_L0_ok (F : Nat) : ∀ n, LoopSem Try.prog 1 (tmpsOf Try.prog 102 orI_n) (subAt (bodyOf Try.prog 102) [1, 1, 0, 1, 0, 0]) orI_L0_s orI_L0_o (fun s => (orI_L0 F s.1.1 s.1.2.1 s.2 n s.1.2.2)) :=
  loop_ok (m := 1) (N := tmpsOf Try.prog 102 orI_n) (S := orI_L0_s) (o := orI_L0_o) (call := callD Try.prog 70 plans (cmpI_T F) 20) (Fu := 70) (pl := (plOf plans 102)) (d := 1000) (an := .no) (M := fun n (s : orI_L0_s.ty) => (orI_L0 F s.1.1 s.1.2.1 s.2 n s.1.2.2)) (callD_ok progMixed 70 plansOk (cmpI_T_ok F) 20) progMixed (anP_ok (c := bodyOf Try.prog 102) (p := [1, 1, 0, 1, 0, 0]) (trivial)) (by kernel_rfl) (fun _ => rfl) (fun n s => by
    show (orI_L0 F s.1.1 s.1.2.1 s.2 (n + 1) s.1.2.2) = _
    kernel_rfl)
def orI_S (F : Nat) (vals : (List Int)) : Option (Int) := (ob (orI_L0 F (0 : Int) ((vals.length - 0) : Int) vals F (0 : Int)) (fun o_ => su o_ (fun s1 => (some s1.1)) (fun s2 => (some s2.1))))
abbrev orI_I : Sch := ⟨[(0, .c (.k (.sl 0 1)))], [.ro (.int .i64)]⟩
abbrev orI_O : FSch := ⟨.one (.c (.t (.int .i64))), [.dead]⟩
def orI_E (F : Nat) : Ent := ⟨102, 1, orI_I, orI_O, fun s => orI_S F s, []⟩
theorem orI_ok (F : Nat) : FnSem Try.prog 102 1 orI_I orI_O (fun s => orI_S F s) :=
  fn_ok (call := callD Try.prog 70 plans (cmpI_T F) 20) (Fu := 70) (pl := plOf plans 102) (d := 1000) (an := (.two .no (.two .no (.two (.two .no (.one (.loop orI_L0_s orI_L0_o (fun s => (orI_L0 F s.1.1 s.1.2.1 s.2 F s.1.2.2))))) .no)))) (callD_ok progMixed 70 plansOk (cmpI_T_ok F) 20) progMixed (by kernel_rfl) (anP_ok (c := bodyOf Try.prog 102) (p := []) (⟨trivial, ⟨trivial, ⟨⟨trivial, (orI_L0_ok F F)⟩, trivial⟩⟩⟩)) (fun s => by kernel_rfl)
def orI_T (F : Nat) : List Ent := orI_E F :: cmpI_T F
theorem orI_T_ok (F : Nat) : EntsOk Try.prog (orI_T F) := ⟨⟨by kernel_rfl, orI_ok F⟩, cmpI_T_ok F⟩
abbrev restCmp_n : Nat := 2
def restCmp_S (F : Nat) (r : (Int × (Int × (Int × Int)))) (other : (Int × (Int × (Int × Int)))) : Option (Int) := (ob (cmpI_S F r.1 other.1) (fun r1 => (ob (cmpI_S F other.2.1 r.2.1) (fun r2 => (ob (orI_S F (r1 :: (r2 :: []))) (fun r3 => (some r3)))))))
abbrev restCmp_I : Sch := ⟨[(0, .ag [.t (.pair (.int .i64) (.pair (.int .i64) (.pair (.int .i64) (.int .i64))))]), (1, .ag [.t (.pair (.int .i64) (.pair (.int .i64) (.pair (.int .i64) (.int .i64))))])], []⟩
abbrev restCmp_O : FSch := ⟨.one (.c (.t (.int .i64))), []⟩
def restCmp_E (F : Nat) : Ent := ⟨76, 2, restCmp_I, restCmp_O, fun s => restCmp_S F s.1 s.2, []⟩
theorem restCmp_ok (F : Nat) : FnSem Try.prog 76 2 restCmp_I restCmp_O (fun s => restCmp_S F s.1 s.2) :=
  fn_ok (call := callD Try.prog 70 plans (orI_T F) 20) (Fu := 70) (pl := plOf plans 76) (d := 1000) (an := .no) (callD_ok progMixed 70 plansOk (orI_T_ok F) 20) progMixed (by kernel_rfl) (anP_ok (c := bodyOf Try.prog 76) (p := []) (trivial)) (fun s => by kernel_rfl)
def restCmp_T (F : Nat) : List Ent := restCmp_E F :: orI_T F
theorem restCmp_T_ok (F : Nat) : EntsOk Try.prog (restCmp_T F) := ⟨⟨by kernel_rfl, restCmp_ok F⟩, orI_T_ok F⟩
abbrev minL_n : Nat := 1
def minL_L0 (F : Nat) (x2 : (Nat × Nat)) (g0 : (List Int)) : Nat → Int → Int → Option ((Int × (List Int)))
  | 0, _, _ => none
  | n_ + 1, m, i => (bif (decide (i < (x2.2 : Int))) then (bif (inB i x2.2) then (minL_L0 F x2 g0 n_ (if (elemAt (TC.int IntKind.i64) g0 (addN x2.1 i.toNat)) < m then (nth g0 (0 : Int) (addN x2.1 i.toNat)) else m) (IntKind.wrap IntKind.i64 (i + (1 : Int)))) else none) else (some (m, g0)))
abbrev minL_L0_s : Sch := ⟨[(0, .c (.k (.sp 0 1))), (3, .c (.t (.int .i64))), (4, .c (.t (.int .i64)))], [.ro (.int .i64)]⟩
abbrev minL_L0_o : Outs := [((.exit 0), ⟨[(3, .c (.t (.int .i64)))], [.ro (.int .i64)]⟩)]
theorem minL_L0_ok (F : Nat) : ∀ n, LoopSem Try.prog 1 (tmpsOf Try.prog 115 minL_n) (subAt (bodyOf Try.prog 115) [1, 1, 1, 0, 1, 0, 0]) minL_L0_s minL_L0_o (fun s => (minL_L0 F s.1.1 s.2 n s.1.2.1 s.1.2.2)) :=
  loop_ok (m := 1) (N := tmpsOf Try.prog 115 minL_n) (S := minL_L0_s) (o := minL_L0_o) (call := callD Try.prog 70 plans (restCmp_T F) 20) (Fu := 70) (pl := (plOf plans 115)) (d := 1000) (an := .no) (M := fun n (s : minL_L0_s.ty) => (minL_L0 F s.1.1 s.2 n s.1.2.1 s.1.2.2)) (callD_ok progMixed 70 plansOk (restCmp_T_ok F) 20) progMixed (anP_ok (c := bodyOf Try.prog 115) (p := [1, 1, 1, 0, 1, 0, 0]) (trivial)) (by kernel_rfl) (fun _ => rfl) (fun n s => by
    show (minL_L0 F s.1.1 s.2 (n + 1) s.1.2.1 s.1.2.2) = _
    kernel_rfl)
def minL_S (F : Nat) (x : (Nat × Nat)) (x1 : (List Int)) : Option (Int) := (bif (decide ((x.2 : Int) < (1 : Int))) then none else (bif (inB (0 : Int) x.2) then (ob (minL_L0 F x x1 F (nth x1 (0 : Int) (addN x.1 0)) (1 : Int)) (fun s1 => (some s1.1))) else none))
abbrev minL_I : Sch := ⟨[(0, .c (.k (.sp 0 1)))], [.ro (.int .i64)]⟩
abbrev minL_O : FSch := ⟨.one (.c (.t (.int .i64))), [.dead]⟩
def minL_E (F : Nat) : Ent := ⟨115, 1, minL_I, minL_O, fun s => minL_S F s.1 s.2, []⟩
theorem minL_ok (F : Nat) : FnSem Try.prog 115 1 minL_I minL_O (fun s => minL_S F s.1 s.2) :=
  fn_ok (call := callD Try.prog 70 plans (restCmp_T F) 20) (Fu := 70) (pl := plOf plans 115) (d := 1000) (an := (.two .no (.two .no (.two .no (.two (.two .no (.one (.loop minL_L0_s minL_L0_o (fun s => (minL_L0 F s.1.1 s.2 F s.1.2.1 s.1.2.2))))) .no))))) (callD_ok progMixed 70 plansOk (restCmp_T_ok F) 20) progMixed (by kernel_rfl) (anP_ok (c := bodyOf Try.prog 115) (p := []) (⟨trivial, ⟨trivial, ⟨trivial, ⟨⟨trivial, (minL_L0_ok F F)⟩, trivial⟩⟩⟩⟩)) (fun s => by kernel_rfl)
def minL_T (F : Nat) : List Ent := minL_E F :: restCmp_T F
theorem minL_T_ok (F : Nat) : EntsOk Try.prog (minL_T F) := ⟨⟨by kernel_rfl, minL_ok F⟩, restCmp_T_ok F⟩
abbrev value_n : Nat := 2
def value_S (F : Nat) (b : (Int × (Int × Int))) (x : (Int × Int)) (b_worth : (List Int)) : Option ((Int × Bool)) := (ob (bif (decide (x.1 < (0 : Int))) then (some (true, (b_worth, b, x))) else (bif (decide (x.2 > ((b_worth.length - 0) : Int))) then (some (true, (b_worth, b, x))) else (bif (decide (x.1 > x.2)) then (some (true, (b_worth, b, x))) else (ob (within7_S F (IntKind.wrap IntKind.i64 (x.2 - x.1)) b.1 b.2.1) (fun r => (some ((!r), (b_worth, b, x)))))))) (fun s1 => (bif s1.1 then (some ((0 : Int), false)) else (bif (inC s1.2.2.2.2 (s1.2.1.length - 0)) then (bif (inC s1.2.2.2.1 s1.2.2.2.2.toNat) then (ob (minL_S F (s1.2.2.2.1.toNat, (s1.2.2.2.2.toNat - s1.2.2.2.1.toNat)) s1.2.1) (fun r1 => (some ((IntKind.wrap IntKind.i64 (r1 * (IntKind.wrap IntKind.i64 (s1.2.2.2.2 - s1.2.2.2.1)))), (decide (r1 ≥ (0 : Int))))))) else none) else none))))
abbrev value_I : Sch := ⟨[(0, .ag [.t (.pair (.int .i64) (.pair (.int .i64) (.int .i64))), .k (.sl 0 1)]), (1, .ag [.t (.pair (.int .i64) (.int .i64))])], [.ro (.int .i64)]⟩
abbrev value_O : FSch := ⟨.tu [(false, [.t (.int .i64)]), (false, [.t .bool])], [.dead]⟩
def value_E (F : Nat) : Ent := ⟨104, 2, value_I, value_O, fun s => value_S F s.1.1 s.1.2 s.2, []⟩
theorem value_ok (F : Nat) : FnSem Try.prog 104 2 value_I value_O (fun s => value_S F s.1.1 s.1.2 s.2) :=
  fn_ok (call := callD Try.prog 70 plans (minL_T F) 20) (Fu := 70) (pl := plOf plans 104) (d := 1000) (an := (.two .no (.two (.two (.join [(.normal, ⟨[(2, .c (.k (.pt 1 0 0 0))), (3, .c (.k (.pt 2 0 0 0))), (39, .c (.t .bool))], [.ro (.int .i64), .blk 102 [.t (.int .i64), .t (.int .i64), .t (.int .i64), .k (.sl 0 1)], .blk 63 [.t (.pair (.int .i64) (.int .i64))]]⟩)] .no) .no) .no))) (callD_ok progMixed 70 plansOk (minL_T_ok F) 20) progMixed (by kernel_rfl) (anP_ok (c := bodyOf Try.prog 104) (p := []) (⟨trivial, ⟨⟨trivial, trivial⟩, trivial⟩⟩)) (fun s => by kernel_rfl)
def value_T (F : Nat) : List Ent := value_E F :: minL_T F
theorem value_T_ok (F : Nat) : EntsOk Try.prog (value_T F) := ⟨⟨by kernel_rfl, value_ok F⟩, minL_T_ok F⟩
abbrev total_n : Nat := 2
def total_L0 (F : Nat) : Nat → Int → Int → Int → (List Int) → (List (Int × Int)) → (Int × (Int × Int)) → Option (((Int × Bool) × ((List Int) × (List (Int × Int)))) ⊕ (Int × ((List Int) × (List (Int × Int)))))
  | 0, _, _, _, _, _, _ => none
  | n_ + 1, sum, t11, t12, g0, g1, b1 => (bif (decide (t12 < t11)) then (bif (inB t12 (g1.length - 0)) then (ob (value_S F b1 (nth g1 (TC.dflt (TC.pair (TC.int IntKind.i64) (TC.int IntKind.i64))) t12.toNat) g0) (fun r => (ob (bif (!r.2) then (some ((sum, r.1, t11, t12, true), (g0, g1, b1))) else (bif (decide (t12 > (0 : Int))) then (bif (inB (IntKind.wrap IntKind.i64 (t12 - (1 : Int))) (g1.length - 0)) then (some ((sum, r.1, t11, t12, (decide ((nth g1 (TC.dflt (TC.pair (TC.int IntKind.i64) (TC.int IntKind.i64))) t12.toNat).1 < (IntKind.wrap IntKind.i64 ((nth g1 (TC.dflt (TC.pair (TC.int IntKind.i64) (TC.int IntKind.i64))) (IntKind.wrap IntKind.i64 (t12 - (1 : Int))).toNat).2 + b1.2.2))))), (g0, g1, b1))) else none) else (some ((sum, r.1, t11, t12, false), (g0, g1, b1))))) (fun s1 => (bif s1.1.2.2.2.2 then (some (.inl (((0 : Int), false), (s1.2.1, s1.2.2.1)))) else (total_L0 F n_ (IntKind.wrap IntKind.i64 (s1.1.1 + s1.1.2.1)) s1.1.2.2.1 (IntKind.wrap IntKind.i64 (s1.1.2.2.2.1 + (1 : Int))) s1.2.1 s1.2.2.1 s1.2.2.2)))))) else none) else (some (.inr (sum, (g0, g1)))))
abbrev total_L0_s : Sch := ⟨[(1, .c (.k (.sl 1 2))), (2, .c (.k (.pt 2 0 0 0))), (4, .c (.t (.int .i64))), (10, .c (.k (.sl 1 2))), (11, .c (.t (.int .i64))), (12, .c (.t (.int .i64)))], [.ro (.int .i64), .ro (.pair (.int .i64) (.int .i64)), .blk 102 [.t (.int .i64), .t (.int .i64), .t (.int .i64), .k (.sl 0 1)]]⟩
abbrev total_L0_o : Outs := [(.ret, ⟨[(4, .c (.t (.int .i64))), (5, .c (.t .bool))], [.ro (.int .i64), .ro (.pair (.int .i64) (.int .i64))]⟩), ((.exit 0), ⟨[(4, .c (.t (.int .i64)))], [.ro (.int .i64), .ro (.pair (.int .i64) (.int .i64))]⟩)]
theorem total_L0_ok (F : Nat) : ∀ n, LoopSem Try.prog 2 (tmpsOf Try.prog 77 total_n) (subAt (bodyOf Try.prog 77) [1, 0, 1, 0, 0]) total_L0_s total_L0_o (fun s => (total_L0 F n s.1.1 s.1.2.1 s.1.2.2 s.2.1 s.2.2.1 s.2.2.2)) :=
  loop_ok (m := 2) (N := tmpsOf Try.prog 77 total_n) (S := total_L0_s) (o := total_L0_o) (call := callD Try.prog 70 plans (value_T F) 20) (Fu := 70) (pl := (plOf plans 77)) (d := 1000) (an := (.two .no (.two .no (.two (.one (.two .no (.two .no (.two (.two (.join [(.normal, ⟨[(1, .c (.k (.sl 1 2))), (2, .c (.k (.pt 2 0 0 0))), (4, .c (.t (.int .i64))), (8, .c (.t (.int .i64))), (10, .c (.k (.sl 1 2))), (11, .c (.t (.int .i64))), (12, .c (.t (.int .i64))), (43, .c (.t .bool))], [.ro (.int .i64), .ro (.pair (.int .i64) (.int .i64)), .blk 102 [.t (.int .i64), .t (.int .i64), .t (.int .i64), .k (.sl 0 1)]]⟩)] .no) .no) .no)))) .no)))) (M := fun n (s : total_L0_s.ty) => (total_L0 F n s.1.1 s.1.2.1 s.1.2.2 s.2.1 s.2.2.1 s.2.2.2)) (callD_ok progMixed 70 plansOk (value_T_ok F) 20) progMixed (anP_ok (c := bodyOf Try.prog 77) (p := [1, 0, 1, 0, 0]) (⟨trivial, ⟨trivial, ⟨⟨trivial, ⟨trivial, ⟨⟨trivial, trivial⟩, trivial⟩⟩⟩, trivial⟩⟩⟩)) (by kernel_rfl) (fun _ => rfl) (fun n s => by
    show (total_L0 F (n + 1) s.1.1 s.1.2.1 s.1.2.2 s.2.1 s.2.2.1 s.2.2.2) = _
    kernel_rfl)
def total_S (F : Nat) (b : (Int × (Int × Int))) (b_worth : (List Int)) (blocks : (List (Int × Int))) : Option ((Int × Bool)) := (ob (total_L0 F F (0 : Int) ((blocks.length - 0) : Int) (0 : Int) b_worth blocks b) (fun o_ => su o_ (fun s2 => (some (s2.1.1, s2.1.2))) (fun s3 => (some (s3.1, true)))))
abbrev total_I : Sch := ⟨[(0, .ag [.t (.pair (.int .i64) (.pair (.int .i64) (.int .i64))), .k (.sl 0 1)]), (1, .c (.k (.sl 1 2)))], [.ro (.int .i64), .ro (.pair (.int .i64) (.int .i64))]⟩
abbrev total_O : FSch := ⟨.tu [(false, [.t (.int .i64)]), (false, [.t .bool])], [.dead, .dead]⟩
def total_E (F : Nat) : Ent := ⟨77, 2, total_I, total_O, fun s => total_S F s.1 s.2.1 s.2.2, []⟩
theorem total_ok (F : Nat) : FnSem Try.prog 77 2 total_I total_O (fun s => total_S F s.1 s.2.1 s.2.2) :=
  fn_ok (call := callD Try.prog 70 plans (value_T F) 20) (Fu := 70) (pl := plOf plans 77) (d := 1000) (an := (.two .no (.two (.two .no (.one (.loop total_L0_s total_L0_o (fun s => (total_L0 F F s.1.1 s.1.2.1 s.1.2.2 s.2.1 s.2.2.1 s.2.2.2))))) .no))) (callD_ok progMixed 70 plansOk (value_T_ok F) 20) progMixed (by kernel_rfl) (anP_ok (c := bodyOf Try.prog 77) (p := []) (⟨trivial, ⟨⟨trivial, (total_L0_ok F F)⟩, trivial⟩⟩)) (fun s => by kernel_rfl)
def total_T (F : Nat) : List Ent := total_E F :: value_T F
theorem total_T_ok (F : Nat) : EntsOk Try.prog (total_T F) := ⟨⟨by kernel_rfl, total_ok F⟩, value_T_ok F⟩

end
end Go.Proofs.Ytdcekiigkplmgaa
