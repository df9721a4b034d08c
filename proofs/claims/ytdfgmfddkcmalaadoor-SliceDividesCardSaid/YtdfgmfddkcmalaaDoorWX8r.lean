/- By an AI agent. No person has read it. -/
import Derived.Test.YtdfgmfddkcmalaaDoorWKN8
namespace Go.Proofs.YtdfgmfddkcmalaaDoor
open Go.RowKit
set_option maxRecDepth 100000
set_option maxHeartbeats 4000000
noncomputable section
abbrev rin_n : Nat := 3
def rin_S (F : Nat) (n : Int) (least : Int) (most : Int) : Option (Bool) := (bif (decide (n ≥ least)) then (some (decide (n ≤ most))) else (some false))
abbrev rin_I : Sch := ⟨[(0, .c (.t (.int .i64))), (1, .c (.t (.int .i64))), (2, .c (.t (.int .i64)))], []⟩
abbrev rin_O : FSch := ⟨.one (.c (.t .bool)), []⟩
def rin_E (F : Nat) : Ent := ⟨47, 3, rin_I, rin_O, fun s => rin_S F s.1 s.2.1 s.2.2, []⟩
theorem rin_ok (F : Nat) : FnSem Tryd.prog 47 3 rin_I rin_O (fun s => rin_S F s.1 s.2.1 s.2.2) :=
  fn_ok (call := callD Tryd.prog 70 plans (known_T F) 20) (Fu := 70) (pl := plOf plans 47) (d := 1000) (an := .no) (callD_ok progMixed 70 plansOk (known_T_ok F) 20) progMixed (by kernel_rfl) (anP_ok (c := bodyOf Tryd.prog 47) (p := []) (trivial)) (fun s => by kernel_rfl)
def rin_T (F : Nat) : List Ent := rin_E F :: known_T F
theorem rin_T_ok (F : Nat) : EntsOk Tryd.prog (rin_T F) := ⟨⟨by kernel_rfl, rin_ok F⟩, known_T_ok F⟩
abbrev rRange_n : Nat := 3
def rRange_S (F : Nat) (r : (Int × Int)) (least : Int) (most : Int) : Option (Bool) := (bif (decide (r.1 ≥ least)) then (bif (decide (r.1 ≤ r.2)) then (some (decide (r.2 ≤ most))) else (some false)) else (some false))
abbrev rRange_I : Sch := ⟨[(0, .ag [.t (.pair (.int .i64) (.int .i64))]), (1, .c (.t (.int .i64))), (2, .c (.t (.int .i64)))], []⟩
abbrev rRange_O : FSch := ⟨.one (.c (.t .bool)), []⟩
def rRange_E (F : Nat) : Ent := ⟨45, 3, rRange_I, rRange_O, fun s => rRange_S F s.1 s.2.1 s.2.2, []⟩
theorem rRange_ok (F : Nat) : FnSem Tryd.prog 45 3 rRange_I rRange_O (fun s => rRange_S F s.1 s.2.1 s.2.2) :=
  fn_ok (call := callD Tryd.prog 70 plans (rin_T F) 20) (Fu := 70) (pl := plOf plans 45) (d := 1000) (an := .no) (callD_ok progMixed 70 plansOk (rin_T_ok F) 20) progMixed (by kernel_rfl) (anP_ok (c := bodyOf Tryd.prog 45) (p := []) (trivial)) (fun s => by kernel_rfl)
def rRange_T (F : Nat) : List Ent := rRange_E F :: rin_T F
theorem rRange_T_ok (F : Nat) : EntsOk Tryd.prog (rRange_T F) := ⟨⟨by kernel_rfl, rRange_ok F⟩, rin_T_ok F⟩
abbrev rWire_n : Nat := 1
def rWire_S (F : Nat) (w : ((Int × Int) × ((Int × Int) × Int))) : Option (Bool) := (ob (rRange_S F w.1 (1 : Int) (10000000 : Int)) (fun r => (bif r then (ob (rRange_S F w.2.1 (0 : Int) (10000000 : Int)) (fun r1 => (bif r1 then (ob (rin_S F w.2.2 (0 : Int) (10000000 : Int)) (fun r2 => (some r2))) else (some false)))) else (some false))))
abbrev rWire_I : Sch := ⟨[(0, .ag [.t (.pair (.pair (.int .i64) (.int .i64)) (.pair (.pair (.int .i64) (.int .i64)) (.int .i64)))])], []⟩
abbrev rWire_O : FSch := ⟨.one (.c (.t .bool)), []⟩
def rWire_E (F : Nat) : Ent := ⟨46, 1, rWire_I, rWire_O, fun s => rWire_S F s, []⟩
theorem rWire_ok (F : Nat) : FnSem Tryd.prog 46 1 rWire_I rWire_O (fun s => rWire_S F s) :=
  fn_ok (call := callD Tryd.prog 70 plans (rRange_T F) 20) (Fu := 70) (pl := plOf plans 46) (d := 1000) (an := .no) (callD_ok progMixed 70 plansOk (rRange_T_ok F) 20) progMixed (by kernel_rfl) (anP_ok (c := bodyOf Tryd.prog 46) (p := []) (trivial)) (fun s => by kernel_rfl)
def rWire_T (F : Nat) : List Ent := rWire_E F :: rRange_T F
theorem rWire_T_ok (F : Nat) : EntsOk Tryd.prog (rWire_T F) := ⟨⟨by kernel_rfl, rWire_ok F⟩, rRange_T_ok F⟩
abbrev rCheck_n : Nat := 3
def rCheck_S (F : Nat) (w : ((Int × Int) × ((Int × Int) × Int))) (b : (Int × (Int × (Int × (Int × Int))))) (length : Int) : Option (Int) := (ob (ob (rWire_S F w) (fun r => (bif (!r) then (some ((length, true), (w, b))) else (ob (rin_S F b.1 (1 : Int) (10000000 : Int)) (fun r1 => (bif (!r1) then (some ((length, true), (w, b))) else (ob (rin_S F b.2.1 (1 : Int) (2000 : Int)) (fun r2 => (bif (!r2) then (some ((length, true), (w, b))) else (ob (rin_S F b.2.2.1 (0 : Int) (600000000 : Int)) (fun r3 => (bif (!r3) then (some ((length, true), (w, b))) else (ob (rRange_S F b.2.2.2 (0 : Int) (10000000 : Int)) (fun r4 => (some ((length, (!r4)), (w, b))))))))))))))))) (fun s1 => (bif s1.1.2 then (some (2 : Int)) else (bif (decide ((IntKind.wrap IntKind.i64 (s1.2.1.1.2 + s1.2.2.2.2.2.2)) ≥ s1.2.2.1)) then (some (2 : Int)) else (ob (rin_S F s1.1.1 (1 : Int) (600000000 : Int)) (fun r5 => (bif (!r5) then (some (3 : Int)) else (some (0 : Int)))))))))
abbrev rCheck_I : Sch := ⟨[(0, .ag [.t (.pair (.pair (.int .i64) (.int .i64)) (.pair (.pair (.int .i64) (.int .i64)) (.int .i64)))]), (1, .ag [.t (.pair (.int .i64) (.pair (.int .i64) (.pair (.int .i64) (.pair (.int .i64) (.int .i64)))))]), (2, .c (.t (.int .i64)))], []⟩
abbrev rCheck_O : FSch := ⟨.one (.c (.t (.int .i64))), []⟩
def rCheck_E (F : Nat) : Ent := ⟨12, 3, rCheck_I, rCheck_O, fun s => rCheck_S F s.1 s.2.1 s.2.2, []⟩
theorem rCheck_ok (F : Nat) : FnSem Tryd.prog 12 3 rCheck_I rCheck_O (fun s => rCheck_S F s.1 s.2.1 s.2.2) :=
  fn_ok (call := callD Tryd.prog 70 plans (rWire_T F) 20) (Fu := 70) (pl := plOf plans 12) (d := 1000) (an := (.two .no (.two (.two (.join [(.normal, ⟨[(2, .c (.t (.int .i64))), (3, .c (.k (.pt 0 0 0 0))), (4, .c (.k (.pt 1 0 0 0))), (33, .c (.t .bool))], [.blk 25 [.t (.pair (.pair (.int .i64) (.int .i64)) (.pair (.pair (.int .i64) (.int .i64)) (.int .i64)))], .blk 27 [.t (.pair (.int .i64) (.pair (.int .i64) (.pair (.int .i64) (.pair (.int .i64) (.int .i64)))))]]⟩)] .no) .no) .no))) (callD_ok progMixed 70 plansOk (rWire_T_ok F) 20) progMixed (by kernel_rfl) (anP_ok (c := bodyOf Tryd.prog 12) (p := []) (⟨trivial, ⟨⟨trivial, trivial⟩, trivial⟩⟩)) (fun s => by kernel_rfl)
def rCheck_T (F : Nat) : List Ent := rCheck_E F :: rWire_T F
theorem rCheck_T_ok (F : Nat) : EntsOk Tryd.prog (rCheck_T F) := ⟨⟨by kernel_rfl, rCheck_ok F⟩, rWire_T_ok F⟩
abbrev rPlaces_n : Nat := 2
def rPlaces_L0 (F : Nat) (length1 : Int) (b1 : (Int × (Int × (Int × (Int × Int))))) : Nat → Int → (List Int) → Option ((List Int))
  | 0, _, _ => none
  | n_ + 1, i, out => (bif (decide (i < b1.2.1)) then (bif (decide ((IntKind.wrap IntKind.i64 (b1.2.2.1 + (IntKind.wrap IntKind.i64 (i * b1.1)))) < length1)) then (bif (lenOk (out.length - 0) ((IntKind.wrap IntKind.i64 (b1.2.2.1 + (IntKind.wrap IntKind.i64 (i * b1.1)))) :: []).length) then (rPlaces_L0 F length1 b1 n_ (IntKind.wrap IntKind.i64 (i + (1 : Int))) (out ++ ((IntKind.wrap IntKind.i64 (b1.2.2.1 + (IntKind.wrap IntKind.i64 (i * b1.1)))) :: []))) else none) else (some out)) else (some out))
abbrev rPlaces_L0_s : Sch := ⟨[(1, .c (.t (.int .i64))), (2, .c (.k (.pt 0 0 0 0))), (5, .c (.k (.sl 1 1))), (6, .c (.t (.int .i64)))], [.blk 27 [.t (.pair (.int .i64) (.pair (.int .i64) (.pair (.int .i64) (.pair (.int .i64) (.int .i64)))))], .rows 3 (.int .i64)]⟩
abbrev rPlaces_L0_o : Outs := [((.exit 0), ⟨[(5, .c (.k (.sl 0 1)))], [.rows 3 (.int .i64)]⟩)]
theorem rPlaces_L0_ok (F : Nat) : ∀ n, LoopSem Tryd.prog 0 (tmpsOf Tryd.prog 13 rPlaces_n) (subAt (bodyOf Tryd.prog 13) [1, 1, 0, 1, 0, 0]) rPlaces_L0_s rPlaces_L0_o (fun s => (rPlaces_L0 F s.1.1 s.2.1 n s.1.2 s.2.2)) :=
  loop_ok (m := 0) (N := tmpsOf Tryd.prog 13 rPlaces_n) (S := rPlaces_L0_s) (o := rPlaces_L0_o) (call := callD Tryd.prog 70 plans (rCheck_T F) 20) (Fu := 70) (pl := (plOf plans 13)) (d := 1000) (an := (.two (.two .no (.two .no .no)) .no)) (M := fun n (s : rPlaces_L0_s.ty) => (rPlaces_L0 F s.1.1 s.2.1 n s.1.2 s.2.2)) (callD_ok progMixed 70 plansOk (rCheck_T_ok F) 20) progMixed (anP_ok (c := bodyOf Tryd.prog 13) (p := [1, 1, 0, 1, 0, 0]) (⟨⟨trivial, ⟨trivial, trivial⟩⟩, trivial⟩)) (by kernel_rfl) (fun _ => rfl) (fun n s => by
    show (rPlaces_L0 F s.1.1 s.2.1 (n + 1) s.1.2 s.2.2) = _
    kernel_rfl)
def rPlaces_S (F : Nat) (b : (Int × (Int × (Int × (Int × Int))))) (length : Int) : Option ((List Int)) := (ob (rPlaces_L0 F length b F (0 : Int) []) (fun s1 => (some s1)))
abbrev rPlaces_I : Sch := ⟨[(0, .ag [.t (.pair (.int .i64) (.pair (.int .i64) (.pair (.int .i64) (.pair (.int .i64) (.int .i64)))))]), (1, .c (.t (.int .i64)))], []⟩
abbrev rPlaces_O : FSch := ⟨.one (.c (.k (.sl 0 1))), [.rows 3 (.int .i64)]⟩
def rPlaces_E (F : Nat) : Ent := ⟨13, 2, rPlaces_I, rPlaces_O, fun s => rPlaces_S F s.1 s.2, []⟩
theorem rPlaces_ok (F : Nat) : FnSem Tryd.prog 13 2 rPlaces_I rPlaces_O (fun s => rPlaces_S F s.1 s.2) :=
  fn_ok (call := callD Tryd.prog 70 plans (rCheck_T F) 20) (Fu := 70) (pl := plOf plans 13) (d := 1000) (an := (.two .no (.two .no (.two (.two .no (.one (.loop rPlaces_L0_s rPlaces_L0_o (fun s => (rPlaces_L0 F s.1.1 s.2.1 F s.1.2 s.2.2))))) .no)))) (callD_ok progMixed 70 plansOk (rCheck_T_ok F) 20) progMixed (by kernel_rfl) (anP_ok (c := bodyOf Tryd.prog 13) (p := []) (⟨trivial, ⟨trivial, ⟨⟨trivial, (rPlaces_L0_ok F F)⟩, trivial⟩⟩⟩)) (fun s => by kernel_rfl)
def rPlaces_T (F : Nat) : List Ent := rPlaces_E F :: rCheck_T F
theorem rPlaces_T_ok (F : Nat) : EntsOk Tryd.prog (rPlaces_T F) := ⟨⟨by kernel_rfl, rPlaces_ok F⟩, rCheck_T_ok F⟩
abbrev rDiameters_n : Nat := 2
def rDiameters_L0 (F : Nat) (g0 : (List Int)) : Nat → Int → (List Int) → Option (((List Int) × (List Int)))
  | 0, _, _ => none
  | n_ + 1, i, out => (bif (decide (i < ((g0.length - 0) : Int))) then (bif (inB i (out.length - 0)) then (bif (inB i (g0.length - 0)) then (bif (lenOk (out.length - 0) ((if (IntKind.wrap IntKind.i64 ((elemAt (TC.int IntKind.i64) out (addN 0 i.toNat)) - (elemAt (TC.int IntKind.i64) g0 (addN 0 i.toNat)))) > (0 : Int) then (IntKind.wrap IntKind.i64 ((nth out (0 : Int) i.toNat) - (nth g0 (0 : Int) i.toNat))) else (0 : Int)) :: []).length) then (rDiameters_L0 F g0 n_ (IntKind.wrap IntKind.i64 (i + (1 : Int))) (out ++ ((if (IntKind.wrap IntKind.i64 ((elemAt (TC.int IntKind.i64) out (addN 0 i.toNat)) - (elemAt (TC.int IntKind.i64) g0 (addN 0 i.toNat)))) > (0 : Int) then (IntKind.wrap IntKind.i64 ((nth out (0 : Int) i.toNat) - (nth g0 (0 : Int) i.toNat))) else (0 : Int)) :: []))) else none) else none) else none) else (some (g0, out)))
abbrev rDiameters_L0_s : Sch := ⟨[(1, .c (.k (.sl 0 1))), (5, .c (.k (.sl 1 1))), (6, .c (.t (.int .i64)))], [.ro (.int .i64), .rows 3 (.int .i64)]⟩
abbrev rDiameters_L0_o : Outs := [((.exit 0), ⟨[(5, .c (.k (.sl 1 1)))], [.ro (.int .i64), .rows 3 (.int .i64)]⟩)]
theorem rDiameters_L0_ok (F : Nat) : ∀ n, LoopSem Tryd.prog 1 (tmpsOf Tryd.prog 33 rDiameters_n) (subAt (bodyOf Tryd.prog 33) [1, 1, 0, 1, 0, 0]) rDiameters_L0_s rDiameters_L0_o (fun s => (rDiameters_L0 F s.2.1 n s.1 s.2.2)) :=
  loop_ok (m := 1) (N := tmpsOf Tryd.prog 33 rDiameters_n) (S := rDiameters_L0_s) (o := rDiameters_L0_o) (call := callD Tryd.prog 70 plans (rPlaces_T F) 20) (Fu := 70) (pl := (plOf plans 33)) (d := 1000) (an := .no) (M := fun n (s : rDiameters_L0_s.ty) => (rDiameters_L0 F s.2.1 n s.1 s.2.2)) (callD_ok progMixed 70 plansOk (rPlaces_T_ok F) 20) progMixed (anP_ok (c := bodyOf Tryd.prog 33) (p := [1, 1, 0, 1, 0, 0]) (trivial)) (by kernel_rfl) (fun _ => rfl) (fun n s => by
    show (rDiameters_L0 F s.2.1 (n + 1) s.1 s.2.2) = _
    kernel_rfl)
def rDiameters_S (F : Nat) (diameter : Int) (wear : (List Int)) : Option ((List Int)) := (ob (rDiameters_L0 F wear F (0 : Int) (diameter :: [])) (fun s1 => (some s1.2)))
abbrev rDiameters_I : Sch := ⟨[(0, .c (.t (.int .i64))), (1, .c (.k (.sl 0 1)))], [.ro (.int .i64)]⟩
abbrev rDiameters_O : FSch := ⟨.one (.c (.k (.sl 1 1))), [.dead, .rows 3 (.int .i64)]⟩
def rDiameters_E (F : Nat) : Ent := ⟨33, 2, rDiameters_I, rDiameters_O, fun s => rDiameters_S F s.1 s.2, []⟩
theorem rDiameters_ok (F : Nat) : FnSem Tryd.prog 33 2 rDiameters_I rDiameters_O (fun s => rDiameters_S F s.1 s.2) :=
  fn_ok (call := callD Tryd.prog 70 plans (rPlaces_T F) 20) (Fu := 70) (pl := plOf plans 33) (d := 1000) (an := (.two .no (.two .no (.two (.two .no (.one (.loop rDiameters_L0_s rDiameters_L0_o (fun s => (rDiameters_L0 F s.2.1 F s.1 s.2.2))))) .no)))) (callD_ok progMixed 70 plansOk (rPlaces_T_ok F) 20) progMixed (by kernel_rfl) (anP_ok (c := bodyOf Tryd.prog 33) (p := []) (⟨trivial, ⟨trivial, ⟨⟨trivial, (rDiameters_L0_ok F F)⟩, trivial⟩⟩⟩)) (fun s => by kernel_rfl)
def rDiameters_T (F : Nat) : List Ent := rDiameters_E F :: rPlaces_T F
theorem rDiameters_T_ok (F : Nat) : EntsOk Tryd.prog (rDiameters_T F) := ⟨⟨by kernel_rfl, rDiameters_ok F⟩, rPlaces_T_ok F⟩
abbrev rsame_n : Nat := 2
def rsame_L0 (F : Nat) (n1 : Int) (many1 : Int) : Nat → Int → (List Int) → Option ((List Int))
  | 0, _, _ => none
  | n_ + 1, i, out => (bif (decide (i < many1)) then (bif (lenOk (out.length - 0) (n1 :: []).length) then (rsame_L0 F n1 many1 n_ (IntKind.wrap IntKind.i64 (i + (1 : Int))) (out ++ (n1 :: []))) else none) else (some out))
abbrev rsame_L0_s : Sch := ⟨[(0, .c (.t (.int .i64))), (1, .c (.t (.int .i64))), (5, .c (.k (.sl 0 1))), (6, .c (.t (.int .i64)))], [.rows 3 (.int .i64)]⟩
abbrev rsame_L0_o : Outs := [((.exit 0), ⟨[(5, .c (.k (.sl 0 1)))], [.rows 3 (.int .i64)]⟩)]
theorem rsame_L0_ok (F : Nat) : ∀ n, LoopSem Tryd.prog 0 (tmpsOf Tryd.prog 53 rsame_n) (subAt (bodyOf Tryd.prog 53) [1, 1, 0, 1, 0, 0]) rsame_L0_s rsame_L0_o (fun s => (rsame_L0 F s.1.1 s.1.2.1 n s.1.2.2 s.2)) :=
  loop_ok (m := 0) (N := tmpsOf Tryd.prog 53 rsame_n) (S := rsame_L0_s) (o := rsame_L0_o) (call := callD Tryd.prog 70 plans (rDiameters_T F) 20) (Fu := 70) (pl := (plOf plans 53)) (d := 1000) (an := .no) (M := fun n (s : rsame_L0_s.ty) => (rsame_L0 F s.1.1 s.1.2.1 n s.1.2.2 s.2)) (callD_ok progMixed 70 plansOk (rDiameters_T_ok F) 20) progMixed (anP_ok (c := bodyOf Tryd.prog 53) (p := [1, 1, 0, 1, 0, 0]) (trivial)) (by kernel_rfl) (fun _ => rfl) (fun n s => by
    show (rsame_L0 F s.1.1 s.1.2.1 (n + 1) s.1.2.2 s.2) = _
    kernel_rfl)
def rsame_S (F : Nat) (n : Int) (many : Int) : Option ((List Int)) := (ob (rsame_L0 F n many F (0 : Int) []) (fun s1 => (some s1)))
abbrev rsame_I : Sch := ⟨[(0, .c (.t (.int .i64))), (1, .c (.t (.int .i64)))], []⟩
abbrev rsame_O : FSch := ⟨.one (.c (.k (.sl 0 1))), [.rows 3 (.int .i64)]⟩
def rsame_E (F : Nat) : Ent := ⟨53, 2, rsame_I, rsame_O, fun s => rsame_S F s.1 s.2, []⟩
theorem rsame_ok (F : Nat) : FnSem Tryd.prog 53 2 rsame_I rsame_O (fun s => rsame_S F s.1 s.2) :=
  fn_ok (call := callD Tryd.prog 70 plans (rDiameters_T F) 20) (Fu := 70) (pl := plOf plans 53) (d := 1000) (an := (.two .no (.two .no (.two (.two .no (.one (.loop rsame_L0_s rsame_L0_o (fun s => (rsame_L0 F s.1.1 s.1.2.1 F s.1.2.2 s.2))))) .no)))) (callD_ok progMixed 70 plansOk (rDiameters_T_ok F) 20) progMixed (by kernel_rfl) (anP_ok (c := bodyOf Tryd.prog 53) (p := []) (⟨trivial, ⟨trivial, ⟨⟨trivial, (rsame_L0_ok F F)⟩, trivial⟩⟩⟩)) (fun s => by kernel_rfl)
def rsame_T (F : Nat) : List Ent := rsame_E F :: rDiameters_T F
theorem rsame_T_ok (F : Nat) : EntsOk Tryd.prog (rsame_T F) := ⟨⟨by kernel_rfl, rsame_ok F⟩, rDiameters_T_ok F⟩
abbrev rRuns_n : Nat := 4
def rRuns_L1 (F : Nat) (wear2 : Int) (least2 : Int) (used2 : Int) (n1 : Int) (d : (List Int)) : Nat → Int → Option (Int ⊕ ((Int × (Int × (Int × Int))) × (List Int)))
  | 0, _ => none
  | n_ + 1, i => (bif (decide (i < used2)) then (bif (inB i (d.length - 0)) then (bif (decide ((nth d (0 : Int) i.toNat) < least2)) then (some (.inl n1)) else (rRuns_L1 F wear2 least2 used2 n1 d n_ (IntKind.wrap IntKind.i64 (i + (1 : Int))))) else none) else (some (.inr ((wear2, least2, used2, n1), d))))
abbrev rRuns_L1_s : Sch := ⟨[(1, .c (.t (.int .i64))), (2, .c (.t (.int .i64))), (3, .c (.t (.int .i64))), (9, .c (.t (.int .i64))), (10, .c (.k (.sl 0 1))), (11, .c (.t (.int .i64)))], [.rows 3 (.int .i64)]⟩
abbrev rRuns_L1_o : Outs := [(.ret, ⟨[(8, .c (.t (.int .i64)))], []⟩), ((.exit 2), ⟨[(1, .c (.t (.int .i64))), (2, .c (.t (.int .i64))), (3, .c (.t (.int .i64))), (9, .c (.t (.int .i64))), (10, .c (.k (.sl 0 1)))], [.rows 3 (.int .i64)]⟩)]
theorem rRuns_L1_ok (F : Nat) : ∀ n, LoopSem Tryd.prog 0 (tmpsOf Tryd.prog 16 rRuns_n) (subAt (bodyOf Tryd.prog 16) [1, 0, 1, 0, 0, 1, 0, 0, 1, 0, 1, 0, 0]) rRuns_L1_s rRuns_L1_o (fun s => (rRuns_L1 F s.1.1 s.1.2.1 s.1.2.2.1 s.1.2.2.2.1 s.2 n s.1.2.2.2.2)) :=
  loop_ok (m := 0) (N := tmpsOf Tryd.prog 16 rRuns_n) (S := rRuns_L1_s) (o := rRuns_L1_o) (call := callD Tryd.prog 70 plans (rsame_T F) 20) (Fu := 70) (pl := (plOf plans 16)) (d := 1000) (an := .no) (M := fun n (s : rRuns_L1_s.ty) => (rRuns_L1 F s.1.1 s.1.2.1 s.1.2.2.1 s.1.2.2.2.1 s.2 n s.1.2.2.2.2)) (callD_ok progMixed 70 plansOk (rsame_T_ok F) 20) progMixed (anP_ok (c := bodyOf Tryd.prog 16) (p := [1, 0, 1, 0, 0, 1, 0, 0, 1, 0, 1, 0, 0]) (trivial)) (by kernel_rfl) (fun _ => rfl) (fun n s => by
    show (rRuns_L1 F s.1.1 s.1.2.1 s.1.2.2.1 s.1.2.2.2.1 s.2 (n + 1) s.1.2.2.2.2) = _
    kernel_rfl)
def rRuns_L0 (F : Nat) : Nat → Int → Int → Int → Int → Int → Option (Int ⊕ PUnit)
  | 0, _, _, _, _, _ => none
  | n_ + 1, diameter1, wear1, least1, used1, n => (bif (decide (n < (1000 : Int))) then (ob (rsame_S F wear1 used1) (fun r => (ob (rDiameters_S F diameter1 r) (fun r1 => (ob (rRuns_L1 F wear1 least1 used1 n r1 F (0 : Int)) (fun o_ => su o_ (fun s1 => (some (.inl s1))) (fun s2 => (bif (inB s2.1.2.2.1 (s2.2.length - 0)) then (rRuns_L0 F n_ (nth s2.2 (0 : Int) s2.1.2.2.1.toNat) s2.1.1 s2.1.2.1 s2.1.2.2.1 (IntKind.wrap IntKind.i64 (s2.1.2.2.2 + (1 : Int)))) else none)))))))) else (some (.inr ())))
abbrev rRuns_L0_s : Sch := ⟨[(0, .c (.t (.int .i64))), (1, .c (.t (.int .i64))), (2, .c (.t (.int .i64))), (3, .c (.t (.int .i64))), (9, .c (.t (.int .i64)))], []⟩
abbrev rRuns_L0_o : Outs := [(.ret, ⟨[(8, .c (.t (.int .i64)))], []⟩), ((.exit 0), ⟨[], []⟩)]
theorem rRuns_L0_ok (F : Nat) : ∀ n, LoopSem Tryd.prog 0 (tmpsOf Tryd.prog 16 rRuns_n) (subAt (bodyOf Tryd.prog 16) [1, 0, 1, 0, 0]) rRuns_L0_s rRuns_L0_o (fun s => (rRuns_L0 F n s.1 s.2.1 s.2.2.1 s.2.2.2.1 s.2.2.2.2)) :=
  loop_ok (m := 0) (N := tmpsOf Tryd.prog 16 rRuns_n) (S := rRuns_L0_s) (o := rRuns_L0_o) (call := callD Tryd.prog 70 plans (rsame_T F) 20) (Fu := 70) (pl := (plOf plans 16)) (d := 1000) (an := (.two .no (.two (.one (.two .no (.two (.two .no (.one (.loop rRuns_L1_s rRuns_L1_o (fun s => (rRuns_L1 F s.1.1 s.1.2.1 s.1.2.2.1 s.1.2.2.2.1 s.2 F s.1.2.2.2.2))))) .no))) .no))) (M := fun n (s : rRuns_L0_s.ty) => (rRuns_L0 F n s.1 s.2.1 s.2.2.1 s.2.2.2.1 s.2.2.2.2)) (callD_ok progMixed 70 plansOk (rsame_T_ok F) 20) progMixed (anP_ok (c := bodyOf Tryd.prog 16) (p := [1, 0, 1, 0, 0]) (⟨trivial, ⟨⟨trivial, ⟨⟨trivial, (rRuns_L1_ok F F)⟩, trivial⟩⟩, trivial⟩⟩)) (by kernel_rfl) (fun _ => rfl) (fun n s => by
    show (rRuns_L0 F (n + 1) s.1 s.2.1 s.2.2.1 s.2.2.2.1 s.2.2.2.2) = _
    kernel_rfl)
def rRuns_S (F : Nat) (diameter : Int) (wear : Int) (least : Int) (used : Int) : Option (Int) := (ob (rRuns_L0 F F diameter wear least used (0 : Int)) (fun o_ => su o_ (fun s3 => (some s3)) (fun s4 => (some (1000 : Int)))))
abbrev rRuns_I : Sch := ⟨[(0, .c (.t (.int .i64))), (1, .c (.t (.int .i64))), (2, .c (.t (.int .i64))), (3, .c (.t (.int .i64)))], []⟩
abbrev rRuns_O : FSch := ⟨.one (.c (.t (.int .i64))), []⟩
def rRuns_E (F : Nat) : Ent := ⟨16, 4, rRuns_I, rRuns_O, fun s => rRuns_S F s.1 s.2.1 s.2.2.1 s.2.2.2, []⟩
theorem rRuns_ok (F : Nat) : FnSem Tryd.prog 16 4 rRuns_I rRuns_O (fun s => rRuns_S F s.1 s.2.1 s.2.2.1 s.2.2.2) :=
  fn_ok (call := callD Tryd.prog 70 plans (rsame_T F) 20) (Fu := 70) (pl := plOf plans 16) (d := 1000) (an := (.two .no (.two (.two .no (.one (.loop rRuns_L0_s rRuns_L0_o (fun s => (rRuns_L0 F F s.1 s.2.1 s.2.2.1 s.2.2.2.1 s.2.2.2.2))))) .no))) (callD_ok progMixed 70 plansOk (rsame_T_ok F) 20) progMixed (by kernel_rfl) (anP_ok (c := bodyOf Tryd.prog 16) (p := []) (⟨trivial, ⟨⟨trivial, (rRuns_L0_ok F F)⟩, trivial⟩⟩)) (fun s => by kernel_rfl)
def rRuns_T (F : Nat) : List Ent := rRuns_E F :: rsame_T F
theorem rRuns_T_ok (F : Nat) : EntsOk Tryd.prog (rRuns_T F) := ⟨⟨by kernel_rfl, rRuns_ok F⟩, rsame_T_ok F⟩
abbrev sRuns_n : Nat := 1
def sRuns_S (F : Nat) (c : (((Int × Int) × ((Int × Int) × Int)) × ((Int × (Int × (Int × (Int × Int)))) × Int))) : Option (Bool) := (ob (rCheck_S F c.1 c.2.1 c.2.2) (fun r => (ob (bif (r == (0 : Int)) then (ob (rPlaces_S F c.2.1 c.2.2) (fun r1 => (bif (decide (((r1.length - 0) : Int) > (60 : Int))) then (some (.inl true)) else (some (.inr (r, c)))))) else (some (.inr (r, c)))) (fun o_ => su o_ (fun s1 => (some s1)) (fun s2 => (ob (runs_S F s2.2.1 s2.2.2.1 s2.2.2.2) (fun r2 => (bif (s2.1 != (0 : Int)) then (bif (r2.2.2 == s2.1) then (bif (r2.1 == (0 : Int)) then (bif (r2.2.1 == (0 : Int)) then (some true) else (some false)) else (some false)) else (some false)) else (ob (rPlaces_S F s2.2.2.1 s2.2.2.2) (fun r3 => (bif (r2.2.2 == (0 : Int)) then (ob (rRuns_S F s2.2.1.1.1 s2.2.1.2.1.2 s2.2.1.2.2 ((r3.length - 0) : Int)) (fun r4 => (bif (r2.1 == r4) then (ob (rRuns_S F s2.2.1.1.2 s2.2.1.2.1.1 s2.2.1.2.2 ((r3.length - 0) : Int)) (fun r5 => (bif (r2.2.1 == r5) then (some true) else (some false)))) else (some false)))) else (some false))))))))))))
abbrev sRuns_I : Sch := ⟨[(0, .ag [.t (.pair (.pair (.pair (.int .i64) (.int .i64)) (.pair (.pair (.int .i64) (.int .i64)) (.int .i64))) (.pair (.pair (.int .i64) (.pair (.int .i64) (.pair (.int .i64) (.pair (.int .i64) (.int .i64))))) (.int .i64)))])], []⟩
abbrev sRuns_O : FSch := ⟨.one (.c (.t .bool)), []⟩
def sRuns_E (F : Nat) : Ent := ⟨3, 1, sRuns_I, sRuns_O, fun s => sRuns_S F s, []⟩
theorem sRuns_ok (F : Nat) : FnSem Tryd.prog 3 1 sRuns_I sRuns_O (fun s => sRuns_S F s) :=
  fn_ok (call := callD Tryd.prog 70 plans (rRuns_T F) 20) (Fu := 70) (pl := plOf plans 3) (d := 1000) (an := (.two .no (.two .no (.two (.join [(.ret, ⟨[(2, .c (.t .bool))], []⟩), (.normal, ⟨[(1, .c (.k (.pt 0 0 0 0))), (3, .c (.t (.int .i64)))], [.blk 29 [.t (.pair (.pair (.pair (.int .i64) (.int .i64)) (.pair (.pair (.int .i64) (.int .i64)) (.int .i64))) (.pair (.pair (.int .i64) (.pair (.int .i64) (.pair (.int .i64) (.pair (.int .i64) (.int .i64))))) (.int .i64)))]]⟩)] (.two .no (.two .no .no))) .no)))) (callD_ok progMixed 70 plansOk (rRuns_T_ok F) 20) progMixed (by kernel_rfl) (anP_ok (c := bodyOf Tryd.prog 3) (p := []) (⟨trivial, ⟨trivial, ⟨⟨trivial, ⟨trivial, trivial⟩⟩, trivial⟩⟩⟩)) (fun s => by kernel_rfl)
def sRuns_T (F : Nat) : List Ent := sRuns_E F :: rRuns_T F
theorem sRuns_T_ok (F : Nat) : EntsOk Tryd.prog (sRuns_T F) := ⟨⟨by kernel_rfl, sRuns_ok F⟩, rRuns_T_ok F⟩
end
end Go.Proofs.YtdfgmfddkcmalaaDoor
