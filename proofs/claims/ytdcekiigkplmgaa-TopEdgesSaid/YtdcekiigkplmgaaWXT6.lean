/- By an AI agent. No person has read it. -/
import Derived.Test.YtdcekiigkplmgaaWXT5
namespace Go.Proofs.Ytdcekiigkplmgaa
open Go.RowKit
set_option maxRecDepth 100000
set_option maxHeartbeats 4000000
noncomputable section
abbrev ufold_n : Nat := 2
def ufold_L0 (F : Nat) (t24 : Nat) (t25 : Int) (g0 : (List (Int × Int))) (t4 : (Int × Int)) : Nat → Int → (Int × Int) → Option (((List (Int × Int)) × ((Int × Int) × (Int × Int))))
  | 0, _, _ => none
  | n_ + 1, t26, x => (bif (decide (t26 < t25)) then (bif (inB t26 (g0.length - t24)) then (ufold_L0 F t24 t25 g0 t4 n_ (IntKind.wrap IntKind.i64 (t26 + (1 : Int))) ((if (nth g0 (TC.dflt (TC.pair (TC.int IntKind.i64) (TC.int IntKind.i64))) (addN t24 t26.toNat)).1 > x.1 then (nth g0 (TC.dflt (TC.pair (TC.int IntKind.i64) (TC.int IntKind.i64))) (addN t24 t26.toNat)).1 else x.1), (if (nth g0 (TC.dflt (TC.pair (TC.int IntKind.i64) (TC.int IntKind.i64))) (addN t24 t26.toNat)).2 < x.2 then (nth g0 (TC.dflt (TC.pair (TC.int IntKind.i64) (TC.int IntKind.i64))) (addN t24 t26.toNat)).2 else x.2))) else none) else (some (g0, t4, x)))
abbrev ufold_L0_s : Sch := ⟨[(1, .c (.k (.lit (.func (.func 47) ⟨[]⟩ ⟨[]⟩)))), (4, .c (.k (.pt 1 0 0 0))), (7, .c (.k (.pt 2 0 0 0))), (24, .c (.k (.so 0 2))), (25, .c (.t (.int .i64))), (26, .c (.t (.int .i64)))], [.ro (.pair (.int .i64) (.int .i64)), .blk 24 [.t (.pair (.int .i64) (.int .i64))], .blk 24 [.t (.pair (.int .i64) (.int .i64))]]⟩
abbrev ufold_L0_o : Outs := [((.exit 0), ⟨[(4, .c (.k (.pt 1 0 0 0))), (7, .c (.k (.pt 2 0 0 0)))], [.ro (.pair (.int .i64) (.int .i64)), .blk 24 [.t (.pair (.int .i64) (.int .i64))], .blk 24 [.t (.pair (.int .i64) (.int .i64))]]⟩)]
theorem ufold_L0_ok (F : Nat) : ∀ n, LoopSem Try.prog 1 (tmpsOf Try.prog 46 ufold_n) (subAt (bodyOf Try.prog 46) [1, 1, 1, 1, 0, 1, 0, 0]) ufold_L0_s ufold_L0_o (fun s => (ufold_L0 F s.1.1 s.1.2.1 s.2.1 s.2.2.1 n s.1.2.2 s.2.2.2)) :=
  loop_ok (m := 1) (N := tmpsOf Try.prog 46 ufold_n) (S := ufold_L0_s) (o := ufold_L0_o) (call := callD Try.prog 70 plans (links_T F) 20) (Fu := 70) (pl := (plOf plans 46)) (d := 1000) (an := .no) (M := fun n (s : ufold_L0_s.ty) => (ufold_L0 F s.1.1 s.1.2.1 s.2.1 s.2.2.1 n s.1.2.2 s.2.2.2)) (callD_ok progMixed 70 plansOk (links_T_ok F) 20) progMixed (anP_ok (c := bodyOf Try.prog 46) (p := [1, 1, 1, 1, 0, 1, 0, 0]) (trivial)) (by kernel_rfl) (fun _ => rfl) (fun n s => by
    show (ufold_L0 F s.1.1 s.1.2.1 s.2.1 s.2.2.1 (n + 1) s.1.2.2 s.2.2.2) = _
    kernel_rfl)
def ufold_S (F : Nat) (l : (List (Int × Int))) : Option (((Int × Int) × Int)) := (ob (uchk_S F l) (fun r => (bif (r != (0 : Int)) then (some (((0 : Int), (0 : Int)), r)) else (bif (((l.length - 0) : Int) == (0 : Int)) then (some (((0 : Int), (0 : Int)), (2 : Int))) else (bif (inB (0 : Int) (l.length - 0)) then (bif (inC (1 : Int) (l.length - 0)) then (ob (ufold_L0 F 1 (((l.length - 1) : Nat) : Int) l ((0 : Int), (0 : Int)) F (0 : Int) (nth l (TC.dflt (TC.pair (TC.int IntKind.i64) (TC.int IntKind.i64))) 0)) (fun s1 => (bif (decide (s1.2.2.1 > s1.2.2.2)) then (some (((0 : Int), (0 : Int)), (7 : Int))) else (some (s1.2.2, (0 : Int)))))) else none) else none)))))
abbrev ufold_I : Sch := ⟨[(0, .c (.k (.sl 0 2))), (1, .c (.k (.lit (.func (.func 47) ⟨[]⟩ ⟨[]⟩))))], [.ro (.pair (.int .i64) (.int .i64))]⟩
abbrev ufold_O : FSch := ⟨.tu [(true, [.t (.pair (.int .i64) (.int .i64))]), (false, [.t (.int .i64)])], [.dead]⟩
def ufold_E (F : Nat) : Ent := ⟨46, 2, ufold_I, ufold_O, fun s => ufold_S F s, []⟩
theorem ufold_ok (F : Nat) : FnSem Try.prog 46 2 ufold_I ufold_O (fun s => ufold_S F s) :=
  fn_ok (call := callD Try.prog 70 plans (links_T F) 20) (Fu := 70) (pl := plOf plans 46) (d := 1000) (an := (.two .no (.two .no (.two .no (.two .no (.two (.two .no (.one (.loop ufold_L0_s ufold_L0_o (fun s => (ufold_L0 F s.1.1 s.1.2.1 s.2.1 s.2.2.1 F s.1.2.2 s.2.2.2))))) .no)))))) (callD_ok progMixed 70 plansOk (links_T_ok F) 20) progMixed (by kernel_rfl) (anP_ok (c := bodyOf Try.prog 46) (p := []) (⟨trivial, ⟨trivial, ⟨trivial, ⟨trivial, ⟨⟨trivial, (ufold_L0_ok F F)⟩, trivial⟩⟩⟩⟩⟩)) (fun s => by kernel_rfl)
def ufold_T (F : Nat) : List Ent := ufold_E F :: links_T F
theorem ufold_T_ok (F : Nat) : EntsOk Try.prog (ufold_T F) := ⟨⟨by kernel_rfl, ufold_ok F⟩, links_T_ok F⟩
abbrev meet_n : Nat := 1
def meet_S (F : Nat) (l : (List (Int × Int))) : Option (((Int × Int) × Int)) := (ob (ufold_S F l) (fun r => (some (r.1, r.2))))
abbrev meet_I : Sch := ⟨[(0, .c (.k (.sl 0 2)))], [.ro (.pair (.int .i64) (.int .i64))]⟩
abbrev meet_O : FSch := ⟨.tu [(true, [.t (.pair (.int .i64) (.int .i64))]), (false, [.t (.int .i64)])], [.dead]⟩
def meet_E (F : Nat) : Ent := ⟨18, 1, meet_I, meet_O, fun s => meet_S F s, []⟩
theorem meet_ok (F : Nat) : FnSem Try.prog 18 1 meet_I meet_O (fun s => meet_S F s) :=
  fn_ok (call := callD Try.prog 70 plans (ufold_T F) 20) (Fu := 70) (pl := plOf plans 18) (d := 1000) (an := .no) (callD_ok progMixed 70 plansOk (ufold_T_ok F) 20) progMixed (by kernel_rfl) (anP_ok (c := bodyOf Try.prog 18) (p := []) (trivial)) (fun s => by kernel_rfl)
def meet_T (F : Nat) : List Ent := meet_E F :: ufold_T F
theorem meet_T_ok (F : Nat) : EntsOk Try.prog (meet_T F) := ⟨⟨by kernel_rfl, meet_ok F⟩, ufold_T_ok F⟩
abbrev indexPi_n : Nat := 2
def indexPi_L0 (F : Nat) (t7 : Int) (g0 : (List Int)) (g2 : Int) : Nat → Int → Option ((Int × ((List Int) × Int)) ⊕ ((List Int) × Int))
  | 0, _ => none
  | n_ + 1, t8 => (bif (decide (t8 < t7)) then (bif (inB t8 (g0.length - 0)) then (bif (decide ((nth g0 (0 : Int) t8.toNat) < (0 : Int))) then (some (.inl (t8, (g0, g2)))) else (bif (decide ((nth g0 (0 : Int) t8.toNat) > g2)) then (some (.inl (t8, (g0, g2)))) else (indexPi_L0 F t7 g0 g2 n_ (IntKind.wrap IntKind.i64 (t8 + (1 : Int)))))) else none) else (some (.inr (g0, g2))))
abbrev indexPi_L0_s : Sch := ⟨[(0, .c (.k (.sl 0 1))), (1, .c (.k (.hv 1))), (7, .c (.t (.int .i64))), (8, .c (.t (.int .i64)))], [.ro (.int .i64), .clo 106 [] [.k (.pt 2 0 0 0)], .blk 3 [.t (.int .i64)]]⟩
abbrev indexPi_L0_o : Outs := [(.ret, ⟨[(4, .c (.t (.int .i64)))], [.ro (.int .i64), .clo 106 [] [.k (.pt 2 0 0 0)], .blk 3 [.t (.int .i64)]]⟩), ((.exit 0), ⟨[], [.ro (.int .i64), .clo 106 [] [.k (.pt 2 0 0 0)], .blk 3 [.t (.int .i64)]]⟩)]
theorem indexPi_L0_ok (F : Nat) : ∀ n, LoopSem Try.prog 3 (tmpsOf Try.prog 58 indexPi_n) (subAt (bodyOf Try.prog 58) [1, 0, 1, 0, 0]) indexPi_L0_s indexPi_L0_o (fun s => (indexPi_L0 F s.1.1 s.2.1 s.2.2 n s.1.2)) :=
  loop_ok (m := 3) (N := tmpsOf Try.prog 58 indexPi_n) (S := indexPi_L0_s) (o := indexPi_L0_o) (call := callD Try.prog 70 plans (meet_T F) 20) (Fu := 70) (pl := (plOf plans 58)) (d := 1000) (an := .no) (M := fun n (s : indexPi_L0_s.ty) => (indexPi_L0 F s.1.1 s.2.1 s.2.2 n s.1.2)) (callD_ok progMixed 70 plansOk (meet_T_ok F) 20) progMixed (anP_ok (c := bodyOf Try.prog 58) (p := [1, 0, 1, 0, 0]) (trivial)) (by kernel_rfl) (fun _ => rfl) (fun n s => by
    show (indexPi_L0 F s.1.1 s.2.1 s.2.2 (n + 1) s.1.2) = _
    kernel_rfl)
def indexPi_S (F : Nat) (s1 : (List Int)) (f0 : Int) : Option ((Int × Int)) := (ob (indexPi_L0 F ((s1.length - 0) : Int) s1 f0 F (0 : Int)) (fun o_ => su o_ (fun s2 => (some (s2.1, s2.2.2))) (fun s3 => (some ((-1 : Int), s3.2)))))
abbrev indexPi_I : Sch := ⟨[(0, .c (.k (.sl 0 1))), (1, .c (.k (.hv 1)))], [.ro (.int .i64), .clo 106 [] [.k (.pt 2 0 0 0)], .blk 3 [.t (.int .i64)]]⟩
abbrev indexPi_O : FSch := ⟨.one (.c (.t (.int .i64))), [.dead, .dead, .blk 3 [.t (.int .i64)]]⟩
def indexPi_E (F : Nat) : Ent := ⟨58, 2, indexPi_I, indexPi_O, fun s => indexPi_S F s.1 s.2, []⟩
theorem indexPi_ok (F : Nat) : FnSem Try.prog 58 2 indexPi_I indexPi_O (fun s => indexPi_S F s.1 s.2) :=
  fn_ok (call := callD Try.prog 70 plans (meet_T F) 20) (Fu := 70) (pl := plOf plans 58) (d := 1000) (an := (.two .no (.two (.two .no (.one (.loop indexPi_L0_s indexPi_L0_o (fun s => (indexPi_L0 F s.1.1 s.2.1 s.2.2 F s.1.2))))) .no))) (callD_ok progMixed 70 plansOk (meet_T_ok F) 20) progMixed (by kernel_rfl) (anP_ok (c := bodyOf Try.prog 58) (p := []) (⟨trivial, ⟨⟨trivial, (indexPi_L0_ok F F)⟩, trivial⟩⟩)) (fun s => by kernel_rfl)
def indexPi_T (F : Nat) : List Ent := indexPi_E F :: meet_T F
theorem indexPi_T_ok (F : Nat) : EntsOk Try.prog (indexPi_T F) := ⟨⟨by kernel_rfl, indexPi_ok F⟩, meet_T_ok F⟩
abbrev contPi_n : Nat := 2
def contPi_S (F : Nat) (s1 : (List Int)) (f0 : Int) : Option ((Bool × Int)) := (ob (indexPi_S F s1 f0) (fun r => (some ((decide (r.1 ≥ (0 : Int))), r.2))))
abbrev contPi_I : Sch := ⟨[(0, .c (.k (.sl 0 1))), (1, .c (.k (.hv 1)))], [.ro (.int .i64), .clo 106 [] [.k (.pt 2 0 0 0)], .blk 3 [.t (.int .i64)]]⟩
abbrev contPi_O : FSch := ⟨.one (.c (.t .bool)), [.dead, .dead, .blk 3 [.t (.int .i64)]]⟩
def contPi_E (F : Nat) : Ent := ⟨22, 2, contPi_I, contPi_O, fun s => contPi_S F s.1 s.2, []⟩
theorem contPi_ok (F : Nat) : FnSem Try.prog 22 2 contPi_I contPi_O (fun s => contPi_S F s.1 s.2) :=
  fn_ok (call := callD Try.prog 70 plans (indexPi_T F) 20) (Fu := 70) (pl := plOf plans 22) (d := 1000) (an := .no) (callD_ok progMixed 70 plansOk (indexPi_T_ok F) 20) progMixed (by kernel_rfl) (anP_ok (c := bodyOf Try.prog 22) (p := []) (trivial)) (fun s => by kernel_rfl)
def contPi_T (F : Nat) : List Ent := contPi_E F :: indexPi_T F
theorem contPi_T_ok (F : Nat) : EntsOk Try.prog (contPi_T F) := ⟨⟨by kernel_rfl, contPi_ok F⟩, indexPi_T_ok F⟩
abbrev pin_n : Nat := 2
def pin_S (F : Nat) (most : Int) (l : (List Int)) : Option (Bool) := (ob (contPi_S F l most) (fun r => (some (!r.1))))
abbrev pin_I : Sch := ⟨[(0, .c (.t (.int .i64))), (1, .c (.k (.sl 0 1)))], [.ro (.int .i64)]⟩
abbrev pin_O : FSch := ⟨.one (.c (.t .bool)), [.dead]⟩
def pin_E (F : Nat) : Ent := ⟨84, 2, pin_I, pin_O, fun s => pin_S F s.1 s.2, []⟩
theorem pin_ok (F : Nat) : FnSem Try.prog 84 2 pin_I pin_O (fun s => pin_S F s.1 s.2) :=
  fn_ok (call := callD Try.prog 70 plans (contPi_T F) 20) (Fu := 70) (pl := plOf plans 84) (d := 1000) (an := .no) (callD_ok progMixed 70 plansOk (contPi_T_ok F) 20) progMixed (by kernel_rfl) (anP_ok (c := bodyOf Try.prog 84) (p := []) (trivial)) (fun s => by kernel_rfl)
def pin_T (F : Nat) : List Ent := pin_E F :: contPi_T F
theorem pin_T_ok (F : Nat) : EntsOk Try.prog (pin_T F) := ⟨⟨by kernel_rfl, pin_ok F⟩, contPi_T_ok F⟩
abbrev indexR_n : Nat := 2
def indexR_L0 (F : Nat) (t7 : Int) (g0 : (List (Int × Int))) (g2 : Int) : Nat → Int → Option ((Int × ((List (Int × Int)) × Int)) ⊕ ((List (Int × Int)) × Int))
  | 0, _ => none
  | n_ + 1, t8 => (bif (decide (t8 < t7)) then (bif (inB t8 (g0.length - 0)) then (ob (pin_S F g2 ((nth g0 (TC.dflt (TC.pair (TC.int IntKind.i64) (TC.int IntKind.i64))) t8.toNat).1 :: ((nth g0 (TC.dflt (TC.pair (TC.int IntKind.i64) (TC.int IntKind.i64))) t8.toNat).2 :: []))) (fun r => (bif (!r) then (some (.inl (t8, (g0, g2)))) else (bif (decide ((nth g0 (TC.dflt (TC.pair (TC.int IntKind.i64) (TC.int IntKind.i64))) t8.toNat).1 > (nth g0 (TC.dflt (TC.pair (TC.int IntKind.i64) (TC.int IntKind.i64))) t8.toNat).2)) then (some (.inl (t8, (g0, g2)))) else (indexR_L0 F t7 g0 g2 n_ (IntKind.wrap IntKind.i64 (t8 + (1 : Int)))))))) else none) else (some (.inr (g0, g2))))
abbrev indexR_L0_s : Sch := ⟨[(0, .c (.k (.sl 0 2))), (1, .c (.k (.hv 1))), (7, .c (.t (.int .i64))), (8, .c (.t (.int .i64)))], [.ro (.pair (.int .i64) (.int .i64)), .clo 83 [] [.k (.pt 2 0 0 0)], .blk 3 [.t (.int .i64)]]⟩
abbrev indexR_L0_o : Outs := [(.ret, ⟨[(4, .c (.t (.int .i64)))], [.ro (.pair (.int .i64) (.int .i64)), .clo 83 [] [.k (.pt 2 0 0 0)], .blk 3 [.t (.int .i64)]]⟩), ((.exit 0), ⟨[], [.ro (.pair (.int .i64) (.int .i64)), .clo 83 [] [.k (.pt 2 0 0 0)], .blk 3 [.t (.int .i64)]]⟩)]
theorem indexR_L0_ok (F : Nat) : ∀ n, LoopSem Try.prog 3 (tmpsOf Try.prog 85 indexR_n) (subAt (bodyOf Try.prog 85) [1, 0, 1, 0, 0]) indexR_L0_s indexR_L0_o (fun s => (indexR_L0 F s.1.1 s.2.1 s.2.2 n s.1.2)) :=
  loop_ok (m := 3) (N := tmpsOf Try.prog 85 indexR_n) (S := indexR_L0_s) (o := indexR_L0_o) (call := callD Try.prog 70 plans (pin_T F) 20) (Fu := 70) (pl := (plOf plans 85)) (d := 1000) (an := .no) (M := fun n (s : indexR_L0_s.ty) => (indexR_L0 F s.1.1 s.2.1 s.2.2 n s.1.2)) (callD_ok progMixed 70 plansOk (pin_T_ok F) 20) progMixed (anP_ok (c := bodyOf Try.prog 85) (p := [1, 0, 1, 0, 0]) (trivial)) (by kernel_rfl) (fun _ => rfl) (fun n s => by
    show (indexR_L0 F s.1.1 s.2.1 s.2.2 (n + 1) s.1.2) = _
    kernel_rfl)
def indexR_S (F : Nat) (s1 : (List (Int × Int))) (f0 : Int) : Option ((Int × Int)) := (ob (indexR_L0 F ((s1.length - 0) : Int) s1 f0 F (0 : Int)) (fun o_ => su o_ (fun s2 => (some (s2.1, s2.2.2))) (fun s3 => (some ((-1 : Int), s3.2)))))
abbrev indexR_I : Sch := ⟨[(0, .c (.k (.sl 0 2))), (1, .c (.k (.hv 1)))], [.ro (.pair (.int .i64) (.int .i64)), .clo 83 [] [.k (.pt 2 0 0 0)], .blk 3 [.t (.int .i64)]]⟩
abbrev indexR_O : FSch := ⟨.one (.c (.t (.int .i64))), [.dead, .dead, .blk 3 [.t (.int .i64)]]⟩
def indexR_E (F : Nat) : Ent := ⟨85, 2, indexR_I, indexR_O, fun s => indexR_S F s.1 s.2, []⟩
theorem indexR_ok (F : Nat) : FnSem Try.prog 85 2 indexR_I indexR_O (fun s => indexR_S F s.1 s.2) :=
  fn_ok (call := callD Try.prog 70 plans (pin_T F) 20) (Fu := 70) (pl := plOf plans 85) (d := 1000) (an := (.two .no (.two (.two .no (.one (.loop indexR_L0_s indexR_L0_o (fun s => (indexR_L0 F s.1.1 s.2.1 s.2.2 F s.1.2))))) .no))) (callD_ok progMixed 70 plansOk (pin_T_ok F) 20) progMixed (by kernel_rfl) (anP_ok (c := bodyOf Try.prog 85) (p := []) (⟨trivial, ⟨⟨trivial, (indexR_L0_ok F F)⟩, trivial⟩⟩)) (fun s => by kernel_rfl)
def indexR_T (F : Nat) : List Ent := indexR_E F :: pin_T F
theorem indexR_T_ok (F : Nat) : EntsOk Try.prog (indexR_T F) := ⟨⟨by kernel_rfl, indexR_ok F⟩, pin_T_ok F⟩
abbrev contR_n : Nat := 2
def contR_S (F : Nat) (s1 : (List (Int × Int))) (f0 : Int) : Option ((Bool × Int)) := (ob (indexR_S F s1 f0) (fun r => (some ((decide (r.1 ≥ (0 : Int))), r.2))))
abbrev contR_I : Sch := ⟨[(0, .c (.k (.sl 0 2))), (1, .c (.k (.hv 1)))], [.ro (.pair (.int .i64) (.int .i64)), .clo 83 [] [.k (.pt 2 0 0 0)], .blk 3 [.t (.int .i64)]]⟩
abbrev contR_O : FSch := ⟨.one (.c (.t .bool)), [.dead, .dead, .blk 3 [.t (.int .i64)]]⟩
def contR_E (F : Nat) : Ent := ⟨48, 2, contR_I, contR_O, fun s => contR_S F s.1 s.2, []⟩
theorem contR_ok (F : Nat) : FnSem Try.prog 48 2 contR_I contR_O (fun s => contR_S F s.1 s.2) :=
  fn_ok (call := callD Try.prog 70 plans (indexR_T F) 20) (Fu := 70) (pl := plOf plans 48) (d := 1000) (an := .no) (callD_ok progMixed 70 plansOk (indexR_T_ok F) 20) progMixed (by kernel_rfl) (anP_ok (c := bodyOf Try.prog 48) (p := []) (trivial)) (fun s => by kernel_rfl)
def contR_T (F : Nat) : List Ent := contR_E F :: indexR_T F
theorem contR_T_ok (F : Nat) : EntsOk Try.prog (contR_T F) := ⟨⟨by kernel_rfl, contR_ok F⟩, indexR_T_ok F⟩
abbrev pisR_n : Nat := 2
def pisR_S (F : Nat) (most : Int) (l : (List (Int × Int))) : Option (Bool) := (ob (contR_S F l most) (fun r => (some (!r.1))))
abbrev pisR_I : Sch := ⟨[(0, .c (.t (.int .i64))), (1, .c (.k (.sl 0 2)))], [.ro (.pair (.int .i64) (.int .i64))]⟩
abbrev pisR_O : FSch := ⟨.one (.c (.t .bool)), [.dead]⟩
def pisR_E (F : Nat) : Ent := ⟨43, 2, pisR_I, pisR_O, fun s => pisR_S F s.1 s.2, []⟩
theorem pisR_ok (F : Nat) : FnSem Try.prog 43 2 pisR_I pisR_O (fun s => pisR_S F s.1 s.2) :=
  fn_ok (call := callD Try.prog 70 plans (contR_T F) 20) (Fu := 70) (pl := plOf plans 43) (d := 1000) (an := .no) (callD_ok progMixed 70 plansOk (contR_T_ok F) 20) progMixed (by kernel_rfl) (anP_ok (c := bodyOf Try.prog 43) (p := []) (trivial)) (fun s => by kernel_rfl)
def pisR_T (F : Nat) : List Ent := pisR_E F :: contR_T F
theorem pisR_T_ok (F : Nat) : EntsOk Try.prog (pisR_T F) := ⟨⟨by kernel_rfl, pisR_ok F⟩, contR_T_ok F⟩
abbrev edge_n : Nat := 3
def edge_S (F : Nat) (edge : (Int × Int)) (gap : (Int × Int)) (t2 : (List ((Int × Int) × ((Int × Int) × (Int × Int))))) : Option ((Int × Int)) := (ob (times_S F edge (nth t2 (TC.dflt (TC.pair (TC.pair (TC.int IntKind.i64) (TC.int IntKind.i64)) (TC.pair (TC.pair (TC.int IntKind.i64) (TC.int IntKind.i64)) (TC.pair (TC.int IntKind.i64) (TC.int IntKind.i64))))) 0).1 (1000000 : Int)) (fun r => (ob (less_S F r.1 gap) (fun r1 => (some r1.1)))))
abbrev edge_I : Sch := ⟨[(0, .ag [.t (.pair (.int .i64) (.int .i64))]), (1, .ag [.t (.pair (.int .i64) (.int .i64))]), (2, .c (.k (.pt 0 6 0 0)))], [.ro (.pair (.pair (.int .i64) (.int .i64)) (.pair (.pair (.int .i64) (.int .i64)) (.pair (.int .i64) (.int .i64))))]⟩
abbrev edge_O : FSch := ⟨.one (.ag [.t (.pair (.int .i64) (.int .i64))]), [.dead]⟩
def edge_E (F : Nat) : Ent := ⟨44, 3, edge_I, edge_O, fun s => edge_S F s.1.1 s.1.2 s.2, [none, none, some (.pair (.pair (.int .i64) (.int .i64)) (.pair (.pair (.int .i64) (.int .i64)) (.pair (.int .i64) (.int .i64))))]⟩
theorem edge_ok (F : Nat) : FnSem Try.prog 44 3 edge_I edge_O (fun s => edge_S F s.1.1 s.1.2 s.2) :=
  fn_ok (call := callD Try.prog 70 plans (pisR_T F) 20) (Fu := 70) (pl := plOf plans 44) (d := 1000) (an := .no) (callD_ok progMixed 70 plansOk (pisR_T_ok F) 20) progMixed (by kernel_rfl) (anP_ok (c := bodyOf Try.prog 44) (p := []) (trivial)) (fun s => by kernel_rfl)
def edge_T (F : Nat) : List Ent := edge_E F :: pisR_T F
theorem edge_T_ok (F : Nat) : EntsOk Try.prog (edge_T F) := ⟨⟨by kernel_rfl, edge_ok F⟩, pisR_T_ok F⟩
abbrev seen_n : Nat := 2
def seen_S (F : Nat) (o : ((Int × Int) × ((Int × Int) × (Int × Int)))) (ring : ((Int × Int) × (Int × Int))) : Option (((Int × Int) × Int)) := (ob (pisR_S F (10000000000 : Int) (o.1 :: (o.2.1 :: (o.2.2 :: (ring.1 :: (ring.2 :: [])))))) (fun r => (bif (!r) then (some (((0 : Int), (0 : Int)), (2 : Int))) else (ob (edge_S F ring.1 o.2.1 (o :: [])) (fun r1 => (ob (edge_S F ring.2 o.2.2 (o :: [])) (fun r2 => (ob (meet_S F (r1 :: (r2 :: []))) (fun r3 => (bif (r3.2 != (0 : Int)) then (some (((0 : Int), (0 : Int)), (40 : Int))) else (some (r3.1, (0 : Int)))))))))))))
abbrev seen_I : Sch := ⟨[(0, .ag [.t (.pair (.pair (.int .i64) (.int .i64)) (.pair (.pair (.int .i64) (.int .i64)) (.pair (.int .i64) (.int .i64))))]), (1, .ag [.t (.pair (.pair (.int .i64) (.int .i64)) (.pair (.int .i64) (.int .i64)))])], []⟩
abbrev seen_O : FSch := ⟨.tu [(true, [.t (.pair (.int .i64) (.int .i64))]), (false, [.t (.int .i64)])], []⟩
def seen_E (F : Nat) : Ent := ⟨17, 2, seen_I, seen_O, fun s => seen_S F s.1 s.2, []⟩
theorem seen_ok (F : Nat) : FnSem Try.prog 17 2 seen_I seen_O (fun s => seen_S F s.1 s.2) :=
  fn_ok (call := callD Try.prog 70 plans (edge_T F) 20) (Fu := 70) (pl := plOf plans 17) (d := 1000) (an := .no) (callD_ok progMixed 70 plansOk (edge_T_ok F) 20) progMixed (by kernel_rfl) (anP_ok (c := bodyOf Try.prog 17) (p := []) (trivial)) (fun s => by kernel_rfl)
def seen_T (F : Nat) : List Ent := seen_E F :: edge_T F
theorem seen_T_ok (F : Nat) : EntsOk Try.prog (seen_T F) := ⟨⟨by kernel_rfl, seen_ok F⟩, edge_T_ok F⟩
abbrev edges_n : Nat := 2
def edges_S (F : Nat) (o : ((Int × Int) × ((Int × Int) × (Int × Int)))) (ring : ((Int × Int) × (Int × Int))) : Option (Bool) := (ob (seen_S F o ring) (fun r => (bif (r.2 == (2 : Int)) then (bif (bif false then (!((r.1.1 == (0 : Int)) && (r.1.2 == (0 : Int)))) else ((r.1.1 == (0 : Int)) && (r.1.2 == (0 : Int)))) then (some true) else (some false)) else (ob (bif (decide (o.1.1 < (1 : Int))) then (some ((r.2, true), (o, ring, r.1))) else (bif (decide (o.1.2 > (2000000 : Int))) then (some ((r.2, true), (o, ring, r.1))) else (bif (decide (o.2.1.2 > (1000000 : Int))) then (some ((r.2, true), (o, ring, r.1))) else (some ((r.2, (decide (o.2.2.2 > (1000000 : Int)))), (o, ring, r.1)))))) (fun s1 => (bif s1.1.2 then (some true) else (ob (trace_S F (0 : Int) (0 : Int) s1.2.2.1.1 ([] ++ (((-1 : Int), (s1.2.1.1, (((IntKind.wrap IntKind.i64 ((0 : Int) - s1.2.1.2.1.2)), (IntKind.wrap IntKind.i64 ((0 : Int) - s1.2.1.2.1.1))), (0 : Int)))) :: (((-1 : Int), (s1.2.1.1, (((IntKind.wrap IntKind.i64 ((0 : Int) - s1.2.1.2.2.2)), (IntKind.wrap IntKind.i64 ((0 : Int) - s1.2.1.2.2.1))), (0 : Int)))) :: [])))) (fun r1 => (ob (trace_S F (1 : Int) (0 : Int) s1.2.2.1.2 ([] ++ (((-1 : Int), (s1.2.1.1, (((IntKind.wrap IntKind.i64 ((0 : Int) - s1.2.1.2.1.2)), (IntKind.wrap IntKind.i64 ((0 : Int) - s1.2.1.2.1.1))), (0 : Int)))) :: (((-1 : Int), (s1.2.1.1, (((IntKind.wrap IntKind.i64 ((0 : Int) - s1.2.1.2.2.2)), (IntKind.wrap IntKind.i64 ((0 : Int) - s1.2.1.2.2.1))), (0 : Int)))) :: [])))) (fun r2 => (bif (r1.1.2 != (0 : Int)) then (some false) else (bif (r2.1.2 != (0 : Int)) then (some false) else (ob (meet_S F (r1.1.1 :: (r2.1.1 :: []))) (fun r3 => (bif (r3.2 == (7 : Int)) then (bif (s1.1.1 == (40 : Int)) then (bif (bif false then (!((s1.2.2.2.1 == (0 : Int)) && (s1.2.2.2.2 == (0 : Int)))) else ((s1.2.2.2.1 == (0 : Int)) && (s1.2.2.2.2 == (0 : Int)))) then (some true) else (some false)) else (some false)) else (bif (r3.2 == (0 : Int)) then (bif (s1.1.1 == (0 : Int)) then (bif (bif false then (!((s1.2.2.2.1 == r3.1.1) && (s1.2.2.2.2 == r3.1.2))) else ((s1.2.2.2.1 == r3.1.1) && (s1.2.2.2.2 == r3.1.2))) then (some true) else (some false)) else (some false)) else (some false)))))))))))))))))
abbrev edges_I : Sch := ⟨[(0, .ag [.t (.pair (.pair (.int .i64) (.int .i64)) (.pair (.pair (.int .i64) (.int .i64)) (.pair (.int .i64) (.int .i64))))]), (1, .ag [.t (.pair (.pair (.int .i64) (.int .i64)) (.pair (.int .i64) (.int .i64)))])], []⟩
abbrev edges_O : FSch := ⟨.one (.c (.t .bool)), []⟩
def edges_E (F : Nat) : Ent := ⟨5, 2, edges_I, edges_O, fun s => edges_S F s.1 s.2, []⟩
theorem edges_ok (F : Nat) : FnSem Try.prog 5 2 edges_I edges_O (fun s => edges_S F s.1 s.2) :=
  fn_ok (call := callD Try.prog 70 plans (seen_T F) 20) (Fu := 70) (pl := plOf plans 5) (d := 1000) (an := (.two .no (.two .no (.two .no (.two (.two (.join [(.normal, ⟨[(2, .c (.k (.pt 0 0 0 0))), (3, .c (.k (.pt 1 0 0 0))), (5, .c (.k (.pt 2 0 0 0))), (6, .c (.t (.int .i64))), (51, .c (.t .bool))], [.blk 68 [.t (.pair (.pair (.int .i64) (.int .i64)) (.pair (.pair (.int .i64) (.int .i64)) (.pair (.int .i64) (.int .i64))))], .blk 70 [.t (.pair (.pair (.int .i64) (.int .i64)) (.pair (.int .i64) (.int .i64)))], .blk 24 [.t (.pair (.int .i64) (.int .i64))]]⟩)] .no) .no) .no))))) (callD_ok progMixed 70 plansOk (seen_T_ok F) 20) progMixed (by kernel_rfl) (anP_ok (c := bodyOf Try.prog 5) (p := []) (⟨trivial, ⟨trivial, ⟨trivial, ⟨⟨trivial, trivial⟩, trivial⟩⟩⟩⟩)) (fun s => by kernel_rfl)
def edges_T (F : Nat) : List Ent := edges_E F :: seen_T F
theorem edges_T_ok (F : Nat) : EntsOk Try.prog (edges_T F) := ⟨⟨by kernel_rfl, edges_ok F⟩, seen_T_ok F⟩

end
end Go.Proofs.Ytdcekiigkplmgaa
