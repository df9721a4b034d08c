/- What the functions compute, read off the code and checked. No condition. -/
import Derived.Test.YtbnapejkjaddoaaDoorWKA10

namespace Go.Proofs.YtbnapejkjaddoaaDoor
open Go.RowKit Go.Proofs
set_option maxRecDepth 100000
set_option maxHeartbeats 4000000
noncomputable section
abbrev clone0_n : Nat := 1
def clone0_S (F : Nat) (s1 : (List Tsp)) : Option ((List Tsp)) := (bif (Nat.ble 1 (s1.length - 0)) then (bif (lenOk2 0 s1.length) then (some ([] ++ s1)) else none) else none)
abbrev clone0_I : Sch := ⟨[(0, .c (.k (.sl 0 13)))], [.ro Csp]⟩
abbrev clone0_O : FSch := ⟨.one (.c (.k (.sl 1 13))), [.dead, .rows 53 Csp]⟩
def clone0_E (F : Nat) : Ent := ⟨78, 1, clone0_I, clone0_O, fun s => clone0_S F s, []⟩
theorem clone0_ok (F : Nat) : FnSem Tryd.prog 78 1 clone0_I clone0_O (fun s => clone0_S F s) :=
  fn_ok (call := callD Tryd.prog 70 plans (knownC_T F) 20) (Fu := 70) (pl := plOf plans 78) (d := 1000) (an := .no) (callD_ok progMixed 70 plansOk (knownC_T_ok F) 20) progMixed (by kernel_rfl) (anP_ok (c := bodyOf Tryd.prog 78) (p := []) (trivial)) (fun s => by kernel_rfl)
def clone0_T (F : Nat) : List Ent := clone0_E F :: knownC_T F
theorem clone0_T_ok (F : Nat) : EntsOk Tryd.prog (clone0_T F) := ⟨⟨by kernel_rfl, clone0_ok F⟩, knownC_T_ok F⟩
end
end Go.Proofs.YtbnapejkjaddoaaDoor


namespace Go.Proofs.YtbnapejkjaddoaaDoor
open Go.RowKit Go.Proofs
set_option maxRecDepth 100000
noncomputable section
def cloneSp_S (_ : Nat) (l : clone0_I.ty) : Option clone0_I.ty := bif lenOk2 0 (l : List _).length then some l else none
def cloneSp_E (F : Nat) : Ent := ⟨78, 1, clone0_I, clone0_O, fun s => cloneSp_S F s, []⟩
theorem cloneSp_ok (F : Nat) : FnSem Tryd.prog 78 1 clone0_I clone0_O (fun s => cloneSp_S F s) := by
  intro s t hst S F' W0 ι w vs hlen hden hh hcl
  cases s with
  | cons x l =>
    refine clone0_ok F (x :: l) t ?_ S F' W0 ι w vs hlen hden hh hcl
    exact hst
  | nil =>
    have ht : t = [] := by
      have : some ([] : clone0_I.ty) = some t := hst
      exact (Option.some.inj this).symm
    subst ht
    obtain ⟨v, hv, g⟩ := hden 0 (.c (.sl 0 13 0 none none)) rfl
    have hvs : vs = [v] := by
      match vs, hlen with
      | [a], _ => simp at g; rw [g]
    subst hvs
    obtain ⟨i, a', c', nn, h1, h2, h3, h4, h5, ⟨m, h6, h7⟩, _, _, _, h10, _⟩ := hv
    obtain ⟨g0, us, g1, g2⟩ := hh.ok 0 _ i rfl h1
    rw [g0] at h6; cases h6
    have hn : nn = 0 := by rw [h7]; rfl
    subst hn
    have fin : ∀ a', fb _ 78 [.c (.sc (.slice a' 0 c'))] (rsEnc same clone0_I.roots (clone0_I.b [])) (fun _ p h' => clone0_O.dec 1 p h') = some [] → Calls Tryd.prog 78 [Value.slice a' 0 c'].toArray w (fun e w' => ∃ ι' u, e = .returned u ∧ PreM clone0_I.roots.length ι ι' ∧ DenP ι' (clone0_O.res.enc same (clone0_O.a [])) u ∧ HOk S F' W0 ι' (rsEnc same clone0_O.roots (clone0_O.b [])) w' ∧ clone0_I.roots.length ≤ clone0_O.roots.length) := by
      intro a' hr
      refine (progFb _ 78 _ _ _ _ hr S F' W0 ι w [.slice a' 0 c'] ⟨_, _, rfl, ⟨rfl, rfl⟩, rfl⟩ hh hcl).mono fun e w' he => ?_
      obtain ⟨ρ', h', p, u, B, t, rfl, q1, q2, q3, q4, _⟩ := he
      obtain ⟨m1, ι2, m2, m3, m4⟩ := FSch.dec_ok q4 q2 q3
      refine ⟨ι2, u, rfl, fun j hj i hi => m2 j hj i (q1 j i hi), m3, m4, m1⟩
    rw [h2]
    cases a' with
    | none => exact fin none (by kernel_rfl)
    | some ad => exact fin (some ad) (by kernel_rfl)
def cloneSp_T (F : Nat) : List Ent := cloneSp_E F :: clone0_T F
theorem cloneSp_T_ok (F : Nat) : EntsOk Tryd.prog (cloneSp_T F) := ⟨⟨by kernel_rfl, cloneSp_ok F⟩, clone0_T_ok F⟩
end
end Go.Proofs.YtbnapejkjaddoaaDoor


namespace Go.Proofs.YtbnapejkjaddoaaDoor
open Go.RowKit Go.Proofs
set_option maxRecDepth 100000
set_option maxHeartbeats 4000000
noncomputable section
abbrev lineOpen_n : Nat := 1
def lineOpen_S (F : Nat) (l : Nat) (ar0 : Ta0) (ar1 : Ta1) (ar2 : Ta2) (ar3 : Ta3) : Option ((Int × (Ta0 × (Ta1 × (Ta2 × Ta3))))) := (bif (!(Nat.beq l 0)) then (bif (!(Nat.beq l 0)) then (bif (inO l ar2.length) then (bif (nth ar2 (TC.dflt (TC.pair Cod (TC.pair (TC.rf 2 3) TC.bool))) (l - 1)).2.2 then (some ((0 : Int), (ar0, ar1, ar2, ar3))) else (bif (!(Nat.beq l 0)) then (bif (!(Nat.beq l 0)) then (bif (!(Nat.beq l 0)) then (bif (inO l ar2.length) then (bif (!(Nat.beq l 0)) then (bif (!(Nat.beq l 0)) then (bif (inO l ar2.length) then (bif (inO (nth ar2 (TC.dflt (TC.pair Cod (TC.pair (TC.rf 2 3) TC.bool))) (l - 1)).2.1 ar3.length) then (some ((IntKind.wrap IntKind.i64 ((nth ar2 (TC.dflt (TC.pair Cod (TC.pair (TC.rf 2 3) TC.bool))) (l - 1)).1.2.1 - (((nth ar3 (0, []) ((nth ar2 (TC.dflt (TC.pair Cod (TC.pair (TC.rf 2 3) TC.bool))) (l - 1)).2.1 - 1)).2.length : Nat) : Int))), (ar0, ar1, ar2, ar3))) else none) else none) else none) else none) else none) else none) else none) else none)) else none) else none) else none)
abbrev lineOpen_I : Sch := ⟨[(0, .c (.t (.rf 0 2)))], [.ars 0 4 .bool, .ars 1 3 (.int .i64), .aro 2 135 (.pair Cod (.pair (.rf 2 3) .bool)), .arm 3 .i64 false .bool]⟩
abbrev lineOpen_O : FSch := ⟨.one (.c (.t (.int .i64))), [.dead, .dead, .dead, .dead, .ars 0 4 .bool, .ars 1 3 (.int .i64), .aro 2 135 (.pair Cod (.pair (.rf 2 3) .bool)), .arm 3 .i64 false .bool]⟩
def lineOpen_E (F : Nat) : Ent := ⟨76, 1, lineOpen_I, lineOpen_O, fun s => lineOpen_S F s.1 s.2.1 s.2.2.1 s.2.2.2.1 s.2.2.2.2, []⟩
theorem lineOpen_ok (F : Nat) : FnSem Tryd.prog 76 1 lineOpen_I lineOpen_O (fun s => lineOpen_S F s.1 s.2.1 s.2.2.1 s.2.2.2.1 s.2.2.2.2) :=
  fn_ok (call := callD Tryd.prog 70 plans (cloneSp_T F) 20) (Fu := 70) (pl := plOf plans 76) (d := 1000) (an := .no) (callD_ok progMixed 70 plansOk (cloneSp_T_ok F) 20) progMixed (by kernel_rfl) (anP_ok (c := bodyOf Tryd.prog 76) (p := []) (trivial)) (fun s => by kernel_rfl)
def lineOpen_T (F : Nat) : List Ent := lineOpen_E F :: cloneSp_T F
theorem lineOpen_T_ok (F : Nat) : EntsOk Tryd.prog (lineOpen_T F) := ⟨⟨by kernel_rfl, lineOpen_ok F⟩, cloneSp_T_ok F⟩
abbrev ixLine_n : Nat := 2
def ixLine_L0 (F : Nat) (t7 : Int) (g0 : (List Nat)) (g2 : Int) (ar01 : Ta0) (ar11 : Ta1) (ar21 : Ta2) (ar31 : Ta3) : Nat → Int → Option ((Int × ((List Nat) × (Int × (Ta0 × (Ta1 × (Ta2 × Ta3)))))) ⊕ ((List Nat) × (Int × (Ta0 × (Ta1 × (Ta2 × Ta3))))))
  | 0, _ => none
  | n_ + 1, t8 => (bif (decide (t8 < t7)) then (bif (inB t8 (g0.length - 0)) then (bif (!(Nat.beq (nth g0 0 t8.toNat) 0)) then (bif (!(Nat.beq (nth g0 0 t8.toNat) 0)) then (bif (inO (nth g0 0 t8.toNat) ar21.length) then (bif (inO (nth ar21 (TC.dflt (TC.pair Cod (TC.pair (TC.rf 2 3) TC.bool))) ((nth g0 0 t8.toNat) - 1)).2.1 ar31.length) then (bif (getT false g2 (nth ar31 (0, []) ((nth ar21 (TC.dflt (TC.pair Cod (TC.pair (TC.rf 2 3) TC.bool))) ((nth g0 0 t8.toNat) - 1)).2.1 - 1)).2) then (some (.inl (t8, (g0, g2, ar01, ar11, ar21, ar31)))) else (ixLine_L0 F t7 g0 g2 ar01 ar11 ar21 ar31 n_ (IntKind.wrap IntKind.i64 (t8 + (1 : Int))))) else none) else none) else none) else none) else none) else (some (.inr (g0, g2, ar01, ar11, ar21, ar31))))
abbrev ixLine_L0_s : Sch := ⟨[(0, .c (.k (.sl 0 1))), (1, .c (.k (.hv 1))), (7, .c (.t (.int .i64))), (8, .c (.t (.int .i64)))], [.ro (.rf 0 2), .clo 93 [] [.k (.pt 2 0 0 0)], .blk 3 [.t (.int .i64)], .dead, .dead, .dead, .dead, .ars 0 4 .bool, .ars 1 3 (.int .i64), .aro 2 135 (.pair Cod (.pair (.rf 2 3) .bool)), .arm 3 .i64 false .bool]⟩
abbrev ixLine_L0_o : Outs := [(.ret, ⟨[(4, .c (.t (.int .i64)))], [.ro (.rf 0 2), .clo 93 [] [.k (.pt 2 0 0 0)], .blk 3 [.t (.int .i64)], .dead, .dead, .dead, .dead, .ars 0 4 .bool, .ars 1 3 (.int .i64), .aro 2 135 (.pair Cod (.pair (.rf 2 3) .bool)), .arm 3 .i64 false .bool]⟩), ((.exit 0), ⟨[], [.ro (.rf 0 2), .clo 93 [] [.k (.pt 2 0 0 0)], .blk 3 [.t (.int .i64)], .dead, .dead, .dead, .dead, .ars 0 4 .bool, .ars 1 3 (.int .i64), .aro 2 135 (.pair Cod (.pair (.rf 2 3) .bool)), .arm 3 .i64 false .bool]⟩)]
theorem ixLine_L0_ok (F : Nat) : ∀ n, LoopSem Tryd.prog 7 (tmpsOf Tryd.prog 92 ixLine_n) (subAt (bodyOf Tryd.prog 92) [1, 0, 1, 0, 0]) ixLine_L0_s ixLine_L0_o (fun s => (ixLine_L0 F s.1.1 s.2.1 s.2.2.1 s.2.2.2.1 s.2.2.2.2.1 s.2.2.2.2.2.1 s.2.2.2.2.2.2 n s.1.2)) :=
  loop_ok (m := 7) (N := tmpsOf Tryd.prog 92 ixLine_n) (S := ixLine_L0_s) (o := ixLine_L0_o) (call := callD Tryd.prog 70 plans (lineOpen_T F) 20) (Fu := 70) (pl := (plOf plans 92)) (d := 1000) (an := .no) (M := fun n (s : ixLine_L0_s.ty) => (ixLine_L0 F s.1.1 s.2.1 s.2.2.1 s.2.2.2.1 s.2.2.2.2.1 s.2.2.2.2.2.1 s.2.2.2.2.2.2 n s.1.2)) (callD_ok progMixed 70 plansOk (lineOpen_T_ok F) 20) progMixed (anP_ok (c := bodyOf Tryd.prog 92) (p := [1, 0, 1, 0, 0]) (trivial)) (by kernel_rfl) (fun _ => rfl) (fun n s => by
    show (ixLine_L0 F s.1.1 s.2.1 s.2.2.1 s.2.2.2.1 s.2.2.2.2.1 s.2.2.2.2.2.1 s.2.2.2.2.2.2 (n + 1) s.1.2) = _
    kernel_rfl)
def ixLine_S (F : Nat) (s1 : (List Nat)) (f0 : Int) (ar0 : Ta0) (ar1 : Ta1) (ar2 : Ta2) (ar3 : Ta3) : Option ((Int × (Int × (Ta0 × (Ta1 × (Ta2 × Ta3)))))) := (ob (ixLine_L0 F ((s1.length - 0) : Int) s1 f0 ar0 ar1 ar2 ar3 F (0 : Int)) (fun o_ => su o_ (fun s2 => (some (s2.1, (s2.2.2.1, s2.2.2.2.1, s2.2.2.2.2.1, s2.2.2.2.2.2.1, s2.2.2.2.2.2.2)))) (fun s3 => (some ((-1 : Int), (s3.2.1, s3.2.2.1, s3.2.2.2.1, s3.2.2.2.2.1, s3.2.2.2.2.2))))))
abbrev ixLine_I : Sch := ⟨[(0, .c (.k (.sl 0 1))), (1, .c (.k (.hv 1)))], [.ro (.rf 0 2), .clo 93 [] [.k (.pt 2 0 0 0)], .blk 3 [.t (.int .i64)], .ars 0 4 .bool, .ars 1 3 (.int .i64), .aro 2 135 (.pair Cod (.pair (.rf 2 3) .bool)), .arm 3 .i64 false .bool]⟩
abbrev ixLine_O : FSch := ⟨.one (.c (.t (.int .i64))), [.dead, .dead, .blk 3 [.t (.int .i64)], .dead, .dead, .dead, .dead, .ars 0 4 .bool, .ars 1 3 (.int .i64), .aro 2 135 (.pair Cod (.pair (.rf 2 3) .bool)), .arm 3 .i64 false .bool]⟩
def ixLine_E (F : Nat) : Ent := ⟨92, 2, ixLine_I, ixLine_O, fun s => ixLine_S F s.1 s.2.1 s.2.2.1 s.2.2.2.1 s.2.2.2.2.1 s.2.2.2.2.2, []⟩
theorem ixLine_ok (F : Nat) : FnSem Tryd.prog 92 2 ixLine_I ixLine_O (fun s => ixLine_S F s.1 s.2.1 s.2.2.1 s.2.2.2.1 s.2.2.2.2.1 s.2.2.2.2.2) :=
  fn_ok (call := callD Tryd.prog 70 plans (lineOpen_T F) 20) (Fu := 70) (pl := plOf plans 92) (d := 1000) (an := (.two .no (.two (.two .no (.one (.loop ixLine_L0_s ixLine_L0_o (fun s => (ixLine_L0 F s.1.1 s.2.1 s.2.2.1 s.2.2.2.1 s.2.2.2.2.1 s.2.2.2.2.2.1 s.2.2.2.2.2.2 F s.1.2))))) .no))) (callD_ok progMixed 70 plansOk (lineOpen_T_ok F) 20) progMixed (by kernel_rfl) (anP_ok (c := bodyOf Tryd.prog 92) (p := []) (⟨trivial, ⟨⟨trivial, (ixLine_L0_ok F F)⟩, trivial⟩⟩)) (fun s => by kernel_rfl)
def ixLine_T (F : Nat) : List Ent := ixLine_E F :: lineOpen_T F
theorem ixLine_T_ok (F : Nat) : EntsOk Tryd.prog (ixLine_T F) := ⟨⟨by kernel_rfl, ixLine_ok F⟩, lineOpen_T_ok F⟩
abbrev orderAt_n : Nat := 2
def orderAt_S (F : Nat) (number : Int) (b_specs : (List Tsp)) (b_wafers : (List Twf)) (b_orders : (List Nat)) (ar0 : Ta0) (ar1 : Ta1) (ar2 : Ta2) (ar3 : Ta3) : Option ((Nat × (Ta0 × (Ta1 × (Ta2 × Ta3))))) := (ob (within_S F number (0 : Int) (IntKind.wrap IntKind.i64 (((b_orders.length - 0) : Int) - (1 : Int)))) (fun r => (bif (!r) then (some (0, (ar0, ar1, ar2, ar3))) else (bif (inB number (b_orders.length - 0)) then (some ((nth b_orders 0 number.toNat), (ar0, ar1, ar2, ar3))) else none))))
abbrev orderAt_I : Sch := ⟨[(0, .c (.k (.pt 0 0 0 0))), (1, .c (.t (.int .i64)))], [.blk 131 [.k (.sl 1 13), .k (.sl 2 19), .k (.sl 3 1)], .ro Csp, .ro Cwf, .ro (.rf 0 2), .ars 0 4 .bool, .ars 1 3 (.int .i64), .aro 2 135 (.pair Cod (.pair (.rf 2 3) .bool)), .arm 3 .i64 false .bool]⟩
abbrev orderAt_O : FSch := ⟨.one (.c (.t (.rf 0 2))), [.blk 131 [.k (.sl 1 13), .k (.sl 2 19), .k (.sl 3 1)], .dead, .dead, .dead, .dead, .dead, .dead, .dead, .ars 0 4 .bool, .ars 1 3 (.int .i64), .aro 2 135 (.pair Cod (.pair (.rf 2 3) .bool)), .arm 3 .i64 false .bool]⟩
def orderAt_E (F : Nat) : Ent := ⟨73, 2, orderAt_I, orderAt_O, fun s => orderAt_S F s.1 s.2.1 s.2.2.1 s.2.2.2.1 s.2.2.2.2.1 s.2.2.2.2.2.1 s.2.2.2.2.2.2.1 s.2.2.2.2.2.2.2, []⟩
theorem orderAt_ok (F : Nat) : FnSem Tryd.prog 73 2 orderAt_I orderAt_O (fun s => orderAt_S F s.1 s.2.1 s.2.2.1 s.2.2.2.1 s.2.2.2.2.1 s.2.2.2.2.2.1 s.2.2.2.2.2.2.1 s.2.2.2.2.2.2.2) :=
  fn_ok (call := callD Tryd.prog 70 plans (ixLine_T F) 20) (Fu := 70) (pl := plOf plans 73) (d := 1000) (an := .no) (callD_ok progMixed 70 plansOk (ixLine_T_ok F) 20) progMixed (by kernel_rfl) (anP_ok (c := bodyOf Tryd.prog 73) (p := []) (trivial)) (fun s => by kernel_rfl)
def orderAt_T (F : Nat) : List Ent := orderAt_E F :: ixLine_T F
theorem orderAt_T_ok (F : Nat) : EntsOk Tryd.prog (orderAt_T F) := ⟨⟨by kernel_rfl, orderAt_ok F⟩, ixLine_T_ok F⟩
abbrev isWaf_n : Nat := 2
def isWaf_S (F : Nat) (number : Int) (b_specs : (List Tsp)) (b_wafers : (List Twf)) (b_orders : (List Nat)) (ar0 : Ta0) (ar1 : Ta1) (ar2 : Ta2) (ar3 : Ta3) : Option ((Bool × (Ta0 × (Ta1 × (Ta2 × Ta3))))) := (ob (within_S F number (0 : Int) (IntKind.wrap IntKind.i64 (((b_wafers.length - 0) : Int) - (1 : Int)))) (fun r => (some (r, (ar0, ar1, ar2, ar3)))))
abbrev isWaf_I : Sch := ⟨[(0, .c (.k (.pt 0 0 0 0))), (1, .c (.t (.int .i64)))], [.blk 131 [.k (.sl 1 13), .k (.sl 2 19), .k (.sl 3 1)], .ro Csp, .ro Cwf, .ro (.rf 0 2), .ars 0 4 .bool, .ars 1 3 (.int .i64), .aro 2 135 (.pair Cod (.pair (.rf 2 3) .bool)), .arm 3 .i64 false .bool]⟩
abbrev isWaf_O : FSch := ⟨.one (.c (.t .bool)), [.blk 131 [.k (.sl 1 13), .k (.sl 2 19), .k (.sl 3 1)], .dead, .dead, .dead, .dead, .dead, .dead, .dead, .ars 0 4 .bool, .ars 1 3 (.int .i64), .aro 2 135 (.pair Cod (.pair (.rf 2 3) .bool)), .arm 3 .i64 false .bool]⟩
def isWaf_E (F : Nat) : Ent := ⟨74, 2, isWaf_I, isWaf_O, fun s => isWaf_S F s.1 s.2.1 s.2.2.1 s.2.2.2.1 s.2.2.2.2.1 s.2.2.2.2.2.1 s.2.2.2.2.2.2.1 s.2.2.2.2.2.2.2, []⟩
theorem isWaf_ok (F : Nat) : FnSem Tryd.prog 74 2 isWaf_I isWaf_O (fun s => isWaf_S F s.1 s.2.1 s.2.2.1 s.2.2.2.1 s.2.2.2.2.1 s.2.2.2.2.2.1 s.2.2.2.2.2.2.1 s.2.2.2.2.2.2.2) :=
  fn_ok (call := callD Tryd.prog 70 plans (orderAt_T F) 20) (Fu := 70) (pl := plOf plans 74) (d := 1000) (an := .no) (callD_ok progMixed 70 plansOk (orderAt_T_ok F) 20) progMixed (by kernel_rfl) (anP_ok (c := bodyOf Tryd.prog 74) (p := []) (trivial)) (fun s => by kernel_rfl)
def isWaf_T (F : Nat) : List Ent := isWaf_E F :: orderAt_T F
theorem isWaf_T_ok (F : Nat) : EntsOk Tryd.prog (isWaf_T F) := ⟨⟨by kernel_rfl, isWaf_ok F⟩, orderAt_T_ok F⟩
abbrev bookAt_n : Nat := 2
def bookAt_S (F : Nat) (wafer : Int) (b_specs : (List Tsp)) (b_wafers : (List Twf)) (b_orders : (List Nat)) (ar0 : Ta0) (ar1 : Ta1) (ar2 : Ta2) (ar3 : Ta3) : Option ((Int × (Ta0 × (Ta1 × (Ta2 × Ta3))))) := (ob (ixLine_S F b_orders wafer ar0 ar1 ar2 ar3) (fun r => (some (r.1, (r.2.2.1, r.2.2.2.1, r.2.2.2.2.1, r.2.2.2.2.2)))))
abbrev bookAt_I : Sch := ⟨[(0, .c (.k (.pt 0 0 0 0))), (1, .c (.t (.int .i64)))], [.blk 131 [.k (.sl 1 13), .k (.sl 2 19), .k (.sl 3 1)], .ro Csp, .ro Cwf, .ro (.rf 0 2), .ars 0 4 .bool, .ars 1 3 (.int .i64), .aro 2 135 (.pair Cod (.pair (.rf 2 3) .bool)), .arm 3 .i64 false .bool]⟩
abbrev bookAt_O : FSch := ⟨.one (.c (.t (.int .i64))), [.blk 131 [.k (.sl 1 13), .k (.sl 2 19), .k (.sl 3 1)], .dead, .dead, .dead, .dead, .dead, .dead, .dead, .ars 0 4 .bool, .ars 1 3 (.int .i64), .aro 2 135 (.pair Cod (.pair (.rf 2 3) .bool)), .arm 3 .i64 false .bool]⟩
def bookAt_E (F : Nat) : Ent := ⟨75, 2, bookAt_I, bookAt_O, fun s => bookAt_S F s.1 s.2.1 s.2.2.1 s.2.2.2.1 s.2.2.2.2.1 s.2.2.2.2.2.1 s.2.2.2.2.2.2.1 s.2.2.2.2.2.2.2, []⟩
theorem bookAt_ok (F : Nat) : FnSem Tryd.prog 75 2 bookAt_I bookAt_O (fun s => bookAt_S F s.1 s.2.1 s.2.2.1 s.2.2.2.1 s.2.2.2.2.1 s.2.2.2.2.2.1 s.2.2.2.2.2.2.1 s.2.2.2.2.2.2.2) :=
  fn_ok (call := callD Tryd.prog 70 plans (isWaf_T F) 20) (Fu := 70) (pl := plOf plans 75) (d := 1000) (an := .no) (callD_ok progMixed 70 plansOk (isWaf_T_ok F) 20) progMixed (by kernel_rfl) (anP_ok (c := bodyOf Tryd.prog 75) (p := []) (trivial)) (fun s => by kernel_rfl)
def bookAt_T (F : Nat) : List Ent := bookAt_E F :: isWaf_T F
theorem bookAt_T_ok (F : Nat) : EntsOk Tryd.prog (bookAt_T F) := ⟨⟨by kernel_rfl, bookAt_ok F⟩, isWaf_T_ok F⟩
abbrev bCancel_n : Nat := 2
def bCancel_S (F : Nat) (order : Int) (b_specs : (List Tsp)) (b_wafers : (List Twf)) (b_orders : (List Nat)) (ar0 : Ta0) (ar1 : Ta1) (ar2 : Ta2) (ar3 : Ta3) : Option ((Int × (Ta0 × (Ta1 × (Ta2 × Ta3))))) := (ob (orderAt_S F order b_specs b_wafers b_orders ar0 ar1 ar2 ar3) (fun r => (bif (bif false then (!(Nat.beq r.1 0)) else (Nat.beq r.1 0)) then (some ((7 : Int), (r.2.1, r.2.2.1, r.2.2.2.1, r.2.2.2.2))) else (bif (!(Nat.beq r.1 0)) then (bif (!(Nat.beq r.1 0)) then (bif (inO r.1 r.2.2.2.1.length) then (bif (nth r.2.2.2.1 (TC.dflt (TC.pair Cod (TC.pair (TC.rf 2 3) TC.bool))) (r.1 - 1)).2.2 then (some ((9 : Int), (r.2.1, r.2.2.1, r.2.2.2.1, r.2.2.2.2))) else (bif (!(Nat.beq r.1 0)) then (bif (!(Nat.beq r.1 0)) then (bif (inO r.1 r.2.2.2.1.length) then (some ((0 : Int), (r.2.1, r.2.2.1, (List.set r.2.2.2.1 (r.1 - 1) ((nth r.2.2.2.1 (TC.dflt (TC.pair Cod (TC.pair (TC.rf 2 3) TC.bool))) (r.1 - 1)).1, ((nth r.2.2.2.1 (TC.dflt (TC.pair Cod (TC.pair (TC.rf 2 3) TC.bool))) (r.1 - 1)).2.1, true))), r.2.2.2.2))) else none) else none) else none)) else none) else none) else none))))
abbrev bCancel_I : Sch := ⟨[(0, .c (.k (.pt 0 0 0 0))), (1, .c (.t (.int .i64)))], [.blk 131 [.k (.sl 1 13), .k (.sl 2 19), .k (.sl 3 1)], .ro Csp, .ro Cwf, .ro (.rf 0 2), .ars 0 4 .bool, .ars 1 3 (.int .i64), .aro 2 135 (.pair Cod (.pair (.rf 2 3) .bool)), .arm 3 .i64 false .bool]⟩
abbrev bCancel_O : FSch := ⟨.one (.c (.t (.int .i64))), [.blk 131 [.k (.sl 1 13), .k (.sl 2 19), .k (.sl 3 1)], .dead, .dead, .dead, .dead, .dead, .dead, .dead, .ars 0 4 .bool, .ars 1 3 (.int .i64), .aro 2 135 (.pair Cod (.pair (.rf 2 3) .bool)), .arm 3 .i64 false .bool]⟩
def bCancel_E (F : Nat) : Ent := ⟨38, 2, bCancel_I, bCancel_O, fun s => bCancel_S F s.1 s.2.1 s.2.2.1 s.2.2.2.1 s.2.2.2.2.1 s.2.2.2.2.2.1 s.2.2.2.2.2.2.1 s.2.2.2.2.2.2.2, []⟩
theorem bCancel_ok (F : Nat) : FnSem Tryd.prog 38 2 bCancel_I bCancel_O (fun s => bCancel_S F s.1 s.2.1 s.2.2.1 s.2.2.2.1 s.2.2.2.2.1 s.2.2.2.2.2.1 s.2.2.2.2.2.2.1 s.2.2.2.2.2.2.2) :=
  fn_ok (call := callD Tryd.prog 70 plans (bookAt_T F) 20) (Fu := 70) (pl := plOf plans 38) (d := 1000) (an := .no) (callD_ok progMixed 70 plansOk (bookAt_T_ok F) 20) progMixed (by kernel_rfl) (anP_ok (c := bodyOf Tryd.prog 38) (p := []) (trivial)) (fun s => by kernel_rfl)
def bCancel_T (F : Nat) : List Ent := bCancel_E F :: bookAt_T F
theorem bCancel_T_ok (F : Nat) : EntsOk Tryd.prog (bCancel_T F) := ⟨⟨by kernel_rfl, bCancel_ok F⟩, bookAt_T_ok F⟩
abbrev bShip_n : Nat := 3
def bShip_S (F : Nat) (wafer : Int) (order : Int) (b_specs : (List Tsp)) (b_wafers : (List Twf)) (b_orders : (List Nat)) (ar0 : Ta0) (ar1 : Ta1) (ar2 : Ta2) (ar3 : Ta3) : Option ((Int × (Ta0 × (Ta1 × (Ta2 × Ta3))))) := (ob (orderAt_S F order b_specs b_wafers b_orders ar0 ar1 ar2 ar3) (fun r => (ob (ob (isWaf_S F wafer b_specs b_wafers b_orders r.2.1 r.2.2.1 r.2.2.2.1 r.2.2.2.2) (fun r1 => (bif (!r1.1) then (some ((wafer, r.1, true), (b_specs, b_wafers, b_orders, r1.2.1, r1.2.2.1, r1.2.2.2.1, r1.2.2.2.2))) else (some ((wafer, r.1, (bif false then (!(Nat.beq r.1 0)) else (Nat.beq r.1 0))), (b_specs, b_wafers, b_orders, r1.2.1, r1.2.2.1, r1.2.2.2.1, r1.2.2.2.2)))))) (fun s1 => (bif s1.1.2.2 then (some ((7 : Int), (s1.2.2.2.2.1, s1.2.2.2.2.2.1, s1.2.2.2.2.2.2.1, s1.2.2.2.2.2.2.2))) else (ob (ob (bookAt_S F s1.1.1 s1.2.1 s1.2.2.1 s1.2.2.2.1 s1.2.2.2.2.1 s1.2.2.2.2.2.1 s1.2.2.2.2.2.2.1 s1.2.2.2.2.2.2.2) (fun r2 => (bif (decide (r2.1 ≥ (0 : Int))) then (some ((s1.1.1, s1.1.2.1, true), (s1.2.1, s1.2.2.1, s1.2.2.2.1, r2.2.1, r2.2.2.1, r2.2.2.2.1, r2.2.2.2.2))) else (bif (!(Nat.beq s1.1.2.1 0)) then (bif (!(Nat.beq s1.1.2.1 0)) then (bif (inO s1.1.2.1 r2.2.2.2.1.length) then (some ((s1.1.1, s1.1.2.1, (nth r2.2.2.2.1 (TC.dflt (TC.pair Cod (TC.pair (TC.rf 2 3) TC.bool))) (s1.1.2.1 - 1)).2.2), (s1.2.1, s1.2.2.1, s1.2.2.2.1, r2.2.1, r2.2.2.1, r2.2.2.2.1, r2.2.2.2.2))) else none) else none) else none)))) (fun s2 => (bif s2.1.2.2 then (some ((9 : Int), (s2.2.2.2.2.1, s2.2.2.2.2.2.1, s2.2.2.2.2.2.2.1, s2.2.2.2.2.2.2.2))) else (bif (!(Nat.beq s2.1.2.1 0)) then (bif (!(Nat.beq s2.1.2.1 0)) then (bif (!(Nat.beq s2.1.2.1 0)) then (bif (inO s2.1.2.1 s2.2.2.2.2.2.2.1.length) then (bif (inB (nth s2.2.2.2.2.2.2.1 (TC.dflt (TC.pair Cod (TC.pair (TC.rf 2 3) TC.bool))) (s2.1.2.1 - 1)).1.1 (s2.2.1.length - 0)) then (bif (inB s2.1.1 (s2.2.2.1.length - 0)) then (ob (fault_S F (nth s2.2.1 (TC.dflt Csp) (nth s2.2.2.2.2.2.2.1 (TC.dflt (TC.pair Cod (TC.pair (TC.rf 2 3) TC.bool))) (s2.1.2.1 - 1)).1.1.toNat) (nth s2.2.2.1 (TC.dflt Cwf) s2.1.1.toNat)) (fun r3 => (bif (decide (r3 ≥ (0 : Int))) then (some ((100 : Int), (s2.2.2.2.2.1, s2.2.2.2.2.2.1, s2.2.2.2.2.2.2.1, s2.2.2.2.2.2.2.2))) else (ob (lineOpen_S F s2.1.2.1 s2.2.2.2.2.1 s2.2.2.2.2.2.1 s2.2.2.2.2.2.2.1 s2.2.2.2.2.2.2.2) (fun r4 => (bif (decide (r4.1 ≤ (0 : Int))) then (some ((8 : Int), (r4.2.1, r4.2.2.1, r4.2.2.2.1, r4.2.2.2.2))) else (bif (!(Nat.beq s2.1.2.1 0)) then (bif (!(Nat.beq s2.1.2.1 0)) then (bif (inO s2.1.2.1 r4.2.2.2.1.length) then (bif (inO (nth r4.2.2.2.1 (TC.dflt (TC.pair Cod (TC.pair (TC.rf 2 3) TC.bool))) (s2.1.2.1 - 1)).2.1 r4.2.2.2.2.length) then (some ((0 : Int), (r4.2.1, r4.2.2.1, r4.2.2.2.1, (List.set r4.2.2.2.2 ((nth r4.2.2.2.1 (TC.dflt (TC.pair Cod (TC.pair (TC.rf 2 3) TC.bool))) (s2.1.2.1 - 1)).2.1 - 1) ((newCl s2.1.1 (nth r4.2.2.2.2 (0, []) ((nth r4.2.2.2.1 (TC.dflt (TC.pair Cod (TC.pair (TC.rf 2 3) TC.bool))) (s2.1.2.1 - 1)).2.1 - 1)).1 (nth r4.2.2.2.2 (0, []) ((nth r4.2.2.2.1 (TC.dflt (TC.pair Cod (TC.pair (TC.rf 2 3) TC.bool))) (s2.1.2.1 - 1)).2.1 - 1)).2), (updT s2.1.1 (nth r4.2.2.2.2 (0, []) ((nth r4.2.2.2.1 (TC.dflt (TC.pair Cod (TC.pair (TC.rf 2 3) TC.bool))) (s2.1.2.1 - 1)).2.1 - 1)).1 true (nth r4.2.2.2.2 (0, []) ((nth r4.2.2.2.1 (TC.dflt (TC.pair Cod (TC.pair (TC.rf 2 3) TC.bool))) (s2.1.2.1 - 1)).2.1 - 1)).2)))))) else none) else none) else none) else none))))))) else none) else none) else none) else none) else none) else none)))))))))
abbrev bShip_I : Sch := ⟨[(0, .c (.k (.pt 0 0 0 0))), (1, .c (.t (.int .i64))), (2, .c (.t (.int .i64)))], [.blk 131 [.k (.sl 1 13), .k (.sl 2 19), .k (.sl 3 1)], .ro Csp, .ro Cwf, .ro (.rf 0 2), .ars 0 4 .bool, .ars 1 3 (.int .i64), .aro 2 135 (.pair Cod (.pair (.rf 2 3) .bool)), .arm 3 .i64 false .bool]⟩
abbrev bShip_O : FSch := ⟨.one (.c (.t (.int .i64))), [.blk 131 [.k (.sl 1 13), .k (.sl 2 19), .k (.sl 3 1)], .dead, .dead, .dead, .dead, .dead, .dead, .dead, .ars 0 4 .bool, .ars 1 3 (.int .i64), .aro 2 135 (.pair Cod (.pair (.rf 2 3) .bool)), .arm 3 .i64 false .bool]⟩
def bShip_E (F : Nat) : Ent := ⟨39, 3, bShip_I, bShip_O, fun s => bShip_S F s.1.1 s.1.2 s.2.1 s.2.2.1 s.2.2.2.1 s.2.2.2.2.1 s.2.2.2.2.2.1 s.2.2.2.2.2.2.1 s.2.2.2.2.2.2.2, []⟩
theorem bShip_ok (F : Nat) : FnSem Tryd.prog 39 3 bShip_I bShip_O (fun s => bShip_S F s.1.1 s.1.2 s.2.1 s.2.2.1 s.2.2.2.1 s.2.2.2.2.1 s.2.2.2.2.2.1 s.2.2.2.2.2.2.1 s.2.2.2.2.2.2.2) :=
  fn_ok (call := callD Tryd.prog 70 plans (bCancel_T F) 20) (Fu := 70) (pl := plOf plans 39) (d := 1000) (an := (.two .no (.two .no (.two .no (.two (.one (.two (.join [(.normal, ⟨[(0, .c (.k (.pt 0 0 0 0))), (1, .c (.t (.int .i64))), (7, .c (.t (.rf 0 2))), (13, .c (.t .bool))], [.blk 131 [.k (.sl 1 13), .k (.sl 2 19), .k (.sl 3 1)], .ro Csp, .ro Cwf, .ro (.rf 0 2), .dead, .dead, .dead, .dead, .ars 0 4 .bool, .ars 1 3 (.int .i64), .aro 2 135 (.pair Cod (.pair (.rf 2 3) .bool)), .arm 3 .i64 false .bool]⟩)] .no) (.two .no (.two (.join [(.normal, ⟨[(0, .c (.k (.pt 0 0 0 0))), (1, .c (.t (.int .i64))), (7, .c (.t (.rf 0 2))), (22, .c (.t .bool))], [.blk 131 [.k (.sl 1 13), .k (.sl 2 19), .k (.sl 3 1)], .ro Csp, .ro Cwf, .ro (.rf 0 2), .dead, .dead, .dead, .dead, .ars 0 4 .bool, .ars 1 3 (.int .i64), .aro 2 135 (.pair Cod (.pair (.rf 2 3) .bool)), .arm 3 .i64 false .bool]⟩)] .no) .no)))) .no))))) (callD_ok progMixed 70 plansOk (bCancel_T_ok F) 20) progMixed (by kernel_rfl) (anP_ok (c := bodyOf Tryd.prog 39) (p := []) (⟨trivial, ⟨trivial, ⟨trivial, ⟨⟨trivial, ⟨trivial, ⟨trivial, trivial⟩⟩⟩, trivial⟩⟩⟩⟩)) (fun s => by kernel_rfl)
def bShip_T (F : Nat) : List Ent := bShip_E F :: bCancel_T F
theorem bShip_T_ok (F : Nat) : EntsOk Tryd.prog (bShip_T F) := ⟨⟨by kernel_rfl, bShip_ok F⟩, bCancel_T_ok F⟩
abbrev bBack_n : Nat := 2
def bBack_S (F : Nat) (wafer : Int) (b_specs : (List Tsp)) (b_wafers : (List Twf)) (b_orders : (List Nat)) (ar0 : Ta0) (ar1 : Ta1) (ar2 : Ta2) (ar3 : Ta3) : Option ((Int × (Ta0 × (Ta1 × (Ta2 × Ta3))))) := (ob (isWaf_S F wafer b_specs b_wafers b_orders ar0 ar1 ar2 ar3) (fun r => (bif (!r.1) then (some ((7 : Int), (r.2.1, r.2.2.1, r.2.2.2.1, r.2.2.2.2))) else (ob (bookAt_S F wafer b_specs b_wafers b_orders r.2.1 r.2.2.1 r.2.2.2.1 r.2.2.2.2) (fun r1 => (bif (decide (r1.1 < (0 : Int))) then (some ((9 : Int), (r1.2.1, r1.2.2.1, r1.2.2.2.1, r1.2.2.2.2))) else (bif (inB r1.1 (b_orders.length - 0)) then (bif (!(Nat.beq (nth b_orders 0 r1.1.toNat) 0)) then (bif (!(Nat.beq (nth b_orders 0 r1.1.toNat) 0)) then (bif (inO (nth b_orders 0 r1.1.toNat) r1.2.2.2.1.length) then (bif (inO (nth r1.2.2.2.1 (TC.dflt (TC.pair Cod (TC.pair (TC.rf 2 3) TC.bool))) ((nth b_orders 0 r1.1.toNat) - 1)).2.1 r1.2.2.2.2.length) then (some ((0 : Int), (r1.2.1, r1.2.2.1, r1.2.2.2.1, (List.set r1.2.2.2.2 ((nth r1.2.2.2.1 (TC.dflt (TC.pair Cod (TC.pair (TC.rf 2 3) TC.bool))) ((nth b_orders 0 r1.1.toNat) - 1)).2.1 - 1) ((nth r1.2.2.2.2 (0, []) ((nth r1.2.2.2.1 (TC.dflt (TC.pair Cod (TC.pair (TC.rf 2 3) TC.bool))) ((nth b_orders 0 r1.1.toNat) - 1)).2.1 - 1)).1, (delT wafer (nth r1.2.2.2.2 (0, []) ((nth r1.2.2.2.1 (TC.dflt (TC.pair Cod (TC.pair (TC.rf 2 3) TC.bool))) ((nth b_orders 0 r1.1.toNat) - 1)).2.1 - 1)).2)))))) else none) else none) else none) else none) else none)))))))
abbrev bBack_I : Sch := ⟨[(0, .c (.k (.pt 0 0 0 0))), (1, .c (.t (.int .i64)))], [.blk 131 [.k (.sl 1 13), .k (.sl 2 19), .k (.sl 3 1)], .ro Csp, .ro Cwf, .ro (.rf 0 2), .ars 0 4 .bool, .ars 1 3 (.int .i64), .aro 2 135 (.pair Cod (.pair (.rf 2 3) .bool)), .arm 3 .i64 false .bool]⟩
abbrev bBack_O : FSch := ⟨.one (.c (.t (.int .i64))), [.blk 131 [.k (.sl 1 13), .k (.sl 2 19), .k (.sl 3 1)], .dead, .dead, .dead, .dead, .dead, .dead, .dead, .ars 0 4 .bool, .ars 1 3 (.int .i64), .aro 2 135 (.pair Cod (.pair (.rf 2 3) .bool)), .arm 3 .i64 false .bool]⟩
def bBack_E (F : Nat) : Ent := ⟨40, 2, bBack_I, bBack_O, fun s => bBack_S F s.1 s.2.1 s.2.2.1 s.2.2.2.1 s.2.2.2.2.1 s.2.2.2.2.2.1 s.2.2.2.2.2.2.1 s.2.2.2.2.2.2.2, []⟩
theorem bBack_ok (F : Nat) : FnSem Tryd.prog 40 2 bBack_I bBack_O (fun s => bBack_S F s.1 s.2.1 s.2.2.1 s.2.2.2.1 s.2.2.2.2.1 s.2.2.2.2.2.1 s.2.2.2.2.2.2.1 s.2.2.2.2.2.2.2) :=
  fn_ok (call := callD Tryd.prog 70 plans (bShip_T F) 20) (Fu := 70) (pl := plOf plans 40) (d := 1000) (an := .no) (callD_ok progMixed 70 plansOk (bShip_T_ok F) 20) progMixed (by kernel_rfl) (anP_ok (c := bodyOf Tryd.prog 40) (p := []) (trivial)) (fun s => by kernel_rfl)
def bBack_T (F : Nat) : List Ent := bBack_E F :: bShip_T F
theorem bBack_T_ok (F : Nat) : EntsOk Tryd.prog (bBack_T F) := ⟨⟨by kernel_rfl, bBack_ok F⟩, bShip_T_ok F⟩
abbrev bOpen_n : Nat := 2
def bOpen_S (F : Nat) (order : Int) (b_specs : (List Tsp)) (b_wafers : (List Twf)) (b_orders : (List Nat)) (ar0 : Ta0) (ar1 : Ta1) (ar2 : Ta2) (ar3 : Ta3) : Option (((Int × Int) × (Ta0 × (Ta1 × (Ta2 × Ta3))))) := (ob (orderAt_S F order b_specs b_wafers b_orders ar0 ar1 ar2 ar3) (fun r => (bif (bif false then (!(Nat.beq r.1 0)) else (Nat.beq r.1 0)) then (some (((0 : Int), (7 : Int)), (r.2.1, r.2.2.1, r.2.2.2.1, r.2.2.2.2))) else (ob (lineOpen_S F r.1 r.2.1 r.2.2.1 r.2.2.2.1 r.2.2.2.2) (fun r1 => (some ((r1.1, (0 : Int)), (r1.2.1, r1.2.2.1, r1.2.2.2.1, r1.2.2.2.2))))))))
abbrev bOpen_I : Sch := ⟨[(0, .c (.k (.pt 0 0 0 0))), (1, .c (.t (.int .i64)))], [.blk 131 [.k (.sl 1 13), .k (.sl 2 19), .k (.sl 3 1)], .ro Csp, .ro Cwf, .ro (.rf 0 2), .ars 0 4 .bool, .ars 1 3 (.int .i64), .aro 2 135 (.pair Cod (.pair (.rf 2 3) .bool)), .arm 3 .i64 false .bool]⟩
abbrev bOpen_O : FSch := ⟨.tu [(false, [.t (.int .i64)]), (false, [.t (.int .i64)])], [.blk 131 [.k (.sl 1 13), .k (.sl 2 19), .k (.sl 3 1)], .dead, .dead, .dead, .dead, .dead, .dead, .dead, .ars 0 4 .bool, .ars 1 3 (.int .i64), .aro 2 135 (.pair Cod (.pair (.rf 2 3) .bool)), .arm 3 .i64 false .bool]⟩
def bOpen_E (F : Nat) : Ent := ⟨41, 2, bOpen_I, bOpen_O, fun s => bOpen_S F s.1 s.2.1 s.2.2.1 s.2.2.2.1 s.2.2.2.2.1 s.2.2.2.2.2.1 s.2.2.2.2.2.2.1 s.2.2.2.2.2.2.2, []⟩
theorem bOpen_ok (F : Nat) : FnSem Tryd.prog 41 2 bOpen_I bOpen_O (fun s => bOpen_S F s.1 s.2.1 s.2.2.1 s.2.2.2.1 s.2.2.2.2.1 s.2.2.2.2.2.1 s.2.2.2.2.2.2.1 s.2.2.2.2.2.2.2) :=
  fn_ok (call := callD Tryd.prog 70 plans (bBack_T F) 20) (Fu := 70) (pl := plOf plans 41) (d := 1000) (an := .no) (callD_ok progMixed 70 plansOk (bBack_T_ok F) 20) progMixed (by kernel_rfl) (anP_ok (c := bodyOf Tryd.prog 41) (p := []) (trivial)) (fun s => by kernel_rfl)
def bOpen_T (F : Nat) : List Ent := bOpen_E F :: bBack_T F
theorem bOpen_T_ok (F : Nat) : EntsOk Tryd.prog (bOpen_T F) := ⟨⟨by kernel_rfl, bOpen_ok F⟩, bBack_T_ok F⟩
abbrev bWhere_n : Nat := 2
def bWhere_S (F : Nat) (wafer : Int) (b_specs : (List Tsp)) (b_wafers : (List Twf)) (b_orders : (List Nat)) (ar0 : Ta0) (ar1 : Ta1) (ar2 : Ta2) (ar3 : Ta3) : Option (((Int × Int) × (Ta0 × (Ta1 × (Ta2 × Ta3))))) := (ob (isWaf_S F wafer b_specs b_wafers b_orders ar0 ar1 ar2 ar3) (fun r => (bif (!r.1) then (some (((0 : Int), (7 : Int)), (r.2.1, r.2.2.1, r.2.2.2.1, r.2.2.2.2))) else (ob (bookAt_S F wafer b_specs b_wafers b_orders r.2.1 r.2.2.1 r.2.2.2.1 r.2.2.2.2) (fun r1 => (some ((r1.1, (0 : Int)), (r1.2.1, r1.2.2.1, r1.2.2.2.1, r1.2.2.2.2))))))))
abbrev bWhere_I : Sch := ⟨[(0, .c (.k (.pt 0 0 0 0))), (1, .c (.t (.int .i64)))], [.blk 131 [.k (.sl 1 13), .k (.sl 2 19), .k (.sl 3 1)], .ro Csp, .ro Cwf, .ro (.rf 0 2), .ars 0 4 .bool, .ars 1 3 (.int .i64), .aro 2 135 (.pair Cod (.pair (.rf 2 3) .bool)), .arm 3 .i64 false .bool]⟩
abbrev bWhere_O : FSch := ⟨.tu [(false, [.t (.int .i64)]), (false, [.t (.int .i64)])], [.blk 131 [.k (.sl 1 13), .k (.sl 2 19), .k (.sl 3 1)], .dead, .dead, .dead, .dead, .dead, .dead, .dead, .ars 0 4 .bool, .ars 1 3 (.int .i64), .aro 2 135 (.pair Cod (.pair (.rf 2 3) .bool)), .arm 3 .i64 false .bool]⟩
def bWhere_E (F : Nat) : Ent := ⟨42, 2, bWhere_I, bWhere_O, fun s => bWhere_S F s.1 s.2.1 s.2.2.1 s.2.2.2.1 s.2.2.2.2.1 s.2.2.2.2.2.1 s.2.2.2.2.2.2.1 s.2.2.2.2.2.2.2, []⟩
theorem bWhere_ok (F : Nat) : FnSem Tryd.prog 42 2 bWhere_I bWhere_O (fun s => bWhere_S F s.1 s.2.1 s.2.2.1 s.2.2.2.1 s.2.2.2.2.1 s.2.2.2.2.2.1 s.2.2.2.2.2.2.1 s.2.2.2.2.2.2.2) :=
  fn_ok (call := callD Tryd.prog 70 plans (bOpen_T F) 20) (Fu := 70) (pl := plOf plans 42) (d := 1000) (an := .no) (callD_ok progMixed 70 plansOk (bOpen_T_ok F) 20) progMixed (by kernel_rfl) (anP_ok (c := bodyOf Tryd.prog 42) (p := []) (trivial)) (fun s => by kernel_rfl)
def bWhere_T (F : Nat) : List Ent := bWhere_E F :: bOpen_T F
theorem bWhere_T_ok (F : Nat) : EntsOk Tryd.prog (bWhere_T F) := ⟨⟨by kernel_rfl, bWhere_ok F⟩, bOpen_T_ok F⟩
abbrev bStock_n : Nat := 2
def bStock_S (F : Nat) (w : Twf) (b_specs : (List Tsp)) (b_wafers : (List Twf)) (b_orders : (List Nat)) (ar0 : Ta0) (ar1 : Ta1) (ar2 : Ta2) (ar3 : Ta3) : Option (((Int × Int) × ((List Tsp) × ((List Nat) × (Ta0 × (Ta1 × (Ta2 × (Ta3 × (List Twf))))))))) := (ob (isWafer_S F w) (fun r => (bif (!r) then (some (((0 : Int), (2 : Int)), (b_specs, b_orders, ar0, ar1, ar2, ar3, b_wafers))) else (bif (((b_wafers.length - 0) : Int) == (60 : Int)) then (some (((0 : Int), (8 : Int)), (b_specs, b_orders, ar0, ar1, ar2, ar3, b_wafers))) else (bif (lenOk (b_wafers.length - 0) (w :: []).length) then (some (((IntKind.wrap IntKind.i64 ((((b_wafers ++ (w :: [])).length - 0) : Int) - (1 : Int))), (0 : Int)), (b_specs, b_orders, ar0, ar1, ar2, ar3, (b_wafers ++ (w :: []))))) else none)))))
abbrev bStock_I : Sch := ⟨[(0, .c (.k (.pt 0 0 0 0))), (1, .ag [.t Cwf])], [.blk 131 [.k (.sl 1 13), .k (.sl 2 19), .k (.sl 3 1)], .rows 53 Csp, .rows 46 Cwf, .rows 132 (.rf 0 2), .ars 0 4 .bool, .ars 1 3 (.int .i64), .aro 2 135 (.pair Cod (.pair (.rf 2 3) .bool)), .arm 3 .i64 false .bool]⟩
abbrev bStock_O : FSch := ⟨.tu [(false, [.t (.int .i64)]), (false, [.t (.int .i64)])], [.blk 131 [.k (.sl 1 13), .k (.sl 12 19), .k (.sl 3 1)], .rows 53 Csp, .dead, .rows 132 (.rf 0 2), .dead, .dead, .dead, .dead, .ars 0 4 .bool, .ars 1 3 (.int .i64), .aro 2 135 (.pair Cod (.pair (.rf 2 3) .bool)), .arm 3 .i64 false .bool, .rows 46 Cwf]⟩
def bStock_E (F : Nat) : Ent := ⟨37, 2, bStock_I, bStock_O, fun s => bStock_S F s.1 s.2.1 s.2.2.1 s.2.2.2.1 s.2.2.2.2.1 s.2.2.2.2.2.1 s.2.2.2.2.2.2.1 s.2.2.2.2.2.2.2, []⟩
theorem bStock_ok (F : Nat) : FnSem Tryd.prog 37 2 bStock_I bStock_O (fun s => bStock_S F s.1 s.2.1 s.2.2.1 s.2.2.2.1 s.2.2.2.2.1 s.2.2.2.2.2.1 s.2.2.2.2.2.2.1 s.2.2.2.2.2.2.2) :=
  fn_ok (call := callD Tryd.prog 70 plans (bWhere_T F) 20) (Fu := 70) (pl := plOf plans 37) (d := 1000) (an := .no) (callD_ok progMixed 70 plansOk (bWhere_T_ok F) 20) progMixed (by kernel_rfl) (anP_ok (c := bodyOf Tryd.prog 37) (p := []) (trivial)) (fun s => by kernel_rfl)
def bStock_T (F : Nat) : List Ent := bStock_E F :: bWhere_T F
theorem bStock_T_ok (F : Nat) : EntsOk Tryd.prog (bStock_T F) := ⟨⟨by kernel_rfl, bStock_ok F⟩, bWhere_T_ok F⟩
abbrev bOrder_n : Nat := 2
def bOrder_S (F : Nat) (o : Tod) (b_specs : (List Tsp)) (b_wafers : (List Twf)) (b_orders : (List Nat)) (ar0 : Ta0) (ar1 : Ta1) (ar2 : Ta2) (ar3 : Ta3) : Option (((Int × Int) × ((List Tsp) × ((List Twf) × (Ta0 × (Ta1 × (Ta2 × (Ta3 × (List Nat))))))))) := (ob (isOrder_S F o ((b_specs.length - 0) : Int)) (fun r => (bif (!r) then (some (((0 : Int), (2 : Int)), (b_specs, b_wafers, ar0, ar1, ar2, ar3, b_orders))) else (bif (((b_orders.length - 0) : Int) == (12 : Int)) then (some (((0 : Int), (8 : Int)), (b_specs, b_wafers, ar0, ar1, ar2, ar3, b_orders))) else (bif (lenOk (b_orders.length - 0) ((ar2.length + 1) :: []).length) then (some (((IntKind.wrap IntKind.i64 ((((b_orders ++ ((ar2.length + 1) :: [])).length - 0) : Int) - (1 : Int))), (0 : Int)), (b_specs, b_wafers, ar0, ar1, (ar2 ++ ((o, ((ar3.length + 1), false)) :: [])), (ar3 ++ ((0, []) :: [])), (b_orders ++ ((ar2.length + 1) :: []))))) else none)))))
abbrev bOrder_I : Sch := ⟨[(0, .c (.k (.pt 0 0 0 0))), (1, .ag [.t Cod])], [.blk 131 [.k (.sl 1 13), .k (.sl 2 19), .k (.sl 3 1)], .rows 53 Csp, .rows 46 Cwf, .rows 132 (.rf 0 2), .ars 0 4 .bool, .ars 1 3 (.int .i64), .aro 2 135 (.pair Cod (.pair (.rf 2 3) .bool)), .arm 3 .i64 false .bool]⟩
abbrev bOrder_O : FSch := ⟨.tu [(false, [.t (.int .i64)]), (false, [.t (.int .i64)])], [.blk 131 [.k (.sl 1 13), .k (.sl 2 19), .k (.sl 12 1)], .rows 53 Csp, .rows 46 Cwf, .dead, .dead, .dead, .dead, .dead, .ars 0 4 .bool, .ars 1 3 (.int .i64), .aro 2 135 (.pair Cod (.pair (.rf 2 3) .bool)), .arm 3 .i64 false .bool, .rows 132 (.rf 0 2)]⟩
def bOrder_E (F : Nat) : Ent := ⟨36, 2, bOrder_I, bOrder_O, fun s => bOrder_S F s.1 s.2.1 s.2.2.1 s.2.2.2.1 s.2.2.2.2.1 s.2.2.2.2.2.1 s.2.2.2.2.2.2.1 s.2.2.2.2.2.2.2, []⟩
theorem bOrder_ok (F : Nat) : FnSem Tryd.prog 36 2 bOrder_I bOrder_O (fun s => bOrder_S F s.1 s.2.1 s.2.2.1 s.2.2.2.1 s.2.2.2.2.1 s.2.2.2.2.2.1 s.2.2.2.2.2.2.1 s.2.2.2.2.2.2.2) :=
  fn_ok (call := callD Tryd.prog 70 plans (bStock_T F) 20) (Fu := 70) (pl := plOf plans 36) (d := 1000) (an := .no) (callD_ok progMixed 70 plansOk (bStock_T_ok F) 20) progMixed (by kernel_rfl) (anP_ok (c := bodyOf Tryd.prog 36) (p := []) (trivial)) (fun s => by kernel_rfl)
def bOrder_T (F : Nat) : List Ent := bOrder_E F :: bStock_T F
theorem bOrder_T_ok (F : Nat) : EntsOk Tryd.prog (bOrder_T F) := ⟨⟨by kernel_rfl, bOrder_ok F⟩, bStock_T_ok F⟩
end
end Go.Proofs.YtbnapejkjaddoaaDoor
