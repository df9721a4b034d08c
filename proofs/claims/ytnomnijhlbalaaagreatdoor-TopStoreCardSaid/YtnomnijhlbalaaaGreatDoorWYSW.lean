/- A part of the proof of the theorem of the last file. No condition. By an AI agent. -/
import Derived.Test.YtnomnijhlbalaaaGreatDoorWXW4
set_option maxRecDepth 100000
set_option maxHeartbeats 4000000
namespace Go.Proofs.YtnomnijhlbalaaaGreatDoor
open Go.RowKit Go.Proofs
noncomputable section
abbrev xXm : Nat := 2
def xDx (F : Nat) (s3 : (Nat × Nat)) (v1 : Int) (t7 : Int) (g0 : (List Int)) : Nat -> Int -> Option ((Int × (List Int)) ⊕ (List Int))
 | 0, _ => none
 | n_ + 1, t8 => (bif (decide (t8 < t7)) then (bif (inB t8 s3.2) then (bif (v1 == (nth g0 0 (addN s3.1 t8.toNat))) then (some (.inl (t8, g0))) else (xDx F s3 v1 t7 g0 n_ (jI.wrap (t8 + 1)))) else none) else (some (.inr g0)))
abbrev xIE : Sch := ⟨[(0, .c (.k (.sp 0 1))), (1, .c .i), (7, .c .i), (8, .c .i)], [.ro .i]⟩
abbrev xIF : xBY := [(.ret, ⟨[(4, .c .i)], [.ro .i]⟩), ((.exit 0), ⟨[], [.ro .i]⟩)]
theorem xM5 (F : Nat) : ∀ n, xAS Tryz.prog 1 (xAv Tryz.prog 65 xXm) (xAt (xAi Tryz.prog 65) [1, 0, 1, 0, 0]) xIE xIF (fun s => (xDx F s.1.1 s.1.2.1 s.1.2.2.1 s.2 n s.1.2.2.2)) :=
 lK (an := .no) (xCl F) (trivial)
def xHD (F : Nat) (s1 : (Nat × Nat)) (v : Int) (s2 : (List Int)) : Option (Int) := (ob (xDx F s1 v (s1.2 : Int) s2 F 0) (fun o_ => su o_ (fun s4 => (some s4.1)) (fun s5 => (some (-1 : Int)))))
abbrev xQe : Sch := ⟨[(0, .c (.k (.sp 0 1))), (1, .c .i)], [.ro .i]⟩
abbrev xQd : FSch := ⟨.one (.c .i), [.dead]⟩
def xK9 (F : Nat) : Ent := ⟨65, 2, xQe, xQd, fun s => xHD F s.1.1 s.1.2 s.2, []⟩
theorem xIC (F : Nat) : FnSem Tryz.prog 65 2 xQe xQd (fun s => xHD F s.1.1 s.1.2 s.2) :=
 fK (an := (.two .no (.two (.two .no (.one (.loop xIE xIF (fun s => (xDx F s.1.1 s.1.2.1 s.1.2.2.1 s.2 F s.1.2.2.2))))) .no))) (xCl F) (⟨trivial, ⟨⟨trivial, (xM5 F F)⟩, trivial⟩⟩)
def xQc (F : Nat) : List Ent := xK9 F :: xEZ F
theorem xID (F : Nat) : xAj Tryz.prog (xQc F) := ⟨⟨by kernel_rfl, xIC F⟩, xCl F⟩
def xGG (F : Nat) (s1 : (Nat × Nat)) (v : Int) (s2 : (List Int)) : Option (Bool) := (ob (xHD F s1 v s2) (fun r => (some (decide (r >= 0)))))
abbrev xU6 : Sch := ⟨[(0, .c (.k (.sp 0 1))), (1, .c .i)], [.ro .i]⟩
abbrev xU5 : FSch := ⟨.one (.c (.t .bool)), [.dead]⟩
def xOK (F : Nat) : Ent := ⟨31, 2, xU6, xU5, fun s => xGG F s.1.1 s.1.2 s.2, []⟩
theorem xLw (F : Nat) : FnSem Tryz.prog 31 2 xU6 xU5 (fun s => xGG F s.1.1 s.1.2 s.2) :=
 fK (an := .no) (xID F) (trivial)
def xU4 (F : Nat) : List Ent := xOK F :: xQc F
theorem xER (F : Nat) : xAj Tryz.prog (xU4 F) := ⟨⟨by kernel_rfl, xLw F⟩, xID F⟩
abbrev xS0 : Nat := 2
def xCd (F : Nat) (t16 : Int) (g0 : T_1) (g1 : (List (Int × Nat))) (g2 : (List (Int × Int))) (ar01 : T_2) (ar11 : T_4) : Nat -> Int -> (List (Int × Bool)) -> Option ((Int × (T_1 × ((List (Int × Nat)) × ((List (Int × Int)) × (T_2 × T_4))))) ⊕ (T_1 × ((List (Int × Nat)) × ((List (Int × Int)) × (T_2 × T_4)))))
 | 0, _, _ => none
 | n_ + 1, t17, seen => (bif (decide (t17 < t16)) then (bif (inB t17 (g2.length - 0)) then (bif (Nat.beq (xEW (KK.i jI) 0 (nth g2 D_1 t17.toNat).1 g1) 0) then (some (.inl ((7 : Int), (g0, g1, g2, ar01, ar11)))) else (bif (xEW (KK.i jI) false (nth g2 D_1 t17.toNat).1 seen) then (some (.inl ((6 : Int), (g0, g1, g2, ar01, ar11)))) else (bif (decide ((nth g2 D_1 t17.toNat).2 < 1)) then (some (.inl ((3 : Int), (g0, g1, g2, ar01, ar11)))) else (bif (!(Nat.beq (xEW (KK.i jI) 0 (nth g2 D_1 t17.toNat).1 g1) 0)) then (bif (!(Nat.beq (xEW (KK.i jI) 0 (nth g2 D_1 t17.toNat).1 g1) 0)) then (bif (!(Nat.beq (xEW (KK.i jI) 0 (nth g2 D_1 t17.toNat).1 g1) 0)) then (bif (inO (xEW (KK.i jI) 0 (nth g2 D_1 t17.toNat).1 g1) ar01.length) then (bif (decide ((nth g2 D_1 t17.toNat).2 > (nth ar01 D_0 ((xEW (KK.i jI) 0 (nth g2 D_1 t17.toNat).1 g1) - 1)).1.1)) then (some (.inl ((22 : Int), (g0, g1, g2, ar01, ar11)))) else (xCd F t16 g0 g1 g2 ar01 ar11 n_ (jI.wrap (t17 + 1)) (xHh (KK.i jI) (nth g2 D_1 t17.toNat).1 true seen))) else none) else none) else none) else none)))) else none) else (some (.inr (g0, g1, g2, ar01, ar11))))
abbrev xJA : Sch := ⟨[(0, .c (.k (.pt 0 0 0 0))), (1, .c (.k (.sl 2 2))), (5, .c (.k (.hv 7))), (15, .c (.k (.sl 2 2))), (16, .c .i), (17, .c .i)], [K_8, K_3, K_5, .dead, .dead, K_1, K_2, .mp (.i .i64) false .bool]⟩
abbrev xJB : xBY := [(.ret, ⟨[(4, .c .i)], [K_8, K_3, K_5, .dead, .dead, K_1, K_2]⟩), ((.exit 0), ⟨[(0, .c (.k (.pt 0 0 0 0))), (1, .c (.k (.sl 2 2)))], [K_8, K_3, K_5, .dead, .dead, K_1, K_2]⟩)]
theorem xN4 (F : Nat) : ∀ n, xAS Tryz.prog 5 (xAv Tryz.prog 21 xS0) (xAt (xAi Tryz.prog 21) [1, 1, 1, 0, 1, 0, 0]) xJA xJB (fun s => (xCd F s.1.1 s.2.1 s.2.2.1 s.2.2.2.1 s.t4.1 s.t5.1 n s.1.2 s.t6)) :=
 lK (an := .no) (xER F) (trivial)
abbrev dC (g21 : (List (Int × Int))) (t55 : Int) : Int × Int := nth g21 D_1 t55.toNat
abbrev dA (g21 : (List (Int × Int))) (t55 : Int) (g11 : (List (Int × Nat))) : Nat := xEW (KK.i jI) 0 (dC g21 t55).1 g11
abbrev dB (g21 : (List (Int × Int))) (t55 : Int) (g11 : (List (Int × Nat))) (ar02 : T_2) : ((Int × (Int × (T_0 × Int))) × Nat) := nth ar02 D_0 ((dA g21 t55 g11) - 1)
def xC5 (F : Nat) (t54 : Int) (g11 : (List (Int × Nat))) (g21 : (List (Int × Int))) (ar12 : T_4) : Nat -> Int -> T_1 -> T_2 -> Option ((T_1 × ((List (Int × Nat)) × ((List (Int × Int)) × (T_2 × T_4)))))
 | 0, _, _, _ => none
 | n_ + 1, t55, g01, ar02 => (bif (decide (t55 < t54)) then (bif (inB t55 (g21.length - 0)) then (bif (!(Nat.beq (dA g21 t55 g11) 0)) then (bif (!(Nat.beq (dA g21 t55 g11) 0)) then (bif (!(Nat.beq (dA g21 t55 g11) 0)) then (bif (inO (dA g21 t55 g11) ar02.length) then (bif (!(Nat.beq (dA g21 t55 g11) 0)) then (bif (!(Nat.beq (dA g21 t55 g11) 0)) then (bif (!(Nat.beq (dA g21 t55 g11) 0)) then (bif (inO (dA g21 t55 g11) ar02.length) then (bif (!(Nat.beq (dA g21 t55 g11) 0)) then (bif (!(Nat.beq (dA g21 t55 g11) 0)) then (bif (inO (dA g21 t55 g11) (List.set ar02 ((dA g21 t55 g11) - 1) (((jI.wrap ((dB g21 t55 g11 ar02).1.1 - (dC g21 t55).2)), (dB g21 t55 g11 ar02).1.2), (dB g21 t55 g11 ar02).2)).length) then (xC5 F t54 g11 g21 ar12 n_ (jI.wrap (t55 + 1)) ((jI.wrap (g01.1 + (jI.wrap ((dC g21 t55).2 * (nth (List.set ar02 ((dA g21 t55 g11) - 1) (((jI.wrap ((dB g21 t55 g11 ar02).1.1 - (dC g21 t55).2)), (dB g21 t55 g11 ar02).1.2), (dB g21 t55 g11 ar02).2)) D_0 ((dA g21 t55 g11) - 1)).1.2.1)))), ((jI.wrap (g01.2.1 + (jI.wrap ((dC g21 t55).2 * (nth (List.set ar02 ((dA g21 t55 g11) - 1) (((jI.wrap ((dB g21 t55 g11 ar02).1.1 - (dC g21 t55).2)), (dB g21 t55 g11 ar02).1.2), (dB g21 t55 g11 ar02).2)) D_0 ((dA g21 t55 g11) - 1)).1.2.2.1.1.1)))), ((jI.wrap (g01.2.2.1 + (jI.wrap ((dC g21 t55).2 * (nth (List.set ar02 ((dA g21 t55 g11) - 1) (((jI.wrap ((dB g21 t55 g11 ar02).1.1 - (dC g21 t55).2)), (dB g21 t55 g11 ar02).1.2), (dB g21 t55 g11 ar02).2)) D_0 ((dA g21 t55 g11) - 1)).1.2.2.1.1.2)))), ((jI.wrap (g01.2.2.2.1 + (jI.wrap ((dC g21 t55).2 * (nth (List.set ar02 ((dA g21 t55 g11) - 1) (((jI.wrap ((dB g21 t55 g11 ar02).1.1 - (dC g21 t55).2)), (dB g21 t55 g11 ar02).1.2), (dB g21 t55 g11 ar02).2)) D_0 ((dA g21 t55 g11) - 1)).1.2.2.1.2.1.1)))), ((jI.wrap (g01.t4.1 + (jI.wrap ((dC g21 t55).2 * (nth (List.set ar02 ((dA g21 t55 g11) - 1) (((jI.wrap ((dB g21 t55 g11 ar02).1.1 - (dC g21 t55).2)), (dB g21 t55 g11 ar02).1.2), (dB g21 t55 g11 ar02).2)) D_0 ((dA g21 t55 g11) - 1)).1.2.2.1.2.1.2)))), ((jI.wrap (g01.t5.1 + (jI.wrap ((dC g21 t55).2 * (nth (List.set ar02 ((dA g21 t55 g11) - 1) (((jI.wrap ((dB g21 t55 g11 ar02).1.1 - (dC g21 t55).2)), (dB g21 t55 g11 ar02).1.2), (dB g21 t55 g11 ar02).2)) D_0 ((dA g21 t55 g11) - 1)).1.2.2.1.2.2.1)))), (jI.wrap (g01.t6 + (jI.wrap ((dC g21 t55).2 * (nth (List.set ar02 ((dA g21 t55 g11) - 1) (((jI.wrap ((dB g21 t55 g11 ar02).1.1 - (dC g21 t55).2)), (dB g21 t55 g11 ar02).1.2), (dB g21 t55 g11 ar02).2)) D_0 ((dA g21 t55 g11) - 1)).1.2.2.1.2.2.2)))))))))) (List.set ar02 ((dA g21 t55 g11) - 1) (((jI.wrap ((dB g21 t55 g11 ar02).1.1 - (dC g21 t55).2)), (dB g21 t55 g11 ar02).1.2), (dB g21 t55 g11 ar02).2))) else none) else none) else none) else none) else none) else none) else none) else none) else none) else none) else none) else none) else (some (g01, g11, g21, ar02, ar12)))
abbrev xJy : Sch := ⟨[(0, .c (.k (.pt 0 0 0 0))), (53, .c (.k (.sl 2 2))), (54, .c .i), (55, .c .i)], [K_8, K_3, K_5, .dead, .dead, K_1, K_2]⟩
abbrev xJz : xBY := [((.exit 3), ⟨[], [K_8, K_3, K_5, .dead, .dead, K_1, K_2]⟩)]
theorem xN3 (F : Nat) : ∀ n, xAS Tryz.prog 5 (xAv Tryz.prog 21 xS0) (xAt (xAi Tryz.prog 21) [1, 1, 1, 1, 0, 1, 0, 0]) xJy xJz (fun s => (xC5 F s.1.1 s.2.2.1 s.2.2.2.1 s.t5 n s.1.2 s.2.1 s.t4.1)) :=
 lK (an := .no) (xER F) (trivial)
def xDN (F : Nat) (s1 : (Int × T_0)) (sl_ : (List (Int × Nat))) (l : (List (Int × Int))) (ar0 : T_2) (ar1 : T_4) : Option ((Int × (T_1 × ((List (Int × Nat)) × (T_2 × T_4))))) := (ob (xCd F ((l.length - 0) : Int) (f7 s1) sl_ l ar0 ar1 F 0 []) (fun o_ => su o_ (fun s2 => (some (s2.1, (s2.2.1, s2.2.2.1, s2.t4)))) (fun s3 => (ob (xC5 F ((s3.2.2.1.length - 0) : Int) s3.2.1 s3.2.2.1 s3.t4 F 0 s3.1 s3.2.2.2.1) (fun s4 => (some ((0 : Int), (s4.1, s4.2.1, s4.2.2.2))))))))
abbrev xS2 : Sch := ⟨[(0, .c (.k (.pt 0 0 0 0))), (1, .c (.k (.sl 2 2)))], [K_24, K_3, K_5, K_1, K_2]⟩
abbrev xS1 : FSch := ⟨.one (.c .i), [K_8, K_3, .dead, .dead, .dead, K_1, K_2]⟩
def xN5 (F : Nat) : Ent := ⟨21, 2, xS2, xS1, fun s => xDN F s.1 s.2.1 s.2.2.1 s.2.2.2.1 s.t4, []⟩
theorem xKD (F : Nat) : FnSem Tryz.prog 21 2 xS2 xS1 (fun s => xDN F s.1 s.2.1 s.2.2.1 s.2.2.2.1 s.t4) :=
 fK (an := (.two .no (.two .no (.two .no (.two (.two .no (.one (.loop xJA xJB (fun s => (xCd F s.1.1 s.2.1 s.2.2.1 s.2.2.2.1 s.t4.1 s.t5.1 F s.1.2 s.t6))))) (.two (.two .no (.one (.loop xJy xJz (fun s => (xC5 F s.1.1 s.2.2.1 s.2.2.2.1 s.t5 F s.1.2 s.2.1 s.t4.1))))) .no)))))) (xER F) (⟨trivial, ⟨trivial, ⟨trivial, ⟨⟨trivial, (xN4 F F)⟩, ⟨⟨trivial, (xN3 F F)⟩, trivial⟩⟩⟩⟩⟩)
def xN2 (F : Nat) : List Ent := xN5 F :: xU4 F
theorem xGf (F : Nat) : xAj Tryz.prog (xN2 F) := ⟨⟨by kernel_rfl, xKD F⟩, xER F⟩
abbrev sums_n : Nat := 1
def xBm (F : Nat) (s2 : (T_1 × (T_2 × (T_4 × ((Int × T_0) × (Int × T_0)))))) (e : ((Int × Nat))) : Option ((T_1 × (T_2 × (T_4 × ((Int × T_0) × (Int × T_0))))) ⊕ ((T_1 × (T_2 × (T_4 × ((Int × T_0) × (Int × T_0))))))) := (bif (!(Nat.beq e.2 0)) then (bif (!(Nat.beq e.2 0)) then (bif (inO e.2 s2.2.1.length) then (bif (!(Nat.beq e.2 0)) then (bif (!(Nat.beq e.2 0)) then (bif (!(Nat.beq e.2 0)) then (bif (inO e.2 s2.2.1.length) then (some (.inl (s2.1, s2.2.1, s2.2.2.1, ((jI.wrap (s2.2.2.2.1.1 + (jI.wrap ((nth s2.2.1 D_0 (e.2 - 1)).1.1 * (nth s2.2.1 D_0 (e.2 - 1)).1.2.1)))), (((jI.wrap (s2.2.2.2.1.2.1.1 + (jI.wrap ((nth s2.2.1 D_0 (e.2 - 1)).1.1 * (nth s2.2.1 D_0 (e.2 - 1)).1.2.2.1.1.1)))), (jI.wrap (s2.2.2.2.1.2.1.2 + (jI.wrap ((nth s2.2.1 D_0 (e.2 - 1)).1.1 * (nth s2.2.1 D_0 (e.2 - 1)).1.2.2.1.1.2))))), (((jI.wrap (s2.2.2.2.1.2.2.1.1 + (jI.wrap ((nth s2.2.1 D_0 (e.2 - 1)).1.1 * (nth s2.2.1 D_0 (e.2 - 1)).1.2.2.1.2.1.1)))), (jI.wrap (s2.2.2.2.1.2.2.1.2 + (jI.wrap ((nth s2.2.1 D_0 (e.2 - 1)).1.1 * (nth s2.2.1 D_0 (e.2 - 1)).1.2.2.1.2.1.2))))), ((jI.wrap (s2.2.2.2.1.2.2.2.1 + (jI.wrap ((nth s2.2.1 D_0 (e.2 - 1)).1.1 * (nth s2.2.1 D_0 (e.2 - 1)).1.2.2.1.2.2.1)))), (jI.wrap (s2.2.2.2.1.t4 + (jI.wrap ((nth s2.2.1 D_0 (e.2 - 1)).1.1 * (nth s2.2.1 D_0 (e.2 - 1)).1.2.2.1.2.2.2)))))))), s2.t4))) else none) else none) else none) else none) else none) else none) else none)
def xCg (F : Nat) (s2 : (T_1 × (T_2 × (T_4 × ((Int × T_0) × (Int × T_0)))))) : Option ((T_1 × (T_2 × (T_4 × ((Int × T_0) × (Int × T_0)))))) := some s2
abbrev xBQ : Sch := ⟨[(0, .c (.k (.pt 0 0 0 0))), (2, .c (.k (.pt 6 0 0 0))), (3, .c (.k (.pt 7 0 0 0)))], [K_8, .dead, .dead, .dead, K_1, K_2, xRX, xRX]⟩
abbrev xBR : xBY := [(.normal, ⟨[(0, .c (.k (.pt 0 0 0 0))), (2, .c (.k (.pt 6 0 0 0))), (3, .c (.k (.pt 7 0 0 0)))], [K_8, .dead, .dead, .dead, K_1, K_2, xRX, xRX]⟩)]
abbrev xH2 : RngC := xS8 (xBC (xAt (xAi Tryz.prog 22) [1, 1, 0]))
theorem xQ1 (F : Nat) : xF7 Tryz.prog 4 (xAv Tryz.prog 22 sums_n) xH2 xBQ xBR (.i .i64) false (.rf 0 0) (xBm F) (xCg F) :=
 xN7 (P := Tryz.prog) (m := 4) (N := xAv Tryz.prog 22 sums_n) (R := xH2) (Sc := xBQ) (o := xBR) (call := xCr Tryz.prog 70 plans (xN2 F) 20) (Fu := 70) (pl := (xFp plans 22)) (c := (xAt (xAi Tryz.prog 22) [1, 1, 0])) (by kernel_rfl) (xA7 xAn 70 xBn (xGf F) 20) xAn (by kernel_rfl) (by kernel_rfl) (by kernel_rfl) (by kernel_rfl) (fun s e => by kernel_rfl) (fun s => by kernel_rfl)
def xFx (F : Nat) (s1 : (Int × T_0)) (sl_ : (List (Int × Nat))) (ar0 : T_2) (ar1 : T_4) : Option ((((Int × T_0) × (Int × T_0)) × (T_1 × ((List (Int × Nat)) × (T_2 × T_4))))) := (xDj (fun (π : List ((Int × Nat))) => (ob (xLH (S := xBQ) (o := xBR) (V := (.i .i64)) (U := (.rf 0 0)) (xBm F) (xCg F) ((f7 s1), ar0, ar1, ((0 : Int), (((0 : Int), (0 : Int)), (((0 : Int), (0 : Int)), ((0 : Int), (0 : Int))))), ((0 : Int), (((0 : Int), (0 : Int)), (((0 : Int), (0 : Int)), ((0 : Int), (0 : Int)))))) π) (fun s3 => (some ((s3.2.2.2.1, (u7 s3.1)), (s3.1, sl_, s3.2.1, s3.2.2.1)))))) sl_)
abbrev sums_I : Sch := ⟨[(0, .c (.k (.pt 0 0 0 0)))], [K_24, K_3, K_1, K_2]⟩
abbrev sums_O : FSch := ⟨.tu [(true, [.t (.pair .i C_0)]), (true, [.t (.pair .i C_0)])], [K_8, K_3, .dead, .dead, K_1, K_2]⟩
def xSt (F : Nat) : Ent := ⟨22, 1, sums_I, sums_O, fun s => xFx F s.1 s.2.1 s.2.2.1 s.2.2.2, []⟩
theorem xNR (F : Nat) : FnSem Tryz.prog 22 1 sums_I sums_O (fun s => xFx F s.1 s.2.1 s.2.2.1 s.2.2.2) :=
 fK (an := (.two .no (.two .no (.two (.rng xBQ xBR (.i .i64) false (.rf 0 0) (xBm F) (xCg F)) .no)))) (xGf F) (⟨trivial, ⟨trivial, ⟨(xOV (R := xH2) (by kernel_rfl) (xQ1 F)), trivial⟩⟩⟩)
def sums_T (F : Nat) : List Ent := xSt F :: xN2 F
theorem xH1 (F : Nat) : xAj Tryz.prog (sums_T F) := ⟨⟨by kernel_rfl, xNR F⟩, xGf F⟩
end
noncomputable section
abbrev xWV : Nat := 2
def xCQ (F : Nat) (t16 : Int) (g0 : T_5) (g1 : (List Int)) (g2 : (List (Int × Int))) (g3 : (List T_0)) (g5 : (List ByteArray)) (t15 : (List ByteArray)) : Nat -> Int -> (List (Int × Int)) -> Option ((Bool × (T_5 × ((List Int) × ((List (Int × Int)) × ((List T_0) × ((List ByteArray) × (List (Int × Int)))))))) ⊕ (T_5 × ((List Int) × ((List (Int × Int)) × ((List T_0) × ((List ByteArray) × (List (Int × Int))))))))
 | 0, _, _ => none
 | n_ + 1, t17, g11 => (bif (decide (t17 < t16)) then (bif (inB t17 (t15.length - 0)) then (ob (xLv F (nth t15 (TC.dflt .str) t17.toNat) (ByteArray.mk (Array.mk (58 :: [])))) (fun r1 => (ob (xAw F r1.1) (fun r2 => (ob (xAw F r1.2.1) (fun r3 => (bif (!r2.2) then (some (.inl (false, (g0, g1, g2, g3, g5, g11)))) else (bif (!r3.2) then (some (.inl (false, (g0, g1, g2, g3, g5, g11)))) else (bif (xAR (g11.length - 0) ((r2.1, r3.1) :: []).length) then (xCQ F t16 g0 g1 g2 g3 g5 t15 n_ (jI.wrap (t17 + 1)) (g11 ++ ((r2.1, r3.1) :: []))) else none))))))))) else none) else (some (.inr (g0, g1, g2, g3, g5, g11))))
abbrev xIi : Sch := ⟨[(0, .c (.k (.pt 0 0 0 0))), (15, .c (.k (.sl 6 1))), (16, .c .i), (17, .c .i)], [.blk 137 [.k (.sl 1 1), .k (.sl 2 2), .k (.sl 3 6), .i, .i, .i, .i, .i, .i, .i, .i, .i, .i, .i, .i, .k (.sl 7 2), .k (.sl 5 1), .t .str], .ro .i, K_5, .ro C_0, .dead, .ro .str, .rows 9 .str, .rows 265 (.pair .i .i)]⟩
abbrev xIj : xBY := [(.ret, ⟨[(4, .c (.t .bool))], [K_13, .ro .i, K_5, .ro C_0, .dead, .ro .str, .rows 265 (.pair .i .i)]⟩), ((.exit 0), ⟨[], [K_13, .ro .i, K_5, .ro C_0, .dead, .ro .str, .rows 265 (.pair .i .i)]⟩)]
theorem xMD (F : Nat) : ∀ n, xAS Tryz.prog 6 (xAv Tryz.prog 99 xWV) (xAt (xAi Tryz.prog 99) [1, 0, 1, 0, 0]) xIi xIj (fun s => (xCQ F s.1.1 s.2.1 s.2.2.1 s.2.2.2.1 s.t4.1 s.t5.1 s.t6.1 n s.1.2 s.t7)) :=
 lK (an := .no) (xH1 F) (trivial)
def xFH (F : Nat) (s1 : ByteArray) (x : (((Int × Int) × ((Int × Int) × ((Int × Int) × T_0))) × ByteArray)) (xn : (List Int)) (xr : (List (Int × Int))) (xb : (List T_0)) (xp : (List (Int × Int))) (xm : (List ByteArray)) : Option ((Bool × (T_5 × (List (Int × Int))))) := (ob (xBZ F s1 (ByteArray.mk (Array.mk (44 :: [])))) (fun r => (ob (xCQ F ((r.length - 0) : Int) (x.1.1.1, (x.1.1.2, (x.1.2.1.1, (x.1.2.1.2, (x.1.2.2.1.1, (x.1.2.2.1.2, (x.1.2.2.2.1.1, (x.1.2.2.2.1.2, (x.1.t4.1.1, (x.1.t4.1.2, (x.1.t5.1, (x.1.t6, x.2)))))))))))) xn xr xb xm r F 0 xp) (fun o_ => su o_ (fun s2 => (some (s2.1, (s2.2.1, s2.t6)))) (fun s3 => (some (true, (s3.1, s3.t5))))))))
abbrev xPQ : Sch := ⟨[(0, .c (.k (.pt 0 0 0 0))), (1, .c (.t .str))], [K_29, .ro .i, K_5, .ro C_0, .rows 265 (.pair .i .i), .ro .str]⟩
abbrev xPP : FSch := ⟨.one (.c (.t .bool)), [K_13, .dead, .dead, .dead, .dead, .dead, .rows 265 (.pair .i .i)]⟩
def xPR (F : Nat) : Ent := ⟨99, 2, xPQ, xPP, fun s => xFH F s.1 s.2.1 s.2.2.1 s.2.2.2.1 s.t4.1 s.t5.1 s.t6, []⟩
theorem xMC (F : Nat) : FnSem Tryz.prog 99 2 xPQ xPP (fun s => xFH F s.1 s.2.1 s.2.2.1 s.2.2.2.1 s.t4.1 s.t5.1 s.t6) :=
 fK (an := (.two .no (.two (.two .no (.one (.loop xIi xIj (fun s => (xCQ F s.1.1 s.2.1 s.2.2.1 s.2.2.2.1 s.t4.1 s.t5.1 s.t6.1 F s.1.2 s.t7))))) .no))) (xH1 F) (⟨trivial, ⟨⟨trivial, (xMD F F)⟩, trivial⟩⟩)
def xPO (F : Nat) : List Ent := xPR F :: sums_T F
theorem xFd (F : Nat) : xAj Tryz.prog (xPO F) := ⟨⟨by kernel_rfl, xMC F⟩, xH1 F⟩
end
noncomputable section
abbrev xXv : Nat := 1
def xCZ (F : Nat) (t9 : Int) (g0 : T_5) (g1 : (List Int)) (g2 : (List (Int × Int))) (g3 : (List T_0)) (g4 : (List (Int × Int))) (g5 : (List ByteArray)) : Nat -> Int -> (List Int) -> Option ((T_5 × ((List Int) × ((List (Int × Int)) × ((List T_0) × ((List (Int × Int)) × ((List ByteArray) × (List Int))))))))
 | 0, _, _ => none
 | n_ + 1, t10, l => (bif (decide (t10 < t9)) then (bif (inB t10 (g4.length - 0)) then (bif (xAR (l.length - 0) ((nth ((nth g4 D_1 t10.toNat).1 :: ((nth g4 D_1 t10.toNat).2 :: [])) 0 0) :: []).length) then (xCZ F t9 g0 g1 g2 g3 g4 g5 n_ (jI.wrap (t10 + 1)) (l ++ ((nth ((nth g4 D_1 t10.toNat).1 :: ((nth g4 D_1 t10.toNat).2 :: [])) 0 0) :: []))) else none) else none) else (some (g0, g1, g2, g3, g4, g5, l)))
abbrev xIM : Sch := ⟨[(2, .c (.k (.sl 6 1))), (8, .c (.k (.sl 4 2))), (9, .c .i), (10, .c .i)], [K_30, .ro .i, K_5, .ro C_0, K_5, .ro .str, .rows 3 .i]⟩
abbrev xIN : xBY := [((.exit 0), ⟨[(2, .c (.k (.sl 6 1)))], [K_30, .ro .i, K_5, .ro C_0, K_5, .ro .str, .rows 3 .i]⟩)]
theorem xNe (F : Nat) : ∀ n, xAS Tryz.prog 6 (xAv Tryz.prog 141 xXv) (xAt (xAi Tryz.prog 141) [1, 0, 1, 0, 0]) xIM xIN (fun s => (xCZ F s.1.1 s.2.1 s.2.2.1 s.2.2.2.1 s.t4.1 s.t5.1 s.t6.1 n s.1.2 s.t7)) :=
 lK (an := .no) (xFd F) (trivial)
def xDb (F : Nat) (x : (((Int × Int) × ((Int × Int) × ((Int × Int) × T_0))) × ByteArray)) (xn : (List Int)) (xr : (List (Int × Int))) (xb : (List T_0)) (xp : (List (Int × Int))) (xm : (List ByteArray)) : Option ((T_5 × (List Int))) := (ob (xCZ F ((xp.length - 0) : Int) (x.1.1.1, (x.1.1.2, (x.1.2.1.1, (x.1.2.1.2, (x.1.2.2.1.1, (x.1.2.2.1.2, (x.1.2.2.2.1.1, (x.1.2.2.2.1.2, (x.1.t4.1.1, (x.1.t4.1.2, (x.1.t5.1, (x.1.t6, x.2)))))))))))) xn xr xb xp xm F 0 []) (fun s1 => (some (s1.1, s1.t6))))
abbrev xQs : Sch := ⟨[(0, .c (.k (.pt 0 0 0 0)))], [K_29, .ro .i, K_5, .ro C_0, K_5, .ro .str]⟩
abbrev xQr : FSch := ⟨.one (.c (.k (.sl 6 1))), [K_30, .dead, .dead, .dead, .dead, .dead, .rows 3 .i]⟩
def xQt (F : Nat) : Ent := ⟨141, 1, xQs, xQr, fun s => xDb F s.1 s.2.1 s.2.2.1 s.2.2.2.1 s.t4.1 s.t5, []⟩
theorem xNd (F : Nat) : FnSem Tryz.prog 141 1 xQs xQr (fun s => xDb F s.1 s.2.1 s.2.2.1 s.2.2.2.1 s.t4.1 s.t5) :=
 fK (an := (.two .no (.two (.two .no (.one (.loop xIM xIN (fun s => (xCZ F s.1.1 s.2.1 s.2.2.1 s.2.2.2.1 s.t4.1 s.t5.1 s.t6.1 F s.1.2 s.t7))))) .no))) (xFd F) (⟨trivial, ⟨⟨trivial, (xNe F F)⟩, trivial⟩⟩)
def xQq (F : Nat) : List Ent := xQt F :: xPO F
theorem xFi (F : Nat) : xAj Tryz.prog (xQq F) := ⟨⟨by kernel_rfl, xNd F⟩, xFd F⟩
abbrev pileW_n : Nat := 2
abbrev pkA (g9 : (List (Int × Int))) (t18 : Int) : Int := nth ((nth g9 D_1 t18.toNat).1 :: ((nth g9 D_1 t18.toNat).2 :: [])) (0 : Int) 0
abbrev pkB (g9 : (List (Int × Int))) (t18 : Int) : Int := nth ((nth g9 D_1 t18.toNat).1 :: ((nth g9 D_1 t18.toNat).2 :: [])) (0 : Int) 1
def xBS (F : Nat) (t17 : Int) (g3 : (List (ByteArray × Nat))) (g4 : (List (ByteArray × Nat))) (g6 : (List Int)) (g7 : (List (Int × Int))) (g8 : (List T_0)) (g9 : (List (Int × Int))) (g10 : (List ByteArray)) (ar21 : T_3) (ar31 : T_7) (ar41 : T_6) : Nat -> Int -> T_1 -> (List (Int × Nat)) -> T_5 -> T_2 -> T_4 -> (List (Int × Int)) -> (Int × T_0) -> Option ((Int × (T_1 × ((List (Int × Nat)) × ((List (ByteArray × Nat)) × ((List (ByteArray × Nat)) × (T_5 × ((List Int) × ((List (Int × Int)) × ((List T_0) × ((List (Int × Int)) × ((List ByteArray) × (T_3 × (T_7 × (T_6 × (T_2 × (T_4 × (Int × T_0))))))))))))))))) ⊕ (T_1 × ((List (Int × Nat)) × ((List (ByteArray × Nat)) × ((List (ByteArray × Nat)) × (T_5 × ((List Int) × ((List (Int × Int)) × ((List T_0) × ((List (Int × Int)) × ((List ByteArray) × (T_2 × (T_4 × (T_3 × (T_7 × (T_6 × ((List (Int × Int)) × (Int × T_0))))))))))))))))))
 | 0, _, _, _, _, _, _, _, _ => none
 | n_ + 1, t18, g1, g2, g5, ar01, ar11, l, p => (bif (decide (t18 < t17)) then (bif (inB t18 (g9.length - 0)) then (ob (xFA F (pkA g9 t18) (u7 g1) g2 ar01 ar11) (fun r => (bif (r.1.2 != 0) then (some (.inl (r.1.2, ((r.2.1.1, (r.2.1.2.1, (r.2.1.2.2.1, (r.2.1.2.2.2.1, (r.2.1.t4))))), r.2.2.1, g3, g4, g5, g6, g7, g8, g9, g10, ar21, ar31, ar41, r.2.2.2.1, r.t4, p)))) else (ob (xDb F (((g5.1, g5.2.1), ((g5.2.2.1, g5.2.2.2.1), ((g5.t4.1, g5.t5.1), ((g5.t6.1, g5.t7.1), ((g5.t8.1, g5.t9.1), (g5.t9.2.1, g5.t9.2.2.1)))))), g5.t9.2.2.2) g6 g7 g8 g9 g10) (fun r1 => (bif (inC t18 (r1.2.length - 0)) then (ob (xGG F (0, (t18.toNat - 0)) (pkA g9 t18) r1.2) (fun r2 => (bif r2 then (some (.inl ((6 : Int), ((r.2.1.1, (r.2.1.2.1, (r.2.1.2.2.1, (r.2.1.2.2.2.1, (r.2.1.t4))))), r.2.2.1, g3, g4, (r1.1.1, (r1.1.2.1, (r1.1.2.2.1, (r1.1.2.2.2.1, (r1.1.t4.1, (r1.1.t5.1, (r1.1.t6.1, (r1.1.t7.1, (r1.1.t8.1, (r1.1.t9.1, (r1.1.t9.2))))))))))), g6, g7, g8, g9, g10, ar21, ar31, ar41, r.2.2.2.1, r.t4, p)))) else (bif (decide ((pkB g9 t18) < 1)) then (some (.inl ((3 : Int), ((r.2.1.1, (r.2.1.2.1, (r.2.1.2.2.1, (r.2.1.2.2.2.1, (r.2.1.t4))))), r.2.2.1, g3, g4, (r1.1.1, (r1.1.2.1, (r1.1.2.2.1, (r1.1.2.2.2.1, (r1.1.t4.1, (r1.1.t5.1, (r1.1.t6.1, (r1.1.t7.1, (r1.1.t8.1, (r1.1.t9.1, (r1.1.t9.2))))))))))), g6, g7, g8, g9, g10, ar21, ar31, ar41, r.2.2.2.1, r.t4, p)))) else (bif (decide ((pkB g9 t18) > r.1.1.1)) then (some (.inl ((22 : Int), ((r.2.1.1, (r.2.1.2.1, (r.2.1.2.2.1, (r.2.1.2.2.2.1, (r.2.1.t4))))), r.2.2.1, g3, g4, (r1.1.1, (r1.1.2.1, (r1.1.2.2.1, (r1.1.2.2.2.1, (r1.1.t4.1, (r1.1.t5.1, (r1.1.t6.1, (r1.1.t7.1, (r1.1.t8.1, (r1.1.t9.1, (r1.1.t9.2))))))))))), g6, g7, g8, g9, g10, ar21, ar31, ar41, r.2.2.2.1, r.t4, p)))) else (bif (xAR (l.length - 0) (((pkA g9 t18), (pkB g9 t18)) :: []).length) then (xBS F t17 g3 g4 g6 g7 g8 g9 g10 ar21 ar31 ar41 n_ (jI.wrap (t18 + 1)) (r.2.1.1, (r.2.1.2.1, (r.2.1.2.2.1, (r.2.1.2.2.2.1, (r.2.1.t4))))) r.2.2.1 (r1.1.1, (r1.1.2.1, (r1.1.2.2.1, (r1.1.2.2.2.1, (r1.1.t4.1, (r1.1.t5.1, (r1.1.t6.1, (r1.1.t7.1, (r1.1.t8.1, (r1.1.t9.1, (r1.1.t9.2))))))))))) r.2.2.2.1 r.t4 (l ++ (((pkA g9 t18), (pkB g9 t18)) :: [])) ((jI.wrap (p.1 + (jI.wrap ((pkB g9 t18) * r.1.1.2.1)))), (((jI.wrap (p.2.1.1 + (jI.wrap ((pkB g9 t18) * r.1.1.2.2.1.1.1)))), (jI.wrap (p.2.1.2 + (jI.wrap ((pkB g9 t18) * r.1.1.2.2.1.1.2))))), (((jI.wrap (p.2.2.1.1 + (jI.wrap ((pkB g9 t18) * r.1.1.2.2.1.2.1.1)))), (jI.wrap (p.2.2.1.2 + (jI.wrap ((pkB g9 t18) * r.1.1.2.2.1.2.1.2))))), ((jI.wrap (p.2.2.2.1 + (jI.wrap ((pkB g9 t18) * r.1.1.2.2.1.2.2.1)))), (jI.wrap (p.t4 + (jI.wrap ((pkB g9 t18) * r.1.1.2.2.1.2.2.2))))))))) else none)))))) else none)))))) else none) else (some (.inr (g1, g2, g3, g4, g5, g6, g7, g8, g9, g10, ar01, ar11, ar21, ar31, ar41, l, p))))
abbrev xJI : Sch := ⟨[(0, .c (.k (.pt 0 0 0 0))), (1, .c (.k (.pt 5 0 0 0))), (4, .c (.k (.sl 21 2))), (5, .c (.k (.pt 22 0 0 0))), (16, .c (.k (.sl 9 2))), (17, .c .i), (18, .c .i)], [K_0, K_6, K_3, K_4, K_4, K_7, .ro .i, K_5, .ro C_0, K_5, .ro .str, .dead, .dead, .dead, .dead, .dead, K_1, K_2, xCz, xCy, xCA, .rows 61 (.pair .i .i), xRX]⟩
abbrev xJJ : xBY := [(.ret, ⟨[(4, .c (.k (.lit (.slice none 0 0)))), (5, .c (.k (.pt 21 0 0 0))), (6, .c .i)], [K_0, K_6, K_3, K_4, K_4, K_7, .ro .i, K_5, .ro C_0, K_5, .ro .str, .dead, .dead, .dead, .dead, .dead, xCz, xCy, xCA, K_1, K_2, xRX]⟩), ((.exit 0), ⟨[(4, .c (.k (.sl 21 2))), (5, .c (.k (.pt 22 0 0 0)))], [K_0, K_6, K_3, K_4, K_4, K_7, .ro .i, K_5, .ro C_0, K_5, .ro .str, .dead, .dead, .dead, .dead, .dead, K_1, K_2, xCz, xCy, xCA, .rows 61 (.pair .i .i), xRX]⟩)]
theorem xOg (F : Nat) : ∀ n, xAS Tryz.prog 16 (xAv Tryz.prog 144 pileW_n) (xAt (xAi Tryz.prog 144) [1, 0, 1, 0, 0]) xJI xJJ (fun s => (xBS F s.1.1 s.2.2.2.1 s.t4.1 s.t6.1 s.t7.1 s.t8.1 s.t9.1 s.t9.2.1 s.t9.t4.1 s.t9.t5.1 s.t9.t6.1 n s.1.2 s.2.1 s.2.2.1 s.t5.1 s.t9.2.2.1 s.t9.2.2.2.1 s.t9.t7.1 s.t9.t8)) :=
 lK (an := .no) (xFi F) (trivial)
def xFc (F : Nat) (ws : (Int × T_0)) (wl : (List (Int × Nat))) (wi : (List (ByteArray × Nat))) (ww : (List (ByteArray × Nat))) (x : (((Int × Int) × ((Int × Int) × ((Int × Int) × T_0))) × ByteArray)) (xn : (List Int)) (xr : (List (Int × Int))) (xb : (List T_0)) (xp : (List (Int × Int))) (xm : (List ByteArray)) (ar0 : T_2) (ar1 : T_4) (ar2 : T_3) (ar3 : T_7) (ar4 : T_6) : Option ((((Int × T_0) × Int) × (T_1 × ((List (Int × Nat)) × ((List (ByteArray × Nat)) × ((List (ByteArray × Nat)) × (T_5 × (T_3 × (T_7 × (T_6 × (T_2 × (T_4 × (List (Int × Int)))))))))))))) := (ob (xBS F ((xp.length - 0) : Int) wi ww xn xr xb xp xm ar2 ar3 ar4 F 0 (f7 ws) wl (x.1.1.1, (x.1.1.2, (x.1.2.1.1, (x.1.2.1.2, (x.1.2.2.1.1, (x.1.2.2.1.2, (x.1.2.2.2.1.1, (x.1.2.2.2.1.2, (x.1.t4.1.1, (x.1.t4.1.2, (x.1.t5.1, (x.1.t6, x.2)))))))))))) ar0 ar1 [] ((0 : Int), (((0 : Int), (0 : Int)), (((0 : Int), (0 : Int)), ((0 : Int), (0 : Int)))))) (fun o_ => su o_ (fun s1 => (some ((s1.t9.t7, s1.1), (s1.2.1, s1.2.2.1, s1.2.2.2.1, s1.t4.1, s1.t5.1, s1.t9.2.2.1, s1.t9.2.2.2.1, s1.t9.t4.1, s1.t9.t5.1, s1.t9.t6.1, [])))) (fun s2 => (some ((s2.t9.t7, (0 : Int)), (s2.1, s2.2.1, s2.2.2.1, s2.2.2.2.1, s2.t4.1, s2.t9.2.2.2.1, s2.t9.t4.1, s2.t9.t5.1, s2.t9.2.1, s2.t9.2.2.1, s2.t9.t6.1))))))
abbrev xTw : Sch := ⟨[(0, .c (.k (.pt 0 0 0 0))), (1, .c (.k (.pt 5 0 0 0)))], [K_0, K_19, K_3, K_4, K_4, .blk 137 [.k (.sl 6 1), .k (.sl 7 2), .k (.sl 8 6), .t (.pair (.pair .i .i) (.pair (.pair .i .i) (.pair (.pair .i .i) C_0))), .k (.sl 9 2), .k (.sl 10 1), .t .str], .ro .i, K_5, .ro C_0, K_5, .ro .str, K_1, K_2, xCz, xCy, xCA]⟩
abbrev xTv : FSch := ⟨.tu [(false, [.k (.sl 21 2)]), (true, [.t (.pair .i C_0)]), (false, [.i])], [K_0, K_6, K_3, K_4, K_4, K_7, .dead, .dead, .dead, .dead, .dead, .dead, .dead, .dead, .dead, .dead, xCz, xCy, xCA, K_1, K_2, .rows 61 (.pair .i .i)]⟩
def xTx (F : Nat) : Ent := ⟨144, 2, xTw, xTv, fun s => xFc F s.1 s.2.1 s.2.2.1 s.2.2.2.1 s.t4.1 s.t5.1 s.t6.1 s.t7.1 s.t8.1 s.t9.1 s.t9.2.1 s.t9.2.2.1 s.t9.2.2.2.1 s.t9.t4.1 s.t9.t5, []⟩
theorem xPN (F : Nat) : FnSem Tryz.prog 144 2 xTw xTv (fun s => xFc F s.1 s.2.1 s.2.2.1 s.2.2.2.1 s.t4.1 s.t5.1 s.t6.1 s.t7.1 s.t8.1 s.t9.1 s.t9.2.1 s.t9.2.2.1 s.t9.2.2.2.1 s.t9.t4.1 s.t9.t5) :=
 fK (an := (.two .no (.two (.two .no (.one (.loop xJI xJJ (fun s => (xBS F s.1.1 s.2.2.2.1 s.t4.1 s.t6.1 s.t7.1 s.t8.1 s.t9.1 s.t9.2.1 s.t9.t4.1 s.t9.t5.1 s.t9.t6.1 F s.1.2 s.2.1 s.2.2.1 s.t5.1 s.t9.2.2.1 s.t9.2.2.2.1 s.t9.t7.1 s.t9.t8))))) .no))) (xFi F) (⟨trivial, ⟨⟨trivial, (xOg F F)⟩, trivial⟩⟩)
def xTu (F : Nat) : List Ent := xTx F :: xQq F
theorem xGk (F : Nat) : xAj Tryz.prog (xTu F) := ⟨⟨by kernel_rfl, xPN F⟩, xFi F⟩
end
noncomputable section
abbrev drawW_n : Nat := 3
def xDc (F : Nat) (x1 : Nat) (t15 : Int) (g1 : T_1) (g2 : (List (Int × Nat))) (g3 : (List (ByteArray × Nat))) (g4 : (List (ByteArray × Nat))) (g5 : (List (Int × Int))) (ar01 : T_3) (ar11 : T_7) (ar21 : T_6) (ar31 : T_2) : Nat -> Int -> T_4 -> Option ((T_1 × ((List (Int × Nat)) × ((List (ByteArray × Nat)) × ((List (ByteArray × Nat)) × ((List (Int × Int)) × (T_3 × (T_7 × (T_6 × (T_2 × T_4))))))))))
 | 0, _, _ => none
 | n_ + 1, t16, ar41 => (bif (decide (t16 < t15)) then (bif (inB t16 (g5.length - 0)) then (bif (!(Nat.beq x1 0)) then (bif (!(Nat.beq x1 0)) then (bif (inO x1 ar01.length) then (bif (!(Nat.beq (nth ar01 (TC.dflt C_2) (x1 - 1)).2.2.1 0)) then (bif (xCv ar41 (nth ar01 (TC.dflt C_2) (x1 - 1)).2.2.1) then (xDc F x1 t15 g1 g2 g3 g4 g5 ar01 ar11 ar21 ar31 n_ (jI.wrap (t16 + 1)) (xBh ar41 (nth ar01 (TC.dflt C_2) (x1 - 1)).2.2.1 (xHh (KK.i jI) (nth g5 D_1 t16.toNat).1 true (rowAt ar41 (nth ar01 (TC.dflt C_2) (x1 - 1)).2.2.1)))) else none) else none) else none) else none) else none) else none) else (some (g1, g2, g3, g4, g5, ar01, ar11, ar21, ar31, ar41)))
abbrev xJ9 : Sch := ⟨[(1, .c (.t (.rf 0 2))), (14, .c (.k (.sl 5 2))), (15, .c .i), (16, .c .i)], [K_0, K_6, K_3, K_4, K_4, K_5, .dead, .dead, .dead, .dead, .dead, xCz, xCy, xCA, K_1, K_2]⟩
abbrev xKa : xBY := [((.exit 0), ⟨[], [K_0, K_6, K_3, K_4, K_4, K_5, .dead, .dead, .dead, .dead, .dead, xCz, xCy, xCA, K_1, K_2]⟩)]
theorem xOI (F : Nat) : ∀ n, xAS Tryz.prog 11 (xAv Tryz.prog 146 drawW_n) (xAt (xAi Tryz.prog 146) [1, 1, 0, 0]) xJ9 xKa (fun s => (xDc F s.1.1 s.1.2.1 s.2.1 s.2.2.1 s.2.2.2.1 s.t4.1 s.t5.1 s.t6.1 s.t7.1 s.t8.1 s.t9.1 n s.1.2.2 s.t9.2)) :=
 lK (an := .no) (xGk F) (trivial)
def xIU (F : Nat) (x : Nat) (ws : (Int × T_0)) (wl : (List (Int × Nat))) (wi : (List (ByteArray × Nat))) (ww : (List (ByteArray × Nat))) (l : (List (Int × Int))) (ar0 : T_2) (ar1 : T_4) (ar2 : T_3) (ar3 : T_7) (ar4 : T_6) : Option ((T_1 × ((List (Int × Nat)) × ((List (ByteArray × Nat)) × ((List (ByteArray × Nat)) × (T_3 × (T_7 × (T_6 × (T_2 × T_4))))))))) := (ob (xDN F ws wl l ar0 ar1) (fun r => (ob (xDc F x ((l.length - 0) : Int) (r.2.1.1, (r.2.1.2.1, (r.2.1.2.2.1, (r.2.1.2.2.2.1, (r.2.1.t4))))) r.2.2.1 wi ww l ar2 ar3 ar4 r.2.2.2.1 F 0 r.t4) (fun s1 => (some (s1.1, s1.2.1, s1.2.2.1, s1.2.2.2.1, s1.t5))))))
abbrev xUY : Sch := ⟨[(0, .c (.k (.pt 0 0 0 0))), (1, .c (.t (.rf 0 2))), (2, .c (.k (.sl 5 2)))], [K_0, K_19, K_3, K_4, K_4, K_5, K_1, K_2, xCz, xCy, xCA]⟩
abbrev xUX : FSch := ⟨.tu [], [K_0, K_6, K_3, K_4, K_4, .dead, .dead, .dead, .dead, .dead, .dead, xCz, xCy, xCA, K_1, K_2]⟩
def xUZ (F : Nat) : Ent := ⟨146, 3, xUY, xUX, fun s => xIU F s.1 s.2.1 s.2.2.1 s.2.2.2.1 s.t4.1 s.t5.1 s.t6.1 s.t7.1 s.t8.1 s.t9.1 s.t9.2, []⟩
theorem xQB (F : Nat) : FnSem Tryz.prog 146 3 xUY xUX (fun s => xIU F s.1 s.2.1 s.2.2.1 s.2.2.2.1 s.t4.1 s.t5.1 s.t6.1 s.t7.1 s.t8.1 s.t9.1 s.t9.2) :=
 fK (an := (.two .no (.two .no (.one (.loop xJ9 xKa (fun s => (xDc F s.1.1 s.1.2.1 s.2.1 s.2.2.1 s.2.2.2.1 s.t4.1 s.t5.1 s.t6.1 s.t7.1 s.t8.1 s.t9.1 F s.1.2.2 s.t9.2))))))) (xGk F) (⟨trivial, ⟨trivial, (xOI F F)⟩⟩)
def xUW (F : Nat) : List Ent := xUZ F :: xTu F
theorem xGB (F : Nat) : xAj Tryz.prog (xUW F) := ⟨⟨by kernel_rfl, xQB F⟩, xGk F⟩
end
noncomputable section
abbrev ixC_n : Nat := 2
def xCX (F : Nat) (t7 : Int) (g0 : (List (Int × Int))) : Nat -> Int -> Option ((Int × (List (Int × Int))) ⊕ (List (Int × Int)))
 | 0, _ => none
 | n_ + 1, t8 => (bif (decide (t8 < t7)) then (bif (inB t8 (g0.length - 0)) then (bif (decide ((nth g0 D_1 t8.toNat).2 > 1000000000000)) then (some (.inl (t8, g0))) else (xCX F t7 g0 n_ (jI.wrap (t8 + 1)))) else none) else (some (.inr g0)))
abbrev xP9 : Sch := ⟨[(0, .c (.k (.sl 0 2))), (1, .c (.k (.lit (.func (.func 145) ⟨[]⟩ ⟨[]⟩)))), (7, .c .i), (8, .c .i)], [K_5]⟩
abbrev xQa : xBY := [(.ret, ⟨[(4, .c .i)], [K_5]⟩), ((.exit 0), ⟨[], [K_5]⟩)]
theorem xUr (F : Nat) : ∀ n, xAS Tryz.prog 1 (xAv Tryz.prog 207 ixC_n) (xAt (xAi Tryz.prog 207) [1, 0, 1, 0, 0]) xP9 xQa (fun s => (xCX F s.1.1 s.2 n s.1.2)) :=
 lK (an := .no) (xGB F) (trivial)
def xXj (F : Nat) (s1 : (List (Int × Int))) : Option (Int) := (ob (xCX F ((s1.length - 0) : Int) s1 F 0) (fun o_ => su o_ (fun s2 => (some s2.1)) (fun s3 => (some (-1 : Int)))))
abbrev ixC_I : Sch := ⟨[(0, .c (.k (.sl 0 2))), (1, .c (.k (.lit (.func (.func 145) ⟨[]⟩ ⟨[]⟩))))], [K_5]⟩
abbrev ixC_O : FSch := ⟨.one (.c .i), [.dead]⟩
def ixC_E (F : Nat) : Ent := ⟨207, 2, ixC_I, ixC_O, fun s => xXj F s, []⟩
theorem ixC_ok (F : Nat) : FnSem Tryz.prog 207 2 ixC_I ixC_O (fun s => xXj F s) :=
 fK (an := (.two .no (.two (.two .no (.one (.loop xP9 xQa (fun s => (xCX F s.1.1 s.2 F s.1.2))))) .no))) (xGB F) (⟨trivial, ⟨⟨trivial, (xUr F F)⟩, trivial⟩⟩)
def ixC_T (F : Nat) : List Ent := ixC_E F :: xUW F
theorem xP8 (F : Nat) : xAj Tryz.prog (ixC_T F) := ⟨⟨by kernel_rfl, ixC_ok F⟩, xGB F⟩
def xVl (F : Nat) (s1 : (List (Int × Int))) : Option (Bool) := (ob (xXj F s1) (fun r => (some (decide (r >= 0)))))
abbrev cfC_I : Sch := ⟨[(0, .c (.k (.sl 0 2))), (1, .c (.k (.lit (.func (.func 145) ⟨[]⟩ ⟨[]⟩))))], [K_5]⟩
abbrev cfC_O : FSch := ⟨.one (.c (.t .bool)), [.dead]⟩
def cfC_E (F : Nat) : Ent := ⟨135, 2, cfC_I, cfC_O, fun s => xVl F s, []⟩
theorem xQE (F : Nat) : FnSem Tryz.prog 135 2 cfC_I cfC_O (fun s => xVl F s) :=
 fK (an := .no) (xP8 F) (trivial)
def xXI (F : Nat) : List Ent := cfC_E F :: ixC_T F
theorem xHH (F : Nat) : xAj Tryz.prog (xXI F) := ⟨⟨by kernel_rfl, xQE F⟩, xP8 F⟩
end
noncomputable section
def cfCR_E (F : Nat) : Ent := { cfC_E F with bx := [some (.pair .i .i), none] }
def cfCR_T (F : Nat) : List Ent := cfCR_E F :: xXI F
theorem xVm (F : Nat) : xAj Tryz.prog (cfCR_T F) := ⟨⟨by kernel_rfl, xQE F⟩, xHH F⟩
def chg0_T (F : Nat) : List Ent := xNX F :: cfCR_T F
theorem xVf (F : Nat) : xAj Tryz.prog (chg0_T F) := ⟨⟨by kernel_rfl, xL8 F⟩, xVm F⟩
end
noncomputable section
def xCm (F : Nat) (s1 : ByteArray) (ws : (Int × T_0)) (wl : (List (Int × Nat))) (wi : (List (ByteArray × Nat))) (ww : (List (ByteArray × Nat))) (ar0 : T_2) (ar1 : T_4) (ar2 : T_3) (ar3 : T_7) (ar4 : T_6) : Option (((ByteArray × Int) × (T_1 × ((List (Int × Nat)) × ((List (ByteArray × Nat)) × ((List (ByteArray × Nat)) × (T_2 × (T_4 × (T_3 × (T_7 × T_6)))))))))) := (bif (decide ((s1.size : Int) > 2000)) then (some ((B_1, (5 : Int)), ((f7 ws), wl, wi, ww, ar0, ar1, ar2, ar3, ar4))) else (ob (xB1 F s1) (fun r => (ob (xFH F (nth ((ByteArray.mk (Array.mk (99 :: (104 :: (97 :: (114 :: (103 :: (101 :: [])))))))) :: ((ByteArray.mk (Array.mk (75 :: (49 :: [])))) :: (r :: []))) B_1 2) ((((0 : Int), (0 : Int)), (((0 : Int), (0 : Int)), (((0 : Int), (0 : Int)), (((0 : Int), (0 : Int)), (((0 : Int), (0 : Int)), ((0 : Int), (0 : Int))))))), B_1) [] [] [] [] ((nth ((ByteArray.mk (Array.mk (99 :: (104 :: (97 :: (114 :: (103 :: (101 :: [])))))))) :: ((ByteArray.mk (Array.mk (75 :: (49 :: [])))) :: (r :: []))) B_1 1) :: [])) (fun r1 => (bif (!r1.1) then (some ((B_1, (4 : Int)), ((f7 ws), wl, wi, ww, ar0, ar1, ar2, ar3, ar4))) else (ob (bif (!(Nat.beq (xEW KK.s 0 (nth ((nth ((ByteArray.mk (Array.mk (99 :: (104 :: (97 :: (114 :: (103 :: (101 :: [])))))))) :: ((ByteArray.mk (Array.mk (75 :: (49 :: [])))) :: (r :: []))) B_1 1) :: []) (TC.dflt .str) 0) wi) 0)) then (some ((B_1, (6 : Int)), ((f7 ws), wl, wi, ww, ar0, ar1, ar2, ar3, ar4))) else (bif (decide ((wi.length : Int) >= 9)) then (some ((B_1, (8 : Int)), ((f7 ws), wl, wi, ww, ar0, ar1, ar2, ar3, ar4))) else (ob (xFc F ws wl wi ww (((r1.2.1.1, r1.2.1.2.1), ((r1.2.1.2.2.1, r1.2.1.2.2.2.1), ((r1.2.1.t4.1, r1.2.1.t5.1), ((r1.2.1.t6.1, r1.2.1.t7.1), ((r1.2.1.t8.1, r1.2.1.t9.1), (r1.2.1.t9.2.1, r1.2.1.t9.2.2.1)))))), r1.2.1.t9.2.2.2) [] [] [] r1.2.2 ((nth ((ByteArray.mk (Array.mk (99 :: (104 :: (97 :: (114 :: (103 :: (101 :: [])))))))) :: ((ByteArray.mk (Array.mk (75 :: (49 :: [])))) :: (r :: []))) B_1 1) :: []) ar0 ar1 ar2 ar3 ar4) (fun r2 => (bif (r2.1.2 != 0) then (some ((B_1, r2.1.2), ((r2.2.1.1, (r2.2.1.2.1, (r2.2.1.2.2.1, (r2.2.1.2.2.2.1, (r2.2.1.t4))))), r2.2.2.1, r2.2.2.2.1, r2.t4.1, r2.t9.1, r2.t9.2.1, r2.t6.1, r2.t7.1, r2.t8.1))) else (bif (decide (r2.1.1.1 > 1000000000)) then (some ((B_1, (3 : Int)), ((r2.2.1.1, (r2.2.1.2.1, (r2.2.1.2.2.1, (r2.2.1.2.2.2.1, (r2.2.1.t4))))), r2.2.2.1, r2.2.2.2.1, r2.t4.1, r2.t9.1, r2.t9.2.1, r2.t6.1, r2.t7.1, r2.t8.1))) else (ob (xVl F (r2.1.1.2.1 :: (r2.1.1.2.2.1 :: (r2.1.1.2.2.2 :: [])))) (fun r3 => (bif r3 then (some ((B_1, (3 : Int)), ((r2.2.1.1, (r2.2.1.2.1, (r2.2.1.2.2.1, (r2.2.1.2.2.2.1, (r2.2.1.t4))))), r2.2.2.1, r2.2.2.2.1, r2.t4.1, r2.t9.1, r2.t9.2.1, r2.t6.1, r2.t7.1, r2.t8.1))) else (ob (xIU F (xEW KK.s 0 (nth ((nth ((ByteArray.mk (Array.mk (99 :: (104 :: (97 :: (114 :: (103 :: (101 :: [])))))))) :: ((ByteArray.mk (Array.mk (75 :: (49 :: [])))) :: (r :: []))) B_1 1) :: []) (TC.dflt .str) 0) (xHh KK.s (nth ((nth ((ByteArray.mk (Array.mk (99 :: (104 :: (97 :: (114 :: (103 :: (101 :: [])))))))) :: ((ByteArray.mk (Array.mk (75 :: (49 :: [])))) :: (r :: []))) B_1 1) :: []) (TC.dflt .str) 0) (r2.t6.1.length + 1) r2.2.2.2.1)) (u7 r2.2.1) r2.2.2.1 (xHh KK.s (nth ((nth ((ByteArray.mk (Array.mk (99 :: (104 :: (97 :: (114 :: (103 :: (101 :: [])))))))) :: ((ByteArray.mk (Array.mk (75 :: (49 :: [])))) :: (r :: []))) B_1 1) :: []) (TC.dflt .str) 0) (r2.t6.1.length + 1) r2.2.2.2.1) r2.t4.1 r2.t9.2.2 r2.t9.1 (r2.t9.2.1 ++ ((Option.some []) :: [])) (r2.t6.1 ++ ((r2.1.1, (0, ((r2.t9.2.1.length + 1), ((0 : Int), (0, false))))) :: [])) r2.t7.1 r2.t8.1) (fun r4 => (ob (xBT F r2.1.1.1) (fun r5 => (some ((r5, (0 : Int)), ((r4.1.1, (r4.1.2.1, (r4.1.2.2.1, (r4.1.2.2.2.1, (r4.1.t4))))), r4.2.1, r4.2.2.1, r4.2.2.2.1, r4.t7.1, r4.t8, r4.t4.1, r4.t5.1, r4.t6.1)))))))))))))))) (fun s2 => (bif (s2.1.2 != 0) then (some ((B_1, s2.1.2), s2.2)) else (some ((s2.1.1, (0 : Int)), s2.2)))))))))))
abbrev xGY : Sch := H_0
abbrev xGX : FSch := ⟨.tu [(false, [.t .str]), (false, [.i])], [K_0, K_6, K_3, K_4, K_4, .dead, .dead, .dead, .dead, .dead, K_1, K_2, xCz, xCy, xCA]⟩
def xC8 (F : Nat) : Ent := ⟨13, 2, xGY, xGX, fun s => xCm F s.1 s.2.1 s.2.2.1 s.2.2.2.1 s.t4.1 s.t5.1 s.t6.1 s.t7.1 s.t8.1 s.t9, []⟩
theorem xK4 (F : Nat) : FnSem Tryz.prog 13 2 xGY xGX (fun s => xCm F s.1 s.2.1 s.2.2.1 s.2.2.2.1 s.t4.1 s.t5.1 s.t6.1 s.t7.1 s.t8.1 s.t9) :=
 fK (an := (.two .no (.two .no (.two .no (.two .no (.two .no (.two .no (.two .no (.two .no (.two (.join [(.normal, ⟨[(13, .c (.t .str)), (14, .c .i)], [K_0, K_6, K_3, K_4, K_4, .dead, .dead, .dead, .dead, .dead, K_1, K_2, xCz, xCy, xCA]⟩)] .no) .no)))))))))) (xVf F) (⟨trivial, ⟨trivial, ⟨trivial, ⟨trivial, ⟨trivial, ⟨trivial, ⟨trivial, ⟨trivial, ⟨trivial, trivial⟩⟩⟩⟩⟩⟩⟩⟩⟩)
end
section
open Go.Shelf
noncomputable section
def xGd (_ : Nat) (s : ByteArray) : Option ByteArray := bif decide (s.size <= 1000000) then (match Lib.splitB ⟨#[32]⟩ 0 (Lib.countB s ⟨#[32]⟩) s with
 | [w0, w1, w2] => bif (w0.data.toList == [115, 108, 105, 99, 101]) && (w1.data.toList == [75, 49]) then some w2 else none
 | _ => none) else none
abbrev xJu : Sch := ⟨[(0, .c (.t .str)), (1, .c (.k (.lit (.string ⟨#[32]⟩))))], []⟩
abbrev xJt : FSch := ⟨.one (.c (.k (.sf 0 1 3))), [.blk 9 [.k (.lit (.string ⟨#[115, 108, 105, 99, 101]⟩)), .k (.lit (.string ⟨#[75, 49]⟩)), .t .str]]⟩
def xQ6 (F : Nat) : Ent := ⟨34, 2, xJu, xJt, fun s => xGd F s, []⟩
theorem xNW (F : Nat) : FnSem Tryz.prog 34 2 xJu xJt (fun s => xGd F s) := by
 intro x t hst S F' W0 Z w vs hlen hden hh hcl;change ByteArray at x;obtain ⟨v0, h0, g0⟩ := hden 0 (.c (.sc (.string x))) rfl;obtain ⟨v1, h1, g1⟩ := hden 1 (.c (.sc (.string ⟨#[32]⟩))) rfl;have e0 : v0 = .string x := h0.1;have e1 : v1 = .string ⟨#[32]⟩ := h1.1;subst e0; subst e1;have hvs : vs = [.string x, .string ⟨#[32]⟩] := by
  match vs, hlen with
  | [a, b], _ => simp at g0 g1; rw [g0, g1]
 subst hvs;simp only [xGd] at hst
 cases hc : decide (x.size <= 1000000) with
 | false => rw [hc] at hst; cases hst
 | true =>
  rw [hc, cond_true] at hst;simp only [decide_eq_true_eq] at hc;obtain ⟨m, hm⟩ := hh.layW.2.1;split at hst
  ·rename_i w0 w1 w2 hs;refine (Any.strings_Split Tryz.lays146 (by kernel_rfl) x ⟨#[32]⟩ m w (by omega) hm (by decide)).mono ?_
   rintro e w' ⟨rfl, rfl⟩
   have hn : Lib.countB x ⟨#[32]⟩ + 1 = 3 := by
    have := Lib.splitB_all ⟨#[32]⟩ (by decide) 0 _ x rfl;rw [hs] at this;exact this.symm
   rw [hs, hn]
   cases hq : ((w0.data.toList == [115, 108, 105, 99, 101]) && (w1.data.toList == [75, 49])) with
   | false => rw [hq] at hst; cases hst
   | true =>
    rw [hq, cond_true] at hst;have ht := Option.some.inj hst;subst ht;simp only [Bool.and_eq_true, beq_iff_eq] at hq;obtain rfl := xLD hq.1;obtain rfl := xLD hq.2;exact xB0 hh (l := [.sc (.string ⟨#[115, 108, 105, 99, 101]⟩), .sc (.string ⟨#[75, 49]⟩), .sc (.string w2)]) (vs := [.string ⟨#[115, 108, 105, 99, 101]⟩, .string ⟨#[75, 49]⟩, .string w2]) (fun O => ⟨_, _, rfl, ⟨rfl, rfl⟩, _, _, rfl, ⟨rfl, rfl⟩, _, _, rfl, ⟨rfl, rfl⟩, rfl⟩) rfl (by simp) (by simp)
  ·cases hst
end
end
noncomputable section
end
noncomputable section
end
def xFr : Nat -> Option Nat := fun n => bif Nat.beq n 10 then some 6 else none
end Go.Proofs.YtnomnijhlbalaaaGreatDoor
