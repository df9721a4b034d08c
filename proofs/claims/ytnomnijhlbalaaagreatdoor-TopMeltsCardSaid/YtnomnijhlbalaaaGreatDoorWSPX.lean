/- A part of the proof of the theorem of the last file. No condition. By an AI agent. -/
import Derived.Test.YtnomnijhlbalaaaGreatDoorWXW23
set_option maxRecDepth 100000
set_option maxHeartbeats 4000000
namespace Go.Proofs.YtnomnijhlbalaaaGreatDoor
open Go.RowKit Go.Proofs
noncomputable section
abbrev ixC_n : Nat := 2
def xFX (F : Nat) (t7 : Int) (g0 : (List (Int × Int))) : Nat -> Int -> Option ((Int × (List (Int × Int))) ⊕ (List (Int × Int)))
 | 0, _ => none
 | n_ + 1, t8 => (bif (decide (t8 < t7)) then (bif (inB t8 (g0.length - 0)) then (bif (decide ((nth g0 D_0 t8.toNat).2 > 1000000000000)) then (some (.inl (t8, g0))) else (xFX F t7 g0 n_ (jI.wrap (t8 + 1)))) else none) else (some (.inr g0)))
abbrev xRj : Sch := ⟨[(0, .c (.k (.sl 0 2))), (1, .c (.k (.lit (.func (.func 145) ⟨[]⟩ ⟨[]⟩)))), (7, .c .i), (8, .c .i)], [.ro (.pair .i .i)]⟩
abbrev xRk : xBO := [(.ret, ⟨[(4, .c .i)], [.ro (.pair .i .i)]⟩), ((.exit 0), ⟨[], [.ro (.pair .i .i)]⟩)]
theorem xV3 (F : Nat) : ∀ n, xAW Tryz.prog 1 (xAA Tryz.prog 207 ixC_n) (xAw (xAj Tryz.prog 207) [1, 0, 1, 0, 0]) xRj xRk (fun s => (xFX F s.1.1 s.2 n s.1.2)) :=
 lK (an := .no) (xGF F) (trivial)
def xZG (F : Nat) (s1 : (List (Int × Int))) : Option (Int) := (ob (xFX F ((s1.length - 0) : Int) s1 F 0) (fun o_ => su o_ (fun s2 => (some s2.1)) (fun s3 => (some (-1 : Int)))))
abbrev ixC_I : Sch := ⟨[(0, .c (.k (.sl 0 2))), (1, .c (.k (.lit (.func (.func 145) ⟨[]⟩ ⟨[]⟩))))], [.ro (.pair .i .i)]⟩
abbrev ixC_O : FSch := ⟨.one (.c .i), [.dead]⟩
def ixC_E (F : Nat) : Ent := ⟨207, 2, ixC_I, ixC_O, fun s => xZG F s, []⟩
theorem ixC_ok (F : Nat) : FnSem Tryz.prog 207 2 ixC_I ixC_O (fun s => xZG F s) :=
 fK (an := (.two .no (.two (.two .no (.one (.loop xRj xRk (fun s => (xFX F s.1.1 s.2 F s.1.2))))) .no))) (xGF F) (⟨trivial, ⟨⟨trivial, (xV3 F F)⟩, trivial⟩⟩)
def ixC_T (F : Nat) : List Ent := ixC_E F :: xWT F
theorem xRi (F : Nat) : xAf Tryz.prog (ixC_T F) := ⟨⟨by kernel_rfl, ixC_ok F⟩, xGF F⟩
def xXu (F : Nat) (s1 : (List (Int × Int))) : Option (Bool) := (ob (xZG F s1) (fun r => (some (decide (r >= 0)))))
abbrev cfC_I : Sch := ⟨[(0, .c (.k (.sl 0 2))), (1, .c (.k (.lit (.func (.func 145) ⟨[]⟩ ⟨[]⟩))))], [.ro (.pair .i .i)]⟩
abbrev cfC_O : FSch := ⟨.one (.c (.t .bool)), [.dead]⟩
def cfC_E (F : Nat) : Ent := ⟨135, 2, cfC_I, cfC_O, fun s => xXu F s, []⟩
theorem xR0 (F : Nat) : FnSem Tryz.prog 135 2 cfC_I cfC_O (fun s => xXu F s) :=
 fK (an := .no) (xRi F) (trivial)
def cfC_T (F : Nat) : List Ent := cfC_E F :: ixC_T F
theorem yAa (F : Nat) : xAf Tryz.prog (cfC_T F) := ⟨⟨by kernel_rfl, xR0 F⟩, xRi F⟩
end
noncomputable section
def cfCR_E (F : Nat) : Ent := { cfC_E F with bx := [some (.pair .i .i), none] }
def cfCR_T (F : Nat) : List Ent := cfCR_E F :: cfC_T F
theorem xXv (F : Nat) : xAf Tryz.prog (cfCR_T F) := ⟨⟨by kernel_rfl, xR0 F⟩, yAa F⟩
def chg0_T (F : Nat) : List Ent := xO5 F :: cfCR_T F
theorem xXo (F : Nat) : xAf Tryz.prog (chg0_T F) := ⟨⟨by kernel_rfl, xNa F⟩, xXv F⟩
end
noncomputable section
def xBN (F : Nat) (s1 : ByteArray) (ws : (Int × T_0)) (wl : (List (Int × Nat))) (wi : (List (ByteArray × Nat))) (ww : (List (ByteArray × Nat))) (ar0 : T_3) (ar1 : T_5) (ar2 : T_4) (ar3 : T_8) (ar4 : T_7) : Option (((ByteArray × Int) × (T_1 × ((List (Int × Nat)) × ((List (ByteArray × Nat)) × ((List (ByteArray × Nat)) × (T_3 × (T_5 × (T_4 × (T_8 × T_7)))))))))) := (bif (decide ((s1.size : Int) > 2000)) then (some ((B_1, (5 : Int)), ((f7 ws), wl, wi, ww, ar0, ar1, ar2, ar3, ar4))) else (ob (xAO F s1) (fun r => (ob (xFJ F (nth ((ByteArray.mk (Array.mk (99 :: (104 :: (97 :: (114 :: (103 :: (101 :: [])))))))) :: (B_0 :: (r :: []))) B_1 2) ((((0 : Int), (0 : Int)), (((0 : Int), (0 : Int)), (((0 : Int), (0 : Int)), (((0 : Int), (0 : Int)), (((0 : Int), (0 : Int)), ((0 : Int), (0 : Int))))))), B_1) [] [] [] [] ((nth ((ByteArray.mk (Array.mk (99 :: (104 :: (97 :: (114 :: (103 :: (101 :: [])))))))) :: (B_0 :: (r :: []))) B_1 1) :: [])) (fun r1 => (bif (!r1.1) then (some ((B_1, (4 : Int)), ((f7 ws), wl, wi, ww, ar0, ar1, ar2, ar3, ar4))) else (ob (bif (!(Nat.beq (xAI KK.s 0 (nth ((nth ((ByteArray.mk (Array.mk (99 :: (104 :: (97 :: (114 :: (103 :: (101 :: [])))))))) :: (B_0 :: (r :: []))) B_1 1) :: []) (TC.dflt .str) 0) wi) 0)) then (some ((B_1, (6 : Int)), ((f7 ws), wl, wi, ww, ar0, ar1, ar2, ar3, ar4))) else (bif (decide ((wi.length : Int) >= 9)) then (some ((B_1, (8 : Int)), ((f7 ws), wl, wi, ww, ar0, ar1, ar2, ar3, ar4))) else (ob (xIJ F ws wl wi ww (((r1.2.1.1, r1.2.1.2.1), ((r1.2.1.2.2.1, r1.2.1.2.2.2.1), ((r1.2.1.t4.1, r1.2.1.t5.1), ((r1.2.1.t6.1, r1.2.1.t7.1), ((r1.2.1.t8.1, r1.2.1.t9.1), (r1.2.1.t9.2.1, r1.2.1.t9.2.2.1)))))), r1.2.1.t9.2.2.2) [] [] [] r1.2.2 ((nth ((ByteArray.mk (Array.mk (99 :: (104 :: (97 :: (114 :: (103 :: (101 :: [])))))))) :: (B_0 :: (r :: []))) B_1 1) :: []) ar0 ar1 ar2 ar3 ar4) (fun r2 => (bif (r2.1.2 != 0) then (some ((B_1, r2.1.2), ((r2.2.1.1, (r2.2.1.2.1, (r2.2.1.2.2.1, (r2.2.1.2.2.2.1, (r2.2.1.t4))))), r2.2.2.1, r2.2.2.2.1, r2.t4.1, r2.t9.1, r2.t9.2.1, r2.t6.1, r2.t7.1, r2.t8.1))) else (bif (decide (r2.1.1.1 > 1000000000)) then (some ((B_1, (3 : Int)), ((r2.2.1.1, (r2.2.1.2.1, (r2.2.1.2.2.1, (r2.2.1.2.2.2.1, (r2.2.1.t4))))), r2.2.2.1, r2.2.2.2.1, r2.t4.1, r2.t9.1, r2.t9.2.1, r2.t6.1, r2.t7.1, r2.t8.1))) else (ob (xXu F (r2.1.1.2.1 :: (r2.1.1.2.2.1 :: (r2.1.1.2.2.2 :: [])))) (fun r3 => (bif r3 then (some ((B_1, (3 : Int)), ((r2.2.1.1, (r2.2.1.2.1, (r2.2.1.2.2.1, (r2.2.1.2.2.2.1, (r2.2.1.t4))))), r2.2.2.1, r2.2.2.2.1, r2.t4.1, r2.t9.1, r2.t9.2.1, r2.t6.1, r2.t7.1, r2.t8.1))) else (ob (xJS F (xAI KK.s 0 (nth ((nth ((ByteArray.mk (Array.mk (99 :: (104 :: (97 :: (114 :: (103 :: (101 :: [])))))))) :: (B_0 :: (r :: []))) B_1 1) :: []) (TC.dflt .str) 0) (xF2 KK.s (nth ((nth ((ByteArray.mk (Array.mk (99 :: (104 :: (97 :: (114 :: (103 :: (101 :: [])))))))) :: (B_0 :: (r :: []))) B_1 1) :: []) (TC.dflt .str) 0) (r2.t6.1.length + 1) r2.2.2.2.1)) (u7 r2.2.1) r2.2.2.1 (xF2 KK.s (nth ((nth ((ByteArray.mk (Array.mk (99 :: (104 :: (97 :: (114 :: (103 :: (101 :: [])))))))) :: (B_0 :: (r :: []))) B_1 1) :: []) (TC.dflt .str) 0) (r2.t6.1.length + 1) r2.2.2.2.1) r2.t4.1 r2.t9.2.2 r2.t9.1 (r2.t9.2.1 ++ ((Option.some []) :: [])) (r2.t6.1 ++ ((r2.1.1, (0, ((r2.t9.2.1.length + 1), ((0 : Int), (0, false))))) :: [])) r2.t7.1 r2.t8.1) (fun r4 => (ob (xA6 F r2.1.1.1) (fun r5 => (some ((r5, (0 : Int)), ((r4.1.1, (r4.1.2.1, (r4.1.2.2.1, (r4.1.2.2.2.1, (r4.1.t4))))), r4.2.1, r4.2.2.1, r4.2.2.2.1, r4.t7.1, r4.t8, r4.t4.1, r4.t5.1, r4.t6.1)))))))))))))))) (fun s2 => (bif (s2.1.2 != 0) then (some ((B_1, s2.1.2), s2.2)) else (some ((s2.1.1, (0 : Int)), s2.2)))))))))))
abbrev xG8 : Sch := H_0
abbrev xG7 : FSch := ⟨.tu [(false, [.t .str]), (false, [.i])], [K_0, K_7, K_4, K_3, K_3, .dead, .dead, .dead, .dead, .dead, K_9, K_2, xC9, xC8, xDa]⟩
def xCV (F : Nat) : Ent := ⟨13, 2, xG8, xG7, fun s => xBN F s.1 s.2.1 s.2.2.1 s.2.2.2.1 s.t4.1 s.t5.1 s.t6.1 s.t7.1 s.t8.1 s.t9, []⟩
theorem xL5 (F : Nat) : FnSem Tryz.prog 13 2 xG8 xG7 (fun s => xBN F s.1 s.2.1 s.2.2.1 s.2.2.2.1 s.t4.1 s.t5.1 s.t6.1 s.t7.1 s.t8.1 s.t9) :=
 fK (an := (.two .no (.two .no (.two .no (.two .no (.two .no (.two .no (.two .no (.two .no (.two (.join [(.normal, H_1)] .no) .no)))))))))) (xXo F) (⟨trivial, ⟨trivial, ⟨trivial, ⟨trivial, ⟨trivial, ⟨trivial, ⟨trivial, ⟨trivial, ⟨trivial, trivial⟩⟩⟩⟩⟩⟩⟩⟩⟩)
end
section
open Go.Shelf
noncomputable section
def xA0 (_ : Nat) (s : ByteArray) : Option (ByteArray × ByteArray) := bif decide (s.size <= 1000000) then (match Lib.splitB ⟨#[32]⟩ 0 (Lib.countB s ⟨#[32]⟩) s with
 | [w0, w1, w2, w3] => bif (w0.data.toList == [102, 114, 101, 101, 122, 101]) && (w1.data.toList == [75, 49]) then some (w2, w3) else none
 | _ => none) else none
abbrev xIs : Sch := ⟨[(0, .c (.t .str)), (1, .c (.k (.lit (.string ⟨#[32]⟩))))], []⟩
abbrev xIr : FSch := ⟨.one (.c (.k (.sf 0 1 4))), [.blk 9 [.k (.lit (.string ⟨#[102, 114, 101, 101, 122, 101]⟩)), .k (.lit (.string ⟨#[75, 49]⟩)), .t .str, .t .str]]⟩
def xO4 (F : Nat) : Ent := ⟨34, 2, xIs, xIr, fun s => xA0 F s, []⟩
theorem xM9 (F : Nat) : FnSem Tryz.prog 34 2 xIs xIr (fun s => xA0 F s) := by
 intro x t hst S F' W0 ι w vs hlen hden hh hcl;change ByteArray at x;obtain ⟨v0, h0, g0⟩ := hden 0 (.c (.sc (.string x))) rfl;obtain ⟨v1, h1, g1⟩ := hden 1 (.c (.sc (.string ⟨#[32]⟩))) rfl;have e0 : v0 = .string x := h0.1;have e1 : v1 = .string ⟨#[32]⟩ := h1.1;subst e0; subst e1;have hvs : vs = [.string x, .string ⟨#[32]⟩] := by
  match vs, hlen with
  | [a, b], _ => simp at g0 g1; rw [g0, g1]
 subst hvs;simp only [xA0] at hst
 cases hc : decide (x.size <= 1000000) with
 | false => rw [hc] at hst; cases hst
 | true =>
  rw [hc, cond_true] at hst;simp only [decide_eq_true_eq] at hc;obtain ⟨m, hm⟩ := hh.layW.2.1;split at hst
  ·rename_i w0 w1 w2 w3 hs;refine (Any.strings_Split Tryz.lays146 (by kernel_rfl) x ⟨#[32]⟩ m w (by omega) hm (by decide)).mono ?_
   rintro e w' ⟨rfl, rfl⟩
   have hn : Lib.countB x ⟨#[32]⟩ + 1 = 4 := by
    have := Lib.splitB_all ⟨#[32]⟩ (by decide) 0 _ x rfl;rw [hs] at this;exact this.symm
   rw [hs, hn]
   cases hq : ((w0.data.toList == [102, 114, 101, 101, 122, 101]) && (w1.data.toList == [75, 49])) with
   | false => rw [hq] at hst; cases hst
   | true =>
    rw [hq, cond_true] at hst;have ht := Option.some.inj hst;subst ht;simp only [Bool.and_eq_true, beq_iff_eq] at hq;obtain rfl := xEM hq.1;obtain rfl := xEM hq.2;exact xBL hh (l := [.sc (.string ⟨#[102, 114, 101, 101, 122, 101]⟩), .sc (.string ⟨#[75, 49]⟩), .sc (.string w2), .sc (.string w3)]) (vs := [.string ⟨#[102, 114, 101, 101, 122, 101]⟩, .string ⟨#[75, 49]⟩, .string w2, .string w3]) (fun ρ => ⟨_, _, rfl, ⟨rfl, rfl⟩, _, _, rfl, ⟨rfl, rfl⟩, _, _, rfl, ⟨rfl, rfl⟩, _, _, rfl, ⟨rfl, rfl⟩, rfl⟩) rfl (by simp) (by simp)
  ·cases hst
def xBe (_ : Nat) (s : ByteArray) : Option ByteArray := bif decide (s.size <= 1000000) then (match Lib.splitB ⟨#[32]⟩ 0 (Lib.countB s ⟨#[32]⟩) s with
 | [w0, w1, w2] => bif (w0.data.toList == [97, 98, 115, 111, 114, 98]) && (w1.data.toList == [75, 49]) then some w2 else none
 | _ => none) else none
abbrev xIy : Sch := ⟨[(0, .c (.t .str)), (1, .c (.k (.lit (.string ⟨#[32]⟩))))], []⟩
abbrev xIx : FSch := ⟨.one (.c (.k (.sf 0 1 3))), [.blk 9 [.k (.lit (.string ⟨#[97, 98, 115, 111, 114, 98]⟩)), .k (.lit (.string ⟨#[75, 49]⟩)), .t .str]]⟩
def xO6 (F : Nat) : Ent := ⟨34, 2, xIy, xIx, fun s => xBe F s, []⟩
theorem xNb (F : Nat) : FnSem Tryz.prog 34 2 xIy xIx (fun s => xBe F s) := by
 intro x t hst S F' W0 ι w vs hlen hden hh hcl;change ByteArray at x;obtain ⟨v0, h0, g0⟩ := hden 0 (.c (.sc (.string x))) rfl;obtain ⟨v1, h1, g1⟩ := hden 1 (.c (.sc (.string ⟨#[32]⟩))) rfl;have e0 : v0 = .string x := h0.1;have e1 : v1 = .string ⟨#[32]⟩ := h1.1;subst e0; subst e1;have hvs : vs = [.string x, .string ⟨#[32]⟩] := by
  match vs, hlen with
  | [a, b], _ => simp at g0 g1; rw [g0, g1]
 subst hvs;simp only [xBe] at hst
 cases hc : decide (x.size <= 1000000) with
 | false => rw [hc] at hst; cases hst
 | true =>
  rw [hc, cond_true] at hst;simp only [decide_eq_true_eq] at hc;obtain ⟨m, hm⟩ := hh.layW.2.1;split at hst
  ·rename_i w0 w1 w2 hs;refine (Any.strings_Split Tryz.lays146 (by kernel_rfl) x ⟨#[32]⟩ m w (by omega) hm (by decide)).mono ?_
   rintro e w' ⟨rfl, rfl⟩
   have hn : Lib.countB x ⟨#[32]⟩ + 1 = 3 := by
    have := Lib.splitB_all ⟨#[32]⟩ (by decide) 0 _ x rfl;rw [hs] at this;exact this.symm
   rw [hs, hn]
   cases hq : ((w0.data.toList == [97, 98, 115, 111, 114, 98]) && (w1.data.toList == [75, 49])) with
   | false => rw [hq] at hst; cases hst
   | true =>
    rw [hq, cond_true] at hst;have ht := Option.some.inj hst;subst ht;simp only [Bool.and_eq_true, beq_iff_eq] at hq;obtain rfl := xEM hq.1;obtain rfl := xEM hq.2;exact xBL hh (l := [.sc (.string ⟨#[97, 98, 115, 111, 114, 98]⟩), .sc (.string ⟨#[75, 49]⟩), .sc (.string w2)]) (vs := [.string ⟨#[97, 98, 115, 111, 114, 98]⟩, .string ⟨#[75, 49]⟩, .string w2]) (fun ρ => ⟨_, _, rfl, ⟨rfl, rfl⟩, _, _, rfl, ⟨rfl, rfl⟩, _, _, rfl, ⟨rfl, rfl⟩, rfl⟩) rfl (by simp) (by simp)
  ·cases hst
def xB0 (_ : Nat) (s : ByteArray) : Option ByteArray := bif decide (s.size <= 1000000) then (match Lib.splitB ⟨#[32]⟩ 0 (Lib.countB s ⟨#[32]⟩) s with
 | [w0, w1, w2] => bif (w0.data.toList == [118, 97, 112, 111, 117, 114]) && (w1.data.toList == [75, 49]) then some w2 else none
 | _ => none) else none
abbrev xIq : Sch := ⟨[(0, .c (.t .str)), (1, .c (.k (.lit (.string ⟨#[32]⟩))))], []⟩
abbrev xIp : FSch := ⟨.one (.c (.k (.sf 0 1 3))), [.blk 9 [.k (.lit (.string ⟨#[118, 97, 112, 111, 117, 114]⟩)), .k (.lit (.string ⟨#[75, 49]⟩)), .t .str]]⟩
def xO1 (F : Nat) : Ent := ⟨34, 2, xIq, xIp, fun s => xB0 F s, []⟩
theorem xM4 (F : Nat) : FnSem Tryz.prog 34 2 xIq xIp (fun s => xB0 F s) := by
 intro x t hst S F' W0 ι w vs hlen hden hh hcl;change ByteArray at x;obtain ⟨v0, h0, g0⟩ := hden 0 (.c (.sc (.string x))) rfl;obtain ⟨v1, h1, g1⟩ := hden 1 (.c (.sc (.string ⟨#[32]⟩))) rfl;have e0 : v0 = .string x := h0.1;have e1 : v1 = .string ⟨#[32]⟩ := h1.1;subst e0; subst e1;have hvs : vs = [.string x, .string ⟨#[32]⟩] := by
  match vs, hlen with
  | [a, b], _ => simp at g0 g1; rw [g0, g1]
 subst hvs;simp only [xB0] at hst
 cases hc : decide (x.size <= 1000000) with
 | false => rw [hc] at hst; cases hst
 | true =>
  rw [hc, cond_true] at hst;simp only [decide_eq_true_eq] at hc;obtain ⟨m, hm⟩ := hh.layW.2.1;split at hst
  ·rename_i w0 w1 w2 hs;refine (Any.strings_Split Tryz.lays146 (by kernel_rfl) x ⟨#[32]⟩ m w (by omega) hm (by decide)).mono ?_
   rintro e w' ⟨rfl, rfl⟩
   have hn : Lib.countB x ⟨#[32]⟩ + 1 = 3 := by
    have := Lib.splitB_all ⟨#[32]⟩ (by decide) 0 _ x rfl;rw [hs] at this;exact this.symm
   rw [hs, hn]
   cases hq : ((w0.data.toList == [118, 97, 112, 111, 117, 114]) && (w1.data.toList == [75, 49])) with
   | false => rw [hq] at hst; cases hst
   | true =>
    rw [hq, cond_true] at hst;have ht := Option.some.inj hst;subst ht;simp only [Bool.and_eq_true, beq_iff_eq] at hq;obtain rfl := xEM hq.1;obtain rfl := xEM hq.2;exact xBL hh (l := [.sc (.string ⟨#[118, 97, 112, 111, 117, 114]⟩), .sc (.string ⟨#[75, 49]⟩), .sc (.string w2)]) (vs := [.string ⟨#[118, 97, 112, 111, 117, 114]⟩, .string ⟨#[75, 49]⟩, .string w2]) (fun ρ => ⟨_, _, rfl, ⟨rfl, rfl⟩, _, _, rfl, ⟨rfl, rfl⟩, _, _, rfl, ⟨rfl, rfl⟩, rfl⟩) rfl (by simp) (by simp)
  ·cases hst
def xBb (_ : Nat) (s : ByteArray) : Option ByteArray := bif decide (s.size <= 1000000) then (match Lib.splitB ⟨#[32]⟩ 0 (Lib.countB s ⟨#[32]⟩) s with
 | [w0, w1, w2] => bif (w0.data.toList == [115, 108, 105, 99, 101]) && (w1.data.toList == [75, 49]) then some w2 else none
 | _ => none) else none
abbrev xKs : Sch := ⟨[(0, .c (.t .str)), (1, .c (.k (.lit (.string ⟨#[32]⟩))))], []⟩
abbrev xKr : FSch := ⟨.one (.c (.k (.sf 0 1 3))), [.blk 9 [.k (.lit (.string ⟨#[115, 108, 105, 99, 101]⟩)), .k (.lit (.string ⟨#[75, 49]⟩)), .t .str]]⟩
def xSn (F : Nat) : Ent := ⟨34, 2, xKs, xKr, fun s => xBb F s, []⟩
theorem xO2 (F : Nat) : FnSem Tryz.prog 34 2 xKs xKr (fun s => xBb F s) := by
 intro x t hst S F' W0 ι w vs hlen hden hh hcl;change ByteArray at x;obtain ⟨v0, h0, g0⟩ := hden 0 (.c (.sc (.string x))) rfl;obtain ⟨v1, h1, g1⟩ := hden 1 (.c (.sc (.string ⟨#[32]⟩))) rfl;have e0 : v0 = .string x := h0.1;have e1 : v1 = .string ⟨#[32]⟩ := h1.1;subst e0; subst e1;have hvs : vs = [.string x, .string ⟨#[32]⟩] := by
  match vs, hlen with
  | [a, b], _ => simp at g0 g1; rw [g0, g1]
 subst hvs;simp only [xBb] at hst
 cases hc : decide (x.size <= 1000000) with
 | false => rw [hc] at hst; cases hst
 | true =>
  rw [hc, cond_true] at hst;simp only [decide_eq_true_eq] at hc;obtain ⟨m, hm⟩ := hh.layW.2.1;split at hst
  ·rename_i w0 w1 w2 hs;refine (Any.strings_Split Tryz.lays146 (by kernel_rfl) x ⟨#[32]⟩ m w (by omega) hm (by decide)).mono ?_
   rintro e w' ⟨rfl, rfl⟩
   have hn : Lib.countB x ⟨#[32]⟩ + 1 = 3 := by
    have := Lib.splitB_all ⟨#[32]⟩ (by decide) 0 _ x rfl;rw [hs] at this;exact this.symm
   rw [hs, hn]
   cases hq : ((w0.data.toList == [115, 108, 105, 99, 101]) && (w1.data.toList == [75, 49])) with
   | false => rw [hq] at hst; cases hst
   | true =>
    rw [hq, cond_true] at hst;have ht := Option.some.inj hst;subst ht;simp only [Bool.and_eq_true, beq_iff_eq] at hq;obtain rfl := xEM hq.1;obtain rfl := xEM hq.2;exact xBL hh (l := [.sc (.string ⟨#[115, 108, 105, 99, 101]⟩), .sc (.string ⟨#[75, 49]⟩), .sc (.string w2)]) (vs := [.string ⟨#[115, 108, 105, 99, 101]⟩, .string ⟨#[75, 49]⟩, .string w2]) (fun ρ => ⟨_, _, rfl, ⟨rfl, rfl⟩, _, _, rfl, ⟨rfl, rfl⟩, _, _, rfl, ⟨rfl, rfl⟩, rfl⟩) rfl (by simp) (by simp)
  ·cases hst
def xBw (_ : Nat) (s : ByteArray) : Option ByteArray := bif decide (s.size <= 1000000) then (match Lib.splitB ⟨#[32]⟩ 0 (Lib.countB s ⟨#[32]⟩) s with
 | [w0, w1, w2, w3] => bif (w0.data.toList == [106, 117, 100, 103, 101]) && (w1.data.toList == [75, 49]) && (w2.data.toList == [48]) then some w3 else none
 | _ => none) else none
abbrev xKu : Sch := ⟨[(0, .c (.t .str)), (1, .c (.k (.lit (.string ⟨#[32]⟩))))], []⟩
abbrev xKt : FSch := ⟨.one (.c (.k (.sf 0 1 4))), [.blk 9 [.k (.lit (.string ⟨#[106, 117, 100, 103, 101]⟩)), .k (.lit (.string ⟨#[75, 49]⟩)), .k (.lit (.string ⟨#[48]⟩)), .t .str]]⟩
def xSq (F : Nat) : Ent := ⟨34, 2, xKu, xKt, fun s => xBw F s, []⟩
theorem xO3 (F : Nat) : FnSem Tryz.prog 34 2 xKu xKt (fun s => xBw F s) := by
 intro x t hst S F' W0 ι w vs hlen hden hh hcl;change ByteArray at x;obtain ⟨v0, h0, g0⟩ := hden 0 (.c (.sc (.string x))) rfl;obtain ⟨v1, h1, g1⟩ := hden 1 (.c (.sc (.string ⟨#[32]⟩))) rfl;have e0 : v0 = .string x := h0.1;have e1 : v1 = .string ⟨#[32]⟩ := h1.1;subst e0; subst e1;have hvs : vs = [.string x, .string ⟨#[32]⟩] := by
  match vs, hlen with
  | [a, b], _ => simp at g0 g1; rw [g0, g1]
 subst hvs;simp only [xBw] at hst
 cases hc : decide (x.size <= 1000000) with
 | false => rw [hc] at hst; cases hst
 | true =>
  rw [hc, cond_true] at hst;simp only [decide_eq_true_eq] at hc;obtain ⟨m, hm⟩ := hh.layW.2.1;split at hst
  ·rename_i w0 w1 w2 w3 hs;refine (Any.strings_Split Tryz.lays146 (by kernel_rfl) x ⟨#[32]⟩ m w (by omega) hm (by decide)).mono ?_
   rintro e w' ⟨rfl, rfl⟩
   have hn : Lib.countB x ⟨#[32]⟩ + 1 = 4 := by
    have := Lib.splitB_all ⟨#[32]⟩ (by decide) 0 _ x rfl;rw [hs] at this;exact this.symm
   rw [hs, hn]
   cases hq : ((w0.data.toList == [106, 117, 100, 103, 101]) && (w1.data.toList == [75, 49]) && (w2.data.toList == [48])) with
   | false => rw [hq] at hst; cases hst
   | true =>
    rw [hq, cond_true] at hst;have ht := Option.some.inj hst;subst ht;simp only [Bool.and_eq_true, beq_iff_eq] at hq;obtain rfl := xEM hq.1.1;obtain rfl := xEM hq.1.2;obtain rfl := xEM hq.2;exact xBL hh (l := [.sc (.string ⟨#[106, 117, 100, 103, 101]⟩), .sc (.string ⟨#[75, 49]⟩), .sc (.string ⟨#[48]⟩), .sc (.string w3)]) (vs := [.string ⟨#[106, 117, 100, 103, 101]⟩, .string ⟨#[75, 49]⟩, .string ⟨#[48]⟩, .string w3]) (fun ρ => ⟨_, _, rfl, ⟨rfl, rfl⟩, _, _, rfl, ⟨rfl, rfl⟩, _, _, rfl, ⟨rfl, rfl⟩, _, _, rfl, ⟨rfl, rfl⟩, rfl⟩) rfl (by simp) (by simp)
  ·cases hst
def xEn (_ : Nat) (s : ByteArray) : Option Unit := bif decide (s.size <= 1000000) then (match Lib.splitB ⟨#[32]⟩ 0 (Lib.countB s ⟨#[32]⟩) s with
 | [w0, w1] => bif (w0.data.toList == [101, 110, 100]) && (w1.data.toList == [75, 49]) then some () else none
 | _ => none) else none
abbrev xQx : Sch := ⟨[(0, .c (.t .str)), (1, .c (.k (.lit (.string ⟨#[32]⟩))))], []⟩
abbrev xQw : FSch := ⟨.one (.c (.k (.sf 0 1 2))), [.blk 9 [.k (.lit (.string ⟨#[101, 110, 100]⟩)), .k (.lit (.string ⟨#[75, 49]⟩))]]⟩
def xYH (F : Nat) : Ent := ⟨34, 2, xQx, xQw, fun s => xEn F s, []⟩
theorem xT6 (F : Nat) : FnSem Tryz.prog 34 2 xQx xQw (fun s => xEn F s) := by
 intro x t hst S F' W0 ι w vs hlen hden hh hcl;change ByteArray at x;obtain ⟨v0, h0, g0⟩ := hden 0 (.c (.sc (.string x))) rfl;obtain ⟨v1, h1, g1⟩ := hden 1 (.c (.sc (.string ⟨#[32]⟩))) rfl;have e0 : v0 = .string x := h0.1;have e1 : v1 = .string ⟨#[32]⟩ := h1.1;subst e0; subst e1;have hvs : vs = [.string x, .string ⟨#[32]⟩] := by
  match vs, hlen with
  | [a, b], _ => simp at g0 g1; rw [g0, g1]
 subst hvs;simp only [xEn] at hst
 cases hc : decide (x.size <= 1000000) with
 | false => rw [hc] at hst; cases hst
 | true =>
  rw [hc, cond_true] at hst;simp only [decide_eq_true_eq] at hc;obtain ⟨m, hm⟩ := hh.layW.2.1;split at hst
  ·rename_i w0 w1 hs;refine (Any.strings_Split Tryz.lays146 (by kernel_rfl) x ⟨#[32]⟩ m w (by omega) hm (by decide)).mono ?_
   rintro e w' ⟨rfl, rfl⟩
   have hn : Lib.countB x ⟨#[32]⟩ + 1 = 2 := by
    have := Lib.splitB_all ⟨#[32]⟩ (by decide) 0 _ x rfl;rw [hs] at this;exact this.symm
   rw [hs, hn]
   cases hq : ((w0.data.toList == [101, 110, 100]) && (w1.data.toList == [75, 49])) with
   | false => rw [hq] at hst; cases hst
   | true =>
    rw [hq, cond_true] at hst;have ht := Option.some.inj hst;subst ht;simp only [Bool.and_eq_true, beq_iff_eq] at hq;obtain rfl := xEM hq.1;obtain rfl := xEM hq.2;exact xBL hh (l := [.sc (.string ⟨#[101, 110, 100]⟩), .sc (.string ⟨#[75, 49]⟩)]) (vs := [.string ⟨#[101, 110, 100]⟩, .string ⟨#[75, 49]⟩]) (fun ρ => ⟨_, _, rfl, ⟨rfl, rfl⟩, _, _, rfl, ⟨rfl, rfl⟩, rfl⟩) rfl (by simp) (by simp)
  ·cases hst
end
end
end Go.Proofs.YtnomnijhlbalaaaGreatDoor
