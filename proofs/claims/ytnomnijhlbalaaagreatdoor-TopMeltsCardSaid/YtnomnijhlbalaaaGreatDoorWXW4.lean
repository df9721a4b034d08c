/- A part of the proof of the theorem of the last file. No condition. By an AI agent. -/
import Derived.Test.YtnomnijhlbalaaaGreatDoorWSHW
set_option maxRecDepth 100000
set_option maxHeartbeats 4000000
namespace Go.Proofs.YtnomnijhlbalaaaGreatDoor
section
open Go.RowKit Go.Proofs Go.Shelf
noncomputable section
theorem xEM {b : ByteArray} {l : List UInt8} (h : b.data.toList = l) : b = ⟨l.toArray⟩ := by
 obtain ⟨⟨b⟩⟩ := b;cases h;rfl
theorem xBL {S F' : List Nat} {W0 w : World} {ι : List Info} (hh : HOk S F' W0 ι [] w) {l : List CV} {vs : List Value} (hd : ∀ ρ, DenL ρ l vs) (hlen : l.length = vs.length) (h1 : l.length <= 100) (h0 : 0 < l.length) :
  ∃ ι' u, Ending.returned (.slice (some ⟨w.heap.size, 0, none⟩) vs.length vs.length) = .returned u /\ PreM 0 ι ι' /\ Den ι' (.sl 0 1 0 (some vs.length) (some vs.length)) u /\ HOk S F' W0 ι' [.blk l 9] (w.alloc (.cells vs.toArray 9)) /\ 0 <= 1 := by
 have hl' : ι.length = 0 := hh.len;have hg : (ι ++ [⟨some ⟨w.heap.size, 0, none⟩, l.length, none, .nilFunc⟩])[0]? = some ⟨some ⟨w.heap.size, 0, none⟩, l.length, none, .nilFunc⟩ := by
  rw [List.getElem?_append_right (by omega), hl']; rfl
 refine ⟨ι ++ [⟨some ⟨w.heap.size, 0, none⟩, l.length, none, .nilFunc⟩], _, rfl, (Pre.app _ _).m, ⟨_, some ⟨w.heap.size, 0, none⟩, vs.length, vs.length, hg, rfl, Nat.le_refl _, by unfold maxLen; omega, fun _ => ⟨_, 0, rfl⟩, rfl, rfl, rfl, fun _ => ?_, fun _ => rfl⟩, ?_, by decide⟩
 ·show 0 + vs.length <= l.length;omega
 ·refine hh.add (Ex.allocs w _) ⟨some ⟨w.heap.size, 0, none⟩, l.length, none, .nilFunc⟩ (.blk l 9) ⟨⟨rfl, rfl⟩, w.heap.size, vs, rfl, hd _, xCN w _⟩ (fun b hb => ?_);have hb' : some w.heap.size = some b := hb;simp only [Option.some.injEq] at hb';omega
def xBd (_ : Nat) (s : ByteArray) : Option (ByteArray × (ByteArray × (ByteArray × ByteArray))) := bif decide (s.size <= 1000000) then (match Lib.splitB ⟨#[32]⟩ 0 (Lib.countB s ⟨#[32]⟩) s with
 | [w0, w1, w2, w3, w4] => bif (w0.data.toList == [108, 111, 116]) then some (w1, (w2, (w3, w4))) else none
 | _ => none) else none
abbrev xQv : Sch := ⟨[(0, .c (.t .str)), (1, .c (.k (.lit (.string ⟨#[32]⟩))))], []⟩
abbrev xQu : FSch := ⟨.one (.c (.k (.sf 0 1 5))), [.blk 9 [.k (.lit (.string ⟨#[108, 111, 116]⟩)), .t .str, .t .str, .t .str, .t .str]]⟩
def xYG (F : Nat) : Ent := ⟨34, 2, xQv, xQu, fun s => xBd F s, []⟩
theorem xT5 (F : Nat) : FnSem Tryz.prog 34 2 xQv xQu (fun s => xBd F s) := by
 intro x t hst S F' W0 ι w vs hlen hden hh hcl;change ByteArray at x;obtain ⟨v0, h0, g0⟩ := hden 0 (.c (.sc (.string x))) rfl;obtain ⟨v1, h1, g1⟩ := hden 1 (.c (.sc (.string ⟨#[32]⟩))) rfl;have e0 : v0 = .string x := h0.1;have e1 : v1 = .string ⟨#[32]⟩ := h1.1;subst e0; subst e1;have hvs : vs = [.string x, .string ⟨#[32]⟩] := by
  match vs, hlen with
  | [a, b], _ => simp at g0 g1; rw [g0, g1]
 subst hvs;simp only [xBd] at hst
 cases hc : decide (x.size <= 1000000) with
 | false => rw [hc] at hst; cases hst
 | true =>
  rw [hc, cond_true] at hst;simp only [decide_eq_true_eq] at hc;obtain ⟨m, hm⟩ := hh.layW.2.1;split at hst
  ·rename_i w0 w1 w2 w3 w4 hs;refine (Any.strings_Split Tryz.lays146 (by kernel_rfl) x ⟨#[32]⟩ m w (by omega) hm (by decide)).mono ?_
   rintro e w' ⟨rfl, rfl⟩
   have hn : Lib.countB x ⟨#[32]⟩ + 1 = 5 := by
    have := Lib.splitB_all ⟨#[32]⟩ (by decide) 0 _ x rfl;rw [hs] at this;exact this.symm
   rw [hs, hn]
   cases hq : ((w0.data.toList == [108, 111, 116])) with
   | false => rw [hq] at hst; cases hst
   | true =>
    rw [hq, cond_true] at hst;have ht := Option.some.inj hst;subst ht;simp only [Bool.and_eq_true, beq_iff_eq] at hq;obtain rfl := xEM hq;exact xBL hh (l := [.sc (.string ⟨#[108, 111, 116]⟩), .sc (.string w1), .sc (.string w2), .sc (.string w3), .sc (.string w4)]) (vs := [.string ⟨#[108, 111, 116]⟩, .string w1, .string w2, .string w3, .string w4]) (fun ρ => ⟨_, _, rfl, ⟨rfl, rfl⟩, _, _, rfl, ⟨rfl, rfl⟩, _, _, rfl, ⟨rfl, rfl⟩, _, _, rfl, ⟨rfl, rfl⟩, _, _, rfl, ⟨rfl, rfl⟩, rfl⟩) rfl (by simp) (by simp)
  ·cases hst
def xAO (_ : Nat) (s : ByteArray) : Option ByteArray := bif decide (s.size <= 1000000) then (match Lib.splitB ⟨#[32]⟩ 0 (Lib.countB s ⟨#[32]⟩) s with
 | [w0, w1, w2] => bif (w0.data.toList == [99, 104, 97, 114, 103, 101]) && (w1.data.toList == [75, 49]) then some w2 else none
 | _ => none) else none
abbrev xIw : Sch := ⟨[(0, .c (.t .str)), (1, .c (.k (.lit (.string ⟨#[32]⟩))))], []⟩
abbrev xIu : FSch := ⟨.one (.c (.k (.sf 0 1 3))), [.blk 9 [.k (.lit (.string ⟨#[99, 104, 97, 114, 103, 101]⟩)), .k (.lit (.string ⟨#[75, 49]⟩)), .t .str]]⟩
def xO5 (F : Nat) : Ent := ⟨34, 2, xIw, xIu, fun s => xAO F s, []⟩
theorem xNa (F : Nat) : FnSem Tryz.prog 34 2 xIw xIu (fun s => xAO F s) := by
 intro x t hst S F' W0 ι w vs hlen hden hh hcl;change ByteArray at x;obtain ⟨v0, h0, g0⟩ := hden 0 (.c (.sc (.string x))) rfl;obtain ⟨v1, h1, g1⟩ := hden 1 (.c (.sc (.string ⟨#[32]⟩))) rfl;have e0 : v0 = .string x := h0.1;have e1 : v1 = .string ⟨#[32]⟩ := h1.1;subst e0; subst e1;have hvs : vs = [.string x, .string ⟨#[32]⟩] := by
  match vs, hlen with
  | [a, b], _ => simp at g0 g1; rw [g0, g1]
 subst hvs;simp only [xAO] at hst
 cases hc : decide (x.size <= 1000000) with
 | false => rw [hc] at hst; cases hst
 | true =>
  rw [hc, cond_true] at hst;simp only [decide_eq_true_eq] at hc;obtain ⟨m, hm⟩ := hh.layW.2.1;split at hst
  ·rename_i w0 w1 w2 hs;refine (Any.strings_Split Tryz.lays146 (by kernel_rfl) x ⟨#[32]⟩ m w (by omega) hm (by decide)).mono ?_
   rintro e w' ⟨rfl, rfl⟩
   have hn : Lib.countB x ⟨#[32]⟩ + 1 = 3 := by
    have := Lib.splitB_all ⟨#[32]⟩ (by decide) 0 _ x rfl;rw [hs] at this;exact this.symm
   rw [hs, hn]
   cases hq : ((w0.data.toList == [99, 104, 97, 114, 103, 101]) && (w1.data.toList == [75, 49])) with
   | false => rw [hq] at hst; cases hst
   | true =>
    rw [hq, cond_true] at hst;have ht := Option.some.inj hst;subst ht;simp only [Bool.and_eq_true, beq_iff_eq] at hq;obtain rfl := xEM hq.1;obtain rfl := xEM hq.2;exact xBL hh (l := [.sc (.string ⟨#[99, 104, 97, 114, 103, 101]⟩), .sc (.string ⟨#[75, 49]⟩), .sc (.string w2)]) (vs := [.string ⟨#[99, 104, 97, 114, 103, 101]⟩, .string ⟨#[75, 49]⟩, .string w2]) (fun ρ => ⟨_, _, rfl, ⟨rfl, rfl⟩, _, _, rfl, ⟨rfl, rfl⟩, _, _, rfl, ⟨rfl, rfl⟩, rfl⟩) rfl (by simp) (by simp)
  ·cases hst
end
end
open Go.RowKit Go.Proofs
noncomputable section
def xAN (F : Nat) (s1 : ByteArray) : Option ((Int × Bool)) := (ob (bif (decide ((s1.size : Int) >= 1)) then (bif (inC 1 s1.size) then (bif ((ByteArray.toList.loop (ByteArray.extract s1 (0 : Int).toNat ((ByteArray.mk (List.toArray (45 :: []))).size : Int).toNat) 0 []) == (ByteArray.toList.loop (ByteArray.mk (List.toArray (45 :: []))) 0 [])) then (bif (inC (s1.size : Int) s1.size) then (bif (inC 1 (s1.size : Int).toNat) then (some (s1, (ByteArray.extract s1 1 (s1.size : Int).toNat))) else none) else none) else (some (s1, s1))) else none) else (some (s1, s1))) (fun s2 => (ob (bif (decide ((s2.2.size : Int) < 1)) then (some (s2.1, true)) else (bif (decide ((s2.2.size : Int) > 16)) then (some (s2.1, true)) else (ob (xId F s2.2 (ByteArray.mk (Array.mk (48 :: (49 :: (50 :: (51 :: (52 :: (53 :: (54 :: (55 :: (56 :: (57 :: []))))))))))))) (fun r => (bif (!((ByteArray.toList.loop (FSch.a (Ent.Out (trim_E F)) r) 0 []) == (ByteArray.toList.loop (ByteArray.mk (List.toArray [])) 0 []))) then (some (s2.1, true)) else (bif (inB 0 s2.2.size) then (bif ((bAt s2.2 0) == 48) then (some (s2.1, (!((ByteArray.toList.loop s2.1 0 []) == (ByteArray.toList.loop (ByteArray.mk (List.toArray (48 :: []))) 0 []))))) else (some (s2.1, false))) else none)))))) (fun s3 => (bif s3.2 then (some ((0 : Int), false)) else (ob (xHt F s3.1) (fun r1 => (some (r1.1, true)))))))))
abbrev xKo : Sch := ⟨[(0, .c (.t .str))], []⟩
abbrev xKn : FSch := ⟨.tu [(false, [.i]), (false, [.t .bool])], []⟩
def xSj (F : Nat) : Ent := ⟨172, 1, xKo, xKn, fun s => xAN F s, []⟩
theorem xOW (F : Nat) : FnSem Tryz.prog 172 1 xKo xKn (fun s => xAN F s) :=
 fK (an := (.two .no (.two (.join [(.normal, ⟨[(0, .c (.t .str)), (4, .c (.t .str))], []⟩)] .no) (.two (.two (.join [(.normal, ⟨[(0, .c (.t .str)), (30, .c (.t .bool))], []⟩)] .no) .no) .no)))) (xGn F) (⟨trivial, ⟨trivial, ⟨⟨trivial, trivial⟩, trivial⟩⟩⟩)
def xKm (F : Nat) : List Ent := xSj F :: sh_T F
theorem xFw (F : Nat) : xAf Tryz.prog (xKm F) := ⟨⟨by kernel_rfl, xOW F⟩, xGn F⟩
def xAR (F : Nat) (s1 : ByteArray) : Option (((Int × Int) × Bool)) := (ob (xMr F s1 B_3) (fun r => (ob (bif (!r.2.2) then (some ((r.1, r.1), ((0 : Int), (0 : Int)))) else (some ((r.1, r.2.1), ((0 : Int), (0 : Int))))) (fun s2 => (ob (xAN F s2.1.1) (fun r1 => (ob (xAN F s2.1.2) (fun r2 => (bif r1.2 then (some ((r1.1, r2.1), r2.2)) else (some ((r1.1, r2.1), false)))))))))))
abbrev xMQ : Sch := ⟨[(0, .c (.t .str))], []⟩
abbrev xMP : FSch := ⟨.tu [(true, [.t (.pair .i .i)]), (false, [.t .bool])], []⟩
def xTJ (F : Nat) : Ent := ⟨173, 1, xMQ, xMP, fun s => xAR F s, []⟩
theorem xSi (F : Nat) : FnSem Tryz.prog 173 1 xMQ xMP (fun s => xAR F s) :=
 fK (an := (.two .no (.two .no (.two (.join [(.normal, ⟨[(2, .c (.k (.pt 0 0 0 0))), (4, .c (.t .str)), (5, .c (.t .str))], [K_31]⟩)] .no) .no)))) (xFw F) (⟨trivial, ⟨trivial, ⟨trivial, trivial⟩⟩⟩)
def xMO (F : Nat) : List Ent := xTJ F :: xKm F
theorem xGY (F : Nat) : xAf Tryz.prog (xMO F) := ⟨⟨by kernel_rfl, xSi F⟩, xFw F⟩
end
noncomputable section
def xDt (F : Nat) (n : Int) (least : Int) (most : Int) : Option (Bool) := (bif (decide (n >= least)) then (some (decide (n <= most))) else (some false))
abbrev xP8 : Sch := ⟨[(0, .c .i), (1, .c .i), (2, .c .i)], []⟩
abbrev xP7 : FSch := ⟨.one (.c (.t .bool)), []⟩
def xYg (F : Nat) : Ent := ⟨63, 3, xP8, xP7, fun s => xDt F s.1 s.2.1 s.2.2, []⟩
theorem xTp (F : Nat) : FnSem Tryz.prog 63 3 xP8 xP7 (fun s => xDt F s.1 s.2.1 s.2.2) :=
 fK (an := .no) (xGY F) (trivial)
def xP6 (F : Nat) : List Ent := xYg F :: xMO F
theorem xIa (F : Nat) : xAf Tryz.prog (xP6 F) := ⟨⟨by kernel_rfl, xTp F⟩, xGY F⟩
def xFZ (F : Nat) (r : (Int × Int)) (most : Int) : Option (Bool) := (bif (decide (0 <= r.1)) then (bif (decide (r.1 <= r.2)) then (some (decide (r.2 <= most))) else (some false)) else (some false))
abbrev xN5 : Sch := ⟨[(0, .ag [.t (.pair .i .i)]), (1, .c .i)], []⟩
abbrev xN4 : FSch := ⟨.one (.c (.t .bool)), []⟩
def xV7 (F : Nat) : Ent := ⟨108, 2, xN5, xN4, fun s => xFZ F s.1 s.2, []⟩
theorem xSV (F : Nat) : FnSem Tryz.prog 108 2 xN5 xN4 (fun s => xFZ F s.1 s.2) :=
 fK (an := .no) (xIa F) (trivial)
def xN3 (F : Nat) : List Ent := xV7 F :: xP6 F
theorem xG9 (F : Nat) : xAf Tryz.prog (xN3 F) := ⟨⟨by kernel_rfl, xSV F⟩, xIa F⟩
def xEk (F : Nat) (r : (Int × Int)) : Option (Bool) := (ob (xFZ F r 100000000) (fun r1 => (some (!r1))))
abbrev xXU : Sch := ⟨[(0, .ag [.t (.pair .i .i)])], []⟩
abbrev xXT : FSch := ⟨.one (.c (.t .bool)), []⟩
def areB1_E (F : Nat) : Ent := ⟨136, 1, xXU, xXT, fun s => xEk F s, []⟩
theorem yAi (F : Nat) : FnSem Tryz.prog 136 1 xXU xXT (fun s => xEk F s) :=
 fK (an := .no) (xG9 F) (trivial)
def xXS (F : Nat) : List Ent := areB1_E F :: xN3 F
theorem xGP (F : Nat) : xAf Tryz.prog (xXS F) := ⟨⟨by kernel_rfl, yAi F⟩, xG9 F⟩
abbrev ixRg_n : Nat := 2
def xL9 (F : Nat) (t7 : Int) (g0 : (List (Int × Int))) : Nat -> Int -> Option ((Int × (List (Int × Int))) ⊕ (List (Int × Int)))
 | 0, _ => none
 | n_ + 1, t8 => (bif (decide (t8 < t7)) then (bif (inB t8 (g0.length - 0)) then (ob (xEk F (nth g0 D_0 t8.toNat)) (fun r => (bif r then (some (.inl (t8, g0))) else (xL9 F t7 g0 n_ (jI.wrap (t8 + 1)))))) else none) else (some (.inr g0)))
abbrev xN0 : Sch := ⟨[(0, .c (.k (.sl 0 2))), (1, .c (.k (.lit (.func (.func 136) ⟨[]⟩ ⟨[]⟩)))), (7, .c .i), (8, .c .i)], [.ro (.pair .i .i)]⟩
abbrev xN1 : xBO := [(.ret, ⟨[(4, .c .i)], [.ro (.pair .i .i)]⟩), ((.exit 0), ⟨[], [.ro (.pair .i .i)]⟩)]
theorem xSU (F : Nat) : ∀ n, xAW Tryz.prog 1 (xAA Tryz.prog 207 ixRg_n) (xAw (xAj Tryz.prog 207) [1, 0, 1, 0, 0]) xN0 xN1 (fun s => (xL9 F s.1.1 s.2 n s.1.2)) :=
 lK (an := .no) (xGP F) (trivial)
def xV2 (F : Nat) (s1 : (List (Int × Int))) : Option (Int) := (ob (xL9 F ((s1.length - 0) : Int) s1 F 0) (fun o_ => su o_ (fun s2 => (some s2.1)) (fun s3 => (some (-1 : Int)))))
abbrev ixRg_I : Sch := ⟨[(0, .c (.k (.sl 0 2))), (1, .c (.k (.lit (.func (.func 136) ⟨[]⟩ ⟨[]⟩))))], [.ro (.pair .i .i)]⟩
abbrev ixRg_O : FSch := ⟨.one (.c .i), [.dead]⟩
def ixRg_E (F : Nat) : Ent := ⟨207, 2, ixRg_I, ixRg_O, fun s => xV2 F s, []⟩
theorem ixRg_ok (F : Nat) : FnSem Tryz.prog 207 2 ixRg_I ixRg_O (fun s => xV2 F s) :=
 fK (an := (.two .no (.two (.two .no (.one (.loop xN0 xN1 (fun s => (xL9 F s.1.1 s.2 F s.1.2))))) .no))) (xGP F) (⟨trivial, ⟨⟨trivial, (xSU F F)⟩, trivial⟩⟩)
def ixRg_T (F : Nat) : List Ent := ixRg_E F :: xXS F
theorem xNZ (F : Nat) : xAf Tryz.prog (ixRg_T F) := ⟨⟨by kernel_rfl, ixRg_ok F⟩, xGP F⟩
def cfRg_S (F : Nat) (s1 : (List (Int × Int))) : Option (Bool) := (ob (xV2 F s1) (fun r => (some (decide (r >= 0)))))
abbrev cfRg_I : Sch := ⟨[(0, .c (.k (.sl 0 2))), (1, .c (.k (.lit (.func (.func 136) ⟨[]⟩ ⟨[]⟩))))], [.ro (.pair .i .i)]⟩
abbrev cfRg_O : FSch := ⟨.one (.c (.t .bool)), [.dead]⟩
def cfRg_E (F : Nat) : Ent := ⟨135, 2, cfRg_I, cfRg_O, fun s => cfRg_S F s, []⟩
theorem cfRg_ok (F : Nat) : FnSem Tryz.prog 135 2 cfRg_I cfRg_O (fun s => cfRg_S F s) :=
 fK (an := .no) (xNZ F) (trivial)
def cfRg_T (F : Nat) : List Ent := cfRg_E F :: ixRg_T F
theorem xON (F : Nat) : xAf Tryz.prog (cfRg_T F) := ⟨⟨by kernel_rfl, cfRg_ok F⟩, xNZ F⟩
def xCO (F : Nat) (b : T_0) : Option (Bool) := (ob (xEk F b.1) (fun r => (bif r then (some false) else (ob (xEk F b.2.1) (fun r1 => (bif r1 then (some false) else (ob (xEk F b.2.2) (fun r2 => (bif r2 then (some false) else (some true))))))))))
abbrev xJ2 : Sch := ⟨[(0, .ag [.t C_0])], []⟩
abbrev xJ1 : FSch := ⟨.one (.c (.t .bool)), []⟩
def xP0 (F : Nat) : Ent := ⟨64, 1, xJ2, xJ1, fun s => xCO F s, []⟩
theorem xOR (F : Nat) : FnSem Tryz.prog 64 1 xJ2 xJ1 (fun s => xCO F s) :=
 fK (an := .no) (xON F) (trivial)
def xJ0 (F : Nat) : List Ent := xP0 F :: cfRg_T F
theorem xEX (F : Nat) : xAf Tryz.prog (xJ0 F) := ⟨⟨by kernel_rfl, xOR F⟩, xON F⟩
def xFa (F : Nat) (l : (Int × (Int × (T_0 × Int)))) : Option (Bool) := (ob (xDt F l.1 0 1000) (fun r => (bif r then (ob (xDt F l.2.1 1 1000000) (fun r1 => (bif r1 then (ob (xCO F l.2.2.1) (fun r2 => (bif r2 then (ob (xDt F l.2.2.2 0 1000000) (fun r3 => (some r3))) else (some false)))) else (some false)))) else (some false))))
abbrev xWc : Sch := ⟨[(0, .ag [.t (.pair .i (.pair .i (.pair C_0 .i)))])], []⟩
abbrev xWb : FSch := ⟨.one (.c (.t .bool)), []⟩
def isLot_E (F : Nat) : Ent := ⟨30, 1, xWc, xWb, fun s => xFa F s, []⟩
theorem xZK (F : Nat) : FnSem Tryz.prog 30 1 xWc xWb (fun s => xFa F s) :=
 fK (an := .no) (xEX F) (trivial)
def xWa (F : Nat) : List Ent := isLot_E F :: xJ0 F
theorem xK2 (F : Nat) : xAf Tryz.prog (xWa F) := ⟨⟨by kernel_rfl, xZK F⟩, xEX F⟩
def put_S (F : Nat) (l : (Int × (Int × (T_0 × Int)))) (n : Int) (p : (Int × T_0)) : Option ((Int × T_0)) := (some ((jI.wrap (p.1 + (jI.wrap (n * l.2.1)))), (((jI.wrap (p.2.1.1 + (jI.wrap (n * l.2.2.1.1.1)))), (jI.wrap (p.2.1.2 + (jI.wrap (n * l.2.2.1.1.2))))), (((jI.wrap (p.2.2.1.1 + (jI.wrap (n * l.2.2.1.2.1.1)))), (jI.wrap (p.2.2.1.2 + (jI.wrap (n * l.2.2.1.2.1.2))))), ((jI.wrap (p.2.2.2.1 + (jI.wrap (n * l.2.2.1.2.2.1)))), (jI.wrap (p.t4 + (jI.wrap (n * l.2.2.1.2.2.2)))))))))
abbrev put_I : Sch := ⟨[(0, .c (.k (.pt 0 0 0 0))), (1, .ag [.t (.pair .i (.pair .i (.pair C_0 .i)))]), (2, .c .i)], [xTg]⟩
abbrev put_O : FSch := ⟨.tu [], [xTg]⟩
def put_E (F : Nat) : Ent := ⟨50, 3, put_I, put_O, fun s => put_S F s.1.1 s.1.2 s.2, []⟩
theorem put_ok (F : Nat) : FnSem Tryz.prog 50 3 put_I put_O (fun s => put_S F s.1.1 s.1.2 s.2) :=
 fK (an := .no) (xK2 F) (trivial)
def put_T (F : Nat) : List Ent := put_E F :: xWa F
theorem xQJ (F : Nat) : xAf Tryz.prog (put_T F) := ⟨⟨by kernel_rfl, put_ok F⟩, xK2 F⟩
def xKJ (F : Nat) (ar0 : T_3) (ar1 : T_5) : Option ((T_3 × (T_5 × (T_1 × (List (Int × Nat)))))) := (some (ar0, ar1, ((0 : Int), ((0 : Int), ((0 : Int), ((0 : Int), ((0 : Int), ((0 : Int), (0 : Int))))))), []))
abbrev xKL : Sch := ⟨[], [K_9, K_2]⟩
abbrev xKK : FSch := ⟨.one (.c (.k (.pt 4 0 0 0))), [.dead, .dead, K_9, K_2, .blk 117 [.k (.hv 5), .i, .i, .i, .i, .i, .i, .i], K_4]⟩
def xSG (F : Nat) : Ent := ⟨9, 0, xKL, xKK, fun s => xKJ F s.1 s.2, []⟩
theorem xPp (F : Nat) : FnSem Tryz.prog 9 0 xKL xKK (fun s => xKJ F s.1 s.2) :=
 fK (an := .no) (xQJ F) (trivial)
def xKI (F : Nat) : List Ent := xSG F :: put_T F
theorem xFO (F : Nat) : xAf Tryz.prog (xKI F) := ⟨⟨by kernel_rfl, xPp F⟩, xQJ F⟩
def add_S (F : Nat) (l : (Int × (Int × (T_0 × Int)))) (bfr : Nat) (s1 : (Int × T_0)) (sl_ : (List (Int × Nat))) (ar0 : T_3) (ar1 : T_5) : Option (((Int × Int) × (T_1 × ((List (Int × Nat)) × (T_3 × T_5))))) := (bif (decide ((sl_.length : Int) >= 200)) then (some (((0 : Int), (8 : Int)), ((f7 s1), sl_, ar0, ar1))) else (some (((jI.wrap ((sl_.length : Int) + 1)), (0 : Int)), ((f7 s1), (xF2 (KK.i jI) (jI.wrap ((sl_.length : Int) + 1)) (ar0.length + 1) sl_), (ar0 ++ ((l, bfr) :: [])), ar1))))
abbrev add_I : Sch := ⟨[(0, .c (.k (.pt 0 0 0 0))), (1, .ag [.t (.pair .i (.pair .i (.pair C_0 .i)))]), (2, .ag [.t (.rf 2 1)])], [K_29, K_4, K_9, K_2]⟩
abbrev add_O : FSch := ⟨.tu [(false, [.i]), (false, [.i])], [xTh, K_4, .dead, .dead, K_9, K_2]⟩
def add_E (F : Nat) : Ent := ⟨33, 3, add_I, add_O, fun s => add_S F s.1.1 s.1.2 s.2.1 s.2.2.1 s.2.2.2.1 s.t4, []⟩
theorem add_ok (F : Nat) : FnSem Tryz.prog 33 3 add_I add_O (fun s => add_S F s.1.1 s.1.2 s.2.1 s.2.2.1 s.2.2.2.1 s.t4) :=
 fK (an := .no) (xFO F) (trivial)
def add_T (F : Nat) : List Ent := add_E F :: xKI F
theorem xSf (F : Nat) : xAf Tryz.prog (add_T F) := ⟨⟨by kernel_rfl, add_ok F⟩, xFO F⟩
def xD7 (F : Nat) (l : (Int × (Int × (T_0 × Int)))) (s1 : (Int × T_0)) (sl_ : (List (Int × Nat))) (ar0 : T_3) (ar1 : T_5) : Option (((Int × Int) × (T_1 × ((List (Int × Nat)) × (T_3 × T_5))))) := (ob (xFa F l) (fun r => (bif (!r) then (some (((0 : Int), (2 : Int)), ((f7 s1), sl_, ar0, ar1))) else (bif (l.1 == 0) then (some (((0 : Int), (2 : Int)), ((f7 s1), sl_, ar0, ar1))) else (bif (decide ((sl_.length : Int) >= 200)) then (some (((0 : Int), (8 : Int)), ((f7 s1), sl_, ar0, ar1))) else (some (((jI.wrap ((sl_.length : Int) + 1)), (0 : Int)), ((f7 s1), (xF2 (KK.i jI) (jI.wrap ((sl_.length : Int) + 1)) (ar0.length + 1) sl_), (ar0 ++ ((l, 0) :: [])), ar1))))))))
abbrev xNr : Sch := ⟨[(0, .c (.k (.pt 0 0 0 0))), (1, .ag [.t (.pair .i (.pair .i (.pair C_0 .i)))])], [K_29, K_4, K_9, K_2]⟩
abbrev xNq : FSch := ⟨.tu [(false, [.i]), (false, [.i])], [xTh, K_4, .dead, .dead, K_9, K_2]⟩
def xUy (F : Nat) : Ent := ⟨15, 2, xNr, xNq, fun s => xD7 F s.1 s.2.1 s.2.2.1 s.2.2.2.1 s.t4, []⟩
theorem xSC (F : Nat) : FnSem Tryz.prog 15 2 xNr xNq (fun s => xD7 F s.1 s.2.1 s.2.2.1 s.2.2.2.1 s.t4) :=
 fK (an := .no) (xSf F) (trivial)
def xNp (F : Nat) : List Ent := xUy F :: add_T F
theorem xGZ (F : Nat) : xAf Tryz.prog (xNp F) := ⟨⟨by kernel_rfl, xSC F⟩, xSf F⟩
def xWx (F : Nat) (number : Int) (s1 : (Int × T_0)) (sl_ : (List (Int × Nat))) (ar0 : T_3) (ar1 : T_5) : Option (((Nat × Int) × (T_1 × ((List (Int × Nat)) × (T_3 × T_5))))) := (bif (Nat.beq (xAI (KK.i jI) 0 number sl_) 0) then (some ((0, (7 : Int)), ((f7 s1), sl_, ar0, ar1))) else (some (((xAI (KK.i jI) 0 number sl_), (0 : Int)), ((f7 s1), sl_, ar0, ar1))))
abbrev find_I : Sch := ⟨[(0, .c (.k (.pt 0 0 0 0))), (1, .c .i)], [K_29, K_4, K_9, K_2]⟩
abbrev find_O : FSch := ⟨.tu [(false, [.t (.rf 0 0)]), (false, [.i])], [xTh, K_4, .dead, .dead, K_9, K_2]⟩
def find_E (F : Nat) : Ent := ⟨37, 2, find_I, find_O, fun s => xWx F s.1 s.2.1 s.2.2.1 s.2.2.2.1 s.t4, []⟩
theorem find_ok (F : Nat) : FnSem Tryz.prog 37 2 find_I find_O (fun s => xWx F s.1 s.2.1 s.2.2.1 s.2.2.2.1 s.t4) :=
 fK (an := .no) (xGZ F) (trivial)
def find_T (F : Nat) : List Ent := find_E F :: xNp F
theorem xOj (F : Nat) : xAf Tryz.prog (find_T F) := ⟨⟨by kernel_rfl, find_ok F⟩, xGZ F⟩
def xUk (F : Nat) (number : Int) (s1 : (Int × T_0)) (sl_ : (List (Int × Nat))) (ar0 : T_3) (ar1 : T_5) : Option ((((Int × (Int × (T_0 × Int))) × Int) × (T_1 × ((List (Int × Nat)) × (T_3 × T_5))))) := (ob (xWx F number s1 sl_ ar0 ar1) (fun r => (bif (r.1.2 != 0) then (some ((((0 : Int), ((0 : Int), ((((0 : Int), (0 : Int)), (((0 : Int), (0 : Int)), ((0 : Int), (0 : Int)))), (0 : Int)))), r.1.2), ((r.2.1.1, (r.2.1.2.1, (r.2.1.2.2.1, (r.2.1.2.2.2.1, (r.2.1.t4))))), r.2.2))) else (bif (!(Nat.beq r.1.1 0)) then (bif (!(Nat.beq r.1.1 0)) then (bif (inO r.1.1 r.2.2.2.1.length) then (some (((nth r.2.2.2.1 (TC.dflt C_3) (r.1.1 - 1)).1, (0 : Int)), ((r.2.1.1, (r.2.1.2.1, (r.2.1.2.2.1, (r.2.1.2.2.2.1, (r.2.1.t4))))), r.2.2))) else none) else none) else none))))
abbrev sLot_I : Sch := ⟨[(0, .c (.k (.pt 0 0 0 0))), (1, .c .i)], [K_29, K_4, K_9, K_2]⟩
abbrev sLot_O : FSch := ⟨.tu [(true, [.t (.pair .i (.pair .i (.pair C_0 .i)))]), (false, [.i])], [xTh, K_4, .dead, .dead, K_9, K_2]⟩
def sLot_E (F : Nat) : Ent := ⟨16, 2, sLot_I, sLot_O, fun s => xUk F s.1 s.2.1 s.2.2.1 s.2.2.2.1 s.t4, []⟩
theorem sLot_ok (F : Nat) : FnSem Tryz.prog 16 2 sLot_I sLot_O (fun s => xUk F s.1 s.2.1 s.2.2.1 s.2.2.2.1 s.t4) :=
 fK (an := .no) (xOj F) (trivial)
def sLot_T (F : Nat) : List Ent := sLot_E F :: find_T F
theorem xNi (F : Nat) : xAf Tryz.prog (sLot_T F) := ⟨⟨by kernel_rfl, sLot_ok F⟩, xOj F⟩
end
noncomputable section
def newW_S (F : Nat) (ar0 : T_3) (ar1 : T_5) (ar2 : T_4) (ar3 : T_8) (ar4 : T_7) : Option ((T_4 × (T_8 × (T_7 × (T_3 × (T_5 × (T_1 × ((List (ByteArray × Nat)) × ((List (ByteArray × Nat)) × (List (Int × Nat))))))))))) := (some (ar2, ar3, ar4, ar0, ar1, ((0 : Int), ((0 : Int), ((0 : Int), ((0 : Int), ((0 : Int), ((0 : Int), (0 : Int))))))), [], [], []))
abbrev newW_I : Sch := ⟨[], [K_9, K_2, xC9, xC8, xDa]⟩
abbrev newW_O : FSch := ⟨.one (.c (.k (.pt 10 0 0 0))), [.dead, .dead, .dead, .dead, .dead, xC9, xC8, xDa, K_9, K_2, .blk 114 [.k (.pt 11 0 0 0), .k (.hv 12), .k (.hv 13), .k (.lit (.slice none 0 0)), .k (.lit (.slice none 0 0)), .k (.lit (.slice none 0 0)), .k (.lit (.pointer none))], .blk 117 [.k (.hv 14), .i, .i, .i, .i, .i, .i, .i], K_3, K_3, K_4]⟩
def newW_E (F : Nat) : Ent := ⟨8, 0, newW_I, newW_O, fun s => newW_S F s.1 s.2.1 s.2.2.1 s.2.2.2.1 s.t4, []⟩
theorem xU3 (F : Nat) : FnSem Tryz.prog 8 0 newW_I newW_O (fun s => newW_S F s.1 s.2.1 s.2.2.1 s.2.2.2.1 s.t4) :=
 fK (an := .no) (xNi F) (trivial)
def xU4 (F : Nat) : List Ent := newW_E F :: sLot_T F
theorem xFN (F : Nat) : xAf Tryz.prog (xU4 F) := ⟨⟨by kernel_rfl, xU3 F⟩, xNi F⟩
end
noncomputable section
def lot0_T (F : Nat) : List Ent := xYG F :: xU4 F
theorem xNL (F : Nat) : xAf Tryz.prog (lot0_T F) := ⟨⟨by kernel_rfl, xT5 F⟩, xFN F⟩
end
noncomputable section
def xDk (F : Nat) (s1 : ByteArray) (ws : (Int × T_0)) (wl : (List (Int × Nat))) (wi : (List (ByteArray × Nat))) (ww : (List (ByteArray × Nat))) (ar0 : T_3) (ar1 : T_5) (ar2 : T_4) (ar3 : T_8) (ar4 : T_7) : Option (((ByteArray × Int) × (T_1 × ((List (Int × Nat)) × ((List (ByteArray × Nat)) × ((List (ByteArray × Nat)) × (T_3 × (T_5 × (T_4 × (T_8 × T_7)))))))))) := (bif (decide ((s1.size : Int) > 2000)) then (some ((B_1, (5 : Int)), ((f7 ws), wl, wi, ww, ar0, ar1, ar2, ar3, ar4))) else (ob (xBd F s1) (fun r => (ob (xAN F (nth ((ByteArray.mk (Array.mk (108 :: (111 :: (116 :: []))))) :: (r.1 :: (r.2.1 :: (r.2.2.1 :: (r.2.2.2 :: []))))) B_1 1)) (fun r1 => (bif (!r1.2) then (some ((B_1, (4 : Int)), ((f7 ws), wl, wi, ww, ar0, ar1, ar2, ar3, ar4))) else (ob (xAN F (nth ((ByteArray.mk (Array.mk (108 :: (111 :: (116 :: []))))) :: (r.1 :: (r.2.1 :: (r.2.2.1 :: (r.2.2.2 :: []))))) B_1 2)) (fun r2 => (bif (!r2.2) then (some ((B_1, (4 : Int)), ((f7 ws), wl, wi, ww, ar0, ar1, ar2, ar3, ar4))) else (ob (xCi F (nth ((ByteArray.mk (Array.mk (108 :: (111 :: (116 :: []))))) :: (r.1 :: (r.2.1 :: (r.2.2.1 :: (r.2.2.2 :: []))))) B_1 3) (ByteArray.mk (Array.mk (47 :: [])))) (fun r3 => (bif (((r3.length - 0) : Int) != 3) then (some ((B_1, (4 : Int)), ((f7 ws), wl, wi, ww, ar0, ar1, ar2, ar3, ar4))) else (bif (inB 0 (r3.length - 0)) then (ob (xAR F (nth r3 (TC.dflt .str) 0)) (fun r4 => (bif (!r4.2) then (some ((B_1, (4 : Int)), ((f7 ws), wl, wi, ww, ar0, ar1, ar2, ar3, ar4))) else (bif (inB 1 (r3.length - 0)) then (ob (xAR F (nth r3 (TC.dflt .str) 1)) (fun r5 => (bif (!r5.2) then (some ((B_1, (4 : Int)), ((f7 ws), wl, wi, ww, ar0, ar1, ar2, ar3, ar4))) else (bif (inB 2 (r3.length - 0)) then (ob (xAR F (nth r3 (TC.dflt .str) 2)) (fun r6 => (bif (!r6.2) then (some ((B_1, (4 : Int)), ((f7 ws), wl, wi, ww, ar0, ar1, ar2, ar3, ar4))) else (ob (xAN F (nth ((ByteArray.mk (Array.mk (108 :: (111 :: (116 :: []))))) :: (r.1 :: (r.2.1 :: (r.2.2.1 :: (r.2.2.2 :: []))))) B_1 4)) (fun r7 => (bif (!r7.2) then (some ((B_1, (4 : Int)), ((f7 ws), wl, wi, ww, ar0, ar1, ar2, ar3, ar4))) else (ob (xD7 F ((nth (((r1.1 :: []) ++ (r2.1 :: [])) ++ (r7.1 :: [])) 0 0), ((nth (((r1.1 :: []) ++ (r2.1 :: [])) ++ (r7.1 :: [])) 0 1), ((nth ((r4.1, (r5.1, r6.1)) :: []) (TC.dflt C_0) 0), (nth (((r1.1 :: []) ++ (r2.1 :: [])) ++ (r7.1 :: [])) 0 2)))) ws wl ar0 ar1) (fun r8 => (ob (xA6 F r8.1.1) (fun r9 => (bif (r8.1.2 != 0) then (some ((B_1, r8.1.2), ((r8.2.1.1, (r8.2.1.2.1, (r8.2.1.2.2.1, (r8.2.1.2.2.2.1, (r8.2.1.t4))))), r8.2.2.1, wi, ww, r8.2.2.2.1, r8.t4, ar2, ar3, ar4))) else (some ((r9, (0 : Int)), ((r8.2.1.1, (r8.2.1.2.1, (r8.2.1.2.2.1, (r8.2.1.2.2.2.1, (r8.2.1.t4))))), r8.2.2.1, wi, ww, r8.2.2.2.1, r8.t4, ar2, ar3, ar4)))))))))))))) else none)))) else none)))) else none)))))))))))))
abbrev xI7 : Sch := H_0
abbrev xI6 : FSch := ⟨.tu [(false, [.t .str]), (false, [.i])], [K_0, K_7, K_4, K_3, K_3, .dead, .dead, .dead, .dead, .dead, K_9, K_2, xC9, xC8, xDa]⟩
def xEd (F : Nat) : Ent := ⟨13, 2, xI7, xI6, fun s => xDk F s.1 s.2.1 s.2.2.1 s.2.2.2.1 s.t4.1 s.t5.1 s.t6.1 s.t7.1 s.t8.1 s.t9, []⟩
theorem xKX (F : Nat) : FnSem Tryz.prog 13 2 xI7 xI6 (fun s => xDk F s.1 s.2.1 s.2.2.1 s.2.2.2.1 s.t4.1 s.t5.1 s.t6.1 s.t7.1 s.t8.1 s.t9) :=
 fK (an := .no) (xNL F) (trivial)
def xNO (F : Nat) : List Ent := xEd F :: lot0_T F
theorem xG6 (F : Nat) : xAf Tryz.prog (xNO F) := ⟨⟨by kernel_rfl, xKX F⟩, xNL F⟩
end
end Go.Proofs.YtnomnijhlbalaaaGreatDoor
