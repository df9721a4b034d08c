/- A part of the proof of the theorem of the last file. No condition. By an AI agent. -/
import Derived.Test.YtnomnijhlbalaaaGreatDoorWLT0
import Derived.Deep.Slices
import Derived.Deep.Fields
import Derived.ChangeSame
import Derived.OpenShut
import Derived.ShutString
import Derived.ChangeOld
import Derived.ProofKit
set_option maxRecDepth 100000
set_option maxHeartbeats 4000000
set_option maxRecDepth 1000000
namespace Go.Proofs.YtnomnijhlbalaaaGreatDoor
open Go.RowKit Go.Proofs
noncomputable section
def xC1 (F : Nat) (r : (Int × Int)) : Option (ByteArray) := (ob (xBJ F r.1) (fun r1 => (bif (decide ((r1.size + 2) <= 1000000)) then (ob (xBJ F r.2) (fun r2 => (bif (decide (((r1 ++ (ByteArray.mk (Array.mk (46 :: (46 :: []))))).size + r2.size) <= 1000000)) then (some ((r1 ++ (ByteArray.mk (Array.mk (46 :: (46 :: []))))) ++ r2)) else none))) else none)))
abbrev xPi : Sch := ⟨[(0, .ag [.t (.pair .i .i)])], []⟩
abbrev xPh : FSch := ⟨.one (.c (.t .str)), []⟩
def xPj (F : Nat) : Ent := ⟨19, 1, xPi, xPh, fun s => xC1 F s, []⟩
theorem xL4 (F : Nat) : FnSem Tryz.prog 19 1 xPi xPh (fun s => xC1 F s) :=
 fK (an := .no) (xO5 F) (trivial)
def xPg (F : Nat) : List Ent := xPj F :: txt_T F
theorem xH3 (F : Nat) : xAj Tryz.prog (xPg F) := ⟨⟨by kernel_rfl, xL4 F⟩, xO5 F⟩
def xES (F : Nat) (b : T_0) : Option (ByteArray) := (ob (xC1 F b.1) (fun r => (bif (decide ((r.size + 1) <= 1000000)) then (ob (xC1 F b.2.1) (fun r1 => (bif (decide (((r ++ (ByteArray.mk (Array.mk (47 :: [])))).size + r1.size) <= 1000000)) then (bif (decide ((((r ++ (ByteArray.mk (Array.mk (47 :: [])))) ++ r1).size + 1) <= 1000000)) then (ob (xC1 F b.2.2) (fun r2 => (bif (decide (((((r ++ (ByteArray.mk (Array.mk (47 :: [])))) ++ r1) ++ (ByteArray.mk (Array.mk (47 :: [])))).size + r2.size) <= 1000000)) then (some ((((r ++ (ByteArray.mk (Array.mk (47 :: [])))) ++ r1) ++ (ByteArray.mk (Array.mk (47 :: [])))) ++ r2)) else none))) else none) else none))) else none)))
abbrev xQJ : Sch := ⟨[(0, .ag [.t C_0])], []⟩
abbrev xQI : FSch := ⟨.one (.c (.t .str)), []⟩
def xQK (F : Nat) : Ent := ⟨11, 1, xQJ, xQI, fun s => xES F s, []⟩
theorem xNC (F : Nat) : FnSem Tryz.prog 11 1 xQJ xQI (fun s => xES F s) :=
 fK (an := .no) (xH3 F) (trivial)
def xQH (F : Nat) : List Ent := xQK F :: xPg F
theorem xIZ (F : Nat) : xAj Tryz.prog (xQH F) := ⟨⟨by kernel_rfl, xNC F⟩, xH3 F⟩
def xDL (F : Nat) (b : T_0) : Option (Bool) := (bif (decide (b.1.1 < (-1000000000000 : Int))) then (some false) else (bif (decide (b.1.1 > 1000000000000)) then (some false) else (bif (decide (b.1.2 < (-1000000000000 : Int))) then (some false) else (bif (decide (b.1.2 > 1000000000000)) then (some false) else (bif (decide (b.2.1.1 < (-1000000000000 : Int))) then (some false) else (bif (decide (b.2.1.1 > 1000000000000)) then (some false) else (bif (decide (b.2.1.2 < (-1000000000000 : Int))) then (some false) else (bif (decide (b.2.1.2 > 1000000000000)) then (some false) else (bif (decide (b.2.2.1 < (-1000000000000 : Int))) then (some false) else (bif (decide (b.2.2.1 > 1000000000000)) then (some false) else (bif (decide (b.2.2.2 < (-1000000000000 : Int))) then (some false) else (bif (decide (b.2.2.2 > 1000000000000)) then (some false) else (some true)))))))))))))
abbrev xSR : Sch := ⟨[(0, .ag [.t C_0])], []⟩
abbrev xSQ : FSch := ⟨.one (.c (.t .bool)), []⟩
def xSS (F : Nat) : Ent := ⟨6, 1, xSR, xSQ, fun s => xDL F s, []⟩
theorem xPr (F : Nat) : FnSem Tryz.prog 6 1 xSR xSQ (fun s => xDL F s) :=
 fK (an := .no) (xIZ F) (trivial)
def xSP (F : Nat) : List Ent := xSS F :: xQH F
theorem xJv (F : Nat) : xAj Tryz.prog (xSP F) := ⟨⟨by kernel_rfl, xPr F⟩, xIZ F⟩
def xL0 (F : Nat) (l : (List (Int × (Int × T_0)))) : Option ((List (Int × (Int × T_0)))) := (bif (xAR 0 l.length) then (some ([] ++ l)) else none)
abbrev xL2 : Sch := ⟨[(0, .c (.k (.sl 0 8)))], [.ro C_3]⟩
abbrev xL1 : FSch := ⟨.one (.c (.k (.sl 1 8))), [.dead, .rows 77 C_3]⟩
def xSG (F : Nat) : Ent := ⟨24, 1, xL2, xL1, fun s => xL0 F s, []⟩
theorem xQ2 (F : Nat) : FnSem Tryz.prog 24 1 xL2 xL1 (fun s => xL0 F s) :=
 fK (an := .no) (xJv F) (trivial)
def xSF (F : Nat) : List Ent := xSG F :: xSP F
theorem xGP (F : Nat) : xAj Tryz.prog (xSF F) := ⟨⟨by kernel_rfl, xQ2 F⟩, xJv F⟩
end
noncomputable section
abbrev xPd : Nat := 2
def xDJ (F : Nat) (s1 : ((Int × Int) × (T_1 × ((List (Int × Nat)) × ((List (ByteArray × Nat)) × (T_5 × (T_3 × (T_7 × (T_6 × (T_2 × (T_4 × ((Int × T_0) × (Int × T_0))))))))))))) (e : ((ByteArray × Nat))) : Option (((Int × Int) × (T_1 × ((List (Int × Nat)) × ((List (ByteArray × Nat)) × (T_5 × (T_3 × (T_7 × (T_6 × (T_2 × (T_4 × ((Int × T_0) × (Int × T_0)))))))))))) ⊕ (((Int × Int) × (T_1 × ((List (Int × Nat)) × ((List (ByteArray × Nat)) × (T_5 × (T_3 × (T_7 × (T_6 × (T_2 × (T_4 × ((Int × T_0) × (Int × T_0)))))))))))))) := (bif (!(Nat.beq e.2 0)) then (bif (!(Nat.beq e.2 0)) then (bif (inO e.2 s1.t5.1.length) then (bif (!(Nat.beq e.2 0)) then (bif (!(Nat.beq e.2 0)) then (bif (inO e.2 s1.t5.1.length) then (bif ((xCv s1.t6.1 (nth s1.t5.1 (TC.dflt C_2) (e.2 - 1)).2.1) && true) then (ob (xIh F (nth s1.t5.1 (TC.dflt C_2) (e.2 - 1)).1 (rowAt s1.t6.1 (nth s1.t5.1 (TC.dflt C_2) (e.2 - 1)).2.1)) (fun r1 => (bif (decide (0 < ((r1.2.length - 0) : Int))) then (bif (inB 0 (r1.2.length - 0)) then (bif (decide (1 < ((r1.2.length - 0) : Int))) then (bif (inB 1 (r1.2.length - 0)) then (bif (decide (2 < ((r1.2.length - 0) : Int))) then (bif (inB 2 (r1.2.length - 0)) then (bif (decide (3 < ((r1.2.length - 0) : Int))) then (bif (inB 3 (r1.2.length - 0)) then none else none) else (some (.inl (((jI.wrap (s1.1.1 + r1.1.1.1)), (jI.wrap ((jI.wrap ((jI.wrap (s1.1.2 + (nth r1.2 (TC.dflt (.pair .i C_0)) 0).1)) + (nth r1.2 (TC.dflt (.pair .i C_0)) 1).1)) + (nth r1.2 (TC.dflt (.pair .i C_0)) 2).1))), s1.2)))) else none) else (some (.inl (((jI.wrap (s1.1.1 + r1.1.1.1)), (jI.wrap ((jI.wrap (s1.1.2 + (nth r1.2 (TC.dflt (.pair .i C_0)) 0).1)) + (nth r1.2 (TC.dflt (.pair .i C_0)) 1).1))), s1.2)))) else none) else (some (.inl (((jI.wrap (s1.1.1 + r1.1.1.1)), (jI.wrap (s1.1.2 + (nth r1.2 (TC.dflt (.pair .i C_0)) 0).1))), s1.2)))) else none) else (some (.inl (((jI.wrap (s1.1.1 + r1.1.1.1)), s1.1.2), s1.2)))))) else none) else none) else none) else none) else none) else none) else none)
def xDI (F : Nat) (s1 : ((Int × Int) × (T_1 × ((List (Int × Nat)) × ((List (ByteArray × Nat)) × (T_5 × (T_3 × (T_7 × (T_6 × (T_2 × (T_4 × ((Int × T_0) × (Int × T_0))))))))))))) : Option (((Int × Int) × (T_1 × ((List (Int × Nat)) × ((List (ByteArray × Nat)) × (T_5 × (T_3 × (T_7 × (T_6 × (T_2 × (T_4 × ((Int × T_0) × (Int × T_0))))))))))))) := some (s1)
abbrev xCM : Sch := ⟨[(6, .c (.k (.pt 16 0 0 0))), (7, .c (.k (.pt 17 0 0 0))), (8, .c .i), (9, .c .i)], [K_0, K_6, K_3, .dead, K_4, K_25, .dead, .dead, .dead, .dead, .dead, xCz, xCy, xCA, K_1, K_2, xRX, xRX]⟩
abbrev xCN : xBY := [(.normal, ⟨[(6, .c (.k (.pt 16 0 0 0))), (7, .c (.k (.pt 17 0 0 0))), (8, .c .i), (9, .c .i)], [K_0, K_6, K_3, .dead, K_4, K_25, .dead, .dead, .dead, .dead, .dead, xCz, xCy, xCA, K_1, K_2, xRX, xRX]⟩)]
abbrev xE7 : RngC := xS8 (xBC (xAt (xAi Tryz.prog 94) [1, 1, 1, 0]))
theorem xLZ (F : Nat) : xF7 Tryz.prog 11 (xAv Tryz.prog 94 xPd) xE7 xCM xCN .s false (.rf 0 2) (xDJ F) (xDI F) :=
 xN7 (P := Tryz.prog) (m := 11) (N := xAv Tryz.prog 94 xPd) (R := xE7) (Sc := xCM) (o := xCN) (call := xCr Tryz.prog 4 plans (xST F) 20) (Fu := 4) (pl := (xFp plans 94)) (c := (xAt (xAi Tryz.prog 94) [1, 1, 1, 0])) (by kernel_rfl) (xA7 xAn 4 xBn (xMe F) 20) xAn (by kernel_rfl) (by kernel_rfl) (by kernel_rfl) (by kernel_rfl) (fun s e => by kernel_rfl) (fun s => by kernel_rfl)
def xKs (F : Nat) (ws : (Int × T_0)) (wl : (List (Int × Nat))) (wi : (List (ByteArray × Nat))) (ww : (List (ByteArray × Nat))) (x : (((Int × Int) × ((Int × Int) × ((Int × Int) × T_0))) × ByteArray)) (ar0 : T_2) (ar1 : T_4) (ar2 : T_3) (ar3 : T_7) (ar4 : T_6) : Option (((ByteArray × Int) × (T_1 × ((List (Int × Nat)) × ((List (ByteArray × Nat)) × ((List (ByteArray × Nat)) × (T_5 × (T_3 × (T_7 × (T_6 × (T_2 × T_4))))))))))) := (ob (xFx F ws wl ar0 ar1) (fun r => (xDj (fun (π : List ((ByteArray × Nat))) => (ob (xLH (S := xCM) (o := xCN) (V := .s) (U := (.rf 0 2)) (xDJ F) (xDI F) (((0 : Int), (0 : Int)), ((r.2.1.1, (r.2.1.2.1, (r.2.1.2.2.1, (r.2.1.2.2.2.1, (r.2.1.t4))))), r.2.2.1, ww, (x.1.1.1, (x.1.1.2, (x.1.2.1.1, (x.1.2.1.2, (x.1.2.2.1.1, (x.1.2.2.1.2, (x.1.2.2.2.1.1, (x.1.2.2.2.1.2, (x.1.t4.1.1, (x.1.t4.1.2, (x.1.t5.1, (x.1.t6, x.2)))))))))))), ar2, ar3, ar4, r.2.2.2.1, r.t4, r.1)) π) (fun s2 => (ob (xBT F s2.t9.2.1.1) (fun r2 => (ob (xBT F s2.t9.2.2.1) (fun r3 => (ob (xBT F s2.1.1) (fun r4 => (ob (xBT F s2.1.2) (fun r5 => (ob (xEs F B_0 (r2 :: (r3 :: (r4 :: (r5 :: []))))) (fun r6 => (some ((r6, (0 : Int)), (s2.2.1, s2.2.2.1, wi, s2.2.2.2.1, s2.t4.1, s2.t5.1, s2.t6.1, s2.t7.1, s2.t8.1, s2.t9.1)))))))))))))))) wi)))
abbrev xKu : Sch := ⟨[(0, .c (.k (.pt 0 0 0 0))), (1, .c (.k (.pt 5 0 0 0)))], [K_0, K_19, K_3, K_4, K_4, .blk 137 [.k (.lit (.slice none 0 0)), .k (.lit (.slice none 0 0)), .k (.lit (.slice none 0 0)), .t (.pair (.pair .i .i) (.pair (.pair .i .i) (.pair (.pair .i .i) C_0))), .k (.lit (.slice none 0 0)), .k (.lit (.slice none 0 0)), .t .str], K_1, K_2, xCz, xCy, xCA]⟩
abbrev xKt : FSch := ⟨.tu [(false, [.t .str]), (false, [.i])], [K_0, K_6, K_3, K_4, K_4, K_25, .dead, .dead, .dead, .dead, .dead, xCz, xCy, xCA, K_1, K_2]⟩
theorem xSu (F : Nat) : FnSem Tryz.prog 94 2 xKu xKt (fun s => xKs F s.1 s.2.1 s.2.2.1 s.2.2.2.1 s.t4.1 s.t5.1 s.t6.1 s.t7.1 s.t8.1 s.t9) :=
 xXr (call := xCr Tryz.prog 4 plans (xST F) 20) (Fu := 4) (pl := xFp plans 94) (d := 1000) (an := (.two .no (.two .no (.two .no (.two (.rng xCM xCN .s false (.rf 0 2) (xDJ F) (xDI F)) .no))))) (xA7 xAn 4 xBn (xMe F) 20) xAn (by kernel_rfl) (xD8 (c := xAi Tryz.prog 94) (p := []) (⟨trivial, ⟨trivial, ⟨trivial, ⟨(xOV (R := xE7) (by kernel_rfl) (xLZ F)), trivial⟩⟩⟩⟩)) (fun s => by kernel_rfl)
end
noncomputable section
def any1 {α β : Type} (f : List α -> Option β) : List α -> Option β
 | [x] => f [x]
 | _ => none
theorem xVS {α β : Type} {f : List α -> Option β} : ∀ {ts : List α} {r : β}, any1 f ts = some r -> xDj f ts = some r
 | [x], r, h => xGK fun π hp => by rw [List.perm_singleton.1 hp]; exact h
 | [], _, h => by cases h
 | _ :: _ :: _, _, h => by cases h
theorem FnSem.le {P : Program} {f n : Nat} {In : Sch} {Out : FSch} {s s' : In.ty -> Option Out.ty} (h : FnSem P f n In Out s) (hl : ∀ x y, s' x = some y -> s x = some y) : FnSem P f n In Out s' := fun x t hx => h x t (hl x t hx)
def xNS (F : Nat) (s1 : (Int × T_0)) (s_lots : (List (Int × Nat))) (ar0 : T_2) (ar1 : T_4) : Option ((((Int × T_0) × (Int × T_0)) × (T_1 × ((List (Int × Nat)) × (T_2 × T_4))))) := (any1 (fun (π : List ((Int × Nat))) => (ob (xLH (S := xBQ) (o := xBR) (V := (.i .i64)) (U := (.rf 0 0)) (xBm F) (xCg F) ((s1.1, (s1.2.1.1, (s1.2.1.2, (s1.2.2.1.1, (s1.2.2.1.2, s1.2.2.2))))), ar0, ar1, ((0 : Int), (((0 : Int), (0 : Int)), (((0 : Int), (0 : Int)), ((0 : Int), (0 : Int))))), ((0 : Int), (((0 : Int), (0 : Int)), (((0 : Int), (0 : Int)), ((0 : Int), (0 : Int)))))) π) (fun s3 => (some ((s3.2.2.2.1, (s3.1.1, ((s3.1.2.1, s3.1.2.2.1), ((s3.1.2.2.2.1, s3.1.2.2.2.2.1), s3.1.2.2.2.2.2)))), (s3.1, s_lots, s3.2.1, s3.2.2.1)))))) s_lots)
theorem xWq (F : Nat) {a b c d y} (h : xNS F a b c d = some y) : xFx F a b c d = some y := by
 unfold xNS at h;unfold xFx;exact xVS h
def xHs (F : Nat) (w_store : (Int × T_0)) (w_store_lots : (List (Int × Nat))) (w_ingots : (List (ByteArray × Nat))) (w_wafers : (List (ByteArray × Nat))) (x : (((Int × Int) × ((Int × Int) × ((Int × Int) × T_0))) × ByteArray)) (ar0 : T_2) (ar1 : T_4) (ar2 : T_3) (ar3 : T_7) (ar4 : T_6) : Option (((ByteArray × Int) × (T_1 × ((List (Int × Nat)) × ((List (ByteArray × Nat)) × ((List (ByteArray × Nat)) × (T_5 × (T_3 × (T_7 × (T_6 × (T_2 × T_4))))))))))) := (ob (xNS F w_store w_store_lots ar0 ar1) (fun r => (any1 (fun (π : List ((ByteArray × Nat))) => (ob (xLH (S := xCM) (o := xCN) (V := .s) (U := (.rf 0 2)) (xDJ F) (xDI F) (((0 : Int), (0 : Int)), ((r.2.1.1, (r.2.1.2.1, (r.2.1.2.2.1, (r.2.1.2.2.2.1, (r.2.1.2.2.2.2.1, (r.2.1.2.2.2.2.2.1, r.2.1.2.2.2.2.2.2)))))), r.2.2.1, w_wafers, (x.1.1.1, (x.1.1.2, (x.1.2.1.1, (x.1.2.1.2, (x.1.2.2.1.1, (x.1.2.2.1.2, (x.1.2.2.2.1.1, (x.1.2.2.2.1.2, (x.1.2.2.2.2.1.1, (x.1.2.2.2.2.1.2, (x.1.2.2.2.2.2.1, (x.1.2.2.2.2.2.2, x.2)))))))))))), ar2, ar3, ar4, r.2.2.2.1, r.2.2.2.2, r.1.1, r.1.2)) π) (fun s2 => (ob (xBT F s2.2.2.2.2.2.2.2.2.2.2.1.1) (fun r2 => (ob (xBT F s2.2.2.2.2.2.2.2.2.2.2.2.1) (fun r3 => (ob (xBT F s2.1.1) (fun r4 => (ob (xBT F s2.1.2) (fun r5 => (ob (xEs F B_0 (r2 :: (r3 :: (r4 :: (r5 :: []))))) (fun r6 => (some ((r6, (0 : Int)), (s2.2.1, s2.2.2.1, w_ingots, s2.2.2.2.1, s2.2.2.2.2.1, s2.2.2.2.2.2.1, s2.2.2.2.2.2.2.1, s2.2.2.2.2.2.2.2.1, s2.2.2.2.2.2.2.2.2.1, s2.2.2.2.2.2.2.2.2.2.1)))))))))))))))) w_ingots)))
theorem xSw (F : Nat) {w_store w_store_lots w_ingots w_wafers x ar0 ar1 ar2 ar3 ar4 y} (h : xHs F w_store w_store_lots w_ingots w_wafers x ar0 ar1 ar2 ar3 ar4 = some y) : xKs F w_store w_store_lots w_ingots w_wafers x ar0 ar1 ar2 ar3 ar4 = some y := by
 unfold xHs at h;obtain ⟨r, h1, h2⟩ := xDt h;unfold xKs;rw [xWq F h1];exact xVS h2
def xWr (F : Nat) : Ent := ⟨94, 2, xKu, xKt, fun s => xHs F s.1 s.2.1 s.2.2.1 s.2.2.2.1 s.2.2.2.2.1 s.2.2.2.2.2.1 s.2.2.2.2.2.2.1 s.2.2.2.2.2.2.2.1 s.2.2.2.2.2.2.2.2.1 s.2.2.2.2.2.2.2.2.2, []⟩
theorem xSv (F : Nat) : FnSem Tryz.prog 94 2 xKu xKt (fun s => xHs F s.1 s.2.1 s.2.2.1 s.2.2.2.1 s.2.2.2.2.1 s.2.2.2.2.2.1 s.2.2.2.2.2.2.1 s.2.2.2.2.2.2.2.1 s.2.2.2.2.2.2.2.2.1 s.2.2.2.2.2.2.2.2.2) :=
 (xSu F).le (fun _ _ h => xSw F h)
end
section
open Go.ChangeShapes Go.WideShapes Go.Deep
def fit : Value -> Prop
 | .int k n => k.min <= n /\ n <= k.max
 | .string s => s.size <= maxLen
 | _ => True
theorem xGQ {α : Type} {xs : List α} {i n : Nat} (hl : xs.length = n) (hi : i < n) : ∃ y, xs[i]? = some y := ⟨_, List.getElem?_eq_getElem (by omega)⟩
def xKc : Nat -> List (Nat × Nat) -> Nat -> Bool
 | o, [], t => o == t
 | o, (p, n) :: r, t => p == o && xKc (o + n) r t
theorem parts_ : ∀ (l : List (Nat × Nat)) (o t : Nat) (cs : List Value), xKc o l t = true -> cs.length = t -> cs.drop o = (l.map fun x => (cs.drop x.1).take x.2).flatten
 | [], o, t, cs, h, hl => by
  simp only [xKc, beq_iff_eq] at h;simp [List.drop_eq_nil_of_le (show cs.length <= o by omega)]
 | (p, n) :: r, o, t, cs, h, hl => by
  simp only [xKc, Bool.and_eq_true, beq_iff_eq] at h;obtain ⟨rfl, h⟩ := h;have ih := parts_ r (p + n) t cs h hl;simp only [List.map_cons, List.flatten_cons, <- ih];rw [<- List.drop_drop];exact (List.take_append_drop n (cs.drop p)).symm
theorem parts {cs : List Value} {t : Nat} (l : List (Nat × Nat)) (h : xKc 0 l t = true) (hl : cs.length = t) : cs = (l.map fun x => (cs.drop x.1).take x.2).flatten := by
 have := parts_ l 0 t cs h hl;rwa [List.drop_zero] at this
section
variable {P : Program} {H : Type} {enc : TypeId × Value -> H} {W : World} {base : Nat} {spare : Nat -> Bool} {held : Bool} {fuel : Nat} {cs : List Value} {x : DataW H × List MemPlace} {t : TypeId}
theorem xVZ (b off n : Nat) : (⟨b, off, none⟩ : Addr).add n = ⟨b, off + n, none⟩ := by unfold Addr.add; split <;> simp_all
theorem xQm {α : Type} {f : α -> List Value} {Pr : α -> Prop} (d : α) {k : Nat} {e : TypeId} (ht : P.underlying t = some (.slice e)) (hk : P.cellsOf e = k) (hpos : 0 < k) (hf : ∀ l : α, (f l).length = k)
  (hel : ∀ n cs x, DataW.trod enc P W base spare held n e cs = some x -> ∃ l : α, cs = f l /\ Pr l) (h : DataW.trod enc P W base spare held fuel t cs = some x) (hsp : spare = fun _ => true) :
  ∃ (a : Option Addr) (cap : Nat) (xs : List α), cs = [.slice a xs.length cap] /\ Sl k f W a cap xs /\ ∀ y ∈ xs, Pr y := by
 subst hsp;rcases open_slice ht h with ⟨hcs, _⟩ | ⟨a, len, cap, m, n, D, Pl, hcs, hb, hl, hm, hmm, hx, hi⟩
 ·exact ⟨none, 0, [], hcs, Sl.nil _ _ _, by simp⟩
 ·simp only [if_true] at hmm;have hex : ∀ i, ∃ l : α, i < m -> W.cells? base (a.add (i * k)) k = some (f l) /\ Pr l := fun i => by
   by_cases him : i < m
   ·obtain ⟨cs', hc, ht'⟩ := hi i him;obtain ⟨l, hl', hp⟩ := hel n cs' _ ht';rw [hk] at hc;exact ⟨l, fun _ => ⟨by rw [hc, hl'], hp⟩⟩
   ·exact ⟨d, fun h => absurd h him⟩
  obtain ⟨g, hg⟩ := Classical.axiomOfChoice hex;refine ⟨some a, cap, (List.range len).map g, by rw [hcs, List.length_map, List.length_range], ⟨by simpa using hl, by unfold maxLen at hm; omega, fun h0 => ?_⟩, fun y hy => ?_⟩
  ·have h0' : 0 < len := by simpa using h0
   obtain ⟨b, off, spot⟩ := a;have h00 := (hg 0 (by omega)).1;obtain ⟨_, _, hat0⟩ := World.cells?_some h00;have hat := (hat0 0 hpos).trans (List.getElem?_eq_getElem (by rw [hf]; exact hpos));have hspot : spot = none := by simpa [Addr.add] using World.cell?_spot hat
   subst hspot;have hlt : b < W.heap.size := by
    have h9 := cell_lt (by simpa [Addr.add] using hat : W.cell? ⟨b, off, none⟩ = some _);exact h9
   refine ⟨b, off, rfl, hlt, fun i hi' j v hv => ?_⟩;have hi2 : i < len := by simpa using hi'
   have hgi := (hg i (by omega)).1;obtain ⟨_, hcl, hat1⟩ := World.cells?_some hgi;simp only [List.getElem_map, List.getElem_range] at hv;have hj : j < k := by have h9 := (List.getElem?_eq_some_iff.1 hv).1; rwa [hf] at h9
   have h1 := hat1 j hj;rw [hv] at h1;rw [xVZ, xVZ] at h1;exact h1
  ·obtain ⟨i, hi', rfl⟩ := List.mem_map.1 hy;exact (hg i (by have := List.mem_range.1 hi'; omega)).2
end
end
section
open Go.ChangeShapes Go.WideShapes Go.Deep
def xXZ : (U : TC) -> U.ty -> Prop
 | .int k, n => k.min <= n /\ n <= k.max
 | .str, s => s.size <= maxLen
 | .pair a b, x => xXZ a x.1 /\ xXZ b x.2
 | .bool, _ => True
 | .er, _ => False
 | .rf _ _, _ => False
 | .cv, _ => False
 | .nil, _ => True
def chkT (P : Program) : Nat -> TypeId -> Bool
 | 0, _ => false
 | d + 1, t => match P.underlying t with
  | some (.int _) => true
  | some .bool => true
  | some .string => true
  | some (.struct fs) => xKc 0 (fs.toList.map fun f => (f.offset, P.cellsOf f.type)) (P.cellsOf t) && fs.toList.all (fun f => chkT P d f.type)
  | some (.array n e) => Nat.beq (P.cellsOf t) (n * P.cellsOf e) && chkT P d e
  | _ => false
theorem xIk : ∀ {l : List TC} {css : List (List Value)}, l.length = css.length -> (∀ (i : Nat) (U : TC) (cs : List Value), l[i]? = some U -> css[i]? = some cs -> ∃ v : U.ty, DenL [] (U.enc v) cs /\ xXZ U v) -> ∃ v : (xEd l).ty, DenL [] ((xEd l).enc v) css.flatten /\ xXZ (xEd l) v
 | [], [], _, _ => ⟨(), rfl, trivial⟩
 | [], _ :: _, h, _ => by simp at h
 | _ :: _, [], h, _ => by simp at h
 | [a], [c], _, h => by
  obtain ⟨v, h1, h2⟩ := h 0 a c rfl rfl;exact ⟨v, by rw [List.flatten_cons, List.flatten_nil, List.append_nil]; exact h1, h2⟩
 | [_], _ :: _ :: _, h, _ => by simp at h
 | _ :: _ :: _, [_], h, _ => by simp at h
 | a :: b :: l, c :: d :: css, hl, h => by
  obtain ⟨v, h1, h2⟩ := h 0 a c rfl rfl;obtain ⟨u, h3, h4⟩ := xIk (l := b :: l) (css := d :: css) (by simpa using hl) (fun i U cs e1 e2 => h (i + 1) U cs (by simpa using e1) (by simpa using e2));refine ⟨(v, u), ?_, h2, h4⟩;rw [List.flatten_cons];exact DenL.app h1 h3
theorem xWj {P : Program} {d : Nat} {t : TypeId} {k} (h : P.underlying t = some (.int k)) : xBs P (d + 1) t = .int k := by simp only [xBs, h]
theorem xSn {P : Program} {d : Nat} {t : TypeId} (h : P.underlying t = some .bool) : xBs P (d + 1) t = .bool := by simp only [xBs, h]
theorem xWi {P : Program} {d : Nat} {t : TypeId} (h : P.underlying t = some .string) : xBs P (d + 1) t = .str := by simp only [xBs, h]
theorem tcOf_st {P : Program} {d : Nat} {t : TypeId} {fs} (h : P.underlying t = some (.struct fs)) : xBs P (d + 1) t = xEd (fs.toList.map (fun f => xBs P d f.type)) := by simp only [xBs, h]
theorem xWk {P : Program} {d : Nat} {t : TypeId} {n e} (h : P.underlying t = some (.array n e)) : xBs P (d + 1) t = xEd (List.replicate n (xBs P d e)) := by simp only [xBs, h]
section
variable {P : Program} {H : Type} {enc : TypeId × Value -> H} {W : World} {base : Nat} {spare : Nat -> Bool} {held : Bool}
theorem xFt : ∀ (d : Nat) (t : TypeId) (fuel : Nat) (cs : List Value) (x : DataW H × List MemPlace), chkT P d t = true -> DataW.trod enc P W base spare held fuel t cs = some x -> ∃ v : (xBs P d t).ty, DenL [] ((xBs P d t).enc v) cs /\ xXZ (xBs P d t) v
 | 0, t, _, _, _, hc, _ => by cases hc
 | d + 1, t, fuel, cs, x, hc, h => by
  unfold chkT at hc;split at hc
  ·rename_i k hu;rw [xWj hu];obtain ⟨n, hn, _, hw⟩ := DataW.trod_int hu h;simp only [Lit.wf, Bool.and_eq_true, decide_eq_true_eq] at hw;exact ⟨n, ⟨_, [], hn, ⟨rfl, rfl⟩, rfl⟩, hw⟩
  ·rename_i hu;rw [xSn hu];obtain ⟨n, hn, _⟩ := DataW.trod_bool hu h;exact ⟨n, ⟨_, [], hn, ⟨rfl, rfl⟩, rfl⟩, trivial⟩
  ·rename_i hu;rw [xWi hu];obtain ⟨n, hn, _, hs⟩ := DataW.trod_string hu h;exact ⟨n, ⟨_, [], hn, ⟨rfl, rfl⟩, rfl⟩, hs⟩
  ·rename_i fs hu;rw [tcOf_st hu];simp only [Bool.and_eq_true, List.all_eq_true] at hc;obtain ⟨xs, n, _, _, hlen, hxl, hg⟩ := DataW.trod_struct hu h;have hp := parts _ hc.1 hlen;rw [List.map_map] at hp;rw [hp];refine xIk (by simp) (fun i U cs' e1 e2 => ?_);rw [List.getElem?_map] at e1 e2
   cases hf : fs.toList[i]? with
   | none => rw [hf] at e1; cases e1
   | some f =>
    rw [hf] at e1 e2;cases e1; cases e2;have hfa : fs[i]? = some f := by simpa using hf
    have hi := (Array.getElem?_eq_some_iff.1 hfa).1;obtain ⟨y, hy⟩ := xGQ (i := i) hxl hi;have := (hg i f hfa).trans hy;exact xFt d f.type n _ y (hc.2 f (List.mem_of_getElem? hf)) this
  ·rename_i n e hu;rw [xWk hu];simp only [Bool.and_eq_true] at hc;obtain ⟨xs, m, _, _, hlen, hxl, hg⟩ := DataW.trod_array hu h;have hcell := nbT hc.1;have hp : cs = ((List.range n).map fun i => (cs.drop (i * P.cellsOf e)).take (P.cellsOf e)).flatten := by
    have key : ∀ (k : Nat) (o : Nat) (l : List Value), l.length = k * P.cellsOf e -> l = ((List.range k).map fun i => (l.drop (i * P.cellsOf e)).take (P.cellsOf e)).flatten := by
     intro k
     induction k with
     | zero => intro o l hl; rw [Nat.zero_mul] at hl; simp [List.eq_nil_of_length_eq_zero hl]
     | succ k ih =>
      intro o l hl;rw [List.range_succ_eq_map, List.map_cons, List.flatten_cons, List.map_map];have := ih o (l.drop (P.cellsOf e)) (by rw [List.length_drop, hl, Nat.add_mul]; omega)
      conv => lhs; rw [<- List.take_append_drop (P.cellsOf e) l, this]
      simp only [Nat.zero_mul, List.drop_zero];congr 3;funext i;simp only [Function.comp, List.drop_drop, Nat.add_mul, Nat.one_mul, Nat.succ_eq_add_one];rw [Nat.add_comm]
    exact key n 0 cs (by rw [hlen, hcell])
   rw [hp];refine xIk (by simp) (fun i U cs' e1 e2 => ?_);rw [List.getElem?_replicate] at e1;split at e1
   ·rename_i hi;cases e1;rw [List.getElem?_map, List.getElem?_range hi] at e2;cases e2;obtain ⟨y, hy⟩ := xGQ (i := i) hxl hi;exact xFt d e m _ y hc.2 ((hg i hi).trans hy)
   ·cases e1
  ·cases hc
end
end
section
open Go.ChangeShapes Go.WideShapes Go.Deep
def scV : CV -> Value
 | .sc v => v
 | _ => undef
theorem xUI : ∀ {U : TC} {y : U.ty}, xXZ U y -> ∀ c ∈ U.enc y, ∃ v, c = CV.sc v
 | .int _, _, _, c, h => ⟨_, by simpa [TC.enc] using h⟩
 | .bool, _, _, c, h => ⟨_, by simpa [TC.enc] using h⟩
 | .str, _, _, c, h => ⟨_, by simpa [TC.enc] using h⟩
 | .nil, _, _, c, h => by simp [TC.enc] at h
 | .cv, _, hf, _, _ => hf.elim
 | .er, _, hf, _, _ => hf.elim
 | .rf _ _, _, hf, _, _ => hf.elim
 | .pair a c, x, hf, b, h => by
  simp only [TC.enc, List.mem_append] at h;rcases h with h | h
  ·exact xUI hf.1 b h
  ·exact xUI hf.2 b h
theorem xNo : ∀ {l : List CV} {vs : List Value}, (∀ c ∈ l, ∃ v, c = CV.sc v) -> DenL [] l vs -> vs = l.map scV
 | [], _, _, h => h
 | c :: l, _, hn, ⟨v, r, e, h1, h2⟩ => by
  rw [e, List.map_cons, <- xNo (fun b hb => hn b (by simp [hb])) h2];obtain ⟨u, rfl⟩ := hn c (by simp);congr 1;exact h1.1
theorem xIL {α : Type} {f : α -> List Value} {k : Nat} (hk : ∀ y, (f y).length = k) : ∀ (xs : List α) (j : Nat) (v : Value), (xs.flatMap f)[j]? = some v -> ∃ i, ∃ hi : i < xs.length, ∃ j', j = i * k + j' /\ (f xs[i])[j']? = some v
 | [], j, v, h => by simp at h
 | x :: xs, j, v, h => by
  rw [List.flatMap_cons] at h;by_cases hj : j < (f x).length
  ·rw [List.getElem?_append_left hj] at h;exact ⟨0, by simp, j, by omega, h⟩
  ·rw [List.getElem?_append_right (by omega)] at h;obtain ⟨i, hi, j', e, h'⟩ := xIL hk xs _ v h;refine ⟨i + 1, by simp only [List.length_cons]; omega, j', ?_, h'⟩;have := hk x;rw [Nat.add_mul];omega
theorem xUH (U : TC) (xs : List U.ty) (h : ∀ y ∈ xs, DenL [] (U.enc y) ((U.enc y).map scV)) : DenL [] (flat U xs) (xs.flatMap fun y => (U.enc y).map scV) := by
 unfold flat
 induction xs with
 | nil => exact rfl
 | cons x xs ih =>
  rw [List.flatMap_cons, List.flatMap_cons];exact DenL.app (h x (by simp)) (ih fun y hy => h y (by simp [hy]))
structure SlIn (W : World) (U : TC) (i : Info) (xs : List U.ty) : Prop where
 len : i.len = some xs.length
 root : RootOk [] W i (.ro U xs)
 le : xs.length <= i.cap
 big : i.cap <= maxLen
 fit : ∀ y ∈ xs, xXZ U y
 objs : ∀ t, i.objs t = []
theorem xWx {P : Program} {H : Type} {enc : TypeId × Value -> H} {W : World} {base : Nat} {held : Bool} {fuel d : Nat} {cs : List Value} {x : DataW H × List MemPlace} {t e : TypeId} {U : TC} (ht : P.underlying t = some (.slice e)) (hτ : xBs P d e = U) (hc : chkT P d e = true) (hw : P.cellsOf e = U.w) (hpos : 0 < U.w)
  (y0 : U.ty) (h : DataW.trod enc P W base (fun _ => true) held fuel t cs = some x) : ∃ (i : Info) (xs : List U.ty), cs = [.slice i.a xs.length i.cap] /\ SlIn W U i xs := by
 subst hτ;obtain ⟨a, cap, xs, e1, e2, e3⟩ := xQm (f := fun y => ((xBs P d e).enc y).map scV) (Pr := fun y => DenL [] ((xBs P d e).enc y) (((xBs P d e).enc y).map scV) /\ xXZ (xBs P d e) y) y0 ht hw hpos (fun l => by rw [List.length_map, TC.enc_len])
  (fun n cs x h => by
   obtain ⟨y, h1, h2⟩ := xFt d e n cs x hc h;have h3 := xNo (xUI h2) h1;exact ⟨y, h3, h3 ▸ h1, h2⟩) h rfl
 refine ⟨⟨a, cap, some xs.length, undef⟩, xs, e1, rfl, ⟨rfl, _, xUH _ xs fun y hy => (e3 y hy).1, fun h0 => ?_⟩, e2.le, e2.big, fun y hy => (e3 y hy).2, fun _ => rfl⟩;obtain ⟨b, off, ha, hb, hcl⟩ := e2.cells h0;refine ⟨b, off, ha, hb, fun j v hv => ?_⟩;obtain ⟨i, hi, j', e4, e5⟩ := xIL (f := fun y => ((xBs P d e).enc y).map scV) (fun y => by rw [List.length_map, TC.enc_len]) xs j v hv;rw [e4, <- Nat.add_assoc];exact hcl i hi j' v e5
theorem SlIn.den {O : List Info} {W : World} {U : TC} {i : Info} {xs : List U.ty} (h : SlIn W U i xs) {id k : Nat} (hi : O[id]? = some i) : Den O (.sl id k 0 none none) (.slice i.a xs.length i.cap) := by
 obtain ⟨_, _, _, h3⟩ := h.root;refine ⟨i, i.a, i.cap, xs.length, hi, rfl, h.le, h.big, fun h0 => ?_, ⟨_, h.len, by rw [Nat.sub_zero]⟩, ⟨_, h.len, by omega⟩, by rw [Nat.sub_zero], rfl, fun _ => rfl, fun _ => ?_⟩
 ·obtain ⟨b, o, ha, _⟩ := h3 h0;exact ⟨b, o, ha⟩
 ·rw [Nat.zero_mul]
  cases i.a with
  | none => rfl
  | some a => show some a = some (a.add 0); unfold Addr.add; rw [if_pos rfl]
theorem xNc {P : Program} {H : Type} {enc : TypeId × Value -> H} {W : World} {base d : Nat} {spare : Nat -> Bool} {held : Bool} {fuel : Nat} {cs : List Value} {x : DataW H × List MemPlace} {t : TypeId} {U : TC} (hτ : xBs P d t = U) (hc : chkT P d t = true) (h : DataW.trod enc P W base spare held fuel t cs = some x) : ∃ y : U.ty, DenL [] (U.enc y) cs /\ xXZ U y := by
 subst hτ;exact xFt d t fuel cs x hc h
theorem pre_nil (O : List Info) : Pre [] O := fun _ _ h => by simp at h
def ArgsR (O : List Info) (vs : List Value) : (l : List (Nat × PK)) -> xNZ l -> Prop
 | [], _ => True
 | p :: l, x => (∃ v, DenP O (p.2.enc same (pf p.2.dflt p.2.hasD (slD l) x)) v /\ vs[p.1]? = some v) /\ ArgsR O vs l (ps (xWy l) p.2.hasD (slD l) x)
theorem ArgsR.den {O : List Info} {vs : List Value} : ∀ {l : List (Nat × PK)} {x : xNZ l}, ArgsR O vs l x -> ∀ q p, lkP (xAM same l x) q = some p -> ∃ v, DenP O p v /\ vs[q]? = some v
 | [], _, _, q, p, h => by
  have h : lkP .nil q = some p := h;rw [xFf] at h;cases h
 | a :: l, x, ⟨h1, h2⟩, q, p, h => by
  have g : lkP (xDF (xAM same l (ps (xWy l) a.2.hasD (slD l) x)) a.1 (a.2.enc same (pf a.2.dflt a.2.hasD (slD l) x))) q = some p := h;rw [xBj] at g;by_cases e : q = a.1
  ·rw [if_pos e] at g;subst e;rw [<- Option.some.inj g];exact h1
  ·rw [if_neg e] at g;exact ArgsR.den h2 q p g
def RosA (W : World) : List Info -> List Root -> Prop
 | [], hs => hs = []
 | i :: O, hs => ∃ r l, hs = r :: l /\ ((∃ U xs, r = .ro U xs) \/ (r.tag ≠ none /\ r.obs = [])) /\ RootOk [] W i r /\ (∀ t, i.objs t = []) /\ RosA W O l
theorem RosA.get {W : World} : ∀ {O : List Info} {h : List Root}, RosA W O h -> O.length = h.length /\ (∀ (id : Nat) (i : Info) (t : Nat), O[id]? = some i -> i.objs t = []) /\ ∀ (id : Nat) (r : Root) (i : Info), h[id]? = some r -> O[id]? = some i -> ((∃ U xs, r = .ro U xs) \/ (r.tag ≠ none /\ r.obs = [])) /\ RootOk [] W i r
 | [], _, h => by
  rw [show _ = [] from h];exact ⟨rfl, fun id i t e => by simp at e, fun id r i e => by simp at e⟩
 | i :: O, _, ⟨r0, l, e, h1, h2, h3, h4⟩ => by
  subst e;obtain ⟨g1, g2, g3⟩ := RosA.get h4;refine ⟨by simp [g1], fun id j t e => ?_, fun id r j e1 e2 => ?_⟩
  ·cases id with
   | zero => cases e; exact h3 t
   | succ id => exact g2 id j t (by simpa using e)
  ·cases id with
   | zero => cases e1; cases e2; exact ⟨h1, h2⟩
   | succ id => exact g3 id r j (by simpa using e1) (by simpa using e2)
theorem xFJ {i : Info} {r : Root} (h : (∃ U xs, r = .ro U xs) \/ (r.tag ≠ none /\ r.obs = [])) (b : Nat) : ¬ own i r b := by
 rcases h with ⟨U, xs, rfl⟩ | ⟨h1, h2⟩
 ·exact fun h => h
 ·obtain ⟨t, ht⟩ := Option.ne_none_iff_exists'.1 h1;intro h;obtain ⟨m, v, o, _, h3, _⟩ := ((xEe (O := []) (w := default) ht).2 b).1 h;rw [h2] at h3;simp at h3
theorem xUF {i : Info} {r : Root} (h1 : r.tag ≠ none) (h2 : r.obs = []) (b : Nat) : ¬ foot i r b := by
 have ho := xFJ (i := i) (.inr ⟨h1, h2⟩) b
 cases r with
 | arr t U os =>
  rintro ⟨m, v, o, _, h3, _⟩
  rw [h2] at h3;simp at h3
 | dead => exact absurd rfl h1
 | blk cs T => exact absurd rfl h1
 | rows T U xs => exact absurd rfl h1
 | ro U xs => exact absurd rfl h1
 | clo f a c => exact absurd rfl h1
 | mp V agg U ts => exact absurd rfl h1
 | _ => exact ho
theorem RosA.hok {W : World} {O : List Info} {h : List Root} (hr : RosA W O h) (hg : gOk W /\ ∀ b ∈ xIJ, b < W.heap.size) : HOk [] (O.filterMap fun i => i.a.map (·.block)) W O h W := by
 obtain ⟨g1, g0, g2⟩ := hr.get;refine ⟨Ex.refl _ _, g1, fun id r i e1 e2 => ?_, fun p q r s i j b hne e1 e2 e3 e4 ho => absurd ho (xFJ (g2 p r i e1 e3).1 b), fun p r i b e1 e2 ho => absurd ho (xFJ (g2 p r i e1 e2).1 b), fun p r i b e1 e2 ho => ?_, hg.1, fun b hb => ⟨hg.2 b hb, by simp⟩, fun p t r i e1 e2 ht id j m v hj hv => (by rw [g0 id j t hj] at hv; simp at hv), fun p r i e1 e2 => .inr fun t _ => g0 p i t e2⟩
 ·exact (g2 id r i e1 e2).2.mono (fun id i h => by simp at h)
 ·rcases (g2 p r i e1 e2).1 with ⟨U, xs, rfl⟩ | h3
  ·refine .inr (.inr (List.mem_filterMap.2 ⟨i, List.mem_of_getElem? e2, ?_⟩))
   cases xs with
   | nil => cases ho
   | cons x xs => exact ho
  ·exact absurd ho (xUF h3.1 h3.2 b)
theorem xJC {W : World} : ∀ {h : List Root}, (∀ r ∈ h, r.tag ≠ none /\ r.obs = []) -> RosA W (List.replicate h.length nilI) h
 | [], _ => rfl
 | r :: h, hr => by
  obtain ⟨h1, h2⟩ := hr r (by simp);refine ⟨r, h, rfl, .inr ⟨h1, h2⟩, ?_, xAx, xJC (fun r hm => hr r (by simp [hm]))⟩;obtain ⟨t, ht⟩ := Option.ne_none_iff_exists'.1 h1;refine (xEe ht).1.2 ?_;rw [h2, xAx];exact ⟨rfl, fun m v o h => by simp at h, fun m m' v v' o o' b _ h => by simp at h⟩
end
noncomputable section
def keepE (e : Ent) : Bool := !(Nat.beq e.f 34 || Nat.beq e.f 13)
def xNm : List Ent -> List Ent
 | [] => []
 | e :: l => bif keepE e then e :: xNm l else xNm l
theorem xIT {P : Program} : ∀ {l : List Ent}, xAj P l -> xAj P (xNm l)
 | [], _ => trivial
 | e :: l, h => by
  simp only [xNm]
  cases keepE e with
  | true => exact ⟨h.1, xIT h.2⟩
  | false => exact xIT h.2
def w120_T (F : Nat) : List Ent := xWr F :: xMX F :: xSJ F :: { xU9 F with bx := [some stTC] } :: xNm (ing_T F)
theorem xR6 (F : Nat) : xAj Tryz.prog (w120_T F) := ⟨⟨by kernel_rfl, xSv F⟩, ⟨by kernel_rfl, xIy F⟩, ⟨by kernel_rfl, split_ok F⟩, ⟨by kernel_rfl, xRO F⟩, xIT (xQb F)⟩
def h012 : List Root := [.aro 0 123 (.pair C_1 (.rf 2 1)) [], .arm 1 (.i .i64) false .bool [], .aro 2 236 C_2 [], .ars 3 77 C_3 [], .ars 4 244 C_4 []]
def xPv (_ : List Nat) (v : PV) (_ : List Root) : Option Bool :=
 match v with
 | .c (.sc (.bool b)) => some b
 | _ => none
theorem xS3 {P : Program} {call : xAK Bool} (hcall : xAJ P call) {g : Nat} {h0 : List Root} (h0a : ∀ r ∈ h0, r.tag ≠ none /\ r.obs = []) {v : Bool} (hr : call g [] h0 xPv = some v) : FnSem P g 0 ⟨[], []⟩ ⟨.one (.c (.t .bool)), []⟩ (fun _ => some v) := by
 intro s t hst S F W0 Z w vs hlen hden hh hcl;cases hst;have hvs : vs = [] := List.eq_nil_of_length_eq_zero hlen;subst hvs;have hg : gOk w /\ ∀ b ∈ xIJ, b < w.heap.size := ⟨hh.layW, fun b hb => hh.outW hb⟩;refine (hcall g [] h0 xPv v hr [] _ w _ w [] rfl ((xJC (W := w) h0a).hok hg) hcl).mono fun e w' he => ?_;obtain ⟨O', h', p, u, B, t, rfl, _, h2, h3, h4, _⟩ := he;refine ⟨Z, u, rfl, PreM.refl _ _, ?_, ?_, Nat.le_refl _⟩
 ·unfold xPv at h4;split at h4
  ·cases h4; exact h2
  ·cases h4
 ·exact hh.ext' h3.ext
def xLM (_ : Nat) : Option Bool := some true
abbrev xLO : Sch := ⟨[], []⟩
abbrev xLN : FSch := ⟨.one (.c (.t .bool)), []⟩
def xR4 (F : Nat) : Ent := ⟨7, 0, xLO, xLN, fun _ => xLM F, []⟩
theorem works12_run : xCr (β := Bool) Tryz.prog 1000 plans (w120_T 1000) 20 7 [] h012 xPv = both (some true) (some true) := by kernel_rfl
theorem xQV (F : Nat) : FnSem Tryz.prog 7 0 xLO xLN (fun _ => xLM F) := by
 refine xS3 (xA7 xAn 1000 xBn (xR6 1000) 20 Bool) (h0 := h012) ?_ (works12_run.trans (xNE _));intro r hr;simp only [h012, List.mem_cons, List.not_mem_nil, or_false] at hr;rcases hr with rfl | rfl | rfl | rfl | rfl <;> exact ⟨by simp [Root.tag], rfl⟩
end
noncomputable section
abbrev line_I : Sch := xFR
end
end Go.Proofs.YtnomnijhlbalaaaGreatDoor
