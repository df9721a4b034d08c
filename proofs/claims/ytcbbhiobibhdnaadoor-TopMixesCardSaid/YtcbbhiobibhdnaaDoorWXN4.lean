/- charge.Best as an entry of the table: by the contract that the older texts prove. No condition. -/
import Derived.Test.YtcbbhiobibhdnaaDoorWXN3
import Derived.Test.YtcbbhiobibhdnaaDoorWOC28
import Derived.Test.YtcbbhiobibhdnaaDoorWYW

namespace Go.Proofs.YtcbbhiobibhdnaaDoor
open Go.RowKit Go.Proofs
set_option maxRecDepth 100000
noncomputable section
def toB (b : (Int × Int) × ((Int × Int) × (Int × Int))) : Bnds := ⟨⟨b.1.1, b.1.2⟩, ⟨b.2.1.1, b.2.1.2⟩, ⟨b.2.2.1, b.2.2.2⟩⟩
def xDz (x : Int × (Int × (((Int × Int) × ((Int × Int) × (Int × Int))) × Int))) : Lot := ⟨x.1, x.2.1, toB x.2.2.1, x.2.2.2⟩
def xA2 (p : (Int × Int) × ((Int × Int) × ((Int × Int) × (Int × Int)))) (l : List (Int × (Int × (((Int × Int) × ((Int × Int) × (Int × Int))) × Int)))) : Recipe := ⟨l.map xDz, ⟨p.1.1, p.1.2⟩, toB p.2⟩
def xIb (_ : Nat) (p : (Int × Int) × ((Int × Int) × ((Int × Int) × (Int × Int)))) (l : List (Int × (Int × (((Int × Int) × ((Int × Int) × (Int × Int))) × Int)))) : Option ((Int × Int) × List Int) := bif xB6 0 l.length then some ((stC (xCJ (xA2 p l)), xIc (xA2 p l)), stL (xCJ (xA2 p l))) else none
abbrev best_I : Sch := xKm
abbrev best_O : FSch := ⟨.tu [(false, [.k (.sl 1 1)]), (false, [.t (.int .i64)]), (false, [.t (.int .i64)])], [.dead, .rows 3 (.int .i64)]⟩
def best_E (F : Nat) : Ent := ⟨18, 1, best_I, best_O, fun s => xIb F s.1 s.2, []⟩
theorem xMz {ρ : List Info} : ∀ {us vs : List Value}, DenL ρ (us.map CV.sc) vs → vs = us
 | [], _, h => h
 | u :: us, vs, ⟨v, r, e, h1, h2⟩ => by rw [e, h1.1, xMz h2]
theorem xLy {ρ : List Info} : ∀ xs : List Int, DenL ρ (xs.map (fun x => CV.sc (.int .i64 x))) (xs.map (Value.int .i64))
 | [] => rfl
 | x :: xs => ⟨_, _, rfl, ⟨rfl, rfl⟩, xLy xs⟩
theorem xLk : ∀ xs : List Int, flat (.int .i64) xs = xs.map (fun x => CV.sc (.int .i64 x))
 | [] => rfl
 | x :: xs => by
  have := xLk xs
  simp only [flat, List.flatMap_cons] at this ⊢
  rw [this]; rfl
theorem xNX : ∀ l : List (Int × (Int × (((Int × Int) × ((Int × Int) × (Int × Int))) × Int))), flat (.pair (.int .i64) (.pair (.int .i64) (.pair (.pair (.pair (.int .i64) (.int .i64)) (.pair (.pair (.int .i64) (.int .i64)) (.pair (.int .i64) (.int .i64)))) (.int .i64)))) l = ((l.map xDz).flatMap Lot.cells).map CV.sc
 | [] => rfl
 | x :: l => by
  have := xNX l
  simp only [flat, List.flatMap_cons, List.map_cons, List.map_append] at this ⊢
  rw [this]; rfl
theorem fm_get {α : Type} {f : α → List Value} {k : Nat} (hf : ∀ x, (f x).length = k) : ∀ (l : List α) (i : Nat) (hi : i < l.length) (j : Nat) (v : Value), (f l[i])[j]? = some v → (l.flatMap f)[i * k + j]? = some v
 | [], _, hi, _, _, _ => by simp at hi
 | x :: l, 0, _, j, v, h => by
  have hj : j < (f x).length := (List.getElem?_eq_some_iff.1 h).1
  rw [List.flatMap_cons, Nat.zero_mul, Nat.zero_add, List.getElem?_append_left hj]
  exact h
 | x :: l, i + 1, hi, j, v, h => by
  have ih := fm_get hf l i (by simpa using hi) j v h
  rw [List.flatMap_cons, List.getElem?_append_right (by rw [hf, Nat.succ_mul]; omega), hf, show (i + 1) * k + j - k = i * k + j by rw [Nat.succ_mul]; omega]
  exact ih
theorem xOA (xs : List Int) : xs.flatMap intCells = xs.map (Value.int .i64) := by
 induction xs with
 | nil => rfl
 | cons x xs ih => rw [List.flatMap_cons, ih]; rfl
theorem best_ok (F : Nat) : xAK Tryd.prog 18 1 best_I best_O (fun s => xIb F s.1 s.2) := by
 intro s t hst S F' W0 ι w vs hlen hden hh hcl
 obtain ⟨p, xs⟩ := s
 change (Int × Int) × ((Int × Int) × ((Int × Int) × (Int × Int))) at p
 change List (Int × (Int × (((Int × Int) × ((Int × Int) × (Int × Int))) × Int))) at xs
 simp only [xIb] at hst
 cases hc : xB6 0 xs.length with
 | false => rw [hc] at hst; cases hst
 | true =>
  rw [hc] at hst
  cases hst
  obtain ⟨v, hv, g⟩ := hden 0 (.ag (.sl 0 9 0 none none :: ([.int .i64 p.1.1, .int .i64 p.1.2, .int .i64 p.2.1.1, .int .i64 p.2.1.2, .int .i64 p.2.2.1.1, .int .i64 p.2.2.1.2, .int .i64 p.2.2.2.1, .int .i64 p.2.2.2.2].map CV.sc))) rfl
  have hvs : vs = [v] := by
   match vs, hlen with
   | [a], _ => simp at g; rw [g]
  subst hvs
  have hh' : HOk S F' W0 ι [.ro (.pair (.int .i64) (.pair (.int .i64) (.pair (.pair (.pair (.int .i64) (.int .i64)) (.pair (.pair (.int .i64) (.int .i64)) (.pair (.int .i64) (.int .i64)))) (.int .i64)))) xs] w := hh
  obtain ⟨cs, hcs, hv2⟩ := hv
  obtain ⟨v0, r0, e0, hd0, hdr⟩ := hcs
  have er := xMz hdr
  obtain ⟨i, a', c', nn, h1, h2, h3, h4, h5, ⟨m, h6, h7⟩, _, _, _, h10, _⟩ := hd0
  have h10 := h10 rfl
  obtain ⟨g0, us, g1, g2⟩ := hh'.ok 0 _ i rfl h1
  rw [g0] at h6; cases h6
  rw [Nat.sub_zero] at h7
  subst h7
  have g1' : DenL ι (((List.map xDz xs).flatMap Lot.cells).map CV.sc) us := by
   rw [← xNX]
   exact g1
  have hus := xMz g1'
  have hsl : SlL w a' c' (xs.map xDz) := by
   refine ⟨by rw [List.length_map]; exact h3, by unfold maxLen at h4; omega, fun h0 => ?_⟩
   rw [List.length_map] at h0
   obtain ⟨b, o, e1, e2, e3⟩ := g2 h0
   refine ⟨b, o, by rw [h10]; exact e1, e2, fun q hq j u hu => ?_⟩
   rw [Nat.add_assoc]
   refine e3 (q * 9 + j) u ?_
   rw [hus]
   exact fm_get (f := Lot.cells) (k := 9) (fun x => rfl) _ q hq j u hu
  have hd : HOk S F' W0 ι [.dead] w := hh'.masked []
  have hb := best_c (xA2 p xs) a' c' w hsl
  have hb' : Calls Tryd.prog 18 [v].toArray w (xOe (xA2 p xs) w) := by
   rw [hv2, e0, er, h2]
   have := hb
   simp only [xA2, List.length_map] at this
   exact this
  refine hb'.mono ?_
  rintro e w' ⟨aa, cap, he, hown, hE⟩
  generalize hL : stL (xCJ (xA2 p xs)) = L at *
  obtain ⟨q1, q2⟩ := hown
  rw [xOA] at q1 q2
  have key : ownsAt w' 3 1 aa cap L.length (L.map (Value.int .i64)) ∧ L.length ≤ cap ∧ cap ≤ maxLen ∧ (0 < L.length → ∃ b o, aa = some ⟨b, o, none⟩) ∧ ∀ b, aa.map (·.block) = some b → w.heap.size ≤ b := by
   rcases q2 with ⟨h2, h3⟩ | ⟨g, cap', cur, h2, h3, h4, h5, h6, h7, h8⟩
   ·simp only [Value.slice.injEq] at h2
    obtain ⟨rfl, _, rfl⟩ := h2
    refine ⟨⟨q1, by omega, by unfold maxLen; omega, .inl ⟨rfl, by simp⟩⟩, by omega, by unfold maxLen; omega, by omega, by simp⟩
   ·simp only [Value.slice.injEq] at h2
    obtain ⟨rfl, _, rfl⟩ := h2
    refine ⟨⟨q1, h5, h6, .inr ⟨g, 0, cur, rfl, h4, by omega, by simpa using h8⟩⟩, h5, h6, fun _ => ⟨g, 0, rfl⟩, fun b hb => ?_⟩
    simp only [Option.map_some, Option.some.injEq] at hb
    omega
  obtain ⟨k1, k2, k3, k4, k5⟩ := key
  have hl' : ι.length = 1 := hd.len
  have hg : (ι ++ [⟨aa, cap, some L.length, .nilFunc⟩])[1]? = some ⟨aa, cap, some L.length, .nilFunc⟩ := by
   rw [List.getElem?_append_right (by omega), hl']; rfl
  refine ⟨ι ++ [⟨aa, cap, some L.length, .nilFunc⟩], _, he, (Pre.app _ _).m, ⟨_, ⟨_, _, rfl, ⟨_, rfl, ⟨_, aa, cap, L.length, hg, rfl, k2, k3, k4, ⟨_, rfl, (Nat.sub_zero _).symm⟩, ⟨_, rfl, by omega⟩, (Nat.sub_zero _).symm, rfl, fun _ => rfl, fun _ => ?_⟩⟩, ⟨_, _, rfl, ⟨_, rfl, ⟨rfl, rfl⟩⟩, ⟨_, _, rfl, ⟨_, rfl, ⟨rfl, rfl⟩⟩, rfl⟩⟩⟩, rfl⟩, ?_, (by decide)⟩
  ·cases aa <;> simp [Addr.add]
  ·exact hd.add hE ⟨aa, cap, some L.length, .nilFunc⟩ (.rows 3 (.int .i64) L) ⟨rfl, Nat.lt_succ_self 0, L.map (Value.int .i64), by rw [xLk]; exact xLy L, k1⟩ (fun b hb => k5 b hb)
def xRE (F : Nat) : List Ent := best_E F :: xN7 F
theorem xLG (F : Nat) : xAs Tryd.prog (xRE F) := ⟨⟨by kernel_rfl, best_ok F⟩, xMI F⟩
end
end Go.Proofs.YtcbbhiobibhdnaaDoor


namespace Go.Proofs.YtcbbhiobibhdnaaDoor
open Go.RowKit Go.Proofs
set_option maxRecDepth 100000
set_option maxHeartbeats 4000000
noncomputable section
abbrev poured_n : Nat := 0
def xCn (F : Nat) : Option (Bool) := (ob (xAL F (7 : Int) (5 : Int) (3 : Int) (2 : Int)) (fun r => (ob (xBe F ((1000 : Int), (((10000 : Int), (10000 : Int)), (((10000 : Int), (10000 : Int)), ((10000 : Int), (10000 : Int))))) (((1 : Int), ((100 : Int), (((3000 : Int), (4000 : Int)), (((3000 : Int), (4000 : Int)), ((3000 : Int), (4000 : Int)))))) :: [])) (fun r1 => (ob (xEf F (((0 : Int), (9 : Int)), (((0 : Int), (0 : Int)), (((0 : Int), (0 : Int)), ((0 : Int), (0 : Int))))) (((5 : Int), ((100 : Int), ((((0 : Int), (0 : Int)), (((0 : Int), (0 : Int)), ((0 : Int), (0 : Int)))), (1 : Int)))) :: []) ((3 : Int) :: [])) (fun r2 => (bif (r.2.2 == (0 : Int)) then (bif (r.1 == (12 : Int)) then (bif (r1.1.2 == (0 : Int)) then (bif (((r1.2.length - 0) : Int) == (1 : Int)) then (bif (inB (0 : Int) (r1.2.length - 0)) then (bif (bif false then (!(((nth r1.2 (TC.dflt xAM) 0).2.1.1 == (300 : Int)) && ((nth r1.2 (TC.dflt xAM) 0).2.1.2 == (400 : Int)))) else (((nth r1.2 (TC.dflt xAM) 0).2.1.1 == (300 : Int)) && ((nth r1.2 (TC.dflt xAM) 0).2.1.2 == (400 : Int)))) then (bif (r2.2 == (0 : Int)) then (some (r2.1.1 == (300 : Int))) else (some false)) else (some false)) else none) else (some false)) else (some false)) else (some false)) else (some false))))))))
abbrev xNg : Sch := ⟨[], []⟩
abbrev xNf : FSch := ⟨.one (.c (.t .bool)), []⟩
def xSl (F : Nat) : Ent := ⟨7, 0, xNg, xNf, fun s => xCn F, []⟩
theorem xPv (F : Nat) : xAK Tryd.prog 7 0 xNg xNf (fun s => xCn F) :=
 xAV (call := xAz Tryd.prog 70 plans (xRE F) 20) (Fu := 70) (pl := xBc plans 7) (d := 1000) (an := .no) (xAc xAa 70 xAg (xLG F) 20) xAa (by kernel_rfl) (xAo (c := xAe Tryd.prog 7) (p := []) (trivial)) (fun s => by kernel_rfl)
def xJF (F : Nat) : List Ent := xSl F :: xRE F
theorem xHf (F : Nat) : xAs Tryd.prog (xJF F) := ⟨⟨by kernel_rfl, xPv F⟩, xLG F⟩
abbrev tMixes_n : Nat := 1
def xGH (F : Nat) (p : ((Int × Int) × T_b)) (p_Lots : (List (Int × (Int × (T_b × Int))))) : Option (Bool) := (bif (decide (((p_Lots.length - 0) : Int) > (6 : Int))) then (ob (xCn F) (fun r => (some r))) else (bif (bif false then (xCP 0 p_Lots.length) else (xB6 0 p_Lots.length)) then (ob (xIb F p ([] ++ p_Lots)) (fun r1 => (bif (r1.1.2 != (0 : Int)) then (bif (((r1.2.length - 0) : Int) == (0 : Int)) then (ob (xCn F) (fun r2 => (some r2))) else (some false)) else (ob (xEf F p ([] ++ p_Lots) r1.2) (fun r3 => (bif (r3.2 != (0 : Int)) then (some false) else (ob (xCe F r3.1 ([] ++ (((1 : Int), (r3.1.1, (((0 : Int), (0 : Int)), (((0 : Int), (0 : Int)), ((0 : Int), (0 : Int)))))) :: []))) (fun r4 => (bif (r4 != (0 : Int)) then (bif (r3.1.1 == (0 : Int)) then (ob (xCn F) (fun r5 => (some r5))) else (bif (r4 == (2 : Int)) then (ob (xCn F) (fun r6 => (some r6))) else (some false))) else (ob (xD8 F r3.1 p.2.1 ([] ++ (((1 : Int), (r3.1.1, (((0 : Int), (0 : Int)), (((0 : Int), (0 : Int)), ((0 : Int), (0 : Int)))))) :: []))) (fun r7 => (ob (xH5 F r3.1) (fun r8 => (bif (r7.1 != (0 : Int)) then (some false) else (bif (((r7.2.length - 0) : Int) != (1 : Int)) then (some false) else (bif (inB (0 : Int) (r7.2.length - 0)) then (bif ((nth r7.2 (0 : Int) 0) != (1 : Int)) then (some false) else (bif (r8.2 != (0 : Int)) then (some false) else (bif (decide (r8.1.1 < p.2.1.1)) then (some false) else (bif (decide (r8.1.2 > p.2.1.2)) then (some false) else (ob (xD7 F r3.1 p.2.2.1 ([] ++ (((1 : Int), (r3.1.1, (((0 : Int), (0 : Int)), (((0 : Int), (0 : Int)), ((0 : Int), (0 : Int)))))) :: []))) (fun r9 => (ob (xH4 F r3.1) (fun r10 => (bif (r9.1 != (0 : Int)) then (some false) else (bif (((r9.2.length - 0) : Int) != (1 : Int)) then (some false) else (bif (inB (0 : Int) (r9.2.length - 0)) then (bif ((nth r9.2 (0 : Int) 0) != (1 : Int)) then (some false) else (bif (r10.2 != (0 : Int)) then (some false) else (bif (decide (r10.1.1 < p.2.2.1.1)) then (some false) else (bif (decide (r10.1.2 > p.2.2.1.2)) then (some false) else (ob (xD6 F r3.1 p.2.2.2 ([] ++ (((1 : Int), (r3.1.1, (((0 : Int), (0 : Int)), (((0 : Int), (0 : Int)), ((0 : Int), (0 : Int)))))) :: []))) (fun r11 => (ob (xH3 F r3.1) (fun r12 => (bif (r11.1 != (0 : Int)) then (some false) else (bif (((r11.2.length - 0) : Int) != (1 : Int)) then (some false) else (bif (inB (0 : Int) (r11.2.length - 0)) then (bif ((nth r11.2 (0 : Int) 0) != (1 : Int)) then (some false) else (bif (r12.2 != (0 : Int)) then (some false) else (bif (decide (r12.1.1 < p.2.2.2.1)) then (some false) else (bif (decide (r12.1.2 > p.2.2.2.2)) then (some false) else (ob (xCn F) (fun r13 => (some r13))))))) else none))))))))))) else none))))))))))) else none)))))))))))))))) else none))
abbrev xM5 : Sch := ⟨[(0, .ag [.k (.sl 0 9), .t C_r, .t C_b])], [.ro (.pair (.int .i64) (.pair (.int .i64) (.pair C_b (.int .i64))))]⟩
abbrev xM4 : FSch := ⟨.one (.c (.t .bool)), [.dead]⟩
def xSc (F : Nat) : Ent := ⟨4, 1, xM5, xM4, fun s => xGH F s.1 s.2, []⟩
theorem xKC (F : Nat) : xAK Tryd.prog 4 1 xM5 xM4 (fun s => xGH F s.1 s.2) :=
 xAV (call := xAz Tryd.prog 70 plans (xJF F) 20) (Fu := 70) (pl := xBc plans 4) (d := 1000) (an := .no) (xAc xAa 70 xAg (xHf F) 20) xAa (by kernel_rfl) (xAo (c := xAe Tryd.prog 4) (p := []) (trivial)) (fun s => by kernel_rfl)
def xSb (F : Nat) : List Ent := xSc F :: xJF F
theorem tMixes_T_ok (F : Nat) : xAs Tryd.prog (xSb F) := ⟨⟨by kernel_rfl, xKC F⟩, xHf F⟩
end
end Go.Proofs.YtcbbhiobibhdnaaDoor
