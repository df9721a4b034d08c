/- A part of the proof of the theorem of the last file. No condition. By an AI agent. -/
import Derived.Test.YtnomnijhlbalaaaGreatDoorWJS3
set_option maxRecDepth 100000
namespace Go.Proofs.YtnomnijhlbalaaaGreatDoor
section
open Go.RowKit Go.Proofs Go.Proofs.YtnomnijhlbalaaaGreatDoor Go.ChangeShapes Go.WideShapes Go.ChangeAt Go.WideMaps Go.WideElems Go.Deep
theorem xFg {a b : Bool} (h : a = true) (k : b = true) : (a && b) = true := by rw [h, k]; rfl
theorem jclosed : joinedFacts Tryz.pinned.checked.prog 3 Tryz.f3 Rows.topStoreSpec Rows.topStoreRow = true := (xFg (xFg (xFg (xFg (xFg (xFg (xFg (xFg (xFg (xFg (xFg (xFg (xFg (xFg (xFg (xFg (xFg (xFg (xFg (xFg (xFg (xFg (xFg (xFg (xFg (xFg (xFg (xFg (xFg (xFg (xFg jf0 jf1) jf2) jf3) jf4) jf5) jf6) jf7) jf8) jf9) jf10) jf11) jf12) jf13) jf14) jf15) jf16) jf17) jf18) jf19) jf20) jf21) jf22) jf23) jf24) jf25) jf26) jf27) jf28) jf29) jf30) jf31)
end
open Go.RowKit
def RosB (W : World) (O0 : List Info) : List Info -> List Root -> Prop
 | [], hs => hs = []
 | i :: O, hs => ∃ r l, hs = r :: l /\ ((∃ U xs, r = .ro U xs) \/ (r.tag ≠ none /\ r.obs = []) \/ ∃ t U os, r = .arr t U os) /\ RootOk O0 W i r /\ Cln i r /\ (∀ t, r.tag = some t -> ∀ j ∈ O0, j.objs t = [] \/ j = i) /\ RosB W O0 O l
theorem RosB.get {W : World} {O0 : List Info} : ∀ {O : List Info} {h : List Root}, RosB W O0 O h -> O.length = h.length /\ ∀ (id : Nat) (r : Root) (i : Info), h[id]? = some r -> O[id]? = some i -> ((∃ U xs, r = .ro U xs) \/ (r.tag ≠ none /\ r.obs = []) \/ ∃ t U os, r = .arr t U os) /\ RootOk O0 W i r /\ Cln i r /\ ∀ t, r.tag = some t -> ∀ j ∈ O0, j.objs t = [] \/ j = i
 | [], _, h => by
  rw [show _ = [] from h];exact ⟨rfl, fun id r i e => by simp at e⟩
 | i :: O, _, ⟨r0, l, e, h1, h2, h3, h4, h5⟩ => by
  subst e;obtain ⟨g1, g2⟩ := RosB.get h5;refine ⟨by simp [g1], fun id r j e1 e2 => ?_⟩
  cases id with
  | zero => cases e1; cases e2; exact ⟨h1, h2, h3, h4⟩
  | succ id => exact g2 id r j (by simpa using e1) (by simpa using e2)
theorem xMF {i : Info} {r : Root} (h : (∃ U xs, r = .ro U xs) \/ (r.tag ≠ none /\ r.obs = []) \/ ∃ t U os, r = .arr t U os) (b : Nat) : ¬ own i r b := by
 rcases h with h | h | ⟨t, U, os, rfl⟩
 ·exact xFJ (.inl h) b
 ·exact xFJ (.inr h) b
 ·exact fun h => h
def feet : List Info -> List Root -> List Nat
 | i :: O, r :: h => xRI i r ++ feet O h
 | _, _ => []
theorem xQu : ∀ {O : List Info} {h : List Root} {p b : Nat} {r : Root} {i : Info}, h[p]? = some r -> O[p]? = some i -> b ∈ xRI i r -> b ∈ feet O h
 | [], _, p, b, _, _, _, h, _ => by simp at h
 | _ :: _, [], p, b, _, _, h, _, _ => by simp at h
 | i :: O, r :: h, 0, b, _, _, e1, e2, hb => by
  cases e1; cases e2;exact List.mem_append_left _ hb
 | i :: O, r :: h, p + 1, b, _, _, e1, e2, hb => List.mem_append_right _ (xQu (by simpa using e1) (by simpa using e2) hb)
theorem xRB {P : Program} {f n : Nat} {l : List (Nat × PK)} {rs os : List RK} {spec : Sch.ty ⟨l, rs⟩ -> Option (FSch.ty ⟨.one (.c (.t .bool)), os⟩)} (h : FnSem P f n ⟨l, rs⟩ ⟨.one (.c (.t .bool)), os⟩ spec) (s : Sch.ty ⟨l, rs⟩) (t : FSch.ty ⟨.one (.c (.t .bool)), os⟩) (hs : spec s = some t) (ht : FSch.a ⟨.one (.c (.t .bool)), os⟩ t = true) (vs : List Value) (hn : vs.length = n) (W : World) (hcl : xA3 P f = true) (O : List Info) (ha : ArgsR O vs l (Sch.a ⟨l, rs⟩ s)) (hr : RosB W O O (xAe same rs (Sch.b ⟨l, rs⟩ s))) (hg : gOk W /\ ∀ b ∈ xIJ, b < W.heap.size) :
  Calls P f vs.toArray W (fun e W' => e = .returned (.bool true) /\ Ex [] W W') := by
 obtain ⟨g1, g2⟩ := hr.get;have hO : HOk [] (feet O (xAe same rs (Sch.b ⟨l, rs⟩ s))) W O (xAe same rs (Sch.b ⟨l, rs⟩ s)) W := by
  refine ⟨Ex.refl _ _, g1, fun id r i e1 e2 => (g2 id r i e1 e2).2.1, fun p q r s i j b hne e1 e2 e3 e4 ho => absurd ho (xMF (g2 p r i e1 e3).1 b), fun p r i b e1 e2 ho => absurd ho (xMF (g2 p r i e1 e2).1 b), fun p r i b e1 e2 ho => .inr (.inr (xQu e1 e2 (xNb.2 ho))), hg.1, fun b hb => ⟨hg.2 b hb, by simp⟩, fun p t r i e1 e2 ht id j m v hj hv => ?_, fun p r i e1 e2 => (g2 p r i e1 e2).2.2.1⟩;rcases (g2 p r i e1 e2).2.2.2 t ht j (List.mem_of_getElem? hj) with h0 | h0
  ·rw [h0] at hv; simp at hv
  ·rw [<- h0]; exact hv
 refine (h s t hs [] _ W O W vs hn ha.den hO hcl).mono ?_
 rintro e w' ⟨Z', u, rfl, _, hu, hh, _⟩
 have hu' : u = .bool (FSch.a ⟨.one (.c (.t .bool)), os⟩ t) := hu.1;rw [ht] at hu';exact ⟨congrArg _ hu', hh.ext⟩
section
open Go.Proofs Go.ChangeShapes Go.WideShapes Go.Deep
structure PE where
 (i1 : Info) (x1 : List Int)
def PE.v1 (y : PE) : Value := .slice y.i1.a y.x1.length y.i1.cap
def PE.vals (y : PE) : List Value := [y.v1]
structure PEok (W : World) (y : PE) : Prop where
 s1 : SlIn W (.int .u8) y.i1 y.x1
theorem fcP : Tryz.prog.cellsOf 44 = 1 := by kernel_rfl
section
variable {H : Type} {enc : TypeId × Value -> H} {W : World}
theorem SlIn.rootR {O : List Info} {U : TC} {i : Info} {xs : List U.ty} (h : SlIn W U i xs) : RootOk O W i (.ro U xs) := by
 obtain ⟨h1, vs, h2, h3⟩ := h.root;exact ⟨h1, vs, h2.mono (pre_nil O), h3⟩
theorem pe_in {fuel : Nat} {cs : List Value} {x : DataW H × List MemPlace} (h : DataW.trod enc Tryz.prog W 0 (fun _ => true) true fuel 44 cs = some x) : ∃ y : PE, cs = y.vals /\ PEok W y := by
 obtain ⟨i2, x2, q2, s2⟩ := xWx (d := 20) (U := (.int .u8)) Tryz.underlying44 (by kernel_rfl) (by kernel_rfl) (by kernel_rfl) (by decide) (TC.dflt (.int .u8)) h;exact ⟨⟨i2, x2⟩, q2, ⟨s2⟩⟩
theorem pe_len (y : PE) : y.vals.length = 1 := rfl
def pnum : Nat -> List PE -> List Nat
 | _, [] => []
 | j, _ :: ys => (j + 1) :: pnum (j + 1) ys
theorem xKI : ∀ (ys : List PE) (j : Nat), (pnum j ys).length = ys.length
 | [], _ => rfl
 | y :: ys, j => by simp [pnum, xKI ys]
def i7 (ys : List PE) : Info := ⟨none, 0, none, .tuple ⟨.int .i64 7 :: ys.map PE.v1⟩⟩
theorem xUz (ys : List PE) : (i7 ys).objs 7 = ys.map PE.v1 := rfl
theorem xQg (ys : List PE) {t : Nat} (h : t ≠ 7) : (i7 ys).objs t = [] := by
 show (if (7 : Int) = (t : Int) then ys.map PE.v1 else []) = [];rw [if_neg (by omega)]
theorem xPK {O : List Info} {ys : List PE} {p : Nat} (h7 : O[p]? = some (i7 ys)) : ∀ (zs : List PE) (j : Nat), (∀ (m : Nat) z, zs[m]? = some z -> ys[j + m]? = some z) -> DenL O (flat (.rf 1 7) (pnum j zs)) (zs.flatMap PE.vals)
 | [], _, _ => rfl
 | z :: zs, j, hz => by
  have ih := xPK h7 zs (j + 1) (fun m x hx => by rw [show j + 1 + m = j + (m + 1) by omega]; exact hz (m + 1) x (by simpa using hx));have h0 : ys[j]? = some z := hz 0 z rfl;show DenL O ([.rf 1 7 (j + 1)] ++ flat (.rf 1 7) (pnum (j + 1) zs)) ([z.v1] ++ zs.flatMap PE.vals);refine DenL.app ⟨_, [], rfl, ?_, rfl⟩ ih;exact .inr ⟨j, p, i7 ys, rfl, h7, by rw [xUz, List.getElem?_map, h0]; rfl, _, _, _, rfl⟩
theorem ob_in {O : List Info} {U : TC} {i : Info} {xs : List U.ty} (h : SlIn W U i xs) : ObOk O W (.slice i.a xs.length i.cap) (.rr U xs) := by
 obtain ⟨_, vs, h2, h3⟩ := h.root;exact ⟨i.a, i.cap, rfl, h.le, h.big, vs, h2.mono (pre_nil O), h3⟩
theorem arr_in {O : List Info} {U : TC} (t : Nat) {i : Info} {l : List (Value × List U.ty)} (hi : i.objs t = l.map Prod.fst) (h : ∀ x ∈ l, ObOk O W x.1 (.rr U x.2)) : RootOk O W i (.arr t U (l.map Prod.snd)) := by
 show ArOk O W (i.objs t) _;rw [hi];refine ⟨by simp [Root.obs], fun m v o hv ho => ?_, fun m m' v v' o o' b _ _ _ ho _ hb => ?_⟩
 ·simp only [Root.obs, List.getElem?_map] at hv ho
  cases hx : l[m]? with
  | none => rw [hx] at hv; cases hv
  | some x =>
   rw [hx] at hv ho;cases hv; cases ho;exact h x (List.mem_of_getElem? hx)
 ·simp only [Root.obs, List.getElem?_map] at ho
  cases hx : l[m]? with
  | none => rw [hx] at ho; cases ho
  | some x => rw [hx] at ho; cases ho; cases hb
structure PsIn (W : World) (a : Option Addr) (cap : Nat) (ys : List PE) : Prop where
 ok : ∀ y ∈ ys, PEok W y
 sl : Sl 1 PE.vals W a cap ys
def iP (a : Option Addr) (cap : Nat) (ys : List PE) : Info := ⟨a, cap, some ys.length, undef⟩
theorem xRp {fuel : Nat} {cs : List Value} {x : DataW H × List MemPlace} (h : DataW.trod enc Tryz.prog W 0 (fun _ => true) true fuel 23 cs = some x) : ∃ (a : Option Addr) (cap : Nat) (ys : List PE), cs = [.slice a ys.length cap] /\ PsIn W a cap ys := by
 obtain ⟨a, cap, ys, e1, e2, e3⟩ := xQm (f := PE.vals) (Pr := PEok W) ⟨nilI, []⟩ Tryz.underlying23 fcP (by decide) pe_len (fun n cs x h => pe_in h) h rfl;exact ⟨a, cap, ys, e1, e3, e2⟩
theorem PsIn.den {O : List Info} {a : Option Addr} {cap : Nat} {ys : List PE} (h : PsIn W a cap ys) {id k : Nat} (hi : O[id]? = some (iP a cap ys)) : Den O (.sl id k 0 none none) (.slice a ys.length cap) := by
 refine ⟨iP a cap ys, a, cap, ys.length, hi, rfl, h.sl.le, h.sl.big, fun h0 => ?_, ⟨_, rfl, by rw [Nat.sub_zero]⟩, ⟨_, rfl, by omega⟩, by rw [Nat.sub_zero]; rfl, rfl, fun _ => rfl, fun _ => ?_⟩
 ·obtain ⟨b, o, ha, _⟩ := h.sl.cells h0;exact ⟨b, o, ha⟩
 ·rw [Nat.zero_mul];show a = a.map (·.add 0)
  cases a with
  | none => rfl
  | some a => show some a = some (a.add 0); unfold Addr.add; rw [if_pos rfl]
theorem PsIn.root {O : List Info} {a : Option Addr} {cap : Nat} {ys : List PE} (h : PsIn W a cap ys) {p : Nat} (h7 : O[p]? = some (i7 ys)) : RootOk O W (iP a cap ys) (.ro (.rf 1 7) (pnum 0 ys)) := by
 refine ⟨by rw [xKI]; rfl, ys.flatMap PE.vals, xPK h7 ys 0 (fun m z hz => by rw [Nat.zero_add]; exact hz), fun h0 => ?_⟩;rw [xKI] at h0;obtain ⟨b, off, ha, hb, hcl⟩ := h.sl.cells h0;refine ⟨b, off, ha, hb, fun j v hv => ?_⟩;obtain ⟨i, hi, j', e4, e5⟩ := xIL (f := PE.vals) pe_len ys j v hv;rw [e4, <- Nat.add_assoc];exact hcl i hi j' v e5
theorem PsIn.arr7 {O : List Info} {a : Option Addr} {cap : Nat} {ys : List PE} (h : PsIn W a cap ys) : RootOk O W (i7 ys) (.arr 7 (.int .u8) (ys.map PE.x1)) := by
 have := arr_in (O := O) (W := W) (U := .int .u8) 7 (i := i7 ys) (l := ys.map (fun y => (y.v1, y.x1))) (by rw [xUz, List.map_map]; rfl) (fun x hx => by
  obtain ⟨y, hy, rfl⟩ := List.mem_map.1 hx;exact ob_in (h.ok y hy).s1)
 rw [List.map_map] at this;exact this
theorem emR {O0 : List Info} {r : Root} (h1 : r.tag ≠ none) (h2 : r.obs = []) : RootOk O0 W nilI r := by
 obtain ⟨t, ht⟩ := Option.ne_none_iff_exists'.1 h1;refine (xEe ht).1.2 ?_;rw [h2, xAx];exact ⟨rfl, fun m v o h => by simp at h, fun m m' v v' o o' b _ h => by simp at h⟩
end
end
end Go.Proofs.YtnomnijhlbalaaaGreatDoor
