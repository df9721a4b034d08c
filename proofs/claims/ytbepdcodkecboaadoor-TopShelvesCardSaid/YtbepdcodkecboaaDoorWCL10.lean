/- slices.Clone of whole numbers: by the library's contract, be the slice nil, empty or not. No condition. -/
import Derived.Test.YtbepdcodkecboaaDoorWPL10a
import Derived.Ground.NamesProg
import Derived.Shelf.Strings.SlTrimAscii
import Derived.Shelf.Slices.Clone
namespace Go.Proofs
open Go.Shelf
def Tryd.lays160_ren : Go.Shelf.Ren := ⟨fun | 160 => 69 | 232 => 78 | 231 => 77 | 227 => 79 | 234 => 81 | 233 => 80 | 236 => 83 | 235 => 82 | 228 => 84 | 271 => 87 | 151 => 86 | 197 => 85 | 120 => 90 | 152 => 89 | 260 => 88 | 137 => 91 | 119 => 92 | 224 => 93 | 225 => 94 | 217 => 95 | 266 => 96 | n => n, fun | 9 => 9 | 4 => 4 | 3 => 3 | 5 => 5 | 117 => 162 | 116 => 161 | 0 => 0 | 124 => 165 | 21 => 21 | 105 => 167 | 46 => 172 | 119 => 171 | 139 => 175 | 138 => 174 | n => n, fun | 3 => 0 | 4 => 1 | n => n⟩
theorem Tryd.lays160 : Go.Proofs.Lays.n160 Tryd.prog Tryd.lays160_ren := {
  mixed := by kernel_rfl
  f119 := Tryd.func92.trans (congrArg some (by kernel_rfl))
  f120 := Tryd.func90.trans (congrArg some (by kernel_rfl))
  f137 := Tryd.func91.trans (congrArg some (by kernel_rfl))
  f151 := Tryd.func86.trans (congrArg some (by kernel_rfl))
  f152 := Tryd.func89.trans (congrArg some (by kernel_rfl))
  f160 := Tryd.func69.trans (congrArg some (by kernel_rfl))
  f197 := Tryd.func85.trans (congrArg some (by kernel_rfl))
  f217 := Tryd.func95.trans (congrArg some (by kernel_rfl))
  f224 := Tryd.func93.trans (congrArg some (by kernel_rfl))
  f225 := Tryd.func94.trans (congrArg some (by kernel_rfl))
  f227 := Tryd.func79.trans (congrArg some (by kernel_rfl))
  f228 := Tryd.func84.trans (congrArg some (by kernel_rfl))
  f231 := Tryd.func77.trans (congrArg some (by kernel_rfl))
  f232 := Tryd.func78.trans (congrArg some (by kernel_rfl))
  f233 := Tryd.func80.trans (congrArg some (by kernel_rfl))
  f234 := Tryd.func81.trans (congrArg some (by kernel_rfl))
  f235 := Tryd.func82.trans (congrArg some (by kernel_rfl))
  f236 := Tryd.func83.trans (congrArg some (by kernel_rfl))
  f260 := Tryd.func88.trans (congrArg some (by kernel_rfl))
  f266 := Tryd.func96.trans (congrArg some (by kernel_rfl))
  f271 := Tryd.func87.trans (congrArg some (by kernel_rfl))
  t0 := Tryd.underlying0
  a0 := Tryd.isAgg0
  z0 := Tryd.sizeOf0
  v0 := Tryd.zeroValue0
  t3 := Tryd.underlying3
  a3 := Tryd.isAgg3
  z3 := Tryd.sizeOf3
  v3 := Tryd.zeroValue3
  t4 := Tryd.underlying4
  a4 := Tryd.isAgg4
  z4 := Tryd.sizeOf4
  v4 := Tryd.zeroValue4
  t5 := Tryd.underlying5
  a5 := Tryd.isAgg5
  z5 := Tryd.sizeOf5
  v5 := Tryd.zeroValue5
  t9 := Tryd.underlying9
  a9 := Tryd.isAgg9
  z9 := Tryd.sizeOf9
  v9 := Tryd.zeroValue9
  t21 := Tryd.underlying21
  a21 := Tryd.isAgg21
  z21 := Tryd.sizeOf21
  v21 := Tryd.zeroValue21
  t46 := Tryd.underlying172
  a46 := Tryd.isAgg172
  z46 := Tryd.sizeOf172
  v46 := Tryd.zeroValue172
  t105 := Tryd.underlying167
  a105 := Tryd.isAgg167
  z105 := Tryd.sizeOf167
  v105 := Tryd.zeroValue167
  t116 := Tryd.underlying161
  a116 := Tryd.isAgg161
  z116 := Tryd.sizeOf161
  t117 := Tryd.underlying162
  a117 := Tryd.isAgg162
  z117 := Tryd.sizeOf162
  v117 := Tryd.zeroValue162
  t119 := Tryd.underlying171
  a119 := Tryd.isAgg171
  z119 := Tryd.sizeOf171
  t124 := Tryd.underlying165
  a124 := Tryd.isAgg165
  z124 := Tryd.sizeOf165
  v124 := Tryd.zeroValue165
  t138 := Tryd.underlying174
  a138 := Tryd.isAgg174
  z138 := Tryd.sizeOf174
  v138 := Tryd.zeroValue174
  t139 := Tryd.underlying175
  a139 := Tryd.isAgg175
  z139 := Tryd.sizeOf175
  v139 := Tryd.zeroValue175
  g3 := by kernel_rfl
  g4 := by kernel_rfl }
end Go.Proofs
namespace Go.Proofs.YtbepdcodkecboaaDoor
open Go.RowKit Go.Proofs
noncomputable section
def asciiB (c : ByteArray) : Bool := c.data.toList.all (fun b => decide (b.toNat < 128))
def trim_S (_ : Nat) (s c : ByteArray) : Option ByteArray := bif asciiB c && (decide (s.size ≤ 1000000) && decide (c.size ≤ 1000000)) then some ⟨(Lib.trimS s.data.toList c.data.toList).toArray⟩ else none
abbrev trim_I : Sch := ⟨[(0, .c (.t .str)), (1, .c (.t .str))], []⟩
abbrev trim_O : FSch := ⟨.one (.c (.t .str)), []⟩
def trim_E (F : Nat) : Ent := ⟨69, 2, trim_I, trim_O, fun s => trim_S F s.1 s.2, []⟩
theorem trim_ok (F : Nat) : FnSem Tryd.prog 69 2 trim_I trim_O (fun s => trim_S F s.1 s.2) := by
  intro s t hst S F' W0 ι w vs hlen hden hh hcl
  obtain ⟨x, y⟩ := s
  obtain ⟨v0, h0, g0⟩ := hden 0 (.c (.sc (.string x))) rfl
  obtain ⟨v1, h1, g1⟩ := hden 1 (.c (.sc (.string y))) rfl
  have e0 : v0 = .string x := h0.1
  have e1 : v1 = .string y := h1.1
  subst e0; subst e1
  have hvs : vs = [.string x, .string y] := by
    match vs, hlen with
    | [a, b], _ => simp at g0 g1; rw [g0, g1]
  subst hvs
  simp only [trim_S] at hst
  cases hc : (asciiB y && (decide (x.size ≤ 1000000) && decide (y.size ≤ 1000000))) with
  | false => rw [hc] at hst; cases hst
  | true =>
    rw [hc] at hst
    cases hst
    simp only [Bool.and_eq_true, decide_eq_true_eq] at hc
    have hcon := Any.strings_Trim_laid Tryd.lays160 (by kernel_rfl) x y w (by omega) (by omega) (ascii_of_all hc.1)
    refine hcon.mono ?_
    rintro e w' ⟨rfl, hb⟩
    exact ⟨ι, _, rfl, PreM.refl _ _, ⟨rfl, rfl⟩, hh.ext' (Ex.of_below hb), Nat.le_refl _⟩
end
abbrev Cod : TC := (TC.pair (TC.int IntKind.i64) (TC.pair (TC.int IntKind.i64) (TC.pair (TC.int IntKind.i64) (TC.int IntKind.i64))))
abbrev Csp : TC := (TC.pair (TC.pair (TC.pair (TC.int IntKind.i64) (TC.int IntKind.i64)) (TC.pair (TC.pair (TC.int IntKind.i64) (TC.int IntKind.i64)) (TC.pair (TC.pair (TC.int IntKind.i64) (TC.int IntKind.i64)) (TC.pair (TC.pair (TC.int IntKind.i64) (TC.int IntKind.i64)) (TC.pair (TC.pair (TC.int IntKind.i64) (TC.int IntKind.i64)) (TC.pair (TC.int IntKind.i64) (TC.int IntKind.i64))))))) (TC.int IntKind.u8))
abbrev Cwf : TC := (TC.pair (TC.pair (TC.pair (TC.int IntKind.i64) (TC.int IntKind.i64)) (TC.pair (TC.pair (TC.int IntKind.i64) (TC.int IntKind.i64)) (TC.pair (TC.pair (TC.int IntKind.i64) (TC.int IntKind.i64)) (TC.pair (TC.pair (TC.int IntKind.i64) (TC.int IntKind.i64)) (TC.pair (TC.pair (TC.int IntKind.i64) (TC.int IntKind.i64)) (TC.pair (TC.int IntKind.i64) (TC.int IntKind.i64))))))) (TC.pair (TC.int IntKind.u8) (TC.pair TC.str (TC.pair TC.str (TC.pair TC.str (TC.pair TC.str (TC.pair TC.str TC.str)))))))
abbrev Cdd : TC := (TC.pair (TC.int IntKind.u8) (TC.pair (TC.pair (TC.int IntKind.i64) (TC.pair (TC.int IntKind.i64) (TC.pair (TC.int IntKind.i64) (TC.int IntKind.i64)))) (TC.pair (TC.pair (TC.pair (TC.pair (TC.int IntKind.i64) (TC.int IntKind.i64)) (TC.pair (TC.pair (TC.int IntKind.i64) (TC.int IntKind.i64)) (TC.pair (TC.pair (TC.int IntKind.i64) (TC.int IntKind.i64)) (TC.pair (TC.pair (TC.int IntKind.i64) (TC.int IntKind.i64)) (TC.pair (TC.pair (TC.int IntKind.i64) (TC.int IntKind.i64)) (TC.pair (TC.int IntKind.i64) (TC.int IntKind.i64))))))) (TC.pair (TC.int IntKind.u8) (TC.pair TC.str (TC.pair TC.str (TC.pair TC.str (TC.pair TC.str (TC.pair TC.str TC.str))))))) (TC.pair (TC.int IntKind.i64) (TC.int IntKind.i64)))))
abbrev Tod : Type := (Int × (Int × (Int × Int)))
abbrev Tsp : Type := (((Int × Int) × ((Int × Int) × ((Int × Int) × ((Int × Int) × ((Int × Int) × (Int × Int)))))) × Int)
abbrev Twf : Type := (((Int × Int) × ((Int × Int) × ((Int × Int) × ((Int × Int) × ((Int × Int) × (Int × Int)))))) × (Int × (ByteArray × (ByteArray × (ByteArray × (ByteArray × (ByteArray × ByteArray)))))))
abbrev Tln : Type := ((Int × (Int × (Int × Int))) × (Nat × Bool))
abbrev Tdd : Type := (Int × ((Int × (Int × (Int × Int))) × ((((Int × Int) × ((Int × Int) × ((Int × Int) × ((Int × Int) × ((Int × Int) × (Int × Int)))))) × (Int × (ByteArray × (ByteArray × (ByteArray × (ByteArray × (ByteArray × ByteArray))))))) × (Int × Int))))
abbrev Ta0 : Type := (List (Option (List Bool)))
abbrev Ta1 : Type := (List (Option (List Int)))
abbrev Ta2 : Type := (List Tln)
abbrev Ta3 : Type := (List (Nat × (List (Int × (Nat × Bool)))))
end Go.Proofs.YtbepdcodkecboaaDoor


namespace Go.Proofs
open Go.Shelf
def Tryd.laysC_ren : Go.Shelf.Ren := ⟨fun | 15 => 60 | n => n, fun | 22 => 65 | n => n, fun n => n⟩
theorem Tryd.laysC : Go.Proofs.Lays2.n15 Tryd.prog Tryd.laysC_ren := {
  mixed := by kernel_rfl
  f15 := Tryd.func60.trans (congrArg some (by kernel_rfl))
  t3 := Tryd.underlying3
  a3 := Tryd.isAgg3
  z3 := Tryd.sizeOf3
  v3 := Tryd.zeroValue3
  t4 := Tryd.underlying4
  a4 := Tryd.isAgg4
  z4 := Tryd.sizeOf4
  v4 := Tryd.zeroValue4
  t22 := Tryd.underlying65
  a22 := Tryd.isAgg65
  z22 := Tryd.sizeOf65
  v22 := Tryd.zeroValue65
  i3 := by kernel_rfl }
end Go.Proofs
namespace Go.Proofs.YtbepdcodkecboaaDoor
open Go.RowKit Go.Proofs
noncomputable section
def clone_S (_ : Nat) (l : List Int) (ar0 : Ta0) (ar1 : Ta1) : Option ((Ta0 × (Ta1 × (List Int)))) := bif lenOk 0 l.length then some (ar0, ar1, l) else none
abbrev clone_I : Sch := ⟨[(0, .c (.k (.sl 0 1)))], [.ro (.int .i64), .ars 0 4 .bool, .ars 1 3 (.int .i64)]⟩
abbrev clone_O : FSch := ⟨.one (.c (.k (.sl 5 1))), [.dead, .dead, .dead, .ars 0 4 .bool, .ars 1 3 (.int .i64), .rows 3 (.int .i64)]⟩
def clone_E (F : Nat) : Ent := ⟨60, 1, clone_I, clone_O, fun s => clone_S F s.1 s.2.1 s.2.2, []⟩
theorem flat_int : ∀ xs : List Int, flat (.int .i64) xs = xs.map (fun x => CV.sc (.int .i64 x))
  | [] => rfl
  | x :: xs => by
    have := flat_int xs
    simp only [flat, List.flatMap_cons] at this ⊢
    rw [this]; rfl
theorem denL_int {ρ : List Info} : ∀ xs : List Int, DenL ρ (xs.map (fun x => CV.sc (.int .i64 x))) (xs.map (Value.int .i64))
  | [] => rfl
  | x :: xs => ⟨_, _, rfl, ⟨rfl, rfl⟩, denL_int xs⟩
theorem denL_int_inv {ρ : List Info} : ∀ {xs : List Int} {vs : List Value}, DenL ρ (xs.map (fun x => CV.sc (.int .i64 x))) vs → vs = xs.map (Value.int .i64)
  | [], _, h => h
  | x :: xs, vs, ⟨v, r, e, h1, h2⟩ => by
    have h3 : v = .int .i64 x := h1.1
    rw [e, h3, denL_int_inv h2]; rfl
theorem clone_ok (F : Nat) : FnSem Tryd.prog 60 1 clone_I clone_O (fun s => clone_S F s.1 s.2.1 s.2.2) := by
  intro s t hst S F' W0 ι w vs hlen hden hh hcl
  obtain ⟨xs, a0, a1⟩ := s
  simp only [clone_S] at hst
  cases hc : lenOk 0 xs.length with
  | false => rw [hc] at hst; cases hst
  | true =>
    rw [hc] at hst
    cases hst
    have hsz := lenOk_ok hc
    obtain ⟨v, hv, g⟩ := hden 0 (.c (.sl 0 1 0 none none)) rfl
    have hvs : vs = [v] := by
      match vs, hlen with
      | [a], _ => simp at g; rw [g]
    subst hvs
    have hh' : HOk S F' W0 ι [.ro (.int .i64) xs, .ars 0 4 .bool a0, .ars 1 3 (.int .i64) a1] w := hh
    obtain ⟨i, a', c', nn, h1, h2, h3, h4, h5, ⟨m, h6, h7⟩, _, _, _, h10, _⟩ := hv
    have h10 := h10 rfl
    obtain ⟨g0, us, g1, g2⟩ := hh'.ok 0 (.ro (.int .i64) xs) i rfl h1
    rw [g0] at h6; cases h6
    rw [Nat.sub_zero] at h7
    subst h7
    obtain ⟨ι1, hp1, hh1⟩ := hh'.mvArs
    have hh1 : HOk S F' W0 ι1 [.ro (.int .i64) xs, .dead, .dead, .ars 0 4 .bool a0, .ars 1 3 (.int .i64) a1] w := hh1
    have hd : HOk S F' W0 ι1 [.dead, .dead, .dead, .ars 0 4 .bool a0, .ars 1 3 (.int .i64) a1] w := by
      have := hh1.masked [3, 4]
      exact this
    have fin : ∀ (v' : Value) (w' : World), w'.ownsRow w.heap.size 3 1 v' xs.length (xs.map (Value.int .i64)) → Ext w w' → ∃ ι' u, Ending.returned v' = .returned u ∧ PreM clone_I.roots.length ι ι' ∧ DenP ι' (clone_O.res.enc same (clone_O.a (a0, a1, xs))) u ∧ HOk S F' W0 ι' (rsEnc same clone_O.roots (clone_O.b (a0, a1, xs))) w' ∧ clone_I.roots.length ≤ clone_O.roots.length := by
      intro v' w' hown hE
      obtain ⟨q1, q2⟩ := hown
      have key : ∃ aa cap, v' = .slice aa xs.length cap ∧ ownsAt w' 3 1 aa cap xs.length (xs.map (Value.int .i64)) ∧ xs.length ≤ cap ∧ cap ≤ maxLen ∧ (0 < xs.length → ∃ b o, aa = some ⟨b, o, none⟩) ∧ ∀ b, aa.map (·.block) = some b → w.heap.size ≤ b := by
        rcases q2 with ⟨h2, h3⟩ | ⟨g, cap, cur, h2, h3, h4, h5, h6, h7, h8⟩
        · refine ⟨none, 0, by rw [h2, h3], ⟨q1, by omega, by unfold maxLen; omega, .inl ⟨rfl, by simp⟩⟩, by omega, by unfold maxLen; omega, by omega, by simp⟩
        · refine ⟨some ⟨g, 0, none⟩, cap, h2, ⟨q1, h5, h6, .inr ⟨g, 0, cur, rfl, h4, by omega, by simpa using h8⟩⟩, h5, h6, fun _ => ⟨g, 0, rfl⟩, fun b hb => ?_⟩
          simp only [Option.map_some, Option.some.injEq] at hb
          omega
      obtain ⟨aa, cap, e, k1, k2, k3, k4, k5⟩ := key
      subst e
      have hl := hd.len
      have hl' : ι1.length = 5 := hl
      have hg : (ι1 ++ [⟨aa, cap, some xs.length, .nilFunc⟩])[5]? = some ⟨aa, cap, some xs.length, .nilFunc⟩ := by
        rw [List.getElem?_append_right (by omega), hl']; rfl
      refine ⟨ι1 ++ [⟨aa, cap, some xs.length, .nilFunc⟩], _, rfl, (hp1.trans (Pre.app _ _)).m, ⟨_, aa, cap, xs.length, hg, rfl, k2, k3, k4, ⟨_, rfl, (Nat.sub_zero _).symm⟩, ⟨_, rfl, by omega⟩, (Nat.sub_zero _).symm, rfl, fun _ => rfl, fun _ => ?_⟩, ?_, (by decide)⟩
      · cases aa <;> simp [Addr.add]
      · exact hd.add hE ⟨aa, cap, some xs.length, .nilFunc⟩ (.rows 3 (.int .i64) xs) ⟨rfl, Nat.lt_succ_self 0, xs.map (Value.int .i64), by rw [flat_int]; exact denL_int xs, k1⟩ (fun b hb => k5 b hb)
    rw [flat_int] at g1
    have hus := denL_int_inv g1
    rw [h2, h10]
    cases ha : i.a with
    | none =>
      have hx : xs.length = 0 := by
        rcases Nat.eq_zero_or_pos xs.length with h | h
        · exact h
        · obtain ⟨b, o, e⟩ := h5 h
          rw [ha] at e; cases e
      refine (Any.slices_Clone_int_nil Tryd.laysC xs.length c' w).mono ?_
      rintro e w' ⟨rfl, rfl⟩
      refine fin _ _ ⟨by simp, .inl ⟨rfl, hx⟩⟩ (Ex.refl [] _)
    | some ad =>
      rcases Nat.eq_zero_or_pos xs.length with h | h
      · rw [h]
        refine (Any.slices_Clone_int_zero Tryd.laysC ad c' w).mono ?_
        rintro e w' ⟨v', rfl, hown, _, hb⟩
        have hx : xs = [] := List.length_eq_zero_iff.1 h
        subst hx
        exact fin _ _ hown (Ex.of_below hb)
      · obtain ⟨b, o, e⟩ := h5 h
        rw [ha] at e; cases e
        obtain ⟨b', o', e', hlt, hcell⟩ := g2 h
        rw [ha] at e'; cases e'
        refine (Any.slices_Clone_int Tryd.laysC b o xs.length c' xs w (Nat.le_refl _) (by omega) (fun j hj => ?_)).mono ?_
        · refine hcell j _ ?_
          rw [hus, List.getElem?_map, List.getElem?_eq_getElem hj]
          simp [List.getD, List.getElem?_eq_getElem hj]
        · rintro e w' ⟨v', rfl, hown, _, hb⟩
          rw [List.take_length] at hown
          exact fin _ _ hown (Ex.of_below hb)
def clone_T (F : Nat) : List Ent := [clone_E F, trim_E F]
theorem clone_T_ok (F : Nat) : EntsOk Tryd.prog (clone_T F) := ⟨⟨by kernel_rfl, clone_ok F⟩, ⟨by kernel_rfl, trim_ok F⟩, trivial⟩
end
end Go.Proofs.YtbepdcodkecboaaDoor
