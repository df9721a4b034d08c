/- By an AI agent. No person has read it. -/
import Derived.Test.YtbnapejkjaddoaaDoorWPL10a
import Derived.Ground.NamesProg
import Derived.Shelf.Strings.SlTrimAscii
namespace Go.Proofs
open Go.Shelf
def Tryd.lays160_ren : Go.Shelf.Ren := ⟨fun | 160 => 100 | 232 => 103 | 231 => 102 | 227 => 104 | 234 => 106 | 233 => 105 | 236 => 108 | 235 => 107 | 228 => 109 | 271 => 112 | 151 => 111 | 197 => 110 | 120 => 115 | 152 => 114 | 260 => 113 | 137 => 116 | 119 => 117 | 224 => 118 | 225 => 119 | 217 => 120 | 266 => 121 | n => n, fun | 9 => 9 | 4 => 4 | 3 => 3 | 5 => 5 | 117 => 170 | 116 => 169 | 0 => 0 | 124 => 173 | 21 => 21 | 105 => 175 | 46 => 69 | 119 => 179 | 139 => 182 | 138 => 181 | n => n, fun | 3 => 0 | 4 => 1 | n => n⟩
theorem Tryd.lays160 : Go.Proofs.Lays.n160 Tryd.prog Tryd.lays160_ren := {
  mixed := by kernel_rfl
  f119 := Tryd.func117.trans (congrArg some (by kernel_rfl))
  f120 := Tryd.func115.trans (congrArg some (by kernel_rfl))
  f137 := Tryd.func116.trans (congrArg some (by kernel_rfl))
  f151 := Tryd.func111.trans (congrArg some (by kernel_rfl))
  f152 := Tryd.func114.trans (congrArg some (by kernel_rfl))
  f160 := Tryd.func100.trans (congrArg some (by kernel_rfl))
  f197 := Tryd.func110.trans (congrArg some (by kernel_rfl))
  f217 := Tryd.func120.trans (congrArg some (by kernel_rfl))
  f224 := Tryd.func118.trans (congrArg some (by kernel_rfl))
  f225 := Tryd.func119.trans (congrArg some (by kernel_rfl))
  f227 := Tryd.func104.trans (congrArg some (by kernel_rfl))
  f228 := Tryd.func109.trans (congrArg some (by kernel_rfl))
  f231 := Tryd.func102.trans (congrArg some (by kernel_rfl))
  f232 := Tryd.func103.trans (congrArg some (by kernel_rfl))
  f233 := Tryd.func105.trans (congrArg some (by kernel_rfl))
  f234 := Tryd.func106.trans (congrArg some (by kernel_rfl))
  f235 := Tryd.func107.trans (congrArg some (by kernel_rfl))
  f236 := Tryd.func108.trans (congrArg some (by kernel_rfl))
  f260 := Tryd.func113.trans (congrArg some (by kernel_rfl))
  f266 := Tryd.func121.trans (congrArg some (by kernel_rfl))
  f271 := Tryd.func112.trans (congrArg some (by kernel_rfl))
  t0 := Tryd.underlying0
  a0 := Tryd.isAgg0
  z0 := Tryd.sizeOf0
  v0 := Tryd.zeroValue0
  t3 := Tryd.underlying3
  a3 := Tryd.isAgg3
  z3 := Tryd.sizeOf3
  v3 := Tryd.zeroValue3
  t4 := Tryd.underlying4
  a4 := Tryd.isAgg4
  z4 := Tryd.sizeOf4
  v4 := Tryd.zeroValue4
  t5 := Tryd.underlying5
  a5 := Tryd.isAgg5
  z5 := Tryd.sizeOf5
  v5 := Tryd.zeroValue5
  t9 := Tryd.underlying9
  a9 := Tryd.isAgg9
  z9 := Tryd.sizeOf9
  v9 := Tryd.zeroValue9
  t21 := Tryd.underlying21
  a21 := Tryd.isAgg21
  z21 := Tryd.sizeOf21
  v21 := Tryd.zeroValue21
  t46 := Tryd.underlying69
  a46 := Tryd.isAgg69
  z46 := Tryd.sizeOf69
  v46 := Tryd.zeroValue69
  t105 := Tryd.underlying175
  a105 := Tryd.isAgg175
  z105 := Tryd.sizeOf175
  v105 := Tryd.zeroValue175
  t116 := Tryd.underlying169
  a116 := Tryd.isAgg169
  z116 := Tryd.sizeOf169
  t117 := Tryd.underlying170
  a117 := Tryd.isAgg170
  z117 := Tryd.sizeOf170
  v117 := Tryd.zeroValue170
  t119 := Tryd.underlying179
  a119 := Tryd.isAgg179
  z119 := Tryd.sizeOf179
  t124 := Tryd.underlying173
  a124 := Tryd.isAgg173
  z124 := Tryd.sizeOf173
  v124 := Tryd.zeroValue173
  t138 := Tryd.underlying181
  a138 := Tryd.isAgg181
  z138 := Tryd.sizeOf181
  v138 := Tryd.zeroValue181
  t139 := Tryd.underlying182
  a139 := Tryd.isAgg182
  z139 := Tryd.sizeOf182
  v139 := Tryd.zeroValue182
  g3 := by kernel_rfl
  g4 := by kernel_rfl }
end Go.Proofs
namespace Go.Proofs.YtbnapejkjaddoaaDoor
open Go.RowKit Go.Proofs
noncomputable section
def asciiB (c : ByteArray) : Bool := c.data.toList.all (fun b => decide (b.toNat < 128))
def trim_S (_ : Nat) (s c : ByteArray) : Option ByteArray := bif asciiB c && (decide (s.size ≤ 1000000) && decide (c.size ≤ 1000000)) then some ⟨(Lib.trimS s.data.toList c.data.toList).toArray⟩ else none
abbrev trim_I : Sch := ⟨[(0, .c (.t .str)), (1, .c (.t .str))], []⟩
abbrev trim_O : FSch := ⟨.one (.c (.t .str)), []⟩
def trim_E (F : Nat) : Ent := ⟨100, 2, trim_I, trim_O, fun s => trim_S F s.1 s.2⟩
theorem trim_ok (F : Nat) : FnSem Tryd.prog 100 2 trim_I trim_O (fun s => trim_S F s.1 s.2) := by
  intro s t hst S F' W0 ι w vs hlen hden hh hcl
  obtain ⟨x, y⟩ := s
  obtain ⟨v0, h0, g0⟩ := hden 0 (.c (.sc (.string x))) rfl
  obtain ⟨v1, h1, g1⟩ := hden 1 (.c (.sc (.string y))) rfl
  have e0 : v0 = .string x := h0.1
  have e1 : v1 = .string y := h1.1
  subst e0; subst e1
  have hvs : vs = [.string x, .string y] := by
    match vs, hlen with
    | [a, b], _ => simp at g0 g1; rw [g0, g1]
  subst hvs
  simp only [trim_S] at hst
  cases hc : (asciiB y && (decide (x.size ≤ 1000000) && decide (y.size ≤ 1000000))) with
  | false => rw [hc] at hst; cases hst
  | true =>
    rw [hc] at hst
    cases hst
    simp only [Bool.and_eq_true, decide_eq_true_eq] at hc
    have hcon := Any.strings_Trim_laid Tryd.lays160 (by kernel_rfl) x y w (by omega) (by omega) (ascii_of_all hc.1)
    refine hcon.mono ?_
    rintro e w' ⟨rfl, hb⟩
    exact ⟨ι, _, rfl, PreM.refl _ _, ⟨rfl, rfl⟩, hh.ext' (Ex.of_below hb), Nat.le_refl _⟩
end
end Go.Proofs.YtbnapejkjaddoaaDoor
