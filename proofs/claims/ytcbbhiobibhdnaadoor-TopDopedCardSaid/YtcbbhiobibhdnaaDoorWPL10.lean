/- By an AI agent. No person has read it. -/
import Derived.Test.YtcbbhiobibhdnaaDoorWPL10a
import Derived.Ground.NamesProg
import Derived.Shelf.Strings.SlTrimAscii
namespace Go.Proofs
open Go.Shelf
def Tryd.lays160_ren : Go.Shelf.Ren := ⟨fun | 160 => 107 | 232 => 111 | 231 => 110 | 227 => 112 | 234 => 114 | 233 => 113 | 236 => 116 | 235 => 115 | 228 => 117 | 271 => 120 | 151 => 119 | 197 => 118 | 120 => 123 | 152 => 122 | 260 => 121 | 137 => 124 | 119 => 125 | 224 => 126 | 225 => 127 | 217 => 128 | 266 => 129 | n => n, fun | 9 => 9 | 4 => 4 | 3 => 3 | 5 => 5 | 117 => 199 | 116 => 198 | 0 => 0 | 124 => 202 | 21 => 21 | 105 => 204 | 46 => 185 | 119 => 208 | 139 => 211 | 138 => 210 | n => n, fun | 3 => 5 | 4 => 6 | n => n⟩
theorem Tryd.lays160 : Go.Proofs.Lays.n160 Tryd.prog Tryd.lays160_ren := {
  mixed := by kernel_rfl
  f119 := Tryd.func125.trans (congrArg some (by kernel_rfl))
  f120 := Tryd.func123.trans (congrArg some (by kernel_rfl))
  f137 := Tryd.func124.trans (congrArg some (by kernel_rfl))
  f151 := Tryd.func119.trans (congrArg some (by kernel_rfl))
  f152 := Tryd.func122.trans (congrArg some (by kernel_rfl))
  f160 := Tryd.func107.trans (congrArg some (by kernel_rfl))
  f197 := Tryd.func118.trans (congrArg some (by kernel_rfl))
  f217 := Tryd.func128.trans (congrArg some (by kernel_rfl))
  f224 := Tryd.func126.trans (congrArg some (by kernel_rfl))
  f225 := Tryd.func127.trans (congrArg some (by kernel_rfl))
  f227 := Tryd.func112.trans (congrArg some (by kernel_rfl))
  f228 := Tryd.func117.trans (congrArg some (by kernel_rfl))
  f231 := Tryd.func110.trans (congrArg some (by kernel_rfl))
  f232 := Tryd.func111.trans (congrArg some (by kernel_rfl))
  f233 := Tryd.func113.trans (congrArg some (by kernel_rfl))
  f234 := Tryd.func114.trans (congrArg some (by kernel_rfl))
  f235 := Tryd.func115.trans (congrArg some (by kernel_rfl))
  f236 := Tryd.func116.trans (congrArg some (by kernel_rfl))
  f260 := Tryd.func121.trans (congrArg some (by kernel_rfl))
  f266 := Tryd.func129.trans (congrArg some (by kernel_rfl))
  f271 := Tryd.func120.trans (congrArg some (by kernel_rfl))
  t0 := Tryd.underlying0
  a0 := Tryd.isAgg0
  z0 := Tryd.sizeOf0
  v0 := Tryd.zeroValue0
  t3 := Tryd.underlying3
  a3 := Tryd.isAgg3
  z3 := Tryd.sizeOf3
  v3 := Tryd.zeroValue3
  t4 := Tryd.underlying4
  a4 := Tryd.isAgg4
  z4 := Tryd.sizeOf4
  v4 := Tryd.zeroValue4
  t5 := Tryd.underlying5
  a5 := Tryd.isAgg5
  z5 := Tryd.sizeOf5
  v5 := Tryd.zeroValue5
  t9 := Tryd.underlying9
  a9 := Tryd.isAgg9
  z9 := Tryd.sizeOf9
  v9 := Tryd.zeroValue9
  t21 := Tryd.underlying21
  a21 := Tryd.isAgg21
  z21 := Tryd.sizeOf21
  v21 := Tryd.zeroValue21
  t46 := Tryd.underlying185
  a46 := Tryd.isAgg185
  z46 := Tryd.sizeOf185
  v46 := Tryd.zeroValue185
  t105 := Tryd.underlying204
  a105 := Tryd.isAgg204
  z105 := Tryd.sizeOf204
  v105 := Tryd.zeroValue204
  t116 := Tryd.underlying198
  a116 := Tryd.isAgg198
  z116 := Tryd.sizeOf198
  t117 := Tryd.underlying199
  a117 := Tryd.isAgg199
  z117 := Tryd.sizeOf199
  v117 := Tryd.zeroValue199
  t119 := Tryd.underlying208
  a119 := Tryd.isAgg208
  z119 := Tryd.sizeOf208
  t124 := Tryd.underlying202
  a124 := Tryd.isAgg202
  z124 := Tryd.sizeOf202
  v124 := Tryd.zeroValue202
  t138 := Tryd.underlying210
  a138 := Tryd.isAgg210
  z138 := Tryd.sizeOf210
  v138 := Tryd.zeroValue210
  t139 := Tryd.underlying211
  a139 := Tryd.isAgg211
  z139 := Tryd.sizeOf211
  v139 := Tryd.zeroValue211
  g3 := by kernel_rfl
  g4 := by kernel_rfl }
end Go.Proofs
namespace Go.Proofs.YtcbbhiobibhdnaaDoor
open Go.RowKit Go.Proofs
noncomputable section
def asciiB (c : ByteArray) : Bool := c.data.toList.all (fun b => decide (b.toNat < 128))
def trim_S (_ : Nat) (s c : ByteArray) : Option ByteArray := bif asciiB c && (decide (s.size ≤ 1000000) && decide (c.size ≤ 1000000)) then some ⟨(Lib.trimS s.data.toList c.data.toList).toArray⟩ else none
abbrev trim_I : Sch := ⟨[(0, .c (.t .str)), (1, .c (.t .str))], []⟩
abbrev trim_O : FSch := ⟨.one (.c (.t .str)), []⟩
def trim_E (F : Nat) : Ent := ⟨107, 2, trim_I, trim_O, fun s => trim_S F s.1 s.2, []⟩
theorem trim_ok (F : Nat) : FnSem Tryd.prog 107 2 trim_I trim_O (fun s => trim_S F s.1 s.2) := by
  intro s t hst S F' W0 ι w vs hlen hden hh hcl
  obtain ⟨x, y⟩ := s
  obtain ⟨v0, h0, g0⟩ := hden 0 (.c (.sc (.string x))) rfl
  obtain ⟨v1, h1, g1⟩ := hden 1 (.c (.sc (.string y))) rfl
  have e0 : v0 = .string x := h0.1
  have e1 : v1 = .string y := h1.1
  subst e0; subst e1
  have hvs : vs = [.string x, .string y] := by
    match vs, hlen with
    | [a, b], _ => simp at g0 g1; rw [g0, g1]
  subst hvs
  simp only [trim_S] at hst
  cases hc : (asciiB y && (decide (x.size ≤ 1000000) && decide (y.size ≤ 1000000))) with
  | false => rw [hc] at hst; cases hst
  | true =>
    rw [hc] at hst
    cases hst
    simp only [Bool.and_eq_true, decide_eq_true_eq] at hc
    have hcon := Any.strings_Trim_laid Tryd.lays160 (by kernel_rfl) x y w (by omega) (by omega) (ascii_of_all hc.1)
    refine hcon.mono ?_
    rintro e w' ⟨rfl, hb⟩
    exact ⟨ι, _, rfl, PreM.refl _ _, ⟨rfl, rfl⟩, hh.ext' (Ex.of_below hb), Nat.le_refl _⟩
end
abbrev C_r : TC := (TC.pair (TC.int IntKind.i64) (TC.int IntKind.i64))
abbrev C_3 : TC := (TC.pair (TC.int IntKind.i64) (TC.pair (TC.int IntKind.i64) (TC.int IntKind.i64)))
abbrev C_7 : TC := (TC.pair (TC.int IntKind.i64) (TC.pair (TC.int IntKind.i64) (TC.pair (TC.int IntKind.i64) (TC.pair (TC.int IntKind.i64) (TC.pair (TC.int IntKind.i64) (TC.pair (TC.int IntKind.i64) (TC.int IntKind.i64)))))))
abbrev C_b : TC := (TC.pair (TC.pair (TC.int IntKind.i64) (TC.int IntKind.i64)) (TC.pair (TC.pair (TC.int IntKind.i64) (TC.int IntKind.i64)) (TC.pair (TC.int IntKind.i64) (TC.int IntKind.i64))))
abbrev C_fr : TC := (TC.pair (TC.int IntKind.i64) (TC.pair (TC.pair (TC.int IntKind.i64) (TC.int IntKind.i64)) (TC.pair (TC.pair (TC.int IntKind.i64) (TC.int IntKind.i64)) (TC.pair (TC.int IntKind.i64) (TC.int IntKind.i64)))))
abbrev C_st : TC := (TC.pair (TC.int IntKind.u8) (TC.pair (TC.int IntKind.i64) (TC.pair (TC.pair (TC.int IntKind.i64) (TC.int IntKind.i64)) (TC.pair (TC.pair (TC.int IntKind.i64) (TC.int IntKind.i64)) (TC.pair (TC.int IntKind.i64) (TC.int IntKind.i64))))))
abbrev C_sp : TC := (TC.pair (TC.pair (TC.pair (TC.int IntKind.i64) (TC.int IntKind.i64)) (TC.pair (TC.pair (TC.int IntKind.i64) (TC.int IntKind.i64)) (TC.pair (TC.pair (TC.int IntKind.i64) (TC.int IntKind.i64)) (TC.pair (TC.pair (TC.int IntKind.i64) (TC.int IntKind.i64)) (TC.pair (TC.pair (TC.int IntKind.i64) (TC.int IntKind.i64)) (TC.pair (TC.int IntKind.i64) (TC.int IntKind.i64))))))) (TC.int IntKind.u8))
abbrev C_wf : TC := (TC.pair (TC.pair (TC.pair (TC.int IntKind.i64) (TC.int IntKind.i64)) (TC.pair (TC.pair (TC.int IntKind.i64) (TC.int IntKind.i64)) (TC.pair (TC.pair (TC.int IntKind.i64) (TC.int IntKind.i64)) (TC.pair (TC.pair (TC.int IntKind.i64) (TC.int IntKind.i64)) (TC.pair (TC.pair (TC.int IntKind.i64) (TC.int IntKind.i64)) (TC.pair (TC.int IntKind.i64) (TC.int IntKind.i64))))))) (TC.pair (TC.int IntKind.u8) (TC.pair TC.str (TC.pair TC.str (TC.pair TC.str (TC.pair TC.str (TC.pair TC.str TC.str)))))))
abbrev C_Q25 : TC := (TC.pair (TC.int IntKind.i64) (TC.pair (TC.int IntKind.i64) (TC.pair (TC.int IntKind.i64) (TC.pair (TC.int IntKind.i64) (TC.pair (TC.int IntKind.i64) (TC.pair (TC.int IntKind.i64) (TC.pair (TC.int IntKind.i64) (TC.pair (TC.int IntKind.i64) (TC.pair (TC.int IntKind.i64) (TC.pair (TC.int IntKind.i64) (TC.pair (TC.int IntKind.i64) (TC.pair (TC.int IntKind.i64) (TC.pair (TC.int IntKind.i64) (TC.pair (TC.int IntKind.i64) (TC.pair (TC.int IntKind.i64) (TC.pair (TC.int IntKind.i64) (TC.pair (TC.int IntKind.i64) (TC.pair (TC.int IntKind.i64) (TC.pair (TC.int IntKind.i64) (TC.pair (TC.int IntKind.i64) (TC.pair (TC.int IntKind.i64) (TC.pair (TC.int IntKind.i64) (TC.pair (TC.int IntKind.i64) (TC.pair (TC.int IntKind.i64) (TC.int IntKind.i64)))))))))))))))))))))))))
abbrev T_w3 : Type := (Bool × (Bool × Bool))
abbrev T_3 : Type := (Int × (Int × Int))
abbrev T_7 : Type := (Int × (Int × (Int × (Int × (Int × (Int × Int))))))
abbrev T_b : Type := ((Int × Int) × ((Int × Int) × (Int × Int)))
abbrev T_fr : Type := (Int × ((Int × Int) × ((Int × Int) × (Int × Int))))
abbrev T_st : Type := (Int × (Int × ((Int × Int) × ((Int × Int) × (Int × Int)))))
abbrev T_sp : Type := (((Int × Int) × ((Int × Int) × ((Int × Int) × ((Int × Int) × ((Int × Int) × (Int × Int)))))) × Int)
abbrev T_wf : Type := (((Int × Int) × ((Int × Int) × ((Int × Int) × ((Int × Int) × ((Int × Int) × (Int × Int)))))) × (Int × (ByteArray × (ByteArray × (ByteArray × (ByteArray × (ByteArray × ByteArray)))))))
abbrev T_Q25 : Type := (Int × (Int × (Int × (Int × (Int × (Int × (Int × (Int × (Int × (Int × (Int × (Int × (Int × (Int × (Int × (Int × (Int × (Int × (Int × (Int × (Int × (Int × (Int × (Int × Int))))))))))))))))))))))))
end Go.Proofs.YtcbbhiobibhdnaaDoor
