/- By an AI agent. No person has read it. -/
import Derived.Test.YtdfgmfddkcmalaaDoorWX8a
import Derived.Ground.NamesProg
import Derived.Shelf.Strings.SlTrimAscii
import Derived.Shelf.Strings.Repeat
import Derived.Shelf.Strconv.Itoa3
namespace Go.Proofs
open Go.Shelf
def Tryd.lays160_ren : Go.Shelf.Ren := ⟨fun | 160 => 105 | 232 => 114 | 231 => 113 | 227 => 115 | 234 => 117 | 233 => 116 | 236 => 119 | 235 => 118 | 228 => 127 | 271 => 130 | 151 => 129 | 197 => 128 | 120 => 137 | 152 => 136 | 260 => 135 | 137 => 140 | 119 => 141 | 224 => 142 | 225 => 143 | 217 => 144 | 266 => 145 | n => n, fun | 9 => 9 | 4 => 4 | 3 => 3 | 5 => 5 | 117 => 177 | 116 => 176 | 0 => 0 | 124 => 180 | 21 => 21 | 105 => 189 | 46 => 144 | 119 => 199 | 139 => 202 | 138 => 201 | n => n, fun | 3 => 4 | 4 => 5 | n => n⟩
theorem Tryd.lays160 : Go.Proofs.Lays.n160 Tryd.prog Tryd.lays160_ren := {
  mixed := by kernel_rfl
  f119 := Tryd.func141.trans (congrArg some (by kernel_rfl))
  f120 := Tryd.func137.trans (congrArg some (by kernel_rfl))
  f137 := Tryd.func140.trans (congrArg some (by kernel_rfl))
  f151 := Tryd.func129.trans (congrArg some (by kernel_rfl))
  f152 := Tryd.func136.trans (congrArg some (by kernel_rfl))
  f160 := Tryd.func105.trans (congrArg some (by kernel_rfl))
  f197 := Tryd.func128.trans (congrArg some (by kernel_rfl))
  f217 := Tryd.func144.trans (congrArg some (by kernel_rfl))
  f224 := Tryd.func142.trans (congrArg some (by kernel_rfl))
  f225 := Tryd.func143.trans (congrArg some (by kernel_rfl))
  f227 := Tryd.func115.trans (congrArg some (by kernel_rfl))
  f228 := Tryd.func127.trans (congrArg some (by kernel_rfl))
  f231 := Tryd.func113.trans (congrArg some (by kernel_rfl))
  f232 := Tryd.func114.trans (congrArg some (by kernel_rfl))
  f233 := Tryd.func116.trans (congrArg some (by kernel_rfl))
  f234 := Tryd.func117.trans (congrArg some (by kernel_rfl))
  f235 := Tryd.func118.trans (congrArg some (by kernel_rfl))
  f236 := Tryd.func119.trans (congrArg some (by kernel_rfl))
  f260 := Tryd.func135.trans (congrArg some (by kernel_rfl))
  f266 := Tryd.func145.trans (congrArg some (by kernel_rfl))
  f271 := Tryd.func130.trans (congrArg some (by kernel_rfl))
  t0 := Tryd.underlying0
  a0 := Tryd.isAgg0
  z0 := Tryd.sizeOf0
  v0 := Tryd.zeroValue0
  t3 := Tryd.underlying3
  a3 := Tryd.isAgg3
  z3 := Tryd.sizeOf3
  v3 := Tryd.zeroValue3
  t4 := Tryd.underlying4
  a4 := Tryd.isAgg4
  z4 := Tryd.sizeOf4
  v4 := Tryd.zeroValue4
  t5 := Tryd.underlying5
  a5 := Tryd.isAgg5
  z5 := Tryd.sizeOf5
  v5 := Tryd.zeroValue5
  t9 := Tryd.underlying9
  a9 := Tryd.isAgg9
  z9 := Tryd.sizeOf9
  v9 := Tryd.zeroValue9
  t21 := Tryd.underlying21
  a21 := Tryd.isAgg21
  z21 := Tryd.sizeOf21
  v21 := Tryd.zeroValue21
  t46 := Tryd.underlying144
  a46 := Tryd.isAgg144
  z46 := Tryd.sizeOf144
  v46 := Tryd.zeroValue144
  t105 := Tryd.underlying189
  a105 := Tryd.isAgg189
  z105 := Tryd.sizeOf189
  v105 := Tryd.zeroValue189
  t116 := Tryd.underlying176
  a116 := Tryd.isAgg176
  z116 := Tryd.sizeOf176
  t117 := Tryd.underlying177
  a117 := Tryd.isAgg177
  z117 := Tryd.sizeOf177
  v117 := Tryd.zeroValue177
  t119 := Tryd.underlying199
  a119 := Tryd.isAgg199
  z119 := Tryd.sizeOf199
  t124 := Tryd.underlying180
  a124 := Tryd.isAgg180
  z124 := Tryd.sizeOf180
  v124 := Tryd.zeroValue180
  t138 := Tryd.underlying201
  a138 := Tryd.isAgg201
  z138 := Tryd.sizeOf201
  v138 := Tryd.zeroValue201
  t139 := Tryd.underlying202
  a139 := Tryd.isAgg202
  z139 := Tryd.sizeOf202
  v139 := Tryd.zeroValue202
  g3 := by kernel_rfl
  g4 := by kernel_rfl }
def Tryd.lays105_ren : Go.Shelf.Ren := ⟨fun | 105 => 76 | 212 => 90 | 99 => 91 | 165 => 92 | 166 => 93 | 170 => 94 | 169 => 95 | 263 => 107 | 264 => 100 | 206 => 108 | 240 => 109 | 241 => 110 | 276 => 124 | 277 => 125 | n => n, fun | 9 => 9 | 3 => 3 | 4 => 4 | 20 => 20 | 0 => 0 | 46 => 144 | 109 => 145 | 5 => 5 | 72 => 151 | 76 => 155 | 51 => 168 | 146 => 169 | 53 => 132 | 148 => 160 | 70 => 148 | 37 => 149 | 75 => 154 | 127 => 171 | 164 => 185 | 80 => 157 | n => n, fun | n => n⟩
theorem Tryd.lays105 : Go.Proofs.Lays.n105 Tryd.prog Tryd.lays105_ren := {
  mixed := by kernel_rfl
  f99 := Tryd.func91.trans (congrArg some (by kernel_rfl))
  f105 := Tryd.func76.trans (congrArg some (by kernel_rfl))
  f165 := Tryd.func92.trans (congrArg some (by kernel_rfl))
  f166 := Tryd.func93.trans (congrArg some (by kernel_rfl))
  f169 := Tryd.func95.trans (congrArg some (by kernel_rfl))
  f170 := Tryd.func94.trans (congrArg some (by kernel_rfl))
  f206 := Tryd.func108.trans (congrArg some (by kernel_rfl))
  f212 := Tryd.func90.trans (congrArg some (by kernel_rfl))
  f240 := Tryd.func109.trans (congrArg some (by kernel_rfl))
  f241 := Tryd.func110.trans (congrArg some (by kernel_rfl))
  f263 := Tryd.func107.trans (congrArg some (by kernel_rfl))
  f264 := Tryd.func100.trans (congrArg some (by kernel_rfl))
  f276 := Tryd.func124.trans (congrArg some (by kernel_rfl))
  f277 := Tryd.func125.trans (congrArg some (by kernel_rfl))
  t0 := Tryd.underlying0
  a0 := Tryd.isAgg0
  z0 := Tryd.sizeOf0
  v0 := Tryd.zeroValue0
  t3 := Tryd.underlying3
  a3 := Tryd.isAgg3
  z3 := Tryd.sizeOf3
  v3 := Tryd.zeroValue3
  t4 := Tryd.underlying4
  a4 := Tryd.isAgg4
  z4 := Tryd.sizeOf4
  v4 := Tryd.zeroValue4
  t5 := Tryd.underlying5
  a5 := Tryd.isAgg5
  z5 := Tryd.sizeOf5
  v5 := Tryd.zeroValue5
  t9 := Tryd.underlying9
  a9 := Tryd.isAgg9
  z9 := Tryd.sizeOf9
  v9 := Tryd.zeroValue9
  t20 := Tryd.underlying20
  a20 := Tryd.isAgg20
  z20 := Tryd.sizeOf20
  v20 := Tryd.zeroValue20
  t37 := Tryd.underlying149
  a37 := Tryd.isAgg149
  z37 := Tryd.sizeOf149
  v37 := Tryd.zeroValue149
  t46 := Tryd.underlying144
  a46 := Tryd.isAgg144
  z46 := Tryd.sizeOf144
  v46 := Tryd.zeroValue144
  t51 := Tryd.underlying168
  a51 := Tryd.isAgg168
  z51 := Tryd.sizeOf168
  v51 := Tryd.zeroValue168
  t53 := Tryd.underlying132
  a53 := Tryd.isAgg132
  z53 := Tryd.sizeOf132
  v53 := Tryd.zeroValue132
  t70 := Tryd.underlying148
  a70 := Tryd.isAgg148
  z70 := Tryd.sizeOf148
  v70 := Tryd.zeroValue148
  t72 := Tryd.underlying151
  a72 := Tryd.isAgg151
  z72 := Tryd.sizeOf151
  v72 := Tryd.zeroValue151
  t75 := Tryd.underlying154
  a75 := Tryd.isAgg154
  z75 := Tryd.sizeOf154
  v75 := Tryd.zeroValue154
  t76 := Tryd.underlying155
  a76 := Tryd.isAgg155
  z76 := Tryd.sizeOf155
  v76 := Tryd.zeroValue155
  t109 := Tryd.underlying145
  a109 := Tryd.isAgg145
  z109 := Tryd.sizeOf145
  v109 := Tryd.zeroValue145
  t127 := Tryd.underlying171
  a127 := Tryd.isAgg171
  z127 := Tryd.sizeOf171
  v127 := Tryd.zeroValue171
  t146 := Tryd.underlying169
  a146 := Tryd.isAgg169
  z146 := Tryd.sizeOf169
  v146 := Tryd.zeroValue169
  t148 := Tryd.underlying160
  a148 := Tryd.isAgg160
  z148 := Tryd.sizeOf160
  v148 := Tryd.zeroValue160
  t164 := Tryd.underlying185
  a164 := Tryd.isAgg185
  z164 := Tryd.sizeOf185
  v164 := Tryd.zeroValue185 }
theorem Tryd.Builder_Extra_105 : Builder.Extra Tryd.prog Tryd.lays105_ren := {
  sizeBuilder := by kernel_rfl
  liesBuilder := by kernel_rfl
  t5 := Tryd.underlying5
  a5 := Tryd.isAgg5
  z5 := Tryd.sizeOf5
  v5 := Tryd.zeroValue5
  infoByte := by kernel_rfl
  cellsByte := by kernel_rfl
  sizeByte := by kernel_rfl
  neB5 := by decide }
def Tryd.lays171_ren : Go.Shelf.Ren := ⟨fun | 171 => 75 | 243 => 89 | 246 => 106 | 283 => 120 | 284 => 121 | 285 => 122 | 286 => 123 | 129 => 126 | 317 => 131 | 318 => 132 | 319 => 133 | 320 => 134 | 337 => 138 | 338 => 139 | n => n, fun | 3 => 3 | 9 => 9 | 2 => 2 | 4 => 4 | 171 => 181 | 0 => 0 | 53 => 132 | 37 => 149 | 5 => 5 | 173 => 183 | 212 => 194 | 51 => 168 | 20 => 20 | 213 => 195 | 46 => 144 | 232 => 206 | 233 => 207 | n => n, fun | 17 => 2 | 18 => 6 | 19 => 7 | n => n⟩
theorem Tryd.lays171 : Go.Proofs.Lays.n171 Tryd.prog Tryd.lays171_ren := {
  mixed := by kernel_rfl
  f129 := Tryd.func126.trans (congrArg some (by kernel_rfl))
  f171 := Tryd.func75.trans (congrArg some (by kernel_rfl))
  f243 := Tryd.func89.trans (congrArg some (by kernel_rfl))
  f246 := Tryd.func106.trans (congrArg some (by kernel_rfl))
  f283 := Tryd.func120.trans (congrArg some (by kernel_rfl))
  f284 := Tryd.func121.trans (congrArg some (by kernel_rfl))
  f285 := Tryd.func122.trans (congrArg some (by kernel_rfl))
  f286 := Tryd.func123.trans (congrArg some (by kernel_rfl))
  f317 := Tryd.func131.trans (congrArg some (by kernel_rfl))
  f318 := Tryd.func132.trans (congrArg some (by kernel_rfl))
  f319 := Tryd.func133.trans (congrArg some (by kernel_rfl))
  f320 := Tryd.func134.trans (congrArg some (by kernel_rfl))
  f337 := Tryd.func138.trans (congrArg some (by kernel_rfl))
  f338 := Tryd.func139.trans (congrArg some (by kernel_rfl))
  t0 := Tryd.underlying0
  a0 := Tryd.isAgg0
  z0 := Tryd.sizeOf0
  v0 := Tryd.zeroValue0
  t2 := Tryd.underlying2
  a2 := Tryd.isAgg2
  z2 := Tryd.sizeOf2
  v2 := Tryd.zeroValue2
  t3 := Tryd.underlying3
  a3 := Tryd.isAgg3
  z3 := Tryd.sizeOf3
  v3 := Tryd.zeroValue3
  t4 := Tryd.underlying4
  a4 := Tryd.isAgg4
  z4 := Tryd.sizeOf4
  v4 := Tryd.zeroValue4
  t5 := Tryd.underlying5
  a5 := Tryd.isAgg5
  z5 := Tryd.sizeOf5
  v5 := Tryd.zeroValue5
  t9 := Tryd.underlying9
  a9 := Tryd.isAgg9
  z9 := Tryd.sizeOf9
  v9 := Tryd.zeroValue9
  t20 := Tryd.underlying20
  a20 := Tryd.isAgg20
  z20 := Tryd.sizeOf20
  v20 := Tryd.zeroValue20
  t37 := Tryd.underlying149
  a37 := Tryd.isAgg149
  z37 := Tryd.sizeOf149
  v37 := Tryd.zeroValue149
  t46 := Tryd.underlying144
  a46 := Tryd.isAgg144
  z46 := Tryd.sizeOf144
  v46 := Tryd.zeroValue144
  t51 := Tryd.underlying168
  a51 := Tryd.isAgg168
  z51 := Tryd.sizeOf168
  v51 := Tryd.zeroValue168
  t53 := Tryd.underlying132
  a53 := Tryd.isAgg132
  z53 := Tryd.sizeOf132
  v53 := Tryd.zeroValue132
  t171 := Tryd.underlying181
  a171 := Tryd.isAgg181
  z171 := Tryd.sizeOf181
  v171 := Tryd.zeroValue181
  t173 := Tryd.underlying183
  a173 := Tryd.isAgg183
  z173 := Tryd.sizeOf183
  v173 := Tryd.zeroValue183
  t212 := Tryd.underlying194
  a212 := Tryd.isAgg194
  z212 := Tryd.sizeOf194
  v212 := Tryd.zeroValue194
  t213 := Tryd.underlying195
  a213 := Tryd.isAgg195
  z213 := Tryd.sizeOf195
  t232 := Tryd.underlying206
  a232 := Tryd.isAgg206
  z232 := Tryd.sizeOf206
  v232 := Tryd.zeroValue206
  t233 := Tryd.underlying207
  a233 := Tryd.isAgg207
  z233 := Tryd.sizeOf207
  v233 := Tryd.zeroValue207
  g17 := by kernel_rfl
  g18 := by kernel_rfl
  g19 := by kernel_rfl }
end Go.Proofs
namespace Go.Proofs.YtdfgmfddkcmalaaDoor
open Go.RowKit Go.Proofs
set_option maxRecDepth 100000
noncomputable section
def asciiB (c : ByteArray) : Bool := c.data.toList.all (fun b => decide (b.toNat < 128))
def trim_S (_ : Nat) (s c : ByteArray) : Option ByteArray := bif asciiB c && (decide (s.size ≤ 1000000) && decide (c.size ≤ 1000000)) then some ⟨(Lib.trimS s.data.toList c.data.toList).toArray⟩ else none
abbrev trim_I : Sch := ⟨[(0, .c (.t .str)), (1, .c (.t .str))], []⟩
abbrev trim_O : FSch := ⟨.one (.c (.t .str)), []⟩
def trim_E (F : Nat) : Ent := ⟨105, 2, trim_I, trim_O, fun s => trim_S F s.1 s.2, []⟩
theorem trim_ok (F : Nat) : FnSem Tryd.prog 105 2 trim_I trim_O (fun s => trim_S F s.1 s.2) := by
  intro s t hst S F' W0 ι w vs hlen hden hh hcl
  obtain ⟨x, y⟩ := s
  obtain ⟨v0, h0, g0⟩ := hden 0 (.c (.sc (.string x))) rfl
  obtain ⟨v1, h1, g1⟩ := hden 1 (.c (.sc (.string y))) rfl
  have e0 : v0 = .string x := h0.1
  have e1 : v1 = .string y := h1.1
  subst e0; subst e1
  have hvs : vs = [.string x, .string y] := by
    match vs, hlen with
    | [a, b], _ => simp at g0 g1; rw [g0, g1]
  subst hvs
  simp only [trim_S] at hst
  cases hc : (asciiB y && (decide (x.size ≤ 1000000) && decide (y.size ≤ 1000000))) with
  | false => rw [hc] at hst; cases hst
  | true =>
    rw [hc] at hst
    cases hst
    simp only [Bool.and_eq_true, decide_eq_true_eq] at hc
    have hcon := Any.strings_Trim_laid Tryd.lays160 (by kernel_rfl) x y w (by omega) (by omega) (ascii_of_all hc.1)
    refine hcon.mono ?_
    rintro e w' ⟨rfl, hb⟩
    exact ⟨ι, _, rfl, PreM.refl _ _, ⟨rfl, rfl⟩, hh.ext' (Ex.of_below hb), Nat.le_refl _⟩

def rep_S (_ : Nat) (s : ByteArray) (c : Int) : Option ByteArray := bif (decide (2 ≤ c) && decide (c ≤ 1000000)) && (decide (0 < s.size) && decide (s.size ≤ 1000000)) then some ⟨(Lib.repeatL s.data.toList c.toNat).toArray⟩ else bif decide (c = 0) then some ⟨#[]⟩ else bif decide (c = 1) then some s else none
abbrev rep_I : Sch := ⟨[(0, .c (.t .str)), (1, .c (.t (.int .i64)))], []⟩
abbrev rep_O : FSch := ⟨.one (.c (.t .str)), []⟩
def rep_E (F : Nat) : Ent := ⟨76, 2, rep_I, rep_O, fun s => rep_S F s.1 s.2, []⟩
theorem rep_ok (F : Nat) : FnSem Tryd.prog 76 2 rep_I rep_O (fun s => rep_S F s.1 s.2) := by
  intro s t hst S F' W0 ι w vs hlen hden hh hcl
  obtain ⟨x, c⟩ := s
  change ByteArray at x
  change Int at c
  obtain ⟨v0, h0, g0⟩ := hden 0 (.c (.sc (.string x))) rfl
  obtain ⟨v1, h1, g1⟩ := hden 1 (.c (.sc (.int .i64 c))) rfl
  have e0 : v0 = .string x := h0.1
  have e1 : v1 = .int .i64 c := h1.1
  subst e0; subst e1
  have hvs : vs = [.string x, .int .i64 c] := by
    match vs, hlen with
    | [a, b], _ => simp at g0 g1; rw [g0, g1]
  subst hvs
  simp only [rep_S] at hst
  cases hc : ((decide (2 ≤ c) && decide (c ≤ 1000000)) && (decide (0 < x.size) && decide (x.size ≤ 1000000))) with
  | true =>
    rw [hc] at hst
    cases hst
    simp only [Bool.and_eq_true, decide_eq_true_eq] at hc
    have hm : x.size * c.toNat ≤ 140737488355328 := Nat.le_trans (Nat.mul_le_mul hc.2.2 (show c.toNat ≤ 1000000 by omega)) (by decide)
    have hcon := Any.strings_Repeat_main Tryd.lays105 Tryd.Builder_Extra_105 x c.toNat w (by omega) (by omega) hm hc.2.1
    rw [Int.toNat_of_nonneg (by omega)] at hcon
    refine hcon.mono ?_
    rintro e w' ⟨rfl, hb⟩
    exact ⟨ι, _, rfl, PreM.refl _ _, ⟨rfl, rfl⟩, hh.ext' (Ex.of_below hb), Nat.le_refl _⟩
  | false =>
    rw [hc] at hst
    simp only [cond_false] at hst
    cases h0 : decide (c = 0) with
    | true =>
      rw [h0] at hst
      cases hst
      have : c = 0 := by simpa using h0
      subst this
      refine (Any.strings_Repeat_zero Tryd.lays105 x w).mono ?_
      rintro e w' ⟨rfl, rfl⟩
      exact ⟨ι, _, rfl, PreM.refl _ _, ⟨rfl, rfl⟩, hh, Nat.le_refl _⟩
    | false =>
      rw [h0] at hst
      simp only [cond_false] at hst
      cases h1 : decide (c = 1) with
      | true =>
        rw [h1] at hst
        have ht := Option.some.inj hst
        subst ht
        have : c = 1 := by simpa using h1
        subst this
        refine (Any.strings_Repeat_one Tryd.lays105 x w).mono ?_
        rintro e w' ⟨rfl, rfl⟩
        exact ⟨ι, _, rfl, PreM.refl _ _, ⟨rfl, rfl⟩, hh, Nat.le_refl _⟩
      | false => rw [h1] at hst; cases hst
def itoa_S (_ : Nat) (c : Int) : Option ByteArray := bif decide (0 ≤ c) && decide (c < 100) then some ⟨(Lib.decDigits c.toNat).toArray⟩ else none
abbrev itoa_I : Sch := ⟨[(0, .c (.t (.int .i64)))], []⟩
abbrev itoa_O : FSch := ⟨.one (.c (.t .str)), []⟩
def itoa_E (F : Nat) : Ent := ⟨75, 1, itoa_I, itoa_O, fun s => itoa_S F s, []⟩
theorem itoa_ok (F : Nat) : FnSem Tryd.prog 75 1 itoa_I itoa_O (fun s => itoa_S F s) := by
  intro c t hst S F' W0 ι w vs hlen hden hh hcl
  change Int at c
  obtain ⟨v1, h1, g1⟩ := hden 0 (.c (.sc (.int .i64 c))) rfl
  have e1 : v1 = .int .i64 c := h1.1
  subst e1
  have hvs : vs = [.int .i64 c] := by
    match vs, hlen with
    | [a], _ => simp at g1; rw [g1]
  subst hvs
  simp only [itoa_S] at hst
  cases hc : (decide (0 ≤ c) && decide (c < 100)) with
  | true =>
    rw [hc] at hst
    cases hst
    simp only [Bool.and_eq_true, decide_eq_true_eq] at hc
    have hcon := Any.strconv_Itoa_small Tryd.lays171 c.toNat (by omega) w
    rw [Int.toNat_of_nonneg (by omega)] at hcon
    refine hcon.mono ?_
    rintro e w' ⟨rfl, rfl⟩
    exact ⟨ι, _, rfl, PreM.refl _ _, ⟨rfl, rfl⟩, hh, Nat.le_refl _⟩
  | false => rw [hc] at hst; cases hst
def sh_T (F : Nat) : List Ent := trim_E F :: rep_E F :: itoa_E F :: runs_T F
theorem sh_T_ok (F : Nat) : EntsOk Tryd.prog (sh_T F) := ⟨⟨by kernel_rfl, trim_ok F⟩, ⟨by kernel_rfl, rep_ok F⟩, ⟨by kernel_rfl, itoa_ok F⟩, runs_T_ok F⟩
end
end Go.Proofs.YtdfgmfddkcmalaaDoor
