/- By an AI agent. No person has read it. -/
import Derived.Test.YteimbckgldkcgaaGreatDoorWPLZ
import Derived.Test.YteimbckgldkcgaaGreatDoorWYW
import Derived.Ground.NamesProg
import Derived.Shelf.Strings.SlTrimAscii
import Derived.Shelf.Strings.Repeat
import Derived.Shelf.Strconv.Itoa3
import Derived.Shelf.Strings.Cut
import Derived.Shelf.Strconv.AtoiAll
namespace Go.Proofs
open Go.Shelf
def Tryz.lays160_ren : Go.Shelf.Ren := ⟨fun | 160 => 44 | 232 => 60 | 231 => 59 | 227 => 61 | 234 => 63 | 233 => 62 | 236 => 65 | 235 => 64 | 228 => 80 | 271 => 83 | 151 => 82 | 197 => 81 | 120 => 95 | 152 => 94 | 260 => 93 | 137 => 98 | 119 => 99 | 224 => 74 | 225 => 73 | 217 => 72 | 266 => 89 | n => n, fun | 9 => 9 | 4 => 4 | 3 => 3 | 5 => 5 | 117 => 116 | 116 => 115 | 0 => 0 | 124 => 119 | 21 => 21 | 105 => 138 | 46 => 79 | 119 => 153 | 139 => 156 | 138 => 155 | n => n, fun | 3 => 4 | 4 => 5 | n => n⟩
theorem Tryz.lays160 : Go.Proofs.Lays.n160 Tryz.prog Tryz.lays160_ren := {
  mixed := by kernel_rfl
  f119 := Tryz.func99.trans (congrArg some (by kernel_rfl))
  f120 := Tryz.func95.trans (congrArg some (by kernel_rfl))
  f137 := Tryz.func98.trans (congrArg some (by kernel_rfl))
  f151 := Tryz.func82.trans (congrArg some (by kernel_rfl))
  f152 := Tryz.func94.trans (congrArg some (by kernel_rfl))
  f160 := Tryz.func44.trans (congrArg some (by kernel_rfl))
  f197 := Tryz.func81.trans (congrArg some (by kernel_rfl))
  f217 := Tryz.func72.trans (congrArg some (by kernel_rfl))
  f224 := Tryz.func74.trans (congrArg some (by kernel_rfl))
  f225 := Tryz.func73.trans (congrArg some (by kernel_rfl))
  f227 := Tryz.func61.trans (congrArg some (by kernel_rfl))
  f228 := Tryz.func80.trans (congrArg some (by kernel_rfl))
  f231 := Tryz.func59.trans (congrArg some (by kernel_rfl))
  f232 := Tryz.func60.trans (congrArg some (by kernel_rfl))
  f233 := Tryz.func62.trans (congrArg some (by kernel_rfl))
  f234 := Tryz.func63.trans (congrArg some (by kernel_rfl))
  f235 := Tryz.func64.trans (congrArg some (by kernel_rfl))
  f236 := Tryz.func65.trans (congrArg some (by kernel_rfl))
  f260 := Tryz.func93.trans (congrArg some (by kernel_rfl))
  f266 := Tryz.func89.trans (congrArg some (by kernel_rfl))
  f271 := Tryz.func83.trans (congrArg some (by kernel_rfl))
  t0 := Tryz.underlying0
  a0 := Tryz.isAgg0
  z0 := Tryz.sizeOf0
  v0 := Tryz.zeroValue0
  t3 := Tryz.underlying3
  a3 := Tryz.isAgg3
  z3 := Tryz.sizeOf3
  v3 := Tryz.zeroValue3
  t4 := Tryz.underlying4
  a4 := Tryz.isAgg4
  z4 := Tryz.sizeOf4
  v4 := Tryz.zeroValue4
  t5 := Tryz.underlying5
  a5 := Tryz.isAgg5
  z5 := Tryz.sizeOf5
  v5 := Tryz.zeroValue5
  t9 := Tryz.underlying9
  a9 := Tryz.isAgg9
  z9 := Tryz.sizeOf9
  v9 := Tryz.zeroValue9
  t21 := Tryz.underlying21
  a21 := Tryz.isAgg21
  z21 := Tryz.sizeOf21
  v21 := Tryz.zeroValue21
  t46 := Tryz.underlying79
  a46 := Tryz.isAgg79
  z46 := Tryz.sizeOf79
  v46 := Tryz.zeroValue79
  t105 := Tryz.underlying138
  a105 := Tryz.isAgg138
  z105 := Tryz.sizeOf138
  v105 := Tryz.zeroValue138
  t116 := Tryz.underlying115
  a116 := Tryz.isAgg115
  z116 := Tryz.sizeOf115
  t117 := Tryz.underlying116
  a117 := Tryz.isAgg116
  z117 := Tryz.sizeOf116
  v117 := Tryz.zeroValue116
  t119 := Tryz.underlying153
  a119 := Tryz.isAgg153
  z119 := Tryz.sizeOf153
  t124 := Tryz.underlying119
  a124 := Tryz.isAgg119
  z124 := Tryz.sizeOf119
  v124 := Tryz.zeroValue119
  t138 := Tryz.underlying155
  a138 := Tryz.isAgg155
  z138 := Tryz.sizeOf155
  v138 := Tryz.zeroValue155
  t139 := Tryz.underlying156
  a139 := Tryz.isAgg156
  z139 := Tryz.sizeOf156
  v139 := Tryz.zeroValue156
  g3 := by kernel_rfl
  g4 := by kernel_rfl }
def Tryz.lays105_ren : Go.Shelf.Ren := ⟨fun | 105 => 16 | 212 => 32 | 99 => 33 | 165 => 34 | 166 => 35 | 170 => 36 | 169 => 37 | 263 => 46 | 264 => 47 | 206 => 48 | 240 => 49 | 241 => 50 | 276 => 70 | 277 => 71 | n => n, fun | 9 => 9 | 3 => 3 | 4 => 4 | 20 => 20 | 0 => 0 | 46 => 79 | 109 => 80 | 5 => 5 | 72 => 85 | 76 => 62 | 51 => 97 | 146 => 98 | 53 => 100 | 148 => 101 | 70 => 83 | 37 => 64 | 75 => 61 | 127 => 103 | 164 => 125 | 80 => 87 | n => n, fun | n => n⟩
theorem Tryz.lays105 : Go.Proofs.Lays.n105 Tryz.prog Tryz.lays105_ren := {
  mixed := by kernel_rfl
  f99 := Tryz.func33.trans (congrArg some (by kernel_rfl))
  f105 := Tryz.func16.trans (congrArg some (by kernel_rfl))
  f165 := Tryz.func34.trans (congrArg some (by kernel_rfl))
  f166 := Tryz.func35.trans (congrArg some (by kernel_rfl))
  f169 := Tryz.func37.trans (congrArg some (by kernel_rfl))
  f170 := Tryz.func36.trans (congrArg some (by kernel_rfl))
  f206 := Tryz.func48.trans (congrArg some (by kernel_rfl))
  f212 := Tryz.func32.trans (congrArg some (by kernel_rfl))
  f240 := Tryz.func49.trans (congrArg some (by kernel_rfl))
  f241 := Tryz.func50.trans (congrArg some (by kernel_rfl))
  f263 := Tryz.func46.trans (congrArg some (by kernel_rfl))
  f264 := Tryz.func47.trans (congrArg some (by kernel_rfl))
  f276 := Tryz.func70.trans (congrArg some (by kernel_rfl))
  f277 := Tryz.func71.trans (congrArg some (by kernel_rfl))
  t0 := Tryz.underlying0
  a0 := Tryz.isAgg0
  z0 := Tryz.sizeOf0
  v0 := Tryz.zeroValue0
  t3 := Tryz.underlying3
  a3 := Tryz.isAgg3
  z3 := Tryz.sizeOf3
  v3 := Tryz.zeroValue3
  t4 := Tryz.underlying4
  a4 := Tryz.isAgg4
  z4 := Tryz.sizeOf4
  v4 := Tryz.zeroValue4
  t5 := Tryz.underlying5
  a5 := Tryz.isAgg5
  z5 := Tryz.sizeOf5
  v5 := Tryz.zeroValue5
  t9 := Tryz.underlying9
  a9 := Tryz.isAgg9
  z9 := Tryz.sizeOf9
  v9 := Tryz.zeroValue9
  t20 := Tryz.underlying20
  a20 := Tryz.isAgg20
  z20 := Tryz.sizeOf20
  v20 := Tryz.zeroValue20
  t37 := Tryz.underlying64
  a37 := Tryz.isAgg64
  z37 := Tryz.sizeOf64
  v37 := Tryz.zeroValue64
  t46 := Tryz.underlying79
  a46 := Tryz.isAgg79
  z46 := Tryz.sizeOf79
  v46 := Tryz.zeroValue79
  t51 := Tryz.underlying97
  a51 := Tryz.isAgg97
  z51 := Tryz.sizeOf97
  v51 := Tryz.zeroValue97
  t53 := Tryz.underlying100
  a53 := Tryz.isAgg100
  z53 := Tryz.sizeOf100
  v53 := Tryz.zeroValue100
  t70 := Tryz.underlying83
  a70 := Tryz.isAgg83
  z70 := Tryz.sizeOf83
  v70 := Tryz.zeroValue83
  t72 := Tryz.underlying85
  a72 := Tryz.isAgg85
  z72 := Tryz.sizeOf85
  v72 := Tryz.zeroValue85
  t75 := Tryz.underlying61
  a75 := Tryz.isAgg61
  z75 := Tryz.sizeOf61
  v75 := Tryz.zeroValue61
  t76 := Tryz.underlying62
  a76 := Tryz.isAgg62
  z76 := Tryz.sizeOf62
  v76 := Tryz.zeroValue62
  t109 := Tryz.underlying80
  a109 := Tryz.isAgg80
  z109 := Tryz.sizeOf80
  v109 := Tryz.zeroValue80
  t127 := Tryz.underlying103
  a127 := Tryz.isAgg103
  z127 := Tryz.sizeOf103
  v127 := Tryz.zeroValue103
  t146 := Tryz.underlying98
  a146 := Tryz.isAgg98
  z146 := Tryz.sizeOf98
  v146 := Tryz.zeroValue98
  t148 := Tryz.underlying101
  a148 := Tryz.isAgg101
  z148 := Tryz.sizeOf101
  v148 := Tryz.zeroValue101
  t164 := Tryz.underlying125
  a164 := Tryz.isAgg125
  z164 := Tryz.sizeOf125
  v164 := Tryz.zeroValue125 }
theorem Tryz.Builder_Extra_105 : Builder.Extra Tryz.prog Tryz.lays105_ren := {
  sizeBuilder := by kernel_rfl
  liesBuilder := by kernel_rfl
  t5 := Tryz.underlying5
  a5 := Tryz.isAgg5
  z5 := Tryz.sizeOf5
  v5 := Tryz.zeroValue5
  infoByte := by kernel_rfl
  cellsByte := by kernel_rfl
  sizeByte := by kernel_rfl
  neB5 := by decide }
def Tryz.laysM171_ren : Go.Shelf.Ren := ⟨fun | 171 => 15 | 243 => 31 | 246 => 45 | 283 => 66 | 284 => 67 | 285 => 68 | 286 => 69 | 129 => 85 | 317 => 84 | 318 => 86 | 319 => 87 | 320 => 88 | 337 => 96 | 338 => 97 | n => n, fun | 3 => 3 | 9 => 9 | 2 => 2 | 4 => 4 | 171 => 120 | 0 => 0 | 53 => 100 | 37 => 64 | 5 => 5 | 173 => 123 | 212 => 142 | 51 => 97 | 20 => 20 | 213 => 143 | 46 => 79 | 232 => 158 | 233 => 159 | n => n, fun | 17 => 3 | 18 => 6 | 19 => 7 | n => n⟩
theorem Tryz.laysM171 : Go.Proofs.LaysM.n171 Tryz.prog Tryz.laysM171_ren := {
  mixed := by kernel_rfl
  f129 := Tryz.func85.trans (congrArg some (by kernel_rfl))
  f171 := Tryz.func15.trans (congrArg some (by kernel_rfl))
  f243 := Tryz.func31.trans (congrArg some (by kernel_rfl))
  f246 := Tryz.func45.trans (congrArg some (by kernel_rfl))
  f283 := Tryz.func66.trans (congrArg some (by kernel_rfl))
  f284 := Tryz.func67.trans (congrArg some (by kernel_rfl))
  f285 := Tryz.func68.trans (congrArg some (by kernel_rfl))
  f286 := Tryz.func69.trans (congrArg some (by kernel_rfl))
  f317 := Tryz.func84.trans (congrArg some (by kernel_rfl))
  f318 := Tryz.func86.trans (congrArg some (by kernel_rfl))
  f319 := Tryz.func87.trans (congrArg some (by kernel_rfl))
  f320 := Tryz.func88.trans (congrArg some (by kernel_rfl))
  f337 := Tryz.func96.trans (congrArg some (by kernel_rfl))
  f338 := Tryz.func97.trans (congrArg some (by kernel_rfl))
  t0 := Tryz.underlying0
  a0 := Tryz.isAgg0
  z0 := Tryz.sizeOf0
  v0 := Tryz.zeroValue0
  t2 := Tryz.underlying2
  a2 := Tryz.isAgg2
  z2 := Tryz.sizeOf2
  v2 := Tryz.zeroValue2
  t3 := Tryz.underlying3
  a3 := Tryz.isAgg3
  z3 := Tryz.sizeOf3
  v3 := Tryz.zeroValue3
  t4 := Tryz.underlying4
  a4 := Tryz.isAgg4
  z4 := Tryz.sizeOf4
  v4 := Tryz.zeroValue4
  t5 := Tryz.underlying5
  a5 := Tryz.isAgg5
  z5 := Tryz.sizeOf5
  v5 := Tryz.zeroValue5
  t9 := Tryz.underlying9
  a9 := Tryz.isAgg9
  z9 := Tryz.sizeOf9
  v9 := Tryz.zeroValue9
  t20 := Tryz.underlying20
  a20 := Tryz.isAgg20
  z20 := Tryz.sizeOf20
  v20 := Tryz.zeroValue20
  t37 := Tryz.underlying64
  a37 := Tryz.isAgg64
  z37 := Tryz.sizeOf64
  v37 := Tryz.zeroValue64
  t46 := Tryz.underlying79
  a46 := Tryz.isAgg79
  z46 := Tryz.sizeOf79
  v46 := Tryz.zeroValue79
  t51 := Tryz.underlying97
  a51 := Tryz.isAgg97
  z51 := Tryz.sizeOf97
  v51 := Tryz.zeroValue97
  t53 := Tryz.underlying100
  a53 := Tryz.isAgg100
  z53 := Tryz.sizeOf100
  v53 := Tryz.zeroValue100
  t171 := Tryz.underlying120
  a171 := Tryz.isAgg120
  z171 := Tryz.sizeOf120
  v171 := Tryz.zeroValue120
  t173 := Tryz.underlying123
  a173 := Tryz.isAgg123
  z173 := Tryz.sizeOf123
  v173 := Tryz.zeroValue123
  t212 := Tryz.underlying142
  a212 := Tryz.isAgg142
  z212 := Tryz.sizeOf142
  v212 := Tryz.zeroValue142
  t213 := Tryz.underlying143
  a213 := Tryz.isAgg143
  z213 := Tryz.sizeOf143
  t232 := Tryz.underlying158
  a232 := Tryz.isAgg158
  z232 := Tryz.sizeOf158
  v232 := Tryz.zeroValue158
  t233 := Tryz.underlying159
  a233 := Tryz.isAgg159
  z233 := Tryz.sizeOf159
  v233 := Tryz.zeroValue159
  g17 := by kernel_rfl
  g18 := by kernel_rfl
  g19 := by kernel_rfl
  i0 := by kernel_rfl
  i2 := by kernel_rfl
  i3 := by kernel_rfl
  i4 := by kernel_rfl
  i5 := by kernel_rfl
  i9 := by kernel_rfl
  i20 := by kernel_rfl
  i37 := by kernel_rfl
  i46 := by kernel_rfl
  i51 := by kernel_rfl
  i53 := by kernel_rfl
  i171 := by kernel_rfl
  i173 := by kernel_rfl
  i212 := by kernel_rfl
  i232 := by kernel_rfl
  i233 := by kernel_rfl
  m17 := by kernel_rfl
  m18 := by kernel_rfl
  m19 := by kernel_rfl }
def Tryz.lays145_ren : Go.Shelf.Ren := ⟨fun | 145 => 19 | 220 => 38 | 219 => 51 | 217 => 72 | 225 => 73 | 224 => 74 | 267 => 75 | 266 => 89 | 314 => 90 | n => n, fun | 9 => 9 | 4 => 4 | 59 => 58 | 3 => 3 | 5 => 5 | 46 => 79 | 146 => 98 | 51 => 97 | n => n, fun | 1 => 0 | n => n⟩
theorem Tryz.lays145 : Go.Proofs.Lays.n145 Tryz.prog Tryz.lays145_ren := {
  mixed := by kernel_rfl
  f145 := Tryz.func19.trans (congrArg some (by kernel_rfl))
  f217 := Tryz.func72.trans (congrArg some (by kernel_rfl))
  f219 := Tryz.func51.trans (congrArg some (by kernel_rfl))
  f220 := Tryz.func38.trans (congrArg some (by kernel_rfl))
  f224 := Tryz.func74.trans (congrArg some (by kernel_rfl))
  f225 := Tryz.func73.trans (congrArg some (by kernel_rfl))
  f266 := Tryz.func89.trans (congrArg some (by kernel_rfl))
  f267 := Tryz.func75.trans (congrArg some (by kernel_rfl))
  f314 := Tryz.func90.trans (congrArg some (by kernel_rfl))
  t3 := Tryz.underlying3
  a3 := Tryz.isAgg3
  z3 := Tryz.sizeOf3
  v3 := Tryz.zeroValue3
  t4 := Tryz.underlying4
  a4 := Tryz.isAgg4
  z4 := Tryz.sizeOf4
  v4 := Tryz.zeroValue4
  t5 := Tryz.underlying5
  a5 := Tryz.isAgg5
  z5 := Tryz.sizeOf5
  v5 := Tryz.zeroValue5
  t9 := Tryz.underlying9
  a9 := Tryz.isAgg9
  z9 := Tryz.sizeOf9
  v9 := Tryz.zeroValue9
  t46 := Tryz.underlying79
  a46 := Tryz.isAgg79
  z46 := Tryz.sizeOf79
  v46 := Tryz.zeroValue79
  t51 := Tryz.underlying97
  a51 := Tryz.isAgg97
  z51 := Tryz.sizeOf97
  v51 := Tryz.zeroValue97
  t59 := Tryz.underlying58
  a59 := Tryz.isAgg58
  z59 := Tryz.sizeOf58
  v59 := Tryz.zeroValue58
  t146 := Tryz.underlying98
  a146 := Tryz.isAgg98
  z146 := Tryz.sizeOf98
  v146 := Tryz.zeroValue98
  g1 := by kernel_rfl }
def Tryz.laysC172_ren : Go.Shelf.Ren := ⟨fun | 172 => 20 | 244 => 39 | 245 => 40 | 247 => 52 | 279 => 53 | 280 => 54 | 281 => 55 | 282 => 56 | 287 => 76 | 316 => 77 | 171 => 15 | 205 => 78 | 321 => 91 | 322 => 92 | 243 => 31 | 246 => 45 | 283 => 66 | 284 => 67 | 285 => 68 | 286 => 69 | 129 => 85 | 317 => 84 | 318 => 86 | 319 => 87 | 320 => 88 | 337 => 96 | 338 => 97 | n => n, fun | 9 => 9 | 3 => 3 | 75 => 61 | 76 => 62 | 4 => 4 | 5 => 5 | 167 => 105 | 37 => 64 | 0 => 0 | 85 => 106 | 2 => 2 | 168 => 108 | 53 => 100 | 175 => 130 | 46 => 79 | 210 => 134 | 127 => 103 | 145 => 150 | 143 => 148 | 21 => 21 | 171 => 120 | 173 => 123 | 212 => 142 | 51 => 97 | 20 => 20 | 213 => 143 | 232 => 158 | 233 => 159 | 80 => 87 | n => n, fun | 15 => 1 | 16 => 2 | 17 => 3 | 18 => 6 | 19 => 7 | n => n⟩
theorem Tryz.laysC172 : Go.Proofs.LaysC.n172 Tryz.prog Tryz.laysC172_ren := {
  mixed := by kernel_rfl
  f129 := Tryz.func85.trans (congrArg some (by kernel_rfl))
  f171 := Tryz.func15.trans (congrArg some (by kernel_rfl))
  f172 := Tryz.func20.trans (congrArg some (by kernel_rfl))
  f205 := Tryz.func78.trans (congrArg some (by kernel_rfl))
  f243 := Tryz.func31.trans (congrArg some (by kernel_rfl))
  f244 := Tryz.func39.trans (congrArg some (by kernel_rfl))
  f245 := Tryz.func40.trans (congrArg some (by kernel_rfl))
  f246 := Tryz.func45.trans (congrArg some (by kernel_rfl))
  f247 := Tryz.func52.trans (congrArg some (by kernel_rfl))
  f279 := Tryz.func53.trans (congrArg some (by kernel_rfl))
  f280 := Tryz.func54.trans (congrArg some (by kernel_rfl))
  f281 := Tryz.func55.trans (congrArg some (by kernel_rfl))
  f282 := Tryz.func56.trans (congrArg some (by kernel_rfl))
  f283 := Tryz.func66.trans (congrArg some (by kernel_rfl))
  f284 := Tryz.func67.trans (congrArg some (by kernel_rfl))
  f285 := Tryz.func68.trans (congrArg some (by kernel_rfl))
  f286 := Tryz.func69.trans (congrArg some (by kernel_rfl))
  f287 := Tryz.func76.trans (congrArg some (by kernel_rfl))
  f316 := Tryz.func77.trans (congrArg some (by kernel_rfl))
  f317 := Tryz.func84.trans (congrArg some (by kernel_rfl))
  f318 := Tryz.func86.trans (congrArg some (by kernel_rfl))
  f319 := Tryz.func87.trans (congrArg some (by kernel_rfl))
  f320 := Tryz.func88.trans (congrArg some (by kernel_rfl))
  f321 := Tryz.func91.trans (congrArg some (by kernel_rfl))
  f322 := Tryz.func92.trans (congrArg some (by kernel_rfl))
  f337 := Tryz.func96.trans (congrArg some (by kernel_rfl))
  f338 := Tryz.func97.trans (congrArg some (by kernel_rfl))
  t0 := Tryz.underlying0
  a0 := Tryz.isAgg0
  z0 := Tryz.sizeOf0
  v0 := Tryz.zeroValue0
  t2 := Tryz.underlying2
  a2 := Tryz.isAgg2
  z2 := Tryz.sizeOf2
  v2 := Tryz.zeroValue2
  t3 := Tryz.underlying3
  a3 := Tryz.isAgg3
  z3 := Tryz.sizeOf3
  v3 := Tryz.zeroValue3
  t4 := Tryz.underlying4
  a4 := Tryz.isAgg4
  z4 := Tryz.sizeOf4
  v4 := Tryz.zeroValue4
  t5 := Tryz.underlying5
  a5 := Tryz.isAgg5
  z5 := Tryz.sizeOf5
  v5 := Tryz.zeroValue5
  t9 := Tryz.underlying9
  a9 := Tryz.isAgg9
  z9 := Tryz.sizeOf9
  v9 := Tryz.zeroValue9
  t20 := Tryz.underlying20
  a20 := Tryz.isAgg20
  z20 := Tryz.sizeOf20
  v20 := Tryz.zeroValue20
  t21 := Tryz.underlying21
  a21 := Tryz.isAgg21
  z21 := Tryz.sizeOf21
  v21 := Tryz.zeroValue21
  t37 := Tryz.underlying64
  a37 := Tryz.isAgg64
  z37 := Tryz.sizeOf64
  v37 := Tryz.zeroValue64
  t46 := Tryz.underlying79
  a46 := Tryz.isAgg79
  z46 := Tryz.sizeOf79
  v46 := Tryz.zeroValue79
  t51 := Tryz.underlying97
  a51 := Tryz.isAgg97
  z51 := Tryz.sizeOf97
  v51 := Tryz.zeroValue97
  t53 := Tryz.underlying100
  a53 := Tryz.isAgg100
  z53 := Tryz.sizeOf100
  v53 := Tryz.zeroValue100
  t75 := Tryz.underlying61
  a75 := Tryz.isAgg61
  z75 := Tryz.sizeOf61
  v75 := Tryz.zeroValue61
  t76 := Tryz.underlying62
  a76 := Tryz.isAgg62
  z76 := Tryz.sizeOf62
  v76 := Tryz.zeroValue62
  t85 := Tryz.underlying106
  a85 := Tryz.isAgg106
  z85 := Tryz.sizeOf106
  v85 := Tryz.zeroValue106
  t127 := Tryz.underlying103
  a127 := Tryz.isAgg103
  z127 := Tryz.sizeOf103
  v127 := Tryz.zeroValue103
  t143 := Tryz.underlying148
  a143 := Tryz.isAgg148
  z143 := Tryz.sizeOf148
  v143 := Tryz.zeroValue148
  t145 := Tryz.underlying150
  a145 := Tryz.isAgg150
  z145 := Tryz.sizeOf150
  v145 := Tryz.zeroValue150
  t167 := Tryz.underlying105
  a167 := Tryz.isAgg105
  z167 := Tryz.sizeOf105
  v167 := Tryz.zeroValue105
  t168 := Tryz.underlying108
  a168 := Tryz.isAgg108
  z168 := Tryz.sizeOf108
  v168 := Tryz.zeroValue108
  t171 := Tryz.underlying120
  a171 := Tryz.isAgg120
  z171 := Tryz.sizeOf120
  v171 := Tryz.zeroValue120
  t173 := Tryz.underlying123
  a173 := Tryz.isAgg123
  z173 := Tryz.sizeOf123
  v173 := Tryz.zeroValue123
  t175 := Tryz.underlying130
  a175 := Tryz.isAgg130
  z175 := Tryz.sizeOf130
  v175 := Tryz.zeroValue130
  t210 := Tryz.underlying134
  a210 := Tryz.isAgg134
  z210 := Tryz.sizeOf134
  v210 := Tryz.zeroValue134
  t212 := Tryz.underlying142
  a212 := Tryz.isAgg142
  z212 := Tryz.sizeOf142
  v212 := Tryz.zeroValue142
  t213 := Tryz.underlying143
  a213 := Tryz.isAgg143
  z213 := Tryz.sizeOf143
  t232 := Tryz.underlying158
  a232 := Tryz.isAgg158
  z232 := Tryz.sizeOf158
  v232 := Tryz.zeroValue158
  t233 := Tryz.underlying159
  a233 := Tryz.isAgg159
  z233 := Tryz.sizeOf159
  v233 := Tryz.zeroValue159
  g15 := by kernel_rfl
  g16 := by kernel_rfl
  g17 := by kernel_rfl
  g18 := by kernel_rfl
  g19 := by kernel_rfl
  t80 := Tryz.underlying87
  a80 := Tryz.isAgg87
  z80 := Tryz.sizeOf87
  v80 := Tryz.zeroValue87
  i0 := by kernel_rfl
  i2 := by kernel_rfl
  i3 := by kernel_rfl
  i4 := by kernel_rfl
  i5 := by kernel_rfl
  i9 := by kernel_rfl
  i20 := by kernel_rfl
  i21 := by kernel_rfl
  i37 := by kernel_rfl
  i46 := by kernel_rfl
  i51 := by kernel_rfl
  i53 := by kernel_rfl
  i75 := by kernel_rfl
  i76 := by kernel_rfl
  i80 := by kernel_rfl
  i85 := by kernel_rfl
  i127 := by kernel_rfl
  i143 := by kernel_rfl
  i145 := by kernel_rfl
  i167 := by kernel_rfl
  i168 := by kernel_rfl
  i171 := by kernel_rfl
  i173 := by kernel_rfl
  i175 := by kernel_rfl
  i210 := by kernel_rfl
  i212 := by kernel_rfl
  i232 := by kernel_rfl
  i233 := by kernel_rfl
  m15 := by kernel_rfl
  m16 := by kernel_rfl
  m17 := by kernel_rfl
  m18 := by kernel_rfl
  m19 := by kernel_rfl
  c0 := by kernel_rfl
  c2 := by kernel_rfl
  c3 := by kernel_rfl
  c4 := by kernel_rfl
  c5 := by kernel_rfl
  c9 := by kernel_rfl
  c20 := by kernel_rfl
  c21 := by kernel_rfl
  c37 := by kernel_rfl
  c46 := by kernel_rfl
  c51 := by kernel_rfl
  c53 := by kernel_rfl
  c75 := by kernel_rfl
  c76 := by kernel_rfl
  c80 := by kernel_rfl
  c85 := by kernel_rfl
  c127 := by kernel_rfl
  c143 := by kernel_rfl
  c145 := by kernel_rfl
  c167 := by kernel_rfl
  c168 := by kernel_rfl
  c171 := by kernel_rfl
  c173 := by kernel_rfl
  c175 := by kernel_rfl
  c210 := by kernel_rfl
  c212 := by kernel_rfl
  c213 := by kernel_rfl
  c232 := by kernel_rfl
  c233 := by kernel_rfl }
end Go.Proofs
namespace Go.Proofs.YteimbckgldkcgaaGreatDoor
open Go.RowKit Go.Proofs
set_option maxRecDepth 100000
noncomputable section
theorem ext_bytes (w : World) (e : TypeId) (s : ByteArray) : Ext w (Lib.bytesWorld w e s) :=
  ⟨rfl, rfl, rfl, by rw [Lib.bytesWorld_size]; omega, fun k hk _ => Lib.bytesWorld_at_old w e s k hk⟩
def asciiB (c : ByteArray) : Bool := c.data.toList.all (fun b => decide (b.toNat < 128))
def trim_S (_ : Nat) (s c : ByteArray) : Option ByteArray := bif asciiB c && (decide (s.size ≤ 1000000) && decide (c.size ≤ 1000000)) then some ⟨(Lib.trimS s.data.toList c.data.toList).toArray⟩ else none
abbrev trim_I : Sch := ⟨[(0, .c (.t .str)), (1, .c (.t .str))], []⟩
abbrev trim_O : FSch := ⟨.one (.c (.t .str)), []⟩
def trim_E (F : Nat) : Ent := ⟨44, 2, trim_I, trim_O, fun s => trim_S F s.1 s.2, []⟩
theorem trim_ok (F : Nat) : FnSem Tryz.prog 44 2 trim_I trim_O (fun s => trim_S F s.1 s.2) := by
  intro s t hst S F' W0 ι w vs hlen hden hh hcl
  obtain ⟨x, y⟩ := s
  obtain ⟨v0, h0, g0⟩ := hden 0 (.c (.sc (.string x))) rfl
  obtain ⟨v1, h1, g1⟩ := hden 1 (.c (.sc (.string y))) rfl
  have e0 : v0 = .string x := h0.1
  have e1 : v1 = .string y := h1.1
  subst e0; subst e1
  have hvs : vs = [.string x, .string y] := by
    match vs, hlen with
    | [a, b], _ => simp at g0 g1; rw [g0, g1]
  subst hvs
  simp only [trim_S] at hst
  cases hc : (asciiB y && (decide (x.size ≤ 1000000) && decide (y.size ≤ 1000000))) with
  | false => rw [hc] at hst; cases hst
  | true =>
    rw [hc] at hst
    cases hst
    simp only [Bool.and_eq_true, decide_eq_true_eq] at hc
    have hcon := Any.strings_Trim_laid Tryz.lays160 (by kernel_rfl) x y w (by omega) (by omega) (ascii_of_all hc.1)
    refine hcon.mono ?_
    rintro e w' ⟨rfl, hb⟩
    exact ⟨ι, _, rfl, PreM.refl _ _, ⟨rfl, rfl⟩, hh.ext' (Ex.of_below hb), Nat.le_refl _⟩

def rep_S (_ : Nat) (s : ByteArray) (c : Int) : Option ByteArray := bif (decide (2 ≤ c) && decide (c ≤ 1000000)) && (decide (0 < s.size) && decide (s.size ≤ 1000000)) then some ⟨(Lib.repeatL s.data.toList c.toNat).toArray⟩ else bif decide (c = 0) then some ⟨#[]⟩ else bif decide (c = 1) then some s else none
abbrev rep_I : Sch := ⟨[(0, .c (.t .str)), (1, .c (.t (.int .i64)))], []⟩
abbrev rep_O : FSch := ⟨.one (.c (.t .str)), []⟩
def rep_E (F : Nat) : Ent := ⟨16, 2, rep_I, rep_O, fun s => rep_S F s.1 s.2, []⟩
theorem rep_ok (F : Nat) : FnSem Tryz.prog 16 2 rep_I rep_O (fun s => rep_S F s.1 s.2) := by
  intro s t hst S F' W0 ι w vs hlen hden hh hcl
  obtain ⟨x, c⟩ := s
  change ByteArray at x
  change Int at c
  obtain ⟨v0, h0, g0⟩ := hden 0 (.c (.sc (.string x))) rfl
  obtain ⟨v1, h1, g1⟩ := hden 1 (.c (.sc (.int .i64 c))) rfl
  have e0 : v0 = .string x := h0.1
  have e1 : v1 = .int .i64 c := h1.1
  subst e0; subst e1
  have hvs : vs = [.string x, .int .i64 c] := by
    match vs, hlen with
    | [a, b], _ => simp at g0 g1; rw [g0, g1]
  subst hvs
  simp only [rep_S] at hst
  cases hc : ((decide (2 ≤ c) && decide (c ≤ 1000000)) && (decide (0 < x.size) && decide (x.size ≤ 1000000))) with
  | true =>
    rw [hc] at hst
    cases hst
    simp only [Bool.and_eq_true, decide_eq_true_eq] at hc
    have hm : x.size * c.toNat ≤ 140737488355328 := Nat.le_trans (Nat.mul_le_mul hc.2.2 (show c.toNat ≤ 1000000 by omega)) (by decide)
    have hcon := Any.strings_Repeat_main Tryz.lays105 Tryz.Builder_Extra_105 x c.toNat w (by omega) (by omega) hm hc.2.1
    rw [Int.toNat_of_nonneg (by omega)] at hcon
    refine hcon.mono ?_
    rintro e w' ⟨rfl, hb⟩
    exact ⟨ι, _, rfl, PreM.refl _ _, ⟨rfl, rfl⟩, hh.ext' (Ex.of_below hb), Nat.le_refl _⟩
  | false =>
    rw [hc] at hst
    simp only [cond_false] at hst
    cases h0 : decide (c = 0) with
    | true =>
      rw [h0] at hst
      cases hst
      have : c = 0 := by simpa using h0
      subst this
      refine (Any.strings_Repeat_zero Tryz.lays105 x w).mono ?_
      rintro e w' ⟨rfl, rfl⟩
      exact ⟨ι, _, rfl, PreM.refl _ _, ⟨rfl, rfl⟩, hh, Nat.le_refl _⟩
    | false =>
      rw [h0] at hst
      simp only [cond_false] at hst
      cases h1 : decide (c = 1) with
      | true =>
        rw [h1] at hst
        have ht := Option.some.inj hst
        subst ht
        have : c = 1 := by simpa using h1
        subst this
        refine (Any.strings_Repeat_one Tryz.lays105 x w).mono ?_
        rintro e w' ⟨rfl, rfl⟩
        exact ⟨ι, _, rfl, PreM.refl _ _, ⟨rfl, rfl⟩, hh, Nat.le_refl _⟩
      | false => rw [h1] at hst; cases hst

theorem ext_grow (w : World) (os : Array Obj) : Ext w (Go.Sort.grow w os) :=
  ⟨rfl, rfl, rfl, by simp [Go.Sort.grow], fun k hk _ => by simp only [Go.Sort.grow]; rw [Array.getElem?_append_left hk]⟩
theorem ext_drewN (w : World) (n : Nat) : Ext w (w.drewN n) := ⟨rfl, rfl, rfl, Nat.le_refl _, fun _ _ _ => rfl⟩
theorem tab_is {w : World} (h : gOk w) : Lib.TabIs Tryz.prog w "internal/strconv.uint64pow10" .u64 Lib.pow10Tab := by
  obtain ⟨_, _, _, T, f, h4⟩ := h
  unfold Lib.TabIs World.var?
  have hn : Tryz.prog.globalNamed "internal/strconv.uint64pow10" = some 3 := by kernel_rfl
  rw [hn]
  simp only [Option.bind_some, h4]
def itoa_S (_ : Nat) (c : Int) : Option ByteArray := bif decide (-9223372036854775808 ≤ c) && decide (c ≤ 9223372036854775807) then some ⟨(Lib.itoa c).toArray⟩ else none
abbrev itoa_I : Sch := ⟨[(0, .c (.t (.int .i64)))], []⟩
abbrev itoa_O : FSch := ⟨.one (.c (.t .str)), []⟩
def itoa_E (F : Nat) : Ent := ⟨15, 1, itoa_I, itoa_O, fun s => itoa_S F s, []⟩
theorem itoa_ok (F : Nat) : FnSem Tryz.prog 15 1 itoa_I itoa_O (fun s => itoa_S F s) := by
  intro c t hst S F' W0 ι w vs hlen hden hh hcl
  change Int at c
  obtain ⟨v1, h1, g1⟩ := hden 0 (.c (.sc (.int .i64 c))) rfl
  have e1 : v1 = .int .i64 c := h1.1
  subst e1
  have hvs : vs = [.int .i64 c] := by
    match vs, hlen with
    | [a], _ => simp at g1; rw [g1]
  subst hvs
  simp only [itoa_S] at hst
  cases hc : (decide (-9223372036854775808 ≤ c) && decide (c ≤ 9223372036854775807)) with
  | true =>
    rw [hc] at hst
    cases hst
    simp only [Bool.and_eq_true, decide_eq_true_eq] at hc
    have hcon := Any.strconv_Itoa Tryz.laysM171 c hc.1 hc.2 w (tab_is hh.layW)
    refine hcon.mono ?_
    rintro e w' ⟨rfl, k, os, rfl⟩
    exact ⟨ι, _, rfl, PreM.refl _ _, ⟨rfl, rfl⟩, hh.ext' ((ext_drewN w k).trans (ext_grow _ os)), Nat.le_refl _⟩
  | false => rw [hc] at hst; cases hst
def cut_S (_ : Nat) (s c : ByteArray) : Option (ByteArray × (ByteArray × Bool)) := bif decide (s.size < 4294967281) then some (⟨(Lib.cut s.data.toList c.data.toList).1.toArray⟩, (⟨(Lib.cut s.data.toList c.data.toList).2.1.toArray⟩, (Lib.cut s.data.toList c.data.toList).2.2)) else none
abbrev cut_I : Sch := ⟨[(0, .c (.t .str)), (1, .c (.t .str))], []⟩
abbrev cut_O : FSch := ⟨.tu [(false, [.t .str]), (false, [.t .str]), (false, [.t .bool])], []⟩
def cut_E (F : Nat) : Ent := ⟨19, 2, cut_I, cut_O, fun s => cut_S F s.1 s.2, []⟩
theorem cut_ok (F : Nat) : FnSem Tryz.prog 19 2 cut_I cut_O (fun s => cut_S F s.1 s.2) := by
  intro s t hst S F' W0 ι w vs hlen hden hh hcl
  obtain ⟨x, y⟩ := s
  obtain ⟨v0, h0, g0⟩ := hden 0 (.c (.sc (.string x))) rfl
  obtain ⟨v1, h1, g1⟩ := hden 1 (.c (.sc (.string y))) rfl
  have e0 : v0 = .string x := h0.1
  have e1 : v1 = .string y := h1.1
  subst e0; subst e1
  have hvs : vs = [.string x, .string y] := by
    match vs, hlen with
    | [a, b], _ => simp at g0 g1; rw [g0, g1]
  subst hvs
  simp only [cut_S] at hst
  cases hc : decide (x.size < 4294967281) with
  | false => rw [hc] at hst; cases hst
  | true =>
    rw [hc] at hst
    cases hst
    simp only [decide_eq_true_eq] at hc
    obtain ⟨m, hm⟩ := hh.layW.1
    refine (Any.strings_Cut Tryz.lays145 x y m w hc hm).mono ?_
    rintro e w' ⟨rfl, n, rfl⟩
    exact ⟨ι, _, rfl, PreM.refl _ _, ⟨_, ⟨_, _, rfl, ⟨_, rfl, ⟨rfl, rfl⟩⟩, ⟨_, _, rfl, ⟨_, rfl, ⟨rfl, rfl⟩⟩, ⟨_, _, rfl, ⟨_, rfl, ⟨rfl, rfl⟩⟩, rfl⟩⟩⟩, rfl⟩, hh.ext' (ext_drewN w n), Nat.le_refl _⟩
def atoi_S (_ : Nat) (s : ByteArray) : Option (Int × Bool) := bif decide (s.size ≤ 281474976710656) then some (match Lib.atoiAll s.data.toList with
  | .ok v => (v, true)
  | .range => (Lib.atoiSat s.data.toList, false)
  | _ => (0, false)) else none
abbrev atoi_I : Sch := ⟨[(0, .c (.t .str))], []⟩
abbrev atoi_O : FSch := ⟨.tu [(false, [.t (.int .i64)]), (false, [.t .er])], []⟩
def atoi_E (F : Nat) : Ent := ⟨20, 1, atoi_I, atoi_O, fun s => atoi_S F s, []⟩
theorem atoi_ok (F : Nat) : FnSem Tryz.prog 20 1 atoi_I atoi_O (fun s => atoi_S F s) := by
  intro x t hst S F' W0 ι w vs hlen hden hh hcl
  change ByteArray at x
  obtain ⟨v0, h0, g0⟩ := hden 0 (.c (.sc (.string x))) rfl
  have e0 : v0 = .string x := h0.1
  subst e0
  have hvs : vs = [.string x] := by
    match vs, hlen with
    | [a], _ => simp at g0; rw [g0]
  subst hvs
  simp only [atoi_S] at hst
  cases hc : decide (x.size ≤ 281474976710656) with
  | false => rw [hc] at hst; cases hst
  | true =>
    rw [hc] at hst
    simp only [cond_true] at hst
    have ht := Option.some.inj hst
    subst ht
    simp only [decide_eq_true_eq] at hc
    obtain ⟨_, ⟨t1, p1, l1⟩, ⟨t2, p2, l2⟩, _⟩ := hh.layW
    rcases ha : Lib.atoiAll x.data.toList with v | _ | _
    · refine (Any.strconv_Atoi_ok Tryz.laysC172 x (by omega) v ha w).mono ?_
      rintro e w' ⟨rfl, hw⟩
      have hE : Ext w w' := by
        rcases hw with rfl | ⟨t, rfl⟩
        · exact Ex.refl _ _
        · exact ext_bytes w _ t
      exact ⟨ι, _, rfl, PreM.refl _ _, ⟨_, ⟨_, _, rfl, ⟨_, rfl, ⟨rfl, rfl⟩⟩, ⟨_, _, rfl, ⟨_, rfl, .inl ⟨rfl, rfl⟩⟩, rfl⟩⟩, rfl⟩, hh.ext' hE, Nat.le_refl _⟩
    · refine (Any.strconv_Atoi_syntax Tryz.laysC172 x hc ha _ w l1 (.inr ⟨_, _, rfl⟩)).mono ?_
      rintro e w' ⟨N, rfl, _, _, hb⟩
      exact ⟨ι, _, rfl, PreM.refl _ _, ⟨_, ⟨_, _, rfl, ⟨_, rfl, ⟨rfl, rfl⟩⟩, ⟨_, _, rfl, ⟨_, rfl, .inr ⟨rfl, _, _, rfl⟩⟩, rfl⟩⟩, rfl⟩, hh.ext' (Ex.of_below hb), Nat.le_refl _⟩
    · refine (Any.strconv_Atoi_range Tryz.laysC172 x hc ha _ w l2 (.inr ⟨_, _, rfl⟩)).mono ?_
      rintro e w' ⟨N, rfl, _, _, hb⟩
      exact ⟨ι, _, rfl, PreM.refl _ _, ⟨_, ⟨_, _, rfl, ⟨_, rfl, ⟨rfl, rfl⟩⟩, ⟨_, _, rfl, ⟨_, rfl, .inr ⟨rfl, _, _, rfl⟩⟩, rfl⟩⟩, rfl⟩, hh.ext' (Ex.of_below hb), Nat.le_refl _⟩
def sh_T (F : Nat) : List Ent := trim_E F :: rep_E F :: itoa_E F :: cut_E F :: atoi_E F :: tab0 F
theorem sh_T_ok (F : Nat) : EntsOk Tryz.prog (sh_T F) := ⟨⟨by kernel_rfl, trim_ok F⟩, ⟨by kernel_rfl, rep_ok F⟩, ⟨by kernel_rfl, itoa_ok F⟩, ⟨by kernel_rfl, cut_ok F⟩, ⟨by kernel_rfl, atoi_ok F⟩, tab0_ok F⟩
end
end Go.Proofs.YteimbckgldkcgaaGreatDoor
