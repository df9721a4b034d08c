/- A part of the proof of the theorem of the last file. No condition. By an AI agent. -/
import Derived.Test.YtnomnijhlbalaaaGreatDoorWYE
import Derived.Ground.NamesProg
import Derived.Shelf.Strings.SlTrimAscii
import Derived.Shelf.Strings.Split
import Derived.Shelf.Strings.OnBuilder
import Derived.Shelf.Strconv.Itoa3
import Derived.Shelf.Strings.Cut
import Derived.Shelf.Strconv.AtoiAll
set_option maxRecDepth 100000
set_option maxHeartbeats 4000000
namespace Go.Proofs
open Go.Shelf
def Tryz.lays160_ren : Go.Shelf.Ren := ⟨fun | 160 => 202 | 232 => 251 | 231 => 250 | 227 => 252 | 234 => 254 | 233 => 253 | 236 => 256 | 235 => 255 | 228 => 290 | 271 => 292 | 151 => 291 | 197 => 209 | 120 => 320 | 152 => 319 | 260 => 261 | 137 => 331 | 119 => 332 | 224 => 264 | 225 => 263 | 217 => 262 | 266 => 297 | n => n, fun | 9 => 9 | 4 => 4 | 3 => 3 | 5 => 5 | 117 => 388 | 116 => 387 | 0 => 0 | 124 => 391 | 21 => 21 | 105 => 340 | 46 => 220 | 119 => 424 | 139 => 427 | 138 => 426 | n => n, fun | 3 => 7 | 4 => 8 | n => n⟩
theorem Tryz.lays160 : Go.Proofs.Lays.n160 Tryz.prog Tryz.lays160_ren := by repeat' first | kernel_rfl | decide | intro _ | constructor
def Tryz.lays146_ren : Go.Shelf.Ren := ⟨fun | 146 => 34 | 221 => 66 | 268 => 137 | 138 => 138 | 143 => 139 | 195 => 208 | 197 => 209 | 218 => 210 | 219 => 211 | 260 => 261 | 217 => 262 | 225 => 263 | 224 => 264 | 267 => 265 | 266 => 297 | 314 => 298 | n => n, fun | 9 => 9 | 31 => 59 | 3 => 3 | 4 => 4 | 0 => 0 | 105 => 340 | 21 => 21 | 5 => 5 | 46 => 220 | 119 => 424 | 139 => 427 | 138 => 426 | 146 => 334 | 51 => 330 | n => n, fun | 1 => 3 | 3 => 7 | 4 => 8 | n => n⟩
theorem Tryz.lays146 : Go.Proofs.Lays.n146 Tryz.prog Tryz.lays146_ren := by repeat' first | kernel_rfl | decide | intro _ | constructor
def Tryz.lays156_ren : Go.Shelf.Ren := ⟨fun | 156 => 20 | 165 => 47 | 166 => 48 | 169 => 49 | 240 => 116 | 241 => 117 | 276 => 180 | 277 => 181 | n => n, fun | 31 => 59 | 9 => 9 | 3 => 3 | 4 => 4 | 0 => 0 | 20 => 20 | 72 => 162 | 76 => 166 | 70 => 160 | 37 => 44 | 75 => 165 | 127 => 199 | 164 => 305 | 5 => 5 | 80 => 168 | n => n, fun | n => n⟩
theorem Tryz.lays156 : Go.Proofs.Lays.n156 Tryz.prog Tryz.lays156_ren := by repeat' first | kernel_rfl | decide | intro _ | constructor
def Tryz.laysM171_ren : Go.Shelf.Ren := ⟨fun | 171 => 61 | 243 => 131 | 246 => 203 | 283 => 257 | 284 => 258 | 285 => 259 | 286 => 260 | 129 => 201 | 317 => 293 | 318 => 294 | 319 => 295 | 320 => 296 | 337 => 321 | 338 => 322 | n => n, fun | 3 => 3 | 9 => 9 | 2 => 2 | 4 => 4 | 171 => 392 | 0 => 0 | 53 => 310 | 37 => 44 | 5 => 5 | 173 => 394 | 212 => 422 | 51 => 330 | 20 => 20 | 213 => 423 | 46 => 220 | 232 => 467 | 233 => 468 | n => n, fun | 17 => 6 | 18 => 11 | 19 => 12 | n => n⟩
theorem Tryz.laysM171 : Go.Proofs.LaysM.n171 Tryz.prog Tryz.laysM171_ren := by repeat' first | kernel_rfl | decide | intro _ | constructor
def Tryz.lays145_ren : Go.Shelf.Ren := ⟨fun | 145 => 175 | 220 => 237 | 219 => 211 | 217 => 262 | 225 => 263 | 224 => 264 | 267 => 265 | 266 => 297 | 314 => 298 | n => n, fun | 9 => 9 | 4 => 4 | 59 => 297 | 3 => 3 | 5 => 5 | 46 => 220 | 146 => 334 | 51 => 330 | n => n, fun | 1 => 3 | n => n⟩
theorem Tryz.lays145 : Go.Proofs.Lays.n145 Tryz.prog Tryz.lays145_ren := by repeat' first | kernel_rfl | decide | intro _ | constructor
def Tryz.laysC172_ren : Go.Shelf.Ren := ⟨fun | 172 => 236 | 244 => 286 | 245 => 287 | 247 => 314 | 279 => 315 | 280 => 316 | 281 => 317 | 282 => 318 | 287 => 328 | 316 => 329 | 171 => 61 | 205 => 330 | 321 => 333 | 322 => 334 | 243 => 131 | 246 => 203 | 283 => 257 | 284 => 258 | 285 => 259 | 286 => 260 | 129 => 201 | 317 => 293 | 318 => 294 | 319 => 295 | 320 => 296 | 337 => 321 | 338 => 322 | n => n, fun | 9 => 9 | 3 => 3 | 75 => 165 | 76 => 166 | 4 => 4 | 5 => 5 | 167 => 445 | 37 => 44 | 0 => 0 | 85 => 446 | 2 => 2 | 168 => 448 | 53 => 310 | 175 => 460 | 46 => 220 | 210 => 464 | 127 => 199 | 145 => 472 | 143 => 470 | 21 => 21 | 171 => 392 | 173 => 394 | 212 => 422 | 51 => 330 | 20 => 20 | 213 => 423 | 232 => 467 | 233 => 468 | 80 => 168 | n => n, fun | 15 => 9 | 16 => 10 | 17 => 6 | 18 => 11 | 19 => 12 | n => n⟩
theorem Tryz.laysC172 : Go.Proofs.LaysC.n172 Tryz.prog Tryz.laysC172_ren := by repeat' first | kernel_rfl | decide | intro _ | constructor
theorem Tryz.Builder_Extra_156 : Builder.Extra Tryz.prog Tryz.lays156_ren := by repeat' first | kernel_rfl | decide | intro _ | constructor
end Go.Proofs
namespace Go.Proofs.YtnomnijhlbalaaaGreatDoor
open Go.RowKit Go.Proofs
noncomputable section
theorem xUP (w : World) (e : TypeId) (s : ByteArray) : Ext w (Lib.bytesWorld w e s) :=
 ⟨rfl, rfl, rfl, by rw [Lib.bytesWorld_size]; omega, fun k hk _ => Lib.bytesWorld_at_old w e s k hk⟩
def xVH (c : ByteArray) : Bool := c.data.toList.all (fun b => decide (b.toNat < 128))
def xHP (_ : Nat) (s c : ByteArray) : Option ByteArray := bif xVH c && (decide (s.size <= 1000000) && decide (c.size <= 1000000)) then some ⟨(Lib.trimS s.data.toList c.data.toList).toArray⟩ else none
abbrev trim_I : Sch := ⟨[(0, .c (.t .str)), (1, .c (.t .str))], []⟩
abbrev trim_O : FSch := ⟨.one (.c (.t .str)), []⟩
def trim_E (F : Nat) : Ent := ⟨202, 2, trim_I, trim_O, fun s => xHP F s.1 s.2, []⟩
theorem trim_ok (F : Nat) : FnSem Tryz.prog 202 2 trim_I trim_O (fun s => xHP F s.1 s.2) := by
 intro s t hst S F' W0 Z w vs hlen hden hh hcl;obtain ⟨x, y⟩ := s;obtain ⟨v0, h0, g0⟩ := hden 0 (.c (.sc (.string x))) rfl;obtain ⟨v1, h1, g1⟩ := hden 1 (.c (.sc (.string y))) rfl;have e0 : v0 = .string x := h0.1;have e1 : v1 = .string y := h1.1;subst e0; subst e1;have hvs : vs = [.string x, .string y] := by
  match vs, hlen with
  | [a, b], _ => simp at g0 g1; rw [g0, g1]
 subst hvs;simp only [xHP] at hst
 cases hc : (xVH y && (decide (x.size <= 1000000) && decide (y.size <= 1000000))) with
 | false => rw [hc] at hst; cases hst
 | true =>
  rw [hc] at hst;cases hst;simp only [Bool.and_eq_true, decide_eq_true_eq] at hc;have hcon := Any.strings_Trim_laid Tryz.lays160 (by kernel_rfl) x y w (by omega) (by omega) (ascii_of_all hc.1);refine hcon.mono ?_
  rintro e w' ⟨rfl, hb⟩
  exact ⟨Z, _, rfl, PreM.refl _ _, ⟨rfl, rfl⟩, hh.ext' (Ex.of_below hb), Nat.le_refl _⟩
theorem xXz (w : World) (os : Array Obj) : Ext w (Go.Sort.grow w os) :=
 ⟨rfl, rfl, rfl, by simp [Go.Sort.grow], fun k hk _ => by simp only [Go.Sort.grow]; rw [Array.getElem?_append_left hk]⟩
theorem xNg (w : World) (n : Nat) : Ext w (w.drewN n) := ⟨rfl, rfl, rfl, Nat.le_refl _, fun _ _ _ => rfl⟩
theorem tab_is {w : World} (h : gOk w) : Lib.TabIs Tryz.prog w "internal/strconv.uint64pow10" .u64 Lib.pow10Tab := by
 obtain ⟨_, _, _, _, T, f, h4⟩ := h;unfold Lib.TabIs World.var?;have hn : Tryz.prog.globalNamed "internal/strconv.uint64pow10" = some 6 := by kernel_rfl
 rw [hn];simp only [Option.bind_some, h4]
def xBT (_ : Nat) (c : Int) : Option ByteArray := bif decide (-9223372036854775808 <= c) && decide (c <= 9223372036854775807) then some ⟨(Lib.itoa c).toArray⟩ else none
abbrev itoa_I : Sch := ⟨[(0, .c .i)], []⟩
abbrev itoa_O : FSch := ⟨.one (.c (.t .str)), []⟩
def itoa_E (F : Nat) : Ent := ⟨61, 1, itoa_I, itoa_O, fun s => xBT F s, []⟩
theorem itoa_ok (F : Nat) : FnSem Tryz.prog 61 1 itoa_I itoa_O (fun s => xBT F s) := by
 intro c t hst S F' W0 Z w vs hlen hden hh hcl;change Int at c;obtain ⟨v1, h1, g1⟩ := hden 0 (.c (.sc (.int .i64 c))) rfl;have e1 : v1 = .int .i64 c := h1.1;subst e1;have hvs : vs = [.int .i64 c] := by
  match vs, hlen with
  | [a], _ => simp at g1; rw [g1]
 subst hvs;simp only [xBT] at hst
 cases hc : (decide (-9223372036854775808 <= c) && decide (c <= 9223372036854775807)) with
 | true =>
  rw [hc] at hst;cases hst;simp only [Bool.and_eq_true, decide_eq_true_eq] at hc;have hcon := Any.strconv_Itoa Tryz.laysM171 c hc.1 hc.2 w (tab_is hh.layW);refine hcon.mono ?_
  rintro e w' ⟨rfl, k, os, rfl⟩
  exact ⟨Z, _, rfl, PreM.refl _ _, ⟨rfl, rfl⟩, hh.ext' ((xNg w k).trans (xXz _ os)), Nat.le_refl _⟩
 | false => rw [hc] at hst; cases hst
def xLv (_ : Nat) (s c : ByteArray) : Option (ByteArray × (ByteArray × Bool)) := bif decide (s.size < 4294967281) then some (⟨(Lib.cut s.data.toList c.data.toList).1.toArray⟩, (⟨(Lib.cut s.data.toList c.data.toList).2.1.toArray⟩, (Lib.cut s.data.toList c.data.toList).2.2)) else none
abbrev cut_I : Sch := ⟨[(0, .c (.t .str)), (1, .c (.t .str))], []⟩
abbrev cut_O : FSch := ⟨.tu [(false, [.t .str]), (false, [.t .str]), (false, [.t .bool])], []⟩
def cut_E (F : Nat) : Ent := ⟨175, 2, cut_I, cut_O, fun s => xLv F s.1 s.2, []⟩
theorem cut_ok (F : Nat) : FnSem Tryz.prog 175 2 cut_I cut_O (fun s => xLv F s.1 s.2) := by
 intro s t hst S F' W0 Z w vs hlen hden hh hcl;obtain ⟨x, y⟩ := s;obtain ⟨v0, h0, g0⟩ := hden 0 (.c (.sc (.string x))) rfl;obtain ⟨v1, h1, g1⟩ := hden 1 (.c (.sc (.string y))) rfl;have e0 : v0 = .string x := h0.1;have e1 : v1 = .string y := h1.1;subst e0; subst e1;have hvs : vs = [.string x, .string y] := by
  match vs, hlen with
  | [a, b], _ => simp at g0 g1; rw [g0, g1]
 subst hvs;simp only [xLv] at hst
 cases hc : decide (x.size < 4294967281) with
 | false => rw [hc] at hst; cases hst
 | true =>
  rw [hc] at hst;cases hst;simp only [decide_eq_true_eq] at hc;obtain ⟨m, hm⟩ := hh.layW.2.1;refine (Any.strings_Cut Tryz.lays145 x y m w hc hm).mono ?_
  rintro e w' ⟨rfl, n, rfl⟩
  exact ⟨Z, _, rfl, PreM.refl _ _, ⟨_, ⟨_, _, rfl, ⟨_, rfl, ⟨rfl, rfl⟩⟩, ⟨_, _, rfl, ⟨_, rfl, ⟨rfl, rfl⟩⟩, ⟨_, _, rfl, ⟨_, rfl, ⟨rfl, rfl⟩⟩, rfl⟩⟩⟩, rfl⟩, hh.ext' (xNg w n), Nat.le_refl _⟩
def xG7 (_ : Nat) (s : ByteArray) : Option (Int × Bool) := bif decide (s.size <= 281474976710656) then some (match Lib.atoiAll s.data.toList with
 | .ok v => (v, true)
 | .range => (Lib.atoiSat s.data.toList, false)
 | _ => (0, false)) else none
abbrev atoi_I : Sch := ⟨[(0, .c (.t .str))], []⟩
abbrev atoi_O : FSch := ⟨.tu [(false, [.i]), (false, [.t .er])], []⟩
def atoi_E (F : Nat) : Ent := ⟨236, 1, atoi_I, atoi_O, fun s => xG7 F s, []⟩
theorem atoi_ok (F : Nat) : FnSem Tryz.prog 236 1 atoi_I atoi_O (fun s => xG7 F s) := by
 intro x t hst S F' W0 Z w vs hlen hden hh hcl;change ByteArray at x;obtain ⟨v0, h0, g0⟩ := hden 0 (.c (.sc (.string x))) rfl;have e0 : v0 = .string x := h0.1;subst e0;have hvs : vs = [.string x] := by
  match vs, hlen with
  | [a], _ => simp at g0; rw [g0]
 subst hvs;simp only [xG7] at hst
 cases hc : decide (x.size <= 281474976710656) with
 | false => rw [hc] at hst; cases hst
 | true =>
  rw [hc] at hst;simp only [cond_true] at hst;have ht := Option.some.inj hst;subst ht;simp only [decide_eq_true_eq] at hc;obtain ⟨_, _, ⟨t1, p1, l1⟩, ⟨t2, p2, l2⟩, _⟩ := hh.layW;rcases ha : Lib.atoiAll x.data.toList with v | _ | _
  ·refine (Any.strconv_Atoi_ok Tryz.laysC172 x (by omega) v ha w).mono ?_
   rintro e w' ⟨rfl, hw⟩
   have hE : Ext w w' := by
    rcases hw with rfl | ⟨t, rfl⟩
    ·exact Ex.refl _ _
    ·exact xUP w _ t
   exact ⟨Z, _, rfl, PreM.refl _ _, ⟨_, ⟨_, _, rfl, ⟨_, rfl, ⟨rfl, rfl⟩⟩, ⟨_, _, rfl, ⟨_, rfl, .inl ⟨rfl, rfl⟩⟩, rfl⟩⟩, rfl⟩, hh.ext' hE, Nat.le_refl _⟩
  ·refine (Any.strconv_Atoi_syntax Tryz.laysC172 x hc ha _ w l1 (.inr ⟨_, _, rfl⟩)).mono ?_
   rintro e w' ⟨N, rfl, _, _, hb⟩
   exact ⟨Z, _, rfl, PreM.refl _ _, ⟨_, ⟨_, _, rfl, ⟨_, rfl, ⟨rfl, rfl⟩⟩, ⟨_, _, rfl, ⟨_, rfl, .inr ⟨rfl, _, _, rfl⟩⟩, rfl⟩⟩, rfl⟩, hh.ext' (Ex.of_below hb), Nat.le_refl _⟩
  ·refine (Any.strconv_Atoi_range Tryz.laysC172 x hc ha _ w l2 (.inr ⟨_, _, rfl⟩)).mono ?_
   rintro e w' ⟨N, rfl, _, _, hb⟩
   exact ⟨Z, _, rfl, PreM.refl _ _, ⟨_, ⟨_, _, rfl, ⟨_, rfl, ⟨rfl, rfl⟩⟩, ⟨_, _, rfl, ⟨_, rfl, .inr ⟨rfl, _, _, rfl⟩⟩, rfl⟩⟩, rfl⟩, hh.ext' (Ex.of_below hb), Nat.le_refl _⟩
def xBZ (_ : Nat) (s c : ByteArray) : Option (List ByteArray) := bif decide (s.size <= 1000000) && decide (1 <= c.size) then some (Lib.splitB c 0 (Lib.countB s c) s) else none
abbrev split_I : Sch := ⟨[(0, .c (.t .str)), (1, .c (.t .str))], []⟩
abbrev split_O : FSch := ⟨.one (.c (.k (.sl 0 1))), [.rows 9 .str]⟩
def xSJ (F : Nat) : Ent := ⟨34, 2, split_I, split_O, fun s => xBZ F s.1 s.2, []⟩
theorem xQn : ∀ l : List ByteArray, flat .str l = l.map (fun s => CV.sc (.string s))
 | [] => rfl
 | x :: l => congrArg (CV.sc (.string x) :: ·) (xQn l)
theorem xQC {O : List Info} : ∀ l : List ByteArray, DenL O (l.map (fun s => CV.sc (.string s))) (l.map Value.string)
 | [] => rfl
 | x :: l => ⟨_, _, rfl, ⟨rfl, rfl⟩, xQC l⟩
theorem xSI {S F' : List Nat} {W0 w : World} {Z : List Info} {x y : ByteArray} (hh : HOk S F' W0 Z [] w) (hx : x.size <= 1000000) (hy : 1 <= y.size) :
  ∃ Z' u, Ending.returned (.slice (some ⟨w.heap.size, 0, none⟩) (Lib.countB x y + 1) (Lib.countB x y + 1)) = .returned u /\ PreM split_I.roots.length Z Z' /\ DenP Z' (split_O.res.enc same (split_O.a (Lib.splitB y 0 (Lib.countB x y) x))) u /\ HOk S F' W0 Z' (xAe same split_O.roots (split_O.b (Lib.splitB y 0 (Lib.countB x y) x))) (w.alloc (.cells ((Lib.splitB y 0 (Lib.countB x y) x).map Value.string).toArray 9)) /\ split_I.roots.length <= split_O.roots.length := by
 have hle := Lib.countB_le y hy x.size x (Nat.le_refl _);have hlen := Lib.splitB_all y hy 0 _ x rfl;generalize Lib.splitB y 0 (Lib.countB x y) x = L at *;generalize Lib.countB x y = n at *;rw [<- hlen];have hL : L.length <= 1000001 := by omega
 clear hlen hle;have hl' : Z.length = 0 := hh.len;have hg : (Z ++ [⟨some ⟨w.heap.size, 0, none⟩, L.length, some L.length, .nilFunc⟩])[0]? = some ⟨some ⟨w.heap.size, 0, none⟩, L.length, some L.length, .nilFunc⟩ := by
  rw [List.getElem?_append_right (by omega), hl']; rfl
 have hE : Ext w (w.alloc (.cells (L.map Value.string).toArray 9)) := Ex.allocs w _;refine ⟨Z ++ [⟨some ⟨w.heap.size, 0, none⟩, L.length, some L.length, .nilFunc⟩], _, rfl, (Pre.app _ _).m, ⟨_, some ⟨w.heap.size, 0, none⟩, L.length, L.length, hg, rfl, Nat.le_refl _, by unfold maxLen; omega, fun _ => ⟨_, 0, rfl⟩, ⟨_, rfl, (Nat.sub_zero _).symm⟩, ⟨_, rfl, by omega⟩, (Nat.sub_zero _).symm, rfl, fun _ => rfl, fun _ => ?_⟩, ?_, by decide⟩
 ·simp [Addr.add]
 ·refine hh.add hE ⟨some ⟨w.heap.size, 0, none⟩, L.length, some L.length, .nilFunc⟩ (.rows 9 .str L) ⟨rfl, Nat.lt_succ_self 0, L.map Value.string, by rw [xQn]; exact xQC L, ?_⟩ (fun b hb => ?_)
  ·refine ⟨by simp [TC.w], Nat.le_refl _, by show L.length <= maxLen; unfold maxLen; omega, .inr ⟨w.heap.size, 0, (L.map Value.string).toArray, rfl, ?_, by simp [TC.w], ?_⟩⟩
   ·exact xAq w _
   ·show List.take (L.length * 1) (List.drop 0 (L.map Value.string).toArray.toList) = _;rw [Nat.mul_one, List.drop_zero, List.take_of_length_le (by simp)]
  ·have hb' : some w.heap.size = some b := hb;simp only [Option.some.injEq] at hb';omega
theorem split_ok (F : Nat) : FnSem Tryz.prog 34 2 split_I split_O (fun s => xBZ F s.1 s.2) := by
 intro s t hst S F' W0 Z w vs hlen hden hh hcl;obtain ⟨x, y⟩ := s;obtain ⟨v0, h0, g0⟩ := hden 0 (.c (.sc (.string x))) rfl;obtain ⟨v1, h1, g1⟩ := hden 1 (.c (.sc (.string y))) rfl;have e0 : v0 = .string x := h0.1;have e1 : v1 = .string y := h1.1;subst e0; subst e1;have hvs : vs = [.string x, .string y] := by
  match vs, hlen with
  | [a, b], _ => simp at g0 g1; rw [g0, g1]
 subst hvs;simp only [xBZ] at hst
 cases hc : (decide (x.size <= 1000000) && decide (1 <= y.size)) with
 | false => rw [hc] at hst; cases hst
 | true =>
  rw [hc] at hst;cases hst;simp only [Bool.and_eq_true, decide_eq_true_eq] at hc;obtain ⟨m, hm⟩ := hh.layW.2.1;refine (Any.strings_Split Tryz.lays146 (by kernel_rfl) x y m w (by omega) hm hc.2).mono ?_
  rintro e w' ⟨rfl, rfl⟩
  exact xSI hh hc.1 hc.2
def sh_T (F : Nat) : List Ent := trim_E F :: itoa_E F :: cut_E F :: atoi_E F :: xSJ F :: tab0 F
theorem xKA (F : Nat) : xAj Tryz.prog (sh_T F) := ⟨⟨by kernel_rfl, trim_ok F⟩, ⟨by kernel_rfl, itoa_ok F⟩, ⟨by kernel_rfl, cut_ok F⟩, ⟨by kernel_rfl, atoi_ok F⟩, ⟨by kernel_rfl, split_ok F⟩, tab0_ok F⟩
end
end Go.Proofs.YtnomnijhlbalaaaGreatDoor
namespace Go.Proofs.YtnomnijhlbalaaaGreatDoor
section
open Go.RowKit Go.Proofs Go.Shelf
noncomputable section
theorem xLD {b : ByteArray} {l : List UInt8} (h : b.data.toList = l) : b = ⟨l.toArray⟩ := by
 obtain ⟨⟨b⟩⟩ := b;cases h;rfl
theorem xB0 {S F' : List Nat} {W0 w : World} {Z : List Info} (hh : HOk S F' W0 Z [] w) {l : List CV} {vs : List Value} (hd : ∀ O, DenL O l vs) (hlen : l.length = vs.length) (h1 : l.length <= 100) (h0 : 0 < l.length) :
  ∃ Z' u, Ending.returned (.slice (some ⟨w.heap.size, 0, none⟩) vs.length vs.length) = .returned u /\ PreM 0 Z Z' /\ Den Z' (.sl 0 1 0 (some vs.length) (some vs.length)) u /\ HOk S F' W0 Z' [.blk l 9] (w.alloc (.cells vs.toArray 9)) /\ 0 <= 1 := by
 have hl' : Z.length = 0 := hh.len;have hg : (Z ++ [⟨some ⟨w.heap.size, 0, none⟩, l.length, none, .nilFunc⟩])[0]? = some ⟨some ⟨w.heap.size, 0, none⟩, l.length, none, .nilFunc⟩ := by
  rw [List.getElem?_append_right (by omega), hl']; rfl
 refine ⟨Z ++ [⟨some ⟨w.heap.size, 0, none⟩, l.length, none, .nilFunc⟩], _, rfl, (Pre.app _ _).m, ⟨_, some ⟨w.heap.size, 0, none⟩, vs.length, vs.length, hg, rfl, Nat.le_refl _, by unfold maxLen; omega, fun _ => ⟨_, 0, rfl⟩, rfl, rfl, rfl, fun _ => ?_, fun _ => rfl⟩, ?_, by decide⟩
 ·show 0 + vs.length <= l.length;omega
 ·refine hh.add (Ex.allocs w _) ⟨some ⟨w.heap.size, 0, none⟩, l.length, none, .nilFunc⟩ (.blk l 9) ⟨⟨rfl, rfl⟩, w.heap.size, vs, rfl, hd _, xAq w _⟩ (fun b hb => ?_);have hb' : some w.heap.size = some b := hb;simp only [Option.some.injEq] at hb';omega
def xC4 (_ : Nat) (s : ByteArray) : Option (ByteArray × (ByteArray × (ByteArray × ByteArray))) := bif decide (s.size <= 1000000) then (match Lib.splitB ⟨#[32]⟩ 0 (Lib.countB s ⟨#[32]⟩) s with
 | [w0, w1, w2, w3, w4] => bif (w0.data.toList == [108, 111, 116]) then some (w1, (w2, (w3, w4))) else none
 | _ => none) else none
abbrev xPp : Sch := ⟨[(0, .c (.t .str)), (1, .c (.k (.lit (.string ⟨#[32]⟩))))], []⟩
abbrev xPo : FSch := ⟨.one (.c (.k (.sf 0 1 5))), [.blk 9 [.k (.lit (.string ⟨#[108, 111, 116]⟩)), .t .str, .t .str, .t .str, .t .str]]⟩
def xWw (F : Nat) : Ent := ⟨34, 2, xPp, xPo, fun s => xC4 F s, []⟩
theorem xSM (F : Nat) : FnSem Tryz.prog 34 2 xPp xPo (fun s => xC4 F s) := by
 intro x t hst S F' W0 Z w vs hlen hden hh hcl;change ByteArray at x;obtain ⟨v0, h0, g0⟩ := hden 0 (.c (.sc (.string x))) rfl;obtain ⟨v1, h1, g1⟩ := hden 1 (.c (.sc (.string ⟨#[32]⟩))) rfl;have e0 : v0 = .string x := h0.1;have e1 : v1 = .string ⟨#[32]⟩ := h1.1;subst e0; subst e1;have hvs : vs = [.string x, .string ⟨#[32]⟩] := by
  match vs, hlen with
  | [a, b], _ => simp at g0 g1; rw [g0, g1]
 subst hvs;simp only [xC4] at hst
 cases hc : decide (x.size <= 1000000) with
 | false => rw [hc] at hst; cases hst
 | true =>
  rw [hc, cond_true] at hst;simp only [decide_eq_true_eq] at hc;obtain ⟨m, hm⟩ := hh.layW.2.1;split at hst
  ·rename_i w0 w1 w2 w3 w4 hs;refine (Any.strings_Split Tryz.lays146 (by kernel_rfl) x ⟨#[32]⟩ m w (by omega) hm (by decide)).mono ?_
   rintro e w' ⟨rfl, rfl⟩
   have hn : Lib.countB x ⟨#[32]⟩ + 1 = 5 := by
    have := Lib.splitB_all ⟨#[32]⟩ (by decide) 0 _ x rfl;rw [hs] at this;exact this.symm
   rw [hs, hn]
   cases hq : ((w0.data.toList == [108, 111, 116])) with
   | false => rw [hq] at hst; cases hst
   | true =>
    rw [hq, cond_true] at hst;have ht := Option.some.inj hst;subst ht;simp only [Bool.and_eq_true, beq_iff_eq] at hq;obtain rfl := xLD hq;exact xB0 hh (l := [.sc (.string ⟨#[108, 111, 116]⟩), .sc (.string w1), .sc (.string w2), .sc (.string w3), .sc (.string w4)]) (vs := [.string ⟨#[108, 111, 116]⟩, .string w1, .string w2, .string w3, .string w4]) (fun O => ⟨_, _, rfl, ⟨rfl, rfl⟩, _, _, rfl, ⟨rfl, rfl⟩, _, _, rfl, ⟨rfl, rfl⟩, _, _, rfl, ⟨rfl, rfl⟩, _, _, rfl, ⟨rfl, rfl⟩, rfl⟩) rfl (by simp) (by simp)
  ·cases hst
def xB1 (_ : Nat) (s : ByteArray) : Option ByteArray := bif decide (s.size <= 1000000) then (match Lib.splitB ⟨#[32]⟩ 0 (Lib.countB s ⟨#[32]⟩) s with
 | [w0, w1, w2] => bif (w0.data.toList == [99, 104, 97, 114, 103, 101]) && (w1.data.toList == [75, 49]) then some w2 else none
 | _ => none) else none
abbrev xH6 : Sch := ⟨[(0, .c (.t .str)), (1, .c (.k (.lit (.string ⟨#[32]⟩))))], []⟩
abbrev xH5 : FSch := ⟨.one (.c (.k (.sf 0 1 3))), [.blk 9 [.k (.lit (.string ⟨#[99, 104, 97, 114, 103, 101]⟩)), .k (.lit (.string ⟨#[75, 49]⟩)), .t .str]]⟩
def xNX (F : Nat) : Ent := ⟨34, 2, xH6, xH5, fun s => xB1 F s, []⟩
theorem xL8 (F : Nat) : FnSem Tryz.prog 34 2 xH6 xH5 (fun s => xB1 F s) := by
 intro x t hst S F' W0 Z w vs hlen hden hh hcl;change ByteArray at x;obtain ⟨v0, h0, g0⟩ := hden 0 (.c (.sc (.string x))) rfl;obtain ⟨v1, h1, g1⟩ := hden 1 (.c (.sc (.string ⟨#[32]⟩))) rfl;have e0 : v0 = .string x := h0.1;have e1 : v1 = .string ⟨#[32]⟩ := h1.1;subst e0; subst e1;have hvs : vs = [.string x, .string ⟨#[32]⟩] := by
  match vs, hlen with
  | [a, b], _ => simp at g0 g1; rw [g0, g1]
 subst hvs;simp only [xB1] at hst
 cases hc : decide (x.size <= 1000000) with
 | false => rw [hc] at hst; cases hst
 | true =>
  rw [hc, cond_true] at hst;simp only [decide_eq_true_eq] at hc;obtain ⟨m, hm⟩ := hh.layW.2.1;split at hst
  ·rename_i w0 w1 w2 hs;refine (Any.strings_Split Tryz.lays146 (by kernel_rfl) x ⟨#[32]⟩ m w (by omega) hm (by decide)).mono ?_
   rintro e w' ⟨rfl, rfl⟩
   have hn : Lib.countB x ⟨#[32]⟩ + 1 = 3 := by
    have := Lib.splitB_all ⟨#[32]⟩ (by decide) 0 _ x rfl;rw [hs] at this;exact this.symm
   rw [hs, hn]
   cases hq : ((w0.data.toList == [99, 104, 97, 114, 103, 101]) && (w1.data.toList == [75, 49])) with
   | false => rw [hq] at hst; cases hst
   | true =>
    rw [hq, cond_true] at hst;have ht := Option.some.inj hst;subst ht;simp only [Bool.and_eq_true, beq_iff_eq] at hq;obtain rfl := xLD hq.1;obtain rfl := xLD hq.2;exact xB0 hh (l := [.sc (.string ⟨#[99, 104, 97, 114, 103, 101]⟩), .sc (.string ⟨#[75, 49]⟩), .sc (.string w2)]) (vs := [.string ⟨#[99, 104, 97, 114, 103, 101]⟩, .string ⟨#[75, 49]⟩, .string w2]) (fun O => ⟨_, _, rfl, ⟨rfl, rfl⟩, _, _, rfl, ⟨rfl, rfl⟩, _, _, rfl, ⟨rfl, rfl⟩, rfl⟩) rfl (by simp) (by simp)
  ·cases hst
end
end
open Go.RowKit Go.Proofs
noncomputable section
def xAw (F : Nat) (s1 : ByteArray) : Option ((Int × Bool)) := (ob (bif (decide ((s1.size : Int) >= 1)) then (bif (inC 1 s1.size) then (bif ((ByteArray.toList.loop (ByteArray.extract s1 (0 : Int).toNat ((ByteArray.mk (List.toArray (45 :: []))).size : Int).toNat) 0 []) == (ByteArray.toList.loop (ByteArray.mk (List.toArray (45 :: []))) 0 [])) then (bif (inC (s1.size : Int) s1.size) then (bif (inC 1 (s1.size : Int).toNat) then (some (s1, (ByteArray.extract s1 1 (s1.size : Int).toNat))) else none) else none) else (some (s1, s1))) else none) else (some (s1, s1))) (fun s2 => (ob (bif (decide ((s2.2.size : Int) < 1)) then (some (s2.1, true)) else (bif (decide ((s2.2.size : Int) > 16)) then (some (s2.1, true)) else (ob (xHP F s2.2 (ByteArray.mk (Array.mk (48 :: (49 :: (50 :: (51 :: (52 :: (53 :: (54 :: (55 :: (56 :: (57 :: []))))))))))))) (fun r => (bif (!((ByteArray.toList.loop (FSch.a (Ent.Out (trim_E F)) r) 0 []) == (ByteArray.toList.loop (ByteArray.mk (List.toArray [])) 0 []))) then (some (s2.1, true)) else (bif (inB 0 s2.2.size) then (bif ((bAt s2.2 0) == 48) then (some (s2.1, (!((ByteArray.toList.loop s2.1 0 []) == (ByteArray.toList.loop (ByteArray.mk (List.toArray (48 :: []))) 0 []))))) else (some (s2.1, false))) else none)))))) (fun s3 => (bif s3.2 then (some ((0 : Int), false)) else (ob (xG7 F s3.1) (fun r1 => (some (r1.1, true)))))))))
abbrev xJq : Sch := ⟨[(0, .c (.t .str))], []⟩
abbrev xJp : FSch := ⟨.tu [(false, [.i]), (false, [.t .bool])], []⟩
def xQY (F : Nat) : Ent := ⟨172, 1, xJq, xJp, fun s => xAw F s, []⟩
theorem xNO (F : Nat) : FnSem Tryz.prog 172 1 xJq xJp (fun s => xAw F s) :=
 fK (an := (.two .no (.two (.join [(.normal, ⟨[(0, .c (.t .str)), (4, .c (.t .str))], []⟩)] .no) (.two (.two (.join [(.normal, ⟨[(0, .c (.t .str)), (30, .c (.t .bool))], []⟩)] .no) .no) .no)))) (xKA F) (⟨trivial, ⟨trivial, ⟨⟨trivial, trivial⟩, trivial⟩⟩⟩)
def xJo (F : Nat) : List Ent := xQY F :: sh_T F
theorem xFu (F : Nat) : xAj Tryz.prog (xJo F) := ⟨⟨by kernel_rfl, xNO F⟩, xKA F⟩
def xAV (F : Nat) (s1 : ByteArray) : Option (((Int × Int) × Bool)) := (ob (xLv F s1 (ByteArray.mk (Array.mk (46 :: (46 :: []))))) (fun r => (ob (bif (!r.2.2) then (some ((r.1, r.1), ((0 : Int), (0 : Int)))) else (some ((r.1, r.2.1), ((0 : Int), (0 : Int))))) (fun s2 => (ob (xAw F s2.1.1) (fun r1 => (ob (xAw F s2.1.2) (fun r2 => (bif r1.2 then (some ((r1.1, r2.1), r2.2)) else (some ((r1.1, r2.1), false)))))))))))
abbrev xLR : Sch := ⟨[(0, .c (.t .str))], []⟩
abbrev xLQ : FSch := ⟨.tu [(true, [.t (.pair .i .i)]), (false, [.t .bool])], []⟩
def xSj (F : Nat) : Ent := ⟨173, 1, xLR, xLQ, fun s => xAV F s, []⟩
theorem xQX (F : Nat) : FnSem Tryz.prog 173 1 xLR xLQ (fun s => xAV F s) :=
 fK (an := (.two .no (.two .no (.two (.join [(.normal, ⟨[(2, .c (.k (.pt 0 0 0 0))), (4, .c (.t .str)), (5, .c (.t .str))], [.blk 28 [.t (.pair .i .i)]]⟩)] .no) .no)))) (xFu F) (⟨trivial, ⟨trivial, ⟨trivial, trivial⟩⟩⟩)
def xLP (F : Nat) : List Ent := xSj F :: xJo F
theorem xGO (F : Nat) : xAj Tryz.prog (xLP F) := ⟨⟨by kernel_rfl, xQX F⟩, xFu F⟩
end
noncomputable section
def xDG (F : Nat) (n : Int) (least : Int) (most : Int) : Option (Bool) := (bif (decide (n >= least)) then (some (decide (n <= most))) else (some false))
abbrev xO1 : Sch := ⟨[(0, .c .i), (1, .c .i), (2, .c .i)], []⟩
abbrev xO0 : FSch := ⟨.one (.c (.t .bool)), []⟩
def xWb (F : Nat) : Ent := ⟨63, 3, xO1, xO0, fun s => xDG F s.1 s.2.1 s.2.2, []⟩
theorem xR5 (F : Nat) : FnSem Tryz.prog 63 3 xO1 xO0 (fun s => xDG F s.1 s.2.1 s.2.2) :=
 fK (an := .no) (xGO F) (trivial)
def xOZ (F : Nat) : List Ent := xWb F :: xLP F
theorem xHM (F : Nat) : xAj Tryz.prog (xOZ F) := ⟨⟨by kernel_rfl, xR5 F⟩, xGO F⟩
def xFT (F : Nat) (r : (Int × Int)) (most : Int) : Option (Bool) := (bif (decide (0 <= r.1)) then (bif (decide (r.1 <= r.2)) then (some (decide (r.2 <= most))) else (some false)) else (some false))
abbrev xM3 : Sch := ⟨[(0, .ag [.t (.pair .i .i)]), (1, .c .i)], []⟩
abbrev xM2 : FSch := ⟨.one (.c (.t .bool)), []⟩
def xUs (F : Nat) : Ent := ⟨108, 2, xM3, xM2, fun s => xFT F s.1 s.2, []⟩
theorem xRD (F : Nat) : FnSem Tryz.prog 108 2 xM3 xM2 (fun s => xFT F s.1 s.2) :=
 fK (an := .no) (xHM F) (trivial)
def xM1 (F : Nat) : List Ent := xUs F :: xOZ F
theorem xGZ (F : Nat) : xAj Tryz.prog (xM1 F) := ⟨⟨by kernel_rfl, xRD F⟩, xHM F⟩
def xEx (F : Nat) (r : (Int × Int)) : Option (Bool) := (ob (xFT F r 100000000) (fun r1 => (some (!r1))))
abbrev xVO : Sch := ⟨[(0, .ag [.t (.pair .i .i)])], []⟩
abbrev xVN : FSch := ⟨.one (.c (.t .bool)), []⟩
def areB1_E (F : Nat) : Ent := ⟨136, 1, xVO, xVN, fun s => xEx F s, []⟩
theorem xXO (F : Nat) : FnSem Tryz.prog 136 1 xVO xVN (fun s => xEx F s) :=
 fK (an := .no) (xGZ F) (trivial)
def xVM (F : Nat) : List Ent := areB1_E F :: xM1 F
theorem xGJ (F : Nat) : xAj Tryz.prog (xVM F) := ⟨⟨by kernel_rfl, xXO F⟩, xGZ F⟩
abbrev ixRg_n : Nat := 2
def xK7 (F : Nat) (t7 : Int) (g0 : (List (Int × Int))) : Nat -> Int -> Option ((Int × (List (Int × Int))) ⊕ (List (Int × Int)))
 | 0, _ => none
 | n_ + 1, t8 => (bif (decide (t8 < t7)) then (bif (inB t8 (g0.length - 0)) then (ob (xEx F (nth g0 D_1 t8.toNat)) (fun r => (bif r then (some (.inl (t8, g0))) else (xK7 F t7 g0 n_ (jI.wrap (t8 + 1)))))) else none) else (some (.inr g0)))
abbrev xMZ : Sch := ⟨[(0, .c (.k (.sl 0 2))), (1, .c (.k (.lit (.func (.func 136) ⟨[]⟩ ⟨[]⟩)))), (7, .c .i), (8, .c .i)], [K_5]⟩
abbrev xM0 : xBY := [(.ret, ⟨[(4, .c .i)], [K_5]⟩), ((.exit 0), ⟨[], [K_5]⟩)]
theorem xRC (F : Nat) : ∀ n, xAS Tryz.prog 1 (xAv Tryz.prog 207 ixRg_n) (xAt (xAi Tryz.prog 207) [1, 0, 1, 0, 0]) xMZ xM0 (fun s => (xK7 F s.1.1 s.2 n s.1.2)) :=
 lK (an := .no) (xGJ F) (trivial)
def xUq (F : Nat) (s1 : (List (Int × Int))) : Option (Int) := (ob (xK7 F ((s1.length - 0) : Int) s1 F 0) (fun o_ => su o_ (fun s2 => (some s2.1)) (fun s3 => (some (-1 : Int)))))
abbrev ixRg_I : Sch := ⟨[(0, .c (.k (.sl 0 2))), (1, .c (.k (.lit (.func (.func 136) ⟨[]⟩ ⟨[]⟩))))], [K_5]⟩
abbrev ixRg_O : FSch := ⟨.one (.c .i), [.dead]⟩
def ixRg_E (F : Nat) : Ent := ⟨207, 2, ixRg_I, ixRg_O, fun s => xUq F s, []⟩
theorem ixRg_ok (F : Nat) : FnSem Tryz.prog 207 2 ixRg_I ixRg_O (fun s => xUq F s) :=
 fK (an := (.two .no (.two (.two .no (.one (.loop xMZ xM0 (fun s => (xK7 F s.1.1 s.2 F s.1.2))))) .no))) (xGJ F) (⟨trivial, ⟨⟨trivial, (xRC F F)⟩, trivial⟩⟩)
def ixRg_T (F : Nat) : List Ent := ixRg_E F :: xVM F
theorem xMY (F : Nat) : xAj Tryz.prog (ixRg_T F) := ⟨⟨by kernel_rfl, ixRg_ok F⟩, xGJ F⟩
def cfRg_S (F : Nat) (s1 : (List (Int × Int))) : Option (Bool) := (ob (xUq F s1) (fun r => (some (decide (r >= 0)))))
abbrev cfRg_I : Sch := ⟨[(0, .c (.k (.sl 0 2))), (1, .c (.k (.lit (.func (.func 136) ⟨[]⟩ ⟨[]⟩))))], [K_5]⟩
abbrev cfRg_O : FSch := ⟨.one (.c (.t .bool)), [.dead]⟩
def cfRg_E (F : Nat) : Ent := ⟨135, 2, cfRg_I, cfRg_O, fun s => cfRg_S F s, []⟩
theorem cfRg_ok (F : Nat) : FnSem Tryz.prog 135 2 cfRg_I cfRg_O (fun s => cfRg_S F s) :=
 fK (an := .no) (xMY F) (trivial)
def cfRg_T (F : Nat) : List Ent := cfRg_E F :: ixRg_T F
theorem xNy (F : Nat) : xAj Tryz.prog (cfRg_T F) := ⟨⟨by kernel_rfl, cfRg_ok F⟩, xMY F⟩
def xC0 (F : Nat) (b : T_0) : Option (Bool) := (ob (xEx F b.1) (fun r => (bif r then (some false) else (ob (xEx F b.2.1) (fun r1 => (bif r1 then (some false) else (ob (xEx F b.2.2) (fun r2 => (bif r2 then (some false) else (some true))))))))))
abbrev xI5 : Sch := ⟨[(0, .ag [.t C_0])], []⟩
abbrev xI4 : FSch := ⟨.one (.c (.t .bool)), []⟩
def xOQ (F : Nat) : Ent := ⟨64, 1, xI5, xI4, fun s => xC0 F s, []⟩
theorem xNH (F : Nat) : FnSem Tryz.prog 64 1 xI5 xI4 (fun s => xC0 F s) :=
 fK (an := .no) (xNy F) (trivial)
def xI3 (F : Nat) : List Ent := xOQ F :: cfRg_T F
theorem xE5 (F : Nat) : xAj Tryz.prog (xI3 F) := ⟨⟨by kernel_rfl, xNH F⟩, xNy F⟩
def xGu (F : Nat) (l : (Int × (Int × (T_0 × Int)))) : Option (Bool) := (ob (xDG F l.1 0 1000) (fun r => (bif r then (ob (xDG F l.2.1 1 1000000) (fun r1 => (bif r1 then (ob (xC0 F l.2.2.1) (fun r2 => (bif r2 then (ob (xDG F l.2.2.2 0 1000000) (fun r3 => (some r3))) else (some false)))) else (some false)))) else (some false))))
abbrev xUv : Sch := ⟨[(0, .ag [.t C_1])], []⟩
abbrev xUu : FSch := ⟨.one (.c (.t .bool)), []⟩
def isLot_E (F : Nat) : Ent := ⟨30, 1, xUv, xUu, fun s => xGu F s, []⟩
theorem xXl (F : Nat) : FnSem Tryz.prog 30 1 xUv xUu (fun s => xGu F s) :=
 fK (an := .no) (xE5 F) (trivial)
def xUt (F : Nat) : List Ent := isLot_E F :: xI3 F
theorem xJ1 (F : Nat) : xAj Tryz.prog (xUt F) := ⟨⟨by kernel_rfl, xXl F⟩, xE5 F⟩
def put_S (F : Nat) (l : (Int × (Int × (T_0 × Int)))) (n : Int) (p : (Int × T_0)) : Option ((Int × T_0)) := (some ((jI.wrap (p.1 + (jI.wrap (n * l.2.1)))), (((jI.wrap (p.2.1.1 + (jI.wrap (n * l.2.2.1.1.1)))), (jI.wrap (p.2.1.2 + (jI.wrap (n * l.2.2.1.1.2))))), (((jI.wrap (p.2.2.1.1 + (jI.wrap (n * l.2.2.1.2.1.1)))), (jI.wrap (p.2.2.1.2 + (jI.wrap (n * l.2.2.1.2.1.2))))), ((jI.wrap (p.2.2.2.1 + (jI.wrap (n * l.2.2.1.2.2.1)))), (jI.wrap (p.t4 + (jI.wrap (n * l.2.2.1.2.2.2)))))))))
abbrev put_I : Sch := ⟨[(0, .c (.k (.pt 0 0 0 0))), (1, .ag [.t C_1]), (2, .c .i)], [xRX]⟩
abbrev put_O : FSch := ⟨.tu [], [xRX]⟩
def put_E (F : Nat) : Ent := ⟨50, 3, put_I, put_O, fun s => put_S F s.1.1 s.1.2 s.2, []⟩
theorem put_ok (F : Nat) : FnSem Tryz.prog 50 3 put_I put_O (fun s => put_S F s.1.1 s.1.2 s.2) :=
 fK (an := .no) (xJ1 F) (trivial)
def put_T (F : Nat) : List Ent := put_E F :: xUt F
theorem xPI (F : Nat) : xAj Tryz.prog (put_T F) := ⟨⟨by kernel_rfl, put_ok F⟩, xJ1 F⟩
def xJM (F : Nat) (ar0 : T_2) (ar1 : T_4) : Option ((T_2 × (T_4 × (T_1 × (List (Int × Nat)))))) := (some (ar0, ar1, ((0 : Int), ((0 : Int), ((0 : Int), ((0 : Int), ((0 : Int), ((0 : Int), (0 : Int))))))), []))
abbrev xJO : Sch := ⟨[], [K_1, K_2]⟩
abbrev xJN : FSch := ⟨.one (.c (.k (.pt 4 0 0 0))), [.dead, .dead, K_1, K_2, .blk 117 [.k (.hv 5), .i, .i, .i, .i, .i, .i, .i], K_3]⟩
def xRr (F : Nat) : Ent := ⟨9, 0, xJO, xJN, fun s => xJM F s.1 s.2, []⟩
theorem xOk (F : Nat) : FnSem Tryz.prog 9 0 xJO xJN (fun s => xJM F s.1 s.2) :=
 fK (an := .no) (xPI F) (trivial)
def xJL (F : Nat) : List Ent := xRr F :: put_T F
theorem xFM (F : Nat) : xAj Tryz.prog (xJL F) := ⟨⟨by kernel_rfl, xOk F⟩, xPI F⟩
def add_S (F : Nat) (l : (Int × (Int × (T_0 × Int)))) (bfr : Nat) (s1 : (Int × T_0)) (sl_ : (List (Int × Nat))) (ar0 : T_2) (ar1 : T_4) : Option (((Int × Int) × (T_1 × ((List (Int × Nat)) × (T_2 × T_4))))) := (bif (decide ((sl_.length : Int) >= 200)) then (some (((0 : Int), (8 : Int)), ((f7 s1), sl_, ar0, ar1))) else (some (((jI.wrap ((sl_.length : Int) + 1)), (0 : Int)), ((f7 s1), (xHh (KK.i jI) (jI.wrap ((sl_.length : Int) + 1)) (ar0.length + 1) sl_), (ar0 ++ ((l, bfr) :: [])), ar1))))
abbrev add_I : Sch := ⟨[(0, .c (.k (.pt 0 0 0 0))), (1, .ag [.t C_1]), (2, .ag [.t (.rf 2 1)])], [K_24, K_3, K_1, K_2]⟩
abbrev add_O : FSch := ⟨.tu [(false, [.i]), (false, [.i])], [K_8, K_3, .dead, .dead, K_1, K_2]⟩
def add_E (F : Nat) : Ent := ⟨33, 3, add_I, add_O, fun s => add_S F s.1.1 s.1.2 s.2.1 s.2.2.1 s.2.2.2.1 s.t4, []⟩
theorem add_ok (F : Nat) : FnSem Tryz.prog 33 3 add_I add_O (fun s => add_S F s.1.1 s.1.2 s.2.1 s.2.2.1 s.2.2.2.1 s.t4) :=
 fK (an := .no) (xFM F) (trivial)
def add_T (F : Nat) : List Ent := add_E F :: xJL F
theorem xQR (F : Nat) : xAj Tryz.prog (add_T F) := ⟨⟨by kernel_rfl, add_ok F⟩, xFM F⟩
def xCk (F : Nat) (l : (Int × (Int × (T_0 × Int)))) (s1 : (Int × T_0)) (sl_ : (List (Int × Nat))) (ar0 : T_2) (ar1 : T_4) : Option (((Int × Int) × (T_1 × ((List (Int × Nat)) × (T_2 × T_4))))) := (ob (xGu F l) (fun r => (bif (!r) then (some (((0 : Int), (2 : Int)), ((f7 s1), sl_, ar0, ar1))) else (bif (l.1 == 0) then (some (((0 : Int), (2 : Int)), ((f7 s1), sl_, ar0, ar1))) else (bif (decide ((sl_.length : Int) >= 200)) then (some (((0 : Int), (8 : Int)), ((f7 s1), sl_, ar0, ar1))) else (some (((jI.wrap ((sl_.length : Int) + 1)), (0 : Int)), ((f7 s1), (xHh (KK.i jI) (jI.wrap ((sl_.length : Int) + 1)) (ar0.length + 1) sl_), (ar0 ++ ((l, 0) :: [])), ar1))))))))
abbrev xMy : Sch := ⟨[(0, .c (.k (.pt 0 0 0 0))), (1, .ag [.t C_1])], [K_24, K_3, K_1, K_2]⟩
abbrev xMx : FSch := ⟨.tu [(false, [.i]), (false, [.i])], [K_8, K_3, .dead, .dead, K_1, K_2]⟩
def xTe (F : Nat) : Ent := ⟨15, 2, xMy, xMx, fun s => xCk F s.1 s.2.1 s.2.2.1 s.2.2.2.1 s.t4, []⟩
theorem xRl (F : Nat) : FnSem Tryz.prog 15 2 xMy xMx (fun s => xCk F s.1 s.2.1 s.2.2.1 s.2.2.2.1 s.t4) :=
 fK (an := .no) (xQR F) (trivial)
def xMw (F : Nat) : List Ent := xTe F :: add_T F
theorem xGT (F : Nat) : xAj Tryz.prog (xMw F) := ⟨⟨by kernel_rfl, xRl F⟩, xQR F⟩
def xJ4 (F : Nat) (number : Int) (s1 : (Int × T_0)) (sl_ : (List (Int × Nat))) (ar0 : T_2) (ar1 : T_4) : Option (((Nat × Int) × (T_1 × ((List (Int × Nat)) × (T_2 × T_4))))) := (bif (Nat.beq (xEW (KK.i jI) 0 number sl_) 0) then (some ((0, (7 : Int)), ((f7 s1), sl_, ar0, ar1))) else (some (((xEW (KK.i jI) 0 number sl_), (0 : Int)), ((f7 s1), sl_, ar0, ar1))))
abbrev find_I : Sch := ⟨[(0, .c (.k (.pt 0 0 0 0))), (1, .c .i)], [K_24, K_3, K_1, K_2]⟩
abbrev find_O : FSch := ⟨.tu [(false, [.t (.rf 0 0)]), (false, [.i])], [K_8, K_3, .dead, .dead, K_1, K_2]⟩
def find_E (F : Nat) : Ent := ⟨37, 2, find_I, find_O, fun s => xJ4 F s.1 s.2.1 s.2.2.1 s.2.2.2.1 s.t4, []⟩
theorem find_ok (F : Nat) : FnSem Tryz.prog 37 2 find_I find_O (fun s => xJ4 F s.1 s.2.1 s.2.2.1 s.2.2.2.1 s.t4) :=
 fK (an := .no) (xGT F) (trivial)
def find_T (F : Nat) : List Ent := find_E F :: xMw F
theorem xNf (F : Nat) : xAj Tryz.prog (find_T F) := ⟨⟨by kernel_rfl, find_ok F⟩, xGT F⟩
def xFA (F : Nat) (number : Int) (s1 : (Int × T_0)) (sl_ : (List (Int × Nat))) (ar0 : T_2) (ar1 : T_4) : Option ((((Int × (Int × (T_0 × Int))) × Int) × (T_1 × ((List (Int × Nat)) × (T_2 × T_4))))) := (ob (xJ4 F number s1 sl_ ar0 ar1) (fun r => (bif (r.1.2 != 0) then (some ((((0 : Int), ((0 : Int), ((((0 : Int), (0 : Int)), (((0 : Int), (0 : Int)), ((0 : Int), (0 : Int)))), (0 : Int)))), r.1.2), ((r.2.1.1, (r.2.1.2.1, (r.2.1.2.2.1, (r.2.1.2.2.2.1, (r.2.1.t4))))), r.2.2))) else (bif (!(Nat.beq r.1.1 0)) then (bif (!(Nat.beq r.1.1 0)) then (bif (inO r.1.1 r.2.2.2.1.length) then (some (((nth r.2.2.2.1 D_0 (r.1.1 - 1)).1, (0 : Int)), ((r.2.1.1, (r.2.1.2.1, (r.2.1.2.2.1, (r.2.1.2.2.2.1, (r.2.1.t4))))), r.2.2))) else none) else none) else none))))
abbrev sLot_I : Sch := ⟨[(0, .c (.k (.pt 0 0 0 0))), (1, .c .i)], [K_24, K_3, K_1, K_2]⟩
abbrev sLot_O : FSch := ⟨.tu [(true, [.t C_1]), (false, [.i])], [K_8, K_3, .dead, .dead, K_1, K_2]⟩
def sLot_E (F : Nat) : Ent := ⟨16, 2, sLot_I, sLot_O, fun s => xFA F s.1 s.2.1 s.2.2.1 s.2.2.2.1 s.t4, []⟩
theorem sLot_ok (F : Nat) : FnSem Tryz.prog 16 2 sLot_I sLot_O (fun s => xFA F s.1 s.2.1 s.2.2.1 s.2.2.2.1 s.t4) :=
 fK (an := .no) (xNf F) (trivial)
def sLot_T (F : Nat) : List Ent := sLot_E F :: find_T F
theorem xMp (F : Nat) : xAj Tryz.prog (sLot_T F) := ⟨⟨by kernel_rfl, sLot_ok F⟩, xNf F⟩
end
noncomputable section
def newW_S (F : Nat) (ar0 : T_2) (ar1 : T_4) (ar2 : T_3) (ar3 : T_7) (ar4 : T_6) : Option ((T_3 × (T_7 × (T_6 × (T_2 × (T_4 × (T_1 × ((List (ByteArray × Nat)) × ((List (ByteArray × Nat)) × (List (Int × Nat))))))))))) := (some (ar2, ar3, ar4, ar0, ar1, ((0 : Int), ((0 : Int), ((0 : Int), ((0 : Int), ((0 : Int), ((0 : Int), (0 : Int))))))), [], [], []))
abbrev newW_I : Sch := ⟨[], [K_1, K_2, xCz, xCy, xCA]⟩
abbrev newW_O : FSch := ⟨.one (.c (.k (.pt 10 0 0 0))), [.dead, .dead, .dead, .dead, .dead, xCz, xCy, xCA, K_1, K_2, .blk 114 [.k (.pt 11 0 0 0), .k (.hv 12), .k (.hv 13), .k (.lit (.slice none 0 0)), .k (.lit (.slice none 0 0)), .k (.lit (.slice none 0 0)), .k (.lit (.pointer none))], .blk 117 [.k (.hv 14), .i, .i, .i, .i, .i, .i, .i], K_4, K_4, K_3]⟩
def newW_E (F : Nat) : Ent := ⟨8, 0, newW_I, newW_O, fun s => newW_S F s.1 s.2.1 s.2.2.1 s.2.2.2.1 s.t4, []⟩
theorem newW_ok (F : Nat) : FnSem Tryz.prog 8 0 newW_I newW_O (fun s => newW_S F s.1 s.2.1 s.2.2.1 s.2.2.2.1 s.t4) :=
 fK (an := .no) (xMp F) (trivial)
def xEZ (F : Nat) : List Ent := newW_E F :: sLot_T F
theorem xCl (F : Nat) : xAj Tryz.prog (xEZ F) := ⟨⟨by kernel_rfl, newW_ok F⟩, xMp F⟩
end
noncomputable section
def lot0_T (F : Nat) : List Ent := xWw F :: xEZ F
theorem xT7 (F : Nat) : xAj Tryz.prog (lot0_T F) := ⟨⟨by kernel_rfl, xSM F⟩, xCl F⟩
end
noncomputable section
def xCW (F : Nat) (s1 : ByteArray) (ws : (Int × T_0)) (wl : (List (Int × Nat))) (wi : (List (ByteArray × Nat))) (ww : (List (ByteArray × Nat))) (ar0 : T_2) (ar1 : T_4) (ar2 : T_3) (ar3 : T_7) (ar4 : T_6) : Option (((ByteArray × Int) × (T_1 × ((List (Int × Nat)) × ((List (ByteArray × Nat)) × ((List (ByteArray × Nat)) × (T_2 × (T_4 × (T_3 × (T_7 × T_6)))))))))) := (bif (decide ((s1.size : Int) > 2000)) then (some ((B_1, (5 : Int)), ((f7 ws), wl, wi, ww, ar0, ar1, ar2, ar3, ar4))) else (ob (xC4 F s1) (fun r => (ob (xAw F (nth ((ByteArray.mk (Array.mk (108 :: (111 :: (116 :: []))))) :: (r.1 :: (r.2.1 :: (r.2.2.1 :: (r.2.2.2 :: []))))) B_1 1)) (fun r1 => (bif (!r1.2) then (some ((B_1, (4 : Int)), ((f7 ws), wl, wi, ww, ar0, ar1, ar2, ar3, ar4))) else (ob (xAw F (nth ((ByteArray.mk (Array.mk (108 :: (111 :: (116 :: []))))) :: (r.1 :: (r.2.1 :: (r.2.2.1 :: (r.2.2.2 :: []))))) B_1 2)) (fun r2 => (bif (!r2.2) then (some ((B_1, (4 : Int)), ((f7 ws), wl, wi, ww, ar0, ar1, ar2, ar3, ar4))) else (ob (xBZ F (nth ((ByteArray.mk (Array.mk (108 :: (111 :: (116 :: []))))) :: (r.1 :: (r.2.1 :: (r.2.2.1 :: (r.2.2.2 :: []))))) B_1 3) (ByteArray.mk (Array.mk (47 :: [])))) (fun r3 => (bif (((r3.length - 0) : Int) != 3) then (some ((B_1, (4 : Int)), ((f7 ws), wl, wi, ww, ar0, ar1, ar2, ar3, ar4))) else (bif (inB 0 (r3.length - 0)) then (ob (xAV F (nth r3 (TC.dflt .str) 0)) (fun r4 => (bif (!r4.2) then (some ((B_1, (4 : Int)), ((f7 ws), wl, wi, ww, ar0, ar1, ar2, ar3, ar4))) else (bif (inB 1 (r3.length - 0)) then (ob (xAV F (nth r3 (TC.dflt .str) 1)) (fun r5 => (bif (!r5.2) then (some ((B_1, (4 : Int)), ((f7 ws), wl, wi, ww, ar0, ar1, ar2, ar3, ar4))) else (bif (inB 2 (r3.length - 0)) then (ob (xAV F (nth r3 (TC.dflt .str) 2)) (fun r6 => (bif (!r6.2) then (some ((B_1, (4 : Int)), ((f7 ws), wl, wi, ww, ar0, ar1, ar2, ar3, ar4))) else (ob (xAw F (nth ((ByteArray.mk (Array.mk (108 :: (111 :: (116 :: []))))) :: (r.1 :: (r.2.1 :: (r.2.2.1 :: (r.2.2.2 :: []))))) B_1 4)) (fun r7 => (bif (!r7.2) then (some ((B_1, (4 : Int)), ((f7 ws), wl, wi, ww, ar0, ar1, ar2, ar3, ar4))) else (ob (xCk F ((nth (((r1.1 :: []) ++ (r2.1 :: [])) ++ (r7.1 :: [])) 0 0), ((nth (((r1.1 :: []) ++ (r2.1 :: [])) ++ (r7.1 :: [])) 0 1), ((nth ((r4.1, (r5.1, r6.1)) :: []) (TC.dflt C_0) 0), (nth (((r1.1 :: []) ++ (r2.1 :: [])) ++ (r7.1 :: [])) 0 2)))) ws wl ar0 ar1) (fun r8 => (ob (xBT F r8.1.1) (fun r9 => (bif (r8.1.2 != 0) then (some ((B_1, r8.1.2), ((r8.2.1.1, (r8.2.1.2.1, (r8.2.1.2.2.1, (r8.2.1.2.2.2.1, (r8.2.1.t4))))), r8.2.2.1, wi, ww, r8.2.2.2.1, r8.t4, ar2, ar3, ar4))) else (some ((r9, (0 : Int)), ((r8.2.1.1, (r8.2.1.2.1, (r8.2.1.2.2.1, (r8.2.1.2.2.2.1, (r8.2.1.t4))))), r8.2.2.1, wi, ww, r8.2.2.2.1, r8.t4, ar2, ar3, ar4)))))))))))))) else none)))) else none)))) else none)))))))))))))
abbrev xFR : Sch := H_0
abbrev xIx : FSch := ⟨.tu [(false, [.t .str]), (false, [.i])], [K_0, K_6, K_3, K_4, K_4, .dead, .dead, .dead, .dead, .dead, K_1, K_2, xCz, xCy, xCA]⟩
def xFS (F : Nat) : Ent := ⟨13, 2, xFR, xIx, fun s => xCW F s.1 s.2.1 s.2.2.1 s.2.2.2.1 s.t4.1 s.t5.1 s.t6.1 s.t7.1 s.t8.1 s.t9, []⟩
theorem xRz (F : Nat) : FnSem Tryz.prog 13 2 xFR xIx (fun s => xCW F s.1 s.2.1 s.2.2.1 s.2.2.2.1 s.t4.1 s.t5.1 s.t6.1 s.t7.1 s.t8.1 s.t9) :=
 fK (an := .no) (xT7 F) (trivial)
end
end Go.Proofs.YtnomnijhlbalaaaGreatDoor
