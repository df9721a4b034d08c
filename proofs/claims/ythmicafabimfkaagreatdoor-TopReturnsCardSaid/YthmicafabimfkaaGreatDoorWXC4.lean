/- slices.Sorted(maps.Keys(..)) of whole numbers: by the library's contracts. No condition. -/
import Derived.Test.YthmicafabimfkaaGreatDoorWXC2
import Derived.Ground.GgzProg
import Derived.Ground.SlgmProg
import Derived.Shelf.SlIterI.Nil
import Derived.Shelf.SlIterI.Sorted
import Derived.Shelf.SortM.Plain
import Derived.Shelf.SortM.SortNone
import Derived.Shelf.SlGeneric

namespace Go.Proofs
open Go.Shelf
def Tryz.keysA_ren : Go.Shelf.Ren := ⟨fun | 7 => 38 | 10 => 66 | n => n, fun | 23 => 91 | 26 => 3 | 3 => 4 | 28 => 124 | 0 => 0 | 27 => 123 | 33 => 131 | 4 => 4 | n => n, fun | n => n⟩
theorem Tryz.keysA : Go.Proofs.SlLaysZI.n7 Tryz.prog Tryz.keysA_ren := {
 mixed := by kernel_rfl
 f7 := ⟨Tryz.f38.name, by decide, Tryz.func38.trans (congrArg some (by kernel_rfl))⟩
 f10 := ⟨Tryz.f66.name, by decide, Tryz.func66.trans (congrArg some (by kernel_rfl))⟩
 t0 := Tryz.underlying0
 a0 := Tryz.isAgg0
 z0 := Tryz.sizeOf0
 v0 := Tryz.zeroValue0
 t4 := Tryz.underlying4
 a4 := Tryz.isAgg4
 z4 := Tryz.sizeOf4
 v4 := Tryz.zeroValue4
 t23 := Tryz.underlying91
 a23 := Tryz.isAgg91
 z23 := Tryz.sizeOf91
 v23 := Tryz.zeroValue91
 t26 := Tryz.underlying3
 a26 := Tryz.isAgg3
 z26 := Tryz.sizeOf3
 v26 := Tryz.zeroValue3
 t27 := Tryz.underlying123
 a27 := Tryz.isAgg123
 z27 := Tryz.sizeOf123
 v27 := Tryz.zeroValue123
 t28 := Tryz.underlying124
 a28 := Tryz.isAgg124
 z28 := Tryz.sizeOf124
 v28 := Tryz.zeroValue124
 t33 := Tryz.underlying131
 a33 := Tryz.isAgg131
 z33 := Tryz.sizeOf131
 v33 := Tryz.zeroValue131 }
def Tryz.sortedA_ren : Go.Shelf.Ren := ⟨fun | 6 => 37 | 8 => 64 | 9 => 65 | 11 => 83 | 13 => 85 | 12 => 84 | 23 => 102 | 24 => 103 | 14 => 93 | 15 => 94 | 16 => 95 | 17 => 96 | 18 => 97 | 19 => 98 | 20 => 99 | 21 => 100 | 22 => 101 | 25 => 104 | 26 => 105 | 27 => 106 | 28 => 107 | 29 => 108 | 30 => 109 | 31 => 110 | n => n, fun | 26 => 3 | 28 => 124 | 24 => 37 | 0 => 0 | 3 => 3 | 37 => 55 | 48 => 199 | 50 => 137 | 4 => 4 | 40 => 192 | 39 => 191 | 45 => 196 | 5 => 5 | 9 => 9 | 51 => 200 | 55 => 204 | 57 => 206 | 58 => 155 | 33 => 131 | n => n, fun | n => n⟩
theorem Tryz.sortedA : Go.Proofs.SlLaysZI.n6 Tryz.prog Tryz.sortedA_ren := {
 mixed := by kernel_rfl
 f6 := ⟨Tryz.f37.name, by decide, Tryz.func37.trans (congrArg some (by kernel_rfl))⟩
 f8 := ⟨Tryz.f64.name, by decide, Tryz.func64.trans (congrArg some (by kernel_rfl))⟩
 f11 := ⟨Tryz.f83.name, by decide, Tryz.func83.trans (congrArg some (by kernel_rfl))⟩
 t0 := Tryz.underlying0
 a0 := Tryz.isAgg0
 z0 := Tryz.sizeOf0
 v0 := Tryz.zeroValue0
 t24 := Tryz.underlying37
 a24 := Tryz.isAgg37
 z24 := Tryz.sizeOf37
 v24 := Tryz.zeroValue37
 t26 := Tryz.underlying3
 a26 := Tryz.isAgg3
 z26 := Tryz.sizeOf3
 v26 := Tryz.zeroValue3
 t28 := Tryz.underlying124
 a28 := Tryz.isAgg124
 z28 := Tryz.sizeOf124
 v28 := Tryz.zeroValue124
 i26 := by kernel_rfl }
def Tryz.sortA_ren : Go.Shelf.Ren := ⟨fun | 5 => 65 | 8 => 85 | 7 => 84 | 19 => 102 | 20 => 103 | 10 => 93 | 11 => 94 | 12 => 95 | 13 => 96 | 14 => 97 | 15 => 98 | 16 => 99 | 17 => 100 | 18 => 101 | 30 => 104 | 31 => 105 | 32 => 106 | 33 => 107 | 34 => 108 | 35 => 109 | 40 => 110 | n => n, fun | 23 => 37 | 25 => 3 | 3 => 3 | 32 => 55 | 22 => 37 | 0 => 0 | 44 => 199 | 46 => 137 | 4 => 4 | 36 => 192 | 35 => 191 | 41 => 196 | 5 => 5 | 9 => 9 | 53 => 200 | 57 => 204 | 63 => 206 | 64 => 155 | n => n, fun | n => n⟩
theorem Tryz.sortA : Go.Proofs.SlLaysM.n5 Tryz.prog Tryz.sortA_ren := {
 mixed := by kernel_rfl
 f5 := ⟨Tryz.f65.name, by decide, Tryz.func65.trans (congrArg some (by kernel_rfl))⟩
 f7 := ⟨Tryz.f84.name, by decide, Tryz.func84.trans (congrArg some (by kernel_rfl))⟩
 f8 := Tryz.func85.trans (congrArg some (by kernel_rfl))
 f10 := ⟨Tryz.f93.name, by decide, Tryz.func93.trans (congrArg some (by kernel_rfl))⟩
 f11 := ⟨Tryz.f94.name, by decide, Tryz.func94.trans (congrArg some (by kernel_rfl))⟩
 f12 := ⟨Tryz.f95.name, by decide, Tryz.func95.trans (congrArg some (by kernel_rfl))⟩
 f13 := ⟨Tryz.f96.name, by decide, Tryz.func96.trans (congrArg some (by kernel_rfl))⟩
 f14 := ⟨Tryz.f97.name, by decide, Tryz.func97.trans (congrArg some (by kernel_rfl))⟩
 f15 := ⟨Tryz.f98.name, by decide, Tryz.func98.trans (congrArg some (by kernel_rfl))⟩
 f16 := ⟨Tryz.f99.name, by decide, Tryz.func99.trans (congrArg some (by kernel_rfl))⟩
 f17 := ⟨Tryz.f100.name, by decide, Tryz.func100.trans (congrArg some (by kernel_rfl))⟩
 f18 := ⟨Tryz.f101.name, by decide, Tryz.func101.trans (congrArg some (by kernel_rfl))⟩
 f19 := Tryz.func102.trans (congrArg some (by kernel_rfl))
 f20 := Tryz.func103.trans (congrArg some (by kernel_rfl))
 f30 := ⟨Tryz.f104.name, by decide, Tryz.func104.trans (congrArg some (by kernel_rfl))⟩
 f31 := Tryz.func105.trans (congrArg some (by kernel_rfl))
 f32 := Tryz.func106.trans (congrArg some (by kernel_rfl))
 f33 := ⟨Tryz.f107.name, by decide, Tryz.func107.trans (congrArg some (by kernel_rfl))⟩
 f34 := ⟨Tryz.f108.name, by decide, Tryz.func108.trans (congrArg some (by kernel_rfl))⟩
 f35 := ⟨Tryz.f109.name, by decide, Tryz.func109.trans (congrArg some (by kernel_rfl))⟩
 f40 := ⟨Tryz.f110.name, by decide, Tryz.func110.trans (congrArg some (by kernel_rfl))⟩
 t0 := Tryz.underlying0
 a0 := Tryz.isAgg0
 z0 := Tryz.sizeOf0
 v0 := Tryz.zeroValue0
 t3 := Tryz.underlying3
 a3 := Tryz.isAgg3
 z3 := Tryz.sizeOf3
 v3 := Tryz.zeroValue3
 t4 := Tryz.underlying4
 a4 := Tryz.isAgg4
 z4 := Tryz.sizeOf4
 v4 := Tryz.zeroValue4
 t5 := Tryz.underlying5
 a5 := Tryz.isAgg5
 z5 := Tryz.sizeOf5
 v5 := Tryz.zeroValue5
 t9 := Tryz.underlying9
 a9 := Tryz.isAgg9
 z9 := Tryz.sizeOf9
 v9 := Tryz.zeroValue9
 t22 := Tryz.underlying37
 a22 := Tryz.isAgg37
 z22 := Tryz.sizeOf37
 v22 := Tryz.zeroValue37
 t23 := Tryz.underlying37
 a23 := Tryz.isAgg37
 z23 := Tryz.sizeOf37
 v23 := Tryz.zeroValue37
 t25 := Tryz.underlying3
 a25 := Tryz.isAgg3
 z25 := Tryz.sizeOf3
 v25 := Tryz.zeroValue3
 t32 := Tryz.underlying55
 a32 := Tryz.isAgg55
 z32 := Tryz.sizeOf55
 v32 := Tryz.zeroValue55
 t35 := Tryz.underlying191
 a35 := Tryz.isAgg191
 z35 := Tryz.sizeOf191
 v35 := Tryz.zeroValue191
 t36 := Tryz.underlying192
 a36 := Tryz.isAgg192
 z36 := Tryz.sizeOf192
 v36 := Tryz.zeroValue192
 t41 := Tryz.underlying196
 a41 := Tryz.isAgg196
 z41 := Tryz.sizeOf196
 v41 := Tryz.zeroValue196
 t44 := Tryz.underlying199
 a44 := Tryz.isAgg199
 z44 := Tryz.sizeOf199
 v44 := Tryz.zeroValue199
 t46 := Tryz.underlying137
 a46 := Tryz.isAgg137
 z46 := Tryz.sizeOf137
 v46 := Tryz.zeroValue137
 t53 := Tryz.underlying200
 a53 := Tryz.isAgg200
 z53 := Tryz.sizeOf200
 v53 := Tryz.zeroValue200
 t57 := Tryz.underlying204
 a57 := Tryz.isAgg204
 z57 := Tryz.sizeOf204
 v57 := Tryz.zeroValue204
 t63 := Tryz.underlying206
 a63 := Tryz.isAgg206
 z63 := Tryz.sizeOf206
 v63 := Tryz.zeroValue206
 t64 := Tryz.underlying155
 a64 := Tryz.isAgg155
 z64 := Tryz.sizeOf155
 v64 := Tryz.zeroValue155 }
end Go.Proofs
namespace Go.Proofs.YthmicafabimfkaaGreatDoor
open Go.RowKit Go.Proofs Go.Maps Go.Sort Go.Shelf
noncomputable section
def insI (x : Int) : List Int -> List Int
 | [] => [x]
 | y :: l => bif decide (x <= y) then x :: y :: l else y :: insI x l
def xQ9 : List Int -> List Int
 | [] => []
 | x :: l => insI x (xQ9 l)
theorem xIA (x : Int) : ∀ l : List Int, (insI x l).Perm (x :: l)
 | [] => List.Perm.refl _
 | y :: l => by
  unfold insI
  cases decide (x <= y) with
  | true => exact List.Perm.refl _
  | false => exact ((xIA x l).cons y).trans (List.Perm.swap x y l)
theorem xC4 : ∀ l : List Int, (xQ9 l).Perm l
 | [] => List.Perm.refl _
 | x :: l => (xIA x _).trans ((xC4 l).cons x)
theorem xIz (x : Int) : ∀ {l : List Int}, l.Pairwise (· <= ·) -> (insI x l).Pairwise (· <= ·)
 | [], _ => List.pairwise_singleton _ _
 | y :: l, h => by
  obtain ⟨h1, h2⟩ := List.pairwise_cons.1 h;unfold insI
  cases hd : decide (x <= y) with
  | true =>
   have hxy : x <= y := of_decide_eq_true hd;refine List.pairwise_cons.2 ⟨fun z hz => ?_, h⟩;rcases List.mem_cons.1 hz with rfl | hz
   ·exact hxy
   ·exact Int.le_trans hxy (h1 z hz)
  | false =>
   have hxy : ¬ x <= y := of_decide_eq_false hd;refine List.pairwise_cons.2 ⟨fun z hz => ?_, xIz x h2⟩;rcases List.mem_cons.1 ((xIA x l).mem_iff.1 hz) with rfl | hz
   ·omega
   ·exact h1 z hz
theorem xCF : ∀ l : List Int, (xQ9 l).Pairwise (· <= ·)
 | [] => List.Pairwise.nil
 | x :: l => xIz x (xCF l)
theorem xQk (l : List Int) : l.mergeSort (fun x y => decide (x <= y)) = xQ9 l := by
 have tr : ∀ a b c : Int, decide (a <= b) = true -> decide (b <= c) = true -> decide (a <= c) = true := fun a b c h1 h2 => by simp only [decide_eq_true_eq] at *; exact Int.le_trans h1 h2
 have tt : ∀ a b : Int, (decide (a <= b) || decide (b <= a)) = true := fun a b => by simp only [Bool.or_eq_true, decide_eq_true_eq]; exact Int.le_total a b
 refine List.Perm.eq_of_pairwise (le := fun a b => a <= b) (fun a b _ _ h1 h2 => Int.le_antisymm h1 h2) ((List.pairwise_mergeSort tr tt l).imp (fun h => of_decide_eq_true h)) (xCF l) ((List.mergeSort_perm l _).trans (xC4 l).symm)
theorem xVh (l : List Int) : (xQ9 l).length = l.length := (xC4 l).length_eq
theorem xQl {l l' : List Int} (h : l.Perm l') : xQ9 l = xQ9 l' :=
 List.Perm.eq_of_pairwise (le := fun a b => a <= b) (fun a b _ _ h1 h2 => Int.le_antisymm h1 h2) (xCF l) (xCF l') ((xC4 l).trans (h.trans (xC4 l').symm))
theorem xPS : ∀ xs : List Int, flat (.int .i64) xs = xs.map (fun x => CV.sc (.int .i64 x))
 | [] => rfl
 | x :: xs => by
  have := xPS xs;simp only [flat, List.flatMap_cons] at this ⊢;rw [this]; rfl
theorem xP3 {ρ : List Info} : ∀ xs : List Int, DenL ρ (xs.map (fun x => CV.sc (.int .i64 x))) (xs.map (Value.int .i64))
 | [] => rfl
 | x :: xs => ⟨_, _, rfl, ⟨rfl, rfl⟩, xP3 xs⟩
def xUP : Nat -> Option Nat := fun n => bif Nat.beq n 7 then some 8 else (bif Nat.beq n 10 then some 2 else none)
def ysp69 : Nat -> Option Nat := fun n => bif Nat.beq n 3 then some 6 else none
def xDU : Nat -> Option Nat := fun n => bif Nat.beq n 10 then some 6 else none
def keysOf (ts : List (Int × Bool)) : List Int := ts.map Prod.fst
def xDp (_ : Nat) (n : Nat) (os : List (Option (List (Int × Bool)))) : Option (List (Option (List (Int × Bool))) × List Int) :=
 bif (xDA os n && xAN 0 (rowAt os n).length) && (rowAt os n).all (fun e => decide (-9223372036854775808 <= e.1) && decide (e.1 <= 9223372036854775807)) then some (os, xQ9 (keysOf (rowAt os n))) else none
abbrev sorted_I : Sch := ⟨[(0, .c (.k (.hv 0)))], [.clo 66 [] [.k (.pt 1 0 0 0)], .blk 91 [.t (.rf 2 1)], .arm 1 (.i .i64) false .bool]⟩
abbrev sorted_O : FSch := ⟨.one (.c (.k (.sl 3 1))), [.dead, .dead, .arm 1 (.i .i64) false .bool, .rows 3 (.int .i64)]⟩
def xVi (F : Nat) : Ent := ⟨37, 1, sorted_I, sorted_O, fun s => xDp F s.1 s.2, []⟩
def RT (_ : Value) : Option (DataW Unit × List MemPlace) := some (.nil, [])
theorem xJ3 {ρ : List Info} {κ : KK} {agg : Bool} {τ : TC} : ∀ {us : List (κ.ty × Nat × τ.ty)} {l : List MapEntry}, EntOk ρ κ agg τ us l -> l.map (·.key) = us.map (fun e => κ.val e.1) /\ l.map (·.born) = us.map (fun e => e.2.1)
 | [], l, h => by rw [show l = [] from h]; exact ⟨rfl, rfl⟩
 | x :: us, l, ⟨e, r, e1, e2, ⟨e3, _⟩, e4⟩ => by
  obtain ⟨i1, i2⟩ := xJ3 e4;subst e1;simp only [List.map_cons, i1, i2, e2, e3];exact ⟨trivial, trivial⟩
theorem xVZ {w : World} {ρ : List Info} {ts : List (Int × Bool)} {ents : Array MapEntry} {cl b : Nat} (hm : MapOk ρ (.i .i64) false .bool ts ents cl) (hb : w.heap[b]? = some (.map ents cl)) (hl : ents.size <= maxLen)
  (hw : ∀ e ∈ ts, (Lit.int .i64 e.1).wf = true) : ∃ D : DataW Unit, w.ownsMap Tryz.prog 3 RT b ts.length D /\ (intKeys D).Perm (keysOf ts) /\ Maps.size D = ts.length := by
 have hsz := xIl hm;obtain ⟨us, h1, h2, h3, h4, h5⟩ := hm;obtain ⟨q1, q2⟩ := xJ3 h1;have hk : ∀ x ∈ ents.toList, ∃ e ∈ ts, x.key = Value.int .i64 e.1 := by
  intro x hx;have : x.key ∈ us.map (fun e => KK.val (.i .i64) e.1) := q1 ▸ List.mem_map.2 ⟨x, hx, rfl⟩;obtain ⟨e, he, h⟩ := List.mem_map.1 this;exact ⟨(e.1, e.2.2), h2.mem_iff.1 (List.mem_map.2 ⟨e, he, rfl⟩), h.symm⟩
 have hrd : ∀ x ∈ ents.toList, ∃ a : Int, x.key = Value.int .i64 a /\ Go.WideElems.rd Tryz.prog 3 RT x = some (.int .i64 a, .nil) := by
  intro x hx;obtain ⟨e, he, h⟩ := hk x hx;refine ⟨e.1, h, ?_⟩;have := keyOf_int_mk Tryz.underlying3 (hw e he);simp [Go.WideElems.rd, h, this, RT]
 refine ⟨.map ((ents.toList.map (Go.WideElems.rg Tryz.prog 3 RT)).foldr DataW.insert []), ⟨ents, cl, hb, ⟨hl, ⟨?_, ?_, ?_⟩, fun x hx => ?_⟩, by omega, rfl⟩, ?_, ?_⟩
 ·intro x hx;have : x.born ∈ us.map (fun e => e.2.1) := q2 ▸ List.mem_map.2 ⟨x, hx, rfl⟩;obtain ⟨e, he, h⟩ := List.mem_map.1 this;rw [<- h]; exact h5 e he
 ·rw [q2]; exact h4
 ·rw [q1];have hnd : (us.map (fun e => e.1)).Nodup := by
   rw [<- xC3];exact (h2.map Prod.fst).nodup_iff.2 h3
  have : us.map (fun e => KK.val (.i .i64) e.1) = (us.map (fun e => e.1)).map (Value.int .i64) := by rw [List.map_map]; rfl
  rw [this];exact List.nodup_iff_pairwise_ne.2 (List.pairwise_map.2 ((List.nodup_iff_pairwise_ne.1 hnd).imp (fun h e => h (by simpa using e))))
 ·obtain ⟨a, _, h⟩ := hrd x hx;exact ⟨_, h⟩
 ·show (List.map (fun p : Lit × DataW Unit => _root_.Go.intOf p.1) _).Perm _;refine ((Go.WideShapes.sorted_perm _).map _).trans ?_;rw [List.map_map];have e1 : ents.toList.map ((fun p : Lit × DataW Unit => _root_.Go.intOf p.1) ∘ Go.WideElems.rg Tryz.prog 3 RT) = us.map (fun e => e.1) := by
   have h7 : (ents.toList.map (·.key)).map (fun v => match v with
    | .int _ a => a
    | _ => 0) = us.map (fun e => e.1) := by
    rw [q1, List.map_map]; rfl
   rw [<- h7, List.map_map];refine List.map_congr_left (fun x hx => ?_);obtain ⟨a, g1, g2⟩ := hrd x hx;simp [Go.WideElems.rg_of g2, g1, _root_.Go.intOf]
  rw [e1, <- xC3];exact h2.map Prod.fst
 ·simp [Maps.size, length_sorted, hsz]
theorem sortsA (m : Nat) : AnyZI.SortsIn Tryz.prog Tryz.sortedA_ren Fence.wide m :=
 ⟨fun blk off cap ss W hH hblk hsz => callsIn_wide.2 (AnyM.slices_Sort_int Tryz.sortA blk off cap ss W hH hblk hsz),
  fun p cap W => callsIn_wide.2 (AnyM.slices_Sort_int_none Tryz.sortA p cap W)⟩
theorem xQm {S F' : List Nat} {W0 w w' : World} {ι : List Info} {os : List (Option (List (Int × Bool)))} {v : Value} {L : List Int} (hd : HOk S F' W0 ι [.dead, .dead, .arm 1 (.i .i64) false .bool os] w)
  (hown : w'.ownsRow w.heap.size 3 1 v L.length (L.map (Value.int .i64))) (hE : Ext w w') :
  ∃ ι' u, Ending.returned v = .returned u /\ PreM sorted_I.roots.length ι ι' /\ DenP ι' (sorted_O.res.enc same (sorted_O.a (os, L))) u /\ HOk S F' W0 ι' (xAm same sorted_O.roots (sorted_O.b (os, L))) w' /\ sorted_I.roots.length <= sorted_O.roots.length := by
 obtain ⟨q1, q2⟩ := hown;have key : ∃ aa cap, v = .slice aa L.length cap /\ ownsAt w' 3 1 aa cap L.length (L.map (Value.int .i64)) /\ L.length <= cap /\ cap <= maxLen /\ (0 < L.length -> ∃ b o, aa = some ⟨b, o, none⟩) /\ ∀ b, aa.map (·.block) = some b -> w.heap.size <= b := by
  rcases q2 with ⟨h2, h3⟩ | ⟨g, cap, cur, h2, h3, h4, h5, h6, h7, h8⟩
  ·refine ⟨none, 0, by rw [h2, h3], ⟨q1, by omega, by unfold maxLen; omega, .inl ⟨rfl, by simp⟩⟩, by omega, by unfold maxLen; omega, by omega, by simp⟩
  ·refine ⟨some ⟨g, 0, none⟩, cap, h2, ⟨q1, h5, h6, .inr ⟨g, 0, cur, rfl, h4, by omega, by simpa using h8⟩⟩, h5, h6, fun _ => ⟨g, 0, rfl⟩, fun b hb => ?_⟩;simp only [Option.map_some, Option.some.injEq] at hb;omega
 obtain ⟨aa, cap, e, k1, k2, k3, k4, k5⟩ := key;subst e;have hl' : ι.length = 3 := hd.len;have hg : (ι ++ [⟨aa, cap, some L.length, .nilFunc⟩])[3]? = some ⟨aa, cap, some L.length, .nilFunc⟩ := by
  rw [List.getElem?_append_right (by omega), hl']; rfl
 refine ⟨ι ++ [⟨aa, cap, some L.length, .nilFunc⟩], _, rfl, (Pre.app _ _).m, ⟨_, aa, cap, L.length, hg, rfl, k2, k3, k4, ⟨_, rfl, (Nat.sub_zero _).symm⟩, ⟨_, rfl, by omega⟩, (Nat.sub_zero _).symm, rfl, fun _ => rfl, fun _ => ?_⟩, ?_, by decide⟩
 ·cases aa <;> simp [Addr.add]
 ·exact hd.add hE ⟨aa, cap, some L.length, .nilFunc⟩ (.rows 3 (.int .i64) L) ⟨rfl, Nat.lt_succ_self 0, L.map (Value.int .i64), by rw [xPS]; exact xP3 L, k1⟩ (fun b hb => k5 b hb)
theorem xRJ (F : Nat) : xAu Tryz.prog 37 1 sorted_I sorted_O (fun s => xDp F s.1 s.2) := by
 intro s t hst S F' W0 ι w vs hlen hden hh hcl;obtain ⟨n, os⟩ := s;change Nat at n;change List (Option (List (Int × Bool))) at os;simp only [xDp] at hst
 cases hc : ((xDA os n && xAN 0 (rowAt os n).length) && (rowAt os n).all (fun e => decide (-9223372036854775808 <= e.1) && decide (e.1 <= 9223372036854775807))) with
 | false => rw [hc] at hst; cases hst
 | true =>
  rw [hc] at hst;cases hst;simp only [Bool.and_eq_true] at hc;obtain ⟨⟨hlive, hlo⟩, hall⟩ := hc;have hsz := xVX hlo;have hwf : ∀ e ∈ rowAt os n, (Lit.int .i64 e.1).wf = true := by
   intro e he;have := List.all_eq_true.1 hall e he;simp only [Bool.and_eq_true, decide_eq_true_eq] at this;simp only [Lit.wf, Bool.and_eq_true, decide_eq_true_eq];exact ⟨this.1, this.2⟩
  obtain ⟨v, hv, g⟩ := hden 0 (.c (.hv 0)) rfl;have hvs : vs = [v] := by
   match vs, hlen with
   | [a], _ => simp at g; rw [g]
  subst hvs;have hh' : HOk S F' W0 ι [.clo 66 [] [.pt 1 0 0 0], .blk [.rf 2 1 n] 91, .arm 1 (.i .i64) false .bool os] w := hh;have hd : HOk S F' W0 ι [.dead, .dead, .arm 1 (.i .i64) false .bool os] w := hh'.masked [2];have hl' : ι.length = 3 := hh'.len;obtain ⟨i0, g1, g2, _⟩ := hv;obtain ⟨fs, cs, g3, g4, g5⟩ := hh'.ok 0 _ i0 rfl g1;obtain ⟨pv, r0, g6, ⟨i1, B, o, g7, g8, _, g9⟩, g10⟩ := g4;subst g10; subst g6;have g3 : fs = [] := g3;subst g3;obtain ⟨_, B', us, g11, g12, g13⟩ := hh'.ok 1 _ i1 rfl g7;rw [g8] at g11;cases g11;obtain ⟨mv, r1, g14, g15, g16⟩ := g12;subst g16; subst g14;simp only [Nat.zero_mul, Nat.add_zero] at g9;subst g9;rw [g2, g5];have hBl : B < w.heap.size := (Array.getElem?_eq_some_iff.1 g13).1;have hBc : w.cell? ⟨B, 0, none⟩ = some mv := by simp [World.cell?, g13]
  refine (callsIn_wide (n := 5)).1 ?_;have fin : ∀ (S' : List Int -> Prop) (N : Nat) (hN : N <= maxLen) (hNb : N * 8 <= 140737488355328), (∀ ss, S' ss -> ss.Perm (keysOf (rowAt os n))) -> SeqGives Fence.wide 2 Tryz.prog 66 #[.pointer (some ⟨B, 0, none⟩)] encZ S' N w ->
    CallsIn Fence.wide 5 Tryz.prog 37 #[.func (.func 66) #[] #[.pointer (some ⟨B, 0, none⟩)]] w (fun e w' => ∃ ι' u, e = .returned u /\ PreM sorted_I.roots.length ι ι' /\ DenP ι' (sorted_O.res.enc same (sorted_O.a (os, xQ9 (keysOf (rowAt os n))))) u /\ HOk S F' W0 ι' (xAm same sorted_O.roots (sorted_O.b (os, xQ9 (keysOf (rowAt os n))))) w' /\ sorted_I.roots.length <= sorted_O.roots.length) := by
   intro S' N hN hNb hS hseq;have cS := AnyZI.sorted_in Tryz.sortedA Fence.wide 5 trivial trivial trivial trivial rfl (by omega) (sortsA _) (enters_of Tryz.func65 (by kernel_rfl) rfl) 66 #[.pointer (some ⟨B, 0, none⟩)] trivial (enters_of Tryz.func66 (by kernel_rfl) rfl) S' N hN hNb w hseq;change CallsIn _ _ Tryz.prog 37 _ _ _ at cS;refine cS.mono ?_
   rintro e w' ⟨v, ss, rfl, hSs, hrow, _, hb⟩
   rw [xQk, xQl (hS ss hSs)] at hrow;have hll : ss.length = (xQ9 (keysOf (rowAt os n))).length := by rw [xVh]; exact (hS ss hSs).length_eq
   rw [hll] at hrow;exact xQm hd hrow (Ex.of_below hb)
  have hfin : ∀ {E : Ending -> World -> Prop}, CallsIn Fence.wide 5 Tryz.prog 37 #[.func (.func 66) #[] #[.pointer (some ⟨B, 0, none⟩)]] w E -> CallsIn Fence.wide 5 Tryz.prog 37 #[.func (.func 66) #[] #[.pointer (some ⟨B, 0, none⟩)]] w E := fun h => h;rcases g15 with ⟨rfl, rfl⟩ | ⟨m, id, i', rfl, k1, k2, k3⟩
  ·exact fin (fun ss => ss = []) 0 (Nat.zero_le _) (by omega) (fun ss h => by rw [h]; exact List.Perm.refl _)
    (AnyZI.keys_gives_nil (ρ := Tryz.keysA_ren) { Tryz.keysA with } Fence.wide _ trivial rfl B w hBl hBc)
  ·obtain ⟨i2, e2⟩ : ∃ i2, ι[2]? = some i2 := ⟨ι[2], List.getElem?_eq_getElem (by omega)⟩;have k4 := hh'.cov 2 1 _ i2 rfl e2 rfl id i' m mv k1 k2;obtain ⟨_, k5, _⟩ := hh'.ok 2 _ i2 rfl e2
   cases hom : os[m]? with
   | none => simp [xDA, hom] at hlive
   | some oo =>
    cases oo with
    | none => simp [xDA, hom] at hlive
    | some ts =>
     have k6 : (Root.arm 1 (.i .i64) false .bool os).obs[m]? = some (.mp (.i .i64) false .bool ts) := by simp [Root.obs, hom]
     obtain ⟨r, ents, cl, k7, k8, k9⟩ := k5 m mv _ k4 k6;subst k7;have hrow : rowAt os (m + 1) = ts := by simp [rowAt, hom]
     rw [hrow] at hwf hsz fin ⊢;have hml := xIl k9;obtain ⟨D, d1, d2, d3⟩ := xVZ k9 k8 (by unfold maxLen; omega) hwf;refine fin (fun ss => ss.Perm (intKeys D)) (Maps.size D) (by unfold maxLen; omega) (by omega) (fun ss h => h.trans d2) ?_;exact AnyZI.keys_gives (ρ := Tryz.keysA_ren) { Tryz.keysA with } Fence.wide _ trivial rfl (by omega) B r ts.length D w hBl hBc d1
def srt_T (F : Nat) : List Ent := xVi F :: sums_T F
theorem xOP (F : Nat) : xAh Tryz.prog (srt_T F) := ⟨⟨by kernel_rfl, xRJ F⟩, xRA F⟩
end
end Go.Proofs.YthmicafabimfkaaGreatDoor


namespace Go.Proofs.YthmicafabimfkaaGreatDoor
open Go.RowKit Go.Proofs
set_option maxRecDepth 100000
set_option maxHeartbeats 4000000
noncomputable section
abbrev sTrace_n : Nat := 2
def xDr (F : Nat) (number : Int) (s1 : T_P) (s_lots : (List (Int × Nat))) (ar0 : (List (T_L × Nat))) (ar1 : T_1) : Option ((Int × (T_7 × ((List (Int × Nat)) × ((List (T_L × Nat)) × (T_1 × (List Int))))))) := (ob (xMZ F number s1 s_lots ar0 ar1) (fun r => (bif (r.1.2 != 0) then (some (r.1.2, ((r.2.1.1, (r.2.1.2.1, (r.2.1.2.2.1, (r.2.1.2.2.2.1, (r.2.1.2.2.2.2.1, (r.2.1.2.2.2.2.2.1, r.2.1.2.2.2.2.2.2)))))), r.2.2.1, r.2.2.2.1, r.2.2.2.2, []))) else (bif (!(Nat.beq r.1.1 0)) then (bif (!(Nat.beq r.1.1 0)) then (bif (inO r.1.1 r.2.2.2.1.length) then (ob (xDp F (nth r.2.2.2.1 D_E (r.1.1 - 1)).2 r.2.2.2.2) (fun r1 => (some ((0 : Int), ((r.2.1.1, (r.2.1.2.1, (r.2.1.2.2.1, (r.2.1.2.2.2.1, (r.2.1.2.2.2.2.1, (r.2.1.2.2.2.2.2.1, r.2.1.2.2.2.2.2.2)))))), r.2.2.1, r.2.2.2.1, r1.1, r1.2))))) else none) else none) else none))))
abbrev xOW : Sch := ⟨[(0, .c (.k (.pt 0 0 0 0))), (1, .c (.t (.int .i64)))], [.blk 88 [.k (.hv 1), .t C_P], .mp (.i .i64) false (.rf 0 0), .aro 0 94 C_E, .arm 1 (.i .i64) false .bool]⟩
abbrev xOV : FSch := ⟨.tu [(false, [.k (.sl 6 1)]), (false, [.t (.int .i64)])], [.blk 88 [.k (.hv 1), .t (.int .i64), .t (.int .i64), .t (.int .i64), .t (.int .i64), .t (.int .i64), .t (.int .i64), .t (.int .i64)], .mp (.i .i64) false (.rf 0 0), .dead, .dead, .aro 0 94 C_E, .arm 1 (.i .i64) false .bool, .rows 3 (.int .i64)]⟩
def xVo (F : Nat) : Ent := ⟨14, 2, xOW, xOV, fun s => xDr F s.1 s.2.1 s.2.2.1 s.2.2.2.1 s.2.2.2.2, []⟩
theorem xRQ (F : Nat) : xAu Tryz.prog 14 2 xOW xOV (fun s => xDr F s.1 s.2.1 s.2.2.1 s.2.2.2.1 s.2.2.2.2) :=
 xAF (call := xAl Tryz.prog 70 plans (srt_T F) 20) (Fu := 70) (pl := xAQ plans 14) (d := 1000) (an := .no) (xAc xAa 70 xAe (xOP F) 20) xAa (by kernel_rfl) (xAf (c := xAd Tryz.prog 14) (p := []) (trivial)) (fun s => by kernel_rfl)
def xKD (F : Nat) : List Ent := xVo F :: srt_T F
theorem xH3 (F : Nat) : xAh Tryz.prog (xKD F) := ⟨⟨by kernel_rfl, xRQ F⟩, xOP F⟩
end
end Go.Proofs.YthmicafabimfkaaGreatDoor
