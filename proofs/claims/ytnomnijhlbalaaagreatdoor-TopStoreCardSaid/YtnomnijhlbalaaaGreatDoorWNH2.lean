/- A part of the proof of the theorem of the last file. No condition. By an AI agent. -/
import Derived.Test.YtnomnijhlbalaaaGreatDoorWXT1
import Derived.Ground.GgzProg
import Derived.Ground.SlgmProg
import Derived.Shelf.SlIterI.Nil
import Derived.Shelf.SlIterI.Sorted
import Derived.Shelf.SortM.Plain
import Derived.Shelf.SortM.SortNone
import Derived.Shelf.SlGeneric
set_option maxRecDepth 100000
set_option maxHeartbeats 4000000
namespace Go.Proofs
open Go.Shelf
theorem kI {α : Sort _} {a b : α} (h : a = b := by kernel_rfl) : a = b := h
theorem kA {β α : Type _} {f g : β -> α} (h : ∀ w, f w = g w := by intro _; kernel_rfl) : ∀ w, f w = g w := h
def Tryz.keysA_ren : Go.Shelf.Ren := ⟨fun | 7 => 39 | 10 => 105 | n => n, fun | 23 => 95 | 26 => 3 | 3 => 4 | 28 => 146 | 0 => 0 | 27 => 145 | 33 => 192 | 4 => 4 | n => n, fun | n => n⟩
theorem Tryz.keysA : Go.Proofs.SlLaysZI.n7 Tryz.prog Tryz.keysA_ren := ⟨by kernel_rfl, ⟨Tryz.f39.name, by decide, Tryz.func39.trans (congrArg some (by kernel_rfl))⟩, ⟨Tryz.f105.name, by decide, Tryz.func105.trans (congrArg some (by kernel_rfl))⟩, kI, kA, kA, kA, kI, kA, kA, kA, kI, kA, kA, kA, kI, kA, kA, kA, kI, kA, kA, kA, kI, kA, kA, kA, kI, kA, kA, kA⟩
def Tryz.sortedA_ren : Go.Shelf.Ren := ⟨fun | 6 => 38 | 8 => 104 | 9 => 59 | 11 => 178 | 13 => 128 | 12 => 127 | 23 => 200 | 24 => 201 | 14 => 191 | 15 => 192 | 16 => 193 | 17 => 194 | 18 => 195 | 19 => 196 | 20 => 197 | 21 => 198 | 22 => 199 | 25 => 244 | 26 => 245 | 27 => 246 | 28 => 247 | 29 => 248 | 30 => 249 | 31 => 289 | n => n, fun | 26 => 3 | 28 => 146 | 24 => 45 | 0 => 0 | 3 => 3 | 37 => 220 | 48 => 330 | 50 => 310 | 4 => 4 | 40 => 323 | 39 => 322 | 45 => 292 | 5 => 5 | 9 => 9 | 51 => 379 | 55 => 383 | 57 => 417 | 58 => 213 | 33 => 192 | n => n, fun | n => n⟩
theorem Tryz.sortedA : Go.Proofs.SlLaysZI.n6 Tryz.prog Tryz.sortedA_ren := ⟨by kernel_rfl, ⟨Tryz.f38.name, by decide, Tryz.func38.trans (congrArg some (by kernel_rfl))⟩, ⟨Tryz.f104.name, by decide, Tryz.func104.trans (congrArg some (by kernel_rfl))⟩, ⟨Tryz.f178.name, by decide, Tryz.func178.trans (congrArg some (by kernel_rfl))⟩, kI, kA, kA, kA, kI, kA, kA, kA, kI, kA, kA, kA, kI, kA, kA, kA, by kernel_rfl⟩
def Tryz.sortA_ren : Go.Shelf.Ren := ⟨fun | 5 => 59 | 8 => 128 | 7 => 127 | 19 => 200 | 20 => 201 | 10 => 191 | 11 => 192 | 12 => 193 | 13 => 194 | 14 => 195 | 15 => 196 | 16 => 197 | 17 => 198 | 18 => 199 | 30 => 244 | 31 => 245 | 32 => 246 | 33 => 247 | 34 => 248 | 35 => 249 | 40 => 289 | n => n, fun | 23 => 45 | 25 => 3 | 3 => 3 | 32 => 220 | 22 => 45 | 0 => 0 | 44 => 330 | 46 => 310 | 4 => 4 | 36 => 323 | 35 => 322 | 41 => 292 | 5 => 5 | 9 => 9 | 53 => 379 | 57 => 383 | 63 => 417 | 64 => 213 | n => n, fun | n => n⟩
theorem Tryz.sortA : Go.Proofs.SlLaysM.n5 Tryz.prog Tryz.sortA_ren := ⟨by kernel_rfl, ⟨Tryz.f59.name, by decide, Tryz.func59.trans (congrArg some (by kernel_rfl))⟩, ⟨Tryz.f127.name, by decide, Tryz.func127.trans (congrArg some (by kernel_rfl))⟩, Tryz.func128.trans (congrArg some (by kernel_rfl)), ⟨Tryz.f191.name, by decide, Tryz.func191.trans (congrArg some (by kernel_rfl))⟩, ⟨Tryz.f192.name, by decide, Tryz.func192.trans (congrArg some (by kernel_rfl))⟩, ⟨Tryz.f193.name, by decide, Tryz.func193.trans (congrArg some (by kernel_rfl))⟩, ⟨Tryz.f194.name, by decide, Tryz.func194.trans (congrArg some (by kernel_rfl))⟩, ⟨Tryz.f195.name, by decide, Tryz.func195.trans (congrArg some (by kernel_rfl))⟩, ⟨Tryz.f196.name, by decide, Tryz.func196.trans (congrArg some (by kernel_rfl))⟩, ⟨Tryz.f197.name, by decide, Tryz.func197.trans (congrArg some (by kernel_rfl))⟩, ⟨Tryz.f198.name, by decide, Tryz.func198.trans (congrArg some (by kernel_rfl))⟩, ⟨Tryz.f199.name, by decide, Tryz.func199.trans (congrArg some (by kernel_rfl))⟩, Tryz.func200.trans (congrArg some (by kernel_rfl)), Tryz.func201.trans (congrArg some (by kernel_rfl)), ⟨Tryz.f244.name, by decide, Tryz.func244.trans (congrArg some (by kernel_rfl))⟩, Tryz.func245.trans (congrArg some (by kernel_rfl)), Tryz.func246.trans (congrArg some (by kernel_rfl)), ⟨Tryz.f247.name, by decide, Tryz.func247.trans (congrArg some (by kernel_rfl))⟩, ⟨Tryz.f248.name, by decide, Tryz.func248.trans (congrArg some (by kernel_rfl))⟩, ⟨Tryz.f249.name, by decide, Tryz.func249.trans (congrArg some (by kernel_rfl))⟩, ⟨Tryz.f289.name, by decide, Tryz.func289.trans (congrArg some (by kernel_rfl))⟩, kI, kA, kA, kA, kI, kA, kA, kA, kI, kA, kA, kA, kI, kA, kA, kA, kI, kA, kA, kA, kI, kA, kA, kA, kI, kA, kA, kA, kI, kA, kA, kA, kI, kA, kA, kA, kI, kA, kA, kA, kI, kA, kA, kA, kI, kA, kA, kA, kI, kA, kA, kA, kI, kA, kA, kA, kI, kA, kA, kA, kI, kA, kA, kA, kI, kA, kA, kA, kI, kA, kA, kA⟩
end Go.Proofs
namespace Go.Proofs.YtnomnijhlbalaaaGreatDoor
open Go.RowKit Go.Proofs Go.Maps Go.Sort Go.Shelf
noncomputable section
def insI (x : Int) : List Int -> List Int
 | [] => [x]
 | y :: l => bif decide (x <= y) then x :: y :: l else y :: insI x l
def xR0 : List Int -> List Int
 | [] => []
 | x :: l => insI x (xR0 l)
theorem xIB (x : Int) : ∀ l : List Int, (insI x l).Perm (x :: l)
 | [] => List.Perm.refl _
 | y :: l => by
  unfold insI
  cases decide (x <= y) with
  | true => exact List.Perm.refl _
  | false => exact ((xIB x l).cons y).trans (List.Perm.swap x y l)
theorem xDp : ∀ l : List Int, (xR0 l).Perm l
 | [] => List.Perm.refl _
 | x :: l => (xIB x _).trans ((xDp l).cons x)
theorem xIA (x : Int) : ∀ {l : List Int}, l.Pairwise (· <= ·) -> (insI x l).Pairwise (· <= ·)
 | [], _ => List.pairwise_singleton _ _
 | y :: l, h => by
  obtain ⟨h1, h2⟩ := List.pairwise_cons.1 h;unfold insI
  cases hd : decide (x <= y) with
  | true =>
   have hxy : x <= y := of_decide_eq_true hd;refine List.pairwise_cons.2 ⟨fun z hz => ?_, h⟩;rcases List.mem_cons.1 hz with rfl | hz
   ·exact hxy
   ·exact Int.le_trans hxy (h1 z hz)
  | false =>
   have hxy : ¬ x <= y := of_decide_eq_false hd;refine List.pairwise_cons.2 ⟨fun z hz => ?_, xIA x h2⟩;rcases List.mem_cons.1 ((xIB x l).mem_iff.1 hz) with rfl | hz
   ·omega
   ·exact h1 z hz
theorem xCP : ∀ l : List Int, (xR0 l).Pairwise (· <= ·)
 | [] => List.Pairwise.nil
 | x :: l => xIA x (xCP l)
theorem xQ3 (l : List Int) : l.mergeSort (fun x y => decide (x <= y)) = xR0 l := by
 have tr : ∀ a b c : Int, decide (a <= b) = true -> decide (b <= c) = true -> decide (a <= c) = true := fun a b c h1 h2 => by simp only [decide_eq_true_eq] at *; exact Int.le_trans h1 h2
 have tt : ∀ a b : Int, (decide (a <= b) || decide (b <= a)) = true := fun a b => by simp only [Bool.or_eq_true, decide_eq_true_eq]; exact Int.le_total a b
 refine List.Perm.eq_of_pairwise (le := fun a b => a <= b) (fun a b _ _ h1 h2 => Int.le_antisymm h1 h2) ((List.pairwise_mergeSort tr tt l).imp (fun h => of_decide_eq_true h)) (xCP l) ((List.mergeSort_perm l _).trans (xDp l).symm)
theorem xWt (l : List Int) : (xR0 l).length = l.length := (xDp l).length_eq
theorem xQ4 {l l' : List Int} (h : l.Perm l') : xR0 l = xR0 l' :=
 List.Perm.eq_of_pairwise (le := fun a b => a <= b) (fun a b _ _ h1 h2 => Int.le_antisymm h1 h2) (xCP l) (xCP l') ((xDp l).trans (h.trans (xDp l').symm))
theorem xLg : ∀ xs : List Int, flat .i xs = xs.map (fun x => CV.sc (.int .i64 x))
 | [] => rfl
 | x :: xs => by
  have := xLg xs;simp only [flat, List.flatMap_cons] at this ⊢;rw [this]; rfl
theorem xLu {O : List Info} : ∀ xs : List Int, DenL O (xs.map (fun x => CV.sc (.int .i64 x))) (xs.map (Value.int .i64))
 | [] => rfl
 | x :: xs => ⟨_, _, rfl, ⟨rfl, rfl⟩, xLu xs⟩
def keysOf (ts : List (Int × Bool)) : List Int := ts.map Prod.fst
def xDK (_ : Nat) (n : Nat) (os : List (Option (List (Int × Bool)))) : Option (List (Option (List (Int × Bool))) × List Int) :=
 bif (xCv os n && xAR 0 (rowAt os n).length) && (rowAt os n).all (fun e => decide (-9223372036854775808 <= e.1) && decide (e.1 <= 9223372036854775807)) then some (os, xR0 (keysOf (rowAt os n))) else none
abbrev sorted_I : Sch := ⟨[(0, .c (.k (.hv 0)))], [.clo 105 [] [.k (.pt 1 0 0 0)], .blk 95 [.t (.rf 2 1)], K_2]⟩
abbrev sorted_O : FSch := ⟨.one (.c (.k (.sl 3 1))), [.dead, .dead, K_2, .rows 3 .i]⟩
def xPq (F : Nat) : Ent := ⟨38, 1, sorted_I, sorted_O, fun s => xDK F s.1 s.2, []⟩
def RT (_ : Value) : Option (DataW Unit × List MemPlace) := some (.nil, [])
theorem xJ8 {O : List Info} {V : KK} {agg : Bool} {U : TC} : ∀ {us : List (V.ty × Nat × U.ty)} {l : List MapEntry}, EntOk O V agg U us l -> l.map (·.key) = us.map (fun e => V.val e.1) /\ l.map (·.born) = us.map (fun e => e.2.1)
 | [], l, h => by rw [show l = [] from h]; exact ⟨rfl, rfl⟩
 | x :: us, l, ⟨e, r, e1, e2, ⟨e3, _⟩, e4⟩ => by
  obtain ⟨i1, i2⟩ := xJ8 e4;subst e1;simp only [List.map_cons, i1, i2, e2, e3];exact ⟨trivial, trivial⟩
theorem xXg {w : World} {O : List Info} {ts : List (Int × Bool)} {ents : Array MapEntry} {cl b : Nat} (hm : MapOk O (.i .i64) false .bool ts ents cl) (hb : w.heap[b]? = some (.map ents cl)) (hl : ents.size <= maxLen)
  (hw : ∀ e ∈ ts, (Lit.int .i64 e.1).wf = true) : ∃ D : DataW Unit, w.ownsMap Tryz.prog 3 RT b ts.length D /\ (intKeys D).Perm (keysOf ts) /\ Maps.size D = ts.length := by
 have hsz := xIu hm;obtain ⟨us, h1, h2, h3, h4, h5⟩ := hm;obtain ⟨q1, q2⟩ := xJ8 h1;have hk : ∀ x ∈ ents.toList, ∃ e ∈ ts, x.key = Value.int .i64 e.1 := by
  intro x hx;have : x.key ∈ us.map (fun e => KK.val (.i .i64) e.1) := q1 ▸ List.mem_map.2 ⟨x, hx, rfl⟩;obtain ⟨e, he, h⟩ := List.mem_map.1 this;exact ⟨(e.1, e.2.2), h2.mem_iff.1 (List.mem_map.2 ⟨e, he, rfl⟩), h.symm⟩
 have hrd : ∀ x ∈ ents.toList, ∃ a : Int, x.key = Value.int .i64 a /\ Go.WideElems.rd Tryz.prog 3 RT x = some (.int .i64 a, .nil) := by
  intro x hx;obtain ⟨e, he, h⟩ := hk x hx;refine ⟨e.1, h, ?_⟩;have := keyOf_int_mk Tryz.underlying3 (hw e he);simp [Go.WideElems.rd, h, this, RT]
 refine ⟨.map ((ents.toList.map (Go.WideElems.rg Tryz.prog 3 RT)).foldr DataW.insert []), ⟨ents, cl, hb, ⟨hl, ⟨?_, ?_, ?_⟩, fun x hx => ?_⟩, by omega, rfl⟩, ?_, ?_⟩
 ·intro x hx;have : x.born ∈ us.map (fun e => e.2.1) := q2 ▸ List.mem_map.2 ⟨x, hx, rfl⟩;obtain ⟨e, he, h⟩ := List.mem_map.1 this;rw [<- h]; exact h5 e he
 ·rw [q2]; exact h4
 ·rw [q1];have hnd : (us.map (fun e => e.1)).Nodup := by
   rw [<- xDo];exact (h2.map Prod.fst).nodup_iff.2 h3
  have : us.map (fun e => KK.val (.i .i64) e.1) = (us.map (fun e => e.1)).map (Value.int .i64) := by rw [List.map_map]; rfl
  rw [this];exact List.nodup_iff_pairwise_ne.2 (List.pairwise_map.2 ((List.nodup_iff_pairwise_ne.1 hnd).imp (fun h e => h (by simpa using e))))
 ·obtain ⟨a, _, h⟩ := hrd x hx;exact ⟨_, h⟩
 ·show (List.map (fun p : Lit × DataW Unit => _root_.Go.intOf p.1) _).Perm _;refine ((Go.WideShapes.sorted_perm _).map _).trans ?_;rw [List.map_map];have e1 : ents.toList.map ((fun p : Lit × DataW Unit => _root_.Go.intOf p.1) ∘ Go.WideElems.rg Tryz.prog 3 RT) = us.map (fun e => e.1) := by
   have h7 : (ents.toList.map (·.key)).map (fun v => match v with
    | .int _ a => a
    | _ => 0) = us.map (fun e => e.1) := by
    rw [q1, List.map_map]; rfl
   rw [<- h7, List.map_map];refine List.map_congr_left (fun x hx => ?_);obtain ⟨a, g1, g2⟩ := hrd x hx;simp [Go.WideElems.rg_of g2, g1, _root_.Go.intOf]
  rw [e1, <- xDo];exact h2.map Prod.fst
 ·simp [Maps.size, length_sorted, hsz]
theorem sortsA (m : Nat) : AnyZI.SortsIn Tryz.prog Tryz.sortedA_ren Fence.wide m :=
 ⟨fun blk off cap ss W hH hblk hsz => callsIn_wide.2 (AnyM.slices_Sort_int Tryz.sortA blk off cap ss W hH hblk hsz),
  fun p cap W => callsIn_wide.2 (AnyM.slices_Sort_int_none Tryz.sortA p cap W)⟩
theorem xRb {S F' : List Nat} {W0 w w' : World} {Z : List Info} {os : List (Option (List (Int × Bool)))} {v : Value} {L : List Int} (hd : HOk S F' W0 Z [.dead, .dead, .arm 1 (.i .i64) false .bool os] w)
  (hown : w'.ownsRow w.heap.size 3 1 v L.length (L.map (Value.int .i64))) (hE : Ext w w') :
  ∃ Z' u, Ending.returned v = .returned u /\ PreM sorted_I.roots.length Z Z' /\ DenP Z' (sorted_O.res.enc same (sorted_O.a (os, L))) u /\ HOk S F' W0 Z' (xAe same sorted_O.roots (sorted_O.b (os, L))) w' /\ sorted_I.roots.length <= sorted_O.roots.length := by
 obtain ⟨q1, q2⟩ := hown;have key : ∃ aa cap, v = .slice aa L.length cap /\ ownsAt w' 3 1 aa cap L.length (L.map (Value.int .i64)) /\ L.length <= cap /\ cap <= maxLen /\ (0 < L.length -> ∃ b o, aa = some ⟨b, o, none⟩) /\ ∀ b, aa.map (·.block) = some b -> w.heap.size <= b := by
  rcases q2 with ⟨h2, h3⟩ | ⟨g, cap, cur, h2, h3, h4, h5, h6, h7, h8⟩
  ·refine ⟨none, 0, by rw [h2, h3], ⟨q1, by omega, by unfold maxLen; omega, .inl ⟨rfl, by simp⟩⟩, by omega, by unfold maxLen; omega, by omega, by simp⟩
  ·refine ⟨some ⟨g, 0, none⟩, cap, h2, ⟨q1, h5, h6, .inr ⟨g, 0, cur, rfl, h4, by omega, by simpa using h8⟩⟩, h5, h6, fun _ => ⟨g, 0, rfl⟩, fun b hb => ?_⟩;simp only [Option.map_some, Option.some.injEq] at hb;omega
 obtain ⟨aa, cap, e, k1, k2, k3, k4, k5⟩ := key;subst e;have hl' : Z.length = 3 := hd.len;have hg : (Z ++ [⟨aa, cap, some L.length, .nilFunc⟩])[3]? = some ⟨aa, cap, some L.length, .nilFunc⟩ := by
  rw [List.getElem?_append_right (by omega), hl']; rfl
 refine ⟨Z ++ [⟨aa, cap, some L.length, .nilFunc⟩], _, rfl, (Pre.app _ _).m, ⟨_, aa, cap, L.length, hg, rfl, k2, k3, k4, ⟨_, rfl, (Nat.sub_zero _).symm⟩, ⟨_, rfl, by omega⟩, (Nat.sub_zero _).symm, rfl, fun _ => rfl, fun _ => ?_⟩, ?_, by decide⟩
 ·cases aa <;> simp [Addr.add]
 ·exact hd.add hE ⟨aa, cap, some L.length, .nilFunc⟩ (.rows 3 .i L) ⟨rfl, Nat.lt_succ_self 0, L.map (Value.int .i64), by rw [xLg]; exact xLu L, k1⟩ (fun b hb => k5 b hb)
theorem xMc (F : Nat) : FnSem Tryz.prog 38 1 sorted_I sorted_O (fun s => xDK F s.1 s.2) := by
 intro s t hst S F' W0 Z w vs hlen hden hh hcl;obtain ⟨n, os⟩ := s;change Nat at n;change List (Option (List (Int × Bool))) at os;simp only [xDK] at hst
 cases hc : ((xCv os n && xAR 0 (rowAt os n).length) && (rowAt os n).all (fun e => decide (-9223372036854775808 <= e.1) && decide (e.1 <= 9223372036854775807))) with
 | false => rw [hc] at hst; cases hst
 | true =>
  rw [hc] at hst;cases hst;simp only [Bool.and_eq_true] at hc;obtain ⟨⟨hlive, hlo⟩, hall⟩ := hc;have hsz := xXf hlo;have hwf : ∀ e ∈ rowAt os n, (Lit.int .i64 e.1).wf = true := by
   intro e he;have := List.all_eq_true.1 hall e he;simp only [Bool.and_eq_true, decide_eq_true_eq] at this;simp only [Lit.wf, Bool.and_eq_true, decide_eq_true_eq];exact ⟨this.1, this.2⟩
  obtain ⟨v, hv, g⟩ := hden 0 (.c (.hv 0)) rfl;have hvs : vs = [v] := by
   match vs, hlen with
   | [a], _ => simp at g; rw [g]
  subst hvs;have hh' : HOk S F' W0 Z [.clo 105 [] [.pt 1 0 0 0], .blk [.rf 2 1 n] 95, .arm 1 (.i .i64) false .bool os] w := hh;have hd : HOk S F' W0 Z [.dead, .dead, .arm 1 (.i .i64) false .bool os] w := hh'.masked [2];have hl' : Z.length = 3 := hh'.len;obtain ⟨i0, g1, g2, _⟩ := hv;obtain ⟨fs, cs, g3, g4, g5⟩ := hh'.ok 0 _ i0 rfl g1;obtain ⟨pv, r0, g6, ⟨i1, B, o, g7, g8, _, g9⟩, g10⟩ := g4;subst g10; subst g6;have g3 : fs = [] := g3;subst g3;obtain ⟨_, B', us, g11, g12, g13⟩ := hh'.ok 1 _ i1 rfl g7;rw [g8] at g11;cases g11;obtain ⟨mv, r1, g14, g15, g16⟩ := g12;subst g16; subst g14;simp only [Nat.zero_mul, Nat.add_zero] at g9;subst g9;rw [g2, g5];have hBl : B < w.heap.size := (Array.getElem?_eq_some_iff.1 g13).1;have hBc : w.cell? ⟨B, 0, none⟩ = some mv := by simp [World.cell?, g13]
  refine (callsIn_wide (n := 5)).1 ?_;have fin : ∀ (S' : List Int -> Prop) (N : Nat) (hN : N <= maxLen) (hNb : N * 8 <= 140737488355328), (∀ ss, S' ss -> ss.Perm (keysOf (rowAt os n))) -> SeqGives Fence.wide 2 Tryz.prog 105 #[.pointer (some ⟨B, 0, none⟩)] encZ S' N w ->
    CallsIn Fence.wide 5 Tryz.prog 38 #[.func (.func 105) #[] #[.pointer (some ⟨B, 0, none⟩)]] w (fun e w' => ∃ Z' u, e = .returned u /\ PreM sorted_I.roots.length Z Z' /\ DenP Z' (sorted_O.res.enc same (sorted_O.a (os, xR0 (keysOf (rowAt os n))))) u /\ HOk S F' W0 Z' (xAe same sorted_O.roots (sorted_O.b (os, xR0 (keysOf (rowAt os n))))) w' /\ sorted_I.roots.length <= sorted_O.roots.length) := by
   intro S' N hN hNb hS hseq;have cS := AnyZI.sorted_in Tryz.sortedA Fence.wide 5 trivial trivial trivial trivial rfl (by omega) (sortsA _) (enters_of Tryz.func59 (by kernel_rfl) rfl) 105 #[.pointer (some ⟨B, 0, none⟩)] trivial (enters_of Tryz.func105 (by kernel_rfl) rfl) S' N hN hNb w hseq;change CallsIn _ _ Tryz.prog 38 _ _ _ at cS;refine cS.mono ?_
   rintro e w' ⟨v, ss, rfl, hSs, hrow, _, hb⟩
   rw [xQ3, xQ4 (hS ss hSs)] at hrow;have hll : ss.length = (xR0 (keysOf (rowAt os n))).length := by rw [xWt]; exact (hS ss hSs).length_eq
   rw [hll] at hrow;exact xRb hd hrow (Ex.of_below hb)
  have hfin : ∀ {E : Ending -> World -> Prop}, CallsIn Fence.wide 5 Tryz.prog 38 #[.func (.func 105) #[] #[.pointer (some ⟨B, 0, none⟩)]] w E -> CallsIn Fence.wide 5 Tryz.prog 38 #[.func (.func 105) #[] #[.pointer (some ⟨B, 0, none⟩)]] w E := fun h => h;rcases g15 with ⟨rfl, rfl⟩ | ⟨m, id, i', rfl, k1, k2, k3⟩
  ·exact fin (fun ss => ss = []) 0 (Nat.zero_le _) (by omega) (fun ss h => by rw [h]; exact List.Perm.refl _)
    (AnyZI.keys_gives_nil (ρ := Tryz.keysA_ren) { Tryz.keysA with } Fence.wide _ trivial rfl B w hBl hBc)
  ·obtain ⟨i2, e2⟩ : ∃ i2, Z[2]? = some i2 := ⟨Z[2], List.getElem?_eq_getElem (by omega)⟩;have k4 := hh'.cov 2 1 _ i2 rfl e2 rfl id i' m mv k1 k2;obtain ⟨_, k5, _⟩ := hh'.ok 2 _ i2 rfl e2
   cases hom : os[m]? with
   | none => simp [xCv, hom] at hlive
   | some oo =>
    cases oo with
    | none => simp [xCv, hom] at hlive
    | some ts =>
     have k6 : (Root.arm 1 (.i .i64) false .bool os).obs[m]? = some (.mp (.i .i64) false .bool ts) := by simp [Root.obs, hom]
     obtain ⟨r, ents, cl, k7, k8, k9⟩ := k5 m mv _ k4 k6;subst k7;have hrow : rowAt os (m + 1) = ts := by simp [rowAt, hom]
     rw [hrow] at hwf hsz fin ⊢;have hml := xIu k9;obtain ⟨D, d1, d2, d3⟩ := xXg k9 k8 (by unfold maxLen; omega) hwf;refine fin (fun ss => ss.Perm (intKeys D)) (Maps.size D) (by unfold maxLen; omega) (by omega) (fun ss h => h.trans d2) ?_;exact AnyZI.keys_gives (ρ := Tryz.keysA_ren) { Tryz.keysA with } Fence.wide _ trivial rfl (by omega) B r ts.length D w hBl hBc d1
def srt_T (F : Nat) : List Ent := xPq F :: xMl F
theorem xPf (F : Nat) : xAj Tryz.prog (srt_T F) := ⟨⟨by kernel_rfl, xMc F⟩, xMk F⟩
end
end Go.Proofs.YtnomnijhlbalaaaGreatDoor
namespace Go.Proofs.YtnomnijhlbalaaaGreatDoor
open Go.RowKit Go.Proofs
noncomputable section
def xDM (F : Nat) (number : Int) (s1 : (Int × T_0)) (sl_ : (List (Int × Nat))) (ar0 : T_2) (ar1 : T_4) : Option ((Int × (T_1 × ((List (Int × Nat)) × (T_2 × (T_4 × (List Int))))))) := (ob (xJ4 F number s1 sl_ ar0 ar1) (fun r => (bif (r.1.2 != 0) then (some (r.1.2, ((r.2.1.1, (r.2.1.2.1, (r.2.1.2.2.1, (r.2.1.2.2.2.1, (r.2.1.t4))))), r.2.2.1, r.2.2.2.1, r.t4, []))) else (bif (!(Nat.beq r.1.1 0)) then (bif (!(Nat.beq r.1.1 0)) then (bif (inO r.1.1 r.2.2.2.1.length) then (ob (xDK F (nth r.2.2.2.1 D_0 (r.1.1 - 1)).2 r.t4) (fun r1 => (some ((0 : Int), ((r.2.1.1, (r.2.1.2.1, (r.2.1.2.2.1, (r.2.1.2.2.2.1, (r.2.1.t4))))), r.2.2.1, r.2.2.2.1, r1))))) else none) else none) else none))))
abbrev xPz : Sch := ⟨[(0, .c (.k (.pt 0 0 0 0))), (1, .c .i)], [K_24, K_3, K_1, K_2]⟩
abbrev xPy : FSch := ⟨.tu [(false, [.k (.sl 6 1)]), (false, [.i])], [K_8, K_3, .dead, .dead, K_1, K_2, .rows 3 .i]⟩
def xPA (F : Nat) : Ent := ⟨17, 2, xPz, xPy, fun s => xDM F s.1 s.2.1 s.2.2.1 s.2.2.2.1 s.t4, []⟩
theorem xMj (F : Nat) : FnSem Tryz.prog 17 2 xPz xPy (fun s => xDM F s.1 s.2.1 s.2.2.1 s.2.2.2.1 s.t4) :=
 fK (an := .no) (xPf F) (trivial)
def xPx (F : Nat) : List Ent := xPA F :: srt_T F
theorem xN1 (F : Nat) : xAj Tryz.prog (xPx F) := ⟨⟨by kernel_rfl, xMj F⟩, xPf F⟩
end
abbrev QB := (Int × Int) × ((Int × Int) × (Int × Int))
abbrev QL := Int × (Int × (QB × Int))
abbrev QP := Int × QB
abbrev QM := List (Int × Nat)
abbrev Q0 := List (QL × Nat)
abbrev Q1 := List (Option (List (Int × Bool)))
abbrev Q7 := Int × (Int × (Int × (Int × (Int × (Int × Int)))))
abbrev dQ : QL × Nat := D_0
theorem w64 (n : Int) (h : -9223372036854775808 <= n /\ n <= 9223372036854775807) : jI.wrap n = n := by rw [IntKind.wrap_i64]; omega
def p7 (p : QP) : Q7 := (p.1, (p.2.1.1, (p.2.1.2, (p.2.2.1.1, (p.2.2.1.2, p.2.2.2)))))
def qmr : Nat -> List Nat -> QM
 | _, [] => []
 | k, r :: l => (((k : Nat) : Int) + 1, r) :: qmr (k + 1) l
theorem xTl : ∀ (l : List Nat) (k : Nat), (qmr k l).length = l.length
 | [], _ => rfl
 | r :: l, k => by simp [qmr, xTl l]
theorem eqI (a b : Int) : KK.eqb (.i .i64) a b = decide (a = b) := by
 have := KK.eqb_iff (.i .i64) a b
 cases h : KK.eqb (.i .i64) a b with
 | true => exact (decide_eq_true (this.1 h)).symm
 | false => exact (decide_eq_false (fun e => by rw [this.2 e] at h; cases h)).symm
theorem xTo (p : Int) : ∀ (l : List Nat) (k : Nat), xEW (.i .i64) 0 p (qmr k l) = if (k : Int) < p /\ p <= (k : Int) + (l.length : Int) then nth l 0 (p.toNat - 1 - k) else 0
 | [], k => by
  rw [if_neg (by simp only [List.length_nil]; omega)]; rfl
 | r :: l, k => by
  have ih := xTo p l (k + 1);simp only [qmr, xEW, eqI, List.length_cons];by_cases h : p = (k : Int) + 1
  ·rw [decide_eq_true h, cond_true, if_pos (by omega), show p.toNat - 1 - k = 0 by omega]; rfl
  ·rw [decide_eq_false h, cond_false, ih];by_cases h2 : (k : Int) < p /\ p <= (k : Int) + ((l.length + 1 : Nat) : Int)
   ·rw [if_pos h2, if_pos (by omega), show p.toNat - 1 - k = p.toNat - 1 - (k + 1) + 1 by omega]; rfl
   ·rw [if_neg h2, if_neg (by omega)]
theorem xTn (p : Int) : ∀ (l : List Nat) (k : Nat), (k : Int) + (l.length : Int) < p -> hasK (.i .i64) p (qmr k l) = false
 | [], _, _ => rfl
 | r :: l, k, h => by
  simp only [List.length_cons] at h;simp only [qmr, hasK, eqI];rw [decide_eq_false (by omega), cond_false];exact xTn p l (k + 1) (by omega)
theorem ltI (a b : Int) : KK.ltb (.i .i64) a b = decide (a < b) := rfl
theorem xTp (x : Nat) : ∀ (l : List Nat) (k : Nat), xXU (.i .i64) ((k : Int) + (l.length : Int) + 1) x (qmr k l) = qmr k (l ++ [x])
 | [], k => by simp [qmr, xXU]
 | r :: l, k => by
  have ih := xTp x l (k + 1);simp only [qmr, xXU, ltI, List.length_cons, List.cons_append];rw [decide_eq_false (by omega), cond_false];have e1 : (k : Int) + ((l.length + 1 : Nat) : Int) + 1 = ((k + 1 : Nat) : Int) + (l.length : Int) + 1 := by omega
  rw [e1, ih]
theorem xTm (l : List Nat) (x : Nat) : xHh (.i .i64) ((l.length : Int) + 1) x (qmr 0 l) = qmr 0 (l ++ [x]) := by
 unfold xHh;rw [xTn _ _ _ (by omega), cond_false];have := xTp x l 0;simpa using this
theorem xTk : ∀ (l : List Nat) (k : Nat) (e : Int × Nat), e ∈ qmr k l -> ∃ j, l[j]? = some e.2 /\ e.1 = ((k + j : Nat) : Int) + 1
 | [], k, e, h => by simp [qmr] at h
 | r :: l, k, e, h => by
  simp only [qmr, List.mem_cons] at h;rcases h with rfl | h
  ·exact ⟨0, rfl, by simp⟩
  ·obtain ⟨j, h1, h2⟩ := xTk l (k + 1) e h;exact ⟨j + 1, by simpa using h1, by rw [h2]; omega⟩
def qR (r : Int × Int) : Bool := decide ((0 : Int) <= r.1) && (decide (r.1 <= r.2) && decide (r.2 <= (100000000 : Int)))
def qB (b : QB) : Bool := qR b.1 && (qR b.2.1 && qR b.2.2)
def qLot (l : QL) : Bool := (decide (l.1 >= (0 : Int)) && decide (l.1 <= (1000 : Int))) && ((decide (l.2.1 >= (1 : Int)) && decide (l.2.1 <= (1000000 : Int))) && (qB l.2.2.1 && (decide (l.2.2.2 >= (0 : Int)) && decide (l.2.2.2 <= (1000000 : Int)))))
theorem qwithin (F : Nat) (n a b : Int) : xDG F n a b = some (decide (n >= a) && decide (n <= b)) := by
 unfold xDG; cases decide (n >= a) <;> rfl
theorem qrange (F : Nat) (r : Int × Int) : xEx F r = some (!qR r) := by
 unfold xEx xFT qR;cases decide ((0 : Int) <= r.1) <;> cases decide (r.1 <= r.2) <;> rfl
theorem qbounds (F : Nat) (b : QB) : xC0 F b = some (qB b) := by
 unfold xC0 qB;simp only [qrange];generalize qR b.1 = x; generalize qR b.2.1 = y; generalize qR b.2.2 = z;cases x <;> cases y <;> cases z <;> rfl
theorem qisLot (F : Nat) (l : QL) : xGu F l = some (qLot l) := by
 unfold xGu qLot;simp only [qwithin, qbounds];generalize (decide (l.1 >= (0 : Int)) && decide (l.1 <= (1000 : Int))) = a;generalize (decide (l.2.1 >= (1 : Int)) && decide (l.2.1 <= (1000000 : Int))) = b;generalize qB l.2.2.1 = c;cases a <;> cases b <;> cases c <;> rfl
def xCx (l : List Int) : List (Int × Bool) := l.map (fun x => (x, true))
def xXT (x : Int) : List Int -> List Int
 | [] => [x]
 | y :: l => if x < y then x :: y :: l else y :: xXT x l
def xLI (x : Int) (l : List Int) : List Int := if x ∈ l then l else xXT x l
def xRZ (acc src : List Int) : List Int := src.foldl (fun a x => xLI x a) acc
theorem xVT (x : Int) : ∀ l : List Int, hasK (.i .i64) x (xCx l) = decide (x ∈ l)
 | [] => by simp [xCx, hasK]
 | y :: l => by
  have ih := xVT x l;simp only [xCx, List.map_cons, hasK, eqI] at ih ⊢;rw [ih];by_cases h : x = y
  ·simp [h]
  ·simp [h]
theorem xVU (x : Int) : ∀ l : List Int, xEW (.i .i64) false x (xCx l) = decide (x ∈ l)
 | [] => by simp [xCx, xEW]
 | y :: l => by
  have ih := xVU x l;simp only [xCx, List.map_cons, xEW, eqI] at ih ⊢;rw [ih];by_cases h : x = y
  ·simp [h]
  ·simp [h]
theorem xVV (x : Int) : ∀ l : List Int, xXU (.i .i64) x true (xCx l) = xCx (xXT x l)
 | [] => rfl
 | y :: l => by
  have ih := xVV x l;simp only [xCx, List.map_cons, xXU, ltI, xXT] at ih ⊢;by_cases h : x < y
  ·rw [decide_eq_true h, cond_true, if_pos h]; rfl
  ·rw [decide_eq_false h, cond_false, if_neg h, ih]; rfl
theorem anc_set (x : Int) (l : List Int) : setK (.i .i64) x true (xCx l) = xCx l := by
 unfold setK xCx;rw [List.map_map];refine List.map_congr_left (fun y _ => ?_);show (bif KK.eqb (.i .i64) x y then (y, true) else (y, true)) = (y, true);cases KK.eqb (.i .i64) x y <;> rfl
theorem xOT (x : Int) (l : List Int) : xHh (.i .i64) x true (xCx l) = xCx (xLI x l) := by
 unfold xHh xLI;rw [xVT];by_cases h : x ∈ l
 ·rw [decide_eq_true h, cond_true, if_pos h, anc_set]
 ·rw [decide_eq_false h, cond_false, if_neg h, xVV]
theorem xLF (x z : Int) : ∀ l : List Int, z ∈ xXT x l ↔ z = x \/ z ∈ l
 | [] => by simp [xXT]
 | y :: l => by
  have ih := xLF x z l;unfold xXT;by_cases h : x < y
  ·rw [if_pos h]; simp
  ·rw [if_neg h]; simp only [List.mem_cons, ih];constructor
   ·rintro (h | h | h) <;> simp [h]
   ·rintro (h | h | h) <;> simp [h]
theorem xFU (x z : Int) (l : List Int) : z ∈ xLI x l ↔ z = x \/ z ∈ l := by
 unfold xLI;by_cases h : x ∈ l
 ·rw [if_pos h];exact ⟨.inr, fun h2 => h2.elim (fun e => e ▸ h) id⟩
 ·rw [if_neg h]; exact xLF x z l
theorem xQS (x : Int) : ∀ {l : List Int}, l.Pairwise (· < ·) -> x ∉ l -> (xXT x l).Pairwise (· < ·)
 | [], _, _ => List.pairwise_singleton _ _
 | y :: l, h, hn => by
  obtain ⟨h1, h2⟩ := List.pairwise_cons.1 h;simp only [List.mem_cons, not_or] at hn;unfold xXT;by_cases hx : x < y
  ·rw [if_pos hx];refine List.pairwise_cons.2 ⟨fun z hz => ?_, h⟩;rcases List.mem_cons.1 hz with rfl | hz
   ·exact hx
   ·exact Int.lt_trans hx (h1 z hz)
  ·rw [if_neg hx];refine List.pairwise_cons.2 ⟨fun z hz => ?_, xQS x h2 hn.2⟩;rcases (xLF x z l).1 hz with rfl | hz
   ·have := hn.1; omega
   ·exact h1 z hz
theorem xHC (x : Int) {l : List Int} (h : l.Pairwise (· < ·)) : (xLI x l).Pairwise (· < ·) := by
 unfold xLI;by_cases hx : x ∈ l
 ·rw [if_pos hx]; exact h
 ·rw [if_neg hx]; exact xQS x h hx
theorem xHm (z : Int) : ∀ (src acc : List Int), z ∈ xRZ acc src ↔ z ∈ acc \/ z ∈ src
 | [], acc => by simp [xRZ]
 | x :: src, acc => by
  have ih := xHm z src (xLI x acc);unfold xRZ at ih ⊢;rw [List.foldl_cons, ih, xFU, List.mem_cons];constructor
  ·rintro ((h | h) | h) <;> simp [h]
  ·rintro (h | h | h) <;> simp [h]
theorem xFs : ∀ (src : List Int) {acc : List Int}, acc.Pairwise (· < ·) -> (xRZ acc src).Pairwise (· < ·)
 | [], _, h => h
 | x :: src, _, h => xFs src (xHC x h)
theorem srt_eq {a b : List Int} (ha : a.Pairwise (· < ·)) (hb : b.Pairwise (· < ·)) (h : ∀ x, x ∈ a ↔ x ∈ b) : a = b := by
 have na : a.Nodup := List.nodup_iff_pairwise_ne.2 (ha.imp (fun h e => by omega));have nb : b.Nodup := List.nodup_iff_pairwise_ne.2 (hb.imp (fun h e => by omega));exact List.Perm.eq_of_pairwise (le := fun a b => a < b) (fun a b _ _ h1 h2 => by omega) ha hb ((List.perm_ext_iff_of_nodup na nb).2 h)
theorem xSa {acc s t : List Int} (ha : acc.Pairwise (· < ·)) (h : s.Perm t) : xRZ acc s = xRZ acc t :=
 srt_eq (xFs s ha) (xFs t ha) (fun x => by rw [xHm, xHm, h.mem_iff])
theorem xOU : ∀ l : List Int, keysOf (xCx l) = l
 | [] => rfl
 | x :: l => congrArg (x :: ·) (xOU l)
theorem xXR {π : List (Int × Bool)} {s : List Int} (h : π.Perm (xCx s)) : ∃ t, π = xCx t /\ t.Perm s := by
 refine ⟨π.map Prod.fst, ?_, ?_⟩
 ·have : ∀ e ∈ π, e.2 = true := fun e he => by
   obtain ⟨x, _, e2⟩ := List.mem_map.1 (h.mem_iff.1 he);rw [<- e2]
  have key : ∀ l : List (Int × Bool), (∀ e ∈ l, e.2 = true) -> l = xCx (l.map Prod.fst) := by
   intro l
   induction l with
   | nil => intro _; rfl
   | cons e l ih =>
    intro hl;have h1 := hl e (by simp);show e :: l = (e.1, true) :: xCx (l.map Prod.fst);rw [<- ih (fun x hx => hl x (by simp [hx])), <- h1]
  exact key π this
 ·have := h.map Prod.fst;rwa [show (xCx s).map Prod.fst = s from xOU s] at this
theorem xWC {α : Type} {os : List (Option (List α))} {n : Nat} (h : xCv os n = true) : xWD (xB6 os n) n (rowAt os n) = os := by
 cases n with
 | zero => rfl
 | succ m =>
  have h' : (match os[m]? with
   | some (some _) => true
   | _ => false) = true := h
  show (os.set m none).set m (some (match os[m]? with
   | some (some xs) => xs
   | _ => [])) = os
  cases ho : os[m]? with
  | none => rw [ho] at h'; cases h'
  | some o =>
   cases o with
   | none => rw [ho] at h'; cases h'
   | some xs =>
    simp only [List.set_set];obtain ⟨hm, e⟩ := List.getElem?_eq_some_iff.1 ho;rw [<- e];exact List.set_getElem_self hm
theorem xMJ (F : Nat) (ar : Q1) : ∀ (t acc : List Int), xLH (S := xCD) (o := xCE) (V := (.i .i64)) (U := .bool) (xDv F) (xDu F) (xCx acc, ar) (xCx t) = some (xCx (xRZ acc t), ar)
 | [], acc => rfl
 | x :: t, acc => by
  have ih := xMJ F ar t (xLI x acc);show xLH (S := xCD) (o := xCE) (V := (.i .i64)) (U := .bool) (xDv F) (xDu F) (xHh (.i .i64) x true (xCx acc), ar) (xCx t) = _;rw [xOT];exact ih
theorem q_mcopy (F : Nat) {a1 : Q1} {r : Nat} {s acc : List Int} (hl : xCv a1 r = true) (hr : rowAt a1 r = xCx s) (ha : acc.Pairwise (· < ·)) : xIs F r (xCx acc) a1 = some (xCx (xRZ acc s), a1) := by
 unfold xIs;rw [hl, cond_true];refine xGK (fun π hπ => ?_);rw [hr] at hπ;obtain ⟨t, rfl, ht⟩ := xXR hπ;have e := xMJ F (xB6 a1 r) t acc;rw [e];show some (xCx (xRZ acc t), xWD (xB6 a1 r) r (rowAt a1 r)) = _;rw [xWC hl, xSa ha ht]
structure Rep (es : List (QL × List Int)) (O : List Nat) (m : QM) (a0 : Q0) (a1 : Q1) : Prop where
 map : m = qmr 0 O
 len : O.length = es.length
 nd : O.Nodup
 lot : ∀ (k : Nat) (e : QL × List Int), es[k]? = some e -> ∃ p r, O[k]? = some (p + 1) /\ a0[p]? = some (e.1, r) /\ ((r = 0 /\ e.2 = []) \/ ∃ j, r = j + 1 /\ a1[j]? = some (some (xCx e.2)))
 srt : ∀ e ∈ es, e.2.Pairwise (· < ·)
 rng : ∀ (k : Nat) (e : QL × List Int), es[k]? = some e -> ∀ x ∈ e.2, 1 <= x /\ x <= (k : Int)
theorem Rep.nil (a0 : Q0) (a1 : Q1) : Rep [] [] [] a0 a1 := ⟨rfl, rfl, List.nodup_nil, fun k e h => by simp at h, fun e h => by simp at h, fun k e h => by simp at h⟩
section
variable {es : List (QL × List Int)} {O : List Nat} {m : QM} {a0 : Q0} {a1 : Q1}
theorem Rep.mono (h : Rep es O m a0 a1) {a0' : Q0} {a1' : Q1} (h0 : ∀ (p : Nat) x, p + 1 ∈ O -> a0[p]? = some x -> a0'[p]? = some x) (h1 : ∀ (j : Nat) x, a1[j]? = some x -> a1'[j]? = some x) : Rep es O m a0' a1' := by
 refine ⟨h.map, h.len, h.nd, fun k e hk => ?_, h.srt, h.rng⟩;obtain ⟨p, r, g1, g2, g3⟩ := h.lot k e hk;exact ⟨p, r, g1, h0 p _ (List.mem_of_getElem? g1) g2, g3.imp id (fun ⟨j, e1, e2⟩ => ⟨j, e1, h1 j _ e2⟩)⟩
theorem Rep.lt (h : Rep es O m a0 a1) {x : Nat} (hx : x ∈ O) : 1 <= x /\ x <= a0.length := by
 obtain ⟨k, hk⟩ := List.mem_iff_getElem?.1 hx;have hl := (List.getElem?_eq_some_iff.1 hk).1;obtain ⟨p, r, g1, g2, _⟩ := h.lot k (es[k]'(by rw [<- h.len]; exact hl)) (List.getElem?_eq_getElem (by rw [<- h.len]; exact hl));rw [g1] at hk;cases hk;have := (List.getElem?_eq_some_iff.1 g2).1;omega
def xDk (p : Int) (n : Nat) : Bool := decide (1 <= p) && decide (p <= (n : Int))
def xB2 (O : List Nat) (p : Int) : Nat := nth O 0 (p.toNat - 1)
theorem Rep.get (h : Rep es O m a0 a1) (p : Int) : xEW (.i .i64) 0 p m = bif xDk p es.length then xB2 O p else 0 := by
 rw [h.map, xTo];unfold xDk xB2;by_cases h1 : 1 <= p /\ p <= (es.length : Int)
 ·rw [if_pos (by rw [h.len]; omega), decide_eq_true h1.1, decide_eq_true h1.2]; rfl
 ·rw [if_neg (by rw [h.len]; omega)];have : (decide (1 <= p) && decide (p <= (es.length : Int))) = false := by
   rw [<- Bool.decide_and]; exact decide_eq_false h1
  rw [this]; rfl
theorem Rep.mlen (h : Rep es O m a0 a1) : m.length = es.length := by rw [h.map, xTl, h.len]
theorem Rep.add (h : Rep es O m a0 a1) (l : QL) (s : List Int) (r : Nat) (a1' : Q1) (hx : ∀ (j : Nat) x, a1[j]? = some x -> a1'[j]? = some x) (hr : (r = 0 /\ s = []) \/ ∃ j, r = j + 1 /\ a1'[j]? = some (some (xCx s)))
  (hs : s.Pairwise (· < ·)) (hg : ∀ x ∈ s, 1 <= x /\ x <= (es.length : Int)) : Rep (es ++ [(l, s)]) (O ++ [a0.length + 1]) (qmr 0 (O ++ [a0.length + 1])) (a0 ++ [(l, r)]) a1' := by
 refine ⟨rfl, by simp [h.len], ?_, fun k e hk => ?_, fun e he => ?_, fun k e hk => ?_⟩
 ·refine List.nodup_append.2 ⟨h.nd, by simp, fun x hx y hy e => ?_⟩;have := h.lt hx;simp only [List.mem_singleton] at hy;omega
 ·rcases Nat.lt_trichotomy k es.length with hlt | heq | hgt
  ·rw [List.getElem?_append_left hlt] at hk;obtain ⟨p, r0, h1, h2, h3⟩ := h.lot k e hk;refine ⟨p, r0, by rw [List.getElem?_append_left (by rw [h.len]; exact hlt)]; exact h1, ?_, ?_⟩
   ·rw [List.getElem?_append_left (List.getElem?_eq_some_iff.1 h2).1]; exact h2
   ·exact h3.imp id (fun ⟨j, e1, e2⟩ => ⟨j, e1, hx _ _ e2⟩)
  ·subst heq;rw [List.getElem?_append_right (Nat.le_refl _), Nat.sub_self] at hk;cases hk;refine ⟨a0.length, r, ?_, by simp, hr⟩;rw [List.getElem?_append_right (by rw [h.len]; exact Nat.le_refl _), h.len, Nat.sub_self]; rfl
  ·rw [List.getElem?_eq_none (by simp; omega)] at hk; cases hk
 ·rcases List.mem_append.1 he with he | he
  ·exact h.srt e he
  ·rw [List.mem_singleton] at he; rw [he]; exact hs
 ·rcases Nat.lt_trichotomy k es.length with hlt | heq | hgt
  ·rw [List.getElem?_append_left hlt] at hk;exact h.rng k e hk
  ·subst heq;rw [List.getElem?_append_right (Nat.le_refl _), Nat.sub_self] at hk;cases hk;exact hg
  ·rw [List.getElem?_eq_none (by simp; omega)] at hk; cases hk
def okL (l : QL) : Bool := qLot l && !(l.1 == (0 : Int))
theorem xIg (F : Nat) (l : QL) (pl : QP) (h : Rep es O m a0 a1) (hs : es.length < 200) :
  xCk F l pl m a0 a1 = some (bif okL l then (((es.length : Int) + 1, 0), (p7 pl, (qmr 0 (O ++ [a0.length + 1]), (a0 ++ [(l, 0)], a1)))) else ((0, 2), (p7 pl, (m, (a0, a1))))) := by
 unfold xCk okL;rw [qisLot];simp only [ob]
 cases qLot l with
 | false => rfl
 | true =>
  cases hz : (l.1 == (0 : Int)) with
  | true => rfl
  | false =>
   rw [h.mlen, decide_eq_false (show ¬ ((es.length : Int) >= (200 : Int)) by omega), w64 _ (by omega), <- h.len, h.map, xTm];rfl
end
end Go.Proofs.YtnomnijhlbalaaaGreatDoor
