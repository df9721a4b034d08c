/- slices.Sort and slices.Sorted(maps.Keys(..)) of whole numbers: by the library's contracts. No condition. -/
import Derived.Test.YthmicafabimfkaaWXS3
import Derived.Ground.GgzProg
import Derived.Ground.SlgmProg
import Derived.Shelf.SlIterI.Nil
import Derived.Shelf.SlIterI.Sorted
import Derived.Shelf.SortM.Plain
import Derived.Shelf.SortM.SortNone
import Derived.Shelf.SlGeneric

namespace Go.Proofs
open Go.Shelf
def Try.keysA_ren : Go.Shelf.Ren := ⟨fun | 7 => 37 | 10 => 59 | n => n, fun | 23 => 81 | 26 => 3 | 3 => 4 | 28 => 95 | 0 => 0 | 27 => 94 | 33 => 125 | 4 => 4 | n => n, fun | n => n⟩
theorem Try.keysA : Go.Proofs.SlLaysZI.n7 Try.prog Try.keysA_ren := {
  mixed := by kernel_rfl
  f7 := ⟨Try.f37.name, by decide, Try.func37.trans (congrArg some (by kernel_rfl))⟩
  f10 := ⟨Try.f59.name, by decide, Try.func59.trans (congrArg some (by kernel_rfl))⟩
  t0 := Try.underlying0
  a0 := Try.isAgg0
  z0 := Try.sizeOf0
  v0 := Try.zeroValue0
  t4 := Try.underlying4
  a4 := Try.isAgg4
  z4 := Try.sizeOf4
  v4 := Try.zeroValue4
  t23 := Try.underlying81
  a23 := Try.isAgg81
  z23 := Try.sizeOf81
  v23 := Try.zeroValue81
  t26 := Try.underlying3
  a26 := Try.isAgg3
  z26 := Try.sizeOf3
  v26 := Try.zeroValue3
  t27 := Try.underlying94
  a27 := Try.isAgg94
  z27 := Try.sizeOf94
  v27 := Try.zeroValue94
  t28 := Try.underlying95
  a28 := Try.isAgg95
  z28 := Try.sizeOf95
  v28 := Try.zeroValue95
  t33 := Try.underlying125
  a33 := Try.isAgg125
  z33 := Try.sizeOf125
  v33 := Try.zeroValue125 }
def Try.sortedA_ren : Go.Shelf.Ren := ⟨fun | 6 => 36 | 8 => 58 | 9 => 38 | 11 => 75 | 13 => 61 | 12 => 60 | 23 => 85 | 24 => 86 | 14 => 76 | 15 => 77 | 16 => 78 | 17 => 79 | 18 => 80 | 19 => 81 | 20 => 82 | 21 => 83 | 22 => 84 | 25 => 89 | 26 => 90 | 27 => 91 | 28 => 92 | 29 => 93 | 30 => 94 | 31 => 95 | n => n, fun | 26 => 3 | 28 => 95 | 24 => 34 | 0 => 0 | 3 => 3 | 37 => 128 | 48 => 152 | 50 => 154 | 4 => 4 | 40 => 144 | 39 => 143 | 45 => 149 | 5 => 5 | 9 => 9 | 51 => 157 | 55 => 161 | 57 => 163 | 58 => 164 | 33 => 125 | n => n, fun | n => n⟩
theorem Try.sortedA : Go.Proofs.SlLaysZI.n6 Try.prog Try.sortedA_ren := {
  mixed := by kernel_rfl
  f6 := ⟨Try.f36.name, by decide, Try.func36.trans (congrArg some (by kernel_rfl))⟩
  f8 := ⟨Try.f58.name, by decide, Try.func58.trans (congrArg some (by kernel_rfl))⟩
  f11 := ⟨Try.f75.name, by decide, Try.func75.trans (congrArg some (by kernel_rfl))⟩
  t0 := Try.underlying0
  a0 := Try.isAgg0
  z0 := Try.sizeOf0
  v0 := Try.zeroValue0
  t24 := Try.underlying34
  a24 := Try.isAgg34
  z24 := Try.sizeOf34
  v24 := Try.zeroValue34
  t26 := Try.underlying3
  a26 := Try.isAgg3
  z26 := Try.sizeOf3
  v26 := Try.zeroValue3
  t28 := Try.underlying95
  a28 := Try.isAgg95
  z28 := Try.sizeOf95
  v28 := Try.zeroValue95
  i26 := by kernel_rfl }
def Try.sortA_ren : Go.Shelf.Ren := ⟨fun | 5 => 38 | 8 => 61 | 7 => 60 | 19 => 85 | 20 => 86 | 10 => 76 | 11 => 77 | 12 => 78 | 13 => 79 | 14 => 80 | 15 => 81 | 16 => 82 | 17 => 83 | 18 => 84 | 30 => 89 | 31 => 90 | 32 => 91 | 33 => 92 | 34 => 93 | 35 => 94 | 40 => 95 | n => n, fun | 23 => 34 | 25 => 3 | 3 => 3 | 32 => 128 | 22 => 34 | 0 => 0 | 44 => 152 | 46 => 154 | 4 => 4 | 36 => 144 | 35 => 143 | 41 => 149 | 5 => 5 | 9 => 9 | 53 => 157 | 57 => 161 | 63 => 163 | 64 => 164 | n => n, fun | n => n⟩
theorem Try.sortA : Go.Proofs.SlLaysM.n5 Try.prog Try.sortA_ren := {
  mixed := by kernel_rfl
  f5 := ⟨Try.f38.name, by decide, Try.func38.trans (congrArg some (by kernel_rfl))⟩
  f7 := ⟨Try.f60.name, by decide, Try.func60.trans (congrArg some (by kernel_rfl))⟩
  f8 := Try.func61.trans (congrArg some (by kernel_rfl))
  f10 := ⟨Try.f76.name, by decide, Try.func76.trans (congrArg some (by kernel_rfl))⟩
  f11 := ⟨Try.f77.name, by decide, Try.func77.trans (congrArg some (by kernel_rfl))⟩
  f12 := ⟨Try.f78.name, by decide, Try.func78.trans (congrArg some (by kernel_rfl))⟩
  f13 := ⟨Try.f79.name, by decide, Try.func79.trans (congrArg some (by kernel_rfl))⟩
  f14 := ⟨Try.f80.name, by decide, Try.func80.trans (congrArg some (by kernel_rfl))⟩
  f15 := ⟨Try.f81.name, by decide, Try.func81.trans (congrArg some (by kernel_rfl))⟩
  f16 := ⟨Try.f82.name, by decide, Try.func82.trans (congrArg some (by kernel_rfl))⟩
  f17 := ⟨Try.f83.name, by decide, Try.func83.trans (congrArg some (by kernel_rfl))⟩
  f18 := ⟨Try.f84.name, by decide, Try.func84.trans (congrArg some (by kernel_rfl))⟩
  f19 := Try.func85.trans (congrArg some (by kernel_rfl))
  f20 := Try.func86.trans (congrArg some (by kernel_rfl))
  f30 := ⟨Try.f89.name, by decide, Try.func89.trans (congrArg some (by kernel_rfl))⟩
  f31 := Try.func90.trans (congrArg some (by kernel_rfl))
  f32 := Try.func91.trans (congrArg some (by kernel_rfl))
  f33 := ⟨Try.f92.name, by decide, Try.func92.trans (congrArg some (by kernel_rfl))⟩
  f34 := ⟨Try.f93.name, by decide, Try.func93.trans (congrArg some (by kernel_rfl))⟩
  f35 := ⟨Try.f94.name, by decide, Try.func94.trans (congrArg some (by kernel_rfl))⟩
  f40 := ⟨Try.f95.name, by decide, Try.func95.trans (congrArg some (by kernel_rfl))⟩
  t0 := Try.underlying0
  a0 := Try.isAgg0
  z0 := Try.sizeOf0
  v0 := Try.zeroValue0
  t3 := Try.underlying3
  a3 := Try.isAgg3
  z3 := Try.sizeOf3
  v3 := Try.zeroValue3
  t4 := Try.underlying4
  a4 := Try.isAgg4
  z4 := Try.sizeOf4
  v4 := Try.zeroValue4
  t5 := Try.underlying5
  a5 := Try.isAgg5
  z5 := Try.sizeOf5
  v5 := Try.zeroValue5
  t9 := Try.underlying9
  a9 := Try.isAgg9
  z9 := Try.sizeOf9
  v9 := Try.zeroValue9
  t22 := Try.underlying34
  a22 := Try.isAgg34
  z22 := Try.sizeOf34
  v22 := Try.zeroValue34
  t23 := Try.underlying34
  a23 := Try.isAgg34
  z23 := Try.sizeOf34
  v23 := Try.zeroValue34
  t25 := Try.underlying3
  a25 := Try.isAgg3
  z25 := Try.sizeOf3
  v25 := Try.zeroValue3
  t32 := Try.underlying128
  a32 := Try.isAgg128
  z32 := Try.sizeOf128
  v32 := Try.zeroValue128
  t35 := Try.underlying143
  a35 := Try.isAgg143
  z35 := Try.sizeOf143
  v35 := Try.zeroValue143
  t36 := Try.underlying144
  a36 := Try.isAgg144
  z36 := Try.sizeOf144
  v36 := Try.zeroValue144
  t41 := Try.underlying149
  a41 := Try.isAgg149
  z41 := Try.sizeOf149
  v41 := Try.zeroValue149
  t44 := Try.underlying152
  a44 := Try.isAgg152
  z44 := Try.sizeOf152
  v44 := Try.zeroValue152
  t46 := Try.underlying154
  a46 := Try.isAgg154
  z46 := Try.sizeOf154
  v46 := Try.zeroValue154
  t53 := Try.underlying157
  a53 := Try.isAgg157
  z53 := Try.sizeOf157
  v53 := Try.zeroValue157
  t57 := Try.underlying161
  a57 := Try.isAgg161
  z57 := Try.sizeOf161
  v57 := Try.zeroValue161
  t63 := Try.underlying163
  a63 := Try.isAgg163
  z63 := Try.sizeOf163
  v63 := Try.zeroValue163
  t64 := Try.underlying164
  a64 := Try.isAgg164
  z64 := Try.sizeOf164
  v64 := Try.zeroValue164 }
end Go.Proofs
namespace Go.Proofs.Ythmicafabimfkaa
open Go.RowKit Go.Proofs Go.Maps Go.Sort Go.Shelf
noncomputable section
def insI (x : Int) : List Int → List Int
  | [] => [x]
  | y :: l => bif decide (x ≤ y) then x :: y :: l else y :: insI x l
def srtI : List Int → List Int
  | [] => []
  | x :: l => insI x (srtI l)
theorem insI_perm (x : Int) : ∀ l : List Int, (insI x l).Perm (x :: l)
  | [] => List.Perm.refl _
  | y :: l => by
    unfold insI
    cases decide (x ≤ y) with
    | true => exact List.Perm.refl _
    | false => exact ((insI_perm x l).cons y).trans (List.Perm.swap x y l)
theorem srtI_perm : ∀ l : List Int, (srtI l).Perm l
  | [] => List.Perm.refl _
  | x :: l => (insI_perm x _).trans ((srtI_perm l).cons x)
theorem insI_sorted (x : Int) : ∀ {l : List Int}, l.Pairwise (· ≤ ·) → (insI x l).Pairwise (· ≤ ·)
  | [], _ => List.pairwise_singleton _ _
  | y :: l, h => by
    obtain ⟨h1, h2⟩ := List.pairwise_cons.1 h
    unfold insI
    cases hd : decide (x ≤ y) with
    | true =>
      have hxy : x ≤ y := of_decide_eq_true hd
      refine List.pairwise_cons.2 ⟨fun z hz => ?_, h⟩
      rcases List.mem_cons.1 hz with rfl | hz
      · exact hxy
      · exact Int.le_trans hxy (h1 z hz)
    | false =>
      have hxy : ¬ x ≤ y := of_decide_eq_false hd
      refine List.pairwise_cons.2 ⟨fun z hz => ?_, insI_sorted x h2⟩
      rcases List.mem_cons.1 ((insI_perm x l).mem_iff.1 hz) with rfl | hz
      · omega
      · exact h1 z hz
theorem srtI_sorted : ∀ l : List Int, (srtI l).Pairwise (· ≤ ·)
  | [] => List.Pairwise.nil
  | x :: l => insI_sorted x (srtI_sorted l)
theorem srtI_merge (l : List Int) : l.mergeSort (fun x y => decide (x ≤ y)) = srtI l := by
  have tr : ∀ a b c : Int, decide (a ≤ b) = true → decide (b ≤ c) = true → decide (a ≤ c) = true := fun a b c h1 h2 => by simp only [decide_eq_true_eq] at *; exact Int.le_trans h1 h2
  have tt : ∀ a b : Int, (decide (a ≤ b) || decide (b ≤ a)) = true := fun a b => by simp only [Bool.or_eq_true, decide_eq_true_eq]; exact Int.le_total a b
  refine List.Perm.eq_of_pairwise (le := fun a b => a ≤ b) (fun a b _ _ h1 h2 => Int.le_antisymm h1 h2) ((List.pairwise_mergeSort tr tt l).imp (fun h => of_decide_eq_true h)) (srtI_sorted l) ((List.mergeSort_perm l _).trans (srtI_perm l).symm)
theorem srtI_len (l : List Int) : (srtI l).length = l.length := (srtI_perm l).length_eq
theorem srtI_congr {l l' : List Int} (h : l.Perm l') : srtI l = srtI l' :=
  List.Perm.eq_of_pairwise (le := fun a b => a ≤ b) (fun a b _ _ h1 h2 => Int.le_antisymm h1 h2) (srtI_sorted l) (srtI_sorted l') ((srtI_perm l).trans (h.trans (srtI_perm l').symm))
theorem flat_int : ∀ xs : List Int, flat (.int .i64) xs = xs.map (fun x => CV.sc (.int .i64 x))
  | [] => rfl
  | x :: xs => by
    have := flat_int xs
    simp only [flat, List.flatMap_cons] at this ⊢
    rw [this]; rfl
theorem denL_int {ρ : List Info} : ∀ xs : List Int, DenL ρ (xs.map (fun x => CV.sc (.int .i64 x))) (xs.map (Value.int .i64))
  | [] => rfl
  | x :: xs => ⟨_, _, rfl, ⟨rfl, rfl⟩, denL_int xs⟩
theorem denL_int_inv {ρ : List Info} : ∀ {xs : List Int} {vs : List Value}, DenL ρ (xs.map (fun x => CV.sc (.int .i64 x))) vs → vs = xs.map (Value.int .i64)
  | [], _, h => h
  | x :: xs, vs, ⟨v, r, e, h1, h2⟩ => by
    have h3 : v = .int .i64 x := h1.1
    rw [e, h3, denL_int_inv h2]; rfl
theorem grownBy_srt {w : World} {g o n : Nat} {os : Array Obj} (d : Array Int) : w.grownBy (Go.Sort.grow (putRow encZ (Sort.ahead w n) g o d) os) (some g) := by
  refine ⟨rfl, rfl, rfl, by simp, fun k hk hne => ?_⟩
  rw [heap_grow_old _ _ (by simpa using hk)]
  have : g ≠ k := fun e => hne (by rw [e])
  simp [putRow, mapBlock, Sort.ahead, Array.getElem?_modify, this]
theorem heap_srt {w : World} {g o n : Nat} {os : Array Obj} {cur : Array Value} {e : TypeId} {fr : Nat × Nat} (d : Array Int) (hb : w.heap[g]? = some (.cells cur e fr)) :
    (Go.Sort.grow (putRow encZ (Sort.ahead w n) g o d) os).heap[g]? = some (.cells (putCells encZ o d cur) e fr) := by
  have hg : g < w.heap.size := (Array.getElem?_eq_some_iff.1 hb).1
  rw [heap_grow_old _ _ (by simpa using hg)]
  simp [putRow, mapBlock, Sort.ahead, Array.getElem?_modify, hb, onCells]
theorem take_srt (cur : Array Value) (o : Nat) (ts : List Int) (h : o + ts.length ≤ cur.size) : ((putCells encZ o ts.toArray cur).toList.drop o).take ts.length = ts.map encZ := by
  apply List.ext_getElem?
  intro j
  by_cases hj : j < ts.length
  · rw [List.getElem?_take_of_lt hj, List.getElem?_drop, Array.getElem?_toList]
    simp [putCells, hj, show o + j < cur.size by omega]
  · rw [List.getElem?_take_eq_none (by omega), List.getElem?_eq_none (by simp; omega)]
theorem holds_srt {w : World} {g o : Nat} {cur : Array Value} {e : TypeId} {ss : List Int} (hb : w.heap[g]? = some (.cells cur e (0, 0))) (ht : (cur.toList.drop o).take ss.length = ss.map encZ) : Holds encZ w g o ss.toArray := by
  intro j hj
  have hj' : j < ss.length := by simpa using hj
  refine ⟨?_, by simp [World.frozen?, hb]⟩
  have h1 : ((cur.toList.drop o).take ss.length)[j]? = (ss.map encZ)[j]? := by rw [ht]
  rw [List.getElem?_take_of_lt hj', List.getElem?_drop] at h1
  simp only [World.cell?, hb]
  simp only [Option.isSome_none, Bool.false_eq_true, if_false]
  rw [← Array.getElem?_toList, h1]
  simp [hj']
def sort_S (_ : Nat) (l : List Int) : Option (List Int) := bif lenOk 0 l.length then some (srtI l) else none
abbrev sort_I : Sch := ⟨[(0, .c (.k (.sl 0 1)))], [.rows 3 (.int .i64)]⟩
abbrev sort_O : FSch := ⟨.tu [], [.rows 3 (.int .i64)]⟩
def sort_E (F : Nat) : Ent := ⟨38, 1, sort_I, sort_O, fun s => sort_S F s, []⟩
theorem sort_ok (F : Nat) : FnSem Try.prog 38 1 sort_I sort_O (fun s => sort_S F s) := by
  intro s t hst S F' W0 ι w vs hlen hden hh hcl
  change List Int at s
  change List Int at t
  simp only [sort_S] at hst
  cases hc : lenOk 0 s.length with
  | false => rw [hc] at hst; cases hst
  | true =>
    rw [hc] at hst
    cases hst
    have hsz := lenOk_ok hc
    obtain ⟨v, hv, g⟩ := hden 0 (.c (.sl 0 1 0 none none)) rfl
    have hvs : vs = [v] := by
      match vs, hlen with
      | [a], _ => simp at g; rw [g]
    subst hvs
    have hh' : HOk S F' W0 ι [.rows 3 (.int .i64) s] w := hh
    obtain ⟨i, a', c', nn, h1, h2, h3, h4, h5, ⟨m, h6, h7⟩, _, _, _, h10, _⟩ := hv
    have h10 := h10 rfl
    obtain ⟨g0, gw, us, g1, g2⟩ := hh'.ok 0 _ i rfl h1
    rw [g0] at h6; cases h6
    rw [Nat.sub_zero] at h7
    subst h7
    rw [flat_int] at g1
    have hus := denL_int_inv g1
    subst hus
    rw [h2, h10]
    obtain ⟨k1, k2, k3, k4⟩ := g2
    have none_case : s = [] → Calls Try.prog 38 [Value.slice i.a s.length c'].toArray w (fun e w' => ∃ ι' u, e = .returned u ∧ PreM sort_I.roots.length ι ι' ∧ DenP ι' (sort_O.res.enc same (sort_O.a (srtI s))) u ∧ HOk S F' W0 ι' (rsEnc same sort_O.roots (sort_O.b (srtI s))) w' ∧ sort_I.roots.length ≤ sort_O.roots.length) := by
      intro hs
      subst hs
      refine (AnyM.slices_Sort_int_none Try.sortA i.a c' w).mono ?_
      rintro e w' ⟨rfl, rfl⟩
      exact ⟨ι, _, rfl, (Pre.refl _).m, ⟨[], rfl, rfl⟩, hh', Nat.le_refl _⟩
    rcases k4 with ⟨c0, _⟩ | ⟨gb, o, cur, e1, e2, e3, e4⟩
    · refine none_case (List.eq_nil_of_length_eq_zero (by omega))
    · rw [e1]
      rw [show TC.w (.int .i64) = 1 from rfl, Nat.mul_one] at e3 e4
      have hH : Holds encZ w gb o s.toArray := holds_srt e2 e4
      have hgl : gb < w.heap.size := (Array.getElem?_eq_some_iff.1 e2).1
      refine (AnyM.slices_Sort_int Try.sortA gb o c' s w hH hgl (by omega)).mono ?_
      rintro e w' ⟨rfl, n, os, rfl⟩
      rw [srtI_merge]
      refine ⟨ι, _, rfl, (Pre.refl _).m, ⟨[], rfl, rfl⟩, ?_, Nat.le_refl _⟩
      have hown : own i (.rows 3 (.int .i64) s) gb := by show i.a.map (·.block) = some gb; rw [e1]; rfl
      refine hh'.setg (p := 0) rfl h1 hown (Ex.of_grown (grownBy_srt _)) (.rows 3 (.int .i64) (srtI s)) ⟨by rw [g0, srtI_len], gw, (srtI s).map (Value.int .i64), by rw [flat_int]; exact denL_int _, ?_⟩ (fun c hc => hc)
      refine ⟨by simp [TC.w], by rw [srtI_len]; exact k2, k3, .inr ⟨gb, o, _, e1, heap_srt _ e2, ?_, ?_⟩⟩
      · rw [show TC.w (.int .i64) = 1 from rfl, Nat.mul_one]; simpa [putCells] using e3
      · rw [show TC.w (.int .i64) = 1 from rfl, Nat.mul_one]
        exact take_srt cur o (srtI s) (by rw [srtI_len]; omega)
def keysOf (ts : List (Int × Bool)) : List Int := ts.map Prod.fst
def sorted_S (_ : Nat) (n : Nat) (os : List (Option (List (Int × Bool)))) : Option (List (Option (List (Int × Bool))) × List Int) :=
  bif (liveA os n && lenOk 0 (rowAt os n).length) && (rowAt os n).all (fun e => decide (-9223372036854775808 ≤ e.1) && decide (e.1 ≤ 9223372036854775807)) then some (os, srtI (keysOf (rowAt os n))) else none
abbrev sorted_I : Sch := ⟨[(0, .c (.k (.hv 0)))], [.clo 59 [] [.k (.pt 1 0 0 0)], .blk 81 [.t (.rf 2 1)], .arm 1 (.i .i64) false .bool]⟩
abbrev sorted_O : FSch := ⟨.one (.c (.k (.sl 3 1))), [.dead, .dead, .arm 1 (.i .i64) false .bool, .rows 3 (.int .i64)]⟩
def sorted_E (F : Nat) : Ent := ⟨36, 1, sorted_I, sorted_O, fun s => sorted_S F s.1 s.2, []⟩
def RT (_ : Value) : Option (DataW Unit × List MemPlace) := some (.nil, [])
theorem entOk_keys {ρ : List Info} {κ : KK} {agg : Bool} {τ : TC} : ∀ {us : List (κ.ty × Nat × τ.ty)} {l : List MapEntry}, EntOk ρ κ agg τ us l → l.map (·.key) = us.map (fun e => κ.val e.1) ∧ l.map (·.born) = us.map (fun e => e.2.1)
  | [], l, h => by rw [show l = [] from h]; exact ⟨rfl, rfl⟩
  | x :: us, l, ⟨e, r, e1, e2, ⟨e3, _⟩, e4⟩ => by
    obtain ⟨i1, i2⟩ := entOk_keys e4
    subst e1
    simp only [List.map_cons, i1, i2, e2, e3]
    exact ⟨trivial, trivial⟩
theorem keys_own {w : World} {ρ : List Info} {ts : List (Int × Bool)} {ents : Array MapEntry} {cl b : Nat} (hm : MapOk ρ (.i .i64) false .bool ts ents cl) (hb : w.heap[b]? = some (.map ents cl)) (hl : ents.size ≤ maxLen)
    (hw : ∀ e ∈ ts, (Lit.int .i64 e.1).wf = true) : ∃ D : DataW Unit, w.ownsMap Try.prog 3 RT b ts.length D ∧ (intKeys D).Perm (keysOf ts) ∧ Maps.size D = ts.length := by
  have hsz := mapOk_len hm
  obtain ⟨us, h1, h2, h3, h4, h5⟩ := hm
  obtain ⟨q1, q2⟩ := entOk_keys h1
  have hk : ∀ x ∈ ents.toList, ∃ e ∈ ts, x.key = Value.int .i64 e.1 := by
    intro x hx
    have : x.key ∈ us.map (fun e => KK.val (.i .i64) e.1) := q1 ▸ List.mem_map.2 ⟨x, hx, rfl⟩
    obtain ⟨e, he, h⟩ := List.mem_map.1 this
    exact ⟨(e.1, e.2.2), h2.mem_iff.1 (List.mem_map.2 ⟨e, he, rfl⟩), h.symm⟩
  have hrd : ∀ x ∈ ents.toList, ∃ a : Int, x.key = Value.int .i64 a ∧ Go.WideElems.rd Try.prog 3 RT x = some (.int .i64 a, .nil) := by
    intro x hx
    obtain ⟨e, he, h⟩ := hk x hx
    refine ⟨e.1, h, ?_⟩
    have := keyOf_int_mk Try.underlying3 (hw e he)
    simp [Go.WideElems.rd, h, this, RT]
  refine ⟨.map ((ents.toList.map (Go.WideElems.rg Try.prog 3 RT)).foldr DataW.insert []), ⟨ents, cl, hb, ⟨hl, ⟨?_, ?_, ?_⟩, fun x hx => ?_⟩, by omega, rfl⟩, ?_, ?_⟩
  · intro x hx
    have : x.born ∈ us.map (fun e => e.2.1) := q2 ▸ List.mem_map.2 ⟨x, hx, rfl⟩
    obtain ⟨e, he, h⟩ := List.mem_map.1 this
    rw [← h]; exact h5 e he
  · rw [q2]; exact h4
  · rw [q1]
    have hnd : (us.map (fun e => e.1)).Nodup := by
      rw [← strip_fst]
      exact (h2.map Prod.fst).nodup_iff.2 h3
    have : us.map (fun e => KK.val (.i .i64) e.1) = (us.map (fun e => e.1)).map (Value.int .i64) := by rw [List.map_map]; rfl
    rw [this]
    exact List.nodup_iff_pairwise_ne.2 (List.pairwise_map.2 ((List.nodup_iff_pairwise_ne.1 hnd).imp (fun h e => h (by simpa using e))))
  · obtain ⟨a, _, h⟩ := hrd x hx
    exact ⟨_, h⟩
  · show (List.map (fun p : Lit × DataW Unit => _root_.Go.intOf p.1) _).Perm _
    refine ((Go.WideShapes.sorted_perm _).map _).trans ?_
    rw [List.map_map]
    have e1 : ents.toList.map ((fun p : Lit × DataW Unit => _root_.Go.intOf p.1) ∘ Go.WideElems.rg Try.prog 3 RT) = us.map (fun e => e.1) := by
      have h7 : (ents.toList.map (·.key)).map (fun v => match v with
        | .int _ a => a
        | _ => 0) = us.map (fun e => e.1) := by
        rw [q1, List.map_map]; rfl
      rw [← h7, List.map_map]
      refine List.map_congr_left (fun x hx => ?_)
      obtain ⟨a, g1, g2⟩ := hrd x hx
      simp [Go.WideElems.rg_of g2, g1, _root_.Go.intOf]
    rw [e1, ← strip_fst]
    exact h2.map Prod.fst
  · simp [Maps.size, length_sorted, hsz]
theorem sortsA (m : Nat) : AnyZI.SortsIn Try.prog Try.sortedA_ren Fence.wide m :=
  ⟨fun blk off cap ss W hH hblk hsz => callsIn_wide.2 (AnyM.slices_Sort_int Try.sortA blk off cap ss W hH hblk hsz),
   fun p cap W => callsIn_wide.2 (AnyM.slices_Sort_int_none Try.sortA p cap W)⟩
theorem sorted_fin {S F' : List Nat} {W0 w w' : World} {ι : List Info} {os : List (Option (List (Int × Bool)))} {v : Value} {L : List Int} (hd : HOk S F' W0 ι [.dead, .dead, .arm 1 (.i .i64) false .bool os] w)
    (hown : w'.ownsRow w.heap.size 3 1 v L.length (L.map (Value.int .i64))) (hE : Ext w w') :
    ∃ ι' u, Ending.returned v = .returned u ∧ PreM sorted_I.roots.length ι ι' ∧ DenP ι' (sorted_O.res.enc same (sorted_O.a (os, L))) u ∧ HOk S F' W0 ι' (rsEnc same sorted_O.roots (sorted_O.b (os, L))) w' ∧ sorted_I.roots.length ≤ sorted_O.roots.length := by
  obtain ⟨q1, q2⟩ := hown
  have key : ∃ aa cap, v = .slice aa L.length cap ∧ ownsAt w' 3 1 aa cap L.length (L.map (Value.int .i64)) ∧ L.length ≤ cap ∧ cap ≤ maxLen ∧ (0 < L.length → ∃ b o, aa = some ⟨b, o, none⟩) ∧ ∀ b, aa.map (·.block) = some b → w.heap.size ≤ b := by
    rcases q2 with ⟨h2, h3⟩ | ⟨g, cap, cur, h2, h3, h4, h5, h6, h7, h8⟩
    · refine ⟨none, 0, by rw [h2, h3], ⟨q1, by omega, by unfold maxLen; omega, .inl ⟨rfl, by simp⟩⟩, by omega, by unfold maxLen; omega, by omega, by simp⟩
    · refine ⟨some ⟨g, 0, none⟩, cap, h2, ⟨q1, h5, h6, .inr ⟨g, 0, cur, rfl, h4, by omega, by simpa using h8⟩⟩, h5, h6, fun _ => ⟨g, 0, rfl⟩, fun b hb => ?_⟩
      simp only [Option.map_some, Option.some.injEq] at hb
      omega
  obtain ⟨aa, cap, e, k1, k2, k3, k4, k5⟩ := key
  subst e
  have hl' : ι.length = 3 := hd.len
  have hg : (ι ++ [⟨aa, cap, some L.length, .nilFunc⟩])[3]? = some ⟨aa, cap, some L.length, .nilFunc⟩ := by
    rw [List.getElem?_append_right (by omega), hl']; rfl
  refine ⟨ι ++ [⟨aa, cap, some L.length, .nilFunc⟩], _, rfl, (Pre.app _ _).m, ⟨_, aa, cap, L.length, hg, rfl, k2, k3, k4, ⟨_, rfl, (Nat.sub_zero _).symm⟩, ⟨_, rfl, by omega⟩, (Nat.sub_zero _).symm, rfl, fun _ => rfl, fun _ => ?_⟩, ?_, by decide⟩
  · cases aa <;> simp [Addr.add]
  · exact hd.add hE ⟨aa, cap, some L.length, .nilFunc⟩ (.rows 3 (.int .i64) L) ⟨rfl, Nat.lt_succ_self 0, L.map (Value.int .i64), by rw [flat_int]; exact denL_int L, k1⟩ (fun b hb => k5 b hb)
theorem sorted_ok (F : Nat) : FnSem Try.prog 36 1 sorted_I sorted_O (fun s => sorted_S F s.1 s.2) := by
  intro s t hst S F' W0 ι w vs hlen hden hh hcl
  obtain ⟨n, os⟩ := s
  change Nat at n
  change List (Option (List (Int × Bool))) at os
  simp only [sorted_S] at hst
  cases hc : ((liveA os n && lenOk 0 (rowAt os n).length) && (rowAt os n).all (fun e => decide (-9223372036854775808 ≤ e.1) && decide (e.1 ≤ 9223372036854775807))) with
  | false => rw [hc] at hst; cases hst
  | true =>
    rw [hc] at hst
    cases hst
    simp only [Bool.and_eq_true] at hc
    obtain ⟨⟨hlive, hlo⟩, hall⟩ := hc
    have hsz := lenOk_ok hlo
    have hwf : ∀ e ∈ rowAt os n, (Lit.int .i64 e.1).wf = true := by
      intro e he
      have := List.all_eq_true.1 hall e he
      simp only [Bool.and_eq_true, decide_eq_true_eq] at this
      simp only [Lit.wf, Bool.and_eq_true, decide_eq_true_eq]
      exact ⟨this.1, this.2⟩
    obtain ⟨v, hv, g⟩ := hden 0 (.c (.hv 0)) rfl
    have hvs : vs = [v] := by
      match vs, hlen with
      | [a], _ => simp at g; rw [g]
    subst hvs
    have hh' : HOk S F' W0 ι [.clo 59 [] [.pt 1 0 0 0], .blk [.rf 2 1 n] 81, .arm 1 (.i .i64) false .bool os] w := hh
    have hd : HOk S F' W0 ι [.dead, .dead, .arm 1 (.i .i64) false .bool os] w := hh'.masked [2]
    have hl' : ι.length = 3 := hh'.len
    obtain ⟨i0, g1, g2, _⟩ := hv
    obtain ⟨fs, cs, g3, g4, g5⟩ := hh'.ok 0 _ i0 rfl g1
    obtain ⟨pv, r0, g6, ⟨i1, B, o, g7, g8, _, g9⟩, g10⟩ := g4
    subst g10; subst g6
    have g3 : fs = [] := g3
    subst g3
    obtain ⟨_, B', us, g11, g12, g13⟩ := hh'.ok 1 _ i1 rfl g7
    rw [g8] at g11
    cases g11
    obtain ⟨mv, r1, g14, g15, g16⟩ := g12
    subst g16; subst g14
    simp only [Nat.zero_mul, Nat.add_zero] at g9
    subst g9
    rw [g2, g5]
    have hBl : B < w.heap.size := (Array.getElem?_eq_some_iff.1 g13).1
    have hBc : w.cell? ⟨B, 0, none⟩ = some mv := by simp [World.cell?, g13]
    refine (callsIn_wide (n := 5)).1 ?_
    have fin : ∀ (S' : List Int → Prop) (N : Nat) (hN : N ≤ maxLen) (hNb : N * 8 ≤ 140737488355328), (∀ ss, S' ss → ss.Perm (keysOf (rowAt os n))) → SeqGives Fence.wide 2 Try.prog 59 #[.pointer (some ⟨B, 0, none⟩)] encZ S' N w →
        CallsIn Fence.wide 5 Try.prog 36 #[.func (.func 59) #[] #[.pointer (some ⟨B, 0, none⟩)]] w (fun e w' => ∃ ι' u, e = .returned u ∧ PreM sorted_I.roots.length ι ι' ∧ DenP ι' (sorted_O.res.enc same (sorted_O.a (os, srtI (keysOf (rowAt os n))))) u ∧ HOk S F' W0 ι' (rsEnc same sorted_O.roots (sorted_O.b (os, srtI (keysOf (rowAt os n))))) w' ∧ sorted_I.roots.length ≤ sorted_O.roots.length) := by
      intro S' N hN hNb hS hseq
      have cS := AnyZI.sorted_in Try.sortedA Fence.wide 5 trivial trivial trivial trivial rfl (by omega) (sortsA _) (enters_of Try.func38 (by kernel_rfl) rfl) 59 #[.pointer (some ⟨B, 0, none⟩)] trivial (enters_of Try.func59 (by kernel_rfl) rfl) S' N hN hNb w hseq
      change CallsIn _ _ Try.prog 36 _ _ _ at cS
      refine cS.mono ?_
      rintro e w' ⟨v, ss, rfl, hSs, hrow, _, hb⟩
      rw [srtI_merge, srtI_congr (hS ss hSs)] at hrow
      have hll : ss.length = (srtI (keysOf (rowAt os n))).length := by rw [srtI_len]; exact (hS ss hSs).length_eq
      rw [hll] at hrow
      exact sorted_fin hd hrow (Ex.of_below hb)
    have hfin : ∀ {E : Ending → World → Prop}, CallsIn Fence.wide 5 Try.prog 36 #[.func (.func 59) #[] #[.pointer (some ⟨B, 0, none⟩)]] w E → CallsIn Fence.wide 5 Try.prog 36 #[.func (.func 59) #[] #[.pointer (some ⟨B, 0, none⟩)]] w E := fun h => h
    rcases g15 with ⟨rfl, rfl⟩ | ⟨m, id, i', rfl, k1, k2, k3⟩
    · exact fin (fun ss => ss = []) 0 (Nat.zero_le _) (by omega) (fun ss h => by rw [h]; exact List.Perm.refl _)
        (AnyZI.keys_gives_nil (ρ := Try.keysA_ren) { Try.keysA with } Fence.wide _ trivial rfl B w hBl hBc)
    · obtain ⟨i2, e2⟩ : ∃ i2, ι[2]? = some i2 := ⟨ι[2], List.getElem?_eq_getElem (by omega)⟩
      have k4 := hh'.cov 2 1 _ i2 rfl e2 rfl id i' m mv k1 k2
      obtain ⟨_, k5, _⟩ := hh'.ok 2 _ i2 rfl e2
      cases hom : os[m]? with
      | none => simp [liveA, hom] at hlive
      | some oo =>
        cases oo with
        | none => simp [liveA, hom] at hlive
        | some ts =>
          have k6 : (Root.arm 1 (.i .i64) false .bool os).obs[m]? = some (.mp (.i .i64) false .bool ts) := by simp [Root.obs, hom]
          obtain ⟨r, ents, cl, k7, k8, k9⟩ := k5 m mv _ k4 k6
          subst k7
          have hrow : rowAt os (m + 1) = ts := by simp [rowAt, hom]
          rw [hrow] at hwf hsz fin ⊢
          have hml := mapOk_len k9
          obtain ⟨D, d1, d2, d3⟩ := keys_own k9 k8 (by unfold maxLen; omega) hwf
          refine fin (fun ss => ss.Perm (intKeys D)) (Maps.size D) (by unfold maxLen; omega) (by omega) (fun ss h => h.trans d2) ?_
          exact AnyZI.keys_gives (ρ := Try.keysA_ren) { Try.keysA with } Fence.wide _ trivial rfl (by omega) B r ts.length D w hBl hBc d1
def srt_T (F : Nat) : List Ent := sorted_E F :: sort_E F :: samePile_T F
theorem srt_T_ok (F : Nat) : EntsOk Try.prog (srt_T F) := ⟨⟨by kernel_rfl, sorted_ok F⟩, ⟨by kernel_rfl, sort_ok F⟩, samePile_T_ok F⟩
end
end Go.Proofs.Ythmicafabimfkaa


namespace Go.Proofs.Ythmicafabimfkaa
open Go.RowKit Go.Proofs
set_option maxRecDepth 100000
set_option maxHeartbeats 4000000
noncomputable section
abbrev sTrace_n : Nat := 2
def sTrace_S (F : Nat) (number : Int) (s1 : T_P) (s_lots : (List (Int × Nat))) (ar0 : (List (T_L × Nat))) (ar1 : T_1) : Option ((Int × (T_7 × ((List (Int × Nat)) × ((List (T_L × Nat)) × (T_1 × (List Int))))))) := (ob (find_S F number s1 s_lots ar0 ar1) (fun r => (bif (r.1.2 != (0 : Int)) then (some (r.1.2, ((r.2.1.1, (r.2.1.2.1, (r.2.1.2.2.1, (r.2.1.2.2.2.1, (r.2.1.2.2.2.2.1, (r.2.1.2.2.2.2.2.1, r.2.1.2.2.2.2.2.2)))))), r.2.2.1, r.2.2.2.1, r.2.2.2.2, []))) else (bif (!(Nat.beq r.1.1 0)) then (bif (!(Nat.beq r.1.1 0)) then (bif (inO r.1.1 r.2.2.2.1.length) then (ob (sorted_S F (nth r.2.2.2.1 (TC.dflt C_E) (r.1.1 - 1)).2 r.2.2.2.2) (fun r1 => (some ((0 : Int), ((r.2.1.1, (r.2.1.2.1, (r.2.1.2.2.1, (r.2.1.2.2.2.1, (r.2.1.2.2.2.2.1, (r.2.1.2.2.2.2.2.1, r.2.1.2.2.2.2.2.2)))))), r.2.2.1, r.2.2.2.1, r1.1, r1.2))))) else none) else none) else none))))
abbrev sTrace_I : Sch := ⟨[(0, .c (.k (.pt 0 0 0 0))), (1, .c (.t (.int .i64)))], [.blk 77 [.k (.hv 1), .t C_P], .mp (.i .i64) false (.rf 0 0), .aro 0 83 C_E, .arm 1 (.i .i64) false .bool]⟩
abbrev sTrace_O : FSch := ⟨.tu [(false, [.k (.sl 6 1)]), (false, [.t (.int .i64)])], [.blk 77 [.k (.hv 1), .t (.int .i64), .t (.int .i64), .t (.int .i64), .t (.int .i64), .t (.int .i64), .t (.int .i64), .t (.int .i64)], .mp (.i .i64) false (.rf 0 0), .dead, .dead, .aro 0 83 C_E, .arm 1 (.i .i64) false .bool, .rows 3 (.int .i64)]⟩
def sTrace_E (F : Nat) : Ent := ⟨16, 2, sTrace_I, sTrace_O, fun s => sTrace_S F s.1 s.2.1 s.2.2.1 s.2.2.2.1 s.2.2.2.2, []⟩
theorem sTrace_ok (F : Nat) : FnSem Try.prog 16 2 sTrace_I sTrace_O (fun s => sTrace_S F s.1 s.2.1 s.2.2.1 s.2.2.2.1 s.2.2.2.2) :=
  fn_ok (call := callD Try.prog 70 plans (srt_T F) 20) (Fu := 70) (pl := plOf plans 16) (d := 1000) (an := .no) (callD_ok progMixed 70 plansOk (srt_T_ok F) 20) progMixed (by kernel_rfl) (anP_ok (c := bodyOf Try.prog 16) (p := []) (trivial)) (fun s => by kernel_rfl)
def sTrace_T (F : Nat) : List Ent := sTrace_E F :: srt_T F
theorem sTrace_T_ok (F : Nat) : EntsOk Try.prog (sTrace_T F) := ⟨⟨by kernel_rfl, sTrace_ok F⟩, srt_T_ok F⟩
abbrev sMade_n : Nat := 2
def sMade_L0_B (F : Nat) (s2 : (Int × (T_7 × ((List (T_L × Nat)) × (T_1 × (List Int)))))) (e : ((Int × Nat))) : Option ((Int × (T_7 × ((List (T_L × Nat)) × (T_1 × (List Int))))) ⊕ ((T_7 × ((List (T_L × Nat)) × (T_1 × (List Int)))))) := (bif (!(Nat.beq e.2 0)) then (bif (!(Nat.beq e.2 0)) then (bif (inO e.2 s2.2.2.1.length) then (bif (liveA s2.2.2.2.1 (nth s2.2.2.1 (TC.dflt C_E) (e.2 - 1)).2) then (bif (getK (KK.i IntKind.i64) false s2.1 (rowAt s2.2.2.2.1 (nth s2.2.2.1 (TC.dflt C_E) (e.2 - 1)).2)) then (bif (bif false then (lenOk2 (s2.2.2.2.2.length - 0) (e.1 :: []).length) else (lenOk (s2.2.2.2.2.length - 0) (e.1 :: []).length)) then (some (.inl (s2.1, (s2.2.1, s2.2.2.1, s2.2.2.2.1, (s2.2.2.2.2 ++ (e.1 :: [])))))) else none) else (some (.inl (s2.1, (s2.2.1, s2.2.2.1, s2.2.2.2.1, s2.2.2.2.2))))) else none) else none) else none) else none)
def sMade_L0_Z (F : Nat) (s2 : (Int × (T_7 × ((List (T_L × Nat)) × (T_1 × (List Int)))))) : Option ((T_7 × ((List (T_L × Nat)) × (T_1 × (List Int))))) := some (s2.2.1, s2.2.2.1, s2.2.2.2.1, s2.2.2.2.2)
abbrev sMade_L0_s : Sch := ⟨[(1, .c (.t (.int .i64))), (8, .c (.k (.sl 6 1)))], [.blk 77 [.k (.hv 1), .t (.int .i64), .t (.int .i64), .t (.int .i64), .t (.int .i64), .t (.int .i64), .t (.int .i64), .t (.int .i64)], .dead, .dead, .dead, .aro 0 83 C_E, .arm 1 (.i .i64) false .bool, .rows 3 (.int .i64)]⟩
abbrev sMade_L0_o : Outs := [(.normal, ⟨[(8, .c (.k (.sl 6 1)))], [.blk 77 [.k (.hv 1), .t (.int .i64), .t (.int .i64), .t (.int .i64), .t (.int .i64), .t (.int .i64), .t (.int .i64), .t (.int .i64)], .dead, .dead, .dead, .aro 0 83 C_E, .arm 1 (.i .i64) false .bool, .rows 3 (.int .i64)]⟩)]
abbrev sMade_L0_R : RngC := rngGet (rngParse (subAt (bodyOf Try.prog 19) [1, 1, 1, 0]))
theorem sMade_L0_ok (F : Nat) : RngSem Try.prog 4 (tmpsOf Try.prog 19 sMade_n) sMade_L0_R sMade_L0_s sMade_L0_o (.i .i64) false (.rf 0 0) (sMade_L0_B F) (sMade_L0_Z F) :=
  rng_sem (P := Try.prog) (m := 4) (N := tmpsOf Try.prog 19 sMade_n) (R := sMade_L0_R) (Sc := sMade_L0_s) (o := sMade_L0_o) (call := callD Try.prog 70 plans (sTrace_T F) 20) (Fu := 70) (pl := (plOf plans 19)) (c := (subAt (bodyOf Try.prog 19) [1, 1, 1, 0])) (by kernel_rfl) (callD_ok progMixed 70 plansOk (sTrace_T_ok F) 20) progMixed (by kernel_rfl) (by kernel_rfl) (by kernel_rfl) (by kernel_rfl) (fun s e => by kernel_rfl) (fun s => by kernel_rfl)
def sMade_S (F : Nat) (number : Int) (s1 : T_P) (s_lots : (List (Int × Nat))) (ar0 : (List (T_L × Nat))) (ar1 : T_1) : Option ((Int × (T_7 × ((List (Int × Nat)) × ((List (T_L × Nat)) × (T_1 × (List Int))))))) := (ob (find_S F number s1 s_lots ar0 ar1) (fun r => (bif (r.1.2 != (0 : Int)) then (some (r.1.2, ((r.2.1.1, (r.2.1.2.1, (r.2.1.2.2.1, (r.2.1.2.2.2.1, (r.2.1.2.2.2.2.1, (r.2.1.2.2.2.2.2.1, r.2.1.2.2.2.2.2.2)))))), r.2.2.1, r.2.2.2.1, r.2.2.2.2, []))) else (anyPerm (fun (π : List ((Int × Nat))) => (ob (rngM (S := sMade_L0_s) (o := sMade_L0_o) (κ := (.i .i64)) (τ := (.rf 0 0)) (sMade_L0_B F) (sMade_L0_Z F) (number, ((r.2.1.1, (r.2.1.2.1, (r.2.1.2.2.1, (r.2.1.2.2.2.1, (r.2.1.2.2.2.2.1, (r.2.1.2.2.2.2.2.1, r.2.1.2.2.2.2.2.2)))))), r.2.2.2.1, r.2.2.2.2, [])) π) (fun s3 => (ob (sort_S F s3.2.2.2) (fun r1 => (some ((0 : Int), (s3.1, r.2.2.1, s3.2.1, s3.2.2.1, r1)))))))) r.2.2.1))))
abbrev sMade_I : Sch := ⟨[(0, .c (.k (.pt 0 0 0 0))), (1, .c (.t (.int .i64)))], [.blk 77 [.k (.hv 1), .t C_P], .mp (.i .i64) false (.rf 0 0), .aro 0 83 C_E, .arm 1 (.i .i64) false .bool]⟩
abbrev sMade_O : FSch := ⟨.tu [(false, [.k (.sl 6 1)]), (false, [.t (.int .i64)])], [.blk 77 [.k (.hv 1), .t (.int .i64), .t (.int .i64), .t (.int .i64), .t (.int .i64), .t (.int .i64), .t (.int .i64), .t (.int .i64)], .mp (.i .i64) false (.rf 0 0), .dead, .dead, .aro 0 83 C_E, .arm 1 (.i .i64) false .bool, .rows 3 (.int .i64)]⟩
def sMade_E (F : Nat) : Ent := ⟨19, 2, sMade_I, sMade_O, fun s => sMade_S F s.1 s.2.1 s.2.2.1 s.2.2.2.1 s.2.2.2.2, []⟩
theorem sMade_ok (F : Nat) : FnSem Try.prog 19 2 sMade_I sMade_O (fun s => sMade_S F s.1 s.2.1 s.2.2.1 s.2.2.2.1 s.2.2.2.2) :=
  fn_ok (call := callD Try.prog 70 plans (sTrace_T F) 20) (Fu := 70) (pl := plOf plans 19) (d := 1000) (an := (.two .no (.two .no (.two .no (.two (.rng sMade_L0_s sMade_L0_o (.i .i64) false (.rf 0 0) (sMade_L0_B F) (sMade_L0_Z F)) .no))))) (callD_ok progMixed 70 plansOk (sTrace_T_ok F) 20) progMixed (by kernel_rfl) (anP_ok (c := bodyOf Try.prog 19) (p := []) (⟨trivial, ⟨trivial, ⟨trivial, ⟨(anP_rng (R := sMade_L0_R) (by kernel_rfl) (sMade_L0_ok F)), trivial⟩⟩⟩⟩)) (fun s => by kernel_rfl)
def sMade_T (F : Nat) : List Ent := sMade_E F :: sTrace_T F
theorem sMade_T_ok (F : Nat) : EntsOk Try.prog (sMade_T F) := ⟨⟨by kernel_rfl, sMade_ok F⟩, sTrace_T_ok F⟩
end
end Go.Proofs.Ythmicafabimfkaa
