/- A part of the proof of the theorem of the last file. No condition. By an AI agent. -/
import Derived.Test.YtnomnijhlbalaaaGreatDoorWXW62
import Derived.Test.YtnomnijhlbalaaaGreatDoorWOC28
set_option maxRecDepth 100000
set_option maxHeartbeats 4000000
namespace Go.Proofs.YtnomnijhlbalaaaGreatDoor
open Go.RowKit Go.Proofs
noncomputable section
def toB (b : (Int × Int) × ((Int × Int) × (Int × Int))) : Bnds := ⟨⟨b.1.1, b.1.2⟩, ⟨b.2.1.1, b.2.1.2⟩, ⟨b.2.2.1, b.2.2.2⟩⟩
def xJf (x : Int × (Int × (T_0 × Int))) : Lot := ⟨x.1, x.2.1, toB x.2.2.1, x.2.2.2⟩
def xCJ (p : (Int × Int) × T_0) (l : List (Int × (Int × (T_0 × Int)))) : Recipe := ⟨l.map xJf, ⟨p.1.1, p.1.2⟩, toB p.2⟩
def xF4 (_ : Nat) (p : (Int × Int) × T_0) (l : List (Int × (Int × (T_0 × Int)))) : Option ((Int × Int) × List Int) := bif xAR 0 l.length then some ((stC (xEa (xCJ p l)), xOP (xCJ p l)), stL (xEa (xCJ p l))) else none
abbrev best_I : Sch := ⟨[(0, .ag [.k (.sl 0 9), .t (.pair .i .i), .t C_0])], [.ro C_1]⟩
abbrev best_O : FSch := ⟨.tu [(false, [.k (.sl 1 1)]), (false, [.i]), (false, [.i])], [.dead, .rows 3 .i]⟩
def best_E (F : Nat) : Ent := ⟨18, 1, best_I, best_O, fun s => xF4 F s.1 s.2, []⟩
theorem xOJ {O : List Info} : ∀ {us vs : List Value}, DenL O (us.map CV.sc) vs -> vs = us
 | [], _, h => h
 | u :: us, vs, ⟨v, r, e, h1, h2⟩ => by rw [e, h1.1, xOJ h2]
theorem xQp : ∀ l : List (Int × (Int × (T_0 × Int))), flat C_1 l = ((l.map xJf).flatMap Lot.cells).map CV.sc
 | [] => rfl
 | x :: l => by
  have := xQp l;simp only [flat, List.flatMap_cons, List.map_cons, List.map_append] at this ⊢;rw [this]; rfl
theorem fm_get {α : Type} {f : α -> List Value} {k : Nat} (hf : ∀ x, (f x).length = k) : ∀ (l : List α) (i : Nat) (hi : i < l.length) (j : Nat) (v : Value), (f l[i])[j]? = some v -> (l.flatMap f)[i * k + j]? = some v
 | [], _, hi, _, _, _ => by simp at hi
 | x :: l, 0, _, j, v, h => by
  have hj : j < (f x).length := (List.getElem?_eq_some_iff.1 h).1;rw [List.flatMap_cons, Nat.zero_mul, Nat.zero_add, List.getElem?_append_left hj];exact h
 | x :: l, i + 1, hi, j, v, h => by
  have ih := fm_get hf l i (by simpa using hi) j v h;rw [List.flatMap_cons, List.getElem?_append_right (by rw [hf, Nat.succ_mul]; omega), hf, show (i + 1) * k + j - k = i * k + j by rw [Nat.succ_mul]; omega];exact ih
theorem xRE (xs : List Int) : xs.flatMap intCells = xs.map (Value.int .i64) := by
 induction xs with
 | nil => rfl
 | cons x xs ih => rw [List.flatMap_cons, ih]; rfl
theorem xVz (F : Nat) : FnSem Tryz.prog 18 1 best_I best_O (fun s => xF4 F s.1 s.2) := by
 intro s t hst S F' W0 Z w vs hlen hden hh hcl;obtain ⟨p, xs⟩ := s;change (Int × Int) × T_0 at p;change List (Int × (Int × (T_0 × Int))) at xs;simp only [xF4] at hst
 cases hc : xAR 0 xs.length with
 | false => rw [hc] at hst; cases hst
 | true =>
  rw [hc] at hst;cases hst;obtain ⟨v, hv, g⟩ := hden 0 (.ag (.sl 0 9 0 none none :: ([.int .i64 p.1.1, .int .i64 p.1.2, .int .i64 p.2.1.1, .int .i64 p.2.1.2, .int .i64 p.2.2.1.1, .int .i64 p.2.2.1.2, .int .i64 p.2.2.2.1, .int .i64 p.2.2.2.2].map CV.sc))) rfl;have hvs : vs = [v] := by
   match vs, hlen with
   | [a], _ => simp at g; rw [g]
  subst hvs;have hh' : HOk S F' W0 Z [.ro C_1 xs] w := hh;obtain ⟨cs, hcs, hv2⟩ := hv;obtain ⟨v0, r0, e0, hd0, hdr⟩ := hcs;have er := xOJ hdr;obtain ⟨i, a', c', nn, h1, h2, h3, h4, h5, ⟨m, h6, h7⟩, _, _, _, h10, _⟩ := hd0;have h10 := h10 rfl;obtain ⟨g0, us, g1, g2⟩ := hh'.ok 0 _ i rfl h1;rw [g0] at h6; cases h6;rw [Nat.sub_zero] at h7;subst h7;have g1' : DenL Z (((List.map xJf xs).flatMap Lot.cells).map CV.sc) us := by
   rw [<- xQp];exact g1
  have hus := xOJ g1';have hsl : SlL w a' c' (xs.map xJf) := by
   refine ⟨by rw [List.length_map]; exact h3, by unfold maxLen at h4; omega, fun h0 => ?_⟩;rw [List.length_map] at h0;obtain ⟨b, o, e1, e2, e3⟩ := g2 h0;refine ⟨b, o, by rw [h10]; exact e1, e2, fun q hq j u hu => ?_⟩;rw [Nat.add_assoc];refine e3 (q * 9 + j) u ?_;rw [hus];exact fm_get (f := Lot.cells) (k := 9) (fun x => rfl) _ q hq j u hu
  have hd : HOk S F' W0 Z [.dead] w := hh'.masked [];have hb := best_c (xCJ p xs) a' c' w hsl;have hb' : Calls Tryz.prog 18 [v].toArray w (xQU (xCJ p xs) w) := by
   rw [hv2, e0, er, h2];have := hb;simp only [xCJ, List.length_map] at this;exact this
  refine hb'.mono ?_
  rintro e w' ⟨aa, cap, he, hown, hE⟩
  generalize hL : stL (xEa (xCJ p xs)) = L at *;obtain ⟨q1, q2⟩ := hown;rw [xRE] at q1 q2;have key : ownsAt w' 3 1 aa cap L.length (L.map (Value.int .i64)) /\ L.length <= cap /\ cap <= maxLen /\ (0 < L.length -> ∃ b o, aa = some ⟨b, o, none⟩) /\ ∀ b, aa.map (·.block) = some b -> w.heap.size <= b := by
   rcases q2 with ⟨h2, h3⟩ | ⟨g, cap', cur, h2, h3, h4, h5, h6, h7, h8⟩
   ·simp only [Value.slice.injEq] at h2;obtain ⟨rfl, _, rfl⟩ := h2;refine ⟨⟨q1, by omega, by unfold maxLen; omega, .inl ⟨rfl, by simp⟩⟩, by omega, by unfold maxLen; omega, by omega, by simp⟩
   ·simp only [Value.slice.injEq] at h2;obtain ⟨rfl, _, rfl⟩ := h2;refine ⟨⟨q1, h5, h6, .inr ⟨g, 0, cur, rfl, h4, by omega, by simpa using h8⟩⟩, h5, h6, fun _ => ⟨g, 0, rfl⟩, fun b hb => ?_⟩;simp only [Option.map_some, Option.some.injEq] at hb;omega
  obtain ⟨k1, k2, k3, k4, k5⟩ := key;have hl' : Z.length = 1 := hd.len;have hg : (Z ++ [⟨aa, cap, some L.length, .nilFunc⟩])[1]? = some ⟨aa, cap, some L.length, .nilFunc⟩ := by
   rw [List.getElem?_append_right (by omega), hl']; rfl
  refine ⟨Z ++ [⟨aa, cap, some L.length, .nilFunc⟩], _, he, (Pre.app _ _).m, ⟨_, ⟨_, _, rfl, ⟨_, rfl, ⟨_, aa, cap, L.length, hg, rfl, k2, k3, k4, ⟨_, rfl, (Nat.sub_zero _).symm⟩, ⟨_, rfl, by omega⟩, (Nat.sub_zero _).symm, rfl, fun _ => rfl, fun _ => ?_⟩⟩, ⟨_, _, rfl, ⟨_, rfl, ⟨rfl, rfl⟩⟩, ⟨_, _, rfl, ⟨_, rfl, ⟨rfl, rfl⟩⟩, rfl⟩⟩⟩, rfl⟩, ?_, (by decide)⟩
  ·cases aa <;> simp [Addr.add]
  ·exact hd.add hE ⟨aa, cap, some L.length, .nilFunc⟩ (.rows 3 .i L) ⟨rfl, Nat.lt_succ_self 0, L.map (Value.int .i64), by rw [xLg]; exact xLu L, k1⟩ (fun b hb => k5 b hb)
def xNF (F : Nat) : List Ent := best_E F :: xUe F
theorem xDD (F : Nat) : xAj Tryz.prog (xNF F) := ⟨⟨by kernel_rfl, xVz F⟩, xRw F⟩
end
def sm3 (c : List Int) : Prop := ∀ x ∈ c, 0 <= x /\ x <= 1000
theorem xVd (p : Recipe) (ones : List Mar) (hp : ∀ k, (nth p.lots .zero k).count <= 1000) : ∀ (r : Nat) (c : List Int) (m : Mar), sm3 c -> ∀ x ∈ xA2 p ones r c m, sm3 x.1 /\ x.1.length = c.length + r
 | 0, c, m, h, x, hx => by
  simp only [xA2, List.mem_singleton] at hx;subst hx;exact ⟨h, rfl⟩
 | r + 1, c, m, h, x, hx => by
  simp only [xA2, List.mem_flatMap, List.mem_range] at hx;obtain ⟨j, hj, hx⟩ := hx;have := hp c.length;obtain ⟨h1, h2⟩ := xVd p ones hp r _ _ (fun y hy => by
   rcases List.mem_append.1 hy with hy | hy
   ·exact h y hy
   ·rw [List.mem_singleton] at hy; subst hy; omega) x hx
  exact ⟨h1, by rw [h2]; simp; omega⟩
theorem xRS (lots : List Lot) (l : List (List Int × Mar)) : ∀ s, xA5 lots l = some s -> ∃ x ∈ l, s = (x.1, xGF lots x.1) := by
 suffices H : ∀ (l : List (List Int × Mar)) (st : Option (List Int × Int)) s, l.foldl (xAT lots) st = some s -> st = some s \/ ∃ x ∈ l, s = (x.1, xGF lots x.1) by
  intro s hs;rcases H l none s hs with h | h
  ·cases h
  ·exact h
 intro l
 induction l with
 | nil => intro st s h; exact .inl h
 | cons x l ih =>
  intro st s h;rcases ih (xAT lots st x) s h with h1 | ⟨y, hy, e⟩
  ·cases st with
   | none =>
    simp only [xAT] at h1;split at h1
    ·cases h1; exact .inr ⟨x, by simp, rfl⟩
    ·cases h1
   | some t =>
    simp only [xAT] at h1;split at h1
    ·split at h1
     ·cases h1; exact .inr ⟨x, by simp, rfl⟩
     ·exact .inl h1
    ·exact .inl h1
  ·exact .inr ⟨y, by simp [hy], e⟩
theorem wr64 (n : Int) (h : -9223372036854775808 <= n /\ n <= 9223372036854775807) : wrap64 n = n := by unfold wrap64; omega
theorem xU3 (lots : List Lot) (c : List Int) (hc : sm3 c) (hl : ∀ k, 0 <= (nth lots .zero k).cost /\ (nth lots .zero k).cost <= 1000000) : ∀ k : Nat, k <= 1000 -> 0 <= xG5 lots c k /\ xG5 lots c k <= (k : Int) * 1000000000
 | 0, _ => by simp [xG5]
 | k + 1, hk => by
  have ih := xU3 lots c hc hl k (by omega);have h1 : 0 <= nth c 0 k /\ nth c 0 k <= 1000 := by
   by_cases h : k < c.length
   ·have : nth c 0 k = c[k] := by simp [nth, h]
    rw [this]; exact hc _ (List.getElem_mem _)
   ·have : nth c 0 k = 0 := by simp [nth, List.getElem?_eq_none (Nat.le_of_not_lt h)]
    rw [this]; omega
  have h2 := hl k;have h3 : 0 <= nth c 0 k * (nth lots .zero k).cost := Int.mul_nonneg h1.1 h2.1;have h4 : nth c 0 k * (nth lots .zero k).cost <= 1000 * 1000000 := Int.mul_le_mul h1.2 h2.2 h2.1 (by decide);unfold xG5;rw [wr64 (nth c 0 k * _) (by omega), wr64 _ (by omega)];omega
abbrev LotT := Int × (Int × (T_0 × Int))
theorem best_bd (F : Nat) (p : (Int × Int) × T_0) (l : List LotT) (hl : l.length <= 3) (hb : ∀ x ∈ l, x.1 <= 1000 /\ 0 <= x.2.2.2 /\ x.2.2.2 <= 1000000) :
  ∃ co e c, xF4 F p l = some ((co, e), c) /\ sm3 c /\ c.length <= 3 /\ 0 <= co /\ co <= 10000000000 := by
 refine ⟨stC (xEa (xCJ p l)), xOP (xCJ p l), stL (xEa (xCJ p l)), ?_, ?_⟩
 ·unfold xF4;rw [show xAR 0 l.length = true by simp [xAR]; omega];rfl
 ·have hlots : ∀ k, (nth (xCJ p l).lots .zero k).count <= 1000 /\ 0 <= (nth (xCJ p l).lots .zero k).cost /\ (nth (xCJ p l).lots .zero k).cost <= 1000000 := by
   intro k;show (nth (l.map xJf) .zero k).count <= 1000 /\ 0 <= (nth (l.map xJf) .zero k).cost /\ (nth (l.map xJf) .zero k).cost <= 1000000;by_cases h : k < l.length
   ·have : nth (l.map xJf) .zero k = xJf l[k] := by simp [nth, h]
    rw [this];exact hb _ (List.getElem_mem _)
   ·have : nth (l.map xJf) .zero k = .zero := by simp [nth, List.getElem?_eq_none (Nat.le_of_not_lt h)]
    rw [this];exact ⟨by decide, by decide, by decide⟩
  have key : ∀ st : Option (List Int × Int), (st = none \/ ∃ s, st = some s /\ sm3 s.1 /\ s.1.length <= 3 /\ 0 <= s.2 /\ s.2 <= 10000000000) -> sm3 (stL st) /\ (stL st).length <= 3 /\ 0 <= stC st /\ stC st <= 10000000000 := by
   rintro st (rfl | ⟨s, rfl, h⟩)
   ·exact ⟨fun x hx => by simp [stL] at hx, by simp [stL], by decide, by decide⟩
   ·exact h
  apply key;unfold xEa;split
  ·split
   ·exact .inl rfl
   ·cases hs : xA5 (xCJ p l).lots (xCb (xCJ p l)) with
    | none => exact .inl rfl
    | some s =>
     right;obtain ⟨x, hx, rfl⟩ := xRS _ _ s hs;have hx' : x ∈ xA2 (xCJ p l) (xBG (xCJ p l)) (xCJ p l).lots.length [] (xDh (xCJ p l)) := hx;obtain ⟨h1, h2⟩ := xVd (xCJ p l) _ (fun k => (hlots k).1) _ [] _ (fun y hy => by simp at hy) x hx';have hlen : (xCJ p l).lots.length = l.length := by simp [xCJ]
     have h3 : x.1.length <= 3 := by rw [h2, hlen]; simp; omega
     have h4 := xU3 (xCJ p l).lots x.1 h1 (fun k => (hlots k).2) x.1.length (by omega);refine ⟨_, rfl, h1, h3, h4.1, ?_⟩;show xG5 _ _ _ <= _;omega
  ·exact .inl rfl
noncomputable section
abbrev bestW_n : Nat := 2
def xD4 (F : Nat) (t29 : Int) (g3 : (List (ByteArray × Nat))) (g4 : (List (ByteArray × Nat))) (g5 : T_5) (g6 : (List Int)) (g7 : (List (Int × Int))) (g8 : (List T_0)) (g9 : (List (Int × Int))) (g10 : (List ByteArray)) (ar21 : T_3) (ar31 : T_7) (ar41 : T_6) (p : (Int × T_1)) (t28 : (List Int)) : Nat -> Int -> T_1 -> (List (Int × Nat)) -> T_2 -> T_4 -> T_8 -> Option (((ByteArray × Int) × (T_1 × ((List (Int × Nat)) × ((List (ByteArray × Nat)) × ((List (ByteArray × Nat)) × (T_5 × ((List Int) × ((List (Int × Int)) × ((List T_0) × ((List (Int × Int)) × ((List ByteArray) × (T_3 × (T_7 × (T_6 × (T_2 × T_4))))))))))))))) ⊕ (T_1 × ((List (Int × Nat)) × ((List (ByteArray × Nat)) × ((List (ByteArray × Nat)) × (T_5 × ((List Int) × ((List (Int × Int)) × ((List T_0) × ((List (Int × Int)) × ((List ByteArray) × (T_2 × (T_4 × (T_3 × (T_7 × (T_6 × ((Int × T_1) × T_8)))))))))))))))))
 | 0, _, _, _, _, _, _ => none
 | n_ + 1, t30, g1, g2, ar01, ar11, g22 => (bif (decide (t30 < t29)) then (bif (inB t30 (t28.length - 0)) then (ob (xFA F (nth t28 0 t30.toNat) (u7 g1) g2 ar01 ar11) (fun r1 => (bif (r1.1.2 != 0) then (some (.inl ((B_1, r1.1.2), ((r1.2.1.1, (r1.2.1.2.1, (r1.2.1.2.2.1, (r1.2.1.2.2.2.1, (r1.2.1.t4))))), r1.2.2.1, g3, g4, g5, g6, g7, g8, g9, g10, ar21, ar31, ar41, r1.2.2.2)))) else (bif (xAR (g22.length - 0) (r1.1.1 :: []).length) then (xD4 F t29 g3 g4 g5 g6 g7 g8 g9 g10 ar21 ar31 ar41 p t28 n_ (jI.wrap (t30 + 1)) (r1.2.1.1, (r1.2.1.2.1, (r1.2.1.2.2.1, (r1.2.1.2.2.2.1, (r1.2.1.t4))))) r1.2.2.1 r1.2.2.2.1 r1.t4 (g22 ++ (r1.1.1 :: []))) else none)))) else none) else (some (.inr (g1, g2, g3, g4, g5, g6, g7, g8, g9, g10, ar01, ar11, ar21, ar31, ar41, p, g22))))
abbrev xKf : Sch := ⟨[(0, .c (.k (.pt 0 0 0 0))), (6, .c (.k (.pt 21 0 0 0))), (28, .c (.k (.sl 22 1))), (29, .c .i), (30, .c .i)], [K_0, K_6, K_3, K_4, K_4, K_7, .ro .i, K_5, .ro C_0, K_5, .ro .str, .dead, .dead, .dead, .dead, .dead, K_1, K_2, xCz, xCy, xCA, .blk 32 [.k (.sl 23 9), .i, .i, .i, .i, .i, .i, .i, .i], .rows 3 .i, .rows 40 C_1]⟩
abbrev xKg : xBY := [(.ret, ⟨[(4, .c (.t .str)), (5, .c .i)], [K_0, K_6, K_3, K_4, K_4, K_7, .ro .i, K_5, .ro C_0, K_5, .ro .str, .dead, .dead, .dead, .dead, .dead, xCz, xCy, xCA, K_1, K_2]⟩), ((.exit 0), ⟨[(6, .c (.k (.pt 21 0 0 0)))], [K_0, K_6, K_3, K_4, K_4, K_7, .ro .i, K_5, .ro C_0, K_5, .ro .str, .dead, .dead, .dead, .dead, .dead, K_1, K_2, xCz, xCy, xCA, .blk 32 [.k (.sl 22 9), .i, .i, .i, .i, .i, .i, .i, .i], .rows 40 C_1]⟩)]
theorem xON (F : Nat) : ∀ n, xAS Tryz.prog 16 (xAv Tryz.prog 70 bestW_n) (xAt (xAi Tryz.prog 70) [1, 1, 0, 1, 0, 0]) xKf xKg (fun s => (xD4 F s.1.1 s.2.2.2.1 s.t4.1 s.t5.1 s.t6.1 s.t7.1 s.t8.1 s.t9.1 s.t9.2.1 s.t9.t4.1 s.t9.t5.1 s.t9.t6.1 s.t9.t7.1 s.t9.t8.1 n s.1.2 s.2.1 s.2.2.1 s.t9.2.2.1 s.t9.2.2.2.1 s.t9.t9)) :=
 lK (an := .no) (xDD F) (trivial)
def xI0 (F : Nat) (ws : (Int × T_0)) (wl : (List (Int × Nat))) (wi : (List (ByteArray × Nat))) (ww : (List (ByteArray × Nat))) (x : (((Int × Int) × ((Int × Int) × ((Int × Int) × T_0))) × ByteArray)) (xn : (List Int)) (xr : (List (Int × Int))) (xb : (List T_0)) (xp : (List (Int × Int))) (xm : (List ByteArray)) (ar0 : T_2) (ar1 : T_4) (ar2 : T_3) (ar3 : T_7) (ar4 : T_6) : Option (((ByteArray × Int) × (T_1 × ((List (Int × Nat)) × ((List (ByteArray × Nat)) × ((List (ByteArray × Nat)) × (T_5 × (T_3 × (T_7 × (T_6 × (T_2 × T_4))))))))))) := (bif (inB 0 (xr.length - 0)) then (bif (inB 0 (xb.length - 0)) then (ob (xDb F x xn xr xb xp xm) (fun r => (ob (xD4 F ((r.2.length - 0) : Int) wi ww (r.1.1, (r.1.2.1, (r.1.2.2.1, (r.1.2.2.2.1, (r.1.t4.1, (r.1.t5.1, (r.1.t6.1, (r.1.t7.1, (r.1.t8.1, (r.1.t9.1, (r.1.t9.2))))))))))) xn xr xb xp xm ar2 ar3 ar4 ((nth xr D_1 0).1, ((nth xr D_1 0).2, ((nth xb (TC.dflt C_0) 0).1.1, ((nth xb (TC.dflt C_0) 0).1.2, ((nth xb (TC.dflt C_0) 0).2.1.1, ((nth xb (TC.dflt C_0) 0).2.1.2, (nth xb (TC.dflt C_0) 0).2.2)))))) r.2 F 0 (f7 ws) wl ar0 ar1 []) (fun o_ => su o_ (fun s1 => (some (s1.1, (s1.2.1, s1.2.2.1, s1.2.2.2.1, s1.t4.1, s1.t5.1, s1.t9.2.2)))) (fun s2 => (ob (xF4 F ((s2.t9.t6.1.1, s2.t9.t6.1.2.1), ((s2.t9.t6.1.2.2.1, s2.t9.t6.1.2.2.2.1), ((s2.t9.t6.1.t4.1, s2.t9.t6.1.t5.1), s2.t9.t6.1.t6))) s2.t9.t7) (fun r2 => (ob (xGr F r2.2) (fun r3 => (bif (decide ((r3.size + 1) <= 1000000)) then (ob (xBT F r2.1.1) (fun r4 => (bif (decide (((r3 ++ B_0).size + r4.size) <= 1000000)) then (some ((((r3 ++ B_0) ++ r4), r2.1.2), (s2.1, s2.2.1, s2.2.2.1, s2.2.2.2.1, s2.t4.1, s2.t9.2.2.2.1, s2.t9.t4.1, s2.t9.t5.1, s2.t9.2.1, s2.t9.2.2.1))) else none))) else none)))))))))) else none) else none)
abbrev xVD : Sch := ⟨[(0, .c (.k (.pt 0 0 0 0))), (1, .c (.k (.pt 5 0 0 0)))], [K_0, K_19, K_3, K_4, K_4, .blk 137 [.k (.sl 6 1), .k (.sl 7 2), .k (.sl 8 6), .t (.pair (.pair .i .i) (.pair (.pair .i .i) (.pair (.pair .i .i) C_0))), .k (.sl 9 2), .k (.sl 10 1), .t .str], .ro .i, K_5, .ro C_0, K_5, .ro .str, K_1, K_2, xCz, xCy, xCA]⟩
abbrev xVC : FSch := ⟨.tu [(false, [.t .str]), (false, [.i])], [K_0, K_6, K_3, K_4, K_4, K_7, .dead, .dead, .dead, .dead, .dead, .dead, .dead, .dead, .dead, .dead, xCz, xCy, xCA, K_1, K_2]⟩
def bestW_E (F : Nat) : Ent := ⟨70, 2, xVD, xVC, fun s => xI0 F s.1 s.2.1 s.2.2.1 s.2.2.2.1 s.t4.1 s.t5.1 s.t6.1 s.t7.1 s.t8.1 s.t9.1 s.t9.2.1 s.t9.2.2.1 s.t9.2.2.2.1 s.t9.t4.1 s.t9.t5, []⟩
theorem xXM (F : Nat) : FnSem Tryz.prog 70 2 xVD xVC (fun s => xI0 F s.1 s.2.1 s.2.2.1 s.2.2.2.1 s.t4.1 s.t5.1 s.t6.1 s.t7.1 s.t8.1 s.t9.1 s.t9.2.1 s.t9.2.2.1 s.t9.2.2.2.1 s.t9.t4.1 s.t9.t5) :=
 fK (an := (.two .no (.two .no (.two (.two .no (.one (.loop xKf xKg (fun s => (xD4 F s.1.1 s.2.2.2.1 s.t4.1 s.t5.1 s.t6.1 s.t7.1 s.t8.1 s.t9.1 s.t9.2.1 s.t9.t4.1 s.t9.t5.1 s.t9.t6.1 s.t9.t7.1 s.t9.t8.1 F s.1.2 s.2.1 s.2.2.1 s.t9.2.2.1 s.t9.2.2.2.1 s.t9.t9))))) .no)))) (xDD F) (⟨trivial, ⟨trivial, ⟨⟨trivial, (xON F F)⟩, trivial⟩⟩⟩)
def xVB (F : Nat) : List Ent := bestW_E F :: xNF F
theorem xRR (F : Nat) : xAj Tryz.prog (xVB F) := ⟨⟨by kernel_rfl, xXM F⟩, xDD F⟩
end
section
open Go.Shelf
noncomputable section
def xC3 (_ : Nat) (s : ByteArray) : Option (ByteArray × (ByteArray × (ByteArray × (ByteArray × ByteArray)))) := bif decide (s.size <= 1000000) then (match Lib.splitB ⟨#[32]⟩ 0 (Lib.countB s ⟨#[32]⟩) s with
 | [w0, w1, w2, w3, w4, w5] => bif (w0.data.toList == [114, 101, 116, 117, 114, 110]) then some (w1, (w2, (w3, (w4, w5)))) else none
 | _ => none) else none
abbrev xPn : Sch := ⟨[(0, .c (.t .str)), (1, .c (.k (.lit (.string ⟨#[32]⟩))))], []⟩
abbrev xPm : FSch := ⟨.one (.c (.k (.sf 0 1 6))), [.blk 9 [.k (.lit (.string ⟨#[114, 101, 116, 117, 114, 110]⟩)), .t .str, .t .str, .t .str, .t .str, .t .str]]⟩
def xWv (F : Nat) : Ent := ⟨34, 2, xPn, xPm, fun s => xC3 F s, []⟩
theorem xSL (F : Nat) : FnSem Tryz.prog 34 2 xPn xPm (fun s => xC3 F s) := by
 intro x t hst S F' W0 Z w vs hlen hden hh hcl;change ByteArray at x;obtain ⟨v0, h0, g0⟩ := hden 0 (.c (.sc (.string x))) rfl;obtain ⟨v1, h1, g1⟩ := hden 1 (.c (.sc (.string ⟨#[32]⟩))) rfl;have e0 : v0 = .string x := h0.1;have e1 : v1 = .string ⟨#[32]⟩ := h1.1;subst e0; subst e1;have hvs : vs = [.string x, .string ⟨#[32]⟩] := by
  match vs, hlen with
  | [a, b], _ => simp at g0 g1; rw [g0, g1]
 subst hvs;simp only [xC3] at hst
 cases hc : decide (x.size <= 1000000) with
 | false => rw [hc] at hst; cases hst
 | true =>
  rw [hc, cond_true] at hst;simp only [decide_eq_true_eq] at hc;obtain ⟨m, hm⟩ := hh.layW.2.1;split at hst
  ·rename_i w0 w1 w2 w3 w4 w5 hs;refine (Any.strings_Split Tryz.lays146 (by kernel_rfl) x ⟨#[32]⟩ m w (by omega) hm (by decide)).mono ?_
   rintro e w' ⟨rfl, rfl⟩
   have hn : Lib.countB x ⟨#[32]⟩ + 1 = 6 := by
    have := Lib.splitB_all ⟨#[32]⟩ (by decide) 0 _ x rfl;rw [hs] at this;exact this.symm
   rw [hs, hn]
   cases hq : ((w0.data.toList == [114, 101, 116, 117, 114, 110])) with
   | false => rw [hq] at hst; cases hst
   | true =>
    rw [hq, cond_true] at hst;have ht := Option.some.inj hst;subst ht;simp only [Bool.and_eq_true, beq_iff_eq] at hq;obtain rfl := xLD hq;exact xB0 hh (l := [.sc (.string ⟨#[114, 101, 116, 117, 114, 110]⟩), .sc (.string w1), .sc (.string w2), .sc (.string w3), .sc (.string w4), .sc (.string w5)]) (vs := [.string ⟨#[114, 101, 116, 117, 114, 110]⟩, .string w1, .string w2, .string w3, .string w4, .string w5]) (fun O => ⟨_, _, rfl, ⟨rfl, rfl⟩, _, _, rfl, ⟨rfl, rfl⟩, _, _, rfl, ⟨rfl, rfl⟩, _, _, rfl, ⟨rfl, rfl⟩, _, _, rfl, ⟨rfl, rfl⟩, _, _, rfl, ⟨rfl, rfl⟩, rfl⟩) rfl (by simp) (by simp)
  ·cases hst
def xCh (_ : Nat) (s : ByteArray) : Option ByteArray := bif decide (s.size <= 1000000) then (match Lib.splitB ⟨#[32]⟩ 0 (Lib.countB s ⟨#[32]⟩) s with
 | [w0, w1] => bif (w0.data.toList == [108, 101, 102, 116]) then some w1 else none
 | _ => none) else none
abbrev xL7 : Sch := ⟨[(0, .c (.t .str)), (1, .c (.k (.lit (.string ⟨#[32]⟩))))], []⟩
abbrev xL5 : FSch := ⟨.one (.c (.k (.sf 0 1 2))), [.blk 9 [.k (.lit (.string ⟨#[108, 101, 102, 116]⟩)), .t .str]]⟩
def xSN (F : Nat) : Ent := ⟨34, 2, xL7, xL5, fun s => xCh F s, []⟩
theorem xQ9 (F : Nat) : FnSem Tryz.prog 34 2 xL7 xL5 (fun s => xCh F s) := by
 intro x t hst S F' W0 Z w vs hlen hden hh hcl;change ByteArray at x;obtain ⟨v0, h0, g0⟩ := hden 0 (.c (.sc (.string x))) rfl;obtain ⟨v1, h1, g1⟩ := hden 1 (.c (.sc (.string ⟨#[32]⟩))) rfl;have e0 : v0 = .string x := h0.1;have e1 : v1 = .string ⟨#[32]⟩ := h1.1;subst e0; subst e1;have hvs : vs = [.string x, .string ⟨#[32]⟩] := by
  match vs, hlen with
  | [a, b], _ => simp at g0 g1; rw [g0, g1]
 subst hvs;simp only [xCh] at hst
 cases hc : decide (x.size <= 1000000) with
 | false => rw [hc] at hst; cases hst
 | true =>
  rw [hc, cond_true] at hst;simp only [decide_eq_true_eq] at hc;obtain ⟨m, hm⟩ := hh.layW.2.1;split at hst
  ·rename_i w0 w1 hs;refine (Any.strings_Split Tryz.lays146 (by kernel_rfl) x ⟨#[32]⟩ m w (by omega) hm (by decide)).mono ?_
   rintro e w' ⟨rfl, rfl⟩
   have hn : Lib.countB x ⟨#[32]⟩ + 1 = 2 := by
    have := Lib.splitB_all ⟨#[32]⟩ (by decide) 0 _ x rfl;rw [hs] at this;exact this.symm
   rw [hs, hn]
   cases hq : ((w0.data.toList == [108, 101, 102, 116])) with
   | false => rw [hq] at hst; cases hst
   | true =>
    rw [hq, cond_true] at hst;have ht := Option.some.inj hst;subst ht;simp only [Bool.and_eq_true, beq_iff_eq] at hq;obtain rfl := xLD hq;exact xB0 hh (l := [.sc (.string ⟨#[108, 101, 102, 116]⟩), .sc (.string w1)]) (vs := [.string ⟨#[108, 101, 102, 116]⟩, .string w1]) (fun O => ⟨_, _, rfl, ⟨rfl, rfl⟩, _, _, rfl, ⟨rfl, rfl⟩, rfl⟩) rfl (by simp) (by simp)
  ·cases hst
def xC2 (_ : Nat) (s : ByteArray) : Option ByteArray := bif decide (s.size <= 1000000) then (match Lib.splitB ⟨#[32]⟩ 0 (Lib.countB s ⟨#[32]⟩) s with
 | [w0, w1] => bif (w0.data.toList == [116, 114, 97, 99, 101]) then some w1 else none
 | _ => none) else none
abbrev xPl : Sch := ⟨[(0, .c (.t .str)), (1, .c (.k (.lit (.string ⟨#[32]⟩))))], []⟩
abbrev xPk : FSch := ⟨.one (.c (.k (.sf 0 1 2))), [.blk 9 [.k (.lit (.string ⟨#[116, 114, 97, 99, 101]⟩)), .t .str]]⟩
def xWu (F : Nat) : Ent := ⟨34, 2, xPl, xPk, fun s => xC2 F s, []⟩
theorem xSK (F : Nat) : FnSem Tryz.prog 34 2 xPl xPk (fun s => xC2 F s) := by
 intro x t hst S F' W0 Z w vs hlen hden hh hcl;change ByteArray at x;obtain ⟨v0, h0, g0⟩ := hden 0 (.c (.sc (.string x))) rfl;obtain ⟨v1, h1, g1⟩ := hden 1 (.c (.sc (.string ⟨#[32]⟩))) rfl;have e0 : v0 = .string x := h0.1;have e1 : v1 = .string ⟨#[32]⟩ := h1.1;subst e0; subst e1;have hvs : vs = [.string x, .string ⟨#[32]⟩] := by
  match vs, hlen with
  | [a, b], _ => simp at g0 g1; rw [g0, g1]
 subst hvs;simp only [xC2] at hst
 cases hc : decide (x.size <= 1000000) with
 | false => rw [hc] at hst; cases hst
 | true =>
  rw [hc, cond_true] at hst;simp only [decide_eq_true_eq] at hc;obtain ⟨m, hm⟩ := hh.layW.2.1;split at hst
  ·rename_i w0 w1 hs;refine (Any.strings_Split Tryz.lays146 (by kernel_rfl) x ⟨#[32]⟩ m w (by omega) hm (by decide)).mono ?_
   rintro e w' ⟨rfl, rfl⟩
   have hn : Lib.countB x ⟨#[32]⟩ + 1 = 2 := by
    have := Lib.splitB_all ⟨#[32]⟩ (by decide) 0 _ x rfl;rw [hs] at this;exact this.symm
   rw [hs, hn]
   cases hq : ((w0.data.toList == [116, 114, 97, 99, 101])) with
   | false => rw [hq] at hst; cases hst
   | true =>
    rw [hq, cond_true] at hst;have ht := Option.some.inj hst;subst ht;simp only [Bool.and_eq_true, beq_iff_eq] at hq;obtain rfl := xLD hq;exact xB0 hh (l := [.sc (.string ⟨#[116, 114, 97, 99, 101]⟩), .sc (.string w1)]) (vs := [.string ⟨#[116, 114, 97, 99, 101]⟩, .string w1]) (fun O => ⟨_, _, rfl, ⟨rfl, rfl⟩, _, _, rfl, ⟨rfl, rfl⟩, rfl⟩) rfl (by simp) (by simp)
  ·cases hst
def xCi (_ : Nat) (s : ByteArray) : Option (ByteArray × (ByteArray × ByteArray)) := bif decide (s.size <= 1000000) then (match Lib.splitB ⟨#[32]⟩ 0 (Lib.countB s ⟨#[32]⟩) s with
 | [w0, w1, w2, w3] => bif (w0.data.toList == [98, 101, 115, 116]) then some (w1, (w2, w3)) else none
 | _ => none) else none
abbrev xMa : Sch := ⟨[(0, .c (.t .str)), (1, .c (.k (.lit (.string ⟨#[32]⟩))))], []⟩
abbrev xL9 : FSch := ⟨.one (.c (.k (.sf 0 1 4))), [.blk 9 [.k (.lit (.string ⟨#[98, 101, 115, 116]⟩)), .t .str, .t .str, .t .str]]⟩
def xSO (F : Nat) : Ent := ⟨34, 2, xMa, xL9, fun s => xCi F s, []⟩
theorem xRa (F : Nat) : FnSem Tryz.prog 34 2 xMa xL9 (fun s => xCi F s) := by
 intro x t hst S F' W0 Z w vs hlen hden hh hcl;change ByteArray at x;obtain ⟨v0, h0, g0⟩ := hden 0 (.c (.sc (.string x))) rfl;obtain ⟨v1, h1, g1⟩ := hden 1 (.c (.sc (.string ⟨#[32]⟩))) rfl;have e0 : v0 = .string x := h0.1;have e1 : v1 = .string ⟨#[32]⟩ := h1.1;subst e0; subst e1;have hvs : vs = [.string x, .string ⟨#[32]⟩] := by
  match vs, hlen with
  | [a, b], _ => simp at g0 g1; rw [g0, g1]
 subst hvs;simp only [xCi] at hst
 cases hc : decide (x.size <= 1000000) with
 | false => rw [hc] at hst; cases hst
 | true =>
  rw [hc, cond_true] at hst;simp only [decide_eq_true_eq] at hc;obtain ⟨m, hm⟩ := hh.layW.2.1;split at hst
  ·rename_i w0 w1 w2 w3 hs;refine (Any.strings_Split Tryz.lays146 (by kernel_rfl) x ⟨#[32]⟩ m w (by omega) hm (by decide)).mono ?_
   rintro e w' ⟨rfl, rfl⟩
   have hn : Lib.countB x ⟨#[32]⟩ + 1 = 4 := by
    have := Lib.splitB_all ⟨#[32]⟩ (by decide) 0 _ x rfl;rw [hs] at this;exact this.symm
   rw [hs, hn]
   cases hq : ((w0.data.toList == [98, 101, 115, 116])) with
   | false => rw [hq] at hst; cases hst
   | true =>
    rw [hq, cond_true] at hst;have ht := Option.some.inj hst;subst ht;simp only [Bool.and_eq_true, beq_iff_eq] at hq;obtain rfl := xLD hq;exact xB0 hh (l := [.sc (.string ⟨#[98, 101, 115, 116]⟩), .sc (.string w1), .sc (.string w2), .sc (.string w3)]) (vs := [.string ⟨#[98, 101, 115, 116]⟩, .string w1, .string w2, .string w3]) (fun O => ⟨_, _, rfl, ⟨rfl, rfl⟩, _, _, rfl, ⟨rfl, rfl⟩, _, _, rfl, ⟨rfl, rfl⟩, _, _, rfl, ⟨rfl, rfl⟩, rfl⟩) rfl (by simp) (by simp)
  ·cases hst
end
end
noncomputable section
def ret0_T (F : Nat) : List Ent := xWv F :: xNF F
theorem xTc (F : Nat) : xAj Tryz.prog (ret0_T F) := ⟨⟨by kernel_rfl, xSL F⟩, xDD F⟩
def lef0_T (F : Nat) : List Ent := xSN F :: xNF F
theorem xUm (F : Nat) : xAj Tryz.prog (lef0_T F) := ⟨⟨by kernel_rfl, xQ9 F⟩, xDD F⟩
def trc0_T (F : Nat) : List Ent := xWu F :: xNF F
theorem xSg (F : Nat) : xAj Tryz.prog (trc0_T F) := ⟨⟨by kernel_rfl, xSK F⟩, xDD F⟩
def bes0_T (F : Nat) : List Ent := xSO F :: xVB F
theorem xVE (F : Nat) : xAj Tryz.prog (bes0_T F) := ⟨⟨by kernel_rfl, xRa F⟩, xRR F⟩
end
noncomputable section
def xCV (F : Nat) (s1 : ByteArray) (ws : (Int × T_0)) (wl : (List (Int × Nat))) (wi : (List (ByteArray × Nat))) (ww : (List (ByteArray × Nat))) (ar0 : T_2) (ar1 : T_4) (ar2 : T_3) (ar3 : T_7) (ar4 : T_6) : Option (((ByteArray × Int) × (T_1 × ((List (Int × Nat)) × ((List (ByteArray × Nat)) × ((List (ByteArray × Nat)) × (T_2 × (T_4 × (T_3 × (T_7 × T_6)))))))))) := (bif (decide ((s1.size : Int) > 2000)) then (some ((B_1, (5 : Int)), ((f7 ws), wl, wi, ww, ar0, ar1, ar2, ar3, ar4))) else (ob (xC3 F s1) (fun r => (ob (xAw F r.1) (fun r1 => (bif (!r1.2) then (some ((B_1, (4 : Int)), ((f7 ws), wl, wi, ww, ar0, ar1, ar2, ar3, ar4))) else (ob (xAw F r.2.1) (fun r2 => (bif (!r2.2) then (some ((B_1, (4 : Int)), ((f7 ws), wl, wi, ww, ar0, ar1, ar2, ar3, ar4))) else (ob (xBZ F r.2.2.1 (ByteArray.mk (Array.mk (47 :: [])))) (fun r3 => (bif (((r3.length - 0) : Int) != 3) then (some ((B_1, (4 : Int)), ((f7 ws), wl, wi, ww, ar0, ar1, ar2, ar3, ar4))) else (bif (inB 0 (r3.length - 0)) then (ob (xAV F (nth r3 (TC.dflt .str) 0)) (fun r4 => (bif (!r4.2) then (some ((B_1, (4 : Int)), ((f7 ws), wl, wi, ww, ar0, ar1, ar2, ar3, ar4))) else (bif (inB 1 (r3.length - 0)) then (ob (xAV F (nth r3 (TC.dflt .str) 1)) (fun r5 => (bif (!r5.2) then (some ((B_1, (4 : Int)), ((f7 ws), wl, wi, ww, ar0, ar1, ar2, ar3, ar4))) else (bif (inB 2 (r3.length - 0)) then (ob (xAV F (nth r3 (TC.dflt .str) 2)) (fun r6 => (bif (!r6.2) then (some ((B_1, (4 : Int)), ((f7 ws), wl, wi, ww, ar0, ar1, ar2, ar3, ar4))) else (ob (xAw F r.2.2.2.1) (fun r7 => (bif (!r7.2) then (some ((B_1, (4 : Int)), ((f7 ws), wl, wi, ww, ar0, ar1, ar2, ar3, ar4))) else (ob (xGq F r.t4 ((((0 : Int), (0 : Int)), (((0 : Int), (0 : Int)), (((0 : Int), (0 : Int)), (((0 : Int), (0 : Int)), (((0 : Int), (0 : Int)), ((0 : Int), (0 : Int))))))), B_1) (((r1.1 :: []) ++ (r2.1 :: [])) ++ (r7.1 :: [])) [] ((r4.1, (r5.1, r6.1)) :: []) [] []) (fun r8 => (bif (!r8.1) then (some ((B_1, (4 : Int)), ((f7 ws), wl, wi, ww, ar0, ar1, ar2, ar3, ar4))) else (bif (Nat.ble 1 (r8.2.2.length - 0)) then (ob (xDb F (((r8.2.1.1, r8.2.1.2.1), ((r8.2.1.2.2.1, r8.2.1.2.2.2.1), ((r8.2.1.t4.1, r8.2.1.t5.1), ((r8.2.1.t6.1, r8.2.1.t7.1), ((r8.2.1.t8.1, r8.2.1.t9.1), (r8.2.1.t9.2.1, r8.2.1.t9.2.2.1)))))), r8.2.1.t9.2.2.2) (((r1.1 :: []) ++ (r2.1 :: [])) ++ (r7.1 :: [])) [] ((r4.1, (r5.1, r6.1)) :: []) r8.2.2 []) (fun r9 => (ob (xCj F ((nth (((r1.1 :: []) ++ (r2.1 :: [])) ++ (r7.1 :: [])) 0 0), ((nth (((r1.1 :: []) ++ (r2.1 :: [])) ++ (r7.1 :: [])) 0 1), ((r4.1, (r5.1, r6.1)), (nth (((r1.1 :: []) ++ (r2.1 :: [])) ++ (r7.1 :: [])) 0 2)))) ws wl r9.2 ar0 ar1) (fun r10 => (ob (xBT F r10.1.1) (fun r11 => (bif (r10.1.2 != 0) then (some ((B_1, r10.1.2), ((r10.2.1.1, (r10.2.1.2.1, (r10.2.1.2.2.1, (r10.2.1.2.2.2.1, (r10.2.1.t4))))), r10.2.2.1, wi, ww, r10.2.2.2.1, r10.t4, ar2, ar3, ar4))) else (some ((r11, (0 : Int)), ((r10.2.1.1, (r10.2.1.2.1, (r10.2.1.2.2.1, (r10.2.1.2.2.2.1, (r10.2.1.t4))))), r10.2.2.1, wi, ww, r10.2.2.2.1, r10.t4, ar2, ar3, ar4)))))))))) else none)))))))))) else none)))) else none)))) else none)))))))))))))
abbrev xMT : Sch := H_0
abbrev xMS : FSch := ⟨.tu [(false, [.t .str]), (false, [.i])], [K_0, K_6, K_3, K_4, K_4, .dead, .dead, .dead, .dead, .dead, K_1, K_2, xCz, xCy, xCA]⟩
def xFQ (F : Nat) : Ent := ⟨13, 2, xMT, xMS, fun s => xCV F s.1 s.2.1 s.2.2.1 s.2.2.2.1 s.t4.1 s.t5.1 s.t6.1 s.t7.1 s.t8.1 s.t9, []⟩
theorem xRy (F : Nat) : FnSem Tryz.prog 13 2 xMT xMS (fun s => xCV F s.1 s.2.1 s.2.2.1 s.2.2.2.1 s.t4.1 s.t5.1 s.t6.1 s.t7.1 s.t8.1 s.t9) :=
 fK (an := .no) (xTc F) (trivial)
end
noncomputable section
def xB4 (F : Nat) (s1 : ByteArray) (ws : (Int × T_0)) (wl : (List (Int × Nat))) (wi : (List (ByteArray × Nat))) (ww : (List (ByteArray × Nat))) (ar0 : T_2) (ar1 : T_4) (ar2 : T_3) (ar3 : T_7) (ar4 : T_6) : Option (((ByteArray × Int) × (T_1 × ((List (Int × Nat)) × ((List (ByteArray × Nat)) × ((List (ByteArray × Nat)) × (T_2 × (T_4 × (T_3 × (T_7 × T_6)))))))))) := (bif (decide ((s1.size : Int) > 2000)) then (some ((B_1, (5 : Int)), ((f7 ws), wl, wi, ww, ar0, ar1, ar2, ar3, ar4))) else (ob (xCh F s1) (fun r => (ob (xAw F r) (fun r1 => (bif (!r1.2) then (some ((B_1, (4 : Int)), ((f7 ws), wl, wi, ww, ar0, ar1, ar2, ar3, ar4))) else (ob (xFA F r1.1 ws wl ar0 ar1) (fun r2 => (ob (xBT F r2.1.1.1) (fun r3 => (bif (r2.1.2 != 0) then (some ((B_1, r2.1.2), ((r2.2.1.1, (r2.2.1.2.1, (r2.2.1.2.2.1, (r2.2.1.2.2.2.1, (r2.2.1.t4))))), r2.2.2.1, wi, ww, r2.2.2.2.1, r2.t4, ar2, ar3, ar4))) else (some ((r3, (0 : Int)), ((r2.2.1.1, (r2.2.1.2.1, (r2.2.1.2.2.1, (r2.2.1.2.2.2.1, (r2.2.1.t4))))), r2.2.2.1, wi, ww, r2.2.2.2.1, r2.t4, ar2, ar3, ar4))))))))))))))
abbrev xJY : Sch := H_0
abbrev xJX : FSch := ⟨.tu [(false, [.t .str]), (false, [.i])], [K_0, K_6, K_3, K_4, K_4, .dead, .dead, .dead, .dead, .dead, K_1, K_2, xCz, xCy, xCA]⟩
def xEJ (F : Nat) : Ent := ⟨13, 2, xJY, xJX, fun s => xB4 F s.1 s.2.1 s.2.2.1 s.2.2.2.1 s.t4.1 s.t5.1 s.t6.1 s.t7.1 s.t8.1 s.t9, []⟩
theorem xOt (F : Nat) : FnSem Tryz.prog 13 2 xJY xJX (fun s => xB4 F s.1 s.2.1 s.2.2.1 s.2.2.2.1 s.t4.1 s.t5.1 s.t6.1 s.t7.1 s.t8.1 s.t9) :=
 fK (an := .no) (xUm F) (trivial)
end
noncomputable section
def xCT (F : Nat) (s1 : ByteArray) (ws : (Int × T_0)) (wl : (List (Int × Nat))) (wi : (List (ByteArray × Nat))) (ww : (List (ByteArray × Nat))) (ar0 : T_2) (ar1 : T_4) (ar2 : T_3) (ar3 : T_7) (ar4 : T_6) : Option (((ByteArray × Int) × (T_1 × ((List (Int × Nat)) × ((List (ByteArray × Nat)) × ((List (ByteArray × Nat)) × (T_2 × (T_4 × (T_3 × (T_7 × T_6)))))))))) := (bif (decide ((s1.size : Int) > 2000)) then (some ((B_1, (5 : Int)), ((f7 ws), wl, wi, ww, ar0, ar1, ar2, ar3, ar4))) else (ob (xC2 F s1) (fun r => (ob (xAw F r) (fun r1 => (bif (!r1.2) then (some ((B_1, (4 : Int)), ((f7 ws), wl, wi, ww, ar0, ar1, ar2, ar3, ar4))) else (ob (xDM F r1.1 ws wl ar0 ar1) (fun r2 => (ob (xGr F r2.t5) (fun r3 => (bif (r2.1 != 0) then (some ((B_1, r2.1), ((r2.2.1.1, (r2.2.1.2.1, (r2.2.1.2.2.1, (r2.2.1.2.2.2.1, (r2.2.1.t4))))), r2.2.2.1, wi, ww, r2.2.2.2.1, r2.t4.1, ar2, ar3, ar4))) else (some ((r3, (0 : Int)), ((r2.2.1.1, (r2.2.1.2.1, (r2.2.1.2.2.1, (r2.2.1.2.2.2.1, (r2.2.1.t4))))), r2.2.2.1, wi, ww, r2.2.2.2.1, r2.t4.1, ar2, ar3, ar4))))))))))))))
abbrev xMQ : Sch := H_0
abbrev xMP : FSch := ⟨.tu [(false, [.t .str]), (false, [.i])], [K_0, K_6, K_3, K_4, K_4, .dead, .dead, .dead, .dead, .dead, K_1, K_2, xCz, xCy, xCA]⟩
def xFP (F : Nat) : Ent := ⟨13, 2, xMQ, xMP, fun s => xCT F s.1 s.2.1 s.2.2.1 s.2.2.2.1 s.t4.1 s.t5.1 s.t6.1 s.t7.1 s.t8.1 s.t9, []⟩
theorem xRx (F : Nat) : FnSem Tryz.prog 13 2 xMQ xMP (fun s => xCT F s.1 s.2.1 s.2.2.1 s.2.2.2.1 s.t4.1 s.t5.1 s.t6.1 s.t7.1 s.t8.1 s.t9) :=
 fK (an := .no) (xSg F) (trivial)
end
noncomputable section
def xB5 (F : Nat) (s1 : ByteArray) (ws : (Int × T_0)) (wl : (List (Int × Nat))) (wi : (List (ByteArray × Nat))) (ww : (List (ByteArray × Nat))) (ar0 : T_2) (ar1 : T_4) (ar2 : T_3) (ar3 : T_7) (ar4 : T_6) : Option (((ByteArray × Int) × (T_1 × ((List (Int × Nat)) × ((List (ByteArray × Nat)) × ((List (ByteArray × Nat)) × (T_2 × (T_4 × (T_3 × (T_7 × T_6)))))))))) := (bif (decide ((s1.size : Int) > 2000)) then (some ((B_1, (5 : Int)), ((f7 ws), wl, wi, ww, ar0, ar1, ar2, ar3, ar4))) else (ob (xCi F s1) (fun r => (ob (xAV F r.1) (fun r1 => (bif (!r1.2) then (some ((B_1, (4 : Int)), ((f7 ws), wl, wi, ww, ar0, ar1, ar2, ar3, ar4))) else (ob (xBZ F r.2.1 (ByteArray.mk (Array.mk (47 :: [])))) (fun r2 => (bif (((r2.length - 0) : Int) != 3) then (some ((B_1, (4 : Int)), ((f7 ws), wl, wi, ww, ar0, ar1, ar2, ar3, ar4))) else (bif (inB 0 (r2.length - 0)) then (ob (xAV F (nth r2 (TC.dflt .str) 0)) (fun r3 => (bif (!r3.2) then (some ((B_1, (4 : Int)), ((f7 ws), wl, wi, ww, ar0, ar1, ar2, ar3, ar4))) else (bif (inB 1 (r2.length - 0)) then (ob (xAV F (nth r2 (TC.dflt .str) 1)) (fun r4 => (bif (!r4.2) then (some ((B_1, (4 : Int)), ((f7 ws), wl, wi, ww, ar0, ar1, ar2, ar3, ar4))) else (bif (inB 2 (r2.length - 0)) then (ob (xAV F (nth r2 (TC.dflt .str) 2)) (fun r5 => (bif (!r5.2) then (some ((B_1, (4 : Int)), ((f7 ws), wl, wi, ww, ar0, ar1, ar2, ar3, ar4))) else (ob (xGq F r.2.2 ((((0 : Int), (0 : Int)), (((0 : Int), (0 : Int)), (((0 : Int), (0 : Int)), (((0 : Int), (0 : Int)), (((0 : Int), (0 : Int)), ((0 : Int), (0 : Int))))))), B_1) [] (r1.1 :: []) ((r3.1, (r4.1, r5.1)) :: []) [] []) (fun r6 => (bif (!r6.1) then (some ((B_1, (4 : Int)), ((f7 ws), wl, wi, ww, ar0, ar1, ar2, ar3, ar4))) else (ob (xI0 F ws wl wi ww (((r6.2.1.1, r6.2.1.2.1), ((r6.2.1.2.2.1, r6.2.1.2.2.2.1), ((r6.2.1.t4.1, r6.2.1.t5.1), ((r6.2.1.t6.1, r6.2.1.t7.1), ((r6.2.1.t8.1, r6.2.1.t9.1), (r6.2.1.t9.2.1, r6.2.1.t9.2.2.1)))))), r6.2.1.t9.2.2.2) [] (r1.1 :: []) ((r3.1, (r4.1, r5.1)) :: []) r6.2.2 [] ar0 ar1 ar2 ar3 ar4) (fun r7 => (bif (r7.1.2 != 0) then (some ((B_1, r7.1.2), ((r7.2.1.1, (r7.2.1.2.1, (r7.2.1.2.2.1, (r7.2.1.2.2.2.1, (r7.2.1.t4))))), r7.2.2.1, r7.2.2.2.1, r7.t4.1, r7.t9.1, r7.t9.2, r7.t6.1, r7.t7.1, r7.t8.1))) else (some ((r7.1.1, (0 : Int)), ((r7.2.1.1, (r7.2.1.2.1, (r7.2.1.2.2.1, (r7.2.1.2.2.2.1, (r7.2.1.t4))))), r7.2.2.1, r7.2.2.2.1, r7.t4.1, r7.t9.1, r7.t9.2, r7.t6.1, r7.t7.1, r7.t8.1)))))))))))) else none)))) else none)))) else none))))))))))
abbrev xJ0 : Sch := H_0
abbrev xJZ : FSch := ⟨.tu [(false, [.t .str]), (false, [.i])], [K_0, K_6, K_3, K_4, K_4, .dead, .dead, .dead, .dead, .dead, K_1, K_2, xCz, xCy, xCA]⟩
def xEK (F : Nat) : Ent := ⟨13, 2, xJ0, xJZ, fun s => xB5 F s.1 s.2.1 s.2.2.1 s.2.2.2.1 s.t4.1 s.t5.1 s.t6.1 s.t7.1 s.t8.1 s.t9, []⟩
theorem xOu (F : Nat) : FnSem Tryz.prog 13 2 xJ0 xJZ (fun s => xB5 F s.1 s.2.1 s.2.2.1 s.2.2.2.1 s.t4.1 s.t5.1 s.t6.1 s.t7.1 s.t8.1 s.t9) :=
 fK (an := .no) (xVE F) (trivial)
end
noncomputable section
abbrev listT_n : Nat := 1
def xDT (F : Nat) (g0 : (List Int)) : Nat -> Int -> (List ByteArray) -> Option (((List Int) × (List ByteArray)))
 | 0, _, _ => none
 | n_ + 1, i, out => (bif (decide (i < ((g0.length - 0) : Int))) then (bif (inB i (g0.length - 0)) then (ob (xBJ F (nth g0 0 i.toNat)) (fun r => (bif (xAR (out.length - 0) (r :: []).length) then (xDT F g0 n_ (jI.wrap (i + 1)) (out ++ (r :: []))) else none))) else none) else (some (g0, out)))
abbrev xJU : Sch := ⟨[(0, .c (.k (.sl 0 1))), (3, .c (.k (.sl 1 1))), (4, .c .i)], [.ro .i, .rows 9 .str]⟩
abbrev xJV : xBY := [((.exit 0), ⟨[(3, .c (.k (.sl 1 1)))], [.ro .i, .rows 9 .str]⟩)]
theorem xOs (F : Nat) : ∀ n, xAS Tryz.prog 1 (xAv Tryz.prog 14 listT_n) (xAt (xAi Tryz.prog 14) [1, 1, 0, 1, 0, 0]) xJU xJV (fun s => (xDT F s.2.1 n s.1 s.2.2)) :=
 lK (an := .no) (xGP F) (trivial)
def xEq (F : Nat) (l : (List Int)) : Option (ByteArray) := (ob (xDT F l F 0 []) (fun s1 => (bif (((s1.2.length - 0) : Int) == 0) then (some (ByteArray.mk (Array.mk (45 :: [])))) else (ob (xEs F (ByteArray.mk (Array.mk (44 :: []))) s1.2) (fun r1 => (some r1))))))
abbrev xUi : Sch := ⟨[(0, .c (.k (.sl 0 1)))], [.ro .i]⟩
abbrev xUh : FSch := ⟨.one (.c (.t .str)), [.dead]⟩
def listT_E (F : Nat) : Ent := ⟨14, 1, xUi, xUh, fun s => xEq F s, []⟩
theorem xXd (F : Nat) : FnSem Tryz.prog 14 1 xUi xUh (fun s => xEq F s) :=
 fK (an := (.two .no (.two .no (.two (.two .no (.one (.loop xJU xJV (fun s => (xDT F s.2.1 F s.1 s.2.2))))) .no)))) (xGP F) (⟨trivial, ⟨trivial, ⟨⟨trivial, (xOs F F)⟩, trivial⟩⟩⟩)
end
noncomputable section
def orS {β : Type} : Option β -> Option β -> Option β
 | some x, _ => some x
 | none, y => y
theorem FnSem.orS {P : Program} {f n : Nat} {In : Sch} {Out : FSch} {s s' : In.ty -> Option Out.ty} (h : FnSem P f n In Out s) (k : FnSem P f n In Out s') : FnSem P f n In Out (fun x => orS (s x) (s' x)) := fun x t hx => by
 cases hs : s x with
 | some y =>
  simp only [hs, YtnomnijhlbalaaaGreatDoor.orS] at hx;exact h x t (hs.trans hx)
 | none =>
  simp only [hs, YtnomnijhlbalaaaGreatDoor.orS] at hx;exact k x t hx
abbrev lns_I : Sch := xFR
abbrev lineS_O : FSch := xIx
theorem xUj : ∃ f : Nat -> lns_I.ty -> Option lineS_O.ty, ∀ F s, f F s = orS ((xFS F).spec s) (orS ((xFQ F).spec s) (orS ((xEJ F).spec s) (orS ((xFP F).spec s) (orS ((xEK F).spec s) ((xC8 F).spec s))))) := ⟨fun F s => orS ((xFS F).spec s) (orS ((xFQ F).spec s) (orS ((xEJ F).spec s) (orS ((xFP F).spec s) (orS ((xEK F).spec s) ((xC8 F).spec s))))), fun _ _ => rfl⟩
def xUk : Nat -> lns_I.ty -> Option lineS_O.ty := Classical.choose xUj
theorem lineSQP : ∀ F s, xUk F s = orS ((xFS F).spec s) (orS ((xFQ F).spec s) (orS ((xEJ F).spec s) (orS ((xFP F).spec s) (orS ((xEK F).spec s) ((xC8 F).spec s))))) := Classical.choose_spec xUj
def xBe (F : Nat) (s : lns_I.ty) : Option (((ByteArray × Int) × (T_1 × ((List (Int × Nat)) × ((List (ByteArray × Nat)) × ((List (ByteArray × Nat)) × (T_2 × (T_4 × (T_3 × (T_7 × T_6)))))))))) := xUk F s
theorem xCU (F : Nat) (s : lns_I.ty) : xBe F s = orS ((xFS F).spec s) (orS ((xFQ F).spec s) (orS ((xEJ F).spec s) (orS ((xFP F).spec s) (orS ((xEK F).spec s) ((xC8 F).spec s))))) := lineSQP F s
def lineS_E (F : Nat) : Ent := ⟨13, 2, lns_I, lineS_O, fun s => xBe F s, []⟩
theorem xXe (F : Nat) : FnSem Tryz.prog 13 2 lns_I lineS_O (fun s => xBe F s) := fun s t h =>
 FnSem.orS (xRz F) (FnSem.orS (xRy F) (FnSem.orS (xOt F) (FnSem.orS (xRx F) (FnSem.orS (xOu F) (xK4 F))))) s t ((xCU F s).symm.trans h)
def lawS_T (F : Nat) : List Ent := lineS_E F :: xR4 F :: listT_E F :: xSS F :: xQK F :: xPj F :: text_E F :: xMX F :: best_E F :: xPA F :: xPq F :: xMo F :: xTX F :: xSt F :: xN5 F :: xOK F :: xK9 F :: xEZ F
theorem xEr (F : Nat) : xAj Tryz.prog (lawS_T F) := ⟨⟨by kernel_rfl, xXe F⟩, ⟨by kernel_rfl, xQV F⟩, ⟨by kernel_rfl, xXd F⟩, ⟨by kernel_rfl, xPr F⟩, ⟨by kernel_rfl, xNC F⟩, ⟨by kernel_rfl, xL4 F⟩, ⟨by kernel_rfl, xSk F⟩, ⟨by kernel_rfl, xIy F⟩, ⟨by kernel_rfl, xVz F⟩, ⟨by kernel_rfl, xMj F⟩, ⟨by kernel_rfl, xMc F⟩, ⟨by kernel_rfl, xJx F⟩, ⟨by kernel_rfl, xPX F⟩, ⟨by kernel_rfl, xNR F⟩, ⟨by kernel_rfl, xKD F⟩, ⟨by kernel_rfl, xLw F⟩, ⟨by kernel_rfl, xIC F⟩, xCl F⟩
end
section
open Go.Lib M3
end
end Go.Proofs.YtnomnijhlbalaaaGreatDoor
