/- Plain laws of the store of chapter 2: its lots, and what a valid lot is. No condition. -/
import Derived.Test.YthmicafabimfkaaGreatDoorWXC4

namespace Go.Proofs.YthmicafabimfkaaGreatDoor
open Go.RowKit
set_option maxRecDepth 100000
abbrev QB := (Int × Int) × ((Int × Int) × (Int × Int))
abbrev QL := Int × (Int × (QB × Int))
abbrev QP := Int × QB
abbrev QM := List (Int × Nat)
abbrev Q0 := List (QL × Nat)
abbrev Q1 := List (Option (List (Int × Bool)))
abbrev Q7 := Int × (Int × (Int × (Int × (Int × (Int × Int)))))
abbrev dQ : QL × Nat := (TC.dflt (TC.pair (TC.pair (TC.int jI) (TC.pair (TC.int jI) (TC.pair (TC.pair (TC.pair (TC.int jI) (TC.int jI)) (TC.pair (TC.pair (TC.int jI) (TC.int jI)) (TC.pair (TC.int jI) (TC.int jI)))) (TC.int jI)))) (TC.rf 2 1)))
theorem w64 (n : Int) (h : -9223372036854775808 <= n /\ n <= 9223372036854775807) : jI.wrap n = n := by rw [IntKind.wrap_i64]; omega
def p7 (p : QP) : Q7 := (p.1, (p.2.1.1, (p.2.1.2, (p.2.2.1.1, (p.2.2.1.2, p.2.2.2)))))
/-! Maps by numbers -/
def qmf : Nat -> Nat -> QM
 | _, 0 => []
 | k, n + 1 => (((k : Nat) : Int) + 1, k + 1) :: qmf (k + 1) n
theorem xR3 : ∀ n k : Nat, (qmf k n).length = n
 | 0, _ => rfl
 | n + 1, k => by simp [qmf, xR3 n]
theorem eqI (a b : Int) : KK.eqb (.i .i64) a b = decide (a = b) := by
 have := KK.eqb_iff (.i .i64) a b
 cases h : KK.eqb (.i .i64) a b with
 | true => exact (decide_eq_true (this.1 h)).symm
 | false => exact (decide_eq_false (fun e => by rw [this.2 e] at h; cases h)).symm
theorem xR6 (p : Int) : ∀ n k : Nat, xAx (.i .i64) 0 p (qmf k n) = if (k : Int) < p /\ p <= (k : Int) + (n : Int) then p.toNat else 0
 | 0, k => by
  rw [if_neg (by omega)]; rfl
 | n + 1, k => by
  have ih := xR6 p n (k + 1);simp only [qmf, xAx, eqI];by_cases h : p = (k : Int) + 1
  ·rw [decide_eq_true h, cond_true, if_pos (by omega)]; omega
  ·rw [decide_eq_false h, cond_false, ih];by_cases h2 : (k : Int) < p /\ p <= (k : Int) + ((n + 1 : Nat) : Int)
   ·rw [if_pos h2, if_pos (by omega)]
   ·rw [if_neg h2, if_neg (by omega)]
theorem xR5 (p : Int) : ∀ n k : Nat, (k : Int) + (n : Int) < p -> hasK (.i .i64) p (qmf k n) = false
 | 0, _, _ => rfl
 | n + 1, k, h => by
  simp only [qmf, hasK, eqI];rw [decide_eq_false (by omega), cond_false];exact xR5 p n (k + 1) (by omega)
theorem ltI (a b : Int) : KK.ltb (.i .i64) a b = decide (a < b) := rfl
theorem xR7 : ∀ n k : Nat, xWH (.i .i64) ((k : Int) + (n : Int) + 1) (k + n + 1) (qmf k n) = qmf k (n + 1)
 | 0, k => by simp [qmf, xWH]
 | n + 1, k => by
  have ih := xR7 n (k + 1);simp only [qmf, xWH, ltI];rw [decide_eq_false (by omega), cond_false];have e1 : (k : Int) + ((n + 1 : Nat) : Int) + 1 = ((k + 1 : Nat) : Int) + (n : Int) + 1 := by omega
  have e2 : k + (n + 1) + 1 = k + 1 + n + 1 := by omega
  rw [e1, e2, ih];simp [qmf]
theorem xR4 (n : Nat) : xEZ (.i .i64) ((n : Int) + 1) (n + 1) (qmf 0 n) = qmf 0 (n + 1) := by
 unfold xEZ;rw [xR5 _ _ _ (by omega), cond_false];have := xR7 n 0;simpa using this
theorem xR2 : ∀ (n k : Nat) (e : Int × Nat), e ∈ qmf k n ↔ ∃ j, j < n /\ e = (((k + j : Nat) : Int) + 1, k + j + 1)
 | 0, k, e => by simp [qmf]
 | n + 1, k, e => by
  simp only [qmf, List.mem_cons, xR2 n (k + 1) e];constructor
  ·rintro (rfl | ⟨j, hj, rfl⟩)
   ·exact ⟨0, by omega, by simp⟩
   ·exact ⟨j + 1, by omega, by rw [show k + (j + 1) = k + 1 + j by omega]⟩
  ·rintro ⟨j, hj, rfl⟩
   cases j with
   | zero => exact .inl (by simp)
   | succ j => exact .inr ⟨j, by omega, by rw [show k + (j + 1) = k + 1 + j by omega]⟩
/-! Valid lots -/
def qR (r : Int × Int) : Bool := decide ((0 : Int) <= r.1) && (decide (r.1 <= r.2) && decide (r.2 <= (100000000 : Int)))
def qB (b : QB) : Bool := qR b.1 && (qR b.2.1 && qR b.2.2)
def qLot (l : QL) : Bool := (decide (l.1 >= (0 : Int)) && decide (l.1 <= (1000 : Int))) && ((decide (l.2.1 >= (1 : Int)) && decide (l.2.1 <= (1000000 : Int))) && (qB l.2.2.1 && (decide (l.2.2.2 >= (0 : Int)) && decide (l.2.2.2 <= (1000000 : Int)))))
theorem qwithin (F : Nat) (n a b : Int) : xDk F n a b = some (decide (n >= a) && decide (n <= b)) := by
 unfold xDk; cases decide (n >= a) <;> rfl
theorem qrange (F : Nat) (r : Int × Int) : xFb F r = some (!qR r) := by
 unfold xFb xFJ qR;cases decide ((0 : Int) <= r.1) <;> cases decide (r.1 <= r.2) <;> rfl
theorem qbounds (F : Nat) (b : QB) : xCM F b = some (qB b) := by
 unfold xCM qB;simp only [qrange];generalize qR b.1 = x; generalize qR b.2.1 = y; generalize qR b.2.2 = z;cases x <;> cases y <;> cases z <;> rfl
theorem qisLot (F : Nat) (l : QL) : xGr F l = some (qLot l) := by
 unfold xGr qLot;simp only [qwithin, qbounds];generalize (decide (l.1 >= (0 : Int)) && decide (l.1 <= (1000 : Int))) = a;generalize (decide (l.2.1 >= (1 : Int)) && decide (l.2.1 <= (1000000 : Int))) = b;generalize qB l.2.2.1 = c;cases a <;> cases b <;> cases c <;> rfl
end Go.Proofs.YthmicafabimfkaaGreatDoor


namespace Go.Proofs.YthmicafabimfkaaGreatDoor
open Go.RowKit
set_option maxRecDepth 100000
/-! Sets of numbers -/
def xCN (l : List Int) : List (Int × Bool) := l.map (fun x => (x, true))
def xWG (x : Int) : List Int -> List Int
 | [] => [x]
 | y :: l => if x < y then x :: y :: l else y :: xWG x l
def xLj (x : Int) (l : List Int) : List Int := if x ∈ l then l else xWG x l
def xQ8 (acc src : List Int) : List Int := src.foldl (fun a x => xLj x a) acc
theorem xUB (x : Int) : ∀ l : List Int, hasK (.i .i64) x (xCN l) = decide (x ∈ l)
 | [] => by simp [xCN, hasK]
 | y :: l => by
  have ih := xUB x l;simp only [xCN, List.map_cons, hasK, eqI] at ih ⊢;rw [ih];by_cases h : x = y
  ·simp [h]
  ·simp [h]
theorem xUC (x : Int) : ∀ l : List Int, xAx (.i .i64) false x (xCN l) = decide (x ∈ l)
 | [] => by simp [xCN, xAx]
 | y :: l => by
  have ih := xUC x l;simp only [xCN, List.map_cons, xAx, eqI] at ih ⊢;rw [ih];by_cases h : x = y
  ·simp [h]
  ·simp [h]
theorem xUD (x : Int) : ∀ l : List Int, xWH (.i .i64) x true (xCN l) = xCN (xWG x l)
 | [] => rfl
 | y :: l => by
  have ih := xUD x l;simp only [xCN, List.map_cons, xWH, ltI, xWG] at ih ⊢;by_cases h : x < y
  ·rw [decide_eq_true h, cond_true, if_pos h]; rfl
  ·rw [decide_eq_false h, cond_false, if_neg h, ih]; rfl
theorem anc_set (x : Int) (l : List Int) : setK (.i .i64) x true (xCN l) = xCN l := by
 unfold setK xCN;rw [List.map_map];refine List.map_congr_left (fun y _ => ?_);show (bif KK.eqb (.i .i64) x y then (y, true) else (y, true)) = (y, true);cases KK.eqb (.i .i64) x y <;> rfl
theorem xOt (x : Int) (l : List Int) : xEZ (.i .i64) x true (xCN l) = xCN (xLj x l) := by
 unfold xEZ xLj;rw [xUB];by_cases h : x ∈ l
 ·rw [decide_eq_true h, cond_true, if_pos h, anc_set]
 ·rw [decide_eq_false h, cond_false, if_neg h, xUD]
theorem xLQ (x z : Int) : ∀ l : List Int, z ∈ xWG x l ↔ z = x \/ z ∈ l
 | [] => by simp [xWG]
 | y :: l => by
  have ih := xLQ x z l;unfold xWG;by_cases h : x < y
  ·rw [if_pos h]; simp
  ·rw [if_neg h]; simp only [List.mem_cons, ih];constructor
   ·rintro (h | h | h) <;> simp [h]
   ·rintro (h | h | h) <;> simp [h]
theorem xDC (x z : Int) (l : List Int) : z ∈ xLj x l ↔ z = x \/ z ∈ l := by
 unfold xLj;by_cases h : x ∈ l
 ·rw [if_pos h];exact ⟨.inr, fun h2 => h2.elim (fun e => e ▸ h) id⟩
 ·rw [if_neg h]; exact xLQ x z l
theorem xQd (x : Int) : ∀ {l : List Int}, l.Pairwise (· < ·) -> x ∉ l -> (xWG x l).Pairwise (· < ·)
 | [], _, _ => List.pairwise_singleton _ _
 | y :: l, h, hn => by
  obtain ⟨h1, h2⟩ := List.pairwise_cons.1 h;simp only [List.mem_cons, not_or] at hn;unfold xWG;by_cases hx : x < y
  ·rw [if_pos hx];refine List.pairwise_cons.2 ⟨fun z hz => ?_, h⟩;rcases List.mem_cons.1 hz with rfl | hz
   ·exact hx
   ·exact Int.lt_trans hx (h1 z hz)
  ·rw [if_neg hx];refine List.pairwise_cons.2 ⟨fun z hz => ?_, xQd x h2 hn.2⟩;rcases (xLQ x z l).1 hz with rfl | hz
   ·have := hn.1; omega
   ·exact h1 z hz
theorem xHy (x : Int) {l : List Int} (h : l.Pairwise (· < ·)) : (xLj x l).Pairwise (· < ·) := by
 unfold xLj;by_cases hx : x ∈ l
 ·rw [if_pos hx]; exact h
 ·rw [if_neg hx]; exact xQd x h hx
theorem xHm (z : Int) : ∀ (src acc : List Int), z ∈ xQ8 acc src ↔ z ∈ acc \/ z ∈ src
 | [], acc => by simp [xQ8]
 | x :: src, acc => by
  have ih := xHm z src (xLj x acc);unfold xQ8 at ih ⊢;rw [List.foldl_cons, ih, xDC, List.mem_cons];constructor
  ·rintro ((h | h) | h) <;> simp [h]
  ·rintro (h | h | h) <;> simp [h]
theorem xFe : ∀ (src : List Int) {acc : List Int}, acc.Pairwise (· < ·) -> (xQ8 acc src).Pairwise (· < ·)
 | [], _, h => h
 | x :: src, _, h => xFe src (xHy x h)
theorem srt_eq {a b : List Int} (ha : a.Pairwise (· < ·)) (hb : b.Pairwise (· < ·)) (h : ∀ x, x ∈ a ↔ x ∈ b) : a = b := by
 have na : a.Nodup := List.nodup_iff_pairwise_ne.2 (ha.imp (fun h e => by omega));have nb : b.Nodup := List.nodup_iff_pairwise_ne.2 (hb.imp (fun h e => by omega));exact List.Perm.eq_of_pairwise (le := fun a b => a < b) (fun a b _ _ h1 h2 => by omega) ha hb ((List.perm_ext_iff_of_nodup na nb).2 h)
theorem xRi {acc s t : List Int} (ha : acc.Pairwise (· < ·)) (h : s.Perm t) : xQ8 acc s = xQ8 acc t :=
 srt_eq (xFe s ha) (xFe t ha) (fun x => by rw [xHm, xHm, h.mem_iff])
theorem xOu : ∀ l : List Int, keysOf (xCN l) = l
 | [] => rfl
 | x :: l => congrArg (x :: ·) (xOu l)
theorem xWE {π : List (Int × Bool)} {s : List Int} (h : π.Perm (xCN s)) : ∃ t, π = xCN t /\ t.Perm s := by
 refine ⟨π.map Prod.fst, ?_, ?_⟩
 ·have : ∀ e ∈ π, e.2 = true := fun e he => by
   obtain ⟨x, _, e2⟩ := List.mem_map.1 (h.mem_iff.1 he);rw [<- e2]
  have key : ∀ l : List (Int × Bool), (∀ e ∈ l, e.2 = true) -> l = xCN (l.map Prod.fst) := by
   intro l
   induction l with
   | nil => intro _; rfl
   | cons e l ih =>
    intro hl;have h1 := hl e (by simp);show e :: l = (e.1, true) :: xCN (l.map Prod.fst);rw [<- ih (fun x hx => hl x (by simp [hx])), <- h1]
  exact key π this
 ·have := h.map Prod.fst;rwa [show (xCN s).map Prod.fst = s from xOu s] at this
theorem xVt {α : Type} {os : List (Option (List α))} {n : Nat} (h : xDA os n = true) : xVu (xB2 os n) n (rowAt os n) = os := by
 cases n with
 | zero => rfl
 | succ m =>
  have h' : (match os[m]? with
   | some (some _) => true
   | _ => false) = true := h
  show (os.set m none).set m (some (match os[m]? with
   | some (some xs) => xs
   | _ => [])) = os
  cases ho : os[m]? with
  | none => rw [ho] at h'; cases h'
  | some o =>
   cases o with
   | none => rw [ho] at h'; cases h'
   | some xs =>
    simp only [List.set_set];obtain ⟨hm, e⟩ := List.getElem?_eq_some_iff.1 ho;rw [<- e];exact List.set_getElem_self hm
theorem xMA (F : Nat) (ar : Q1) : ∀ (t acc : List Int), xND (S := xCv) (o := xCw) (κ := (.i .i64)) (τ := .bool) (xDc F) (xDb F) (xCN acc, ar) (xCN t) = some (xCN (xQ8 acc t), ar)
 | [], acc => rfl
 | x :: t, acc => by
  have ih := xMA F ar t (xLj x acc);show xND (S := xCv) (o := xCw) (κ := (.i .i64)) (τ := .bool) (xDc F) (xDb F) (xEZ (.i .i64) x true (xCN acc), ar) (xCN t) = _;rw [xOt];exact ih
theorem q_mcopy (F : Nat) {a1 : Q1} {r : Nat} {s acc : List Int} (hl : xDA a1 r = true) (hr : rowAt a1 r = xCN s) (ha : acc.Pairwise (· < ·)) : xIj F r (xCN acc) a1 = some (xCN (xQ8 acc s), a1) := by
 unfold xIj;rw [hl, cond_true];refine xKn (fun π hπ => ?_);rw [hr] at hπ;obtain ⟨t, rfl, ht⟩ := xWE hπ;have e := xMA F (xB2 a1 r) t acc;rw [e];show some (xCN (xQ8 acc t), xVu (xB2 a1 r) r (rowAt a1 r)) = _;rw [xVt hl, xRi ha ht]
/-! The store -/
structure Rep (es : List (QL × List Int)) (m : QM) (a0 : Q0) (a1 : Q1) : Prop where
 map : m = qmf 0 es.length
 len : a0.length = es.length
 lot : ∀ (k : Nat) (e : QL × List Int), es[k]? = some e -> ∃ r, a0[k]? = some (e.1, r) /\ ((r = 0 /\ e.2 = []) \/ ∃ j, r = j + 1 /\ a1[j]? = some (some (xCN e.2)))
 srt : ∀ e ∈ es, e.2.Pairwise (· < ·)
 rng : ∀ (k : Nat) (e : QL × List Int), es[k]? = some e -> ∀ x ∈ e.2, 1 <= x /\ x <= (k : Int)
theorem Rep.nil : Rep [] [] [] [] := ⟨rfl, rfl, fun k e h => by simp at h, fun e h => by simp at h, fun k e h => by simp at h⟩
section
variable {es : List (QL × List Int)} {m : QM} {a0 : Q0} {a1 : Q1}
/-- What lies behind a number: its lot and the set of what it was made of. -/
theorem Rep.row (h : Rep es m a0 a1) {k : Nat} {e : QL × List Int} (hk : es[k]? = some e) : ∃ r, a0[k]? = some (e.1, r) /\ xDA a1 r = true /\ rowAt a1 r = xCN e.2 := by
 obtain ⟨r, h1, h2⟩ := h.lot k e hk;refine ⟨r, h1, ?_⟩;rcases h2 with ⟨rfl, h3⟩ | ⟨j, rfl, h3⟩
 ·rw [h3]; exact ⟨rfl, rfl⟩
 ·simp [xDA, rowAt, h3]
def xDD (p : Int) (n : Nat) : Bool := decide (1 <= p) && decide (p <= (n : Int))
theorem Rep.get (h : Rep es m a0 a1) (p : Int) : xAx (.i .i64) 0 p m = bif xDD p es.length then p.toNat else 0 := by
 rw [h.map, xR6];unfold xDD;by_cases h1 : 1 <= p /\ p <= (es.length : Int)
 ·rw [if_pos (by omega), decide_eq_true h1.1, decide_eq_true h1.2]; rfl
 ·rw [if_neg (by omega)];have : (decide (1 <= p) && decide (p <= (es.length : Int))) = false := by
   rw [<- Bool.decide_and]; exact decide_eq_false h1
  rw [this]; rfl
theorem Rep.mlen (h : Rep es m a0 a1) : m.length = es.length := by rw [h.map, xR3]
theorem Rep.add (h : Rep es m a0 a1) (l : QL) (s : List Int) (r : Nat) (a1' : Q1) (hx : ∀ (j : Nat) x, a1[j]? = some x -> a1'[j]? = some x) (hr : (r = 0 /\ s = []) \/ ∃ j, r = j + 1 /\ a1'[j]? = some (some (xCN s)))
  (hs : s.Pairwise (· < ·)) (hg : ∀ x ∈ s, 1 <= x /\ x <= (es.length : Int)) : Rep (es ++ [(l, s)]) (qmf 0 (es.length + 1)) (a0 ++ [(l, r)]) a1' := by
 refine ⟨by simp, by simp [h.len], fun k e hk => ?_, fun e he => ?_, fun k e hk => ?_⟩
 ·rcases Nat.lt_trichotomy k es.length with hlt | heq | hgt
  ·rw [List.getElem?_append_left hlt] at hk;obtain ⟨r0, h1, h2⟩ := h.lot k e hk;refine ⟨r0, by rw [List.getElem?_append_left (by rw [h.len]; exact hlt)]; exact h1, ?_⟩;exact h2.imp id (fun ⟨j, e1, e2⟩ => ⟨j, e1, hx _ _ e2⟩)
  ·subst heq;rw [List.getElem?_append_right (Nat.le_refl _), Nat.sub_self] at hk;cases hk;refine ⟨r, ?_, hr⟩;rw [List.getElem?_append_right (by rw [h.len]; exact Nat.le_refl _), h.len, Nat.sub_self]; rfl
  ·rw [List.getElem?_eq_none (by simp; omega)] at hk; cases hk
 ·rcases List.mem_append.1 he with he | he
  ·exact h.srt e he
  ·rw [List.mem_singleton] at he; rw [he]; exact hs
 ·rcases Nat.lt_trichotomy k es.length with hlt | heq | hgt
  ·rw [List.getElem?_append_left hlt] at hk;exact h.rng k e hk
  ·subst heq;rw [List.getElem?_append_right (Nat.le_refl _), Nat.sub_self] at hk;cases hk;exact hg
  ·rw [List.getElem?_eq_none (by simp; omega)] at hk; cases hk
/-- A lot that may be put in. -/
def okL (l : QL) : Bool := qLot l && !(l.1 == (0 : Int))
theorem xR9 (F : Nat) (l : QL) (pl : QP) (h : Rep es m a0 a1) (hs : es.length < 200) :
  xC8 F l pl m a0 a1 = some (bif okL l then (((es.length : Int) + 1, 0), (p7 pl, (qmf 0 (es.length + 1), (a0 ++ [(l, 0)], a1)))) else ((0, 2), (p7 pl, (m, (a0, a1))))) := by
 unfold xC8 okL;rw [qisLot];simp only [ob]
 cases qLot l with
 | false => rfl
 | true =>
  cases hz : (l.1 == (0 : Int)) with
  | true => rfl
  | false =>
   rw [h.mlen, decide_eq_false (show ¬ ((es.length : Int) >= (200 : Int)) by omega), w64 _ (by omega), h.len, h.map, xR4];rfl
end
end Go.Proofs.YthmicafabimfkaaGreatDoor


namespace Go.Proofs.YthmicafabimfkaaGreatDoor
open Go.RowKit
set_option maxRecDepth 100000
theorem xU9 {α : Type} {g : List α} {i k : Nat} {d : α} (hk : k < i) (hi : i <= g.length) : (g.take i).drop k = nth g d k :: (g.take i).drop (k + 1) := by
 have h1 : k < (g.take i).length := by rw [List.length_take]; omega
 rw [List.drop_eq_getElem_cons h1, List.getElem_take, xJI g d k (by omega)]
theorem q_ix (F i : Nat) (v : Int) (g : List Int) (hi : i <= g.length) (hi2 : i <= 1000) : ∀ (n k : Nat), k <= i -> i - k < n ->
  ∃ r, ob (xCj F (0, i) v (i : Int) g n (k : Int)) (fun o_ => su o_ (fun s4 => (some s4.1)) (fun _ => (some (-1 : Int)))) = some r /\ decide (r >= (0 : Int)) = decide (v ∈ (g.take i).drop k)
 | 0, k, _, h => by omega
 | n + 1, k, hk, h => by
  simp only [xCj];by_cases hki : k < i
  ·rw [decide_eq_true (show (k : Int) < (i : Int) by omega), cond_true];have hb : inB (k : Int) i = true := by simp [inB]; omega
   rw [hb, cond_true];have e1 : nth g (0 : Int) (addN 0 ((k : Int)).toNat) = nth g 0 k := rfl;rw [xU9 (d := (0 : Int)) hki hi];by_cases hv : v = nth g 0 k
   ·rw [show (v == nth g (0 : Int) (addN 0 ((k : Int)).toNat)) = true from by rw [e1]; simpa using hv, cond_true];exact ⟨k, rfl, by rw [decide_eq_true (by omega), decide_eq_true (by rw [hv]; simp)]⟩
   ·rw [show (v == nth g (0 : Int) (addN 0 ((k : Int)).toNat)) = false from by rw [e1]; simpa using hv, cond_false, w64 _ (by omega)];obtain ⟨r, h1, h2⟩ := q_ix F i v g hi hi2 n (k + 1) hki (by omega);refine ⟨r, h1, ?_⟩;rw [h2];exact decide_eq_decide.2 (by simp [hv])
  ·rw [decide_eq_false (show ¬ ((k : Int) < (i : Int)) by omega), cond_false];refine ⟨-1, rfl, ?_⟩;rw [List.drop_eq_nil_of_le (by rw [List.length_take]; omega)];simp
theorem q_cont (F i : Nat) (v : Int) (g : List Int) (hi : i <= g.length) (hi2 : i <= 1000) (hF : i < F) : xI6 F (0, i) v g = some (decide (v ∈ g.take i)) := by
 obtain ⟨r, h1, h2⟩ := q_ix F i v g hi hi2 F 0 (Nat.zero_le _) (by omega);have e : xHz F (0, i) v g = some r := h1;unfold xI6;rw [e];show some (decide (r >= (0 : Int))) = _;rw [h2, List.drop_zero]
def xA1 (es : List (QL × List Int)) (p : Int) : List Int := match es[p.toNat - 1]? with
 | some e => e.2
 | none => []
/-- What parents give: an error, or the set of all that the lot is made of. -/
def xRa (es : List (QL × List Int)) : List Int -> List Int -> List Int -> Int ⊕ List Int
 | _, acc, [] => .inr acc
 | pre, acc, p :: ps => bif !xDD p es.length then .inl 7 else bif decide (p ∈ pre) then .inl 6 else xRa es (pre ++ [p]) (xQ8 (xLj p acc) (xA1 es p)) ps
section
variable {es : List (QL × List Int)} {m : QM} {a0 : Q0} {a1 : Q1}
theorem xAU {p : Int} {n : Nat} : xDD p n = true ↔ 1 <= p /\ p <= (n : Int) := by simp [xDD]
theorem q_retL (F : Nat) (hF : 1000 <= F) (h : Rep es m a0 a1) (g2 : List Int) (hg : g2.length <= 100) (g0 : Q7) (l1 : QL) (hes : es.length <= 1000) : ∀ (ps pre acc : List Int) (n : Nat), g2 = pre ++ ps -> ps.length < n -> acc.Pairwise (· < ·) ->
  xAZ F (g2.length : Int) g0 m g2 a0 l1 n (pre.length : Int) a1 (xCN acc) = some (match xRa es pre acc ps with
   | .inl e => .inl ((0, e), (g0, (m, (g2, (a0, a1)))))
   | .inr acc' => .inr (g0, (m, (g2, (a0, (a1, (l1, xCN acc')))))))
 | _, _, _, 0, _, h, _ => absurd h (Nat.not_lt_zero _)
 | [], pre, acc, n + 1, e, _, _ => by
  rw [List.append_nil] at e;simp only [xAZ, xRa];rw [decide_eq_false (by rw [e]; omega), cond_false]
 | p :: ps, pre, acc, n + 1, e, hn, ha => by
  have hlen : g2.length = pre.length + (ps.length + 1) := by rw [e]; simp
  simp only [xAZ, xRa];rw [decide_eq_true (show (pre.length : Int) < (g2.length : Int) by omega), cond_true];have hb : inB (pre.length : Int) (g2.length - 0) = true := by simp [inB]; omega
  have hc : inC (pre.length : Int) (g2.length - 0) = true := by simp [inC]; omega
  have hnth : nth g2 (0 : Int) ((pre.length : Int)).toNat = p := by
   show nth g2 0 pre.length = p;simp [nth, e]
  rw [hb, cond_true, hnth, cond_false, h.get]
  cases hp : xDD p es.length with
  | false => rfl
  | true =>
   have hp1 := xAU.1 hp;have hpn : Nat.beq p.toNat 0 = false := by
    cases hq : Nat.beq p.toNat 0 with
    | false => rfl
    | true => have := nbT hq; omega
   simp only [cond_true, hpn, Bool.not_false, cond_false, Bool.not_true, hc];rw [show (((pre.length : Int)).toNat - 0) = pre.length from rfl, q_cont F pre.length p g2 (by omega) (by omega) (by omega)];have htk : g2.take pre.length = pre := by rw [e]; simp
   rw [htk];show (bif decide (p ∈ pre) then _ else _) = _;by_cases hm : p ∈ pre
   ·rw [decide_eq_true hm, cond_true, cond_true]
   ·rw [decide_eq_false hm, cond_false, cond_false];obtain ⟨e1, he1⟩ : ∃ e1, es[p.toNat - 1]? = some e1 := ⟨es[p.toNat - 1]'(by omega), List.getElem?_eq_getElem (by omega)⟩;obtain ⟨r, hr0, hr1, hr2⟩ := h.row he1;have ho : inO p.toNat a0.length = true := by
     rw [h.len]; simp only [inO, Bool.and_eq_true, Nat.ble_eq]; omega
    have hnr : (nth a0 dQ (p.toNat - 1)).2 = r := by simp [nth, hr0]
    rw [ho, cond_true, hnr, xOt, q_mcopy F hr1 hr2 (xHy p ha)];show xAZ F (g2.length : Int) g0 m g2 a0 l1 n (jI.wrap ((pre.length : Int) + 1)) a1 (xCN (xQ8 (xLj p acc) e1.2)) = _;rw [w64 _ (by omega), show xA1 es p = e1.2 by simp [xA1, he1]];have ih := q_retL F hF h g2 hg g0 l1 hes ps (pre ++ [p]) (xQ8 (xLj p acc) e1.2) n (by rw [e]; simp) (by simp at hn; omega) (xFe _ (xHy p ha));rw [show ((pre ++ [p]).length : Int) = (pre.length : Int) + 1 by simp] at ih;exact ih
/-- What Return answers, and what lies there behind it. -/
def qRet (es : List (QL × List Int)) (l : QL) (ps : List Int) : Int ⊕ List Int := bif okL l then (bif decide ((ps.length : Int) > (10 : Int)) then .inl 5 else xRa es [] [] ps) else .inl 2
theorem xVy (F : Nat) (hF : 1000 <= F) (l : QL) (pl : QP) (ps : List Int) (hps : ps.length <= 100) (h : Rep es m a0 a1) (hs : es.length < 200) :
  xCG F l pl m ps a0 a1 = some (match qRet es l ps with
   | .inl e => ((0, e), (p7 pl, (m, (a0, a1))))
   | .inr s => (((es.length : Int) + 1, 0), (p7 pl, (qmf 0 (es.length + 1), (a0 ++ [(l, a1.length + 1)], a1 ++ [some (xCN s)]))))) := by
 unfold xCG qRet okL;rw [qisLot];have fin : ∀ b : Bool, (bif b then (some (((0 : Int), (2 : Int)), (p7 pl, (m, (a0, a1))))) else (bif (decide (((ps.length - 0 : Nat) : Int) > (10 : Int))) then (some (((0 : Int), (5 : Int)), (p7 pl, (m, (a0, a1))))) else (ob (xAZ F ((ps.length - 0 : Nat) : Int) (p7 pl) m ps a0 l F (0 : Int) a1 []) (fun o_ => su o_ (fun s3 => (some ((s3.1.1, s3.1.2), (s3.2.1, (s3.2.2.1, (s3.2.2.2.2.1, s3.2.2.2.2.2)))))) (fun s4 => (bif (decide ((s4.2.1.length : Int) >= (200 : Int))) then (some (((0 : Int), (8 : Int)), (s4.1, (s4.2.1, (s4.2.2.2.1, s4.2.2.2.2.1))))) else (some (((jI.wrap ((s4.2.1.length : Int) + (1 : Int))), (0 : Int)), (s4.1, ((xEZ (KK.i jI) (jI.wrap ((s4.2.1.length : Int) + (1 : Int))) (s4.2.2.2.1.length + 1) s4.2.1), ((s4.2.2.2.1 ++ ((s4.2.2.2.2.2.1, (s4.2.2.2.2.1.length + 1)) :: [])), (s4.2.2.2.2.1 ++ ((Option.some s4.2.2.2.2.2.2) :: []))))))))))))) = some (match (bif !b then (bif decide ((ps.length : Int) > (10 : Int)) then .inl 5 else xRa es [] [] ps) else .inl 2 : Int ⊕ List Int) with
   | .inl e => ((0, e), (p7 pl, (m, (a0, a1))))
   | .inr s => (((es.length : Int) + 1, 0), (p7 pl, (qmf 0 (es.length + 1), (a0 ++ [(l, a1.length + 1)], a1 ++ [some (xCN s)])))) ) := by
  intro b
  cases b with
  | true => rfl
  | false =>
   simp only [cond_false, Bool.not_false, cond_true, Nat.sub_zero]
   cases decide ((ps.length : Int) > (10 : Int)) with
   | true => rfl
   | false =>
    simp only [cond_false];have hL := q_retL F hF h ps hps (p7 pl) l (by omega) ps [] [] F (by simp) (by omega) List.Pairwise.nil;simp only [List.length_nil, Int.ofNat_zero] at hL;rw [show xAZ F (ps.length : Int) (p7 pl) m ps a0 l F (0 : Int) a1 [] = _ from hL]
    cases xRa es [] [] ps with
    | inl e => rfl
    | inr s =>
     show (bif (decide ((m.length : Int) >= (200 : Int))) then _ else (some (((jI.wrap ((m.length : Int) + (1 : Int))), (0 : Int)), (p7 pl, ((xEZ (KK.i jI) (jI.wrap ((m.length : Int) + (1 : Int))) (a0.length + 1) m), ((a0 ++ ((l, (a1.length + 1)) :: [])), (a1 ++ ((Option.some (xCN s)) :: [])))))))) = _;rw [h.mlen, decide_eq_false (show ¬ ((es.length : Int) >= (200 : Int)) by omega), cond_false, w64 _ (by omega), h.len, h.map, xR4]
 cases hq : qLot l with
 | false => exact fin true
 | true =>
  have := fin (l.1 == (0 : Int));exact this
end
end Go.Proofs.YthmicafabimfkaaGreatDoor


namespace Go.Proofs.YthmicafabimfkaaGreatDoor
open Go.RowKit
set_option maxRecDepth 100000
/-! Piles -/
def a7 (x y : Q7) : Q7 := (x.1 + y.1, (x.2.1 + y.2.1, (x.2.2.1 + y.2.2.1, (x.2.2.2.1 + y.2.2.2.1, (x.2.2.2.2.1 + y.2.2.2.2.1, (x.2.2.2.2.2.1 + y.2.2.2.2.2.1, x.2.2.2.2.2.2 + y.2.2.2.2.2.2))))))
def m7 (n : Int) (l : QL) : Q7 := (n * l.2.1, (n * l.2.2.1.1.1, (n * l.2.2.1.1.2, (n * l.2.2.1.2.1.1, (n * l.2.2.1.2.1.2, (n * l.2.2.1.2.2.1, n * l.2.2.1.2.2.2))))))
def w7 (x : Q7) : Q7 := (jI.wrap x.1, (jI.wrap x.2.1, (jI.wrap x.2.2.1, (jI.wrap x.2.2.2.1, (jI.wrap x.2.2.2.2.1, (jI.wrap x.2.2.2.2.2.1, jI.wrap x.2.2.2.2.2.2))))))
def z7 : Q7 := (0, (0, (0, (0, (0, (0, 0))))))
theorem ww (a b : Int) : jI.wrap (a + jI.wrap b) = jI.wrap (a + b) := by simp only [IntKind.wrap_i64]; omega
theorem ww2 (a b : Int) : jI.wrap (jI.wrap a + b) = jI.wrap (a + b) := by simp only [IntKind.wrap_i64]; omega
theorem w7a (x y : Q7) : w7 (a7 (w7 x) y) = w7 (a7 x y) := by simp only [w7, a7, ww2]
theorem w7b (x y : Q7) : w7 (a7 x (w7 y)) = w7 (a7 x y) := by simp only [w7, a7, ww]
theorem a7c (x y : Q7) : a7 x y = a7 y x := by simp only [a7, Int.add_comm]
theorem a7s (x y z : Q7) : a7 (a7 x y) z = a7 x (a7 y z) := by simp only [a7, Int.add_assoc]
theorem a7z (x : Q7) : a7 z7 x = x := by simp [a7, z7]
def u7 (x : Q7) : QP := (x.1, ((x.2.1, x.2.2.1), ((x.2.2.2.1, x.2.2.2.2.1), (x.2.2.2.2.2.1, x.2.2.2.2.2.2))))
/-! Picks -/
abbrev dPk : Int × Int := (TC.dflt (TC.pair (TC.int jI) (TC.int jI)))
def xAw (es : List (QL × List Int)) (p : Int) : QL := (nth es (dQ.1, []) (p.toNat - 1)).1
def qdr (es : List (QL × List Int)) : List Int -> List (Int × Int) -> Int
 | _, [] => 0
 | seen, p :: ps => bif !xDD p.1 es.length then 7 else bif decide (p.1 ∈ seen) then 6 else bif decide (p.2 < 1) then 3 else bif decide (p.2 > (xAw es p.1).1) then 22 else qdr es (xLj p.1 seen) ps
def xBW (es : List (QL × List Int)) (p : Int × Int) : List (QL × List Int) := es.set (p.1.toNat - 1) (((xAw es p.1).1 - p.2, (xAw es p.1).2), xA1 es p.1)
section
variable {es : List (QL × List Int)} {m : QM} {a0 : Q0} {a1 : Q1}
theorem xDz {p : Int} (h : xDD p es.length = true) : es[p.toNat - 1]? = some (xAw es p, xA1 es p) := by
 have h1 := xAU.1 h;have hl : p.toNat - 1 < es.length := by omega
 have := List.getElem?_eq_getElem hl;simp [xAw, xA1, nth, this]
theorem beq0 {p : Int} {n : Nat} (h : xDD p n = true) : Nat.beq p.toNat 0 = false := by
 have h1 := xAU.1 h
 cases hq : Nat.beq p.toNat 0 with
 | false => rfl
 | true => have := nbT hq; omega
theorem Rep.ent (h : Rep es m a0 a1) {p : Int} (hp : xDD p es.length = true) : ∃ r, nth a0 dQ (p.toNat - 1) = (xAw es p, r) /\ inO p.toNat a0.length = true /\ xDA a1 r = true /\ rowAt a1 r = xCN (xA1 es p) /\ a0[p.toNat - 1]? = some (xAw es p, r) := by
 obtain ⟨r, h1, h2, h3⟩ := h.row (xDz hp);have hq := xAU.1 hp;refine ⟨r, by simp [nth, h1], ?_, h2, h3, h1⟩;rw [h.len]; simp only [inO, Bool.and_eq_true, Nat.ble_eq]; omega
theorem xO0 (F : Nat) (h : Rep es m a0 a1) (hes : es.length <= 1000) (g2 : List (Int × Int)) (hg : g2.length <= 100) (g0 : Q7) : ∀ (ps pre : List (Int × Int)) (seen : List Int) (n : Nat), g2 = pre ++ ps -> ps.length < n ->
  xBE F (g2.length : Int) g0 m g2 a0 a1 n (pre.length : Int) (xCN seen) = some (bif qdr es seen ps == 0 then .inr (g0, (m, (g2, (a0, a1)))) else .inl (qdr es seen ps, (g0, (m, (g2, (a0, a1))))))
 | _, _, _, 0, _, h => absurd h (Nat.not_lt_zero _)
 | [], pre, seen, n + 1, e, _ => by
  rw [List.append_nil] at e;simp only [xBE, qdr];rw [decide_eq_false (by rw [e]; omega), cond_false];rfl
 | p :: ps, pre, seen, n + 1, e, hn => by
  have hlen : g2.length = pre.length + (ps.length + 1) := by rw [e]; simp
  simp only [xBE, qdr];rw [decide_eq_true (show (pre.length : Int) < (g2.length : Int) by omega), cond_true];have hb : inB (pre.length : Int) (g2.length - 0) = true := by simp [inB]; omega
  have hnth : nth g2 dPk ((pre.length : Int)).toNat = p := by
   show nth g2 dPk pre.length = p;simp [nth, e]
  rw [hb, cond_true, hnth, cond_false, h.get]
  cases hp : xDD p.1 es.length with
  | false => rfl
  | true =>
   have hpn := beq0 hp;simp only [cond_true, hpn, Bool.not_false, cond_false, Bool.not_true];rw [xUC];by_cases hm : p.1 ∈ seen
   ·rw [decide_eq_true hm]; rfl
   ·rw [decide_eq_false hm, cond_false, cond_false];by_cases h1 : p.2 < 1
    ·rw [decide_eq_true h1]; rfl
    ·obtain ⟨r, k1, k2, _⟩ := h.ent hp;rw [decide_eq_false h1, cond_false, cond_false, k2, cond_true];simp only [cond_true, k1];by_cases h2 : p.2 > (xAw es p.1).1
     ·rw [decide_eq_true h2]; rfl
     ·rw [decide_eq_false h2, cond_false, cond_false, xOt, w64 _ (by omega)];have ih := xO0 F h hes g2 hg g0 ps (pre ++ [p]) (xLj p.1 seen) n (by rw [e]; simp) (by simp at hn; omega);rw [show ((pre ++ [p]).length : Int) = (pre.length : Int) + 1 by simp] at ih;exact ih
def xDZ (es : List (QL × List Int)) (ps : List (Int × Int)) : List (QL × List Int) := ps.foldl xBW es
/-- What the picks weigh. -/
def xBB (es : List (QL × List Int)) (D : Q7) (ps : List (Int × Int)) : Q7 := ps.foldl (fun D p => a7 D (m7 p.2 (xAw es p.1))) D
def Cnt (es : List (QL × List Int)) : Prop := ∀ e ∈ es, 0 <= e.1.1 /\ e.1.1 <= 1000
theorem take_len (p : Int × Int) : (xBW es p).length = es.length := by simp [xBW]
theorem xL1 : ∀ (ps : List (Int × Int)) (es : List (QL × List Int)), (xDZ es ps).length = es.length
 | [], _ => rfl
 | p :: ps, es => by
  show (xDZ (xBW es p) ps).length = _;rw [xL1 ps, take_len]
theorem xCC {p : Int × Int} (hp : xDD p.1 es.length = true) (k : Nat) : (xBW es p)[k]? = if k = p.1.toNat - 1 then some (((xAw es p.1).1 - p.2, (xAw es p.1).2), xA1 es p.1) else es[k]? := by
 have h1 := xAU.1 hp;unfold xBW;rw [List.getElem?_set];by_cases hk : p.1.toNat - 1 = k
 ·rw [if_pos hk, if_pos hk.symm, if_pos (by omega)]
 ·rw [if_neg hk, if_neg (fun e => hk e.symm)]
theorem xVa {p : Int × Int} (hp : xDD p.1 es.length = true) (q : Int) : xA1 (xBW es p) q = xA1 es q := by
 simp only [xA1, xCC hp];by_cases h : q.toNat - 1 = p.1.toNat - 1
 ·rw [if_pos h, h]
 ·rw [if_neg h]
/-- All but the number of pieces stays. -/
theorem xL3 {p : Int × Int} (hp : xDD p.1 es.length = true) (q : Int) : (xAw (xBW es p) q).2 = (xAw es q).2 := by
 have e : ∀ es : List (QL × List Int), xAw es q = (es[q.toNat - 1]?.getD (dQ.1, [])).1 := fun es => by simp [xAw, nth]
 rw [e, e, xCC hp];by_cases h : q.toNat - 1 = p.1.toNat - 1
 ·rw [if_pos h, h];have := xDz hp;rw [this]; rfl
 ·rw [if_neg h]
theorem xQg {p : Int × Int} (hp : xDD p.1 es.length = true) {q : Int} (hq : xDD q es.length = true) (h : q ≠ p.1) : xAw (xBW es p) q = xAw es q := by
 have h1 := xAU.1 hp;have h2 := xAU.1 hq;have e : ∀ es : List (QL × List Int), xAw es q = (es[q.toNat - 1]?.getD (dQ.1, [])).1 := fun es => by simp [xAw, nth]
 rw [e, e, xCC hp, if_neg (by omega)]
theorem xHs {p : Int × Int} (hp : xDD p.1 es.length = true) : ∀ (ps : List (Int × Int)) (seen : List Int), p.1 ∈ seen -> qdr es seen ps = 0 -> qdr (xBW es p) seen ps = 0
 | [], _, _, _ => rfl
 | q :: ps, seen, hm, h => by
  simp only [qdr] at h ⊢;rw [take_len]
  cases hq : xDD q.1 es.length with
  | false => rw [hq] at h; cases h
  | true =>
   rw [hq] at h;simp only [Bool.not_true, cond_false] at h ⊢;by_cases h1 : q.1 ∈ seen
   ·rw [decide_eq_true h1] at h; cases h
   ·rw [decide_eq_false h1, cond_false] at h ⊢;by_cases h2 : q.2 < 1
    ·rw [decide_eq_true h2] at h; cases h
    ·rw [decide_eq_false h2, cond_false] at h ⊢;have hne : q.1 ≠ p.1 := fun e => h1 (e ▸ hm);rw [xQg hp hq hne];by_cases h3 : q.2 > (xAw es q.1).1
     ·rw [decide_eq_true h3] at h; cases h
     ·rw [decide_eq_false h3, cond_false] at h ⊢;exact xHs hp ps _ ((xDC _ _ _).2 (.inr hm)) h
theorem xKL {p : Int × Int} {ps : List (Int × Int)} {seen : List Int} (h : qdr es seen (p :: ps) = 0) : xDD p.1 es.length = true /\ p.1 ∉ seen /\ 1 <= p.2 /\ p.2 <= (xAw es p.1).1 /\ qdr es (xLj p.1 seen) ps = 0 := by
 simp only [qdr] at h
 cases hq : xDD p.1 es.length with
 | false => rw [hq] at h; cases h
 | true =>
  rw [hq] at h;simp only [Bool.not_true, cond_false] at h;by_cases h1 : p.1 ∈ seen
  ·rw [decide_eq_true h1] at h; cases h
  ·rw [decide_eq_false h1, cond_false] at h;by_cases h2 : p.2 < 1
   ·rw [decide_eq_true h2] at h; cases h
   ·rw [decide_eq_false h2, cond_false] at h;by_cases h3 : p.2 > (xAw es p.1).1
    ·rw [decide_eq_true h3] at h; cases h
    ·rw [decide_eq_false h3, cond_false] at h;exact ⟨rfl, h1, by omega, by omega, h⟩
theorem Cnt.at (hc : Cnt es) {p : Int} (hp : xDD p es.length = true) : 0 <= (xAw es p).1 /\ (xAw es p).1 <= 1000 := by
 have := hc (xAw es p, xA1 es p) (List.mem_of_getElem? (xDz hp));exact this
theorem Cnt.take (hc : Cnt es) {p : Int × Int} (hp : xDD p.1 es.length = true) (h1 : 1 <= p.2) (h2 : p.2 <= (xAw es p.1).1) : Cnt (xBW es p) := by
 intro e he;obtain ⟨k, hk⟩ := List.mem_iff_getElem?.1 he;rw [xCC hp] at hk;by_cases h : k = p.1.toNat - 1
 ·rw [if_pos h] at hk;cases hk;have := hc.at hp;exact ⟨by show 0 <= (xAw es p.1).1 - p.2; omega, by show (xAw es p.1).1 - p.2 <= 1000; omega⟩
 ·rw [if_neg h] at hk;exact hc e (List.mem_of_getElem? hk)
theorem Rep.take (h : Rep es m a0 a1) {p : Int × Int} (hp : xDD p.1 es.length = true) {r : Nat} (hr : a0[p.1.toNat - 1]? = some (xAw es p.1, r)) :
  Rep (xBW es p) m (a0.set (p.1.toNat - 1) (((xAw es p.1).1 - p.2, (xAw es p.1).2), r)) a1 := by
 have h1 := xAU.1 hp;refine ⟨by rw [take_len]; exact h.map, by rw [take_len, List.length_set]; exact h.len, fun k e hk => ?_, fun e he => ?_, fun k e hk => ?_⟩
 ·rw [xCC hp] at hk;rw [List.getElem?_set];by_cases hq : k = p.1.toNat - 1
  ·rw [if_pos hq] at hk;cases hk;rw [if_pos hq.symm, if_pos (by rw [h.len]; omega)];refine ⟨r, rfl, ?_⟩;obtain ⟨r', g1, g2⟩ := h.lot _ _ (xDz hp);rw [g1] at hr;cases hr;exact g2
  ·rw [if_neg hq] at hk;rw [if_neg (fun e => hq e.symm)];exact h.lot k e hk
 ·obtain ⟨k, hk⟩ := List.mem_iff_getElem?.1 he;rw [xCC hp] at hk;by_cases hq : k = p.1.toNat - 1
  ·rw [if_pos hq] at hk;cases hk;have := h.srt (xAw es p.1, xA1 es p.1) (List.mem_of_getElem? (xDz hp));exact this
  ·rw [if_neg hq] at hk;exact h.srt e (List.mem_of_getElem? hk)
 ·rw [xCC hp] at hk;by_cases hq : k = p.1.toNat - 1
  ·rw [if_pos hq] at hk;cases hk;rw [hq];have := h.rng _ (xAw es p.1, xA1 es p.1) (xDz hp);exact this
  ·rw [if_neg hq] at hk;exact h.rng k e hk
theorem xOZ (F : Nat) (g2 : List (Int × Int)) (hg : g2.length <= 100) : ∀ (ps pre : List (Int × Int)) (seen : List Int) (n : Nat) (es : List (QL × List Int)) (a0 : Q0) (D : Q7), Rep es m a0 a1 -> es.length <= 1000 -> Cnt es -> g2 = pre ++ ps -> ps.length < n -> qdr es seen ps = 0 ->
  ∃ a0', xB9 F (g2.length : Int) m g2 a1 n (pre.length : Int) (w7 D) a0 = some (w7 (xBB es D ps), (m, (g2, (a0', a1)))) /\ Rep (xDZ es ps) m a0' a1 /\ Cnt (xDZ es ps)
 | _, _, _, 0, _, _, _, _, _, _, _, h, _ => absurd h (Nat.not_lt_zero _)
 | [], pre, seen, n + 1, es, a0, D, h, _, hc, e, _, _ => by
  rw [List.append_nil] at e;refine ⟨a0, ?_, h, hc⟩;simp only [xB9];rw [decide_eq_false (by rw [e]; omega), cond_false];rfl
 | p :: ps, pre, seen, n + 1, es, a0, D, h, hes, hc, e, hn, hd => by
  obtain ⟨hp, d1, d2, d3, d4⟩ := xKL hd;have hlen : g2.length = pre.length + (ps.length + 1) := by rw [e]; simp
  have hcc := hc.at hp;obtain ⟨r, k1, k2, _, _, k5⟩ := h.ent hp;have hq := xAU.1 hp;simp only [xB9];rw [decide_eq_true (show (pre.length : Int) < (g2.length : Int) by omega), cond_true];have hb : inB (pre.length : Int) (g2.length - 0) = true := by simp [inB]; omega
  have hnth : nth g2 dPk ((pre.length : Int)).toNat = p := by
   show nth g2 dPk pre.length = p;simp [nth, e]
  rw [hb, cond_true, hnth, h.get, hp];have hpn := beq0 hp;simp only [cond_true, hpn, Bool.not_false, k2, List.length_set, k1];have e5 : nth (a0.set (p.1.toNat - 1) ((jI.wrap ((xAw es p.1).1 - p.2), (xAw es p.1).2), r)) dQ (p.1.toNat - 1) = ((jI.wrap ((xAw es p.1).1 - p.2), (xAw es p.1).2), r) := by
   simp [nth, List.getElem?_set, show p.1.toNat - 1 < a0.length by rw [h.len]; omega]
  rw [e5, w64 ((xAw es p.1).1 - p.2) (by omega), w64 _ (by omega)];have ih := xOZ F g2 hg ps (pre ++ [p]) (xLj p.1 seen) n (xBW es p) _ (a7 D (m7 p.2 (xAw es p.1))) (h.take (p := p) hp k5) (by rw [take_len]; exact hes) (hc.take hp d2 d3) (by rw [e]; simp) (by simp at hn; omega) (xHs hp ps _ ((xDC _ _ _).2 (.inl rfl)) d4);obtain ⟨a0', i1, i2, i3⟩ := ih;refine ⟨a0', ?_, i2, i3⟩;have e7 : xBB (xBW es p) (a7 D (m7 p.2 (xAw es p.1))) ps = xBB es D (p :: ps) := by
   have key : ∀ (ps : List (Int × Int)) (D : Q7), xBB (xBW es p) D ps = xBB es D ps := by
    intro ps
    induction ps with
    | nil => intro D; rfl
    | cons q ps ih2 =>
     intro D;show xBB (xBW es p) (a7 D (m7 q.2 (xAw (xBW es p) q.1))) ps = xBB es (a7 D (m7 q.2 (xAw es q.1))) ps;rw [ih2];have : m7 q.2 (xAw (xBW es p) q.1) = m7 q.2 (xAw es q.1) := by
      unfold m7; rw [xL3 hp]
     rw [this]
   exact key ps _
  rw [e7] at i1;rw [show ((pre ++ [p]).length : Int) = (pre.length : Int) + 1 by simp] at i1;rw [<- i1];have e8 : w7 (a7 D (m7 p.2 (xAw es p.1))) = w7 (a7 (w7 D) (w7 (m7 p.2 (xAw es p.1)))) := by rw [w7b, w7a]
  rw [e8];rfl
/-- What Draw answers, and what lies there behind it. -/
theorem q_draw (F : Nat) (hF : 1000 <= F) (D : Q7) (ps : List (Int × Int)) (hps : ps.length <= 100) (h : Rep es m a0 a1) (hs : es.length <= 1000) (hc : Cnt es) :
  (qdr es [] ps ≠ 0 /\ xDs F (u7 (w7 D)) m ps a0 a1 = some (qdr es [] ps, (w7 D, (m, (a0, a1))))) \/
  (qdr es [] ps = 0 /\ ∃ a0', xDs F (u7 (w7 D)) m ps a0 a1 = some (0, (w7 (xBB es D ps), (m, (a0', a1)))) /\ Rep (xDZ es ps) m a0' a1 /\ Cnt (xDZ es ps)) := by
 have hL := xO0 F h hs ps hps (w7 D) ps [] [] F (by simp) (by omega);change xBE F (ps.length : Int) (w7 D) m ps a0 a1 F (0 : Int) [] = _ at hL;by_cases hd : qdr es [] ps = 0
 ·right;refine ⟨hd, ?_⟩;obtain ⟨a0', i1, i2, i3⟩ := xOZ (a1 := a1) (m := m) F ps hps ps [] [] F es a0 D h hs hc (by simp) (by omega) hd;simp only [List.length_nil, Int.ofNat_zero] at i1;refine ⟨a0', ?_, i2, i3⟩;rw [hd] at hL;unfold xDs;show ob (xBE F ((ps.length : Int) - 0) (w7 D) m ps a0 a1 F (0 : Int) []) _ = _;rw [Int.sub_zero, hL];show ob (xB9 F ((ps.length : Int) - 0) m ps a1 F (0 : Int) (w7 D) a0) _ = _;rw [Int.sub_zero, i1]
 ·left;refine ⟨hd, ?_⟩;have hbf : (qdr es [] ps == 0) = false := by simpa using hd
  rw [hbf] at hL;unfold xDs;show ob (xBE F ((ps.length : Int) - 0) (w7 D) m ps a0 a1 F (0 : Int) []) _ = _;rw [Int.sub_zero, hL];rfl
end
end Go.Proofs.YthmicafabimfkaaGreatDoor


namespace Go.Proofs.YthmicafabimfkaaGreatDoor
open Go.RowKit
set_option maxRecDepth 100000
def tot (es : List (QL × List Int)) : Q7 := es.foldr (fun e A => a7 (m7 e.1.1 e.1) A) z7
def xWk (a0 : Q0) (e : Int × Nat) : Q7 := m7 (nth a0 dQ (e.2 - 1)).1.1 (nth a0 dQ (e.2 - 1)).1
def totP (a0 : Q0) (π : List (Int × Nat)) : Q7 := π.foldr (fun e A => a7 (xWk a0 e) A) z7
theorem a7lc (x y z : Q7) : a7 x (a7 y z) = a7 y (a7 x z) := by rw [<- a7s, a7c x y, a7s]
theorem xRs (a0 : Q0) {π ρ : List (Int × Nat)} (h : π.Perm ρ) : totP a0 π = totP a0 ρ := by
 unfold totP
 induction h with
 | nil => rfl
 | cons x _ ih => simp only [List.foldr_cons, ih]
 | swap x y l => simp only [List.foldr_cons, a7lc]
 | trans _ _ h1 h2 => rw [h1, h2]
theorem xOL (a0 : Q0) : ∀ (es : List (QL × List Int)) (k : Nat), (∀ (j : Nat) e, es[j]? = some e -> ∃ r, a0[k + j]? = some (e.1, r)) -> totP a0 (qmf k es.length) = tot es
 | [], _, _ => rfl
 | e :: es, k, h => by
  have ih := xOL a0 es (k + 1) (fun j x hj => by
   obtain ⟨r, hr⟩ := h (j + 1) x (by simpa using hj);exact ⟨r, by rw [show k + 1 + j = k + (j + 1) by omega]; exact hr⟩)
  obtain ⟨r, hr⟩ := h 0 e rfl;have e1 : xWk a0 (((k : Nat) : Int) + 1, k + 1) = m7 e.1.1 e.1 := by
   have : nth a0 dQ k = (e.1, r) := by simp [nth, show a0[k]? = some (e.1, r) from hr]
   unfold xWk;show m7 (nth a0 dQ k).1.1 (nth a0 dQ k).1 = _;rw [this]
  show a7 (xWk a0 (((k : Nat) : Int) + 1, k + 1)) (totP a0 (qmf (k + 1) es.length)) = a7 (m7 e.1.1 e.1) (tot es);rw [e1, ih]
section
variable {es : List (QL × List Int)} {m : QM} {a0 : Q0} {a1 : Q1}
theorem xR8 (F : Nat) (q : Q7) (z : QP) : ∀ (π : List (Int × Nat)) (A : Q7), (∀ e ∈ π, 1 <= e.2 /\ e.2 <= a0.length) ->
  xND (S := xCe) (o := xCf) (κ := (.i .i64)) (τ := (.rf 0 0)) (xBz F) (xCD F) (q, (a0, (a1, (u7 (w7 A), z)))) π = some (q, (a0, (a1, (u7 (w7 (a7 A (totP a0 π))), z))))
 | [], A, _ => by
  show some (q, (a0, (a1, (u7 (w7 A), z)))) = _;rw [show totP a0 [] = z7 from rfl, a7c, a7z]
 | e :: π, A, h => by
  have h1 := h e (by simp);have ih := xR8 F q z π (a7 A (xWk a0 e)) (fun x hx => h x (by simp [hx]));have hb : Nat.beq e.2 0 = false := by
   cases hq : Nat.beq e.2 0 with
   | false => rfl
   | true => have := nbT hq; omega
  have ho : inO e.2 a0.length = true := by simp only [inO, Bool.and_eq_true, Nat.ble_eq]; exact h1
  have step : xBz F (q, (a0, (a1, (u7 (w7 A), z)))) e = some (.inl (q, (a0, (a1, (u7 (w7 (a7 A (xWk a0 e))), z))))) := by
   unfold xBz;rw [hb];simp only [Bool.not_false, cond_true];rw [show inO e.2 (q, (a0, (a1, (u7 (w7 A), z)))).2.1.length = true from ho];simp only [cond_true];have e8 : w7 (a7 A (xWk a0 e)) = w7 (a7 (w7 A) (w7 (xWk a0 e))) := by rw [w7b, w7a]
   rw [e8];rfl
  show ob (xBz F (q, (a0, (a1, (u7 (w7 A), z)))) e) (fun x => su x (fun s' => xND (S := xCe) (o := xCf) (κ := (.i .i64)) (τ := (.rf 0 0)) (xBz F) (xCD F) s' π) some) = _;rw [step];show xND (S := xCe) (o := xCf) (κ := (.i .i64)) (τ := (.rf 0 0)) (xBz F) (xCD F) (q, (a0, (a1, (u7 (w7 (a7 A (xWk a0 e))), z)))) π = _;rw [ih, a7s];rfl
theorem w7z : w7 z7 = z7 := by decide
theorem Rep.keys (h : Rep es m a0 a1) {π : List (Int × Nat)} (hπ : π.Perm m) : ∀ e ∈ π, 1 <= e.2 /\ e.2 <= a0.length /\ e.1 = (e.2 : Int) := by
 intro e he;have := hπ.mem_iff.1 he;rw [h.map] at this;obtain ⟨j, hj, rfl⟩ := (xR2 _ _ _).1 this;rw [h.len];exact ⟨by omega, by omega, by simp⟩
theorem q_sums (F : Nat) (pl : QP) (h : Rep es m a0 a1) : xGQ F pl m a0 a1 = some ((u7 (w7 (tot es)), pl), (p7 pl, (m, (a0, a1)))) := by
 unfold xGQ;refine xKn (fun π hπ => ?_);have hk := h.keys hπ;have hr := xR8 (a1 := a1) F (p7 pl) (u7 z7) π z7 (fun e he => ⟨(hk e he).1, (hk e he).2.1⟩);rw [w7z] at hr;have ht : totP a0 π = tot es := by
  rw [xRs a0 hπ, h.map];exact xOL a0 es 0 (fun j e hj => by
   obtain ⟨r, h1, _⟩ := h.lot j e hj;exact ⟨r, by rw [Nat.zero_add]; exact h1⟩)
 rw [ht, a7z] at hr;show ob (xND (S := xCe) (o := xCf) (κ := (.i .i64)) (τ := (.rf 0 0)) (xBz F) (xCD F) (p7 pl, (a0, (a1, (u7 z7, u7 z7)))) π) _ = _;rw [hr];rfl
theorem q_find (F : Nat) (p : Int) (pl : QP) (h : Rep es m a0 a1) : xMZ F p pl m a0 a1 = some (bif xDD p es.length then ((p.toNat, 0), (p7 pl, (m, (a0, a1)))) else ((0, 7), (p7 pl, (m, (a0, a1))))) := by
 unfold xMZ;rw [h.get]
 cases hp : xDD p es.length with
 | false => rfl
 | true =>
  simp only [cond_true, cond_false, beq0 hp];rfl
/-! Numbers in order -/
theorem xRH : ∀ (l : List Int) (a b : Int), l.Pairwise (· < ·) -> (∀ x ∈ l, a <= x /\ x <= b) -> (l.length : Int) <= max 0 (b - a + 1)
 | [], a, b, _, _ => by simp; omega
 | x :: l, a, b, h, hr => by
  obtain ⟨h1, h2⟩ := List.pairwise_cons.1 h;have hx := hr x (by simp);have ih := xRH l (x + 1) b h2 (fun y hy => ⟨by have := h1 y hy; omega, (hr y (by simp [hy])).2⟩);simp only [List.length_cons];omega
theorem srtI_id {l : List Int} (h : l.Pairwise (· < ·)) : xQ9 l = l :=
 List.Perm.eq_of_pairwise (le := fun a b => a <= b) (fun a b _ _ h1 h2 => Int.le_antisymm h1 h2) (xCF l) (h.imp (fun h => Int.le_of_lt h)) (xC4 l)
theorem Rep.anc (h : Rep es m a0 a1) {p : Int} (hp : xDD p es.length = true) : (xA1 es p).Pairwise (· < ·) /\ ∀ x ∈ xA1 es p, 1 <= x /\ x < p := by
 have hq := xAU.1 hp;refine ⟨?_, fun x hx => ?_⟩
 ·have := h.srt (xAw es p, xA1 es p) (List.mem_of_getElem? (xDz hp));exact this
 ·have := h.rng _ (xAw es p, xA1 es p) (xDz hp) x hx;omega
theorem xVx (F : Nat) (h : Rep es m a0 a1) (hs : es.length <= 1000) {p : Int} (hp : xDD p es.length = true) {r : Nat} (h1 : xDA a1 r = true) (h2 : rowAt a1 r = xCN (xA1 es p)) : xDp F r a1 = some (a1, xA1 es p) := by
 obtain ⟨s1, s2⟩ := h.anc hp;have hq := xAU.1 hp;have hlen := xRH (xA1 es p) 1 1000 s1 (fun x hx => ⟨(s2 x hx).1, by have := (s2 x hx).2; omega⟩);unfold xDp;rw [h1, h2];have ha : (xCN (xA1 es p)).all (fun e => decide (-9223372036854775808 <= e.1) && decide (e.1 <= 9223372036854775807)) = true := by
  refine List.all_eq_true.2 (fun e he => ?_);obtain ⟨x, hx, rfl⟩ := List.mem_map.1 he;have := s2 x hx;simp only [Bool.and_eq_true, decide_eq_true_eq];omega
 have hl : xAN 0 (xCN (xA1 es p)).length = true := by
  simp only [xAN, xCN, List.length_map, decide_eq_true_eq];omega
 rw [ha, hl, xOu, srtI_id s1];rfl
theorem q_trace (F : Nat) (p : Int) (pl : QP) (h : Rep es m a0 a1) (hs : es.length <= 1000) : xDr F p pl m a0 a1 = some (bif xDD p es.length then (0, (p7 pl, (m, (a0, (a1, xA1 es p))))) else (7, (p7 pl, (m, (a0, (a1, [])))))) := by
 unfold xDr;rw [q_find F p pl h]
 cases hp : xDD p es.length with
 | false => rfl
 | true =>
  obtain ⟨r, k1, k2, k3, k4, _⟩ := h.ent hp;show (bif (!(Nat.beq p.toNat 0)) then (bif (!(Nat.beq p.toNat 0)) then (bif (inO p.toNat a0.length) then (ob (xDp F (nth a0 dQ (p.toNat - 1)).2 a1) (fun r1 => (some ((0 : Int), (p7 pl, (m, (a0, (r1.1, r1.2)))))))) else none) else none) else none) = _;rw [beq0 hp, k2, k1, xVx F h hs hp k3 k4];rfl
end
end Go.Proofs.YthmicafabimfkaaGreatDoor


namespace Go.Proofs.YthmicafabimfkaaGreatDoor
open Go.RowKit
set_option maxRecDepth 100000
theorem xRr : ∀ (es : List (QL × List Int)) (e : QL × List Int), tot (es ++ [e]) = a7 (tot es) (m7 e.1.1 e.1)
 | [], e => by
  show a7 (m7 e.1.1 e.1) z7 = a7 z7 (m7 e.1.1 e.1);rw [a7c]
 | x :: es, e => by
  show a7 (m7 x.1.1 x.1) (tot (es ++ [e])) = a7 (a7 (m7 x.1.1 x.1) (tot es)) (m7 e.1.1 e.1);rw [xRr es e, a7s]
theorem xRq : ∀ (es : List (QL × List Int)) (k : Nat) (e0 e : QL × List Int), es[k]? = some e0 -> a7 (tot (es.set k e)) (m7 e0.1.1 e0.1) = a7 (tot es) (m7 e.1.1 e.1)
 | [], k, _, _, h => by simp at h
 | x :: es, 0, e0, e, h => by
  simp only [List.getElem?_cons_zero, Option.some.injEq] at h;subst h;show a7 (a7 (m7 e.1.1 e.1) (tot es)) (m7 x.1.1 x.1) = a7 (a7 (m7 x.1.1 x.1) (tot es)) (m7 e.1.1 e.1);rw [a7c (a7 (m7 e.1.1 e.1) (tot es)), a7s, a7c (m7 e.1.1 e.1)]
 | x :: es, k + 1, e0, e, h => by
  have ih := xRq es k e0 e (by simpa using h);show a7 (a7 (m7 x.1.1 x.1) (tot (es.set k e))) (m7 e0.1.1 e0.1) = a7 (a7 (m7 x.1.1 x.1) (tot es)) (m7 e.1.1 e.1);rw [a7s, a7s, ih]
theorem a7_left {x y z : Q7} (h : a7 x z = a7 y z) : x = y := by
 simp only [a7, Prod.mk.injEq] at h;obtain ⟨h1, h2, h3, h4, h5, h6, h7⟩ := h;refine Prod.ext ?_ (Prod.ext ?_ (Prod.ext ?_ (Prod.ext ?_ (Prod.ext ?_ (Prod.ext ?_ ?_)))))
 all_goals omega
theorem m7_sub (c n : Int) (l : QL) : a7 (m7 (c - n) l) (m7 n l) = m7 c l := by
 simp only [a7, m7, Int.sub_mul, Int.sub_add_cancel]
theorem xU3 {es : List (QL × List Int)} {p : Int × Int} (hp : xDD p.1 es.length = true) : a7 (tot (xBW es p)) (m7 p.2 (xAw es p.1)) = tot es := by
 have h := xRq es (p.1.toNat - 1) _ (((xAw es p.1).1 - p.2, (xAw es p.1).2), xA1 es p.1) (xDz hp);have e1 : m7 ((xAw es p.1).1 - p.2) ((xAw es p.1).1 - p.2, (xAw es p.1).2) = m7 ((xAw es p.1).1 - p.2) (xAw es p.1) := rfl;change a7 (tot (xBW es p)) (m7 (xAw es p.1).1 (xAw es p.1)) = a7 (tot es) (m7 ((xAw es p.1).1 - p.2) ((xAw es p.1).1 - p.2, (xAw es p.1).2)) at h;rw [e1, <- m7_sub (xAw es p.1).1 p.2 (xAw es p.1), a7c (m7 _ _), <- a7s] at h;exact a7_left h
theorem xJ4 {es : List (QL × List Int)} {p : Int × Int} (hp : xDD p.1 es.length = true) : ∀ (ps : List (Int × Int)) (D : Q7), xBB (xBW es p) D ps = xBB es D ps
 | [], _ => rfl
 | q :: ps, D => by
  show xBB (xBW es p) (a7 D (m7 q.2 (xAw (xBW es p) q.1))) ps = xBB es (a7 D (m7 q.2 (xAw es q.1))) ps;rw [xJ4 hp ps];have : m7 q.2 (xAw (xBW es p) q.1) = m7 q.2 (xAw es q.1) := by
   unfold m7; rw [xL3 hp]
  rw [this]
theorem xL0 : ∀ (ps : List (Int × Int)) (es : List (QL × List Int)) (seen : List Int) (D : Q7), qdr es seen ps = 0 -> a7 (tot (xDZ es ps)) (xBB es D ps) = a7 (tot es) D
 | [], _, _, _, _ => rfl
 | p :: ps, es, seen, D, h => by
  obtain ⟨hp, _, _, _, h5⟩ := xKL h;have ih := xL0 ps (xBW es p) (xLj p.1 seen) (a7 D (m7 p.2 (xAw es p.1))) (xHs hp ps _ ((xDC _ _ _).2 (.inl rfl)) h5);rw [xJ4 hp] at ih;show a7 (tot (xDZ (xBW es p) ps)) (xBB es (a7 D (m7 p.2 (xAw es p.1))) ps) = _;rw [ih, a7c D, <- a7s, xU3 hp]
theorem xNG {es : List (QL × List Int)} : ∀ (ps pre acc s : List Int), xRa es pre acc ps = .inr s -> acc.Pairwise (· < ·) -> s.Pairwise (· < ·) /\ (∀ y ∈ ps, xDD y es.length = true) /\ ∀ x, x ∈ s ↔ x ∈ acc \/ x ∈ ps \/ ∃ y ∈ ps, x ∈ xA1 es y
 | [], pre, acc, s, h, ha => by
  simp only [xRa, Sum.inr.injEq] at h;subst h;exact ⟨ha, by simp, by simp⟩
 | p :: ps, pre, acc, s, h, ha => by
  simp only [xRa] at h
  cases hp : xDD p es.length with
  | false => rw [hp] at h; cases h
  | true =>
   rw [hp] at h;simp only [Bool.not_true, cond_false] at h;by_cases h1 : p ∈ pre
   ·rw [decide_eq_true h1] at h; cases h
   ·rw [decide_eq_false h1, cond_false] at h;obtain ⟨i1, i2, i3⟩ := xNG ps _ _ s h (xFe _ (xHy p ha));refine ⟨i1, ?_, fun x => ?_⟩
    ·intro y hy;rcases List.mem_cons.1 hy with rfl | hy
     ·exact hp
     ·exact i2 y hy
    ·rw [i3, xHm, xDC];constructor
     ·rintro (((rfl | h) | h) | h | ⟨y, h, h2⟩)
      ·exact .inr (.inl (by simp))
      ·exact .inl h
      ·exact .inr (.inr ⟨p, by simp, h⟩)
      ·exact .inr (.inl (by simp [h]))
      ·exact .inr (.inr ⟨y, by simp [h], h2⟩)
     ·rintro (h | h | ⟨y, h, h2⟩)
      ·exact .inl (.inl (.inr h))
      ·rcases List.mem_cons.1 h with rfl | h
       ·exact .inl (.inl (.inl rfl))
       ·exact .inr (.inl h)
      ·rcases List.mem_cons.1 h with rfl | h
       ·exact .inl (.inr h2)
       ·exact .inr (.inr ⟨y, h, h2⟩)
section
variable {es : List (QL × List Int)} {m : QM} {a0 : Q0} {a1 : Q1}
theorem xSr {l : QL} (h : okL l = true) : 0 <= l.1 /\ l.1 <= 1000 := by
 simp only [okL, qLot, Bool.and_eq_true, decide_eq_true_eq] at h;omega
theorem Cnt.app {es : List (QL × List Int)} (hc : Cnt es) {e : QL × List Int} (h : okL e.1 = true) : Cnt (es ++ [e]) := by
 intro x hx;rcases List.mem_append.1 hx with hx | hx
 ·exact hc x hx
 ·rw [List.mem_singleton] at hx;rw [hx]; exact xSr h
theorem anc_old (e : QL × List Int) {y : Int} (hy : xDD y es.length = true) : xA1 (es ++ [e]) y = xA1 es y := by
 have := xAU.1 hy;simp only [xA1];rw [List.getElem?_append_left (by omega)]
theorem anc_new (e : QL × List Int) : xA1 (es ++ [e]) ((es.length : Int) + 1) = e.2 := by
 have : ((es.length : Int) + 1).toNat - 1 = es.length := by omega
 simp only [xA1, this];simp
/-- A lot that was made of others is put in. -/
theorem ret_ok (h : Rep es m a0 a1) {l : QL} {ps s : List Int} (hq : qRet es l ps = .inr s) : okL l = true /\ Rep (es ++ [(l, s)]) (qmf 0 (es.length + 1)) (a0 ++ [(l, a1.length + 1)]) (a1 ++ [some (xCN s)]) /\
  (∀ y ∈ ps, xDD y es.length = true) /\ ∀ x, x ∈ s ↔ x ∈ ps \/ ∃ y ∈ ps, x ∈ xA1 es y := by
 unfold qRet at hq
 cases ho : okL l with
 | false => rw [ho] at hq; cases hq
 | true =>
  rw [ho, cond_true] at hq
  cases hd : decide ((ps.length : Int) > (10 : Int)) with
  | true => rw [hd] at hq; cases hq
  | false =>
   rw [hd, cond_false] at hq;obtain ⟨i1, i2, i3⟩ := xNG ps [] [] s hq List.Pairwise.nil;have i3' : ∀ x, x ∈ s ↔ x ∈ ps \/ ∃ y ∈ ps, x ∈ xA1 es y := fun x => by rw [i3]; simp
   refine ⟨rfl, h.add l s _ _ (fun j x hx => ?_) (.inr ⟨a1.length, rfl, by simp⟩) i1 (fun x hx => ?_), i2, i3'⟩
   ·rw [List.getElem?_append_left (List.getElem?_eq_some_iff.1 hx).1]; exact hx
   ·rcases (i3' x).1 hx with h1 | ⟨y, h1, h2⟩
    ·exact xAU.1 (i2 x h1)
    ·have := (h.anc (i2 y h1)).2 x h2;have := xAU.1 (i2 y h1);omega
end
end Go.Proofs.YthmicafabimfkaaGreatDoor
