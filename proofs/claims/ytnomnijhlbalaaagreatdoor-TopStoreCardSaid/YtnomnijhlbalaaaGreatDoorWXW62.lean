/- A part of the proof of the theorem of the last file. No condition. By an AI agent. -/
import Derived.Test.YtnomnijhlbalaaaGreatDoorWNH2
set_option maxRecDepth 100000
set_option maxHeartbeats 4000000
namespace Go.Proofs.YtnomnijhlbalaaaGreatDoor
open Go.RowKit
theorem xWm {α : Type} {g : List α} {i k : Nat} {d : α} (hk : k < i) (hi : i <= g.length) : (g.take i).drop k = nth g d k :: (g.take i).drop (k + 1) := by
 have h1 : k < (g.take i).length := by rw [List.length_take]; omega
 rw [List.drop_eq_getElem_cons h1, List.getElem_take, xAG g d k (by omega)]
theorem q_ix (F i : Nat) (v : Int) (g : List Int) (hi : i <= g.length) (hi2 : i <= 1000) : ∀ (n k : Nat), k <= i -> i - k < n ->
  ∃ r, ob (xDx F (0, i) v (i : Int) g n (k : Int)) (fun o_ => su o_ (fun s4 => (some s4.1)) (fun _ => (some (-1 : Int)))) = some r /\ decide (r >= (0 : Int)) = decide (v ∈ (g.take i).drop k)
 | 0, k, _, h => by omega
 | n + 1, k, hk, h => by
  simp only [xDx];by_cases hki : k < i
  ·rw [decide_eq_true (show (k : Int) < (i : Int) by omega), cond_true];have hb : inB (k : Int) i = true := by simp [inB]; omega
   rw [hb, cond_true];have e1 : nth g (0 : Int) (addN 0 ((k : Int)).toNat) = nth g 0 k := rfl;rw [xWm (d := (0 : Int)) hki hi];by_cases hv : v = nth g 0 k
   ·rw [show (v == nth g (0 : Int) (addN 0 ((k : Int)).toNat)) = true from by rw [e1]; simpa using hv, cond_true];exact ⟨k, rfl, by rw [decide_eq_true (by omega), decide_eq_true (by rw [hv]; simp)]⟩
   ·rw [show (v == nth g (0 : Int) (addN 0 ((k : Int)).toNat)) = false from by rw [e1]; simpa using hv, cond_false, w64 _ (by omega)];obtain ⟨r, h1, h2⟩ := q_ix F i v g hi hi2 n (k + 1) hki (by omega);refine ⟨r, h1, ?_⟩;rw [h2];exact decide_eq_decide.2 (by simp [hv])
  ·rw [decide_eq_false (show ¬ ((k : Int) < (i : Int)) by omega), cond_false];refine ⟨-1, rfl, ?_⟩;rw [List.drop_eq_nil_of_le (by rw [List.length_take]; omega)];simp
theorem q_cont (F i : Nat) (v : Int) (g : List Int) (hi : i <= g.length) (hi2 : i <= 1000) (hF : i < F) : xGG F (0, i) v g = some (decide (v ∈ g.take i)) := by
 obtain ⟨r, h1, h2⟩ := q_ix F i v g hi hi2 F 0 (Nat.zero_le _) (by omega);have e : xHD F (0, i) v g = some r := h1;unfold xGG;rw [e];show some (decide (r >= (0 : Int))) = _;rw [h2, List.drop_zero]
def xBN (es : List (QL × List Int)) (p : Int) : List Int := match es[p.toNat - 1]? with
 | some e => e.2
 | none => []
def xRm (es : List (QL × List Int)) : List Int -> List Int -> List Int -> Int ⊕ List Int
 | _, acc, [] => .inr acc
 | pre, acc, p :: ps => bif !xDk p es.length then .inl 7 else bif decide (p ∈ pre) then .inl 6 else xRm es (pre ++ [p]) (xRZ (xLI p acc) (xBN es p)) ps
def xAr (es : List (QL × List Int)) (p : Int) : QL := (nth es (dQ.1, []) (p.toNat - 1)).1
section
variable {es : List (QL × List Int)} {O : List Nat} {m : QM} {a0 : Q0} {a1 : Q1}
theorem xBu {p : Int} {n : Nat} : xDk p n = true ↔ 1 <= p /\ p <= (n : Int) := by simp [xDk]
theorem xDR {p : Int} (h : xDk p es.length = true) : es[p.toNat - 1]? = some (xAr es p, xBN es p) := by
 have h1 := xBu.1 h;have hl : p.toNat - 1 < es.length := by omega
 have := List.getElem?_eq_getElem hl;simp [xAr, xBN, nth, this]
theorem bz {n : Nat} (h : 1 <= n) : Nat.beq n 0 = false := by
 cases hq : Nat.beq n 0 with
 | false => rfl
 | true => have := nbT hq; omega
theorem Rep.ent (h : Rep es O m a0 a1) {p : Int} (hp : xDk p es.length = true) : ∃ r, nth a0 dQ (xB2 O p - 1) = (xAr es p, r) /\ inO (xB2 O p) a0.length = true /\ xCv a1 r = true /\ rowAt a1 r = xCx (xBN es p) /\ a0[xB2 O p - 1]? = some (xAr es p, r) /\ O[p.toNat - 1]? = some (xB2 O p) /\ Nat.beq (xB2 O p) 0 = false := by
 obtain ⟨q, r, h1, h2, h3⟩ := h.lot _ _ (xDR hp);have hr : xB2 O p = q + 1 := by simp [xB2, nth, h1]
 have hl := (List.getElem?_eq_some_iff.1 h2).1;rw [hr, Nat.add_sub_cancel];refine ⟨r, by simp [nth, h2], ?_, ?_, ?_, h2, h1, bz (by omega)⟩
 ·simp only [inO, Bool.and_eq_true, Nat.ble_eq]; omega
 ·rcases h3 with ⟨rfl, h3⟩ | ⟨j, rfl, h3⟩
  ·rfl
  ·simp [xCv, h3]
 ·rcases h3 with ⟨rfl, h3⟩ | ⟨j, rfl, h3⟩
  ·rw [show xBN es p = [] from h3]; rfl
  ·simp [rowAt, h3]
theorem q_retL (F : Nat) (hF : 1000 <= F) (h : Rep es O m a0 a1) (g2 : List Int) (hg : g2.length <= 100) (g0 : Q7) (l1 : QL) (hes : es.length <= 1000) : ∀ (ps pre acc : List Int) (n : Nat), g2 = pre ++ ps -> ps.length < n -> acc.Pairwise (· < ·) ->
  xBb F (g2.length : Int) g0 m g2 a0 l1 n (pre.length : Int) a1 (xCx acc) = some (match xRm es pre acc ps with
   | .inl e => .inl ((0, e), (g0, (m, (g2, (a0, a1)))))
   | .inr acc' => .inr (g0, (m, (g2, (a0, (a1, (l1, xCx acc')))))))
 | _, _, _, 0, _, h, _ => absurd h (Nat.not_lt_zero _)
 | [], pre, acc, n + 1, e, _, _ => by
  rw [List.append_nil] at e;simp only [xBb, xRm];rw [decide_eq_false (by rw [e]; omega), cond_false]
 | p :: ps, pre, acc, n + 1, e, hn, ha => by
  have hlen : g2.length = pre.length + (ps.length + 1) := by rw [e]; simp
  simp only [xBb, xRm];rw [decide_eq_true (show (pre.length : Int) < (g2.length : Int) by omega), cond_true];have hb : inB (pre.length : Int) (g2.length - 0) = true := by simp [inB]; omega
  have hc : inC (pre.length : Int) (g2.length - 0) = true := by simp [inC]; omega
  have hnth : nth g2 (0 : Int) ((pre.length : Int)).toNat = p := by
   show nth g2 0 pre.length = p;simp [nth, e]
  rw [hb, cond_true, hnth]
  try rw [cond_false]
  rw [h.get]
  cases hp : xDk p es.length with
  | false => rfl
  | true =>
   have hp1 := xBu.1 hp;obtain ⟨r, k1, ho, hr1, hr2, _, _, hpn⟩ := h.ent hp;simp only [cond_true, hpn, Bool.not_false, cond_false, Bool.not_true, hc];rw [show (((pre.length : Int)).toNat - 0) = pre.length from rfl, q_cont F pre.length p g2 (by omega) (by omega) (by omega)];have htk : g2.take pre.length = pre := by rw [e]; simp
   rw [htk];show (bif decide (p ∈ pre) then _ else _) = _;by_cases hm : p ∈ pre
   ·rw [decide_eq_true hm, cond_true, cond_true]
   ·rw [decide_eq_false hm, cond_false, cond_false];have hnr : (nth a0 dQ (xB2 O p - 1)).2 = r := by rw [k1]
    rw [ho, cond_true, hnr, xOT, q_mcopy F hr1 hr2 (xHC p ha)];show xBb F (g2.length : Int) g0 m g2 a0 l1 n (jI.wrap ((pre.length : Int) + 1)) a1 (xCx (xRZ (xLI p acc) (xBN es p))) = _;rw [w64 _ (by omega)];have ih := q_retL F hF h g2 hg g0 l1 hes ps (pre ++ [p]) (xRZ (xLI p acc) (xBN es p)) n (by rw [e]; simp) (by simp at hn; omega) (xFs _ (xHC p ha));rw [show ((pre ++ [p]).length : Int) = (pre.length : Int) + 1 by simp] at ih;exact ih
def qRet (es : List (QL × List Int)) (l : QL) (ps : List Int) : Int ⊕ List Int := bif okL l then (bif decide ((ps.length : Int) > (10 : Int)) then .inl 5 else xRm es [] [] ps) else .inl 2
theorem xKH (F : Nat) (hF : 1000 <= F) (l : QL) (pl : QP) (ps : List Int) (hps : ps.length <= 100) (h : Rep es O m a0 a1) (hs : es.length < 200) :
  xCj F l pl m ps a0 a1 = some (match qRet es l ps with
   | .inl e => ((0, e), (p7 pl, (m, (a0, a1))))
   | .inr s => (((es.length : Int) + 1, 0), (p7 pl, (qmr 0 (O ++ [a0.length + 1]), (a0 ++ [(l, a1.length + 1)], a1 ++ [some (xCx s)]))))) := by
 unfold xCj qRet okL;rw [qisLot];have fin : ∀ b : Bool, (bif b then (some (((0 : Int), (2 : Int)), (p7 pl, (m, (a0, a1))))) else (bif (decide (((ps.length - 0 : Nat) : Int) > (10 : Int))) then (some (((0 : Int), (5 : Int)), (p7 pl, (m, (a0, a1))))) else (ob (xBb F ((ps.length - 0 : Nat) : Int) (p7 pl) m ps a0 l F (0 : Int) a1 []) (fun o_ => su o_ (fun s3 => (some ((s3.1.1, s3.1.2), (s3.2.1, (s3.2.2.1, (s3.2.2.2.2.1, s3.2.2.2.2.2)))))) (fun s4 => (bif (decide ((s4.2.1.length : Int) >= (200 : Int))) then (some (((0 : Int), (8 : Int)), (s4.1, (s4.2.1, (s4.2.2.2.1, s4.2.2.2.2.1))))) else (some (((jI.wrap ((s4.2.1.length : Int) + (1 : Int))), (0 : Int)), (s4.1, ((xHh (KK.i jI) (jI.wrap ((s4.2.1.length : Int) + (1 : Int))) (s4.2.2.2.1.length + 1) s4.2.1), ((s4.2.2.2.1 ++ ((s4.2.2.2.2.2.1, (s4.2.2.2.2.1.length + 1)) :: [])), (s4.2.2.2.2.1 ++ ((Option.some s4.2.2.2.2.2.2) :: []))))))))))))) = some (match (bif !b then (bif decide ((ps.length : Int) > (10 : Int)) then .inl 5 else xRm es [] [] ps) else .inl 2 : Int ⊕ List Int) with
   | .inl e => ((0, e), (p7 pl, (m, (a0, a1))))
   | .inr s => (((es.length : Int) + 1, 0), (p7 pl, (qmr 0 (O ++ [a0.length + 1]), (a0 ++ [(l, a1.length + 1)], a1 ++ [some (xCx s)])))) ) := by
  intro b
  cases b with
  | true => rfl
  | false =>
   simp only [cond_false, Bool.not_false, cond_true, Nat.sub_zero]
   cases decide ((ps.length : Int) > (10 : Int)) with
   | true => rfl
   | false =>
    simp only [cond_false];have hL := q_retL F hF h ps hps (p7 pl) l (by omega) ps [] [] F (by simp) (by omega) List.Pairwise.nil;simp only [List.length_nil, Int.ofNat_zero] at hL;rw [show xBb F (ps.length : Int) (p7 pl) m ps a0 l F (0 : Int) a1 [] = _ from hL]
    cases xRm es [] [] ps with
    | inl e => rfl
    | inr s =>
     show (bif (decide ((m.length : Int) >= (200 : Int))) then _ else (some (((jI.wrap ((m.length : Int) + (1 : Int))), (0 : Int)), (p7 pl, ((xHh (KK.i jI) (jI.wrap ((m.length : Int) + (1 : Int))) (a0.length + 1) m), ((a0 ++ ((l, (a1.length + 1)) :: [])), (a1 ++ ((Option.some (xCx s)) :: [])))))))) = _;rw [h.mlen, decide_eq_false (show ¬ ((es.length : Int) >= (200 : Int)) by omega), cond_false, w64 _ (by omega), <- h.len, h.map, xTm]
 cases hq : qLot l with
 | false => exact fin true
 | true =>
  have := fin (l.1 == (0 : Int));exact this
end
def a7 (x y : Q7) : Q7 := (x.1 + y.1, (x.2.1 + y.2.1, (x.2.2.1 + y.2.2.1, (x.2.2.2.1 + y.2.2.2.1, (x.2.2.2.2.1 + y.2.2.2.2.1, (x.2.2.2.2.2.1 + y.2.2.2.2.2.1, x.2.2.2.2.2.2 + y.2.2.2.2.2.2))))))
def m7 (n : Int) (l : QL) : Q7 := (n * l.2.1, (n * l.2.2.1.1.1, (n * l.2.2.1.1.2, (n * l.2.2.1.2.1.1, (n * l.2.2.1.2.1.2, (n * l.2.2.1.2.2.1, n * l.2.2.1.2.2.2))))))
def w7 (x : Q7) : Q7 := (jI.wrap x.1, (jI.wrap x.2.1, (jI.wrap x.2.2.1, (jI.wrap x.2.2.2.1, (jI.wrap x.2.2.2.2.1, (jI.wrap x.2.2.2.2.2.1, jI.wrap x.2.2.2.2.2.2))))))
def z7 : Q7 := (0, (0, (0, (0, (0, (0, 0))))))
theorem ww (a b : Int) : jI.wrap (a + jI.wrap b) = jI.wrap (a + b) := by simp only [IntKind.wrap_i64]; omega
theorem ww2 (a b : Int) : jI.wrap (jI.wrap a + b) = jI.wrap (a + b) := by simp only [IntKind.wrap_i64]; omega
theorem w7a (x y : Q7) : w7 (a7 (w7 x) y) = w7 (a7 x y) := by simp only [w7, a7, ww2]
theorem w7b (x y : Q7) : w7 (a7 x (w7 y)) = w7 (a7 x y) := by simp only [w7, a7, ww]
theorem a7c (x y : Q7) : a7 x y = a7 y x := by simp only [a7, Int.add_comm]
theorem a7s (x y z : Q7) : a7 (a7 x y) z = a7 x (a7 y z) := by simp only [a7, Int.add_assoc]
theorem a7z (x : Q7) : a7 z7 x = x := by simp [a7, z7]
def v7 (x : Q7) : QP := (x.1, ((x.2.1, x.2.2.1), ((x.2.2.2.1, x.2.2.2.2.1), (x.2.2.2.2.2.1, x.2.2.2.2.2.2))))
abbrev dPk : Int × Int := D_1
def qdr (es : List (QL × List Int)) : List Int -> List (Int × Int) -> Int
 | _, [] => 0
 | seen, p :: ps => bif !xDk p.1 es.length then 7 else bif decide (p.1 ∈ seen) then 6 else bif decide (p.2 < 1) then 3 else bif decide (p.2 > (xAr es p.1).1) then 22 else qdr es (xLI p.1 seen) ps
def xEU (es : List (QL × List Int)) (p : Int × Int) : List (QL × List Int) := es.set (p.1.toNat - 1) (((xAr es p.1).1 - p.2, (xAr es p.1).2), xBN es p.1)
section
variable {es : List (QL × List Int)} {O : List Nat} {m : QM} {a0 : Q0} {a1 : Q1}
theorem xPH (F : Nat) (h : Rep es O m a0 a1) (hes : es.length <= 1000) (g2 : List (Int × Int)) (hg : g2.length <= 100) (g0 : Q7) : ∀ (ps pre : List (Int × Int)) (seen : List Int) (n : Nat), g2 = pre ++ ps -> ps.length < n ->
  xCd F (g2.length : Int) g0 m g2 a0 a1 n (pre.length : Int) (xCx seen) = some (bif qdr es seen ps == 0 then .inr (g0, (m, (g2, (a0, a1)))) else .inl (qdr es seen ps, (g0, (m, (g2, (a0, a1))))))
 | _, _, _, 0, _, h => absurd h (Nat.not_lt_zero _)
 | [], pre, seen, n + 1, e, _ => by
  rw [List.append_nil] at e;simp only [xCd, qdr];rw [decide_eq_false (by rw [e]; omega), cond_false];rfl
 | p :: ps, pre, seen, n + 1, e, hn => by
  have hlen : g2.length = pre.length + (ps.length + 1) := by rw [e]; simp
  simp only [xCd, qdr];rw [decide_eq_true (show (pre.length : Int) < (g2.length : Int) by omega), cond_true];have hb : inB (pre.length : Int) (g2.length - 0) = true := by simp [inB]; omega
  have hnth : nth g2 dPk ((pre.length : Int)).toNat = p := by
   show nth g2 dPk pre.length = p;simp [nth, e]
  rw [hb, cond_true, hnth]
  try rw [cond_false]
  rw [h.get]
  cases hp : xDk p.1 es.length with
  | false => rfl
  | true =>
   obtain ⟨r, k1, k2, _, _, _, _, hpn⟩ := h.ent hp;simp only [cond_true, hpn, Bool.not_false, cond_false, Bool.not_true];rw [xVU];by_cases hm : p.1 ∈ seen
   ·rw [decide_eq_true hm]; rfl
   ·rw [decide_eq_false hm, cond_false, cond_false];by_cases h1 : p.2 < 1
    ·rw [decide_eq_true h1]; rfl
    ·rw [decide_eq_false h1, cond_false, cond_false, k2, cond_true];simp only [cond_true, k1];by_cases h2 : p.2 > (xAr es p.1).1
     ·rw [decide_eq_true h2]; rfl
     ·rw [decide_eq_false h2, cond_false, cond_false, xOT, w64 _ (by omega)];have ih := xPH F h hes g2 hg g0 ps (pre ++ [p]) (xLI p.1 seen) n (by rw [e]; simp) (by simp at hn; omega);rw [show ((pre ++ [p]).length : Int) = (pre.length : Int) + 1 by simp] at ih;exact ih
def xSo (es : List (QL × List Int)) (ps : List (Int × Int)) : List (QL × List Int) := ps.foldl xEU es
def drawn (es : List (QL × List Int)) (D : Q7) (ps : List (Int × Int)) : Q7 := ps.foldl (fun D p => a7 D (m7 p.2 (xAr es p.1))) D
def Cnt (es : List (QL × List Int)) : Prop := ∀ e ∈ es, 0 <= e.1.1 /\ e.1.1 <= 1000
theorem take_len (p : Int × Int) : (xEU es p).length = es.length := by simp [xEU]
theorem xDm {p : Int × Int} (hp : xDk p.1 es.length = true) (k : Nat) : (xEU es p)[k]? = if k = p.1.toNat - 1 then some (((xAr es p.1).1 - p.2, (xAr es p.1).2), xBN es p.1) else es[k]? := by
 have h1 := xBu.1 hp;unfold xEU;rw [List.getElem?_set];by_cases hk : p.1.toNat - 1 = k
 ·rw [if_pos hk, if_pos hk.symm, if_pos (by omega)]
 ·rw [if_neg hk, if_neg (fun e => hk e.symm)]
theorem xSp {p : Int × Int} (hp : xDk p.1 es.length = true) (q : Int) : (xAr (xEU es p) q).2 = (xAr es q).2 := by
 have e : ∀ es : List (QL × List Int), xAr es q = (es[q.toNat - 1]?.getD (dQ.1, [])).1 := fun es => by simp [xAr, nth]
 rw [e, e, xDm hp];by_cases h : q.toNat - 1 = p.1.toNat - 1
 ·rw [if_pos h, h];have := xDR hp;rw [this]; rfl
 ·rw [if_neg h]
theorem xQ0 {p : Int × Int} (hp : xDk p.1 es.length = true) {q : Int} (hq : xDk q es.length = true) (h : q ≠ p.1) : xAr (xEU es p) q = xAr es q := by
 have h1 := xBu.1 hp;have h2 := xBu.1 hq;have e : ∀ es : List (QL × List Int), xAr es q = (es[q.toNat - 1]?.getD (dQ.1, [])).1 := fun es => by simp [xAr, nth]
 rw [e, e, xDm hp, if_neg (by omega)]
theorem xPE {p : Int × Int} (hp : xDk p.1 es.length = true) : ∀ (ps : List (Int × Int)) (seen : List Int), p.1 ∈ seen -> qdr es seen ps = 0 -> qdr (xEU es p) seen ps = 0
 | [], _, _, _ => rfl
 | q :: ps, seen, hm, h => by
  simp only [qdr] at h ⊢;rw [take_len]
  cases hq : xDk q.1 es.length with
  | false => rw [hq] at h; cases h
  | true =>
   rw [hq] at h;simp only [Bool.not_true, cond_false] at h ⊢;by_cases h1 : q.1 ∈ seen
   ·rw [decide_eq_true h1] at h; cases h
   ·rw [decide_eq_false h1, cond_false] at h ⊢;by_cases h2 : q.2 < 1
    ·rw [decide_eq_true h2] at h; cases h
    ·rw [decide_eq_false h2, cond_false] at h ⊢;have hne : q.1 ≠ p.1 := fun e => h1 (e ▸ hm);rw [xQ0 hp hq hne];by_cases h3 : q.2 > (xAr es q.1).1
     ·rw [decide_eq_true h3] at h; cases h
     ·rw [decide_eq_false h3, cond_false] at h ⊢;exact xPE hp ps _ ((xFU _ _ _).2 (.inr hm)) h
theorem xPF {p : Int × Int} {ps : List (Int × Int)} {seen : List Int} (h : qdr es seen (p :: ps) = 0) : xDk p.1 es.length = true /\ p.1 ∉ seen /\ 1 <= p.2 /\ p.2 <= (xAr es p.1).1 /\ qdr es (xLI p.1 seen) ps = 0 := by
 simp only [qdr] at h
 cases hq : xDk p.1 es.length with
 | false => rw [hq] at h; cases h
 | true =>
  rw [hq] at h;simp only [Bool.not_true, cond_false] at h;by_cases h1 : p.1 ∈ seen
  ·rw [decide_eq_true h1] at h; cases h
  ·rw [decide_eq_false h1, cond_false] at h;by_cases h2 : p.2 < 1
   ·rw [decide_eq_true h2] at h; cases h
   ·rw [decide_eq_false h2, cond_false] at h;by_cases h3 : p.2 > (xAr es p.1).1
    ·rw [decide_eq_true h3] at h; cases h
    ·rw [decide_eq_false h3, cond_false] at h;exact ⟨rfl, h1, by omega, by omega, h⟩
theorem Cnt.at (hc : Cnt es) {p : Int} (hp : xDk p es.length = true) : 0 <= (xAr es p).1 /\ (xAr es p).1 <= 1000 := by
 have := hc (xAr es p, xBN es p) (List.mem_of_getElem? (xDR hp));exact this
theorem Cnt.take (hc : Cnt es) {p : Int × Int} (hp : xDk p.1 es.length = true) (h1 : 1 <= p.2) (h2 : p.2 <= (xAr es p.1).1) : Cnt (xEU es p) := by
 intro e he;obtain ⟨k, hk⟩ := List.mem_iff_getElem?.1 he;rw [xDm hp] at hk;by_cases h : k = p.1.toNat - 1
 ·rw [if_pos h] at hk;cases hk;have := hc.at hp;exact ⟨by show 0 <= (xAr es p.1).1 - p.2; omega, by show (xAr es p.1).1 - p.2 <= 1000; omega⟩
 ·rw [if_neg h] at hk;exact hc e (List.mem_of_getElem? hk)
theorem Rep.take (h : Rep es O m a0 a1) {p : Int × Int} (hp : xDk p.1 es.length = true) {r : Nat} (hr : a0[xB2 O p.1 - 1]? = some (xAr es p.1, r)) :
  Rep (xEU es p) O m (a0.set (xB2 O p.1 - 1) (((xAr es p.1).1 - p.2, (xAr es p.1).2), r)) a1 := by
 have h1 := xBu.1 hp;obtain ⟨_, _, _, _, _, _, g7, g8⟩ := h.ent hp;have hz : 1 <= xB2 O p.1 := by
  rcases Nat.eq_zero_or_pos (xB2 O p.1) with h0 | h0
  ·rw [h0] at g8; cases g8
  ·exact h0
 refine ⟨h.map, by rw [take_len]; exact h.len, h.nd, fun k e hk => ?_, fun e he => ?_, fun k e hk => ?_⟩
 ·rw [xDm hp] at hk;by_cases hq : k = p.1.toNat - 1
  ·rw [if_pos hq] at hk;cases hk;obtain ⟨q, r', g1, g2, g3⟩ := h.lot _ _ (xDR hp);rw [g7] at g1;simp only [Option.some.injEq] at g1;have hq2 : xB2 O p.1 - 1 = q := by omega
   rw [hq2] at hr;rw [g2] at hr;cases hr;refine ⟨q, r, by rw [hq, g7, g1], ?_, g3⟩;rw [hq2, List.getElem?_set, if_pos rfl, if_pos (List.getElem?_eq_some_iff.1 g2).1]
  ·rw [if_neg hq] at hk;obtain ⟨q, r', g1, g2, g3⟩ := h.lot k e hk;refine ⟨q, r', g1, ?_, g3⟩;rw [List.getElem?_set, if_neg, g2];intro e2;have e3 : xB2 O p.1 = q + 1 := by omega
   rw [e3] at g7;exact hq ((List.getElem?_inj (List.getElem?_eq_some_iff.1 g1).1 h.nd).1 (g1.trans g7.symm))
 ·obtain ⟨k, hk⟩ := List.mem_iff_getElem?.1 he;rw [xDm hp] at hk;by_cases hq : k = p.1.toNat - 1
  ·rw [if_pos hq] at hk;cases hk;have := h.srt (xAr es p.1, xBN es p.1) (List.mem_of_getElem? (xDR hp));exact this
  ·rw [if_neg hq] at hk;exact h.srt e (List.mem_of_getElem? hk)
 ·rw [xDm hp] at hk;by_cases hq : k = p.1.toNat - 1
  ·rw [if_pos hq] at hk;cases hk;rw [hq];have := h.rng _ (xAr es p.1, xBN es p.1) (xDR hp);exact this
  ·rw [if_neg hq] at hk;exact h.rng k e hk
def Same (O : List Nat) (a b : Q0) : Prop := b.length = a.length /\ ∀ q : Nat, q + 1 ∉ O -> b[q]? = a[q]?
theorem xPG (F : Nat) (g2 : List (Int × Int)) (hg : g2.length <= 100) : ∀ (ps pre : List (Int × Int)) (seen : List Int) (n : Nat) (es : List (QL × List Int)) (a0 : Q0) (D : Q7), Rep es O m a0 a1 -> es.length <= 1000 -> Cnt es -> g2 = pre ++ ps -> ps.length < n -> qdr es seen ps = 0 ->
  ∃ a0', xC5 F (g2.length : Int) m g2 a1 n (pre.length : Int) (w7 D) a0 = some (w7 (drawn es D ps), (m, (g2, (a0', a1)))) /\ Rep (xSo es ps) O m a0' a1 /\ Cnt (xSo es ps) /\ Same O a0 a0'
 | _, _, _, 0, _, _, _, _, _, _, _, h, _ => absurd h (Nat.not_lt_zero _)
 | [], pre, seen, n + 1, es, a0, D, h, _, hc, e, _, _ => by
  rw [List.append_nil] at e;refine ⟨a0, ?_, h, hc, rfl, fun _ _ => rfl⟩;simp only [xC5, dA, dB, dC];rw [decide_eq_false (by rw [e]; omega), cond_false];rfl
 | p :: ps, pre, seen, n + 1, es, a0, D, h, hes, hc, e, hn, hd => by
  obtain ⟨hp, d1, d2, d3, d4⟩ := xPF hd;have hlen : g2.length = pre.length + (ps.length + 1) := by rw [e]; simp
  have hcc := hc.at hp;obtain ⟨r, k1, k2, _, _, k5, k6, hpn⟩ := h.ent hp;have hq := xBu.1 hp;simp only [xC5, dA, dB, dC];rw [decide_eq_true (show (pre.length : Int) < (g2.length : Int) by omega), cond_true];have hb : inB (pre.length : Int) (g2.length - 0) = true := by simp [inB]; omega
  have hnth : nth g2 dPk ((pre.length : Int)).toNat = p := by
   show nth g2 dPk pre.length = p;simp [nth, e]
  rw [hb, cond_true, hnth, h.get, hp];simp only [cond_true, hpn, Bool.not_false, k2, List.length_set, k1];have e5 : nth (a0.set (xB2 O p.1 - 1) ((jI.wrap ((xAr es p.1).1 - p.2), (xAr es p.1).2), r)) dQ (xB2 O p.1 - 1) = ((jI.wrap ((xAr es p.1).1 - p.2), (xAr es p.1).2), r) := by
   simp [nth, List.getElem?_set, (List.getElem?_eq_some_iff.1 k5).1]
  rw [e5, w64 ((xAr es p.1).1 - p.2) (by omega), w64 _ (by omega)];have ih := xPG F g2 hg ps (pre ++ [p]) (xLI p.1 seen) n (xEU es p) _ (a7 D (m7 p.2 (xAr es p.1))) (h.take (p := p) hp k5) (by rw [take_len]; exact hes) (hc.take hp d2 d3) (by rw [e]; simp) (by simp at hn; omega) (xPE hp ps _ ((xFU _ _ _).2 (.inl rfl)) d4);obtain ⟨a0', i1, i2, i3, i4, i5⟩ := ih;refine ⟨a0', ?_, i2, i3, by rw [i4, List.length_set], fun q hq => ?_⟩;rotate_left
  ·rw [i5 q hq, List.getElem?_set, if_neg];intro e;have := (h.lt (List.mem_of_getElem? k6)).1;exact hq (by rw [<- e, Nat.sub_add_cancel this]; exact List.mem_of_getElem? k6)
  have e7 : drawn (xEU es p) (a7 D (m7 p.2 (xAr es p.1))) ps = drawn es D (p :: ps) := by
   have key : ∀ (ps : List (Int × Int)) (D : Q7), drawn (xEU es p) D ps = drawn es D ps := by
    intro ps
    induction ps with
    | nil => intro D; rfl
    | cons q ps ih2 =>
     intro D;show drawn (xEU es p) (a7 D (m7 q.2 (xAr (xEU es p) q.1))) ps = drawn es (a7 D (m7 q.2 (xAr es q.1))) ps;rw [ih2];have : m7 q.2 (xAr (xEU es p) q.1) = m7 q.2 (xAr es q.1) := by
      unfold m7; rw [xSp hp]
     rw [this]
   exact key ps _
  rw [e7] at i1;rw [show ((pre ++ [p]).length : Int) = (pre.length : Int) + 1 by simp] at i1;rw [<- i1];have e8 : w7 (a7 D (m7 p.2 (xAr es p.1))) = w7 (a7 (w7 D) (w7 (m7 p.2 (xAr es p.1)))) := by rw [w7b, w7a]
  rw [e8];rfl
theorem q_draw (F : Nat) (hF : 1000 <= F) (D : Q7) (ps : List (Int × Int)) (hps : ps.length <= 100) (h : Rep es O m a0 a1) (hs : es.length <= 1000) (hc : Cnt es) :
  (qdr es [] ps ≠ 0 /\ xDN F (v7 (w7 D)) m ps a0 a1 = some (qdr es [] ps, (w7 D, (m, (a0, a1))))) \/
  (qdr es [] ps = 0 /\ ∃ a0', xDN F (v7 (w7 D)) m ps a0 a1 = some (0, (w7 (drawn es D ps), (m, (a0', a1)))) /\ Rep (xSo es ps) O m a0' a1 /\ Cnt (xSo es ps) /\ Same O a0 a0') := by
 have hL := xPH F h hs ps hps (w7 D) ps [] [] F (by simp) (by omega);change xCd F (ps.length : Int) (w7 D) m ps a0 a1 F (0 : Int) [] = _ at hL;by_cases hd : qdr es [] ps = 0
 ·right;refine ⟨hd, ?_⟩;obtain ⟨a0', i1, i2, i3, i4⟩ := xPG (a1 := a1) (m := m) F ps hps ps [] [] F es a0 D h hs hc (by simp) (by omega) hd;simp only [List.length_nil, Int.ofNat_zero] at i1;refine ⟨a0', ?_, i2, i3, i4⟩;rw [hd] at hL;unfold xDN;show ob (xCd F ((ps.length : Int) - 0) (w7 D) m ps a0 a1 F (0 : Int) []) _ = _;rw [Int.sub_zero, hL];show ob (xC5 F ((ps.length : Int) - 0) m ps a1 F (0 : Int) (w7 D) a0) _ = _;rw [Int.sub_zero, i1]
 ·left;refine ⟨hd, ?_⟩;have hbf : (qdr es [] ps == 0) = false := by simpa using hd
  rw [hbf] at hL;unfold xDN;show ob (xCd F ((ps.length : Int) - 0) (w7 D) m ps a0 a1 F (0 : Int) []) _ = _;rw [Int.sub_zero, hL];rfl
end
def tot (es : List (QL × List Int)) : Q7 := es.foldr (fun e A => a7 (m7 e.1.1 e.1) A) z7
def xXA (a0 : Q0) (e : Int × Nat) : Q7 := m7 (nth a0 dQ (e.2 - 1)).1.1 (nth a0 dQ (e.2 - 1)).1
def totP (a0 : Q0) (π : List (Int × Nat)) : Q7 := π.foldr (fun e A => a7 (xXA a0 e) A) z7
theorem a7lc (x y z : Q7) : a7 x (a7 y z) = a7 y (a7 x z) := by rw [<- a7s, a7c x y, a7s]
theorem xSi (a0 : Q0) {π O : List (Int × Nat)} (h : π.Perm O) : totP a0 π = totP a0 O := by
 unfold totP
 induction h with
 | nil => rfl
 | cons x _ ih => simp only [List.foldr_cons, ih]
 | swap x y l => simp only [List.foldr_cons, a7lc]
 | trans _ _ h1 h2 => rw [h1, h2]
theorem xO9 (a0 : Q0) : ∀ (es : List (QL × List Int)) (l : List Nat) (k : Nat), l.length = es.length -> (∀ (j : Nat) e, es[j]? = some e -> ∃ p r, l[j]? = some (p + 1) /\ a0[p]? = some (e.1, r)) -> totP a0 (qmr k l) = tot es
 | [], [], _, _, _ => rfl
 | [], _ :: _, _, h, _ => by simp at h
 | _ :: _, [], _, h, _ => by simp at h
 | e :: es, n :: l, k, hl, h => by
  have ih := xO9 a0 es l (k + 1) (by simpa using hl) (fun j x hj => by
   obtain ⟨p, r, h1, h2⟩ := h (j + 1) x (by simpa using hj);exact ⟨p, r, by simpa using h1, h2⟩)
  obtain ⟨p, r, h1, hr⟩ := h 0 e rfl;simp only [List.getElem?_cons_zero, Option.some.injEq] at h1;have e1 : xXA a0 (((k : Nat) : Int) + 1, n) = m7 e.1.1 e.1 := by
   have : nth a0 dQ (n - 1) = (e.1, r) := by rw [h1, Nat.add_sub_cancel]; simp [nth, hr]
   unfold xXA;show m7 (nth a0 dQ (n - 1)).1.1 (nth a0 dQ (n - 1)).1 = _;rw [this]
  show a7 (xXA a0 (((k : Nat) : Int) + 1, n)) (totP a0 (qmr (k + 1) l)) = a7 (m7 e.1.1 e.1) (tot es);rw [e1, ih]
section
variable {es : List (QL × List Int)} {O : List Nat} {m : QM} {a0 : Q0} {a1 : Q1}
theorem xTr (F : Nat) (q : Q7) (z : QP) : ∀ (π : List (Int × Nat)) (A : Q7), (∀ e ∈ π, 1 <= e.2 /\ e.2 <= a0.length) ->
  xLH (S := xBQ) (o := xBR) (V := (.i .i64)) (U := (.rf 0 0)) (xBm F) (xCg F) (q, (a0, (a1, (v7 (w7 A), z)))) π = some (q, (a0, (a1, (v7 (w7 (a7 A (totP a0 π))), z))))
 | [], A, _ => by
  show some (q, (a0, (a1, (v7 (w7 A), z)))) = _;rw [show totP a0 [] = z7 from rfl, a7c, a7z]
 | e :: π, A, h => by
  have h1 := h e (by simp);have ih := xTr F q z π (a7 A (xXA a0 e)) (fun x hx => h x (by simp [hx]));have hb : Nat.beq e.2 0 = false := by
   cases hq : Nat.beq e.2 0 with
   | false => rfl
   | true => have := nbT hq; omega
  have ho : inO e.2 a0.length = true := by simp only [inO, Bool.and_eq_true, Nat.ble_eq]; exact h1
  have step : xBm F (q, (a0, (a1, (v7 (w7 A), z)))) e = some (.inl (q, (a0, (a1, (v7 (w7 (a7 A (xXA a0 e))), z))))) := by
   unfold xBm;rw [hb];simp only [Bool.not_false, cond_true];rw [show inO e.2 (q, (a0, (a1, (v7 (w7 A), z)))).2.1.length = true from ho];simp only [cond_true];have e8 : w7 (a7 A (xXA a0 e)) = w7 (a7 (w7 A) (w7 (xXA a0 e))) := by rw [w7b, w7a]
   rw [e8];rfl
  show ob (xBm F (q, (a0, (a1, (v7 (w7 A), z)))) e) (fun x => su x (fun s' => xLH (S := xBQ) (o := xBR) (V := (.i .i64)) (U := (.rf 0 0)) (xBm F) (xCg F) s' π) some) = _;rw [step];show xLH (S := xBQ) (o := xBR) (V := (.i .i64)) (U := (.rf 0 0)) (xBm F) (xCg F) (q, (a0, (a1, (v7 (w7 (a7 A (xXA a0 e))), z)))) π = _;rw [ih, a7s];rfl
theorem w7z : w7 z7 = z7 := by decide
theorem Rep.keys (h : Rep es O m a0 a1) {π : List (Int × Nat)} (hπ : π.Perm m) : ∀ e ∈ π, 1 <= e.2 /\ e.2 <= a0.length := by
 intro e he;have := hπ.mem_iff.1 he;rw [h.map] at this;obtain ⟨j, hj, _⟩ := xTk _ _ _ this;exact h.lt (List.mem_of_getElem? hj)
theorem q_sums (F : Nat) (pl : QP) (h : Rep es O m a0 a1) : xFx F pl m a0 a1 = some ((v7 (w7 (tot es)), pl), (p7 pl, (m, (a0, a1)))) := by
 unfold xFx;refine xGK (fun π hπ => ?_);have hk := h.keys hπ;have hr := xTr (a1 := a1) F (p7 pl) (v7 z7) π z7 (fun e he => hk e he);rw [w7z] at hr;have ht : totP a0 π = tot es := by
  rw [xSi a0 hπ, h.map];exact xO9 a0 es O 0 h.len (fun j e hj => by
   obtain ⟨p, r, h1, h2, _⟩ := h.lot j e hj;exact ⟨p, r, h1, h2⟩)
 rw [ht, a7z] at hr;show ob (xLH (S := xBQ) (o := xBR) (V := (.i .i64)) (U := (.rf 0 0)) (xBm F) (xCg F) (p7 pl, (a0, (a1, (v7 z7, v7 z7)))) π) _ = _;rw [hr];rfl
theorem q_find (F : Nat) (p : Int) (pl : QP) (h : Rep es O m a0 a1) : xJ4 F p pl m a0 a1 = some (bif xDk p es.length then ((xB2 O p, 0), (p7 pl, (m, (a0, a1)))) else ((0, 7), (p7 pl, (m, (a0, a1))))) := by
 unfold xJ4;rw [h.get]
 cases hp : xDk p es.length with
 | false => rfl
 | true =>
  obtain ⟨_, _, _, _, _, _, _, hz⟩ := h.ent hp;simp only [cond_true, cond_false, hz];rfl
theorem xNV : ∀ (l : List Int) (a b : Int), l.Pairwise (· < ·) -> (∀ x ∈ l, a <= x /\ x <= b) -> (l.length : Int) <= max 0 (b - a + 1)
 | [], a, b, _, _ => by simp; omega
 | x :: l, a, b, h, hr => by
  obtain ⟨h1, h2⟩ := List.pairwise_cons.1 h;have hx := hr x (by simp);have ih := xNV l (x + 1) b h2 (fun y hy => ⟨by have := h1 y hy; omega, (hr y (by simp [hy])).2⟩);simp only [List.length_cons];omega
theorem srtI_id {l : List Int} (h : l.Pairwise (· < ·)) : xR0 l = l :=
 List.Perm.eq_of_pairwise (le := fun a b => a <= b) (fun a b _ _ h1 h2 => Int.le_antisymm h1 h2) (xCP l) (h.imp (fun h => Int.le_of_lt h)) (xDp l)
theorem Rep.anc (h : Rep es O m a0 a1) {p : Int} (hp : xDk p es.length = true) : (xBN es p).Pairwise (· < ·) /\ ∀ x ∈ xBN es p, 1 <= x /\ x < p := by
 have hq := xBu.1 hp;refine ⟨?_, fun x hx => ?_⟩
 ·have := h.srt (xAr es p, xBN es p) (List.mem_of_getElem? (xDR hp));exact this
 ·have := h.rng _ (xAr es p, xBN es p) (xDR hp) x hx;omega
theorem xWH (F : Nat) (h : Rep es O m a0 a1) (hs : es.length <= 1000) {p : Int} (hp : xDk p es.length = true) {r : Nat} (h1 : xCv a1 r = true) (h2 : rowAt a1 r = xCx (xBN es p)) : xDK F r a1 = some (a1, xBN es p) := by
 obtain ⟨s1, s2⟩ := h.anc hp;have hq := xBu.1 hp;have hlen := xNV (xBN es p) 1 1000 s1 (fun x hx => ⟨(s2 x hx).1, by have := (s2 x hx).2; omega⟩);unfold xDK;rw [h1, h2];have ha : (xCx (xBN es p)).all (fun e => decide (-9223372036854775808 <= e.1) && decide (e.1 <= 9223372036854775807)) = true := by
  refine List.all_eq_true.2 (fun e he => ?_);obtain ⟨x, hx, rfl⟩ := List.mem_map.1 he;have := s2 x hx;simp only [Bool.and_eq_true, decide_eq_true_eq];omega
 have hl : xAR 0 (xCx (xBN es p)).length = true := by
  simp only [xAR, xCx, List.length_map, decide_eq_true_eq];omega
 rw [ha, hl, xOU, srtI_id s1];rfl
theorem xTq (F : Nat) (p : Int) (pl : QP) (h : Rep es O m a0 a1) (hs : es.length <= 1000) : xDM F p pl m a0 a1 = some (bif xDk p es.length then (0, (p7 pl, (m, (a0, (a1, xBN es p))))) else (7, (p7 pl, (m, (a0, (a1, [])))))) := by
 unfold xDM;rw [q_find F p pl h]
 cases hp : xDk p es.length with
 | false => rfl
 | true =>
  obtain ⟨r, k1, k2, k3, k4, _, _, hz⟩ := h.ent hp;show (bif (!(Nat.beq (xB2 O p) 0)) then (bif (!(Nat.beq (xB2 O p) 0)) then (bif (inO (xB2 O p) a0.length) then (ob (xDK F (nth a0 dQ (xB2 O p - 1)).2 a1) (fun r1 => (some ((0 : Int), (p7 pl, (m, (a0, (r1.1, r1.2)))))))) else none) else none) else none) = _;rw [hz, k2, k1, xWH F h hs hp k3 k4];rfl
end
section
open Go.Proofs Go.Lib M3
theorem xDV {α : Type} (c : UInt8) (f : α -> List UInt8) (k : Nat) : ∀ l : List α, (∀ x ∈ l, (f x).length <= k) -> (xAl c (l.map f)).length <= (k + 1) * l.length
 | [], _ => by simp [xAl]
 | [x], h => by have := h x (by simp); simp [xAl]; omega
 | x :: y :: l, h => by
  have ih := xDV c f k (y :: l) (fun z hz => h z (List.mem_cons_of_mem _ hz));have h1 := h x (by simp);show (f x ++ c :: xAl c ((y :: l).map f)).length <= _;simp only [List.length_append, List.length_cons] at ih ⊢;rw [Nat.mul_add (k + 1) (l.length + 1) 1];omega
theorem xK6 {α : Type} (c d : UInt8) (f : α -> List UInt8) (hd : d ≠ c) : ∀ l : List α, (∀ x ∈ l, d ∉ f x) -> d ∉ xAl c (l.map f)
 | [], _ => by simp [xAl]
 | [x], h => h x (by simp)
 | x :: y :: l, h => by
  have ih := xK6 c d f hd (y :: l) (fun z hz => h z (List.mem_cons_of_mem _ hz));intro hm;rcases List.mem_append.1 (show d ∈ f x ++ c :: xAl c ((y :: l).map f) from hm) with hm | hm
  ·exact h x (by simp) hm
  ·rcases List.mem_cons.1 hm with hm | hm
   ·exact hd hm
   ·exact ih hm
def pk1 (p : Int × Int) : List UInt8 := itoa p.1 ++ 58 :: itoa p.2
def pkT (l : List (Int × Int)) : List UInt8 := xAl 44 (l.map pk1)
def NmP (l : List (Int × Int)) : Prop := ∀ p ∈ l, Nm p.1 /\ Nm p.2
theorem pk1_no (p : Int × Int) (c : UInt8) (h : c.toNat ≠ 45 /\ c.toNat ≠ 58 /\ (c.toNat < 48 \/ 57 < c.toNat)) : c ∉ pk1 p := fun hm => by
 rcases List.mem_append.1 hm with hm | hm
 ·exact xBH _ _ ⟨h.1, h.2.2⟩ hm
 ·rcases List.mem_cons.1 hm with hm | hm
  ·exact h.2.1 (by rw [hm]; rfl)
  ·exact xBH _ _ ⟨h.1, h.2.2⟩ hm
theorem xKM {p : Int × Int} (h : Nm p.1 /\ Nm p.2) : (pk1 p).length <= 35 := by
 have h1 := xAU _ h.1;have h2 := xAU _ h.2;simp [pk1]; omega
section
variable (F : Nat)
theorem cut_pk {p : Int × Int} (h : Nm p.1 /\ Nm p.2) : xLv F (bs (pk1 p)) (ByteArray.mk (Array.mk (58 :: []))) = some (bs (itoa p.1), (bs (itoa p.2), true)) := by
 have hl := xKM h;unfold xLv;rw [show decide ((bs (pk1 p)).size < 4294967281) = true from decide_eq_true (by rw [xAC]; omega), cond_true];have : Lib.cut (bs (pk1 p)).data.toList ((ByteArray.mk (Array.mk (58 :: []))).data.toList) = (itoa p.1, itoa p.2, true) := by
  show Lib.cut (pk1 p) [58] = _;rw [show pk1 p = itoa p.1 ++ [58] ++ itoa p.2 by simp [pk1]];exact cut_at 58 [] (itoa p.1) (itoa p.2) (xBH _ 58 (by decide))
 rw [this]
theorem xTJ {α β : Type} (f : α -> β) (l : List α) (d : β) (d' : α) {i : Nat} (h : i < l.length) : nth (l.map f) d i = f (nth l d' i) := by
 simp [nth, h]
theorem xD3 {α : Type} (l : List α) (d : α) {i : Nat} (h : i < l.length) : l.drop i = nth l d i :: l.drop (i + 1) := by
 rw [List.drop_eq_getElem_cons h, xAG l d i h]
theorem picksL (X) (g1 g2 g3 g5) (pks : List (Int × Int)) (hN : NmP pks) (hl : pks.length <= 1000) : ∀ (j k i : Nat) (acc : List (Int × Int)), i + j = pks.length -> j < k -> acc.length <= i ->
  xCQ F ((pks.map (fun p => bs (pk1 p))).length - 0 : Int) X g1 g2 g3 g5 (pks.map (fun p => bs (pk1 p))) k (i : Int) acc = some (.inr (X, (g1, (g2, (g3, (g5, acc ++ pks.drop i))))))
 | _, 0, _, _, _, h, _ => absurd h (Nat.not_lt_zero _)
 | 0, k + 1, i, acc, hi, _, _ => by
  rw [xCQ];refine xAs (decide_eq_false (by simp; omega)) ?_;rw [List.drop_eq_nil_of_le (by omega), List.append_nil]
 | j + 1, k + 1, i, acc, hi, hj, ha => by
  have hlt : i < pks.length := by omega
  have hp : nth pks dPk i ∈ pks := by
   have : nth pks dPk i = pks[i] := by simp [nth, hlt]
   rw [this]; exact List.getElem_mem _
  have hn := hN _ hp;have ih := picksL X g1 g2 g3 g5 pks hN hl j k (i + 1) (acc ++ [nth pks dPk i]) (by omega) (by omega) (by simp; omega);rw [xCQ];refine xAd (decide_eq_true (by simp; omega)) ?_;refine xAd (by simp [inB]; omega) ?_;have e1 : nth (pks.map (fun p => bs (pk1 p))) (TC.dflt .str) (i : Int).toNat = bs (pk1 (nth pks dPk i)) := xTJ _ _ _ _ hlt;rw [e1];refine xAf (cut_pk F hn) ?_;refine xAf (xAD F _ hn.1.1 hn.1.2) ?_;refine xAf (xAD F _ hn.2.1 hn.2.2) ?_;refine xAs rfl (xAs rfl ?_);refine xAd (by simp [xAR]; omega) ?_;rw [show jI.wrap ((i : Int) + 1) = ((i + 1 : Nat) : Int) by rw [IntKind.wrap_i64]; omega];refine Eq.trans ih ?_;rw [xD3 pks dPk hlt];simp
theorem xWW (hF : 2000 < F) (pks : List (Int × Int)) (h0 : pks ≠ []) (hN : NmP pks) (hl : pks.length <= 1000) (k : List ByteArray) : xFH F (bs (pkT pks)) zX [] [] [] [] k = some (true, (zX2, pks)) := by
 have hs : xBZ F (bs (pkT pks)) (ByteArray.mk (Array.mk (44 :: []))) = some ((pks.map pk1).map bs) := by
  refine xH4 F 44 (pks.map pk1) (by simpa using h0) (fun x hx => ?_) ?_
  ·obtain ⟨p, hp, rfl⟩ := List.mem_map.1 hx;exact pk1_no _ _ (by decide)
  ·have := xDV 44 pk1 35 pks (fun p hp => xKM (hN p hp));show (pkT pks).length <= _;unfold pkT;omega
 unfold xFH;refine xAf hs ?_;rw [List.map_map];have := picksL F zX2 [] [] [] k pks hN hl pks.length F 0 [] (by omega) (by omega) (by simp);refine xAf this ?_;rfl
theorem firstL (X) (g1 g2 g3 g5) (pks : List (Int × Int)) (hl : pks.length <= 1000) : ∀ (j k i : Nat) (acc : List Int), i + j = pks.length -> j < k -> acc.length <= i ->
  xCZ F (pks.length - 0 : Int) X g1 g2 g3 pks g5 k (i : Int) acc = some (X, (g1, (g2, (g3, (pks, (g5, acc ++ (pks.drop i).map Prod.fst))))))
 | _, 0, _, _, _, h, _ => absurd h (Nat.not_lt_zero _)
 | 0, k + 1, i, acc, hi, _, _ => by
  rw [xCZ];refine xAs (decide_eq_false (by omega)) ?_;rw [List.drop_eq_nil_of_le (by omega), List.map_nil, List.append_nil]
 | j + 1, k + 1, i, acc, hi, hj, ha => by
  have hlt : i < pks.length := by omega
  have ih := firstL X g1 g2 g3 g5 pks hl j k (i + 1) (acc ++ [(nth pks dPk i).1]) (by omega) (by omega) (by simp; omega);rw [xCZ];refine xAd (decide_eq_true (by omega)) ?_;refine xAd (by simp [inB]; omega) ?_;refine xAd (by simp [xAR]; omega) ?_;rw [show jI.wrap ((i : Int) + 1) = ((i + 1 : Nat) : Int) by rw [IntKind.wrap_i64]; omega];refine Eq.trans ih ?_;rw [xD3 pks dPk hlt];simp
theorem xLh (hF : 2000 < F) (x) (g1 g2 g3 g5) (pks : List (Int × Int)) (hl : pks.length <= 1000) : ∃ X, xDb F x g1 g2 g3 pks g5 = some (X, pks.map Prod.fst) /\ X = (x.1.1.1, (x.1.1.2, (x.1.2.1.1, (x.1.2.1.2, (x.1.2.2.1.1, (x.1.2.2.1.2, (x.1.2.2.2.1.1, (x.1.2.2.2.1.2, (x.1.2.2.2.2.1.1, (x.1.2.2.2.2.1.2, (x.1.2.2.2.2.2.1, (x.1.2.2.2.2.2.2, x.2)))))))))))) := by
 refine ⟨_, ?_, rfl⟩;unfold xDb;have := firstL F (x.1.1.1, (x.1.1.2, (x.1.2.1.1, (x.1.2.1.2, (x.1.2.2.1.1, (x.1.2.2.1.2, (x.1.2.2.2.1.1, (x.1.2.2.2.1.2, (x.1.2.2.2.2.1.1, (x.1.2.2.2.2.1.2, (x.1.2.2.2.2.2.1, (x.1.2.2.2.2.2.2, x.2)))))))))))) g1 g2 g3 g5 pks hl pks.length F 0 [] (by omega) (by omega) (by simp);exact xAf this rfl
theorem xXu (hF : 2000 < F) (g5) (pks : List (Int × Int)) (hl : pks.length <= 1000) : xDb F zX [] [] [] pks g5 = some (zX2, pks.map Prod.fst) := by
 obtain ⟨X, h1, rfl⟩ := xLh F hF zX [] [] [] g5 pks hl;exact h1
end
section
variable {es : List (QL × List Int)} {O : List Nat} {m : QM} {a0 : Q0} {a1 : Q1}
def zL1 : QL := (0, (0, (((0, 0), ((0, 0), (0, 0))), 0)))
theorem xWI (F : Nat) (p : Int) (pl : QP) (h : Rep es O m a0 a1) : xFA F p pl m a0 a1 = some (bif xDk p es.length then ((xAr es p, 0), (p7 pl, (m, (a0, a1)))) else ((zL1, 7), (p7 pl, (m, (a0, a1))))) := by
 unfold xFA;rw [q_find F p pl h]
 cases hp : xDk p es.length with
 | false => rfl
 | true =>
  obtain ⟨r, k1, k2, _, _, _, _, hz⟩ := h.ent hp;refine xAf rfl ?_;show (bif (!(Nat.beq (xB2 O p) 0)) then (bif (!(Nat.beq (xB2 O p) 0)) then (bif (inO (xB2 O p) a0.length) then (some (((nth a0 dQ (xB2 O p - 1)).1, (0 : Int)), (p7 pl, (m, (a0, a1))))) else none) else none) else none) = _;rw [hz, k2, k1];rfl
end
end
open Go.Proofs
noncomputable section
def stb_T (F : Nat) : List Ent := xMX F :: xPx F
theorem xKw (F : Nat) : xAj Tryz.prog (stb_T F) := ⟨⟨by kernel_rfl, xIy F⟩, xN1 F⟩
end
noncomputable section
abbrev lotsW_n : Nat := 2
def xDQ (F : Nat) (t11 : Int) (g0 : T_5) (g1 : (List Int)) (g2 : (List (Int × Int))) (g3 : (List T_0)) (g5 : (List ByteArray)) (t10 : (List ByteArray)) : Nat -> Int -> (List (Int × Int)) -> Option ((Bool × (T_5 × ((List Int) × ((List (Int × Int)) × ((List T_0) × ((List ByteArray) × (List (Int × Int)))))))) ⊕ (T_5 × ((List Int) × ((List (Int × Int)) × ((List T_0) × ((List ByteArray) × (List (Int × Int))))))))
 | 0, _, _ => none
 | n_ + 1, t12, g11 => (bif (decide (t12 < t11)) then (bif (inB t12 (t10.length - 0)) then (ob (xAw F (nth t10 (TC.dflt .str) t12.toNat)) (fun r1 => (bif (!r1.2) then (some (.inl (false, (g0, g1, g2, g3, g5, g11)))) else (bif (xAR (g11.length - 0) ((r1.1, (0 : Int)) :: []).length) then (xDQ F t11 g0 g1 g2 g3 g5 t10 n_ (jI.wrap (t12 + 1)) (g11 ++ ((r1.1, (0 : Int)) :: []))) else none)))) else none) else (some (.inr (g0, g1, g2, g3, g5, g11))))
abbrev xJQ : Sch := ⟨[(0, .c (.k (.pt 0 0 0 0))), (10, .c (.k (.sl 6 1))), (11, .c .i), (12, .c .i)], [.blk 137 [.k (.sl 1 1), .k (.sl 2 2), .k (.sl 3 6), .i, .i, .i, .i, .i, .i, .i, .i, .i, .i, .i, .i, .k (.sl 7 2), .k (.sl 5 1), .t .str], .ro .i, K_5, .ro C_0, .dead, .ro .str, .rows 9 .str, .rows 265 (.pair .i .i)]⟩
abbrev xJR : xBY := [(.ret, ⟨[(4, .c (.t .bool))], [K_13, .ro .i, K_5, .ro C_0, .dead, .ro .str, .rows 265 (.pair .i .i)]⟩), ((.exit 0), ⟨[], [K_13, .ro .i, K_5, .ro C_0, .dead, .ro .str, .rows 265 (.pair .i .i)]⟩)]
theorem xOp (F : Nat) : ∀ n, xAS Tryz.prog 6 (xAv Tryz.prog 100 lotsW_n) (xAt (xAi Tryz.prog 100) [1, 0, 1, 0, 0]) xJQ xJR (fun s => (xDQ F s.1.1 s.2.1 s.2.2.1 s.2.2.2.1 s.t4.1 s.t5.1 s.t6.1 n s.1.2 s.t7)) :=
 lK (an := .no) (xKw F) (trivial)
def xGq (F : Nat) (s1 : ByteArray) (x : (((Int × Int) × ((Int × Int) × ((Int × Int) × T_0))) × ByteArray)) (xn : (List Int)) (xr : (List (Int × Int))) (xb : (List T_0)) (xp : (List (Int × Int))) (xm : (List ByteArray)) : Option ((Bool × (T_5 × (List (Int × Int))))) := (ob (xBZ F s1 (ByteArray.mk (Array.mk (44 :: [])))) (fun r => (ob (xDQ F ((r.length - 0) : Int) (x.1.1.1, (x.1.1.2, (x.1.2.1.1, (x.1.2.1.2, (x.1.2.2.1.1, (x.1.2.2.1.2, (x.1.2.2.2.1.1, (x.1.2.2.2.1.2, (x.1.t4.1.1, (x.1.t4.1.2, (x.1.t5.1, (x.1.t6, x.2)))))))))))) xn xr xb xm r F 0 xp) (fun o_ => su o_ (fun s2 => (some (s2.1, (s2.2.1, s2.t6)))) (fun s3 => (some (true, (s3.1, s3.t5))))))))
abbrev xT6 : Sch := ⟨[(0, .c (.k (.pt 0 0 0 0))), (1, .c (.t .str))], [K_29, .ro .i, K_5, .ro C_0, .rows 265 (.pair .i .i), .ro .str]⟩
abbrev xT5 : FSch := ⟨.one (.c (.t .bool)), [K_13, .dead, .dead, .dead, .dead, .dead, .rows 265 (.pair .i .i)]⟩
def lotsW_E (F : Nat) : Ent := ⟨100, 2, xT6, xT5, fun s => xGq F s.1 s.2.1 s.2.2.1 s.2.2.2.1 s.t4.1 s.t5.1 s.t6, []⟩
theorem xW7 (F : Nat) : FnSem Tryz.prog 100 2 xT6 xT5 (fun s => xGq F s.1 s.2.1 s.2.2.1 s.2.2.2.1 s.t4.1 s.t5.1 s.t6) :=
 fK (an := (.two .no (.two (.two .no (.one (.loop xJQ xJR (fun s => (xDQ F s.1.1 s.2.1 s.2.2.1 s.2.2.2.1 s.t4.1 s.t5.1 s.t6.1 F s.1.2 s.t7))))) .no))) (xKw F) (⟨trivial, ⟨⟨trivial, (xOp F F)⟩, trivial⟩⟩)
def xT4 (F : Nat) : List Ent := lotsW_E F :: stb_T F
theorem xGp (F : Nat) : xAj Tryz.prog (xT4 F) := ⟨⟨by kernel_rfl, xW7 F⟩, xKw F⟩
abbrev listW_n : Nat := 1
def xDS (F : Nat) (t10 : Int) (g0 : (List Int)) : Nat -> Int -> (List ByteArray) -> Option (((List Int) × (List ByteArray)))
 | 0, _, _ => none
 | n_ + 1, t11, out => (bif (decide (t11 < t10)) then (bif (inB t11 (g0.length - 0)) then (ob (xBT F (nth g0 0 t11.toNat)) (fun r => (bif (xAR (out.length - 0) (r :: []).length) then (xDS F t10 g0 n_ (jI.wrap (t11 + 1)) (out ++ (r :: []))) else none))) else none) else (some (g0, out)))
abbrev xJS : Sch := ⟨[(3, .c (.k (.sl 1 1))), (9, .c (.k (.sl 0 1))), (10, .c .i), (11, .c .i)], [.ro .i, .rows 9 .str]⟩
abbrev xJT : xBY := [((.exit 0), ⟨[(3, .c (.k (.sl 1 1)))], [.ro .i, .rows 9 .str]⟩)]
theorem xOr (F : Nat) : ∀ n, xAS Tryz.prog 1 (xAv Tryz.prog 143 listW_n) (xAt (xAi Tryz.prog 143) [1, 1, 1, 0, 1, 0, 0]) xJS xJT (fun s => (xDS F s.1.1 s.2.1 n s.1.2 s.2.2)) :=
 lK (an := .no) (xGp F) (trivial)
def xGr (F : Nat) (l : (List Int)) : Option (ByteArray) := (bif (((l.length - 0) : Int) == 0) then (some (ByteArray.mk (Array.mk (45 :: [])))) else (ob (xDS F ((l.length - 0) : Int) l F 0 []) (fun s1 => (ob (xEs F (ByteArray.mk (Array.mk (44 :: []))) s1.2) (fun r1 => (some r1))))))
abbrev xUg : Sch := ⟨[(0, .c (.k (.sl 0 1)))], [.ro .i]⟩
abbrev xUf : FSch := ⟨.one (.c (.t .str)), [.dead]⟩
def listW_E (F : Nat) : Ent := ⟨143, 1, xUg, xUf, fun s => xGr F s, []⟩
theorem xXc (F : Nat) : FnSem Tryz.prog 143 1 xUg xUf (fun s => xGr F s) :=
 fK (an := (.two .no (.two .no (.two .no (.two (.two .no (.one (.loop xJS xJT (fun s => (xDS F s.1.1 s.2.1 F s.1.2 s.2.2))))) .no))))) (xGp F) (⟨trivial, ⟨trivial, ⟨trivial, ⟨⟨trivial, (xOr F F)⟩, trivial⟩⟩⟩⟩)
def xUe (F : Nat) : List Ent := listW_E F :: xT4 F
theorem xRw (F : Nat) : xAj Tryz.prog (xUe F) := ⟨⟨by kernel_rfl, xXc F⟩, xGp F⟩
end
end Go.Proofs.YtnomnijhlbalaaaGreatDoor
