/- A part of the proof of the theorem of the last file. No condition. By an AI agent. -/
import Derived.Test.YtnomnijhlbalaaaGreatDoorWXW70
set_option maxRecDepth 100000
set_option maxHeartbeats 4000000
namespace Go.Proofs.YtnomnijhlbalaaaGreatDoor
section
open Go.RowKit Go.Proofs Go.Lib M3
section
variable (F : Nat) (σ : Tst0) (lots : Tlo) (I wf : Tnm) (a0 : Ta0) (a1 : Ta1) (a2 : List Tig) (a3 : Ta3) (a4 : Ta4)
theorem xE6 {l : List (List UInt8)} {n : Nat} (h : (xAl 32 l).length <= n) (hn : n <= 2000) : (bs (xAl 32 l)).size <= 2000 := by rw [xAC]; omega
theorem xUa {c m k : Int} {b : Tb} {r} (h : xCW F (bs (xAl 32 (xP0 c m b k))) σ lots I wf a0 a1 a2 a3 a4 = some r) : xBe F (inS (bs (xAl 32 (xP0 c m b k))) σ lots I wf a0 a1 a2 a3 a4) = some r := by
 rw [xCU]; exact xFK h
theorem xT9 {c m k : Int} {b : Tb} {ps : List Int} (hc : Nm c) (hm : Nm m) (hb : NmB b) (hk : Nm k) (hp : NmL ps) (hl : ps.length <= 50) {r} (h : xCV F (bs (xAl 32 (xR1 c m b k ps))) σ lots I wf a0 a1 a2 a3 a4 = some r) : xBe F (inS (bs (xAl 32 (xR1 c m b k ps))) σ lots I wf a0 a1 a2 a3 a4) = some r := by
 obtain ⟨hw, hlen⟩ := xTb hc hm hb hk hp hl;rw [xCU];exact xA6 (xMN F _ (xE6 hlen (by decide)) _ _ _ _ _ _ _ _ _ noI) (xFK h)
theorem xP2 {n : Int} (hn : Nm n) {r} (h : xB4 F (bs (xAl 32 (xOj xNB n))) σ lots I wf a0 a1 a2 a3 a4 = some r) : xBe F (inS (bs (xAl 32 (xOj xNB n))) σ lots I wf a0 a1 a2 a3 a4) = some r := by
 obtain ⟨hw, hlen⟩ := xKQ (c := xNB) (by decide) (by decide) hn;rw [xCU];exact xA6 (xMN F _ (xE6 hlen (by decide)) _ _ _ _ _ _ _ _ _ noI) (xA6 (xPC F _ (xE6 hlen (by decide)) _ _ _ _ _ _ _ _ _ noI) (xFK h))
theorem xT8 {n : Int} (hn : Nm n) {r} (h : xCT F (bs (xAl 32 (xOj cTrc n))) σ lots I wf a0 a1 a2 a3 a4 = some r) : xBe F (inS (bs (xAl 32 (xOj cTrc n))) σ lots I wf a0 a1 a2 a3 a4) = some r := by
 obtain ⟨hw, hlen⟩ := xKQ (c := cTrc) (by decide) (by decide) hn;rw [xCU];exact xA6 (xMN F _ (xE6 hlen (by decide)) _ _ _ _ _ _ _ _ _ noI) (xA6 (xPC F _ (xE6 hlen (by decide)) _ _ _ _ _ _ _ _ _ noI) (xA6 (xOv F _ (xE6 hlen (by decide)) _ _ _ _ _ _ _ _ _ noI) (xFK h)))
theorem xW9 {r : Int × Int} {b : Tb} {ps : List Int} (h1 : Nm r.1) (h2 : Nm r.2) (hb : NmB b) (hp : NmL ps) (hl : ps.length <= 50) {x} (h : xB5 F (bs (xAl 32 (xD7 r b ps))) σ lots I wf a0 a1 a2 a3 a4 = some x) : xBe F (inS (bs (xAl 32 (xD7 r b ps))) σ lots I wf a0 a1 a2 a3 a4) = some x := by
 obtain ⟨hw, hlen⟩ := xNG h1 h2 hb hp hl;rw [xCU];exact xA6 (xMN F _ (xE6 hlen (by decide)) _ _ _ _ _ _ _ _ _ noI) (xA6 (xPC F _ (xE6 hlen (by decide)) _ _ _ _ _ _ _ _ _ noI) (xA6 (xOv F _ (xE6 hlen (by decide)) _ _ _ _ _ _ _ _ _ noI) (xA6 (trc_no F _ (xE6 hlen (by decide)) _ _ _ _ _ _ _ _ _ noI) (xFK h))))
theorem lnS_chg {pks : List (Int × Int)} (hN : NmP pks) (hl : pks.length <= 20) {x} (h : xCm F (bs (xAl 32 (xV4 pks))) σ lots I wf a0 a1 a2 a3 a4 = some x) : xBe F (inS (bs (xAl 32 (xV4 pks))) σ lots I wf a0 a1 a2 a3 a4) = some x := by
 obtain ⟨hw, hlen⟩ := xVe hN hl;rw [xCU];exact xA6 (xMN F _ (xE6 hlen (by decide)) _ _ _ _ _ _ _ _ _ noI) (xA6 (xPC F _ (xE6 hlen (by decide)) _ _ _ _ _ _ _ _ _ noI) (xA6 (xOv F _ (xE6 hlen (by decide)) _ _ _ _ _ _ _ _ _ noI) (xA6 (trc_no F _ (xE6 hlen (by decide)) _ _ _ _ _ _ _ _ _ noI) (xA6 (best_no F _ (xE6 hlen (by decide)) _ _ _ _ _ _ _ _ _ noI) h))))
end
theorem xPZ (c m : Int) (b : Tb) (k : Int) : (ByteArray.mk (Array.mk (108 :: (111 :: (116 :: (32 :: [])))))) ++ ((((((bs (itoa c) ++ B_0) ++ bs (itoa m)) ++ B_0) ++ bs (bdT b)) ++ B_0) ++ bs (itoa k)) = bs (xAl 32 (xP0 c m b k)) := by
 show bs [108, 111, 116, 32] ++ ((((((bs (itoa c) ++ bs [32]) ++ bs (itoa m)) ++ bs [32]) ++ bs (bdT b)) ++ bs [32]) ++ bs (itoa k)) = _;rw [xAE, xAE, xAE, xAE, xAE, xAE, xAE];congr 1;simp [xAl, xP0, cLot]
theorem xWE (c m : Int) (b : Tb) (k : Int) (ps : List Int) : ((((ByteArray.mk (Array.mk (114 :: (101 :: (116 :: (117 :: (114 :: (110 :: (32 :: []))))))))) ++ ((((((bs (itoa c) ++ B_0) ++ bs (itoa m)) ++ B_0) ++ bs (bdT b)) ++ B_0) ++ bs (itoa k))) ++ B_0) ++ bs (xHg ps)) = bs (xAl 32 (xR1 c m b k ps)) := by
 show ((bs [114, 101, 116, 117, 114, 110, 32] ++ ((((((bs (itoa c) ++ bs [32]) ++ bs (itoa m)) ++ bs [32]) ++ bs (bdT b)) ++ bs [32]) ++ bs (itoa k))) ++ bs [32]) ++ bs (xHg ps) = _;rw [xAE, xAE, xAE, xAE, xAE, xAE, xAE, xAE, xAE];congr 1;simp [xAl, xR1, cRet]
def Okl (es : List (QL × List Int)) : Prop := ∀ e ∈ es, okL e.1 = true
theorem Okl.cnt {es : List (QL × List Int)} (h : Okl es) : Cnt es := fun e he => by
 have := h e he;simp only [okL, qLot, Bool.and_eq_true, decide_eq_true_eq] at this;omega
structure Inv2 (es : List (QL × List Int)) (σ O : List Nat) (ms mw : QM) (a0 : Q0) (a1 : Q1) (n : Nat) : Prop where
 s : Rep es σ ms a0 a1
 w : Rep es O mw a0 a1
 dis : ∀ x ∈ σ, x ∉ O
 ok : Okl es
 len : es.length <= n
theorem xDX {α : Type} (l r : List α) (j : Nat) (x : α) (h : l[j]? = some x) : (l ++ r)[j]? = some x := by
 rw [List.getElem?_append_left (List.getElem?_eq_some_iff.1 h).1]; exact h
theorem Inv2.add {es : List (QL × List Int)} {σ O : List Nat} {ms mw : QM} {a0 : Q0} {a1 : Q1} {n : Nat} (h : Inv2 es σ O ms mw a0 a1 n) {l : QL} (s : List Int) (r1 r2 : Nat) (b c : Q1)
  (hl : okL l = true) (h1 : (r1 = 0 /\ s = []) \/ ∃ j, r1 = j + 1 /\ (a1 ++ b)[j]? = some (some (xCx s))) (h2 : (r2 = 0 /\ s = []) \/ ∃ j, r2 = j + 1 /\ ((a1 ++ b) ++ c)[j]? = some (some (xCx s)))
  (hs : s.Pairwise (· < ·)) (hg : ∀ x ∈ s, 1 <= x /\ x <= (es.length : Int)) : Inv2 (es ++ [(l, s)]) (σ ++ [a0.length + 1]) (O ++ [(a0 ++ [(l, r1)]).length + 1]) (qmr 0 (σ ++ [a0.length + 1])) (qmr 0 (O ++ [(a0 ++ [(l, r1)]).length + 1])) ((a0 ++ [(l, r1)]) ++ [(l, r2)]) ((a1 ++ b) ++ c) (n + 1) := by
 have g1 := (h.s.add l s r1 (a1 ++ b) (xDX a1 b) h1 hs hg).mono (a0' := (a0 ++ [(l, r1)]) ++ [(l, r2)]) (a1' := (a1 ++ b) ++ c) (fun p x _ hx => xDX _ _ p x hx) (xDX _ _);have g2 := (h.w.mono (a0' := a0 ++ [(l, r1)]) (a1' := a1 ++ b) (fun p x _ hx => xDX _ _ p x hx) (xDX _ _)).add l s r2 ((a1 ++ b) ++ c) (xDX _ _) h2 hs hg;refine ⟨g1, g2, fun x hx hx2 => ?_, fun e he => ?_, by have := h.len; simp; omega⟩
 ·rcases List.mem_append.1 hx with hx | hx
  ·have := h.s.lt hx;rcases List.mem_append.1 hx2 with hx2 | hx2
   ·exact h.dis x hx hx2
   ·simp only [List.mem_singleton, List.length_append, List.length_cons, List.length_nil] at hx2;omega
  ·rw [List.mem_singleton] at hx;rcases List.mem_append.1 hx2 with hx2 | hx2
   ·have := h.w.lt hx2;omega
   ·simp only [List.mem_singleton, List.length_append, List.length_cons, List.length_nil] at hx2;omega
 ·rcases List.mem_append.1 he with he | he
  ·exact h.ok e he
  ·rw [List.mem_singleton] at he; rw [he]; exact hl
section
variable (F : Nat)
theorem tm10 (x : Int) : Nm (Int.tmod x 10) := by
 have h1 := Int.tmod_lt_of_pos x (show (0 : Int) < 10 by decide);have h2 := Int.lt_tmod_of_pos x (show (0 : Int) < 10 by decide);unfold Nm; omega
theorem xSD (i : Nat) (line) (t104 t106 t107 t109 t110 t111 t112 t113) (Ls : List QL) (Pr : List Nat) (Pk : List (Int × Int)) (PL : List QL) (AR : List (List Int)) (a2 a3 a4) (a0 : Q0) (a1 : Q1) (p2 s4 l g18 I wf ms mw) (hi : i < Pr.length) :
  ∀ (j k n : Nat) (acc : List Int), n + j = 13 -> j < k -> NmL acc -> acc.length = n -> n <= 12 -> ∃ ps : List Int, xDn F (i : Int) line t104 t106 t107 t109 t110 t111 t112 t113 Ls Pr Pk PL AR a2 a3 a4 a0 a1 p2 s4 l g18 I wf ms mw k (n : Int) acc = some (((i : Int), line, t104, t106, t107, t109, t110, t111, t112, t113), (Ls, Pr, Pk, PL, AR, a2, a3, a4, a0, a1, p2, s4, l, ps, g18, I, wf, ms, mw)) /\ NmL ps /\ ps.length <= 12 /\ (ps = [] -> acc = [] /\ (xED AR (nth Pr 0 i)).length <= n)
 | _, 0, _, _, _, h, _, _, _ => absurd h (Nat.not_lt_zero _)
 | 0, _ + 1, n, acc, hn, _, _, _, h12 => by omega
 | j + 1, k + 1, n, acc, hn, hj, hN, ha, h12 => by
  rw [xDn];have hin : inB (i : Int) (Pr.length - 0) = true := by simp [inB]; omega
  by_cases h1 : (n : Int) < ((xED AR (nth Pr 0 i)).length : Int)
  ·by_cases h2 : (n : Int) < 12
   ·obtain ⟨ps, e, h3, h4, h5⟩ := xSD i line t104 t106 t107 t109 t110 t111 t112 t113 Ls Pr Pk PL AR a2 a3 a4 a0 a1 p2 s4 l g18 I wf ms mw hi j k (n + 1) (acc ++ [Int.tmod (jI.wrap (nth (xED AR (nth Pr 0 i)) 0 n)) 10]) (by omega) (by omega) (fun x hx => by
     rcases List.mem_append.1 hx with hx | hx
     ·exact hN x hx
     ·rw [List.mem_singleton] at hx; rw [hx]; exact tm10 _) (by simp [ha]) (by omega)
    refine ⟨ps, ?_, h3, h4, fun e0 => absurd (h5 e0).1 (by simp)⟩;refine xAd hin (xAd (decide_eq_true h1) (xAd (decide_eq_true h2) (xAd hin ?_)));refine xAd (show inB (n : Int) (xED AR (nth Pr 0 i)).length = true by simp [inB]; omega) ?_;refine xAd (show decide ((n : Int).toNat < (xED AR (nth Pr 0 i)).length) = true from decide_eq_true (by omega)) ?_;refine xAd (by simp [xAR]; omega) ?_;rw [show jI.wrap ((n : Int) + 1) = ((n + 1 : Nat) : Int) by rw [IntKind.wrap_i64]; omega];exact e
   ·refine ⟨acc, ?_, hN, by omega, fun e0 => ?_⟩
    ·exact xAd hin (xAd (decide_eq_true h1) (xAs (decide_eq_false h2) rfl))
    ·rw [e0] at ha; simp at ha; omega
  ·refine ⟨acc, ?_, hN, by omega, fun e0 => ⟨e0, by omega⟩⟩;exact xAd hin (xAs (decide_eq_false h1) rfl)
end
end
open Go.RowKit
theorem xTi {es : List (QL × List Int)} : ∀ (ps pre acc s : List Int), xRm es pre acc ps = .inr s -> acc.Pairwise (· < ·) -> s.Pairwise (· < ·) /\ (∀ y ∈ ps, xDk y es.length = true) /\ ∀ x, x ∈ s ↔ x ∈ acc \/ x ∈ ps \/ ∃ y ∈ ps, x ∈ xBN es y
 | [], pre, acc, s, h, ha => by
  simp only [xRm, Sum.inr.injEq] at h;subst h;exact ⟨ha, by simp, by simp⟩
 | p :: ps, pre, acc, s, h, ha => by
  simp only [xRm] at h
  cases hp : xDk p es.length with
  | false => rw [hp] at h; cases h
  | true =>
   rw [hp] at h;simp only [Bool.not_true, cond_false] at h;by_cases h1 : p ∈ pre
   ·rw [decide_eq_true h1] at h; cases h
   ·rw [decide_eq_false h1, cond_false] at h;obtain ⟨i1, i2, i3⟩ := xTi ps _ _ s h (xFs _ (xHC p ha));refine ⟨i1, ?_, fun x => ?_⟩
    ·intro y hy;rcases List.mem_cons.1 hy with rfl | hy
     ·exact hp
     ·exact i2 y hy
    ·rw [i3, xHm, xFU];constructor
     ·rintro (((rfl | h) | h) | h | ⟨y, h, h2⟩)
      ·exact .inr (.inl (by simp))
      ·exact .inl h
      ·exact .inr (.inr ⟨p, by simp, h⟩)
      ·exact .inr (.inl (by simp [h]))
      ·exact .inr (.inr ⟨y, by simp [h], h2⟩)
     ·rintro (h | h | ⟨y, h, h2⟩)
      ·exact .inl (.inl (.inr h))
      ·rcases List.mem_cons.1 h with rfl | h
       ·exact .inl (.inl (.inl rfl))
       ·exact .inr (.inl h)
      ·rcases List.mem_cons.1 h with rfl | h
       ·exact .inl (.inr h2)
       ·exact .inr (.inr ⟨y, h, h2⟩)
theorem xTj {es : List (QL × List Int)} : ∀ (ps pre acc : List Int) (e : Int), xRm es pre acc ps = .inl e -> e ≠ 0
 | [], _, _, _, h => by simp [xRm] at h
 | p :: ps, pre, acc, e, h => by
  simp only [xRm] at h
  cases hp : xDk p es.length with
  | false =>
   rw [hp] at h;simp only [Bool.not_false, cond_true, Sum.inl.injEq] at h;omega
  | true =>
   rw [hp] at h;simp only [Bool.not_true, cond_false] at h;by_cases h1 : p ∈ pre
   ·rw [decide_eq_true h1] at h;simp only [cond_true, Sum.inl.injEq] at h;omega
   ·rw [decide_eq_false h1, cond_false] at h;exact xTj ps _ _ e h
theorem qRet_ne {es : List (QL × List Int)} {l : QL} {ps : List Int} {e : Int} (h : qRet es l ps = .inl e) : e ≠ 0 := by
 unfold qRet at h
 cases ho : okL l with
 | false =>
  rw [ho] at h;simp only [cond_false, Sum.inl.injEq] at h;omega
 | true =>
  rw [ho, cond_true] at h
  cases hd : decide ((ps.length : Int) > (10 : Int)) with
  | true =>
   rw [hd] at h;simp only [cond_true, Sum.inl.injEq] at h;omega
  | false =>
   rw [hd, cond_false] at h;exact xTj ps _ _ e h
section
variable {es : List (QL × List Int)} {O : List Nat} {m : QM} {a0 : Q0} {a1 : Q1}
theorem ret_ok (h : Rep es O m a0 a1) {l : QL} {ps s : List Int} (hq : qRet es l ps = .inr s) : okL l = true /\ s.Pairwise (· < ·) /\ (∀ y ∈ ps, xDk y es.length = true) /\ ∀ x ∈ s, 1 <= x /\ x <= (es.length : Int) := by
 unfold qRet at hq
 cases ho : okL l with
 | false => rw [ho] at hq; cases hq
 | true =>
  rw [ho, cond_true] at hq
  cases hd : decide ((ps.length : Int) > (10 : Int)) with
  | true => rw [hd] at hq; cases hq
  | false =>
   rw [hd, cond_false] at hq;obtain ⟨i1, i2, i3⟩ := xTi ps [] [] s hq List.Pairwise.nil;have i3' : ∀ x, x ∈ s ↔ x ∈ ps \/ ∃ y ∈ ps, x ∈ xBN es y := fun x => by rw [i3]; simp
   refine ⟨rfl, i1, i2, fun x hx => ?_⟩;rcases (i3' x).1 hx with h1 | ⟨y, h1, h2⟩
   ·exact xBu.1 (i2 x h1)
   ·have := (h.anc (i2 y h1)).2 x h2;have := xBu.1 (i2 y h1);omega
end
section
open Go.Proofs Go.Lib M3
theorem obX {α β : Type} {Q : Option β -> Prop} {x : Option α} {f : α -> Option β} {P : α -> Prop} (h : ∃ y, x = some y /\ P y) (k : ∀ y, P y -> Q (f y)) : Q (ob x f) := by
 obtain ⟨y, rfl, hy⟩ := h;exact k y hy
theorem Inv2.mono {es : List (QL × List Int)} {σ O : List Nat} {ms mw : QM} {a0 : Q0} {a1 : Q1} {n k : Nat} (h : Inv2 es σ O ms mw a0 a1 n) (hk : n <= k) : Inv2 es σ O ms mw a0 a1 k := ⟨h.s, h.w, h.dis, h.ok, Nat.le_trans h.len hk⟩
section
variable (F : Nat) {es : List (QL × List Int)} {σ O : List Nat} {ms mw : QM} {a0 : Q0} {a1 : Q1} {n : Nat}
theorem lnE {e : Int} {a b R : LnO} (h : (if e = 0 then b else a) = R) : (some (bif (e != 0) then a else b) : Option LnO) = some R := by
 rw [<- h];by_cases he : e = 0
 ·subst he; rfl
 ·rw [show (e != 0) = true by simpa using he, if_neg he]; rfl
theorem xTD (h : Inv2 es σ O ms mw a0 a1 n) (hn : n < 190) {l : QL} (hc : Nm l.1) (hm : Nm l.2.1) (hb : NmB l.2.2.1) (hk : Nm l.2.2.2) :
  ∃ nn e T ms' mw' A0 A1 a0' a1' es' σ' O', xCk F l (v7 z7) ms a0 a1 = some ((nn, e), (z7, (ms', (A0, A1)))) /\ xBe F (inS (bs (xAl 32 (xP0 l.1 l.2.1 l.2.2.1 l.2.2.2))) (v7 z7) mw [] [] A0 A1 [] [] []) = some ((T, e), (z7, (mw', ([], ([], (a0', (a1', ([], ([], []))))))))) /\ Inv2 es' σ' O' ms' mw' a0' a1' (n + 1) /\ Nm nn /\ (e = 0 -> T = bs (itoa nn)) := by
 have hlen := h.len;have r1 := xIg F l (v7 z7) h.s (by omega)
 cases hl : okL l with
 | false =>
  rw [hl, cond_false] at r1;have r2 := xIg F l (v7 z7) h.w (by omega);rw [hl, cond_false] at r2;have hg := xUa F (v7 z7) mw [] [] a0 a1 [] [] [] (xMU F (v7 z7) mw [] [] a0 a1 [] [] [] hc hm hb hk r2 ⟨by decide, by decide⟩);exact ⟨0, 2, bs [], ms, mw, a0, a1, a0, a1, es, σ, O, r1, hg, h.mono (Nat.le_succ _), ⟨by decide, by decide⟩, fun h => absurd h (by decide)⟩
 | true =>
  rw [hl, cond_true] at r1;have hw := h.w.mono (a0' := a0 ++ [(l, 0)]) (a1' := a1) (fun p x _ hx => xDX _ _ p x hx) (fun _ _ h => h);have r2 := xIg F l (v7 z7) hw (by omega);rw [hl, cond_true] at r2;have hN : Nm ((es.length : Int) + 1) := ⟨by omega, by omega⟩;have hg := xUa F (v7 z7) mw [] [] _ a1 [] [] [] (xMU F (v7 z7) mw [] [] _ a1 [] [] [] hc hm hb hk r2 hN);have hi := h.add (l := l) [] 0 0 [] [] hl (.inl ⟨rfl, rfl⟩) (.inl ⟨rfl, rfl⟩) List.Pairwise.nil (fun x hx => by simp at hx);rw [List.append_nil, List.append_nil] at hi;exact ⟨_, 0, _, _, _, _, _, _, _, _, _, _, r1, hg, hi, hN, fun _ => rfl⟩
theorem op_ret (hF : 2000 < F) (h : Inv2 es σ O ms mw a0 a1 n) (hn : n < 190) {l : QL} (hc : Nm l.1) (hm : Nm l.2.1) (hb : NmB l.2.2.1) (hk : Nm l.2.2.2) {ps : List Int} (h0 : ps ≠ []) (hp : NmL ps) (hpl : ps.length <= 12) :
  ∃ nn e T ms' mw' A0 A1 a0' a1' es' σ' O', xCj F l (v7 z7) ms ps a0 a1 = some ((nn, e), (z7, (ms', (A0, A1)))) /\ xBe F (inS (bs (xAl 32 (xR1 l.1 l.2.1 l.2.2.1 l.2.2.2 ps))) (v7 z7) mw [] [] A0 A1 [] [] []) = some ((T, e), (z7, (mw', ([], ([], (a0', (a1', ([], ([], []))))))))) /\ Inv2 es' σ' O' ms' mw' a0' a1' (n + 1) /\ Nm nn /\ (e = 0 -> T = bs (itoa nn)) := by
 have hlen := h.len;have r1 := xKH F (by omega) l (v7 z7) ps (by omega) h.s (by omega)
 cases hq : qRet es l ps with
 | inl e =>
  rw [hq] at r1;have r2 := xKH F (by omega) l (v7 z7) ps (by omega) h.w (by omega);rw [hq] at r2;have he := qRet_ne hq;have hg := xT9 F (v7 z7) mw [] [] a0 a1 [] [] [] hc hm hb hk hp (by omega) (xMR F (v7 z7) mw [] [] a0 a1 [] [] [] hF hc hm hb hk h0 hp (by omega) r2 ⟨by decide, by decide⟩);rw [lnE rfl, if_neg he] at hg;exact ⟨0, e, bs [], ms, mw, a0, a1, a0, a1, es, σ, O, r1, hg, h.mono (Nat.le_succ _), ⟨by decide, by decide⟩, fun h => absurd h he⟩
 | inr s =>
  rw [hq] at r1;obtain ⟨hl, hsr, hin, hmem⟩ := ret_ok h.s hq;have hw := h.w.mono (a0' := a0 ++ [(l, a1.length + 1)]) (a1' := a1 ++ [some (xCx s)]) (fun p x _ hx => xDX _ _ p x hx) (xDX _ _);have r2 := xKH F (by omega) l (v7 z7) ps (by omega) hw (by omega);rw [hq] at r2;have hN : Nm ((es.length : Int) + 1) := ⟨by omega, by omega⟩;have hg := xT9 F (v7 z7) mw [] [] _ _ [] [] [] hc hm hb hk hp (by omega) (xMR F (v7 z7) mw [] [] _ _ [] [] [] hF hc hm hb hk h0 hp (by omega) r2 hN);have hi := h.add (l := l) s (a1.length + 1) ((a1 ++ [some (xCx s)]).length + 1) [some (xCx s)] [some (xCx s)] hl (.inr ⟨_, rfl, by simp⟩) (.inr ⟨_, rfl, by simp⟩) hsr (fun x hx => hmem x hx);exact ⟨_, 0, _, _, _, _, _, _, _, _, _, _, r1, hg, hi, hN, fun _ => rfl⟩
end
section
variable (F : Nat) (hF : 2000 < F) (Ls : List QL) (Pr : List Nat) (Pk : List (Int × Int)) (PL : List QL) (AR : List (List Int)) (P1 : Int × Q7)
def xJb (o : Option ((Bool × ((List QL) × ((List Nat) × ((List (Int × Int)) × ((List QL) × ((List (List Int)) × ((List Tig) × (Ta3 × (Ta4 × (Q0 × Q1)))))))))) ⊕ ((List QL) × ((List Nat) × ((List (Int × Int)) × ((List QL) × ((List (List Int)) × ((List Tig) × (Ta3 × (Ta4 × (Q0 × (Q1 × ((Int × Q7) × (Q7 × (Q7 × (Tnm × (Tnm × (QM × QM)))))))))))))))))) : Prop :=
 (∃ x, o = some (.inl (true, x))) \/ ∃ es σ O ms mw a0 a1, o = some (.inr (Ls, Pr, Pk, PL, AR, [], [], [], a0, a1, P1, z7, z7, [], [], ms, mw)) /\ Inv2 es σ O ms mw a0 a1 Ls.length
include hF
theorem xSE (hl : Ls.length <= 8) : ∀ (j k i : Nat) (es : List (QL × List Int)) (σ O : List Nat) (ms mw : QM) (a0 : Q0) (a1 : Q1), i + j = Ls.length -> j < k -> Inv2 es σ O ms mw a0 a1 i ->
  xJb Ls Pr Pk PL AR P1 (xCL F k (i : Int) Ls Pr Pk PL AR [] [] [] a0 a1 P1 z7 z7 [] [] ms mw)
 | _, 0, _, _, _, _, _, _, _, _, _, h, _ => absurd h (Nat.not_lt_zero _)
 | 0, k + 1, i, es, σ, O, ms, mw, a0, a1, hi, _, inv => by
  rw [xCL];refine xBA (Q := xJb _ _ _ _ _ _) (decide_eq_false (by omega)) ?_;exact .inr ⟨es, σ, O, ms, mw, a0, a1, rfl, by rw [<- hi]; exact inv⟩
 | j + 1, k + 1, i, es, σ, O, ms, mw, a0, a1, hi, hj, inv => by
  rw [xCL];refine xA0 (Q := xJb _ _ _ _ _ _) (decide_eq_true (by omega)) ?_;refine xA0 (Q := xJb _ _ _ _ _ _) (by simp [inB]; omega) ?_;generalize hlot : nth Ls (TC.dflt C_1) (i : Int).toNat = l;obtain ⟨cc, hs1, hs2⟩ := xFz F l.2.2.1;refine obQ (Q := xJb _ _ _ _ _ _) hs1 ?_
  cases cc with
  | false => exact .inl ⟨_, rfl⟩
  | true =>
  refine xBA (Q := xJb _ _ _ _ _ _) rfl ?_;obtain ⟨cc, hs3, hs4⟩ := xFz F ((l.1, l.2.1), ((l.2.2.2, 0), (0, 0)));refine obQ (Q := xJb _ _ _ _ _ _) hs3 ?_
  cases cc with
  | false => exact .inl ⟨_, rfl⟩
  | true =>
  have hb : NmB l.2.2.1 := smB_nm (hs2 rfl);have hc : Nm l.1 := xGe (hs4 rfl).1;have hm : Nm l.2.1 := xGe (hs4 rfl).2.1;have hk : Nm l.2.2.2 := xGe (hs4 rfl).2.2.1;have lc := xAU _ hc;have lm := xAU _ hm;have lk := xAU _ hk;have lb := xI1 _ hb;refine xBA (Q := xJb _ _ _ _ _ _) rfl ?_;refine obQ (Q := xJb _ _ _ _ _ _) (xBx F _ hc) ?_;refine xA0 (Q := xJb _ _ _ _ _ _) szT ?_;refine obQ (Q := xJb _ _ _ _ _ _) (xBx F _ hm) ?_;refine xA0 (Q := xJb _ _ _ _ _ _) szT ?_;refine xA0 (Q := xJb _ _ _ _ _ _) szT ?_;refine obQ (Q := xJb _ _ _ _ _ _) (xND F _ hb) ?_;refine xA0 (Q := xJb _ _ _ _ _ _) szT ?_;refine xA0 (Q := xJb _ _ _ _ _ _) szT ?_;refine obQ (Q := xJb _ _ _ _ _ _) (xBx F _ hk) ?_;refine xA0 (Q := xJb _ _ _ _ _ _) szT ?_;refine obX (Q := xJb _ _ _ _ _ _) (P := fun y => ∃ nn e T rest l' ms' mw' a0' a1' es' σ' O', y = (((i : Int), nn, e, T, e, rest), (Ls, Pr, Pk, PL, AR, a0', a1', [], [], [], P1, z7, l', z7, [], [], ms', mw')) /\ Inv2 es' σ' O' ms' mw' a0' a1' (i + 1) /\ Nm nn /\ (e = 0 -> T = bs (itoa nn))) ?_ ?_
  ·by_cases hp : (i : Int) < ((Pr.length : Int) - 0)
   ·by_cases hr : ((xED AR (nth Pr 0 i)).length : Int) > 0
    ·obtain ⟨ps, e1, e2, e3, e4⟩ := xSD F i (((((((bs (itoa l.1) ++ B_0) ++ bs (itoa l.2.1)) ++ B_0) ++ bs (bdT l.2.2.1)) ++ B_0) ++ bs (itoa l.2.2.2))) l.1 l.2.1 (l.1, l.2.1) l.2.2.2 (l.2.2.2, 0) ((l.1, l.2.1), ((l.2.2.2, 0), (0, 0))) true false Ls Pr Pk PL AR [] [] [] a0 a1 P1 z7 l z7 [] [] ms mw (by omega) 13 F 0 [] rfl (by omega) (fun x hx => by simp at hx) rfl (by omega);have hne : ps ≠ [] := fun e0 => by have := (e4 e0).2; omega
     obtain ⟨nn, e, T, ms', mw', A0, A1, a0', a1', es', σ', O', o1, o2, o3, o4, o5⟩ := op_ret F hF inv (by omega) hc hm hb hk hne e2 e3;rw [<- xWE] at o2;have lp := xEI e2;refine ⟨_, ?_, nn, e, T, (l.1, l.2.1, (l.1, l.2.1), l.2.2.2, (l.2.2.2, 0), ((l.1, l.2.1), ((l.2.2.2, 0), (0, 0))), true, false), l, ms', mw', a0', a1', es', σ', O', rfl, o3, o4, o5⟩;refine xAf (xAd (decide_eq_true hp) (xAd (by simp [inB]; omega) rfl)) ?_;refine xAd (decide_eq_true hr) ?_;refine xAf e1 ?_;refine xAd (by simp [xAR]; omega) ?_;refine xAf o1 ?_;refine xAd szT ?_;refine xAd szT ?_;refine xAf (xK3 F hF ps e2 (by omega)) ?_;refine xAd szT ?_;exact xAf o2 rfl
    ·obtain ⟨nn, e, T, ms', mw', A0, A1, a0', a1', es', σ', O', o1, o2, o3, o4, o5⟩ := xTD F inv (by omega) hc hm hb hk;rw [<- xPZ] at o2;refine ⟨_, ?_, nn, e, T, (l.1, l.2.1, (l.1, l.2.1), l.2.2.2, (l.2.2.2, 0), ((l.1, l.2.1), ((l.2.2.2, 0), (0, 0))), true, false), l, ms', mw', a0', a1', es', σ', O', rfl, o3, o4, o5⟩;refine xAf (xAd (decide_eq_true hp) (xAd (by simp [inB]; omega) rfl)) ?_;refine xAs (decide_eq_false hr) ?_;refine xAf o1 ?_;refine xAd szT ?_;exact xAf o2 rfl
   ·obtain ⟨nn, e, T, ms', mw', A0, A1, a0', a1', es', σ', O', o1, o2, o3, o4, o5⟩ := xTD F inv (by omega) hc hm hb hk;rw [<- xPZ] at o2;refine ⟨_, ?_, nn, e, T, (l.1, l.2.1, (l.1, l.2.1), l.2.2.2, (l.2.2.2, 0), ((l.1, l.2.1), ((l.2.2.2, 0), (0, 0))), true, false), l, ms', mw', a0', a1', es', σ', O', rfl, o3, o4, o5⟩;refine xAf (xAs (decide_eq_false hp) rfl) ?_;refine xAs rfl ?_;refine xAf o1 ?_;refine xAd szT ?_;exact xAf o2 rfl
  ·rintro y ⟨nn, e, T, rest, l', ms', mw', a0', a1', es', σ', O', rfl, h1, h2, h3⟩
   have go := xSE hl j k (i + 1) es' σ' O' ms' mw' a0' a1' (by omega) (by omega) h1;rw [<- show jI.wrap ((i : Int) + 1) = ((i + 1 : Nat) : Int) by rw [IntKind.wrap_i64]; omega] at go;by_cases he : e = 0
   ·subst he;have hT := h3 rfl;subst hT;refine obQ (Q := xJb _ _ _ _ _ _) (xAs rfl (xAd rfl (xAf (xBx F nn h2) rfl))) ?_
    ·refine xBA (Q := xJb _ _ _ _ _ _) (by show (!(ByteArray.toList.loop (bs (itoa nn)) 0 [] == ByteArray.toList.loop (bs (itoa nn)) 0 [])) = false; rw [xIa]; rfl) ?_;exact go
   ·refine obQ (Q := xJb _ _ _ _ _ _) (xAs (show (e != e) = false by simp) (xAs (bn he) rfl)) ?_
    ·refine xBA (Q := xJb _ _ _ _ _ _) rfl ?_;exact go
end
end
section
open Go.Proofs Go.Lib M3
theorem xP3 (n : Int) : (ByteArray.mk (Array.mk (108 :: (101 :: (102 :: (116 :: (32 :: []))))))) ++ bs (itoa n) = bs (xAl 32 (xOj xNB n)) := by
 show bs [108, 101, 102, 116, 32] ++ bs (itoa n) = _;rw [xAE];congr 1
theorem xSf (n : Int) : (ByteArray.mk (Array.mk (116 :: (114 :: (97 :: (99 :: (101 :: (32 :: [])))))))) ++ bs (itoa n) = bs (xAl 32 (xOj cTrc n)) := by
 show bs [116, 114, 97, 99, 101, 32] ++ bs (itoa n) = _;rw [xAE];congr 1
theorem pk_str (p : Int × Int) : (bs (itoa p.1) ++ (ByteArray.mk (Array.mk (58 :: [])))) ++ bs (itoa p.2) = bs (pk1 p) := by
 show (bs (itoa p.1) ++ bs [58]) ++ bs (itoa p.2) = _;rw [xAE, xAE];congr 1;simp [pk1]
section
variable {es : List (QL × List Int)} {σ O : List Nat} {ms mw : QM} {a0 : Q0} {a1 : Q1} {n : Nat}
theorem anc_ok (h : Rep es O mw a0 a1) (hl : es.length <= 100) {p : Int} (hp : xDk p es.length = true) : NmL (xBN es p) /\ (xBN es p).length <= 1000 := by
 obtain ⟨h1, h2⟩ := h.anc hp;have hq := xBu.1 hp;refine ⟨fun x hx => ?_, ?_⟩
 ·have := h2 x hx;unfold Nm; omega
 ·have := xNV (xBN es p) 1 100 h1 (fun x hx => by have := h2 x hx; omega);omega
variable (F : Nat) (hF : 2000 < F) (Ls : List QL) (Pr : List Nat) (Pk : List (Int × Int)) (PL : List QL) (AR : List (List Int)) (P1 q : Int × Q7)
include hF
theorem xNT (inv : Inv2 es σ O ms mw a0 a1 8) : ∀ (j k n : Nat) (many : Int) (nums : List Int), n + j = 4 -> j < k -> nums.length < n -> NmL nums -> (∀ x ∈ nums, xDk x es.length = true) ->
  ∃ many' nums', xBP F k many (n : Int) Ls Pr Pk PL AR [] [] [] a0 a1 P1 z7 q nums z7 [] [] ms (nums.map (xAr es)) mw = some (.inr (many', (Ls, Pr, Pk, PL, AR, [], [], [], a0, a1, P1, z7, q, nums', z7, [], [], ms, nums'.map (xAr es), mw))) /\ nums'.length <= 3 /\ NmL nums' /\ (∀ x ∈ nums', xDk x es.length = true)
 | _, 0, _, _, _, _, h, _, _, _ => absurd h (Nat.not_lt_zero _)
 | 0, k + 1, n, many, nums, hn, _, hl, hN, hI => by
  refine ⟨many, nums, ?_, by omega, hN, hI⟩;rw [xBP];exact xAs (decide_eq_false (by omega)) rfl
 | j + 1, k + 1, n, many, nums, hn, hj, hl, hN, hI => by
  have hNn : Nm (n : Int) := ⟨by omega, by omega⟩;have ln := xAU _ hNn;have hes := inv.len;have s1 := xWI F (n : Int) (v7 z7) inv.s;have w1 := xWI F (n : Int) (v7 z7) inv.w;have s2 := xTq F (n : Int) (v7 z7) inv.s (by omega);have w2 := xTq F (n : Int) (v7 z7) inv.w (by omega);have ew : jI.wrap ((n : Int) + 1) = ((n + 1 : Nat) : Int) := by rw [IntKind.wrap_i64]; omega
  cases hp : xDk (n : Int) es.length with
  | false =>
   rw [hp, cond_false] at s1 w1 s2 w2;have l1 := xP2 F (v7 z7) mw [] [] a0 a1 [] [] [] hNn (xJW F (v7 z7) mw [] [] a0 a1 [] [] [] hNn w1 ⟨by decide, by decide⟩);have l2 := xT8 F (v7 z7) mw [] [] a0 a1 [] [] [] hNn (xMO F (v7 z7) mw [] [] a0 a1 [] [] [] hF hNn w2 (fun x hx => by simp at hx) (by simp));rw [<- xP3] at l1;rw [<- xSf] at l2;obtain ⟨many', nums', go, g1, g2, g3⟩ := xNT inv j k (n + 1) many nums (by omega) (by omega) (by omega) hN hI;rw [<- ew] at go;refine ⟨many', nums', ?_, g1, g2, g3⟩;rw [xBP];refine xAd (decide_eq_true (by omega)) ?_;refine xAf s1 ?_;refine xAf (xBx F _ hNn) ?_;refine xAd szT ?_;refine xAf l1 ?_;refine xAf s2 ?_;refine xAf (xBx F _ hNn) ?_;refine xAd szT ?_;refine xAf l2 ?_;refine xAf (xAs rfl (xAs rfl (xAs rfl rfl))) ?_;refine xAs rfl (xAs rfl ?_);exact go
  | true =>
   rw [hp, cond_true] at s1 w1 s2 w2;have hq := xBu.1 hp;have hcn := inv.ok.cnt.at hp;have hlN : Nm (xAr es (n : Int)).1 := ⟨by omega, by omega⟩;obtain ⟨ha1, ha2⟩ := anc_ok inv.w (by omega) hp;have l1 := xP2 F (v7 z7) mw [] [] a0 a1 [] [] [] hNn (xJW F (v7 z7) mw [] [] a0 a1 [] [] [] hNn w1 hlN);have l2 := xT8 F (v7 z7) mw [] [] a0 a1 [] [] [] hNn (xMO F (v7 z7) mw [] [] a0 a1 [] [] [] hF hNn w2 ha1 ha2);rw [<- xP3] at l1;rw [<- xSf] at l2;obtain ⟨many', nums', go, g1, g2, g3⟩ := xNT inv j k (n + 1) (jI.wrap (many * (jI.wrap ((xAr es (n : Int)).1 + 1)))) (nums ++ [(n : Int)]) (by omega) (by omega) (by simp; omega) (fun x hx => by
    rcases List.mem_append.1 hx with hx | hx
    ·exact hN x hx
    ·rw [List.mem_singleton] at hx; rw [hx]; exact hNn) (fun x hx => by
    rcases List.mem_append.1 hx with hx | hx
    ·exact hI x hx
    ·rw [List.mem_singleton] at hx; rw [hx]; exact hp)
   rw [<- ew] at go;rw [List.map_append] at go;refine ⟨many', nums', ?_, g1, g2, g3⟩;rw [xBP];refine xAd (decide_eq_true (by omega)) ?_;refine xAf s1 ?_;refine xAf (xBx F _ hNn) ?_;refine xAd szT ?_;refine xAf l1 ?_;refine xAf s2 ?_;refine xAf (xBx F _ hNn) ?_;refine xAd szT ?_;refine xAf l2 ?_;refine xAf (xAs rfl (xAs rfl (xAd rfl (xAf (xBx F _ hlN) (xAs (by show (!(ByteArray.toList.loop (bs (itoa (xAr es (n : Int)).1)) 0 [] == ByteArray.toList.loop (bs (itoa (xAr es (n : Int)).1)) 0 [])) = false; rw [xIa]; rfl) (xAf (xK3 F hF _ ha1 ha2) rfl)))))) ?_;refine xAs (by show (!(ByteArray.toList.loop (bs (xHg (xBN es (n : Int)))) 0 [] == ByteArray.toList.loop (bs (xHg (xBN es (n : Int)))) 0 [])) = false; rw [xIa]; rfl) ?_;refine xAd rfl ?_;refine xAd (by simp [xAR]; omega) ?_;refine xAd (by simp [xAR]; omega) ?_;exact go
def xQT (a0 : Q0) (a1 : Q1) (ms mw : QM) (o : Option ((Bool × ((List QL) × ((List Nat) × ((List (Int × Int)) × ((List QL) × ((List (List Int)) × (Q0 × (Q1 × ((List Tig) × (Ta3 × Ta4)))))))))) ⊕ ((List QL) × ((List Nat) × ((List (Int × Int)) × ((List QL) × ((List (List Int)) × (Q0 × (Q1 × ((List Tig) × (Ta3 × (Ta4 × (Q7 × ((List ByteArray) × (Q7 × (Tnm × (Tnm × (QM × QM)))))))))))))))))) : Prop :=
 (∃ x, o = some (.inl (true, x))) \/ (o = some (.inr (Ls, Pr, Pk, PL, AR, a0, a1, [], [], [], z7, Pk.map (fun p => bs (pk1 p)), z7, [], [], ms, mw)) /\ NmP Pk)
omit hF in
theorem xSC (hl : Pk.length <= 5) (a0 : Q0) (a1 : Q1) (ms mw : QM) : ∀ (j k i : Nat), i + j = Pk.length -> j < k -> (∀ p ∈ Pk.take i, Nm p.1 /\ Nm p.2) ->
  xQT Ls Pr Pk PL AR a0 a1 ms mw (xCK F Ls Pr Pk PL AR a0 a1 [] [] [] z7 z7 [] [] ms mw k (i : Int) ((Pk.take i).map (fun p => bs (pk1 p))))
 | _, 0, _, _, h, _ => absurd h (Nat.not_lt_zero _)
 | 0, k + 1, i, hi, _, hN => by
  rw [List.take_of_length_le (by omega)] at hN ⊢;rw [xCK];refine xBA (Q := xQT _ _ _ _ _ _ _ _ _) (decide_eq_false (by omega)) ?_;exact .inr ⟨rfl, hN⟩
 | j + 1, k + 1, i, hi, hj, hN => by
  have hlt : i < Pk.length := by omega
  have hin : inB (i : Int) (Pk.length - 0) = true := by simp [inB]; omega
  have etk : Pk.take (i + 1) = Pk.take i ++ [nth Pk D_1 i] := by rw [List.take_succ_eq_append_getElem hlt, xAG Pk D_1 i hlt]
  have htl : ((Pk.take i).map (fun p => bs (pk1 p))).length <= 5 := by simp; omega
  rw [xCK];refine xA0 (Q := xQT _ _ _ _ _ _ _ _ _) (decide_eq_true (by omega)) ?_;refine xA0 (Q := xQT _ _ _ _ _ _ _ _ _) hin ?_;refine xA0 (Q := xQT _ _ _ _ _ _ _ _ _) hin ?_;generalize hp : nth Pk D_1 i = p at etk;have hp2 : nth Pk D_1 (i : Int).toNat = p := hp;rw [hp2];obtain ⟨cc, hs1, hs2⟩ := xFz F (p, ((0, 0), (0, 0)));refine obQ (Q := xQT _ _ _ _ _ _ _ _ _) hs1 ?_
  cases cc with
  | false => exact .inl ⟨_, rfl⟩
  | true =>
  have h1 : Nm p.1 := xGe (hs2 rfl).1;have h2 : Nm p.2 := xGe (hs2 rfl).2.1;have l1 := xAU _ h1;have l2 := xAU _ h2;refine xBA (Q := xQT _ _ _ _ _ _ _ _ _) rfl ?_;refine xA0 (Q := xQT _ _ _ _ _ _ _ _ _) hin ?_;refine xA0 (Q := xQT _ _ _ _ _ _ _ _ _) hin ?_;refine obQ (Q := xQT _ _ _ _ _ _ _ _ _) (xBx F _ h1) ?_;refine xA0 (Q := xQT _ _ _ _ _ _ _ _ _) szT ?_;refine obQ (Q := xQT _ _ _ _ _ _ _ _ _) (xBx F _ h2) ?_;refine xA0 (Q := xQT _ _ _ _ _ _ _ _ _) szT ?_;refine xA0 (Q := xQT _ _ _ _ _ _ _ _ _) (by simp only [List.length_map] at htl; simp [xAR]; omega) ?_;have go := xSC hl a0 a1 ms mw j k (i + 1) (by omega) (by omega) (fun x hx => by
   rw [etk] at hx;rcases List.mem_append.1 hx with hx | hx
   ·exact hN x hx
   ·rw [List.mem_singleton] at hx; rw [hx]; exact ⟨h1, h2⟩)
  rw [<- show jI.wrap ((i : Int) + 1) = ((i + 1 : Nat) : Int) by rw [IntKind.wrap_i64]; omega, etk, List.map_append, List.map_cons, List.map_nil, <- pk_str] at go;exact go
end
end
section
open Go.Proofs Go.Lib M3
theorem xXL (r : Int × Int) (b : Tb) (ps : List Int) : (((((((ByteArray.mk (Array.mk (98 :: (101 :: (115 :: (116 :: (32 :: []))))))) ++ bs (rgT r)) ++ B_0) ++ bs (bdT b)) ++ B_0) ++ bs (xHg ps))) = bs (xAl 32 (xD7 r b ps)) := by
 show ((((bs [98, 101, 115, 116, 32] ++ bs (rgT r)) ++ bs [32]) ++ bs (bdT b)) ++ bs [32]) ++ bs (xHg ps) = _;rw [xAE, xAE, xAE, xAE, xAE];congr 1;simp [xAl, xD7, xVq]
theorem xXH (pks : List (Int × Int)) : (ByteArray.mk (Array.mk (99 :: (104 :: (97 :: (114 :: (103 :: (101 :: (32 :: (75 :: (49 :: (32 :: [])))))))))))) ++ bs (pkT pks) = bs (xAl 32 (xV4 pks)) := by
 show bs [99, 104, 97, 114, 103, 101, 32, 75, 49, 32] ++ bs (pkT pks) = _;rw [xAE];congr 1
theorem okL_bd {l : QL} (h : okL l = true) : (0 <= l.1 /\ l.1 <= 1000) /\ (1 <= l.2.1 /\ l.2.1 <= 1000000) /\ (0 <= l.2.2.2 /\ l.2.2.2 <= 1000000) := by
 simp only [okL, qLot, Bool.and_eq_true, decide_eq_true_eq] at h;omega
theorem Okl.at {es : List (QL × List Int)} (h : Okl es) {p : Int} (hp : xDk p es.length = true) : okL (xAr es p) = true := by
 have := h (xAr es p, xBN es p) (List.mem_of_getElem? (xDR hp));exact this
theorem xQA {es : List (QL × List Int)} (h : Okl es) : ∀ (ps : List (Int × Int)) (seen : List Int) (D : Q7), qdr es seen ps = 0 -> 0 <= D.1 -> 0 <= (drawn es D ps).1 /\ (drawn es D ps).1 <= D.1 + (ps.length : Int) * 1000000000
 | [], _, D, _, hD => by
  show 0 <= D.1 /\ D.1 <= _;simp; exact hD
 | p :: ps, seen, D, hq, hD => by
  obtain ⟨h1, _, h3, h4, h5⟩ := xPF hq;obtain ⟨b1, b2, _⟩ := okL_bd (h.at h1);have m0 : 0 <= p.2 * (xAr es p.1).2.1 := Int.mul_nonneg (by omega) (by omega);have m1 : p.2 * (xAr es p.1).2.1 <= 1000 * 1000000 := Int.mul_le_mul (by omega) b2.2 (by omega) (by decide);have ih := xQA h ps (xLI p.1 seen) (a7 D (m7 p.2 (xAr es p.1))) h5 (by show 0 <= D.1 + p.2 * (xAr es p.1).2.1; omega);have e : (a7 D (m7 p.2 (xAr es p.1))).1 = D.1 + p.2 * (xAr es p.1).2.1 := rfl;rw [e] at ih;show 0 <= (drawn es (a7 D (m7 p.2 (xAr es p.1))) ps).1 /\ (drawn es (a7 D (m7 p.2 (xAr es p.1))) ps).1 <= _;simp only [List.length_cons];omega
def fl8 (p : (Int × Int) × QB) : Int × Q7 := (p.1.1, (p.1.2, (p.2.1.1, (p.2.1.2, (p.2.2.1.1, (p.2.2.1.2, (p.2.2.2.1, p.2.2.2.2)))))))
section
variable {es : List (QL × List Int)} {σ O : List Nat} {ms mw : QM} {a0 : Q0} {a1 : Q1}
variable (F : Nat) (hF : 2000 < F)
include hF
theorem xVA (inv : Inv2 es σ O ms mw a0 a1 8) {p : (Int × Int) × QB} (h1 : Nm p.1.1) (h2 : Nm p.1.2) (hb : NmB p.2) {ps : List Int} (h0 : ps ≠ []) (hN : NmL ps) (hI : ∀ x ∈ ps, xDk x es.length = true) (hl : ps.length <= 3) :
  ∃ co e c T, xF4 F p (ps.map (xAr es)) = some ((co, e), c) /\ NmL c /\ c.length <= 3 /\ Nm co /\ xBe F (inS (bs (xAl 32 (xD7 p.1 p.2 ps))) (v7 z7) mw [] [] a0 a1 [] [] []) = some ((T, e), (z7, (mw, ([], ([], (a0, (a1, ([], ([], []))))))))) /\ (e = 0 -> T = bs (xHg c) ++ B_0 ++ bs (itoa co)) := by
 obtain ⟨co, e, c, g1, g2, g3, g4, g5⟩ := best_bd F p (ps.map (xAr es)) (by simpa using hl) (fun x hx => by
  obtain ⟨n, hn, rfl⟩ := List.mem_map.1 hx;obtain ⟨b1, _, b3⟩ := okL_bd (inv.ok.at (hI n hn));exact ⟨b1.2, b3⟩)
 have hc : NmL c := fun x hx => by have := g2 x hx; unfold Nm; omega
 have hco : Nm co := ⟨by omega, by omega⟩;have hg := xW9 F (v7 z7) mw [] [] a0 a1 [] [] [] h1 h2 hb hN (by omega) (xRA F [] [] [] [] [] hF inv.w (v7 z7) h1 h2 hb h0 hN hI (by omega) g1 hc (by omega) hco);rw [lnE rfl] at hg;by_cases he : e = 0
 ·rw [if_pos he] at hg;exact ⟨co, e, c, _, g1, hc, g3, hco, by rw [he]; exact hg, fun _ => rfl⟩
 ·rw [if_neg he] at hg;exact ⟨co, e, c, _, g1, hc, g3, hco, hg, fun h => absurd h he⟩
end
theorem xSB (F : Nat) (hF : 2000 < F) (p : (Int × Int) × QB) (Ls : List QL) (Pr : List Nat) (Pk : List (Int × Int)) (PL : List QL) (AR : List (List Int)) : xEb (xKr F p Ls Pr Pk PL [] [] [] [] [] AR) := by
 unfold xKr;refine obX (Q := xEb) (P := fun y => ∃ b, y = (b, (Ls, Pr, Pk, PL, AR, [], [], [], [], [], fl8 p)) /\ (b = false -> Ls.length <= 8 /\ Pk.length <= 5 /\ Pk ≠ [] /\ NmB p.2 /\ Nm p.1.1 /\ Nm p.1.2)) ?_ ?_
 ·by_cases h1 : (Ls.length : Int) - 0 > 8
  ·exact ⟨_, xAd (decide_eq_true h1) rfl, true, rfl, fun h => by cases h⟩
  by_cases h2 : (Pr.length : Int) - 0 > 8
  ·exact ⟨_, xAs (decide_eq_false h1) (xAd (decide_eq_true h2) rfl), true, rfl, fun h => by cases h⟩
  by_cases h3 : (Pk.length : Int) - 0 > 5
  ·exact ⟨_, xAs (decide_eq_false h1) (xAs (decide_eq_false h2) (xAd (decide_eq_true h3) rfl)), true, rfl, fun h => by cases h⟩
  by_cases h4 : (Pk.length : Int) - 0 = 0
  ·exact ⟨_, xAs (decide_eq_false h1) (xAs (decide_eq_false h2) (xAs (decide_eq_false h3) (xAd (bq h4) rfl))), true, rfl, fun h => by cases h⟩
  obtain ⟨c1, s1, s2⟩ := xFz F p.2;obtain ⟨c2, s3, s4⟩ := xFz F (p.1, ((0, 0), (0, 0)))
  cases c1 with
  | false => exact ⟨_, xAs (decide_eq_false h1) (xAs (decide_eq_false h2) (xAs (decide_eq_false h3) (xAs (bn h4) (xAf s1 (xAd rfl rfl))))), true, rfl, fun h => by cases h⟩
  | true =>
   refine ⟨_, xAs (decide_eq_false h1) (xAs (decide_eq_false h2) (xAs (decide_eq_false h3) (xAs (bn h4) (xAf s1 (xAs rfl (xAf s3 rfl)))))), !c2, rfl, fun h => ?_⟩
   cases c2 with
   | false => cases h
   | true => exact ⟨by omega, by omega, fun e => h4 (by rw [e]; rfl), smB_nm (s2 rfl), xGe (s4 rfl).1, xGe (s4 rfl).2.1⟩
 rintro y ⟨b, rfl, hy⟩
 cases b with
 | true => exact ⟨_, rfl⟩
 | false =>
 obtain ⟨hLs, hPk, hPk0, hb, hp1, hp2⟩ := hy rfl;refine xBA (Q := xEb) rfl ?_;have h0 := xSE F hF Ls Pr Pk PL AR (fl8 p) hLs Ls.length F 0 [] [] [] [] [] [] [] (by omega) (by omega) ⟨Rep.nil _ _, Rep.nil _ _, fun x hx => by simp at hx, fun e he => by simp at he, Nat.zero_le _⟩;rcases h0 with ⟨x, e0⟩ | ⟨es, σ, O, ms, mw, a0, a1, e0, inv⟩
 ·exact obQ (Q := xEb) e0 ⟨_, rfl⟩
 refine obQ (Q := xEb) e0 ?_;have inv := inv.mono hLs;have hes := inv.len;obtain ⟨many, nums, e1, n1, n2, n3⟩ := xNT F hF Ls Pr Pk PL AR (fl8 p) (fl8 p) inv 3 F 1 1 [] rfl (by omega) (by simp) (fun x hx => by simp at hx) (fun x hx => by simp at hx);refine obQ (Q := xEb) e1 ?_;refine obQ (Q := xEb) (y := .inr (Ls, Pr, Pk, PL, AR, a0, a1, [], [], [], z7, z7, [], [], ms, mw)) ?_ ?_
 ·by_cases hn : (nums.length : Int) - 0 > 0
  ·refine xAf (xAd (decide_eq_true hn) rfl) ?_;by_cases hm : many <= 400
   ·refine xAd (decide_eq_true hm) ?_;obtain ⟨co, e, c, T, b1, b2, b3, b4, b5, b6⟩ := xVA F hF inv (p := p) hp1 hp2 hb (ps := nums) (fun h => by rw [h] at hn; simp at hn) n2 n3 n1;have lr := xCp p.1 hp1 hp2;have lb := xI1 p.2 hb;have ll := xEI n2;have lc := xEI b2;have lo := xAU co b4;rw [<- xXL] at b5;refine xAf b1 ?_;refine xAf (xFy F p.1 hp1 hp2) ?_;refine xAd szT ?_;refine xAd szT ?_;refine xAf (xND F p.2 hb) ?_;refine xAd szT ?_;refine xAd szT ?_;refine xAf (xK3 F hF nums n2 (by omega)) ?_;refine xAd szT ?_;refine xAf b5 ?_;by_cases he : e = 0
    ·subst he;have hT := b6 rfl;subst hT;refine xAf (xAs rfl (xAd rfl (xAf (xK3 F hF c b2 (by omega)) (xAd szT (xAf (xBx F co b4) (xAd szT rfl)))))) ?_;exact xAs (by show (!(ByteArray.toList.loop (bs (xHg c) ++ B_0 ++ bs (itoa co)) 0 [] == ByteArray.toList.loop (bs (xHg c) ++ B_0 ++ bs (itoa co)) 0 [])) = false; rw [xIa]; rfl) rfl
    ·refine xAf (xAs (show (e != e) = false by simp) (xAs (bn he) rfl)) ?_;exact xAs rfl rfl
   ·exact xAs (decide_eq_false hm) rfl
  ·refine xAf (xAs (decide_eq_false hn) rfl) ?_;exact xAs rfl rfl
 have h3 := xSC F Ls Pr Pk PL AR hPk a0 a1 ms mw Pk.length F 0 (by omega) (by omega) (fun x hx => by simp at hx);rcases h3 with ⟨x, e3⟩ | ⟨e3, hN⟩
 ·exact obQ (Q := xEb) e3 ⟨_, rfl⟩
 refine obQ (Q := xEb) e3 ?_;have lj := xDV 44 pk1 35 Pk (fun x hx => xKM (hN x hx));have hj := xP6 F 44 (Pk.map pk1) (by simp; omega) (by omega);rw [List.map_map] at hj;have lj2 : (pkT Pk).length <= 200 := by show (xAl 44 (Pk.map pk1)).length <= 200; omega
 refine obQ (Q := xEb) (y := bs (pkT Pk)) hj ?_;refine xA0 (Q := xEb) szT ?_;have hch := xMV F hF inv.w (by omega) inv.ok.cnt Pk hPk0 hN (by omega);rw [w7z] at hch;obtain ⟨⟨⟨t, f⟩, st⟩, hx, ⟨⟨a0', a1', ⟨q, m', I', wf', b2, b3, b4, hst⟩, hsame, hext⟩, hres⟩⟩ := hch;change st = _ at hst;subst hst;have hline := lnS_chg F (v7 z7) mw [] [] a0 a1 [] [] [] hN (by omega) hx;rw [<- xXH] at hline;refine obQ (Q := xEb) hline ?_;have hs : Rep es σ ms a0' a1' := inv.s.mono (fun n x hn hx => by rw [hsame.2 n (inv.dis _ hn)]; exact hx) hext;have hd := q_draw F (by omega) z7 Pk (by omega) hs (by omega) inv.ok.cnt;rw [w7z] at hd;have hlo : xAR 0 Pk.length = true := by simp [xAR]; omega
 rcases hres with ⟨g1, g2⟩ | ⟨g1, g2⟩
 ·change f = qdr es [] Pk at g2;rcases hd with ⟨_, d2⟩ | ⟨d1, _⟩
  ·by_cases h3 : f = 3
   ·have e3 : qdr es [] Pk = 3 := by rw [<- g2]; exact h3
    rw [e3] at d2;subst h3;refine obQ (Q := xEb) (xAd rfl (xAd hlo (xAf d2 rfl))) ?_;exact ⟨_, rfl⟩
   ·rw [<- g2] at d2 g1;refine obQ (Q := xEb) (xAs (bn h3) rfl) ?_;refine xBA (Q := xEb) rfl ?_;refine xBA (Q := xEb) (bn h3) ?_;refine xA0 (Q := xEb) hlo ?_;refine obQ (Q := xEb) d2 ?_;refine obQ (Q := xEb) (q_sums F (v7 z7) hs) ?_;refine xA0 (Q := xEb) (bq rfl) ?_;refine xA0 (Q := xEb) (show (f != 0) = true by simpa using g1) ?_;exact ⟨_, rfl⟩
  ·exact absurd d1 g1
 ·rcases hd with ⟨d1, _⟩ | ⟨_, a0'', d2, d3, d4, _⟩
  ·exact absurd g1 d1
  have hsum := q_sums F (v7 (w7 (drawn es z7 Pk))) d3;rcases g2 with ⟨g2, g3⟩ | ⟨g2, g3⟩
  ·change f = 3 at g2;subst g2;refine obQ (Q := xEb) (xAd rfl (xAd hlo (xAf d2 rfl))) ?_;refine xA0 (Q := xEb) rfl ?_;refine obQ (Q := xEb) hsum ?_;by_cases hb1 : (w7 (drawn es z7 Pk)).1 > 1000000000
   ·exact xA0 (Q := xEb) (decide_eq_true hb1) ⟨_, rfl⟩
   ·refine xBA (Q := xEb) (decide_eq_false hb1) ?_;rw [decide_eq_false hb1, Bool.false_or] at g3;generalize hP : v7 (w7 (drawn es z7 Pk)) = P at g3 ⊢;have hmax : decide ((if P.2.2.2.2 > (if P.2.2.1.2 > P.2.1.2 then P.2.2.1.2 else P.2.1.2) then P.2.2.2.2 else (if P.2.2.1.2 > P.2.1.2 then P.2.2.1.2 else P.2.1.2)) > (1000000000000 : Int)) = true := by
     simp only [bigB, Bool.or_eq_true, decide_eq_true_eq] at g3;refine decide_eq_true ?_;split <;> split <;> omega
    exact ⟨_, congrArg (fun b => some (b, _)) hmax⟩
  ·obtain ⟨hb0, hb1⟩ := xQA inv.ok Pk [] z7 g1 (Int.le_refl 0);have ez : (z7 : Q7).1 = 0 := rfl;rw [ez] at hb1;have eP : (w7 (drawn es z7 Pk)).1 = (drawn es z7 Pk).1 := w64 _ (by omega);have hPN : Nm (w7 (drawn es z7 Pk)).1 := by rw [eP]; exact ⟨by omega, by omega⟩
   simp only [Prod.mk.injEq] at g2;obtain ⟨rfl, rfl⟩ := g2;refine obQ (Q := xEb) (xAs rfl rfl) ?_;refine xBA (Q := xEb) rfl ?_;refine xBA (Q := xEb) rfl ?_;refine xA0 (Q := xEb) hlo ?_;refine obQ (Q := xEb) d2 ?_;refine obQ (Q := xEb) hsum ?_;refine xA0 (Q := xEb) rfl ?_;refine xBA (Q := xEb) rfl ?_;refine obQ (Q := xEb) (xBx F _ hPN) ?_;exact xA0 (Q := xEb) (xIa _) ⟨_, rfl⟩
end
end Go.Proofs.YtnomnijhlbalaaaGreatDoor
