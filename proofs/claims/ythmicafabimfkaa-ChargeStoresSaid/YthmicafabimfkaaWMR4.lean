/- Plain laws of the reference of chapter 2: lots that are put in. No condition. -/
import Derived.Test.YthmicafabimfkaaWMH8

namespace Go.Proofs.Ythmicafabimfkaa
open Go.RowKit
set_option maxRecDepth 100000
abbrev QN := List (Option (List Int))
theorem rin (F : Nat) (n a b : Int) : rIn_S F n a b = some (decide (n ≥ a) && decide (n ≤ b)) := by
  unfold rIn_S; cases decide (n ≥ a) <;> rfl
theorem rrng {α : Type} (r : Int × Int) (x y : α) : (bif (decide (r.1 < (0 : Int))) then x else (bif (decide (r.1 > r.2)) then x else (bif (decide (r.2 > (100000000 : Int))) then x else y))) = bif qR r then y else x := by
  unfold qR
  by_cases h1 : r.1 < 0
  · rw [decide_eq_true h1, decide_eq_false (show ¬ ((0 : Int) ≤ r.1) by omega)]; rfl
  · rw [decide_eq_false h1, decide_eq_true (show (0 : Int) ≤ r.1 by omega)]
    by_cases h2 : r.1 > r.2
    · rw [decide_eq_true h2, decide_eq_false (show ¬ (r.1 ≤ r.2) by omega)]; rfl
    · rw [decide_eq_false h2, decide_eq_true (show r.1 ≤ r.2 by omega)]
      by_cases h3 : r.2 > 100000000
      · rw [decide_eq_true h3, decide_eq_false (show ¬ (r.2 ≤ 100000000) by omega)]; rfl
      · rw [decide_eq_false h3, decide_eq_true (show r.2 ≤ 100000000 by omega)]; rfl
theorem rbounds (F : Nat) (b : QB) : rBounds_S F b = some (qB b) := by
  unfold rBounds_S qB
  rw [rrng b.2.2, rrng b.2.1, rrng b.1]
  generalize qR b.1 = x; generalize qR b.2.1 = y; generalize qR b.2.2 = z
  cases x <;> cases y <;> cases z <;> rfl
theorem rlot (F : Nat) (l : QL) : rLot_S F l = some (qLot l) := by
  unfold rLot_S qLot
  simp only [rin, rbounds]
  generalize (decide (l.1 ≥ (0 : Int)) && decide (l.1 ≤ (1000 : Int))) = a
  generalize (decide (l.2.1 ≥ (1 : Int)) && decide (l.2.1 ≤ (1000000 : Int))) = b
  generalize qB l.2.2.1 = c
  cases a <;> cases b <;> cases c <;> rfl
/-- A lot, what it is made of, its parents, how many pieces were drawn. -/
abbrev FE := QL × (List Int × (List Int × Int))
def esOf (fs : List FE) : List (QL × List Int) := fs.map (fun f => (f.1, f.2.1))
theorem esOf_len (fs : List FE) : (esOf fs).length = fs.length := by simp [esOf]
theorem esOf_get (fs : List FE) (k : Nat) : (esOf fs)[k]? = (fs[k]?).map (fun f => (f.1, f.2.1)) := by simp [esOf]
theorem esOf_app (fs : List FE) (f : FE) : esOf (fs ++ [f]) = esOf fs ++ [(f.1, f.2.1)] := by simp [esOf]
structure Rep2 (fs : List FE) (gl : List QL) (gp : List Nat) (gd : List Int) (a2 : QN) : Prop where
  gl : gl = fs.map (fun f => f.1)
  gd : gd = fs.map (fun f => f.2.2.2)
  gpl : gp.length = fs.length
  par : ∀ (k : Nat) (f : FE), fs[k]? = some f → ∃ j, gp[k]? = some j ∧ liveA a2 j = true ∧ rowAt a2 j = f.2.2.1
theorem Rep2.nil : Rep2 [] [] [] [] [] := ⟨rfl, rfl, rfl, fun k f h => by simp at h⟩
section
variable {fs : List FE} {gl : List QL} {gp : List Nat} {gd : List Int} {a2 : QN}
theorem Rep2.len (h : Rep2 fs gl gp gd a2) : gl.length = fs.length := by rw [h.gl]; simp
theorem liveA_app {α : Type} {os os' : List (Option (List α))} {j : Nat} (h : liveA os j = true) : liveA (os ++ os') j = true ∧ (∀ x, rowAt os j = x → rowAt (os ++ os') j = x) := by
  cases j with
  | zero => exact ⟨rfl, fun x h => h⟩
  | succ m =>
    have h' : (match os[m]? with
      | some (some _) => true
      | _ => false) = true := h
    have hm : m < os.length := by
      rcases Nat.lt_or_ge m os.length with h0 | h0
      · exact h0
      · rw [List.getElem?_eq_none h0] at h'; cases h'
    have e : (os ++ os')[m]? = os[m]? := List.getElem?_append_left hm
    refine ⟨?_, fun x hx => ?_⟩
    · show (match (os ++ os')[m]? with
        | some (some _) => true
        | _ => false) = true
      rw [e]; exact h'
    · show (match (os ++ os')[m]? with
        | some (some xs) => xs
        | _ => []) = x
      rw [e]; exact hx
theorem Rep2.add (h : Rep2 fs gl gp gd a2) (l : QL) (s ps : List Int) : Rep2 (fs ++ [(l, (s, (ps, 0)))]) (gl ++ [l]) (gp ++ [a2.length + 1]) (gd ++ [0]) (a2 ++ [some ps]) := by
  refine ⟨by rw [h.gl]; simp, by rw [h.gd]; simp, by simp [h.gpl], fun k f hk => ?_⟩
  rcases Nat.lt_trichotomy k fs.length with hlt | heq | hgt
  · rw [List.getElem?_append_left hlt] at hk
    obtain ⟨j, h1, h2, h3⟩ := h.par k f hk
    obtain ⟨g1, g2⟩ := liveA_app (os' := [some ps]) h2
    exact ⟨j, by rw [List.getElem?_append_left (by rw [h.gpl]; exact hlt)]; exact h1, g1, g2 _ h3⟩
  · subst heq
    rw [List.getElem?_append_right (Nat.le_refl _), Nat.sub_self] at hk
    cases hk
    refine ⟨a2.length + 1, ?_, ?_, ?_⟩
    · rw [List.getElem?_append_right (by rw [h.gpl]; exact Nat.le_refl _), h.gpl, Nat.sub_self]; rfl
    · simp [liveA]
    · simp [rowAt]
  · rw [List.getElem?_eq_none (by simp; omega)] at hk; cases hk
theorem r_dupL (F : Nat) (gl : List QL) (gp : List Nat) (gd : List Int) (g3 : List Int) (a2 : QN) (l : QL) (i : Nat) (hi : i < g3.length) (hg : g3.length ≤ 1000) : ∀ (n k : Nat), k ≤ i → i - k < n →
    rAdd_L1 F (i : Int) gl gp gd g3 a2 l n (k : Int) = some (bif decide (nth g3 0 i ∈ (g3.take i).drop k) then .inl (6, (gl, (gp, (gd, (g3, a2))))) else .inr ((i : Int), (gl, (gp, (gd, (g3, (a2, l)))))))
  | 0, k, _, h => by omega
  | n + 1, k, hk, h => by
    simp only [rAdd_L1]
    by_cases hki : k < i
    · rw [decide_eq_true (show (k : Int) < (i : Int) by omega), cond_true]
      have hb : inB (k : Int) (g3.length - 0) = true := by simp [inB]; omega
      have hb2 : inB (i : Int) (g3.length - 0) = true := by simp [inB]; omega
      rw [hb, cond_true, hb2, cond_true, show ((k : Int)).toNat = k from rfl, show ((i : Int)).toNat = i from rfl, take_get (d := (0 : Int)) hki (by omega)]
      by_cases hv : nth g3 0 k = nth g3 0 i
      · rw [show (nth g3 (0 : Int) k == nth g3 (0 : Int) i) = true by simpa using hv, cond_true, decide_eq_true (by rw [hv]; simp)]; rfl
      · rw [show (nth g3 (0 : Int) k == nth g3 (0 : Int) i) = false by simpa using hv, cond_false, w64 _ (by omega)]
        have ih := r_dupL F gl gp gd g3 a2 l i hi hg n (k + 1) hki (by omega)
        rw [show (((k + 1 : Nat)) : Int) = (k : Int) + 1 by omega] at ih
        rw [ih, show decide (nth g3 0 i ∈ nth g3 0 k :: (g3.take i).drop (k + 1)) = decide (nth g3 0 i ∈ (g3.take i).drop (k + 1)) from decide_eq_decide.2 (by
          rw [List.mem_cons]
          exact ⟨fun h => h.elim (fun e => absurd e.symm hv) id, .inr⟩)]
    · rw [decide_eq_false (show ¬ ((k : Int) < (i : Int)) by omega), cond_false, List.drop_eq_nil_of_le (by rw [List.length_take]; omega)]
      simp
/-- Which error parents give; 0: none. -/
def perr (n : Nat) : List Int → List Int → Int
  | _, [] => 0
  | pre, p :: ps => bif !inN1 p n then 7 else bif decide (p ∈ pre) then 6 else perr n (pre ++ [p]) ps
theorem qret_perr (es : List (QL × List Int)) : ∀ (ps pre acc : List Int), (∀ e, qret es pre acc ps = .inl e → perr es.length pre ps = e) ∧ (∀ s, qret es pre acc ps = .inr s → perr es.length pre ps = 0)
  | [], pre, acc => ⟨fun e h => by simp [qret] at h, fun s _ => rfl⟩
  | p :: ps, pre, acc => by
    simp only [qret, perr]
    cases inN1 p es.length with
    | false => exact ⟨fun e h => by simpa using h, fun s h => by simp at h⟩
    | true =>
      simp only [Bool.not_true, cond_false]
      cases decide (p ∈ pre) with
      | true => exact ⟨fun e h => by simpa using h, fun s h => by simp at h⟩
      | false => exact qret_perr es ps _ _
theorem r_addL (F : Nat) (hF : 1000 ≤ F) (gl : List QL) (gp : List Nat) (gd : List Int) (g3 : List Int) (a2 : QN) (l : QL) (hg : g3.length ≤ 100) : ∀ (ps pre : List Int) (n : Nat), g3 = pre ++ ps → ps.length < n →
    rAdd_L0 F n (pre.length : Int) gl gp gd g3 a2 l = some (bif perr gl.length pre ps == 0 then .inr (gl, (gp, (gd, (g3, (a2, l))))) else .inl (perr gl.length pre ps, (gl, (gp, (gd, (g3, a2))))))
  | _, _, 0, _, h => absurd h (Nat.not_lt_zero _)
  | [], pre, n + 1, e, _ => by
    rw [List.append_nil] at e
    simp only [rAdd_L0, perr]
    rw [decide_eq_false (by rw [e]; omega), cond_false]
    rfl
  | p :: ps, pre, n + 1, e, hn => by
    have hlen : g3.length = pre.length + (ps.length + 1) := by rw [e]; simp
    simp only [rAdd_L0, perr]
    rw [decide_eq_true (show (pre.length : Int) < (g3.length : Int) - 0 by omega), cond_true]
    have hb : inB (pre.length : Int) (g3.length - 0) = true := by simp [inB]; omega
    have hnth : nth g3 (0 : Int) ((pre.length : Int)).toNat = p := by
      show nth g3 0 pre.length = p
      simp [nth, e]
    rw [hb, cond_true, hnth, rin]
    have e1 : (decide (p ≥ (1 : Int)) && decide (p ≤ (gl.length : Int) - 0)) = inN1 p gl.length := by rw [Int.sub_zero]; rfl
    rw [e1]
    cases hp : inN1 p gl.length with
    | false => rfl
    | true =>
      have hd := r_dupL F gl gp gd g3 a2 l pre.length (by omega) (by omega) F 0 (by omega) (by omega)
      have htk : g3.take pre.length = pre := by rw [e]; simp
      rw [List.drop_zero, htk, show nth g3 0 pre.length = p from hnth] at hd
      change rAdd_L1 F (pre.length : Int) gl gp gd g3 a2 l F (0 : Int) = _ at hd
      simp only [Bool.not_true, cond_false]
      rw [hd]
      cases hm : decide (p ∈ pre) with
      | true => rfl
      | false =>
        have ih := r_addL F hF gl gp gd g3 a2 l hg ps (pre ++ [p]) n (by rw [e]; simp) (by simp at hn; omega)
        rw [show ((pre ++ [p]).length : Int) = (pre.length : Int) + 1 by simp] at ih
        show rAdd_L0 F n (IntKind.wrap IntKind.i64 ((pre.length : Int) + 1)) gl gp gd g3 a2 l = _
        rw [w64 _ (by omega), ih]
        rfl
/-- What Add answers, and what lies there behind it. -/
theorem r_add (F : Nat) (hF : 1000 ≤ F) (l : QL) (ps : List Int) (hps : ps.length ≤ 100) (h : Rep2 fs gl gp gd a2) (hs : fs.length < 200) :
    rAdd_S F l gl gp gd ps a2 = some (match qRet (esOf fs) l ps with
      | .inl e => (e, (a2, (gl, (gp, gd))))
      | .inr _ => (0, (a2 ++ [some ps], (gl ++ [l], (gp ++ [a2.length + 1], gd ++ [0]))))) := by
  unfold rAdd_S qRet okL
  rw [rlot]
  simp only [ob]
  cases qLot l with
  | false => rfl
  | true =>
    cases hz : (l.1 == (0 : Int)) with
    | true => rfl
    | false =>
      simp only [Bool.not_true, Bool.not_false, Bool.and_true, cond_false, cond_true, Int.sub_zero]
      cases decide ((ps.length : Int) > (10 : Int)) with
      | true => rfl
      | false =>
        simp only [cond_false]
        have hL := r_addL F hF gl gp gd ps a2 l hps ps [] F (by simp) (by omega)
        change rAdd_L0 F F (0 : Int) gl gp gd ps a2 l = _ at hL
        obtain ⟨k1, k2⟩ := qret_perr (esOf fs) ps [] []
        rw [esOf_len, ← h.len] at k1 k2
        rw [hL]
        cases hq : qret (esOf fs) [] [] ps with
        | inl e =>
          have he := k1 e hq
          rw [he, show (e == 0) = false by simpa using qret_ne ps _ _ e hq]
          rfl
        | inr s =>
          rw [k2 s hq]
          have hlen := h.len
          have hgd : gd.length = fs.length := by rw [h.gd]; simp
          have hgp := h.gpl
          have d1 : decide ((gl.length : Int) - 0 ≥ (200 : Int)) = false := decide_eq_false (by omega)
          have d2 : lenOk 0 gl.length = true := by simp [lenOk]; omega
          have d3 : lenOk 0 gp.length = true := by simp [lenOk]; omega
          have d4 : lenOk 0 gd.length = true := by simp [lenOk]; omega
          have d5 : lenOk (([] ++ gl).length - 0) [l].length = true := by simp [lenOk]; omega
          have d6 : lenOk (([] ++ gp).length - 0) [a2.length + 1].length = true := by simp [lenOk]; omega
          have d7 : lenOk (([] ++ gd).length - 0) 1 = true := by simp [lenOk]; omega
          show (bif decide ((gl.length : Int) - 0 ≥ (200 : Int)) then _ else (bif lenOk 0 gl.length then (bif lenOk (([] ++ gl).length - 0) [l].length then (bif lenOk 0 gp.length then (bif lenOk (([] ++ gp).length - 0) [a2.length + 1].length then (bif lenOk 0 gd.length then (bif lenOk (([] ++ gd).length - 0) 1 then _ else none) else none) else none) else none) else none) else none)) = _
          rw [d1, d2, d3, d4, d5, d6, d7]
          rfl
end
end Go.Proofs.Ythmicafabimfkaa


namespace Go.Proofs.Ythmicafabimfkaa
open Go.RowKit
set_option maxRecDepth 100000
abbrev dLt : QL := (TC.dflt (TC.pair (TC.int IntKind.i64) (TC.pair (TC.int IntKind.i64) (TC.pair (TC.pair (TC.pair (TC.int IntKind.i64) (TC.int IntKind.i64)) (TC.pair (TC.pair (TC.int IntKind.i64) (TC.int IntKind.i64)) (TC.pair (TC.int IntKind.i64) (TC.int IntKind.i64)))) (TC.int IntKind.i64)))))
abbrev dF : FE := (dQ.1, ([], ([], 0)))
def feAt (fs : List FE) (p : Int) : FE := nth fs dF (p.toNat - 1)
def rtake (fs : List FE) (p : Int × Int) : List FE := fs.set (p.1.toNat - 1) (((feAt fs p.1).1.1 - p.2, (feAt fs p.1).1.2), ((feAt fs p.1).2.1, ((feAt fs p.1).2.2.1, (feAt fs p.1).2.2.2 + p.2)))
def rtakes (fs : List FE) (ps : List (Int × Int)) : List FE := ps.foldl rtake fs
theorem rtake_len (fs : List FE) (p : Int × Int) : (rtake fs p).length = fs.length := by simp [rtake]
theorem rtakes_len : ∀ (ps : List (Int × Int)) (fs : List FE), (rtakes fs ps).length = fs.length
  | [], _ => rfl
  | p :: ps, fs => by
    show (rtakes (rtake fs p) ps).length = _
    rw [rtakes_len ps, rtake_len]
theorem fe_get {fs : List FE} {p : Int} (h : inN1 p fs.length = true) : fs[p.toNat - 1]? = some (feAt fs p) := by
  have h1 := inN1_iff.1 h
  have hl : p.toNat - 1 < fs.length := by omega
  simp [feAt, nth, List.getElem?_eq_getElem hl]
theorem fe_lot {fs : List FE} {p : Int} (h : inN1 p fs.length = true) : lotAt (esOf fs) p = (feAt fs p).1 ∧ ancAt (esOf fs) p = (feAt fs p).2.1 := by
  have h1 := fe_get h
  have h2 : (esOf fs)[p.toNat - 1]? = some ((feAt fs p).1, (feAt fs p).2.1) := by rw [esOf_get, h1]; rfl
  constructor
  · simp [lotAt, nth, h2]
  · simp [ancAt, h2]
theorem esOf_take {fs : List FE} {p : Int × Int} (h : inN1 p.1 fs.length = true) : esOf (rtake fs p) = qtake (esOf fs) p := by
  obtain ⟨h1, h2⟩ := fe_lot h
  unfold qtake
  rw [h1, h2]
  simp [esOf, rtake, List.map_set]
theorem rtake_get {fs : List FE} {p : Int × Int} (hp : inN1 p.1 fs.length = true) (k : Nat) : (rtake fs p)[k]? = if k = p.1.toNat - 1 then some (((feAt fs p.1).1.1 - p.2, (feAt fs p.1).1.2), ((feAt fs p.1).2.1, ((feAt fs p.1).2.2.1, (feAt fs p.1).2.2.2 + p.2))) else fs[k]? := by
  have h1 := inN1_iff.1 hp
  unfold rtake
  rw [List.getElem?_set]
  by_cases hk : p.1.toNat - 1 = k
  · rw [if_pos hk, if_pos hk.symm, if_pos (by omega)]
  · rw [if_neg hk, if_neg (fun e => hk e.symm)]
theorem rtake_other {fs : List FE} {p : Int × Int} (hp : inN1 p.1 fs.length = true) {q : Int} (hq : inN1 q fs.length = true) (h : q ≠ p.1) : feAt (rtake fs p) q = feAt fs q := by
  have h1 := inN1_iff.1 hp
  have h2 := inN1_iff.1 hq
  have e : ∀ fs : List FE, feAt fs q = fs[q.toNat - 1]?.getD dF := fun fs => by simp [feAt, nth]
  rw [e, e, rtake_get hp, if_neg (by omega)]
/-- Numbers of pieces are small. -/
def CntF (fs : List FE) : Prop := ∀ f ∈ fs, 0 ≤ f.1.1 ∧ 0 ≤ f.2.2.2 ∧ f.1.1 + f.2.2.2 ≤ 1000
theorem CntF.take {fs : List FE} (hc : CntF fs) {p : Int × Int} (hp : inN1 p.1 fs.length = true) (h1 : 1 ≤ p.2) (h2 : p.2 ≤ (feAt fs p.1).1.1) : CntF (rtake fs p) := by
  intro f hf
  obtain ⟨k, hk⟩ := List.mem_iff_getElem?.1 hf
  rw [rtake_get hp] at hk
  by_cases h : k = p.1.toNat - 1
  · rw [if_pos h] at hk
    cases hk
    have := hc _ (List.mem_of_getElem? (fe_get hp))
    simp only
    omega
  · rw [if_neg h] at hk
    exact hc f (List.mem_of_getElem? hk)
theorem r_ddupL (F l : Nat) (gl : List QL) (gp : List Nat) (gd : List Int) (g4 : G8) (a2 : QN) (g9 : List QL) (g91 : List Int) (ps : List (Int × Int)) (hps : rrAt g4 l = ps) (i : Nat) (hi : i < ps.length) (hg : ps.length ≤ 1000) : ∀ (n k : Nat), k ≤ i → i - k < n →
    rDraw_L1 F l (i : Int) gl gp gd g4 a2 g9 g91 n (k : Int) = some (bif decide ((nth ps dPk i).1 ∈ ((ps.take i).drop k).map Prod.fst) then .inl (6, (gl, (gp, (gd, (g4, a2))))) else .inr ((l, (i : Int)), (gl, (gp, (gd, (g4, (a2, (g9, g91))))))))
  | 0, k, _, h => by omega
  | n + 1, k, hk, h => by
    have h0 : Nat.beq l 0 = false := by
      cases hq : Nat.beq l 0 with
      | false => rfl
      | true =>
        have := Nat.eq_of_beq_eq_true hq
        subst this
        rw [show rrAt g4 0 = [] from rfl] at hps
        rw [← hps] at hi
        simp at hi
    simp only [rDraw_L1, hps, h0, Bool.not_false, cond_true]
    by_cases hki : k < i
    · rw [decide_eq_true (show (k : Int) < (i : Int) by omega), cond_true]
      have hb : inB (k : Int) ps.length = true := by simp [inB]; omega
      have hb2 : inB (i : Int) ps.length = true := by simp [inB]; omega
      rw [hb, cond_true, show ((k : Int)).toNat = k from rfl, decide_eq_true (show k < ps.length by omega), cond_true, hb2, cond_true, show ((i : Int)).toNat = i from rfl, decide_eq_true hi, cond_true, take_get (d := dPk) hki (by omega), List.map_cons]
      by_cases hv : (nth ps dPk k).1 = (nth ps dPk i).1
      · rw [show ((nth ps dPk k).1 == (nth ps dPk i).1) = true by simpa using hv, cond_true, decide_eq_true (by rw [hv]; simp)]; rfl
      · rw [show ((nth ps dPk k).1 == (nth ps dPk i).1) = false by simpa using hv, cond_false, w64 _ (by omega)]
        have ih := r_ddupL F l gl gp gd g4 a2 g9 g91 ps hps i hi hg n (k + 1) hki (by omega)
        rw [show (((k + 1 : Nat)) : Int) = (k : Int) + 1 by omega] at ih
        rw [ih, show decide ((nth ps dPk i).1 ∈ (nth ps dPk k).1 :: ((ps.take i).drop (k + 1)).map Prod.fst) = decide ((nth ps dPk i).1 ∈ ((ps.take i).drop (k + 1)).map Prod.fst) from decide_eq_decide.2 (by
          rw [List.mem_cons]
          exact ⟨fun h => h.elim (fun e => absurd e.symm hv) id, .inr⟩)]
    · rw [decide_eq_false (show ¬ ((k : Int) < (i : Int)) by omega), cond_false, List.drop_eq_nil_of_le (by rw [List.length_take]; omega)]
      simp
theorem nth_map {α β : Type} (f : α → β) {xs : List α} {d : α} {e : β} {k : Nat} (h : k < xs.length) : nth (xs.map f) e k = f (nth xs d k) := by
  simp [nth, List.getElem?_eq_getElem h]
theorem r_drawL (F l : Nat) (hF : 1000 ≤ F) (fs : List FE) (gp : List Nat) (gd : List Int) (g4 : G8) (a2 : QN) (g2 : List (Int × Int)) (hg2 : rrAt g4 l = g2) (hg : g2.length ≤ 100) (hfs : fs.length ≤ 1000) : ∀ (ps pre : List (Int × Int)) (seen : List Int) (n : Nat) (fs' : List FE), g2 = pre ++ ps → ps.length < n → fs'.length = fs.length → CntF fs' → (∀ x, x ∈ seen ↔ x ∈ pre.map Prod.fst) → (∀ q, inN1 q fs.length = true → q ∉ seen → feAt fs' q = feAt fs q) →
    rDraw_L0 F n l (pre.length : Int) (fs.map (fun f => f.1)) gp gd g4 a2 (fs'.map (fun f => f.1)) (fs'.map (fun f => f.2.2.2)) = some (bif qdr (esOf fs) seen ps == 0 then .inr (fs.map (fun f => f.1), (gp, (gd, (g4, (a2, ((rtakes fs' ps).map (fun f => f.1), (rtakes fs' ps).map (fun f => f.2.2.2))))))) else .inl (qdr (esOf fs) seen ps, (fs.map (fun f => f.1), (gp, (gd, (g4, a2))))))
  | _, _, _, 0, _, _, h, _, _, _, _ => absurd h (Nat.not_lt_zero _)
  | [], pre, seen, n + 1, fs', e, _, _, _, _, _ => by
    rw [List.append_nil] at e
    simp only [rDraw_L0, qdr, hg2]
    rw [decide_eq_false (by rw [e]; omega), cond_false]
    rfl
  | p :: ps, pre, seen, n + 1, fs', e, hn, hl', hc, hseen, hold => by
    have hlen : g2.length = pre.length + (ps.length + 1) := by rw [e]; simp
    have h0 : Nat.beq l 0 = false := by
      cases hq : Nat.beq l 0 with
      | false => rfl
      | true =>
        have := Nat.eq_of_beq_eq_true hq
        subst this
        rw [show rrAt g4 0 = [] from rfl] at hg2
        rw [← hg2] at hlen
        simp at hlen
    simp only [rDraw_L0, qdr, hg2, h0, Bool.not_false, cond_true]
    rw [decide_eq_true (show (pre.length : Int) < (g2.length : Int) by omega), cond_true]
    have hb : inB (pre.length : Int) g2.length = true := by simp [inB]; omega
    have hnth : nth g2 dPk pre.length = p := by simp [nth, e]
    rw [hb, cond_true, show ((pre.length : Int)).toNat = pre.length from rfl, decide_eq_true (show pre.length < g2.length by omega), cond_true, hnth, rin, esOf_len]
    have e1 : (decide (p.1 ≥ (1 : Int)) && decide (p.1 ≤ (((fs.map (fun f => f.1)).length : Nat) : Int) - 0)) = inN1 p.1 fs.length := by rw [Int.sub_zero, List.length_map]; rfl
    rw [e1]
    cases hp : inN1 p.1 fs.length with
    | false => rfl
    | true =>
      have hd := r_ddupL F l (fs.map (fun f => f.1)) gp gd g4 a2 (fs'.map (fun f => f.1)) (fs'.map (fun f => f.2.2.2)) g2 hg2 pre.length (by omega) (by omega) F 0 (by omega) (by omega)
      have htk : g2.take pre.length = pre := by rw [e]; simp
      rw [List.drop_zero, htk, hnth] at hd
      change rDraw_L1 F l (pre.length : Int) _ gp gd g4 a2 _ _ F (0 : Int) = _ at hd
      simp only [Bool.not_true, cond_false]
      rw [hd]
      have hsm : decide (p.1 ∈ seen) = decide (p.1 ∈ pre.map Prod.fst) := decide_eq_decide.2 (hseen p.1)
      rw [← hsm]
      by_cases hm : p.1 ∈ seen
      · rw [decide_eq_true hm]; rfl
      · rw [decide_eq_false hm, cond_false, cond_false]
        have hq := inN1_iff.1 hp
        have hp' : inN1 p.1 fs'.length = true := by rw [hl']; exact hp
        have hold1 := hold p.1 hp hm
        obtain ⟨l1, _⟩ := fe_lot hp
        have hfe := fe_get hp'
        have hcc := hc _ (List.mem_of_getElem? hfe)
        rw [hold1] at hcc
        have ew : IntKind.wrap IntKind.i64 (p.1 - 1) = p.1 - 1 := w64 _ (by omega)
        have et : (p.1 - 1).toNat = p.1.toNat - 1 := by omega
        have b1 : inB (p.1 - 1) ((fs.map (fun f => f.1)).length - 0) = true := by simp [inB]; omega
        have b2 : inB (p.1 - 1) ((fs'.map (fun f => f.1)).length - 0) = true := by simp [inB]; omega
        have b3 : inB (p.1 - 1) ((fs'.map (fun f => f.2.2.2)).length - 0) = true := by simp [inB]; omega
        have n1 : nth (fs.map (fun f => f.1)) dLt (p.1.toNat - 1) = (feAt fs p.1).1 := nth_map (fun f : FE => f.1) (xs := fs) (d := dF) (by omega)
        have n2 : nth (fs'.map (fun f => f.1)) dLt (p.1.toNat - 1) = (feAt fs p.1).1 := by rw [← hold1]; exact nth_map (fun f : FE => f.1) (xs := fs') (d := dF) (by omega)
        have n3 : nth (fs'.map (fun f => f.2.2.2)) (0 : Int) (p.1.toNat - 1) = (feAt fs p.1).2.2.2 := by rw [← hold1]; exact nth_map (fun f : FE => f.2.2.2) (xs := fs') (d := dF) (by omega)
        rw [l1]
        show (bif inB (pre.length : Int) (rrAt g4 l).length then (bif (!(Nat.beq l 0)) then (bif decide (((pre.length : Int)).toNat < (rrAt g4 l).length) then (bif decide ((nth (rrAt g4 l) dPk ((pre.length : Int)).toNat).2 < 1) then _ else _) else none) else none) else none) = _
        rw [hg2, hb, h0, show ((pre.length : Int)).toNat = pre.length from rfl, decide_eq_true (show pre.length < g2.length by omega), hnth]
        simp only [Bool.not_false, cond_true]
        by_cases h1 : p.2 < 1
        · rw [decide_eq_true h1]; rfl
        · rw [decide_eq_false h1]
          simp only [cond_false]
          rw [ew, et, b1]
          simp only [cond_true]
          simp only [n1, n2, n3, b2, b3, cond_true]
          by_cases h3 : p.2 > (feAt fs p.1).1.1
          · rw [decide_eq_true h3]; rfl
          · rw [decide_eq_false h3]
            simp only [cond_false]
            rw [w64 ((feAt fs p.1).1.1 - p.2) (by omega), w64 ((feAt fs p.1).2.2.2 + p.2) (by omega), w64 _ (by omega)]
            have ih := r_drawL F l hF fs gp gd g4 a2 g2 hg2 hg hfs ps (pre ++ [p]) (insS p.1 seen) n (rtake fs' p) (by rw [e]; simp) (by simp at hn; omega) (by rw [rtake_len, hl']) (hc.take hp' (by omega) (by rw [hold1]; omega)) (fun x => by
              rw [insS_mem, hseen, List.map_append, List.mem_append]
              simp only [List.map_cons, List.map_nil, List.mem_singleton]
              exact Or.comm) (fun q hq2 hqs => by
              have hne : q ≠ p.1 := fun e => hqs ((insS_mem _ _ _).2 (.inl e))
              rw [rtake_other hp' (by rw [hl']; exact hq2) hne]
              exact hold q hq2 (fun h => hqs ((insS_mem _ _ _).2 (.inr h))))
            rw [show ((pre ++ [p]).length : Int) = (pre.length : Int) + 1 by simp] at ih
            have s1 : (rtake fs' p).map (fun f => f.1) = (fs'.map (fun f => f.1)).set (p.1.toNat - 1) ((feAt fs p.1).1.1 - p.2, (feAt fs p.1).1.2) := by
              unfold rtake
              rw [hold1, List.map_set]
            have s2 : (rtake fs' p).map (fun f => f.2.2.2) = (fs'.map (fun f => f.2.2.2)).set (p.1.toNat - 1) ((feAt fs p.1).2.2.2 + p.2) := by
              unfold rtake
              rw [hold1, List.map_set]
            rw [s1, s2] at ih
            exact ih
section
variable {fs : List FE} {gl : List QL} {gp : List Nat} {gd : List Int} {a2 : QN}
theorem Rep2.take (h : Rep2 fs gl gp gd a2) {p : Int × Int} (hp : inN1 p.1 fs.length = true) : Rep2 (rtake fs p) ((rtake fs p).map (fun f => f.1)) gp ((rtake fs p).map (fun f => f.2.2.2)) a2 := by
  refine ⟨rfl, rfl, by rw [rtake_len]; exact h.gpl, fun k f hk => ?_⟩
  rw [rtake_get hp] at hk
  by_cases hq : k = p.1.toNat - 1
  · rw [if_pos hq] at hk
    cases hk
    rw [hq]
    have := h.par _ (feAt fs p.1) (fe_get hp)
    exact this
  · rw [if_neg hq] at hk
    exact h.par k f hk
theorem takes_ok : ∀ (ps : List (Int × Int)) (fs : List FE) (seen : List Int) (gl : List QL) (gd : List Int), Rep2 fs gl gp gd a2 → CntF fs → qdr (esOf fs) seen ps = 0 → Rep2 (rtakes fs ps) ((rtakes fs ps).map (fun f => f.1)) gp ((rtakes fs ps).map (fun f => f.2.2.2)) a2 ∧ CntF (rtakes fs ps) ∧ esOf (rtakes fs ps) = takes (esOf fs) ps
  | [], fs, _, gl, gd, h, hc, _ => ⟨⟨rfl, rfl, h.gpl, h.par⟩, hc, rfl⟩
  | p :: ps, fs, seen, gl, gd, h, hc, hq => by
    obtain ⟨hp, _, h2, h3, h4⟩ := qdr_cons hq
    rw [esOf_len] at hp
    rw [(fe_lot hp).1] at h3
    have hp' : inN1 p.1 (esOf fs).length = true := by rw [esOf_len]; exact hp
    have := takes_ok ps (rtake fs p) (insS p.1 seen) _ _ (h.take hp) (hc.take hp h2 h3) (by rw [esOf_take hp]; exact qdr_take hp' ps _ ((insS_mem _ _ _).2 (.inl rfl)) h4)
    refine ⟨this.1, this.2.1, ?_⟩
    show esOf (rtakes (rtake fs p) ps) = takes (qtake (esOf fs) p) ps
    rw [this.2.2, esOf_take hp]
/-- What Draw answers, and what lies there behind it. -/
theorem r_draw (F l : Nat) (hF : 1000 ≤ F) (g4 : G8) (hps : (rrAt g4 l).length ≤ 100) (h : Rep2 fs gl gp gd a2) (hs : fs.length ≤ 1000) (hc : CntF fs) :
    (qdr (esOf fs) [] (rrAt g4 l) ≠ 0 ∧ rDraw_S F l gl gp gd a2 g4 = some (qdr (esOf fs) [] (rrAt g4 l), (gp, (a2, (gl, gd))))) ∨
    (qdr (esOf fs) [] (rrAt g4 l) = 0 ∧ ∃ gl' gd', rDraw_S F l gl gp gd a2 g4 = some (0, (gp, (a2, (gl', gd')))) ∧ Rep2 (rtakes fs (rrAt g4 l)) gl' gp gd' a2 ∧ CntF (rtakes fs (rrAt g4 l)) ∧ esOf (rtakes fs (rrAt g4 l)) = takes (esOf fs) (rrAt g4 l)) := by
  have hL := r_drawL F l hF fs gp gd g4 a2 (rrAt g4 l) rfl hps hs (rrAt g4 l) [] [] F fs (by simp) (by omega) rfl hc (by simp) (fun _ _ _ => rfl)
  rw [← h.gl, ← h.gd] at hL
  change rDraw_L0 F F l (0 : Int) gl gp gd g4 a2 gl gd = _ at hL
  have hgd : gd.length = fs.length := by rw [h.gd]; simp
  have d1 : lenOk 0 gl.length = true := by have := h.len; simp [lenOk]; omega
  have d2 : lenOk 0 gd.length = true := by simp [lenOk]; omega
  have start : rDraw_S F l gl gp gd a2 g4 = (ob (rDraw_L0 F F l (0 : Int) gl gp gd g4 a2 gl gd) (fun o_ => su o_ (fun s3 => (some (s3.1, (s3.2.2.1, (s3.2.2.2.2.2, (s3.2.1, s3.2.2.2.1)))))) (fun s4 => (some ((0 : Int), (s4.2.1, (s4.2.2.2.2.1, (s4.2.2.2.2.2.1, s4.2.2.2.2.2.2)))))))) := by
    unfold rDraw_S
    simp only [cond_false, d1, d2, cond_true, List.nil_append]
  rw [start, hL]
  by_cases hq : qdr (esOf fs) [] (rrAt g4 l) = 0
  · right
    rw [hq]
    obtain ⟨t1, t2, t3⟩ := takes_ok (rrAt g4 l) fs [] gl gd h hc hq
    exact ⟨rfl, _, _, rfl, t1, t2, t3⟩
  · left
    rw [show (qdr (esOf fs) [] (rrAt g4 l) == 0) = false by simpa using hq]
    exact ⟨hq, rfl⟩
end
/-! What lots weigh -/
def wgh (gl : List QL) (cs : List Int) : Q7 := (List.zipWith (fun l c => m7 c l) gl cs).foldr a7 z7
theorem r_weighL (F : Nat) (gl : List QL) (cs : List Int) (t4 : QP) (hl : gl.length = cs.length) (hc : cs.length ≤ 1000) : ∀ (k i n : Nat) (A : Q7), i + k = cs.length → k < n →
    rWeigh_L0 F gl cs t4 n (i : Int) (u7 (w7 A)) = some (gl, (cs, (t4, u7 (w7 (a7 A (wgh (gl.drop i) (cs.drop i)))))))
  | _, _, 0, _, _, h => absurd h (Nat.not_lt_zero _)
  | 0, i, n + 1, A, e, _ => by
    simp only [rWeigh_L0]
    rw [decide_eq_false (by omega), cond_false, List.drop_eq_nil_of_le (show cs.length ≤ i by omega), List.drop_eq_nil_of_le (show gl.length ≤ i by omega)]
    rw [show wgh [] [] = z7 from rfl, a7c A, a7z]
  | k + 1, i, n + 1, A, e, hn => by
    have hb : inB (i : Int) (cs.length - 0) = true := by simp [inB]; omega
    have hb2 : inB (i : Int) (gl.length - 0) = true := by simp [inB]; omega
    simp only [rWeigh_L0]
    rw [decide_eq_true (show (i : Int) < (cs.length : Int) - 0 by omega), hb, hb2]
    simp only [cond_true]
    rw [w64 _ (by omega)]
    have ih := r_weighL F gl cs t4 hl hc k (i + 1) n (a7 A (m7 (nth cs 0 i) (nth gl dLt i))) (by omega) (by omega)
    rw [show (((i + 1 : Nat)) : Int) = (i : Int) + 1 by omega] at ih
    have e8 : w7 (a7 A (m7 (nth cs 0 i) (nth gl dLt i))) = w7 (a7 (w7 A) (w7 (m7 (nth cs 0 i) (nth gl dLt i)))) := by rw [w7b, w7a]
    have e9 : wgh (gl.drop i) (cs.drop i) = a7 (m7 (nth cs 0 i) (nth gl dLt i)) (wgh (gl.drop (i + 1)) (cs.drop (i + 1))) := by
      rw [List.drop_eq_getElem_cons (show i < gl.length by omega), List.drop_eq_getElem_cons (show i < cs.length by omega), nth_eq gl dLt i (by omega), nth_eq cs 0 i (by omega)]
      rfl
    rw [e9, ← a7s]
    rw [← ih, e8]
    rfl
theorem r_weigh (F : Nat) (hF : 2000 ≤ F) (gl : List QL) (cs : List Int) (hl : gl.length = cs.length) (hc : cs.length ≤ 1000) : rWeigh_S F gl cs = some (u7 (w7 (wgh gl cs))) := by
  have h := r_weighL F gl cs (u7 z7) hl hc cs.length 0 F z7 (by omega) (by omega)
  rw [w7z, List.drop_zero, List.drop_zero, a7z] at h
  unfold rWeigh_S
  show ob (rWeigh_L0 F gl cs (u7 z7) F (((0 : Nat)) : Int) (u7 z7)) _ = _
  rw [h]
theorem q_pile (F : Nat) (hF : 2000 ≤ F) (A : Q7) (gl : List QL) (cs : List Int) (hl : gl.length = cs.length) (hc : cs.length ≤ 1000) (h : w7 A = w7 (wgh gl cs)) : samePile_S F (u7 (w7 A)) gl cs = some true := by
  unfold samePile_S
  rw [r_weigh F hF gl cs hl hc, ← h]
  simp
theorem wgh_tot : ∀ fs : List FE, wgh (fs.map (fun f => f.1)) (fs.map (fun f => f.1.1)) = tot (esOf fs)
  | [] => rfl
  | f :: fs => by
    show a7 (m7 f.1.1 f.1) (wgh (fs.map (fun f => f.1)) (fs.map (fun f => f.1.1))) = a7 (m7 f.1.1 f.1) (tot (esOf fs))
    rw [wgh_tot fs]
/-- What was drawn of all lots. -/
def drawnF (fs : List FE) : Q7 := fs.foldr (fun f A => a7 (m7 f.2.2.2 f.1) A) z7
theorem wgh_drawn : ∀ fs : List FE, wgh (fs.map (fun f => f.1)) (fs.map (fun f => f.2.2.2)) = drawnF fs
  | [] => rfl
  | f :: fs => by
    show a7 (m7 f.2.2.2 f.1) (wgh (fs.map (fun f => f.1)) (fs.map (fun f => f.2.2.2))) = a7 (m7 f.2.2.2 f.1) (drawnF fs)
    rw [wgh_drawn fs]
theorem drawnF_app : ∀ (fs : List FE) (f : FE), drawnF (fs ++ [f]) = a7 (drawnF fs) (m7 f.2.2.2 f.1)
  | [], f => by
    show a7 (m7 f.2.2.2 f.1) z7 = a7 z7 (m7 f.2.2.2 f.1)
    rw [a7c]
  | x :: fs, f => by
    show a7 (m7 x.2.2.2 x.1) (drawnF (fs ++ [f])) = a7 (a7 (m7 x.2.2.2 x.1) (drawnF fs)) (m7 f.2.2.2 f.1)
    rw [drawnF_app fs f, a7s]
theorem drawnF_set : ∀ (fs : List FE) (k : Nat) (f0 f : FE), fs[k]? = some f0 → a7 (drawnF (fs.set k f)) (m7 f0.2.2.2 f0.1) = a7 (drawnF fs) (m7 f.2.2.2 f.1)
  | [], k, _, _, h => by simp at h
  | x :: fs, 0, f0, f, h => by
    simp only [List.getElem?_cons_zero, Option.some.injEq] at h
    subst h
    show a7 (a7 (m7 f.2.2.2 f.1) (drawnF fs)) (m7 x.2.2.2 x.1) = a7 (a7 (m7 x.2.2.2 x.1) (drawnF fs)) (m7 f.2.2.2 f.1)
    rw [a7c (a7 (m7 f.2.2.2 f.1) (drawnF fs)), a7s, a7c (m7 f.2.2.2 f.1)]
  | x :: fs, k + 1, f0, f, h => by
    have ih := drawnF_set fs k f0 f (by simpa using h)
    show a7 (a7 (m7 x.2.2.2 x.1) (drawnF (fs.set k f))) (m7 f0.2.2.2 f0.1) = a7 (a7 (m7 x.2.2.2 x.1) (drawnF fs)) (m7 f.2.2.2 f.1)
    rw [a7s, a7s, ih]
theorem m7_add (c n : Int) (l : QL) : a7 (m7 c l) (m7 n l) = m7 (c + n) l := by
  simp only [a7, m7, Int.add_mul]
theorem drawnF_take {fs : List FE} {p : Int × Int} (hp : inN1 p.1 fs.length = true) : drawnF (rtake fs p) = a7 (drawnF fs) (m7 p.2 (feAt fs p.1).1) := by
  have h := drawnF_set fs (p.1.toNat - 1) _ (((feAt fs p.1).1.1 - p.2, (feAt fs p.1).1.2), ((feAt fs p.1).2.1, ((feAt fs p.1).2.2.1, (feAt fs p.1).2.2.2 + p.2))) (fe_get hp)
  have e1 : m7 ((feAt fs p.1).2.2.2 + p.2) ((feAt fs p.1).1.1 - p.2, (feAt fs p.1).1.2) = m7 ((feAt fs p.1).2.2.2 + p.2) (feAt fs p.1).1 := rfl
  change a7 (drawnF (rtake fs p)) (m7 (feAt fs p.1).2.2.2 (feAt fs p.1).1) = a7 (drawnF fs) (m7 ((feAt fs p.1).2.2.2 + p.2) ((feAt fs p.1).1.1 - p.2, (feAt fs p.1).1.2)) at h
  rw [e1, ← m7_add, a7c (m7 (feAt fs p.1).2.2.2 (feAt fs p.1).1), ← a7s] at h
  exact a7_left h
theorem drawnF_takes : ∀ (ps : List (Int × Int)) (fs : List FE) (seen : List Int), qdr (esOf fs) seen ps = 0 → drawnF (rtakes fs ps) = drawn (esOf fs) (drawnF fs) ps
  | [], _, _, _ => rfl
  | p :: ps, fs, seen, h => by
    obtain ⟨hp, _, _, _, h5⟩ := qdr_cons h
    have hp1 := hp
    rw [esOf_len] at hp
    have ih := drawnF_takes ps (rtake fs p) (insS p.1 seen) (by rw [esOf_take hp]; exact qdr_take hp1 ps _ ((insS_mem _ _ _).2 (.inl rfl)) h5)
    rw [esOf_take hp, drawn_take hp1, drawnF_take hp] at ih
    show drawnF (rtakes (rtake fs p) ps) = drawn (esOf fs) (a7 (drawnF fs) (m7 p.2 (lotAt (esOf fs) p.1))) ps
    rw [ih, (fe_lot hp).1]
end Go.Proofs.Ythmicafabimfkaa


namespace Go.Proofs.Ythmicafabimfkaa
open Go.RowKit
set_option maxRecDepth 100000
def parAt (fs : List FE) (p : Int) : List Int := (feAt fs p).2.2.1
/-- Whatever a lot is made of is a parent, or what a parent is made of. -/
structure Clo (fs : List FE) : Prop where
  par : ∀ p, inN1 p fs.length = true → (∀ y ∈ parAt fs p, 1 ≤ y ∧ y < p) ∧ (parAt fs p).length ≤ 10
  anc : ∀ p, inN1 p fs.length = true → ∀ x, x ∈ ancAt (esOf fs) p ↔ x ∈ parAt fs p ∨ ∃ y ∈ parAt fs p, x ∈ ancAt (esOf fs) y
theorem Clo.inn {fs : List FE} (h : Clo fs) {p : Int} (hp : inN1 p fs.length = true) {y : Int} (hy : y ∈ parAt fs p) : inN1 y fs.length = true := by
  have h1 := inN1_iff.1 hp
  have h2 := (h.par p hp).1 y hy
  exact inN1_iff.2 (by omega)
theorem Clo.up {fs : List FE} (h : Clo fs) : ∀ (n : Nat) (p : Int), p.toNat ≤ n → inN1 p fs.length = true → ∀ x, x ∈ ancAt (esOf fs) p → ∃ q, (q = p ∨ q ∈ ancAt (esOf fs) p) ∧ inN1 q fs.length = true ∧ x ∈ parAt fs q
  | 0, p, hn, hp, x, _ => by have := inN1_iff.1 hp; omega
  | n + 1, p, hn, hp, x, hx => by
    rcases (h.anc p hp x).1 hx with h1 | ⟨y, h1, h2⟩
    · exact ⟨p, .inl rfl, hp, h1⟩
    · have hy := h.inn hp h1
      have hlt := (h.par p hp).1 y h1
      obtain ⟨q, q1, q2, q3⟩ := h.up n y (by omega) hy x h2
      refine ⟨q, .inr ((h.anc p hp q).2 ?_), q2, q3⟩
      rcases q1 with rfl | q1
      · exact .inl h1
      · exact .inr ⟨y, h1, q1⟩
theorem Clo.trans {fs : List FE} (h : Clo fs) {p q : Int} (hp : inN1 p fs.length = true) (hq : q ∈ ancAt (esOf fs) p) : ∀ y ∈ parAt fs q, y ∈ ancAt (esOf fs) p := by
  have key : ∀ (n : Nat) (p : Int), p.toNat ≤ n → inN1 p fs.length = true → ∀ q, q ∈ ancAt (esOf fs) p → ∀ y ∈ parAt fs q, y ∈ ancAt (esOf fs) p := by
    intro n
    induction n with
    | zero => intro p hn hp; have := inN1_iff.1 hp; omega
    | succ n ih =>
      intro p hn hp q hq y hy
      rcases (h.anc p hp q).1 hq with h1 | ⟨z, h1, h2⟩
      · exact (h.anc p hp y).2 (.inr ⟨q, h1, (h.anc q (h.inn hp h1) y).2 (.inl hy)⟩)
      · have hlt := (h.par p hp).1 z h1
        exact (h.anc p hp y).2 (.inr ⟨z, h1, ih z (by omega) (h.inn hp h1) q h2 y hy⟩)
  exact key p.toNat p (Nat.le_refl _) hp q hq
def mks (mk : List Bool) (ps : List Int) : List Bool := ps.foldl (fun m y => m.set y.toNat true) mk
theorem mks_len : ∀ (ps : List Int) (mk : List Bool), (mks mk ps).length = mk.length
  | [], _ => rfl
  | p :: ps, mk => by
    show (mks (mk.set p.toNat true) ps).length = _
    rw [mks_len ps, List.length_set]
theorem mks_nth : ∀ (ps : List Int) (mk : List Bool) (x : Nat), x < mk.length → (nth (mks mk ps) false x = true ↔ nth mk false x = true ∨ ∃ y ∈ ps, y.toNat = x)
  | [], mk, x, _ => by
    show nth mk false x = true ↔ _
    simp
  | p :: ps, mk, x, hx => by
    have ih := mks_nth ps (mk.set p.toNat true) x (by rw [List.length_set]; exact hx)
    show nth (mks (mk.set p.toNat true) ps) false x = true ↔ _
    rw [ih]
    have e : nth (mk.set p.toNat true) false x = true ↔ p.toNat = x ∨ nth mk false x = true := by
      by_cases hq : p.toNat = x
      · subst hq; simp [nth, List.getElem?_set, hx]
      · simp [nth, List.getElem?_set, hq]
    rw [e]
    constructor
    · rintro ((h | h) | ⟨y, h, h2⟩)
      · exact .inr ⟨p, by simp, h⟩
      · exact .inl h
      · exact .inr ⟨y, by simp [h], h2⟩
    · rintro (h | ⟨y, h, h2⟩)
      · exact .inl (.inr h)
      · rcases List.mem_cons.1 h with rfl | h
        · exact .inl (.inl h2)
        · exact .inr ⟨y, h, h2⟩
section
variable {fs : List FE} {gl : List QL} {gp : List Nat} {gd : List Int} {a2 : QN}
theorem r_traceL1 (F : Nat) (lot nn : Int) (gl : List QL) (gp : List Nat) (gd : List Int) (a2 : QN) (out : List Int) (ps : List Int) (hb : inB (nn - 1) gp.length = true) (hnn : 1 ≤ nn ∧ nn ≤ 1000) (hl : liveA a2 (nth gp 0 (nn - 1).toNat) = true) (hr : rowAt a2 (nth gp 0 (nn - 1).toNat) = ps) (hps : ps.length ≤ 100) : ∀ (rest pre : List Int) (n : Nat) (mk : List Bool), ps = pre ++ rest → rest.length < n → (∀ y ∈ rest, 0 ≤ y ∧ y < (mk.length : Int)) →
    rTrace_L1 F lot nn gl gp gd a2 out n (pre.length : Int) mk = some ((lot, nn), (gl, (gp, (gd, (a2, (mks mk rest, out))))))
  | _, _, 0, _, _, h, _ => absurd h (Nat.not_lt_zero _)
  | [], pre, n + 1, mk, e, _, _ => by
    rw [List.append_nil] at e
    simp only [rTrace_L1]
    rw [w64 _ (by omega), Nat.sub_zero, hb, cond_true, hl, cond_true, hr, decide_eq_false (by rw [e]; omega), cond_false]
    rfl
  | y :: rest, pre, n + 1, mk, e, hn, hy => by
    have hlen : ps.length = pre.length + (rest.length + 1) := by rw [e]; simp
    have hy0 := hy y (by simp)
    simp only [rTrace_L1]
    have hb2 : inB (pre.length : Int) ps.length = true := by simp [inB]; omega
    have hnth : nth ps (0 : Int) pre.length = y := by simp [nth, e]
    have hb3 : inB y (mk.length - 0) = true := by simp [inB]; omega
    rw [w64 (nn - 1) (by omega), Nat.sub_zero, hb, cond_true, hl, cond_true, hr, decide_eq_true (show (pre.length : Int) < ((ps.length : Nat) : Int) by omega), cond_true, cond_true, hb2, cond_true, show ((pre.length : Int)).toNat = pre.length from rfl, decide_eq_true (show pre.length < ps.length by omega), cond_true, hnth, hb3, cond_true]
    have ih := r_traceL1 F lot nn gl gp gd a2 out ps hb hnn hl hr hps rest (pre ++ [y]) n (mk.set y.toNat true) (by rw [e]; simp) (by simp at hn; omega) (fun z hz => by rw [List.length_set]; exact hy z (by simp [hz]))
    rw [show ((pre ++ [y]).length : Int) = (pre.length : Int) + 1 by simp] at ih
    rw [w64 _ (by omega)]
    exact ih
theorem Rep2.row (h : Rep2 fs gl gp gd a2) {p : Int} (hp : inN1 p fs.length = true) : liveA a2 (nth gp 0 (p - 1).toNat) = true ∧ rowAt a2 (nth gp 0 (p - 1).toNat) = parAt fs p := by
  have h1 := inN1_iff.1 hp
  obtain ⟨j, g1, g2, g3⟩ := h.par _ _ (fe_get hp)
  have e : nth gp 0 (p - 1).toNat = j := by
    rw [show (p - 1).toNat = p.toNat - 1 by omega]
    simp [nth, g1]
  rw [e]
  exact ⟨g2, g3⟩
theorem filt_step {l : List Int} (hs : l.Pairwise (· < ·)) {n : Int} (hn : n ∈ l) : l.filter (fun x => decide (n - 1 < x)) = n :: l.filter (fun x => decide (n < x)) := by
  refine srt_eq (hs.filter _) (List.pairwise_cons.2 ⟨fun x hx => by simpa using (List.mem_filter.1 hx).2, hs.filter _⟩) (fun x => ?_)
  simp only [List.mem_filter, List.mem_cons, decide_eq_true_eq]
  constructor
  · rintro ⟨h1, h2⟩
    by_cases h : x = n
    · exact .inl h
    · exact .inr ⟨h1, by omega⟩
  · rintro (rfl | ⟨h1, h2⟩)
    · exact ⟨hn, by omega⟩
    · exact ⟨h1, by omega⟩
theorem filt_skip {l : List Int} {n : Int} (hn : n ∉ l) : l.filter (fun x => decide (n - 1 < x)) = l.filter (fun x => decide (n < x)) := by
  refine List.filter_congr (fun x hx => ?_)
  refine decide_eq_decide.2 ⟨fun h => ?_, fun h => by omega⟩
  have : x ≠ n := fun e => hn (e ▸ hx)
  omega
theorem r_traceL0 (F : Nat) (hF : 2000 ≤ F) (h : Rep2 fs gl gp gd a2) (hc : Clo fs) (hs : fs.length ≤ 1000) {lot : Int} (hp : inN1 lot fs.length = true) (hsrt : (ancAt (esOf fs) lot).Pairwise (· < ·)) (hrng : ∀ x ∈ ancAt (esOf fs) lot, 1 ≤ x ∧ x < lot) : ∀ (k n : Nat) (mk : List Bool), (k : Int) ≤ lot → k < n → mk.length = fs.length + 1 →
    (∀ x : Nat, x < mk.length → nth mk false x = true → (x : Int) = lot ∨ (x : Int) ∈ ancAt (esOf fs) lot) → (∀ m : Int, (k : Int) < m → m = lot ∨ m ∈ ancAt (esOf fs) lot → ∀ y ∈ parAt fs m, nth mk false y.toNat = true) → nth mk false lot.toNat = true →
    rTrace_L0 F n lot (k : Int) gl gp gd a2 mk ((ancAt (esOf fs) lot).filter (fun x => decide ((k : Int) < x))) = some (gl, (gp, (gd, (a2, ancAt (esOf fs) lot))))
  | _, 0, _, _, h, _, _, _, _ => absurd h (Nat.not_lt_zero _)
  | 0, n + 1, mk, _, _, _, _, _, _ => by
    simp only [rTrace_L0]
    rw [decide_eq_false (by omega), cond_false]
    have : (ancAt (esOf fs) lot).filter (fun x => decide (((0 : Nat) : Int) < x)) = ancAt (esOf fs) lot := List.filter_eq_self.2 (fun x hx => by
      have := hrng x hx
      exact decide_eq_true (by omega))
    rw [this]
  | k + 1, n + 1, mk, hk, hn, hml, hS, hC, hL => by
    have hq := inN1_iff.1 hp
    have hkn : inN1 ((k + 1 : Nat) : Int) fs.length = true := inN1_iff.2 (by omega)
    have hb : inB ((k + 1 : Nat) : Int) (mk.length - 0) = true := by simp [inB]; omega
    have ek : ((k + 1 : Nat) : Int) - 1 = (k : Int) := by omega
    have ew : IntKind.wrap IntKind.i64 (((k + 1 : Nat) : Int) - 1) = (k : Int) := by rw [w64 _ (by omega), ek]
    simp only [rTrace_L0]
    rw [decide_eq_true (show ((k + 1 : Nat) : Int) > 0 by omega), cond_true, hb, cond_true, show (((k + 1 : Nat) : Int)).toNat = k + 1 from rfl]
    have iff1 : nth mk false (k + 1) = true ↔ ((k + 1 : Nat) : Int) = lot ∨ ((k + 1 : Nat) : Int) ∈ ancAt (esOf fs) lot := by
      refine ⟨hS (k + 1) (by omega), fun h1 => ?_⟩
      rcases h1 with h1 | h1
      · rw [show k + 1 = lot.toNat by omega]; exact hL
      · obtain ⟨q, q1, q2, q3⟩ := hc.up lot.toNat lot (Nat.le_refl _) hp _ h1
        have := (hc.par q q2).1 _ q3
        have h2 := hC q (by omega) q1 _ q3
        exact h2
    cases hm : nth mk false (k + 1) with
    | false =>
      have hno : ¬ (((k + 1 : Nat) : Int) = lot ∨ ((k + 1 : Nat) : Int) ∈ ancAt (esOf fs) lot) := fun h1 => by rw [iff1.2 h1] at hm; cases hm
      simp only [Bool.not_false, cond_true]
      rw [ew]
      have ih := r_traceL0 F hF h hc hs hp hsrt hrng k n mk (by omega) (by omega) hml hS (fun m hm2 hA y hy => hC m (by
        have : m ≠ ((k + 1 : Nat) : Int) := fun e => hno (e ▸ hA)
        omega) hA y hy) hL
      have hf := filt_skip (l := ancAt (esOf fs) lot) (n := ((k + 1 : Nat) : Int)) (fun h1 => hno (.inr h1))
      rw [ek] at hf
      rw [← hf]
      exact ih
    | true =>
      have hyes := iff1.1 hm
      simp only [Bool.not_true, cond_false]
      obtain ⟨r1, r2⟩ := h.row hkn
      have hgpl := h.gpl
      have hpar := hc.par _ hkn
      have hbp : inB (((k + 1 : Nat) : Int) - 1) gp.length = true := by rw [ek]; simp [inB]; omega
      have hmk : (mks mk (parAt fs ((k + 1 : Nat) : Int))).length = fs.length + 1 := by rw [mks_len, hml]
      have hA2 : ∀ y ∈ parAt fs ((k + 1 : Nat) : Int), y ∈ ancAt (esOf fs) lot := by
        intro y hy
        rcases hyes with h1 | h1
        · rw [h1] at hy; exact (hc.anc lot hp y).2 (.inl hy)
        · exact hc.trans hp h1 y hy
      have go : ∀ out', out' = (ancAt (esOf fs) lot).filter (fun x => decide ((k : Int) < x)) → ob (rTrace_L1 F lot ((k + 1 : Nat) : Int) gl gp gd a2 out' F (0 : Int) mk) (fun s2 => rTrace_L0 F n s2.1.1 (IntKind.wrap IntKind.i64 (s2.1.2 - (1 : Int))) s2.2.1 s2.2.2.1 s2.2.2.2.1 s2.2.2.2.2.1 s2.2.2.2.2.2.1 s2.2.2.2.2.2.2) = some (gl, (gp, (gd, (a2, ancAt (esOf fs) lot)))) := by
        intro out' ho
        have h1 := r_traceL1 F lot ((k + 1 : Nat) : Int) gl gp gd a2 out' _ hbp (by omega) r1 r2 (by omega) (parAt fs ((k + 1 : Nat) : Int)) [] F mk (by simp) (by omega) (fun y hy => by have := hpar.1 y hy; omega)
        change rTrace_L1 F lot ((k + 1 : Nat) : Int) gl gp gd a2 out' F (0 : Int) mk = _ at h1
        rw [h1]
        show rTrace_L0 F n lot (IntKind.wrap IntKind.i64 (((k + 1 : Nat) : Int) - (1 : Int))) gl gp gd a2 (mks mk (parAt fs ((k + 1 : Nat) : Int))) out' = _
        rw [ew, ho]
        refine r_traceL0 F hF h hc hs hp hsrt hrng k n _ (by omega) (by omega) hmk (fun x hx hx2 => ?_) (fun m hm2 hA y hy => ?_) ?_
        · rcases (mks_nth _ mk x (by rw [mks_len] at hx; exact hx)).1 hx2 with h3 | ⟨y, h3, h4⟩
          · exact hS x (by rw [mks_len] at hx; exact hx) h3
          · have := hpar.1 y h3
            rw [show (x : Int) = y by omega]
            exact .inr (hA2 y h3)
        · by_cases hmk2 : m = ((k + 1 : Nat) : Int)
          · rw [hmk2] at hy
            have := hpar.1 y hy
            exact (mks_nth _ mk y.toNat (by omega)).2 (.inr ⟨y, hy, rfl⟩)
          · have hmn : inN1 m fs.length = true := by
              rcases hA with h3 | h3
              · rw [h3]; exact hp
              · have := hrng m h3; exact inN1_iff.2 (by omega)
            have h4 := (hc.par m hmn).1 y hy
            have h5 := inN1_iff.1 hmn
            exact (mks_nth _ mk y.toNat (by omega)).2 (.inl (hC m (by omega) hA y hy))
        · exact (mks_nth _ mk lot.toNat (by omega)).2 (.inl hL)
      by_cases hlot : ((k + 1 : Nat) : Int) = lot
      · have e1 : (((k + 1 : Nat) : Int) != lot) = false := by simp [hlot]
        rw [e1]
        refine go _ ?_
        have hf := filt_skip (l := ancAt (esOf fs) lot) (n := ((k + 1 : Nat) : Int)) (fun h1 => by have := hrng _ h1; omega)
        rw [ek] at hf
        exact hf.symm
      · have e1 : (((k + 1 : Nat) : Int) != lot) = true := by simpa using hlot
        have hin : ((k + 1 : Nat) : Int) ∈ ancAt (esOf fs) lot := hyes.resolve_left hlot
        have hlen := srt_len _ 1 1000 hsrt (fun x hx => by have := hrng x hx; omega)
        have hfl := List.length_filter_le (fun x => decide (((k + 1 : Nat) : Int) < x)) (ancAt (esOf fs) lot)
        have hlk : lenOk ((((k + 1 : Nat) : Int) :: []).length - 0) ((ancAt (esOf fs) lot).filter (fun x => decide (((k + 1 : Nat) : Int) < x))).length = true := by simp only [lenOk, List.length_cons, List.length_nil, decide_eq_true_eq]; omega
        rw [e1]
        simp only [cond_true, cond_false]
        rw [hlk]
        refine go _ ?_
        have hf := filt_step hsrt hin
        rw [ek] at hf
        exact hf.symm
end
end Go.Proofs.Ythmicafabimfkaa


namespace Go.Proofs.Ythmicafabimfkaa
open Go.RowKit
set_option maxRecDepth 100000
section
variable {fs : List FE} {gl : List QL} {gp : List Nat} {gd : List Int} {a2 : QN}
theorem r_trace (F : Nat) (hF : 2000 ≤ F) (h : Rep2 fs gl gp gd a2) (hc : Clo fs) (hs : fs.length ≤ 1000) {lot : Int} (hp : inN1 lot fs.length = true) (hsrt : (ancAt (esOf fs) lot).Pairwise (· < ·)) (hrng : ∀ x ∈ ancAt (esOf fs) lot, 1 ≤ x ∧ x < lot) :
    rTrace_S F lot gl gp gd a2 = some (gl, (gp, (gd, (a2, ancAt (esOf fs) lot)))) := by
  have hq := inN1_iff.1 hp
  have hlen := h.len
  have e0 : IntKind.wrap IntKind.i64 ((gl.length : Int) - 0 + 1) = ((fs.length + 1 : Nat) : Int) := by rw [w64 _ (by omega), hlen]; omega
  have e1 : ((fs.length + 1 : Nat) : Int).toNat = fs.length + 1 := rfl
  obtain ⟨mk, hmk⟩ : ∃ mk, mk = (List.replicate (fs.length + 1) false).set lot.toNat true := ⟨_, rfl⟩
  have hml : mk.length = fs.length + 1 := by rw [hmk]; simp
  have hm1 : ∀ x : Nat, x < mk.length → nth mk false x = true → x = lot.toNat := by
    intro x hx hx2
    by_cases he : lot.toNat = x
    · exact he.symm
    · rw [hmk] at hx2
      rw [hml] at hx
      simp [nth, List.getElem?_set, he, hx] at hx2
  have hm2 : nth mk false lot.toNat = true := by
    rw [hmk]
    simp [nth, List.getElem?_set, show lot.toNat < fs.length + 1 by omega]
  have hno : (ancAt (esOf fs) lot).filter (fun x => decide (((lot.toNat : Nat) : Int) < x)) = [] := List.filter_eq_nil_iff.2 (fun x hx => by
    have := hrng x hx
    simp only [decide_eq_true_eq]
    omega)
  have h0 := r_traceL0 F hF h hc hs hp hsrt hrng lot.toNat F mk (by omega) (by omega) hml (fun x hx hx2 => .inl (by have := hm1 x hx hx2; omega)) (fun m hm hA y hy => by
    rcases hA with h3 | h3
    · omega
    · have := hrng m h3; omega) hm2
  rw [hno, show ((lot.toNat : Nat) : Int) = lot by omega] at h0
  unfold rTrace_S
  rw [e0, decide_eq_true (show (0 : Int) ≤ ((fs.length + 1 : Nat) : Int) by omega), decide_eq_true (show ((fs.length + 1 : Nat) : Int) ≤ 1000000 by omega), e1, ← hmk]
  have hb : inB lot ((List.replicate (fs.length + 1) false).length - 0) = true := by simp [inB]; omega
  rw [hb]
  simp only [Bool.and_true, cond_true]
  rw [h0]
theorem q_same (F : Nat) : ∀ (rest pre : List Int) (n : Nat), (pre ++ rest).length ≤ 1000 → rest.length < n → sameInts_L0 F (pre ++ rest) (pre ++ rest) n (pre.length : Int) = some (.inr (pre ++ rest, pre ++ rest))
  | _, _, 0, _, h => absurd h (Nat.not_lt_zero _)
  | [], pre, n + 1, _, _ => by
    simp only [sameInts_L0]
    rw [decide_eq_false (by simp), cond_false]
  | y :: rest, pre, n + 1, hl, hn => by
    have hlen : (pre ++ y :: rest).length = pre.length + (rest.length + 1) := by simp
    simp only [sameInts_L0]
    have hb : inB (pre.length : Int) ((pre ++ y :: rest).length - 0) = true := by simp [inB]; omega
    rw [decide_eq_true (show (pre.length : Int) < ((pre ++ y :: rest).length : Int) - 0 by omega), cond_true, hb, cond_true, cond_true, show (nth (pre ++ y :: rest) (0 : Int) ((pre.length : Int)).toNat != nth (pre ++ y :: rest) (0 : Int) ((pre.length : Int)).toNat) = false from ne0 rfl, cond_false, w64 _ (by omega)]
    have ih := q_same F rest (pre ++ [y]) n (by simp at hl ⊢; omega) (by simp at hn; omega)
    rw [show ((pre ++ [y]).length : Int) = (pre.length : Int) + 1 by simp, show pre ++ [y] ++ rest = pre ++ y :: rest by simp] at ih
    exact ih
theorem q_sameI (F : Nat) (hF : 2000 ≤ F) (l : List Int) (hl : l.length ≤ 1000) : sameInts_S F l l = some true := by
  have h := q_same F l [] F (by simpa using hl) (by omega)
  change sameInts_L0 F l l F (0 : Int) = _ at h
  unfold sameInts_S
  rw [show (((l.length : Int) - 0) != ((l.length : Int) - 0)) = false from ne0 rfl, cond_false, h]
theorem r_madeL1 (F : Nat) (num nn : Int) (gl : List QL) (gp : List Nat) (gd : List Int) (a2 : QN) (l : List Int) (hl : l.length ≤ 1000) : ∀ (rest pre : List Int) (n : Nat) (out : List Int), l = pre ++ rest → rest.length < n → out.length + rest.length ≤ 100000 →
    made_L1 F num nn gl gp gd a2 l n (pre.length : Int) out = some ((num, nn), (gl, (gp, (gd, (a2, out ++ (rest.filter (fun x => decide (x = num))).map (fun _ => nn))))))
  | _, _, 0, _, _, h, _ => absurd h (Nat.not_lt_zero _)
  | [], pre, n + 1, out, e, _, _ => by
    rw [List.append_nil] at e
    simp only [made_L1]
    rw [decide_eq_false (by rw [e]; omega), cond_false]
    simp
  | y :: rest, pre, n + 1, out, e, hn, ho => by
    have hlen : l.length = pre.length + (rest.length + 1) := by rw [e]; simp
    simp only [List.length_cons] at ho
    simp only [made_L1]
    have hb : inB (pre.length : Int) (l.length - 0) = true := by simp [inB]; omega
    have hnth : nth l (0 : Int) ((pre.length : Int)).toNat = y := by
      show nth l 0 pre.length = y
      simp [nth, e]
    rw [decide_eq_true (show (pre.length : Int) < (l.length : Int) - 0 by omega), cond_true, hb, cond_true, hnth, w64 _ (by omega)]
    have ih := fun out' => r_madeL1 F num nn gl gp gd a2 l hl rest (pre ++ [y]) n out' (by rw [e]; simp) (by simp at hn; omega)
    rw [show ((pre ++ [y]).length : Int) = (pre.length : Int) + 1 by simp] at ih
    by_cases h : y = num
    · have hlk : lenOk (out.length - 0) (nn :: []).length = true := by simp [lenOk]; omega
      rw [show (y == num) = true by simpa using h, cond_true, cond_false, hlk, cond_true, ih (out ++ [nn]) (by simp; omega), List.filter_cons_of_pos (by simpa using h)]
      simp
    · rw [show (y == num) = false by simpa using h, cond_false, ih out (by omega), List.filter_cons_of_neg (by simpa using h)]
theorem filt_one {l : List Int} (hs : l.Pairwise (· < ·)) (x : Int) : l.filter (fun y => decide (y = x)) = if x ∈ l then [x] else [] := by
  refine srt_eq (hs.filter _) ?_ (fun y => ?_)
  · by_cases h : x ∈ l
    · rw [if_pos h]; exact List.pairwise_singleton _ _
    · rw [if_neg h]; exact List.Pairwise.nil
  · rw [List.mem_filter, decide_eq_true_eq]
    by_cases h : x ∈ l
    · rw [if_pos h, List.mem_singleton]
      exact ⟨fun h2 => h2.2, fun h2 => ⟨h2 ▸ h, h2⟩⟩
    · rw [if_neg h]
      exact ⟨fun h2 => absurd (h2.2 ▸ h2.1) h, fun h2 => by cases h2⟩
theorem madeP_from (es : List (QL × List Int)) (p : Int) : ∀ n k : Nat, madeP es p (qmf k (n + 1)) = (if p ∈ ancAt es ((k : Int) + 1) then [(k : Int) + 1] else []) ++ madeP es p (qmf (k + 1) n) := by
  intro n k
  simp only [madeP, qmf]
  by_cases h : p ∈ ancAt es ((k : Int) + 1)
  · rw [if_pos h, List.filter_cons_of_pos (by simpa using h)]; rfl
  · rw [if_neg h, List.filter_cons_of_neg (by simpa using h)]; rfl
theorem r_madeL0 (F : Nat) (hF : 2000 ≤ F) (h : Rep2 fs gl gp gd a2) (hc : Clo fs) (hs : fs.length ≤ 200) (hA : ∀ p, inN1 p fs.length = true → (ancAt (esOf fs) p).Pairwise (· < ·) ∧ ∀ x ∈ ancAt (esOf fs) p, 1 ≤ x ∧ x < p) (num : Int) : ∀ (k i n : Nat) (out : List Int), i + k = fs.length → k < n → out.length ≤ i →
    made_L0 F n num ((i : Int) + 1) gl gp gd a2 out = some (gl, (gp, (gd, (a2, out ++ madeP (esOf fs) num (qmf i k)))))
  | _, _, 0, _, _, h, _ => absurd h (Nat.not_lt_zero _)
  | 0, i, n + 1, out, e, _, _ => by
    have hlen := h.len
    simp only [made_L0]
    rw [decide_eq_false (by omega), cond_false, show madeP (esOf fs) num (qmf i 0) = [] from rfl, List.append_nil]
  | k + 1, i, n + 1, out, e, hn, ho => by
    have hlen := h.len
    have hp : inN1 ((i : Int) + 1) fs.length = true := inN1_iff.2 (by omega)
    obtain ⟨s1, s2⟩ := hA _ hp
    have hal := srt_len _ 1 1000 s1 (fun x hx => by have := s2 x hx; omega)
    simp only [made_L0]
    rw [decide_eq_true (show (i : Int) + 1 ≤ (gl.length : Int) - 0 by omega), cond_true, r_trace F hF h hc (by omega) hp s1 s2]
    have h1 := r_madeL1 F num ((i : Int) + 1) gl gp gd a2 (ancAt (esOf fs) ((i : Int) + 1)) (by omega) (ancAt (esOf fs) ((i : Int) + 1)) [] F out (by simp) (by omega) (by omega)
    change made_L1 F num ((i : Int) + 1) gl gp gd a2 _ F (0 : Int) out = _ at h1
    show ob (made_L1 F num ((i : Int) + 1) gl gp gd a2 (ancAt (esOf fs) ((i : Int) + 1)) F (0 : Int) out) _ = _
    rw [h1, filt_one s1]
    show made_L0 F n num (IntKind.wrap IntKind.i64 ((i : Int) + 1 + 1)) gl gp gd a2 (out ++ (if num ∈ ancAt (esOf fs) ((i : Int) + 1) then [num] else []).map (fun _ => (i : Int) + 1)) = _
    have e2 : (if num ∈ ancAt (esOf fs) ((i : Int) + 1) then [num] else []).map (fun _ => (i : Int) + 1) = if num ∈ ancAt (esOf fs) ((i : Int) + 1) then [(i : Int) + 1] else [] := by
      by_cases h2 : num ∈ ancAt (esOf fs) ((i : Int) + 1)
      · rw [if_pos h2, if_pos h2]; rfl
      · rw [if_neg h2, if_neg h2]; rfl
    rw [e2, w64 _ (by omega), madeP_from]
    have ih := r_madeL0 F hF h hc hs hA num k (i + 1) n (out ++ if num ∈ ancAt (esOf fs) ((i : Int) + 1) then [(i : Int) + 1] else []) (by omega) (by omega) (by
      by_cases h2 : num ∈ ancAt (esOf fs) ((i : Int) + 1)
      · rw [if_pos h2]; simp; omega
      · rw [if_neg h2]; simp; omega)
    rw [show (((i + 1 : Nat)) : Int) + 1 = (i : Int) + 1 + 1 by omega] at ih
    rw [ih, List.append_assoc]
theorem r_made (F : Nat) (hF : 2000 ≤ F) (h : Rep2 fs gl gp gd a2) (hc : Clo fs) (hs : fs.length ≤ 200) (hA : ∀ p, inN1 p fs.length = true → (ancAt (esOf fs) p).Pairwise (· < ·) ∧ ∀ x ∈ ancAt (esOf fs) p, 1 ≤ x ∧ x < p) (num : Int) :
    made_S F num gl gp gd a2 = some (gl, (gp, (gd, (a2, madeQ (esOf fs) num)))) := by
  have h0 := r_madeL0 F hF h hc hs hA num fs.length 0 F [] (by omega) (by omega) (Nat.le_refl _)
  change made_L0 F F num (1 : Int) gl gp gd a2 [] = _ at h0
  unfold made_S
  rw [h0]
  show some (gl, (gp, (gd, (a2, [] ++ madeP (esOf fs) num (qmf 0 fs.length))))) = _
  rw [List.nil_append]
  unfold madeQ
  rw [esOf_len]
end
end Go.Proofs.Ythmicafabimfkaa
