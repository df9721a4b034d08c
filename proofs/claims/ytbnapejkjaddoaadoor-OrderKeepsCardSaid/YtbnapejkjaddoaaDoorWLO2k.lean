/- Plain laws of chapter 10: all lists, in ascending order. No condition. -/
import Derived.Test.YtbnapejkjaddoaaDoorWMA3
import Derived.Test.YtbnapejkjaddoaaDoorWMC4
import Derived.Laws.StructEq

namespace Go.Proofs.YtbnapejkjaddoaaDoor
open Go.RowKit
set_option maxRecDepth 100000
/-- The next list; none behind the last. -/
def nextL (k : Nat) : List Int → Option (List Int)
  | [] => none
  | t :: ts => match nextL k ts with
    | some ts' => some (t :: ts')
    | none => if t = (k : Int) - 1 then none else some ((t + 1) :: ts.map (fun _ => (-1 : Int)))
def okL (k : Nat) (ts : List Int) : Prop := ∀ t ∈ ts, -1 ≤ t ∧ t ≤ (k : Int) - 1
theorem okL_cons {k : Nat} {t : Int} {ts : List Int} (h : okL k (t :: ts)) : (-1 ≤ t ∧ t ≤ (k : Int) - 1) ∧ okL k ts := ⟨h t List.mem_cons_self, fun x hx => h x (List.mem_cons_of_mem _ hx)⟩
theorem okL_mk {k : Nat} {t : Int} {ts : List Int} (h1 : -1 ≤ t ∧ t ≤ (k : Int) - 1) (h2 : okL k ts) : okL k (t :: ts) := fun x hx => by
  rcases List.mem_cons.1 hx with rfl | hx
  · exact h1
  · exact h2 x hx
theorem okL_start (k : Nat) (ts : List Int) : okL k (ts.map (fun _ => (-1 : Int))) := fun t ht => by
  obtain ⟨_, _, rfl⟩ := List.mem_map.1 ht
  omega
theorem lexLe_refl : ∀ ts : List Int, lexLe ts ts
  | [] => trivial
  | _ :: ts => .inr ⟨rfl, lexLe_refl ts⟩
theorem lexLe_anti : ∀ {l m : List Int}, l.length = m.length → lexLe l m → lexLe m l → l = m
  | [], [], _, _, _ => rfl
  | a :: l, b :: m, hl, h1, h2 => by
    rcases h1 with h1 | ⟨h1, h3⟩
    · rcases h2 with h2 | ⟨h2, _⟩ <;> omega
    · subst h1
      rcases h2 with h2 | ⟨_, h4⟩
      · omega
      · rw [lexLe_anti (by simpa using hl) h3 h4]
theorem lexLe_trans : ∀ {a b c : List Int}, lexLe a b → lexLe b c → lexLe a c
  | [], _, _, _, _ => trivial
  | x :: a, y :: b, z :: c, h1, h2 => by
    rcases h1 with h1 | ⟨h1, h3⟩
    · rcases h2 with h2 | ⟨h2, _⟩
      · exact .inl (by omega)
      · exact .inl (by omega)
    · rcases h2 with h2 | ⟨h2, h4⟩
      · exact .inl (by omega)
      · exact .inr ⟨by omega, lexLe_trans h3 h4⟩
theorem start_le (k : Nat) : ∀ (ts us : List Int), ts.length = us.length → okL k us → lexLe (ts.map (fun _ => (-1 : Int))) us
  | [], _, _, _ => trivial
  | t :: ts, u :: us, hl, hu => by
    obtain ⟨h1, h2⟩ := okL_cons hu
    show (-1 : Int) < u ∨ ((-1 : Int) = u ∧ _)
    rcases Int.lt_or_eq_of_le h1.1 with h3 | h3
    · exact .inl h3
    · exact .inr ⟨h3, start_le k ts us (by simpa using hl) h2⟩
theorem next_none {k : Nat} : ∀ {ts : List Int}, nextL k ts = none → ∀ {us : List Int}, ts.length = us.length → okL k us → lexLe us ts
  | [], _, [], _, _ => trivial
  | t :: ts, h, u :: us, hl, hu => by
    simp only [nextL] at h
    obtain ⟨h1, h2⟩ := okL_cons hu
    cases hn : nextL k ts with
    | some ts' => rw [hn] at h; cases h
    | none =>
      rw [hn] at h
      dsimp only at h
      split at h
      · rename_i ht
        show u < t ∨ (u = t ∧ _)
        rcases Int.lt_or_eq_of_le h1.2 with h3 | h3
        · exact .inl (by omega)
        · exact .inr ⟨by omega, next_none hn (by simpa using hl) h2⟩
      · cases h
theorem next_len {k : Nat} : ∀ {ts ts' : List Int}, nextL k ts = some ts' → ts'.length = ts.length
  | t :: ts, ts', h => by
    simp only [nextL] at h
    cases hn : nextL k ts with
    | some us => rw [hn] at h; cases h; simp [next_len hn]
    | none =>
      rw [hn] at h
      dsimp only at h
      split at h
      · cases h
      · cases h; simp
theorem next_ok {k : Nat} : ∀ {ts ts' : List Int}, nextL k ts = some ts' → okL k ts → okL k ts'
  | t :: ts, ts', h, ho => by
    obtain ⟨h1, h2⟩ := okL_cons ho
    simp only [nextL] at h
    cases hn : nextL k ts with
    | some us => rw [hn] at h; cases h; exact okL_mk h1 (next_ok hn h2)
    | none =>
      rw [hn] at h
      dsimp only at h
      split at h
      · cases h
      · cases h; exact okL_mk (by omega) (okL_start k ts)
/-- Between a list and the next there is no other. -/
theorem next_gap {k : Nat} : ∀ {ts ts' : List Int}, nextL k ts = some ts' → ∀ {us : List Int}, ts.length = us.length → okL k us → lexLe ts' us ∨ lexLe us ts
  | t :: ts, ts', h, u :: us, hl, hu => by
    obtain ⟨h1, h2⟩ := okL_cons hu
    have hl' : ts.length = us.length := by simpa using hl
    simp only [nextL] at h
    cases hn : nextL k ts with
    | some ws =>
      rw [hn] at h; cases h
      rcases Int.lt_trichotomy t u with h3 | h3 | h3
      · exact .inl (.inl h3)
      · subst h3
        rcases next_gap hn hl' h2 with h4 | h4
        · exact .inl (.inr ⟨rfl, h4⟩)
        · exact .inr (.inr ⟨rfl, h4⟩)
      · exact .inr (.inl h3)
    | none =>
      rw [hn] at h
      dsimp only at h
      split at h
      · cases h
      · cases h
        rcases Int.lt_trichotomy t u with h3 | h3 | h3
        · rcases Int.lt_or_eq_of_le (show t + 1 ≤ u by omega) with h4 | h4
          · exact .inl (.inl h4)
          · exact .inl (.inr ⟨h4, start_le k ts us hl' h2⟩)
        · subst h3
          exact .inr (.inr ⟨rfl, next_none hn hl' h2⟩)
        · exact .inr (.inl h3)
theorem next_lt {k : Nat} : ∀ {ts ts' : List Int}, nextL k ts = some ts' → lexLe ts ts'
  | t :: ts, ts', h => by
    simp only [nextL] at h
    cases hn : nextL k ts with
    | some ws => rw [hn] at h; cases h; exact .inr ⟨rfl, next_lt hn⟩
    | none =>
      rw [hn] at h
      dsimp only at h
      split at h
      · cases h
      · cases h; exact .inl (by omega)
/-- How many lists are behind. -/
def remL (k : Nat) : List Int → Nat
  | [] => 0
  | t :: ts => ((k : Int) - 1 - t).toNat * (k + 1) ^ ts.length + remL k ts
theorem rem_none {k : Nat} : ∀ {ts : List Int}, nextL k ts = none → remL k ts = 0
  | [], _ => rfl
  | t :: ts, h => by
    simp only [nextL] at h
    cases hn : nextL k ts with
    | some ws => rw [hn] at h; cases h
    | none =>
      rw [hn] at h
      dsimp only at h
      split at h
      · rename_i ht
        simp only [remL, rem_none hn, ht]
        simp
      · cases h
theorem rem_start (k : Nat) : ∀ ts : List Int, remL k (ts.map (fun _ => (-1 : Int))) + 1 = (k + 1) ^ ts.length
  | [] => by simp [remL]
  | t :: ts => by
    have ih := rem_start k ts
    simp only [List.map_cons, remL, List.length_map, List.length_cons, Nat.pow_succ]
    rw [show ((k : Int) - 1 - -1).toNat = k by omega]
    generalize (k + 1) ^ ts.length = p at ih ⊢
    rw [Nat.mul_succ, Nat.mul_comm p k]; omega
theorem rem_next {k : Nat} : ∀ {ts ts' : List Int}, nextL k ts = some ts' → okL k ts → remL k ts = remL k ts' + 1
  | t :: ts, ts', h, ho => by
    obtain ⟨h1, h2⟩ := okL_cons ho
    simp only [nextL] at h
    cases hn : nextL k ts with
    | some ws =>
      rw [hn] at h; cases h
      have ih := rem_next hn h2
      simp only [remL, next_len hn, ih]; omega
    | none =>
      rw [hn] at h
      dsimp only at h
      split at h
      · cases h
      · cases h
        have h3 := rem_start k ts
        simp only [remL, rem_none hn, List.length_map]
        obtain ⟨c, hc⟩ : ∃ c : Nat, (k : Int) - 1 - t = ((c + 1 : Nat) : Int) := ⟨((k : Int) - 2 - t).toNat, by omega⟩
        rw [hc, show ((k : Int) - 1 - (t + 1)) = (c : Int) by omega, Int.toNat_natCast, Int.toNat_natCast]
        generalize (k + 1) ^ ts.length = p at h3 ⊢
        rw [Nat.add_mul]; omega
/-- The last number that is not the greatest goes up by one, those behind begin anew. -/
theorem next_at {k : Nat} : ∀ (a : List Int) {t : Int} {b : List Int}, nextL k b = none → t ≠ (k : Int) - 1 → nextL k (a ++ t :: b) = some (a ++ (t + 1) :: b.map (fun _ => (-1 : Int)))
  | [], t, b, hb, ht => by simp only [List.nil_append, nextL, hb]; rw [if_neg ht]
  | x :: a, t, b, hb, ht => by simp only [List.cons_append, nextL, next_at a hb ht]
theorem next_max {k : Nat} {b : List Int} (hb : nextL k b = none) : nextL k (((k : Int) - 1) :: b) = none := by
  simp only [nextL, hb, if_pos]
section
variable {sp : List SpT} {wf : List WfT} {od : List OdT}
theorem best2 (F : Nat) (rank : Int) (ar0 : A0) (ar1 : A1) (bs : List Int) (ho : od.length ≤ 12) : ∀ (m n : Nat) (a b : List Int), a.length = m → m < n → m ≤ 1000 → nextL od.length b = none →
    ∃ (kk : Int) (tl' : List Int), best_L2 F rank sp wf od ar0 ar1 bs n ((m : Int) - 1) (a ++ b.map (fun _ => (-1 : Int))) = some ((rank, kk), (sp, wf, od, ar0, ar1, bs, tl')) ∧ ((kk < 0 ∧ nextL od.length (a ++ b) = none) ∨ (∃ i : Nat, kk = (i : Int) ∧ i < tl'.length ∧ nextL od.length (a ++ b) = some (List.set tl' i (nth tl' 0 i + 1)) ∧ nth tl' 0 i ∈ a))
  | 0, n + 1, a, b, ha, _, _, hb => by
    have : a = [] := List.length_eq_zero_iff.1 ha
    subst this
    exact ⟨-1, _, rfl, .inl ⟨by omega, hb⟩⟩
  | m + 1, n + 1, a, b, ha, hn, hm, hb => by
    obtain ⟨a, x, rfl⟩ : ∃ a' x, a = a' ++ [x] := ⟨a.dropLast, a.getLast (by intro e; subst e; cases ha), (List.dropLast_concat_getLast _).symm⟩
    have ha' : a.length = m := by simp at ha; exact ha
    have hlen : (a ++ [x] ++ b.map (fun _ => (-1 : Int))).length = m + 1 + b.length := by simp; omega
    have hnx : nth (a ++ [x] ++ b.map (fun _ => (-1 : Int))) 0 m = x := by
      unfold nth
      rw [List.append_assoc, List.getD_eq_getElem?_getD, List.getElem?_append_right (by omega), ha']
      simp
    have hset : ∀ y, List.set (a ++ [x] ++ b.map (fun _ => (-1 : Int))) m y = a ++ y :: b.map (fun _ => (-1 : Int)) := fun y => by
      rw [List.append_assoc, List.set_append_right _ _ (by omega), ha']
      simp
    have c1 : decide ((((m + 1 : Nat) : Int) - 1) ≥ 0) = true := by simp
    have c2 : (((m + 1 : Nat) : Int) - 1) = (m : Int) := by omega
    have c3 : inB (m : Int) ((a ++ [x] ++ b.map (fun _ => (-1 : Int))).length - 0) = true := by rw [hlen]; exact inB_nat (by omega)
    have c4 : IntKind.wrap IntKind.i64 (((od.length - 0) : Int) - 1) = (od.length : Int) - 1 := by rw [w64 _ (by omega)]; omega
    by_cases hx : x = (od.length : Int) - 1
    · obtain ⟨kk, tl', e1, e2⟩ := best2 F rank ar0 ar1 bs ho m n a (x :: b) ha' (by omega) (by omega) (by rw [hx]; exact next_max hb)
      refine ⟨kk, tl', ?_, ?_⟩
      · rw [← e1]
        show (bif decide ((((m + 1 : Nat) : Int) - 1) ≥ 0) then bif inB (((m + 1 : Nat) : Int) - 1) ((a ++ [x] ++ b.map (fun _ => (-1 : Int))).length - 0) then bif nth (a ++ [x] ++ b.map (fun _ => (-1 : Int))) 0 (((m + 1 : Nat) : Int) - 1).toNat == IntKind.wrap IntKind.i64 (((od.length - 0) : Int) - 1) then bif inB (((m + 1 : Nat) : Int) - 1) ((a ++ [x] ++ b.map (fun _ => (-1 : Int))).length - 0) then best_L2 F rank sp wf od ar0 ar1 bs n (IntKind.wrap IntKind.i64 ((((m + 1 : Nat) : Int) - 1) - 1)) (List.set (a ++ [x] ++ b.map (fun _ => (-1 : Int))) (((m + 1 : Nat) : Int) - 1).toNat (-1)) else none else _ else none else _) = _
        rw [c1, c2, c3, c4, Int.toNat_natCast, hnx, show (x == (od.length : Int) - 1) = true by simpa using hx, hset, w64 _ (by omega)]
        rfl
      · rw [show a ++ [x] ++ b = a ++ x :: b by simp]
        rcases e2 with e2 | ⟨i, f1, f2, f3, f4⟩
        · exact .inl e2
        · exact .inr ⟨i, f1, f2, f3, List.mem_append_left _ f4⟩
    · refine ⟨(m : Int), a ++ [x] ++ b.map (fun _ => (-1 : Int)), ?_, .inr ⟨m, rfl, by rw [hlen]; omega, ?_, by rw [hnx]; simp⟩⟩
      · show (bif decide ((((m + 1 : Nat) : Int) - 1) ≥ 0) then bif inB (((m + 1 : Nat) : Int) - 1) ((a ++ [x] ++ b.map (fun _ => (-1 : Int))).length - 0) then bif nth (a ++ [x] ++ b.map (fun _ => (-1 : Int))) 0 (((m + 1 : Nat) : Int) - 1).toNat == IntKind.wrap IntKind.i64 (((od.length - 0) : Int) - 1) then _ else some ((rank, ((m + 1 : Nat) : Int) - 1), (sp, wf, od, ar0, ar1, bs, a ++ [x] ++ b.map (fun _ => (-1 : Int)))) else none else _) = _
        rw [c1, c2, c3, c4, Int.toNat_natCast, hnx, show (x == (od.length : Int) - 1) = false by simpa using hx]
        rfl
      · rw [hnx, hset, show a ++ [x] ++ b = a ++ x :: b by simp]
        exact next_at a hb hx
  | m, 0, _, _, _, hn, _, _ => by omega
end
end Go.Proofs.YtbnapejkjaddoaaDoor


namespace Go.Proofs.YtbnapejkjaddoaaDoor
open Go.RowKit
set_option maxRecDepth 100000
section
variable {sp : List SpT} {wf : List WfT} {od : List OdT}
/-- What was found among the lists that were seen. -/
def Tried (sp : List SpT) (wf : List WfT) (od : List OdT) (seen : List Int → Prop) (rank : Int) (bs : List Int) : Prop :=
  (∀ us : List Int, us.length = wf.length → okL od.length us → seen us → ∀ v, rkM sp wf od us = some v → v ≤ rank ∧ (v = rank → lexLe bs us)) ∧ (rank = -1 ∨ (bs.length = wf.length ∧ rkM sp wf od bs = some rank ∧ 0 ≤ rank ∧ seen bs))
theorem best1 (h : MOk sp wf od) (hr : regOk sp) (F : Nat) (hF : 2000 < F) (ar0 : A0) (ar1 : A1) : ∀ (n : Nat) (rank : Int) (bs tl : List Int), remL od.length tl < n → tl.length = wf.length → okL od.length tl → -1 ≤ rank → rank ≤ 100000000000 → Tried sp wf od (fun us => lexLe us tl ∧ us ≠ tl) rank bs →
    ∃ (rank' : Int) (bs' : List Int), best_L1 F n rank sp wf od ar0 ar1 bs tl = some (sp, wf, od, ar0, ar1, bs') ∧ Tried sp wf od (fun _ => True) rank' bs' := by
  intro n
  induction n with
  | zero => intro rank bs tl hm; omega
  | succ n ih =>
    intro rank bs tl hm hl hok h1 h2 hT
    have hw := h.w
    have ho := h.o
    let rank2 : Int := match rkM sp wf od tl with
      | some v => if v > rank then v else rank
      | none => rank
    let bs2 : List Int := match rkM sp wf od tl with
      | some v => if v > rank then tl else bs
      | none => bs
    have hb : ∀ v, rkM sp wf od tl = some v → 0 ≤ v ∧ v ≤ 100000000000 := fun v hv => by
      have := rkF_bound h tl 0 _ 0 v hv; omega
    have inner : (bif (match rkM sp wf od tl with | some v => (v / 1000000000, v % 1000000000, true) | none => ((0 : Int), (0 : Int), false)).2.2 then bif decide (IntKind.wrap IntKind.i64 ((IntKind.wrap IntKind.i64 ((match rkM sp wf od tl with | some v => (v / 1000000000, v % 1000000000, true) | none => ((0 : Int), (0 : Int), false)).1 * (1000000000 : Int))) + (match rkM sp wf od tl with | some v => (v / 1000000000, v % 1000000000, true) | none => ((0 : Int), (0 : Int), false)).2.1) > rank) then bif lenOk 0 tl.length then some (IntKind.wrap IntKind.i64 ((IntKind.wrap IntKind.i64 ((match rkM sp wf od tl with | some v => (v / 1000000000, v % 1000000000, true) | none => ((0 : Int), (0 : Int), false)).1 * (1000000000 : Int))) + (match rkM sp wf od tl with | some v => (v / 1000000000, v % 1000000000, true) | none => ((0 : Int), (0 : Int), false)).2.1), (sp, wf, od, ar0, ar1, ([] ++ tl), tl)) else none else some (rank, (sp, wf, od, ar0, ar1, bs, tl)) else some (rank, (sp, wf, od, ar0, ar1, bs, tl))) = some (rank2, (sp, wf, od, ar0, ar1, bs2, tl)) := by
      show _ = some ((match rkM sp wf od tl with
        | some v => if v > rank then v else rank
        | none => rank), (sp, wf, od, ar0, ar1, (match rkM sp wf od tl with
        | some v => if v > rank then tl else bs
        | none => bs), tl))
      cases hv : rkM sp wf od tl with
      | none => rfl
      | some v =>
        have hbv := hb v hv
        dsimp only
        rw [w64 (v / 1000000000 * 1000000000) (by omega), w64 _ (by omega), show v / 1000000000 * 1000000000 + v % 1000000000 = v by omega, lenOk_of (by omega)]
        by_cases hg : v > rank
        · rw [show decide (v > rank) = true by simpa using hg, if_pos hg, if_pos hg]; rfl
        · rw [show decide (v > rank) = false by simpa using hg, if_neg hg, if_neg hg]; rfl
    have hT2 : Tried sp wf od (fun us => lexLe us tl) rank2 bs2 ∧ -1 ≤ rank2 ∧ rank2 ≤ 100000000000 := by
      show Tried sp wf od (fun us => lexLe us tl) (match rkM sp wf od tl with
        | some v => if v > rank then v else rank
        | none => rank) (match rkM sp wf od tl with
        | some v => if v > rank then tl else bs
        | none => bs) ∧ -1 ≤ (match rkM sp wf od tl with
        | some v => if v > rank then v else rank
        | none => rank) ∧ (match rkM sp wf od tl with
        | some v => if v > rank then v else rank
        | none => rank) ≤ 100000000000
      have old : ∀ us, lexLe us tl → us = tl ∨ (lexLe us tl ∧ us ≠ tl) := fun us hu => by
        by_cases e : us = tl
        · exact .inl e
        · exact .inr ⟨hu, e⟩
      cases hv : rkM sp wf od tl with
      | none =>
        refine ⟨⟨fun us g1 g2 g3 v' g4 => ?_, ?_⟩, h1, h2⟩
        · rcases old us g3 with rfl | g5
          · rw [hv] at g4; cases g4
          · exact hT.1 us g1 g2 g5 v' g4
        · rcases hT.2 with g | ⟨g1, g2, g3, g4⟩
          · exact .inl g
          · exact .inr ⟨g1, g2, g3, g4.1⟩
      | some v =>
        have hbv := hb v hv
        dsimp only
        by_cases hg : v > rank
        · rw [if_pos hg, if_pos hg]
          refine ⟨⟨fun us g1 g2 g3 v' g4 => ?_, .inr ⟨hl, hv, hbv.1, lexLe_refl _⟩⟩, by omega, hbv.2⟩
          rcases old us g3 with rfl | g5
          · rw [hv] at g4; cases g4
            exact ⟨Int.le_refl _, fun _ => lexLe_refl _⟩
          · have := (hT.1 us g1 g2 g5 v' g4).1
            exact ⟨by omega, fun e => by omega⟩
        · rw [if_neg hg, if_neg hg]
          refine ⟨⟨fun us g1 g2 g3 v' g4 => ?_, ?_⟩, h1, h2⟩
          · rcases old us g3 with rfl | g5
            · rw [hv] at g4; cases g4
              refine ⟨by omega, fun e => ?_⟩
              rcases hT.2 with g | ⟨_, _, _, g6⟩
              · omega
              · exact g6.1
            · exact hT.1 us g1 g2 g5 v' g4
          · rcases hT.2 with g | ⟨g1, g2, g3, g4⟩
            · exact .inl g
            · exact .inr ⟨g1, g2, g3, g4.1⟩
    obtain ⟨hT3, hr1, hr2⟩ := hT2
    generalize rank2 = rk at inner hT3 hr1 hr2
    generalize bs2 = bb at inner hT3
    obtain ⟨kk, tl', e1, e2⟩ := best2 (sp := sp) (wf := wf) F rk ar0 ar1 bb ho wf.length F tl [] hl (by omega) (by omega) rfl
    rw [List.map_nil, List.append_nil] at e1
    rw [List.append_nil] at e2
    have unf : best_L1 F (n + 1) rank sp wf od ar0 ar1 bs tl = (bif decide (kk < 0) then some (sp, wf, od, ar0, ar1, bb) else bif inB kk (tl'.length - 0) then bif inB kk (tl'.length - 0) then best_L1 F n rk sp wf od ar0 ar1 bb (List.set tl' kk.toNat (IntKind.wrap IntKind.i64 ((nth tl' 0 kk.toNat) + 1))) else none else none) := by
      show ob (rTotal_S F sp wf od tl) _ = _
      rw [rTotal_eq h hr F (by omega) tl, if_pos hl]
      refine (congrArg (fun z => ob z _) inner).trans ?_
      show ob (best_L2 F rk sp wf od ar0 ar1 bb F (IntKind.wrap IntKind.i64 (((tl.length - 0) : Int) - 1)) tl) _ = _
      rw [w64 _ (by omega), hl, Int.sub_zero, e1]
    rcases e2 with ⟨f1, f2⟩ | ⟨i, f1, f2, f3, f4⟩
    · refine ⟨rk, bb, ?_, ⟨fun us g1 g2 _ v g3 => hT3.1 us g1 g2 (next_none f2 (by rw [hl, g1]) g2) v g3, ?_⟩⟩
      · rw [unf, show decide (kk < 0) = true by simpa using f1]; rfl
      · rcases hT3.2 with g | ⟨g1, g2, g3, g4⟩
        · exact .inl g
        · exact .inr ⟨g1, g2, g3, trivial⟩
    · have hx := hok _ f4
      have hrem := rem_next f3 hok
      have hlt := next_lt f3
      obtain ⟨rank', bs', j1, j2⟩ := ih rk bb _ (by omega) (by rw [next_len f3]; exact hl) (next_ok f3 hok) hr1 hr2 (⟨fun us g1 g2 g3 v g4 => by
        rcases next_gap f3 (by rw [hl, g1]) g2 with g5 | g5
        · exact absurd (lexLe_anti (by rw [next_len f3, hl, g1]) g3.1 g5) g3.2
        · exact hT3.1 us g1 g2 g5 v g4, by
        rcases hT3.2 with g | ⟨g1, g2, g3, g4⟩
        · exact .inl g
        · refine .inr ⟨g1, g2, g3, lexLe_trans g4 hlt, fun e => ?_⟩
          rw [e] at g4
          have := lexLe_anti (next_len f3) g4 hlt
          rw [this] at hrem
          omega⟩)
      refine ⟨rank', bs', ?_, j2⟩
      rw [unf, f1, Int.toNat_natCast, w64 _ (by omega), show decide ((i : Int) < 0) = false by simp, show inB (i : Int) (tl'.length - 0) = true from inB_nat f2]
      exact j1
theorem rk_okL : ∀ (ts : List Int) (i : Nat) (l : Nat → Int) (n v : Int), rkF wf.length od.length (pmM sp wf od) (wO od) i ts l n = some v → okL od.length ts
  | [], _, _, _, _, _ => fun t ht => by cases ht
  | t :: ts, i, l, n, v, hh => by
    simp only [rkF] at hh
    split at hh
    · rename_i ht
      exact okL_mk (by omega) (rk_okL ts _ _ _ _ hh)
    · split at hh
      · rename_i hc
        exact okL_mk (by omega) (rk_okL ts _ _ _ _ hh)
      · cases hh
end
end Go.Proofs.YtbnapejkjaddoaaDoor


namespace Go.Proofs.YtbnapejkjaddoaaDoor
open Go.RowKit
set_option maxRecDepth 100000
def lgB (w : WfT) : Bool := decide ((w.2.2.1.size : Int) > 40) || (decide ((w.2.2.2.1.size : Int) > 40) || (decide ((w.2.2.2.2.1.size : Int) > 40) || (decide ((w.2.2.2.2.2.1.size : Int) > 40) || (decide ((w.2.2.2.2.2.2.1.size : Int) > 40) || decide ((w.2.2.2.2.2.2.2.size : Int) > 40)))))
theorem long_eq (F : Nat) (w : WfT) : long_S F w = some (lgB w) := by
  unfold long_S lgB
  simp only [b2, bs]
  change some (bif (decide ((w.2.2.1.size : Int) > 40) || (decide ((w.2.2.2.1.size : Int) > 40) || (decide ((w.2.2.2.2.1.size : Int) > 40) || (decide ((w.2.2.2.2.2.1.size : Int) > 40) || (decide ((w.2.2.2.2.2.2.1.size : Int) > 40) || decide ((w.2.2.2.2.2.2.2.size : Int) > 40)))))) then true else false) = _
  rw [ct, Bool.or_false]
theorem lg_short {w : WfT} (h : lgB w = false) : shortW w := by
  unfold lgB at h
  simp only [Bool.or_eq_false_iff, decide_eq_false_iff_not] at h
  unfold shortW
  omega
end Go.Proofs.YtbnapejkjaddoaaDoor


namespace Go.Proofs.YtbnapejkjaddoaaDoor
open Go.RowKit
set_option maxRecDepth 100000
end Go.Proofs.YtbnapejkjaddoaaDoor
