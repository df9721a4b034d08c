/- References and arenas: soundness. No condition. -/
import Derived.Test.YthmicafabimfkaaWZM
namespace Go.Proofs.Ythmicafabimfkaa
open Go.RowKit
section
variable {P : Program} {N : Nat} {D : List Deferred} {S F : List Nat} {W0 : World} {ρ ρ1 ρ2 : List Info} {K : Slo} {h h1 h2 : List Root} {w : World} {a : Act} {o : Oper}
/-- The same memory, described anew. -/
structure Gst (ρ : List Info) (h : List Root) (ρ' : List Info) (h' : List Root) (T : List Nat) : Prop where
  pre : Pre ρ ρ'
  leq : ρ.length = h.length
  len : h.length ≤ h'.length
  same : ∀ q : Nat, q ∉ T → q < h.length → h'[q]? = h[q]?
  old : ∀ (q : Nat) (r : Root), q < h.length → h'[q]? = some r → r = .dead ∨ h[q]? = some r
  feet : ∀ (q : Nat) (r : Root) (i : Info) (b : Nat), h'[q]? = some r → ρ'[q]? = some i → foot i r b → ∃ (p : Nat) (r0 : Root) (i0 : Info), h[p]? = some r0 ∧ ρ[p]? = some i0 ∧ foot i0 r0 b
  owns : ∀ (q : Nat) (r : Root) (i : Info) (b : Nat), h.length ≤ q → h'[q]? = some r → ρ'[q]? = some i → own i r b → ∃ p ∈ T, ∃ (r0 : Root) (i0 : Info), h[p]? = some r0 ∧ ρ[p]? = some i0 ∧ own i0 r0 b
theorem Gst.refl (hl : ρ.length = h.length) : Gst ρ h ρ h [] :=
  ⟨Pre.refl _, hl, Nat.le_refl _, fun _ _ _ => rfl, fun _ _ _ e => .inr e, fun q r i b h1 h2 h3 => ⟨q, r, i, h1, h2, h3⟩, fun q r i b hq h1 _ _ => by have := (List.getElem?_eq_some_iff.1 h1).1; omega⟩
theorem pre_get (hp : Pre ρ ρ1) {q : Nat} (hq : q < ρ.length) {i : Info} (hi : ρ1[q]? = some i) : ρ[q]? = some i := by
  have := hp q _ (List.getElem?_eq_getElem hq)
  rw [this] at hi
  rw [List.getElem?_eq_getElem hq]; exact hi
theorem Gst.trans {T1 T2 : List Nat} (a1 : Gst ρ h ρ1 h1 T1) (a2 : Gst ρ1 h1 ρ2 h2 T2) : Gst ρ h ρ2 h2 (T1 ++ T2) := by
  refine ⟨a1.pre.trans a2.pre, a1.leq, Nat.le_trans a1.len a2.len, fun q hq hl => ?_, fun q r hl hr => ?_, fun q r i b h3 h4 h5 => ?_, fun q r i b hl h3 h4 h5 => ?_⟩
  · rw [List.mem_append, not_or] at hq
    rw [a2.same q hq.2 (Nat.lt_of_lt_of_le hl a1.len), a1.same q hq.1 hl]
  · rcases a2.old q r (Nat.lt_of_lt_of_le hl a1.len) hr with h3 | h3
    · exact .inl h3
    · exact a1.old q r hl h3
  · obtain ⟨p, r0, i0, g1, g2, g3⟩ := a2.feet q r i b h3 h4 h5
    exact a1.feet p r0 i0 b g1 g2 g3
  · have back : ∀ (p : Nat) (r0 : Root) (i0 : Info), h1[p]? = some r0 → ρ1[p]? = some i0 → own i0 r0 b → (p ∈ T2 ∨ h.length ≤ p) → ∃ p ∈ T1 ++ T2, ∃ (r0 : Root) (i0 : Info), h[p]? = some r0 ∧ ρ[p]? = some i0 ∧ own i0 r0 b := by
      intro p r0 i0 g1 g2 g3 g4
      rcases Nat.lt_or_ge p h.length with hlt | hge
      · rcases a1.old p r0 hlt g1 with rfl | g5
        · cases g3
        · rcases g4 with g4 | g4
          · exact ⟨p, by simp [g4], r0, i0, g5, pre_get a1.pre (by rw [a1.leq]; exact hlt) g2, g3⟩
          · omega
      · obtain ⟨p', hp', r1, i1, g5⟩ := a1.owns p r0 i0 b hge g1 g2 g3
        exact ⟨p', by simp [hp'], r1, i1, g5⟩
    rcases Nat.lt_or_ge q h1.length with hlt | hge
    · rcases a2.old q r hlt h3 with rfl | h6
      · cases h5
      · exact back q r i h6 (pre_get a2.pre (by rw [a2.leq]; exact hlt) h4) h5 (.inr hl)
    · obtain ⟨p, hp, r0, i0, g1, g2, g3⟩ := a2.owns q r i b hge h3 h4 h5
      exact back p r0 i0 g1 g2 g3 (.inl hp)
theorem MemOk.ghost {T t : List Nat} {v : PV} {h' : List Root} (hG : Gst ρ h ρ1 h1 T) (hm : MemOk P S F W0 ρ1 h1 w a o v h' t) : MemOk P S F W0 ρ h w a o v h' (T ++ t) := by
  obtain ⟨ρ', u, nx, w', B, g1, g2, g3, g4, g5, g6, g7, g8, g9⟩ := hm
  refine ⟨ρ', u, nx, w', B, hG.pre.trans g1, g2, g3, g4, g5, g6, fun b hb => ?_, fun q hq hl => ?_, fun q r i b hr hi hf => ?_⟩
  · obtain ⟨p, hp, r, i, q1, q2, q3⟩ := g7 b hb
    rcases Nat.lt_or_ge p h.length with hlt | hge
    · rcases hG.old p r hlt q1 with rfl | q4
      · cases q3
      · exact ⟨p, by simp [hp], r, i, q4, pre_get hG.pre (by rw [hG.leq]; exact hlt) q2, q3⟩
    · obtain ⟨p', hp', q4⟩ := hG.owns p r i b hge q1 q2 q3
      exact ⟨p', by simp [hp'], q4⟩
  · rw [List.mem_append, not_or] at hq
    rw [g8 q hq.2 (Nat.lt_of_lt_of_le hl hG.len), hG.same q hq.1 hl]
  · rcases g9 q r i b hr hi hf with q1 | ⟨p, r0, i0, q1, q2, q3⟩
    · exact .inl q1
    · exact .inr (hG.feet p r0 i0 b q1 q2 q3)
theorem fold_len : ∀ (L : List Nat) (h : List Root), (L.foldl (fun h p => h.set p .dead) h).length = h.length := by
  intro L
  induction L with
  | nil => intro h; rfl
  | cons p L ih => intro h; rw [List.foldl_cons, ih]; simp
theorem fold_get : ∀ (L : List Nat) (h : List Root) (q : Nat) (r : Root), (L.foldl (fun h p => h.set p .dead) h)[q]? = some r → r = .dead ∨ h[q]? = some r := by
  intro L
  induction L with
  | nil => intro h q r e; exact .inr e
  | cons p L ih =>
    intro h q r e
    rw [List.foldl_cons] at e
    rcases ih _ q r e with h1 | h2
    · exact .inl h1
    · rw [List.getElem?_set] at h2
      split at h2
      · split at h2
        · exact .inl (Option.some.inj h2).symm
        · cases h2
      · exact .inr h2
theorem fold_ne : ∀ (L : List Nat) (h : List Root) (q : Nat), q ∉ L → (L.foldl (fun h p => h.set p .dead) h)[q]? = h[q]? := by
  intro L
  induction L with
  | nil => intro h q _; rfl
  | cons p L ih =>
    intro h q hq
    rw [List.mem_cons, not_or] at hq
    rw [List.foldl_cons, ih _ _ hq.2, List.getElem?_set_ne (fun e => hq.1 e.symm)]
/-- Roots that are put together anew: what that leaves. -/
theorem regroup_gst (hl : ρ.length = h.length) (L : List Nat) (N : List (Info × Root)) (hN : ∀ (j : Nat) (x : Info × Root), N[j]? = some x → ∀ b, foot x.1 x.2 b → ∃ p ∈ L, ∃ r i, h[p]? = some r ∧ ρ[p]? = some i ∧ own i r b) :
    Gst ρ h (ρ ++ N.map Prod.fst) (L.foldl (fun h p => h.set p .dead) h ++ N.map Prod.snd) L := by
  have cases' : ∀ (q : Nat) (r : Root) (i : Info), (L.foldl (fun h p => h.set p .dead) h ++ N.map Prod.snd)[q]? = some r → (ρ ++ N.map Prod.fst)[q]? = some i → (r = .dead) ∨ (q < h.length ∧ h[q]? = some r ∧ ρ[q]? = some i) ∨ (∃ j : Nat, N[j]? = some (i, r)) := by
    intro q r i h1 h2
    rcases Nat.lt_or_ge q h.length with hq | hq
    · rw [List.getElem?_append_left (by rw [fold_len]; exact hq)] at h1
      rw [List.getElem?_append_left (by rw [hl]; exact hq)] at h2
      rcases fold_get L h q r h1 with h3 | h4
      · exact .inl h3
      · exact .inr (.inl ⟨hq, h4, h2⟩)
    · rw [List.getElem?_append_right (by rw [fold_len]; exact hq), fold_len, List.getElem?_map] at h1
      rw [List.getElem?_append_right (by rw [hl]; exact hq), hl, List.getElem?_map] at h2
      obtain ⟨x, hx, e1⟩ := Option.map_eq_some_iff.1 h1
      rw [hx] at h2
      cases h2
      subst e1
      exact .inr (.inr ⟨q - h.length, hx⟩)
  refine ⟨Pre.app _ _, hl, by rw [List.length_append, fold_len]; omega, fun q hq hlt => ?_, fun q r hlt hr => ?_, fun q r i b h1 h2 h3 => ?_, fun q r i b hge h1 h2 h3 => ?_⟩
  · rw [List.getElem?_append_left (by rw [fold_len]; exact hlt), fold_ne L h q hq]
  · rw [List.getElem?_append_left (by rw [fold_len]; exact hlt)] at hr
    exact fold_get L h q r hr
  · rcases cases' q r i h1 h2 with rfl | ⟨_, h4, h5⟩ | ⟨j, h4⟩
    · exact absurd h3 foot_dead
    · exact ⟨q, r, i, h4, h5, h3⟩
    · obtain ⟨p, _, r0, i0, g1, g2, g3⟩ := hN j _ h4 b h3
      exact ⟨p, r0, i0, g1, g2, own_foot g3⟩
  · rcases cases' q r i h1 h2 with rfl | ⟨h4, _⟩ | ⟨j, h4⟩
    · cases h3
    · omega
    · exact hN j _ h4 b (own_foot h3)
theorem findAr_none {t : Nat} : ∀ {h : List Root} {p : Nat}, findAr t h p = none → ∀ (q : Nat) (r : Root), h[q]? = some r → r.tag ≠ some t
  | [], _, _, q, r, e => by simp at e
  | x :: h, p, hn, q, r, e => by
    simp only [findAr] at hn
    have both : x.tag ≠ some t ∧ findAr t h (p + 1) = none := by
      split at hn
      · rename_i t' ht
        cases hb : Nat.beq t t' with
        | true => rw [hb] at hn; cases hn
        | false =>
          rw [hb] at hn
          exact ⟨fun e => (by rw [ht] at e; cases e; rw [Nat.beq_refl] at hb; cases hb), hn⟩
      · rename_i ht
        exact ⟨fun e => (by rw [ht] at e; cases e), hn⟩
    cases q with
    | zero => simp only [List.getElem?_cons_zero, Option.some.injEq] at e; subst e; exact both.1
    | succ q => exact findAr_none both.2 q r (by simpa using e)
theorem tag_iff {i : Info} {r : Root} {t : Nat} (ht : r.tag = some t) : (RootOk ρ w i r ↔ ArOk ρ w (i.objs t) r.obs) ∧ ∀ b, own i r b ↔ arOwn (i.objs t) r.obs b := by
  cases r <;> first | (cases ht; exact ⟨Iff.rfl, fun _ => Iff.rfl⟩) | (cases ht; exact ⟨Iff.rfl, fun _ => ⟨fun h => h.elim, fun h => absurd h arr_noOwn⟩⟩) | (cases ht; done)
theorem ArOk.push {vs : List Value} {os : List Ob} (hA : ArOk ρ w vs os) {v : Value} {ob : Ob} (ho : ObOk ρ w v ob) (hd : ∀ b, obOwn v ob b → ¬ arOwn vs os b) : ArOk ρ w (vs ++ [v]) (os ++ [ob]) := by
  have get : ∀ (m : Nat) (u : Value) (s : Ob), (vs ++ [v])[m]? = some u → (os ++ [ob])[m]? = some s → (vs[m]? = some u ∧ os[m]? = some s) ∨ (m = vs.length ∧ u = v ∧ s = ob) := by
    intro m u s h1 h2
    rcases Nat.lt_or_ge m vs.length with hm | hm
    · rw [List.getElem?_append_left hm] at h1
      rw [List.getElem?_append_left (by rw [← hA.1]; exact hm)] at h2
      exact .inl ⟨h1, h2⟩
    · rw [List.getElem?_append_right hm] at h1
      rw [List.getElem?_append_right (by rw [← hA.1]; exact hm)] at h2
      have hlt := (List.getElem?_eq_some_iff.1 h1).1
      simp only [List.length_singleton] at hlt
      obtain rfl : m = vs.length := by omega
      rw [hA.1, Nat.sub_self] at h2
      rw [Nat.sub_self] at h1
      simp only [List.getElem?_cons_zero, Option.some.injEq] at h1 h2
      exact .inr ⟨rfl, h1.symm, h2.symm⟩
  refine ⟨by simp [hA.1], fun m u s h1 h2 => ?_, fun m m' u u' s s' b hm h1 h2 h3 h4 h5 h6 => ?_⟩
  · rcases get m u s h1 h2 with ⟨g1, g2⟩ | ⟨_, rfl, rfl⟩
    · exact hA.2.1 m u s g1 g2
    · exact ho
  · rcases get m u s h1 h3 with ⟨g1, g2⟩ | ⟨e1, rfl, rfl⟩
    · rcases get m' u' s' h2 h4 with ⟨g3, g4⟩ | ⟨_, rfl, rfl⟩
      · exact hA.2.2 m m' u u' s s' b hm g1 g3 g2 g4 h5 h6
      · exact hd b h6 ⟨m, u, s, g1, g2, h5⟩
    · rcases get m' u' s' h2 h4 with ⟨g3, g4⟩ | ⟨e2, rfl, rfl⟩
      · exact hd b h5 ⟨m', u', s', g3, g4, h6⟩
      · exact hm (by rw [e1, e2])
theorem arOwn_push {vs : List Value} {os : List Ob} (hl : vs.length = os.length) {v : Value} {ob : Ob} {b : Nat} (h : arOwn (vs ++ [v]) (os ++ [ob]) b) : arOwn vs os b ∨ obOwn v ob b := by
  obtain ⟨m, u, s, h1, h2, h3⟩ := h
  rcases Nat.lt_or_ge m vs.length with hm | hm
  · rw [List.getElem?_append_left hm] at h1
    rw [List.getElem?_append_left (by rw [← hl]; exact hm)] at h2
    exact .inl ⟨m, u, s, h1, h2, h3⟩
  · rw [List.getElem?_append_right hm] at h1
    rw [List.getElem?_append_right (by rw [← hl]; exact hm)] at h2
    have hlt := (List.getElem?_eq_some_iff.1 h1).1
    simp only [List.length_singleton] at hlt
    obtain rfl : m = vs.length := by omega
    rw [hl, Nat.sub_self] at h2
    rw [Nat.sub_self] at h1
    simp only [List.getElem?_cons_zero, Option.some.injEq] at h1 h2
    subst h1; subst h2
    exact .inr h3
/-- An arena takes one object more: what a root was till now. -/
theorem grow (hh : HOk S F W0 ρ h w) {p q t : Nat} {r rq r' : Root} {ip iq : Info} (hp : h[p]? = some r) (hip : ρ[p]? = some ip) (htag : r.tag = some t) (hq : h[q]? = some rq) (hiq : ρ[q]? = some iq) (hpq : p ≠ q) (htag' : r'.tag = some t) {ob : Ob} (hobs : r'.obs = r.obs ++ [ob]) {v : Value} (hob : ObOk ρ w v ob) (hown : ∀ b, obOwn v ob b → own iq rq b) (hno : noAr t (twoDead h p q) = true) (hnr : ∀ t τ os, r' ≠ Root.arr t τ os := by intros; exact fun e => by cases e) :
    ∃ ρ', Gst ρ h ρ' (twoDead h p q ++ [r']) [p, q] ∧ HOk S F W0 ρ' (twoDead h p q ++ [r']) w ∧ ∃ i', ρ'[h.length]? = some i' ∧ (i'.objs t)[r.obs.length]? = some v := by
  obtain ⟨i', hi'⟩ : ∃ i' : Info, i' = ⟨none, 0, none, .tuple ⟨.int .u64 (t : Int) :: (ip.objs t ++ [v])⟩⟩ := ⟨_, rfl⟩
  have hot : i'.objs t = ip.objs t ++ [v] := by subst hi'; simp [Info.objs]
  have hoo : ∀ t2, t2 ≠ t → i'.objs t2 = [] := fun t2 hne => by
    subst hi'
    simp only [Info.objs]
    rw [if_neg (by omega)]
  have hA := (tag_iff (ρ := ρ) (w := w) htag).1.1 (hh.ok p r ip hp hip)
  have hfoot : ∀ b, foot i' r' b → ∃ x ∈ [p, q], ∃ r i, h[x]? = some r ∧ ρ[x]? = some i ∧ own i r b := fun b hb => by
    have hb' : arOwn (i'.objs t) r'.obs b := ((tag_iff (ρ := ρ) (w := w) htag').2 b).1 ((tag_foot htag' hnr).1 hb)
    rw [hot, hobs] at hb'
    rcases arOwn_push hA.1 hb' with g | g
    · exact ⟨p, by simp, r, ip, hp, hip, ((tag_iff (ρ := ρ) (w := w) htag).2 b).2 g⟩
    · exact ⟨q, by simp, rq, iq, hq, hiq, hown b g⟩
  have hdis : ∀ b, obOwn v ob b → ¬ arOwn (ip.objs t) r.obs b := fun b h1 h2 =>
    hh.sep p q r rq ip iq b hpq hp hq hip hiq (((tag_iff (ρ := ρ) (w := w) htag).2 b).2 h2) (own_foot (hown b h1))
  have hgst := regroup_gst hh.len [p, q] [(i', r')] (fun j x hx b hb => by
    cases j with
    | zero => simp only [List.getElem?_cons_zero, Option.some.injEq] at hx; subst hx; exact hfoot b hb
    | succ j => simp at hx)
  have hreg := hh.regroup [p, q] [(i', r')] (fun j x hx => by
    cases j with
    | zero =>
      simp only [List.getElem?_cons_zero, Option.some.injEq] at hx; subst hx
      refine ⟨(tag_iff htag').1.2 ?_, hfoot⟩
      show ArOk _ w (i'.objs t) r'.obs
      rw [hot, hobs]
      exact ArOk.mono (Pre.app _ _) (hA.push hob hdis)
    | succ j => simp at hx) (fun j k x y b hjk hx hy => by
    cases j with
    | zero => cases k with
      | zero => exact absurd rfl hjk
      | succ k => simp at hy
    | succ j => simp at hx) (fun j t2 x hx ht2 id i m u hi hu => by
    cases j with
    | zero =>
      simp only [List.getElem?_cons_zero, Option.some.injEq] at hx; subst hx
      have ht2' : r'.tag = some t2 := ht2
      rw [htag'] at ht2'
      cases ht2'
      rcases Nat.lt_or_ge id ρ.length with hlt | hge
      · rw [List.getElem?_append_left hlt] at hi
        have := hh.cov p t r ip hp hip htag id i m u hi hu
        show (i'.objs t)[m]? = some u
        rw [hot, List.getElem?_append_left (List.getElem?_eq_some_iff.1 this).1]; exact this
      · rw [List.getElem?_append_right hge] at hi
        cases hk : id - ρ.length with
        | zero => rw [hk] at hi; simp only [List.map_cons, List.map_nil, List.getElem?_cons_zero, Option.some.injEq] at hi; rw [hi]; exact hu
        | succ k => rw [hk] at hi; simp at hi
    | succ j => simp at hx) (fun p2 t2 r2 i2 h2 hi2 hL ht2 j x m u hx hu => by
    cases j with
    | zero =>
      simp only [List.getElem?_cons_zero, Option.some.injEq] at hx; subst hx
      have hu' : (i'.objs t2)[m]? = some u := hu
      by_cases he : t2 = t
      · subst he
        have hnn := findAr_none (Option.isNone_iff_eq_none.1 hno) p2 r2 (by
          simp only [List.mem_cons, List.not_mem_nil, or_false, not_or] at hL
          unfold twoDead
          rw [List.getElem?_set_ne (fun e => hL.2 e.symm), List.getElem?_set_ne (fun e => hL.1 e.symm)]; exact h2)
        exact absurd ht2 hnn
      · rw [hoo t2 he] at hu'; simp at hu'
    | succ j => simp at hx) (fun j x hx => by
    cases j with
    | zero =>
      simp only [List.getElem?_cons_zero, Option.some.injEq] at hx; subst hx
      exact .inr fun t2 ht2 => hoo t2 (fun e => ht2 (by rw [e]; exact htag'))
    | succ j => simp at hx)
  refine ⟨ρ ++ [i'], hgst, hreg, i', ?_, ?_⟩
  · rw [← hh.len]; simp
  · rw [hot, ← hA.1]; simp
end
end Go.Proofs.Ythmicafabimfkaa
