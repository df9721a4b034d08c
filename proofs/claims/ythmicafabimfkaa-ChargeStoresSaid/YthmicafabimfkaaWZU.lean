/- A region that draws its order, on data: soundness. No condition. -/
import Derived.Test.YthmicafabimfkaaWZT
namespace Go.Proofs.Ythmicafabimfkaa
open Go.RowKit
section
variable {P : Program} {N : Nat} {D : List Deferred} {S F : List Nat} {W0 : World} {ρ ρ' : List Info} {K : Slo} {h h' : List Root} {w w' : World} {a : Act} {o : Oper} {ops : Array Oper} {β : Type} {r : β} {call : CallF β}
theorem opSet_some {v : PV} {k : Slo → List Root → Option β} (hr : opSet N K o v h k = some r) : ∃ K', setP N K o.dst v = some K' ∧ k K' h = some r := by
  unfold opSet at hr
  split at hr
  · rename_i K' hK'; exact ⟨K', hK', hr⟩
  · cases hr
theorem opGoT_ok (hcall : CallOk P call) (hK : KOk N D ρ K a) (hh : HOk S F W0 ρ h w) {ok : List Nat → Bool} {k : List Nat → Slo → List Root → Option β} (hr : opGoT P N call ok K h o k = some r) {Q : Exit → Act → World → Prop} {next : Act → World → Prop}
    (hn : ∀ (ρ' : List Info) (K' : Slo) (h' : List Root) (u : Value) (v : PV) (w' : World) (B t : List Nat), Pre ρ ρ' → setP N K o.dst v = some K' → KOk N D ρ' K' (a.put o.dst u) → HOk S F W0 ρ' h' w' → k t K' h' = some r → Ex B w w' → (∀ b ∈ B, ∃ p ∈ t, ∃ r i, h[p]? = some r ∧ ρ[p]? = some i ∧ own i r b) →
      (∀ q : Nat, q ∉ t → q < h.length → h'[q]? = h[q]?) → Feet ρ h w ρ' h' → (ok t = true ∨ w' = w) → next (a.put o.dst u) w') : o.wp P a w next Q := by
  unfold opGoT at hr
  have hv := stepV_ok (P := P) (o := o) hK hh
  have same : ∀ {v : PV} {u : Value}, DenP ρ v u → opSet N K o v h (k []) = some r → next (a.put o.dst u) w := by
    intro v u h3 h2
    obtain ⟨K', h5, h6⟩ := opSet_some h2
    exact hn ρ K' h u v w [] [] (Pre.refl _) h5 (put_P hK h3 h5) hh h6 (Ex.refl _ _) (by simp) (fun _ _ _ => rfl) (Feet.refl w) (.inr rfl)
  split at hr
  · rename_i g v hs
    rw [hs] at hv
    obtain ⟨h1, h2⟩ := gds_some hr
    obtain ⟨u, h3, h4⟩ := hv h1
    unfold Oper.wp
    rw [h4 w (Agree.refl _ _ _ _), Oper.upon_value]
    exact same h3 h2
  · rename_i b x y hs
    rw [hs] at hv
    obtain ⟨u, h3, h4⟩ := hv
    unfold Oper.wp
    rw [h4 w (Agree.refl _ _ _ _), Oper.upon_value]
    cases b with
    | true => exact same h3 hr
    | false => exact same h3 hr
  · have hm := stepM_ok (P := P) (o := o) hK hh
    split at hr
    · rename_i g v h' t hs
      rw [hs] at hm
      cases hok : ok t with
      | false => rw [hok] at hr; cases hr
      | true =>
        rw [hok] at hr
        obtain ⟨h1, h2⟩ := gds_some hr
        obtain ⟨K', h5, h6⟩ := opSet_some h2
        obtain ⟨ρ', u, nx, w', B, q1, q2, q3, q4, q5, q6, q7, q8, q9⟩ := hm h1
        unfold Oper.wp
        rw [q4]
        have fin := hn ρ' K' h' u v w' B t q1 h5 (put_P (hK.mono q1) q2 h5) q5 h6 q6 q7 q8 q9 (.inl hok)
        rcases q3 with rfl | ⟨rfl, rfl⟩
        · rw [Oper.upon_value]; exact fin
        · rw [Oper.upon_skip]; exact fin
    · rename_i f args hs
      rw [hs] at hm
      obtain ⟨vs, q1, q2, q3⟩ := hm
      unfold Oper.wp
      rw [q1, Oper.upon_enter]
      refine (hcall f args h _ r hr S F W0 ρ w vs q3 hh q2).mono fun e w' he => ?_
      obtain ⟨ρ', h', v, u, B, t, rfl, e1, e2, e3, e4, e5, e6, e7, e8⟩ := he
      cases hok : ok t with
      | false => rw [hok] at e4; cases e4
      | true =>
        rw [hok] at e4
        simp only [cond_true] at e4
        obtain ⟨K', h5, h6⟩ := opSet_some e4
        exact hn ρ' K' h' u v w' B t e1 h5 (put_P (hK.mono e1) e2 h5) e3 h6 e5 e6 e7 e8 (.inl hok)
    · cases hr
  · cases hr
theorem gdSt_ok {ops : Array Oper} {a : Act} {ρ : List Info} {D : List Deferred} (hK : KOk N D ρ K a) {o : Oper} {b : Bool} (hg : gdSt ops K o = some b) : Region.wanted o (yielded ops a.tmps) = b := by
  unfold gdSt at hg
  split at hg
  · rename_i h; cases hg; exact gdOf_go hK h
  · rename_i h; cases hg; exact gdOf_no hK h
  · rename_i t b' want h
    cases hg
    rw [(gdOf_test hK h).1]
    cases b' <;> cases want <;> rfl
  · cases hg
theorem early_ok : ∀ {A : List Nat} {x : Option β}, early P N K h ops A x = some r → x = some r ∧ ∀ e ∈ A, ∃ o d, ops[e]? = some o ∧ o.dst = some d ∧ d < N ∧ ((gdSt ops K o = some true ∧ ∃ g v h', stepV P K h o = .stuck ∧ stepM P K h o = .mem g v h' [] ∧ AllB g) ∨ gdSt ops K o = some false)
  | [], x, hr => ⟨hr, fun e he => by cases he⟩
  | e :: A, x, hr => by
    simp only [early] at hr
    split at hr
    · rename_i o ho
      split at hr
      · rename_i d b h3 h8
        cases hb : Nat.ble (d + 1) N with
        | false => rw [hb] at hr; cases hr
        | true =>
          rw [hb] at hr
          simp only [cond_true] at hr
          cases b with
          | true =>
            simp only [cond_true] at hr
            split at hr
            · rename_i g v h' h1 h2
              obtain ⟨h4, h5⟩ := gds_some hr
              obtain ⟨h6, h7⟩ := early_ok h5
              refine ⟨h6, fun e' he' => ?_⟩
              rcases List.mem_cons.1 he' with rfl | he'
              · exact ⟨o, d, ho, h3, Nat.le_of_ble_eq_true hb, .inl ⟨h8, g, v, h', h1, h2, h4⟩⟩
              · exact h7 e' he'
            · cases hr
          | false =>
            simp only [cond_false] at hr
            obtain ⟨h6, h7⟩ := early_ok hr
            refine ⟨h6, fun e' he' => ?_⟩
            rcases List.mem_cons.1 he' with rfl | he'
            · exact ⟨o, d, ho, h3, Nat.le_of_ble_eq_true hb, .inr h8⟩
            · exact h7 e' he'
      · cases hr
    · cases hr
theorem withGd_some (hK : KOk N D ρ K a) {f g : Slo → Option β} (hr : withGd ops K o f g = some r) :
    (Region.wanted o (yielded ops a.tmps) = true ∧ ∃ K1, f K1 = some r ∧ KOk N D ρ K1 a ∧ (∀ d, lkP K d = none → lkP K1 d = none) ∧ (o.guard = none → K1 = K)) ∨
    (Region.wanted o (yielded ops a.tmps) = false ∧ ∃ K1, g K1 = some r ∧ KOk N D ρ K1 a ∧ (∀ d, lkP K d = none → lkP K1 d = none) ∧ o.guard ≠ none) := by
  unfold withGd at hr
  split at hr
  · rename_i hg
    exact .inl ⟨gdOf_go hK hg, K, hr, hK, fun _ h => h, fun _ => rfl⟩
  · rename_i hg
    refine .inr ⟨gdOf_no hK hg, K, hr, hK, fun _ h => h, fun e => ?_⟩
    unfold gdOf at hg
    rw [e] at hg
    cases hg
  · rename_i t b want hg
    obtain ⟨h1, h2⟩ := gdOf_test hK hg
    have hgn : o.guard ≠ none := fun e => by
      unfold gdOf at hg
      rw [e] at hg
      cases hg
    have keep : ∀ (x : PV) (d : Nat), lkP K d = none → lkP (putP K t x) d = none := fun x d hd => by
      rw [lkP_putP]
      split
      · rename_i e; subst e; rw [h2] at hd; cases hd
      · exact hd
    cases b with
    | true =>
      simp only [cond_true] at hr
      have hK' := hK.bool h2 true rfl
      cases want with
      | true => exact .inl ⟨by rw [h1]; rfl, _, hr, hK', keep _, fun e => absurd e hgn⟩
      | false => exact .inr ⟨by rw [h1]; rfl, _, hr, hK', keep _, hgn⟩
    | false =>
      simp only [cond_false] at hr
      have hK' := hK.bool h2 false rfl
      cases want with
      | true => exact .inr ⟨by rw [h1]; rfl, _, hr, hK', keep _, hgn⟩
      | false => exact .inl ⟨by rw [h1]; rfl, _, hr, hK', keep _, fun e => absurd e hgn⟩
  · cases hr
theorem setP_none {K' : Slo} {v : PV} {dst : Option Tmp} (hs : setP N K dst v = some K') {d : Nat} (hne : dst ≠ some d) (hd : lkP K d = none) : lkP K' d = none := by
  cases dst with
  | none => cases hs; exact hd
  | some t =>
    simp only [setP] at hs
    cases hb : Nat.ble (t + 1) N with
    | false => rw [hb] at hs; cases hs
    | true =>
      rw [hb] at hs
      cases hs
      rw [lkP_putP, if_neg (fun e => hne (by rw [e]))]
      exact hd
/-- A slot of which nothing is known may change. -/
theorem KOk.other (hK : KOk N D ρ K a) {d : Nat} (hd : lkP K d = none) (u : Value) : KOk N D ρ K (a.put (some d) u) := by
  refine ⟨by simp [Act.put, hK.1], hK.2.1, fun t p hp => ?_⟩
  obtain ⟨x, h1, h2⟩ := hK.2.2 t p hp
  have hne : d ≠ t := fun e => by subst e; rw [hd] at hp; cases hp
  refine ⟨x, h1, ?_⟩
  simp only [Act.put]
  rw [Array.getElem?_setIfInBounds_ne hne]
  exact h2
/-- A slot that holds already what is now said of it. -/
theorem KOk.have (hK : KOk N D ρ K a) {d : Nat} {v : PV} {u : Value} (hv : DenP ρ v u) (hu : a.tmps[d]? = some u) : KOk N D ρ (putP K d v) a := by
  refine ⟨hK.1, hK.2.1, fun t p hp => ?_⟩
  rw [lkP_putP] at hp
  split at hp
  · rename_i e; subst e; cases hp; exact ⟨u, hv, hu⟩
  · exact hK.2.2 t p hp
end
end Go.Proofs.Ythmicafabimfkaa
