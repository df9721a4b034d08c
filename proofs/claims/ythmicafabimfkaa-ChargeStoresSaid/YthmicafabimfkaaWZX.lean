/- Code and calls, on data: soundness. No condition. -/
import Derived.Test.YthmicafabimfkaaWZW
namespace Go.Proofs.Ythmicafabimfkaa
open Go.RowKit
section
variable {P : Program} {N : Nat} {D : List Deferred} {S F : List Nat} {W0 : World} {ops : Array Oper} {β : Type} {r : β} {call : CallF β} {Q : Exit → Act → World → Prop} {k : Slo → List Root → Option β}
theorem tree_all (hcall : CallOk P call) (hsel : ∀ (j : Nat) (o : Oper) cs b, ops[j]? = some o → o.op ≠ .select cs b) (hu : alUniq ops = true) : ∀ t : PT, TreeOk P N D S F W0 ops call Q k r t
  | .done => tree_done
  | .rd _ t => tree_rd hsel hu (tree_all hcall hsel hu t)
  | .go _ _ t => tree_go hcall hsel hu (tree_all hcall hsel hu t)
theorem lkP_dropK : ∀ (l : List Nat) (K : Slo) (t : Nat), lkP (dropK l K) t = if t ∈ l then none else lkP K t
  | [], K, t => by simp [dropK]
  | s :: l, K, t => by
    show lkP (delP (dropK l K) s) t = _
    rw [lkP_delP, lkP_dropK l K t]
    by_cases h : t = s
    · simp [h]
    · simp [h]
theorem KOk.drop {ρ : List Info} {K : Slo} {a : Act} (hK : KOk N D ρ K a) (l : List Nat) : KOk N D ρ (dropK l K) a :=
  ⟨hK.1, hK.2.1, fun t p hp => by
    rw [lkP_dropK] at hp
    split at hp
    · cases hp
    · exact hK.2.2 t p hp⟩
theorem evDraw_ok (hcall : CallOk P call) (hm : P.follows .mixedOrders = true) {t : PT} (hp : ptOk ops t = true) {ρ : List Info} {K : Slo} {h : List Root} {a : Act} {w : World} {id : Nat} (hr : evDraw P N ops call t K h k = some r) (hK : KOk N D ρ K a) (hh : HOk S F W0 ρ h w) (hf : Fin N D S F W0 Q k r ρ) : (Code.region id ops true).wp P Q a w := by
  simp only [ptOk, Bool.and_eq_true] at hp
  obtain ⟨⟨hns, hu⟩, hp⟩ := hp
  refine Code.wp_mono (Q := Calm Q) (fun e a w q => by cases e <;> first | exact q | exact q.elim) ?_
  refine wp_region_any hm (wpAny_of_G (G := []) _ _ _ _ ?_)
  have := tree_all (N := N) (S := S) (F := F) (W0 := W0) (Q := Q) (k := k) (r := r) hcall (Region.noSelect_spec hns) hu t (Array.replicate ops.size false) (Array.replicate ops.size false) [] [] [] ρ _ h a w.drew
    ⟨⟨by simp, by simp, fun j _ => by simp [inE]⟩, (fun j oj _ hl => by rw [getD_replicate_false] at hl; cases hl), (fun p hp => by cases hp), List.Pairwise.nil, hK.drop _, hh.drew, rfl, (fun p hp => by cases hp), fun j oj d hj hal hd _ => ?_⟩ hr hp hf
  · rw [Array.toList_replicate, cf_rep] at this
    exact this
  · rw [lkP_dropK, if_pos]
    exact List.mem_filterMap.2 ⟨oj, List.mem_filter.2 ⟨by simpa using Array.mem_of_getElem? hj, hal⟩, hd⟩
/-- What a run of code proves. -/
def EvOk (P : Program) (N : Nat) (D : List Deferred) (run : Slo → List Root → Kont β → Option β) (c : Code) : Prop :=
  ∀ (K : Slo) (h : List Root) (k : Kont β) (r : β), run K h k = some r → ∀ (S F : List Nat) (W0 : World) (ρ : List Info) (a : Act) (w : World), KOk N D ρ K a → HOk S F W0 ρ h w → ∀ Q : Exit → Act → World → Prop,
    (∀ (e : XT) (ρ' : List Info) (K' : Slo) (h' : List Root) (a' : Act) (w' : World), Pre ρ ρ' → k e K' h' = some r → KOk N D ρ' K' a' → HOk S F W0 ρ' h' w' → Q e.out a' w') → c.wp P Q a w
theorem evLoop_ok {x : Code} {body : Slo → List Root → Kont β → Option β} (hb : EvOk P N D body x) : ∀ (n : Nat) (K : Slo) (h : List Root) (k : Kont β) (r : β), evLoop body n K h k = some r → ∀ (S F : List Nat) (W0 : World) (ρ : List Info) (a : Act) (w : World), KOk N D ρ K a → HOk S F W0 ρ h w → ∀ Q : Exit → Act → World → Prop,
    (∀ (e : XT) (ρ' : List Info) (K' : Slo) (h' : List Root) (a' : Act) (w' : World), Pre ρ ρ' → k e K' h' = some r → KOk N D ρ' K' a' → HOk S F W0 ρ' h' w' → Q e.out a' w') → Code.rounds P x Q n a w
  | 0, K, h, k, r, hr => by cases hr
  | n + 1, K, h, k, r, hr => fun S F W0 ρ a w hK hh Q hn => by
    refine hb K h _ r hr S F W0 ρ a w hK hh _ (fun e ρ' K' h' a' w' hp he hK' hh' => ?_)
    cases e with
    | normal => exact evLoop_ok hb n K' h' k r he S F W0 ρ' a' w' hK' hh' Q (fun e ρ2 K2 h2 a2 w2 hp2 => hn e ρ2 K2 h2 a2 w2 (hp.trans hp2))
    | exit id => exact hn _ ρ' K' h' a' w' hp he hK' hh'
    | ret => exact hn _ ρ' K' h' a' w' hp he hK' hh'
theorem evCode_ok (hcall : CallOk P call) (hm : P.follows .mixedOrders = true) (Fu : Nat) (pl : Nat → Option PT) : ∀ (d : Nat) (c : Code), regsOk pl c = true → EvOk P N D (fun K h k => evCode P Fu pl call d N c K h k) c
  | 0, c, _ => fun K h k r hr => by cases hr
  | d + 1, c, hreg => fun K h k r hr S F W0 ρ a w hK hh Q hn => by
    cases c with
    | skip => exact wp_skip (hn .normal ρ K h a w (Pre.refl _) hr hK hh)
    | exit id => exact wp_exit (hn (.exit id) ρ K h a w (Pre.refl _) hr hK hh)
    | ret => exact wp_ret (hn .ret ρ K h a w (Pre.refl _) hr hK hh)
    | region id ops draw =>
      cases draw with
      | false =>
        refine wp_region_list ?_
        have := evOps_ok (P := P) (N := N) (ops := ops) (S := S) (F := F) (W0 := W0) (r := r) hcall (Q := Q) [] ops.toList ρ K h a w (k .normal) hr hK hh (fun a' w' hb => by
          obtain ⟨ρ', K', h', h1, h2, h3, h4⟩ := hb
          exact wpList_nil (hn .normal ρ' K' h' a' w' h1 h4 h2 h3))
        simpa using this
      | true =>
        simp only [evCode] at hr
        simp only [regsOk] at hreg
        split at hr
        · rename_i t ht
          rw [ht] at hreg
          exact evDraw_ok hcall hm hreg hr hK hh (fun ρ' K' h' a' w' h1 h2 h3 h4 => hn .normal ρ' K' h' a' w' h1 h2 h3 h4)
        · cases hr
    | seq x y =>
      simp only [regsOk, Bool.and_eq_true] at hreg
      refine wp_seq (evCode_ok hcall hm Fu pl d x hreg.1 K h _ r hr S F W0 ρ a w hK hh _ (fun e ρ' K' h' a' w' hp he hK' hh' => ?_))
      cases e with
      | normal => exact evCode_ok hcall hm Fu pl d y hreg.2 K' h' k r he S F W0 ρ' a' w' hK' hh' Q (fun e ρ2 K2 h2 a2 w2 hp2 => hn e ρ2 K2 h2 a2 w2 (hp.trans hp2))
      | exit id => exact hn _ ρ' K' h' a' w' hp he hK' hh'
      | ret => exact hn _ ρ' K' h' a' w' hp he hK' hh'
    | cond c x y =>
      simp only [regsOk, Bool.and_eq_true] at hreg
      simp only [evCode] at hr
      split at hr
      · rename_i b hc
        have hb : a.eval c = .bool b := (evalP_ok hK hc).1
        cases b with
        | true => exact wp_cond_true hb (evCode_ok hcall hm Fu pl d x hreg.1 K h k r hr S F W0 ρ a w hK hh Q hn)
        | false => exact wp_cond_false hb (evCode_ok hcall hm Fu pl d y hreg.2 K h k r hr S F W0 ρ a w hK hh Q hn)
      · cases hr
    | block id x =>
      refine wp_block (evCode_ok hcall hm Fu pl d x hreg K h _ r hr S F W0 ρ a w hK hh _ (fun e ρ' K' h' a' w' hp he hK' hh' => ?_))
      cases e with
      | normal => exact hn .normal ρ' K' h' a' w' hp he hK' hh'
      | exit id' =>
        show Exit.inBlock id Q (.exit id') a' w'
        dsimp only at he
        cases hb : Nat.beq id' id with
        | true =>
          rw [hb] at he
          have := Nat.eq_of_beq_eq_true hb
          subst this
          show (if id' = id' then Q .normal a' w' else Q (.exit id') a' w')
          rw [if_pos rfl]
          exact hn .normal ρ' K' h' a' w' hp he hK' hh'
        | false =>
          rw [hb] at he
          have hne := Nat.ne_of_beq_eq_false hb
          show (if id' = id then Q .normal a' w' else Q (.exit id') a' w')
          rw [if_neg hne]
          exact hn (.exit id') ρ' K' h' a' w' hp he hK' hh'
      | ret => exact hn .ret ρ' K' h' a' w' hp he hK' hh'
    | loop x =>
      exact wp_loop_rounds Fu (evLoop_ok (evCode_ok hcall hm Fu pl d x hreg) Fu K h k r hr S F W0 ρ a w hK hh Q hn)
    | rangeFunc f p x y => cases hr
    | scope x => cases hr
    | label l => cases hr
    | goto l => cases hr
    | refuse s => cases hr
theorem lkN_mem {α : Type} : ∀ {l : List (Nat × α)} {n : Nat} {x : α}, lkN l n = some x → (n, x) ∈ l
  | [], n, x, h => by cases h
  | (i, y) :: l, n, x, h => by
    simp only [lkN] at h
    cases hb : Nat.beq i n with
    | true =>
      rw [hb] at h
      have := Nat.eq_of_beq_eq_true hb
      subst this
      cases h
      simp
    | false => rw [hb] at h; exact List.mem_cons_of_mem _ (lkN_mem h)
theorem regsOk_none : ∀ c : Code, regsOk (fun _ => none) c = true
  | .skip => rfl
  | .region _ _ true => rfl
  | .region _ _ false => rfl
  | .seq x y => by simp [regsOk, regsOk_none x, regsOk_none y]
  | .cond _ x y => by simp [regsOk, regsOk_none x, regsOk_none y]
  | .block _ x => regsOk_none x
  | .loop x => regsOk_none x
  | .rangeFunc .. => rfl
  | .exit _ => rfl
  | .scope _ => rfl
  | .label _ => rfl
  | .goto _ => rfl
  | .ret => rfl
  | .refuse _ => rfl
theorem plOf_ok {A : Plans} (hA : PlansOk P A) {f : Nat} {fn : Func} {c : Code} (hf : P.funcs[f]? = some fn) (hb : fn.body = some c) : regsOk (plOf A f) c = true := by
  unfold plOf
  split
  · rename_i l hl
    have := hA _ (lkN_mem hl)
    simp only [bodyOk, hf, hb] at this
    exact this
  · exact regsOk_none c
theorem parK_get : ∀ (l : List PV) (i t : Nat) (p : PV), lkP (parK i l) t = some p → i ≤ t ∧ l[t - i]? = some p
  | [], i, t, p, h => by cases h
  | v :: l, i, t, p, h => by
    simp only [parK, lkP_putP] at h
    by_cases hb : t = i
    · subst hb
      rw [if_pos rfl] at h
      cases h
      exact ⟨Nat.le_refl _, by simp⟩
    · rw [if_neg hb] at h
      obtain ⟨h1, h2⟩ := parK_get l (i + 1) t p h
      refine ⟨by omega, ?_⟩
      rw [show t - i = (t - (i + 1)) + 1 by omega, List.getElem?_cons_succ]
      exact h2
theorem DenArgs.get {ρ : List Info} : ∀ {l : List PV} {vs : List Value} {j : Nat} {p : PV}, DenArgs ρ l vs → l[j]? = some p → ∃ v, vs[j]? = some v ∧ DenP ρ p v
  | [], _, _, _, _, h => by simp at h
  | _ :: _, _, 0, _, ⟨v, r, e, h1, _⟩, h => by
    simp only [List.getElem?_cons_zero, Option.some.injEq] at h; subst h; exact ⟨v, by rw [e]; rfl, h1⟩
  | _ :: _, _, j + 1, _, ⟨v, r, e, _, h2⟩, h => by
    simp only [List.getElem?_cons_succ] at h
    obtain ⟨u, h3, h4⟩ := h2.get h
    exact ⟨u, by rw [e]; simpa using h3, h4⟩
theorem DenArgs.len {ρ : List Info} : ∀ {l : List PV} {vs : List Value}, DenArgs ρ l vs → vs.length = l.length
  | [], _, h => by rw [h]; rfl
  | _ :: _, _, ⟨_, _, e, _, h⟩ => by rw [e]; simp [h.len]
/-! Results that are known for some arguments -/
end
end Go.Proofs.Ythmicafabimfkaa
