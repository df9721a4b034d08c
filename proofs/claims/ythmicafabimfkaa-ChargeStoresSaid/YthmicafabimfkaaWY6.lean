/- Places in a code; marks by places. No condition. -/
import Derived.Test.YthmicafabimfkaaWY5
import Derived.Test.YthmicafabimfkaaWY3c
namespace Go.Proofs.Ythmicafabimfkaa
noncomputable section
open Go.RowKit
def subAt : Code → List Nat → Code
  | c, [] => c
  | c, i :: p => subAt (match c with
    | .seq x y => match i with
      | 0 => x
      | _ => y
    | .cond _ x y => match i with
      | 0 => x
      | _ => y
    | .block _ x => x
    | .loop x => x
    | c => c) p
theorem subAt_app : ∀ (c : Code) (p q : List Nat), subAt c (p ++ q) = subAt (subAt c p) q
  | c, [], q => rfl
  | c, i :: p, q => by
    simp only [List.cons_append, subAt]
    exact subAt_app _ p q
def AnP (P : Program) (m N : Nat) (c : Code) : An → List Nat → Prop
  | .no, _ => True
  | .two a b, p => AnP P m N c a (p ++ [0]) ∧ AnP P m N c b (p ++ [1])
  | .one a, p => AnP P m N c a (p ++ [0])
  | .rnd a b, p => AnP P m N c a (p ++ [0]) ∧ AnP P m N c b p
  | .join _ a, p => AnP P m N c a p
  | .loop S o M, p => LoopSem P m N (subAt c (p ++ [0])) S o M
  | .rng S o κ agg τ B E, p => match rngParse (subAt c p) with
    | some R => RngSem P m N R S o κ agg τ B E
    | none => True
theorem anP_ok {P : Program} {m N : Nat} {c : Code} : ∀ {an : An} {p : List Nat}, AnP P m N c an p → AnOk P m N an (subAt c p)
  | .no, p, _ => trivial
  | .two a b, p, h => by
    have h1 := anP_ok (an := a) h.1
    have h2 := anP_ok (an := b) h.2
    rw [subAt_app] at h1 h2
    cases hc : subAt c p <;> rw [hc] at h1 h2 <;> first | exact ⟨h1, h2⟩ | exact h1 | trivial
  | .one a, p, h => by
    have h1 := anP_ok (an := a) (p := p ++ [0]) h
    rw [subAt_app] at h1
    cases hc : subAt c p <;> rw [hc] at h1 <;> first | exact h1 | trivial
  | .rnd a b, p, h => by
    have h1 := anP_ok (an := a) h.1
    have h2 := anP_ok (an := b) h.2
    rw [subAt_app] at h1
    cases hc : subAt c p <;> rw [hc] at h1 h2 <;> first | exact ⟨h1, h2⟩ | trivial
  | .join _ a, p, h => anP_ok (an := a) h
  | .loop S o M, p, h => by
    have h1 : LoopSem P m N (subAt c (p ++ [0])) S o M := h
    rw [subAt_app] at h1
    cases hc : subAt c p <;> rw [hc] at h1 <;> first | exact h1 | trivial
  | .rng S o κ agg τ B E, p, h => h
def rngGet : Option RngC → RngC
  | some R => R
  | none => ⟨0, 0, 0, #[], #[], #[], [], ⟨none, .panic (.const undef), 0, "", #[], none⟩, ⟨none, .panic (.const undef), 0, "", #[], none⟩, ⟨none, .panic (.const undef), 0, "", #[], none⟩, 0, .const undef, 0, 0, 0, 0, 0, .const undef, [], [], .skip⟩
theorem anP_rng {P : Program} {m N : Nat} {c : Code} {p : List Nat} {R : RngC} {S : Sch} {o : Outs} {κ : KK} {agg : Bool} {τ : TC} {B : S.ty → κ.ty × τ.ty → Option (S.ty ⊕ OutTy o)} {E : S.ty → Option (OutTy o)} (hR : rngParse (subAt c p) = some R) (h : RngSem P m N R S o κ agg τ B E) : AnP P m N c (.rng S o κ agg τ B E) p := by
  show (match rngParse (subAt c p) with
    | some R => RngSem P m N R S o κ agg τ B E
    | none => True)
  rw [hR]; exact h
/-- A function is entered where it is called: what it calls in turn is carried out by another way. -/
def enter1 (P : Program) (Fu : Nat) (A : Plans) (call : (β : Type) → CallF β) (β : Type) : CallF β := fun f args h k =>
  match P.funcs[f]? with
  | some fn => match fn.body with
    | some c => evCode P Fu (plOf A f) (call β) 10000 (args.length + (fn.ntmps - args.length)) c (parK 0 args) (mask (reachOf h args) h) (fun e K' h' => match e with
      | .exit _ => none
      | _ => match retP P K' h' fn.results.toList with
        | some v => k (reachOf h args) v (merge (reachOf h args) h h' 0)
        | none => none)
    | none => none
  | none => none
theorem enter1_ok {P : Program} (hm : P.follows .mixedOrders = true) (Fu : Nat) {A : Plans} (hA : PlansOk P A) {call : (β : Type) → CallF β} (hcall : ∀ β, CallOk P (call β)) (β : Type) : CallOk P (enter1 P Fu A call β) :=
  fun f args h k r hr S F W0 ρ w vs hargs hh hcl => by
  simp only [enter1] at hr
  split at hr
  · rename_i fn hfn
    split at hr
    · rename_i c hc
      have hsz : vs.toArray.size = args.length := by simpa using hargs.len
      refine calls_of_wp hfn hc (evCode_ok (N := args.length + (fn.ntmps - args.length)) (hcall β) hm Fu (plOf A f) 10000 c (plOf_ok hA hfn hc) _ _ _ r hr _ _ w ρ _ w ⟨by simp [hsz], rfl, fun t p hp => ?_⟩ (hh.enter (reachOf h args)) _ (fun e ρ' K' h' a' w' hp he hK' hh' => ?_))
      · obtain ⟨_, h2⟩ := parK_get _ _ _ _ hp
        rw [Nat.sub_zero] at h2
        obtain ⟨v, h3, h4⟩ := hargs.get h2
        refine ⟨v, h4, ?_⟩
        have hlt := (List.getElem?_eq_some_iff.1 h3).1
        show (vs.toArray ++ Array.replicate (fn.ntmps - vs.toArray.size) undef)[t]? = some v
        rw [Array.getElem?_append_left (by simpa using hlt)]
        simpa using h3
      · have fin : (match retP P K' h' fn.results.toList with
            | some v => k (reachOf h args) v (merge (reachOf h args) h h' 0)
            | none => none) = some r → a'.defers = [] ∧ ∃ v, (results fn a'.tmps).run P w' = .ok v w' ∧ ∃ ρ' h' v' u B t, Ending.returned v = .returned u ∧ Pre ρ ρ' ∧ DenP ρ' v' u ∧ HOk S F W0 ρ' h' w' ∧ k t v' h' = some r ∧ Ex B w w' ∧
            (∀ b ∈ B, ∃ p ∈ t, ∃ r i, h[p]? = some r ∧ ρ[p]? = some i ∧ own i r b) ∧ (∀ q : Nat, q ∉ t → q < h.length → h'[q]? = h[q]?) ∧ Feet ρ h w ρ' h' := by
          intro hm2
          split at hm2
          · rename_i v hv
            obtain ⟨u, h1, h2⟩ := retP_ok hK' hh' hv
            have hl : h.length ≤ h'.length := by rw [← hh.len, ← hh'.len]; exact hp.len
            refine ⟨hK'.2.1, u, h2, ρ', _, v, u, _, reachOf h args, rfl, hp, h1, hh.merged _ (fun _ _ q1 q2 => reachOf_ar q1 q2) hp hh', hm2, hh'.ext, fun b hb => blocksOf_mem.1 hb, fun q hq hlt => merge_hid _ h h' 0 q hl (by
              rw [Nat.zero_add]
              cases hb : (reachOf h args).any (Nat.beq q) with
              | false => rfl
              | true => exact absurd (any_beq.1 hb) hq) hlt, fun q s j b hs hj hb => ?_⟩
            rcases merge_get _ h h' 0 q s hl hs with ⟨g1, _⟩ | ⟨g1, _⟩
            · rcases hh'.near q s j b g1 hj hb with g2 | g2 | g2
              · exact .inl g2
              · obtain ⟨p, _, r0, i0, g3, g4, g5⟩ := blocksOf_mem.1 g2
                exact .inr ⟨p, r0, i0, g3, g4, own_foot g5⟩
              · obtain ⟨p, _, r0, i0, g3, g4, g5⟩ := blocksOf_mem.1 g2
                exact .inr ⟨p, r0, i0, g3, g4, g5⟩
            · obtain ⟨i0, g2⟩ := hh.info g1
              have := hp _ _ g2
              rw [hj] at this
              cases this
              exact .inr ⟨q, s, j, g1, g2, hb⟩
          · cases hm2
        cases e with
        | normal => exact fin he
        | exit id => cases he
        | ret => exact fin he
    · cases hr
  · cases hr
/-- Calls: by what functions do on data, or entered, so deep. -/
def callD (P : Program) (Fu : Nat) (A : Plans) (tab : List Ent) : Nat → (β : Type) → CallF β
  | 0, _ => fun _ _ _ _ => none
  | d + 1, β => callT (enter1 P Fu A (callD P Fu A tab d)) tab β
theorem callD_ok {P : Program} (hm : P.follows .mixedOrders = true) (Fu : Nat) {A : Plans} (hA : PlansOk P A) {tab : List Ent} (hT : EntsOk P tab) : ∀ (d : Nat) (β : Type), CallOk P (callD P Fu A tab d β)
  | 0, β => fun f args h k r hr => by cases hr
  | d + 1, β => callT_ok (enter1_ok hm Fu hA (callD_ok hm Fu hA hT d)) hT β
end
end Go.Proofs.Ythmicafabimfkaa
