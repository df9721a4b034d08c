/- Places in a code; marks by places. No condition. -/
import Derived.Test.YtcbbhiobibhdnaaDoorWY5
namespace Go.Proofs.YtcbbhiobibhdnaaDoor
noncomputable section
open Go.RowKit
def xAN : Code → List Nat → Code
 | c, [] => c
 | c, i :: p => xAN (match c with
  | .seq x y => match i with
   | 0 => x
   | _ => y
  | .cond _ x y => match i with
   | 0 => x
   | _ => y
  | .block _ x => x
  | .loop x => x
  | c => c) p
theorem xBd : ∀ (c : Code) (p q : List Nat), xAN c (p ++ q) = xAN (xAN c p) q
 | c, [], q => rfl
 | c, i :: p, q => by
  simp only [List.cons_append, xAN]
  exact xBd _ p q
def AnP (P : Program) (m N : Nat) (c : Code) : An → List Nat → Prop
 | .no, _ => True
 | .two a b, p => AnP P m N c a (p ++ [0]) ∧ AnP P m N c b (p ++ [1])
 | .one a, p => AnP P m N c a (p ++ [0])
 | .rnd a b, p => AnP P m N c a (p ++ [0]) ∧ AnP P m N c b p
 | .join _ a, p => AnP P m N c a p
 | .loop S o M, p => xBT P m N (xAN c (p ++ [0])) S o M
theorem xAo {P : Program} {m N : Nat} {c : Code} : ∀ {an : An} {p : List Nat}, AnP P m N c an p → AnOk P m N an (xAN c p)
 | .no, p, _ => trivial
 | .two a b, p, h => by
  have h1 := xAo (an := a) h.1
  have h2 := xAo (an := b) h.2
  rw [xBd] at h1 h2
  cases hc : xAN c p <;> rw [hc] at h1 h2 <;> first | exact ⟨h1, h2⟩ | exact h1 | trivial
 | .one a, p, h => by
  have h1 := xAo (an := a) (p := p ++ [0]) h
  rw [xBd] at h1
  cases hc : xAN c p <;> rw [hc] at h1 <;> first | exact h1 | trivial
 | .rnd a b, p, h => by
  have h1 := xAo (an := a) h.1
  have h2 := xAo (an := b) h.2
  rw [xBd] at h1
  cases hc : xAN c p <;> rw [hc] at h1 h2 <;> first | exact ⟨h1, h2⟩ | trivial
 | .join _ a, p, h => xAo (an := a) h
 | .loop S o M, p, h => by
  have h1 : xBT P m N (xAN c (p ++ [0])) S o M := h
  rw [xBd] at h1
  cases hc : xAN c p <;> rw [hc] at h1 <;> first | exact h1 | trivial
/-- A function is entered where it is called: what it calls in turn is carried out by another way. -/
def xQM (P : Program) (Fu : Nat) (A : xFA) (call : (β : Type) → xAW β) (β : Type) : xAW β := fun f args h k =>
 match P.funcs[f]? with
 | some fn => match fn.body with
  | some c => xDU P Fu (xBc A f) (call β) 10000 (args.length + (fn.ntmps - args.length)) c (xRS 0 args) (xPT (xBL h args) h) (fun e K' h' => match e with
   | .exit _ => none
   | _ => match xPp P K' h' fn.results.toList with
    | some v => k (xBL h args) v (xEw (xBL h args) h h' 0)
    | none => none)
  | none => none
 | none => none
theorem xQL {P : Program} (hm : P.follows .mixedOrders = true) (Fu : Nat) {A : xFA} (hA : xEN P A) {call : (β : Type) → xAW β} (hcall : ∀ β, xA4 P (call β)) (β : Type) : xA4 P (xQM P Fu A call β) :=
 fun f args h k r hr S F W0 ρ w vs hargs hh hcl => by
 simp only [xQM] at hr
 split at hr
 ·rename_i fn hfn
  split at hr
  ·rename_i c hc
   have hsz : vs.toArray.size = args.length := by simpa using hargs.len
   refine calls_of_wp hfn hc (xCE (N := args.length + (fn.ntmps - args.length)) (hcall β) hm Fu (xBc A f) 10000 c (xPx hA hfn hc) _ _ _ r hr _ _ w ρ _ w ⟨by simp [hsz], rfl, fun t p hp => ?_⟩ (hh.enter (xBL h args)) _ (fun e ρ' K' h' a' w' hp he hK' hh' => ?_))
   ·obtain ⟨_, h2⟩ := xE7 _ _ _ _ hp
    rw [Nat.sub_zero] at h2
    obtain ⟨v, h3, h4⟩ := hargs.get h2
    refine ⟨v, h4, ?_⟩
    have hlt := (List.getElem?_eq_some_iff.1 h3).1
    show (vs.toArray ++ Array.replicate (fn.ntmps - vs.toArray.size) undef)[t]? = some v
    rw [Array.getElem?_append_left (by simpa using hlt)]
    simpa using h3
   ·have fin : (match xPp P K' h' fn.results.toList with
      | some v => k (xBL h args) v (xEw (xBL h args) h h' 0)
      | none => none) = some r → a'.defers = [] ∧ ∃ v, (results fn a'.tmps).run P w' = .ok v w' ∧ ∃ ρ' h' v' u B t, Ending.returned v = .returned u ∧ Pre ρ ρ' ∧ DenP ρ' v' u ∧ HOk S F W0 ρ' h' w' ∧ k t v' h' = some r ∧ Ex B w w' ∧
      (∀ b ∈ B, ∃ p ∈ t, ∃ r i, h[p]? = some r ∧ ρ[p]? = some i ∧ own i r b) ∧ (∀ q : Nat, q ∉ t → q < h.length → h'[q]? = h[q]?) ∧ Feet ρ h w ρ' h' := by
     intro hm2
     split at hm2
     ·rename_i v hv
      obtain ⟨u, h1, h2⟩ := xJB hK' hh' hv
      have hl : h.length ≤ h'.length := by rw [← hh.len, ← hh'.len]; exact hp.len
      refine ⟨hK'.2.1, u, h2, ρ', _, v, u, _, xBL h args, rfl, hp, h1, hh.merged _ (fun _ _ q1 q2 => xOo q1 q2) hp hh', hm2, hh'.ext, fun b hb => xAj.1 hb, fun q hq hlt => xKZ _ h h' 0 q hl (by
       rw [Nat.zero_add]
       cases hb : (xBL h args).any (Nat.beq q) with
       | false => rfl
       | true => exact absurd (xDs.1 hb) hq) hlt, fun q s j b hs hj hb => ?_⟩
      rcases xBv _ h h' 0 q s hl hs with ⟨g1, _⟩ | ⟨g1, _⟩
      ·rcases hh'.near q s j b g1 hj hb with g2 | g2 | g2
       ·exact .inl g2
       ·obtain ⟨p, _, r0, i0, g3, g4, g5⟩ := xAj.1 g2
        exact .inr ⟨p, r0, i0, g3, g4, xAy g5⟩
       ·obtain ⟨p, _, r0, i0, g3, g4, g5⟩ := xAj.1 g2
        exact .inr ⟨p, r0, i0, g3, g4, g5⟩
      ·obtain ⟨i0, g2⟩ := hh.info g1
       have := hp _ _ g2
       rw [hj] at this
       cases this
       exact .inr ⟨q, s, j, g1, g2, hb⟩
     ·cases hm2
    cases e with
    | normal => exact fin he
    | exit id => cases he
    | ret => exact fin he
  ·cases hr
 ·cases hr
/-- Calls: by what functions do on data, or entered, so deep. -/
def xAz (P : Program) (Fu : Nat) (A : xFA) (tab : List Ent) : Nat → (β : Type) → xAW β
 | 0, _ => fun _ _ _ _ => none
 | d + 1, β => xRr (xQM P Fu A (xAz P Fu A tab d)) tab β
theorem xAc {P : Program} (hm : P.follows .mixedOrders = true) (Fu : Nat) {A : xFA} (hA : xEN P A) {tab : List Ent} (hT : xAs P tab) : ∀ (d : Nat) (β : Type), xA4 P (xAz P Fu A tab d β)
 | 0, β => fun f args h k r hr => by cases hr
 | d + 1, β => xKl (xQL hm Fu hA (xAc hm Fu hA hT d)) hT β
end
end Go.Proofs.YtcbbhiobibhdnaaDoor
