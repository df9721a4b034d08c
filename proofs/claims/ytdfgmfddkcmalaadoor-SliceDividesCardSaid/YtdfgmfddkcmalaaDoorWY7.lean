/- Code run on data inside a round of a range over a function. No condition. -/
import Derived.Test.YtdfgmfddkcmalaaDoorWY3
import Derived.RangeFuncNested
import Derived.RangeFuncBound
import Derived.RangeFuncCalls
import Derived.RangeFuncLeaves
import Derived.LoopNIn
import Derived.TacticsIn
namespace Go.Proofs.YtdfgmfddkcmalaaDoor
noncomputable section
open Go.RowKit
abbrev RFo (ro : Option Nat) : Fence := { Fence.wide with round := ro }
theorem calls_in {P : Program} {n : Nat} {f : FuncId} {args : Array Value} {w : World} {R : Ending → World → Prop} (ro : Option Nat) (h : Calls P f args w R) : CallsIn (RFo ro) n P f args w R := (callsIn_wide.2 h : CallsIn Fence.wide n P f args w R)
section
variable {P : Program} {N : Nat} {D : List Deferred} {S F : List Nat} {W0 : World} {ρ : List Info} {K : Slo} {h : List Root} {w : World} {a : Act} {o : Oper} {β : Type} {r : β} {call : CallF β} {ops : Array Oper} {ro : Option Nat} {n : Nat}
theorem semAt_val {ro : Option Nat} {e : Operand → Value} {x : Next} {w w' : World} (hx : ∀ d, x ≠ .defer d) (he : (execOp e o).run P w = .ok x w') : (o.semAt ro e).run P w = .ok x w' := by
  by_cases hd : ∃ c, o.op = .defer c
  · obtain ⟨c, hc⟩ := hd
    unfold execOp at he
    rw [hc] at he
    simp only [Sem.run_bind] at he
    cases hq : (resolve e c o.type).run P w with
    | ok d w2 =>
      rw [hq] at he
      simp only [Result.andThen_ok, Sem.run_pure] at he
      cases he
      exact absurd rfl (hx _)
    | halt _ _ => rw [hq] at he; cases he
  · rw [Oper.semAt_eq ro e o (fun c hc => hd ⟨c, hc⟩)]; exact he
theorem opGo_okIn (hcall : CallOk P call) (hK : KOk N D ρ K a) (hh : HOk S F W0 ρ h w) {k : Slo → List Root → Option β} (hr : opGo P N call K h o k = some r) {Q : Exit → Act → World → Prop} {next : Act → World → Prop} (hn : ∀ a' w', Behind P N D S F W0 ρ k r a' w' → next a' w') : o.wpIn (RFo ro) n P a w next Q := by
  refine ⟨fun _ _ => trivial, ?_⟩
  unfold opGo at hr
  have hv := stepV_ok (P := P) (o := o) hK hh
  split at hr
  · rename_i g v hs
    rw [hs] at hv
    obtain ⟨h1, h2⟩ := gds_some hr
    obtain ⟨u, h3, h4⟩ := hv h1
    rw [semAt_val (fun d hd => by cases hd) (h4 w (Agree.refl _ _ _ _)), Oper.uponIn_value]
    exact hn _ _ (opSet_ok hK hh h3 h2)
  · rename_i b x y hs
    rw [hs] at hv
    obtain ⟨u, h3, h4⟩ := hv
    rw [semAt_val (fun d hd => by cases hd) (h4 w (Agree.refl _ _ _ _)), Oper.uponIn_value]
    cases b with
    | true => exact hn _ _ (opSet_ok hK hh h3 hr)
    | false => exact hn _ _ (opSet_ok hK hh h3 hr)
  · have hm := stepM_ok (P := P) (o := o) hK hh
    split at hr
    · rename_i g v h' t hs
      rw [hs] at hm
      obtain ⟨h1, h2⟩ := gds_some hr
      obtain ⟨ρ', u, nx, w', B, q1, q2, q3, q4, q5, q6, q7, _, _⟩ := hm h1
      have := opSet_ok (P := P) (o := o) (hK.mono q1) q5 q2 h2
      rcases q3 with rfl | ⟨rfl, rfl⟩
      · rw [semAt_val (fun d hd => by cases hd) q4, Oper.uponIn_value]; exact hn _ _ (this.pre q1)
      · rw [semAt_val (fun d hd => by cases hd) q4, Oper.uponIn_skip]; exact hn _ _ (this.pre q1)
    · rename_i f args hs
      rw [hs] at hm
      obtain ⟨vs, q1, q2, q3⟩ := hm
      rw [semAt_val (fun d hd => by cases hd) q1, Oper.uponIn_enter]
      refine ⟨fun hd => by simp [RFo, Fence.wide] at hd, ?_⟩
      refine calls_in ro ((hcall f args h _ r hr S F W0 ρ w vs q3 hh q2).mono fun e w' he => ?_)
      obtain ⟨ρ', h', v, u, B, t, rfl, e1, e2, e3, e4, _⟩ := he
      exact hn _ _ ((opSet_ok (P := P) (o := o) (hK.mono e1) e3 e2 e4).pre e1)
    · cases hr
  · cases hr
theorem opStep_okIn (hcall : CallOk P call) (hK : KOk N D ρ K a) (hh : HOk S F W0 ρ h w) {k : Slo → List Root → Option β} (hr : opStep P N ops call K h o k = some r) {Q : Exit → Act → World → Prop} {next : Act → World → Prop} (hn : ∀ a' w', Behind P N D S F W0 ρ k r a' w' → next a' w') :
    if Region.wanted o (yielded ops a.tmps) then o.wpIn (RFo ro) n P a w next Q else (∀ f, o.about P w a.eval = some f → (RFo ro).fn f) ∧ next (a.put o.dst undef) w := by
  unfold opStep at hr
  split at hr
  · rename_i hg
    rw [if_pos (gdOf_go hK hg)]
    exact opGo_okIn hcall hK hh hr hn
  · rename_i hg
    rw [if_neg (by rw [gdOf_no hK hg]; simp)]
    exact ⟨fun _ _ => trivial, hn _ _ (opSet_ok (v := .un) (u := undef) hK hh rfl hr)⟩
  · rename_i t b want hg
    obtain ⟨h1, h2⟩ := gdOf_test hK hg
    cases b with
    | true =>
      simp only [cond_true] at hr
      have hK' := hK.bool h2 true rfl
      cases want with
      | true => rw [if_pos (by rw [h1]; rfl)]; exact opGo_okIn hcall hK' hh hr hn
      | false => rw [if_neg (by rw [h1]; simp)]; exact ⟨fun _ _ => trivial, hn _ _ (opSet_ok (v := .un) (u := undef) hK' hh rfl hr)⟩
    | false =>
      simp only [cond_false] at hr
      have hK' := hK.bool h2 false rfl
      cases want with
      | true => rw [if_neg (by rw [h1]; simp)]; exact ⟨fun _ _ => trivial, hn _ _ (opSet_ok (v := .un) (u := undef) hK' hh rfl hr)⟩
      | false => rw [if_pos (by rw [h1]; rfl)]; exact opGo_okIn hcall hK' hh hr hn
  · cases hr
theorem evOps_okIn (hcall : CallOk P call) {Q : Exit → Act → World → Prop} (rest : List Oper) : ∀ (os : List Oper) (ρ : List Info) (K : Slo) (h : List Root) (a : Act) (w : World) (k : Slo → List Root → Option β), evOps P N ops call os K h k = some r → KOk N D ρ K a → HOk S F W0 ρ h w →
    (∀ a' w', Behind P N D S F W0 ρ k r a' w' → wpListIn (RFo ro) n P ops Q rest a' w') → wpListIn (RFo ro) n P ops Q (os ++ rest) a w
  | [], ρ, K, h, a, w, k, hr, hK, hh, hn => hn a w ⟨ρ, K, h, Pre.refl _, hK, hh, hr⟩
  | o :: os, ρ, K, h, a, w, k, hr, hK, hh, hn => by
    have step := opStep_okIn (ops := ops) (o := o) (ro := ro) (n := n) hcall hK hh hr (Q := Q) (next := wpListIn (RFo ro) n P ops Q (os ++ rest)) (fun a' w' hb => by
      obtain ⟨ρ', K', h', h1, h2, h3, h4⟩ := hb
      exact evOps_okIn hcall rest os ρ' K' h' a' w' k h4 h2 h3 (fun a2 w2 hb2 => hn a2 w2 (hb2.pre h1)))
    show wpListIn (RFo ro) n P ops Q (o :: (os ++ rest)) a w
    unfold wpListIn
    exact step
end
/-! Code without loops, without regions that draw -/
def evR (P : Program) (call : (β : Type) → CallF β) (N : Nat) : Nat → Code → (β : Type) → Slo → List Root → Kont β → Option β
  | 0, _, _, _, _, _ => none
  | d + 1, c, β, K, h, k => match c with
    | .skip => k .normal K h
    | .exit id => k (.exit id) K h
    | .ret => k .ret K h
    | .region _ ops false => evOps P N ops (call β) ops.toList K h (k .normal)
    | .seq x y => evR P call N d x β K h (fun e K' h' => match e with
      | .normal => evR P call N d y β K' h' k
      | e => k e K' h')
    | .cond c x y => match evalP K c with
      | some (.c (.sc (.bool b))) => bif b then evR P call N d x β K h k else evR P call N d y β K h k
      | _ => none
    | .block id x => evR P call N d x β K h (fun e K' h' => match e with
      | .exit id' => bif Nat.beq id' id then k .normal K' h' else k (.exit id') K' h'
      | e => k e K' h')
    | _ => none
theorem evR_ok {P : Program} {N n : Nat} {D : List Deferred} {ro : Option Nat} {call : (β : Type) → CallF β} (hcall : ∀ β, CallOk P (call β)) : ∀ (d : Nat) (c : Code) (β : Type) (K : Slo) (h : List Root) (k : Kont β) (r : β), evR P call N d c β K h k = some r →
    ∀ (S F : List Nat) (W0 : World) (ρ : List Info) (a : Act) (w : World), KOk N D ρ K a → HOk S F W0 ρ h w → ∀ Q : Exit → Act → World → Prop,
    (∀ (e : XT) (ρ' : List Info) (K' : Slo) (h' : List Root) (a' : Act) (w' : World), Pre ρ ρ' → k e K' h' = some r → KOk N D ρ' K' a' → HOk S F W0 ρ' h' w' → Q e.out a' w') → c.wpIn (RFo ro) n P Q a w
  | 0, _, _, _, _, _, _, hr => by cases hr
  | d + 1, c, β, K, h, k, r, hr => fun S F W0 ρ a w hK hh Q hn => by
    cases c with
    | skip => exact wpIn_skip (hn .normal ρ K h a w (Pre.refl _) hr hK hh)
    | exit id => exact wpIn_exit (hn (.exit id) ρ K h a w (Pre.refl _) hr hK hh)
    | ret => exact wpIn_ret (hn .ret ρ K h a w (Pre.refl _) hr hK hh)
    | region id ops draw =>
      cases draw with
      | false =>
        refine wpIn_region_list ?_
        have := evOps_okIn (P := P) (N := N) (ops := ops) (S := S) (F := F) (W0 := W0) (r := r) (ro := ro) (n := n) (hcall β) (Q := Q) [] ops.toList ρ K h a w (k .normal) hr hK hh (fun a' w' hb => by
          obtain ⟨ρ', K', h', h1, h2, h3, h4⟩ := hb
          exact wpListIn_nil (hn .normal ρ' K' h' a' w' h1 h4 h2 h3))
        simpa using this
      | true => cases hr
    | seq x y =>
      refine wpIn_seq (evR_ok hcall d x β K h _ r hr S F W0 ρ a w hK hh _ (fun e ρ' K' h' a' w' hp he hK' hh' => ?_))
      cases e with
      | normal => exact evR_ok hcall d y β K' h' k r he S F W0 ρ' a' w' hK' hh' Q (fun e ρ2 K2 h2 a2 w2 hp2 => hn e ρ2 K2 h2 a2 w2 (hp.trans hp2))
      | exit id => exact hn _ ρ' K' h' a' w' hp he hK' hh'
      | ret => exact hn _ ρ' K' h' a' w' hp he hK' hh'
    | cond c x y =>
      simp only [evR] at hr
      split at hr
      · rename_i b hc
        have hb : a.eval c = .bool b := (evalP_ok hK hc).1
        cases b with
        | true => exact wpIn_cond_true hb (evR_ok hcall d x β K h k r hr S F W0 ρ a w hK hh Q hn)
        | false => exact wpIn_cond_false hb (evR_ok hcall d y β K h k r hr S F W0 ρ a w hK hh Q hn)
      · cases hr
    | block id x =>
      refine wpIn_block (evR_ok hcall d x β K h _ r hr S F W0 ρ a w hK hh _ (fun e ρ' K' h' a' w' hp he hK' hh' => ?_))
      cases e with
      | normal => exact hn .normal ρ' K' h' a' w' hp he hK' hh'
      | exit id' =>
        show Exit.inBlock id Q (.exit id') a' w'
        dsimp only at he
        cases hb : Nat.beq id' id with
        | true =>
          rw [hb] at he
          have := Nat.eq_of_beq_eq_true hb
          subst this
          show (if id' = id' then Q .normal a' w' else Q (.exit id') a' w')
          rw [if_pos rfl]
          exact hn .normal ρ' K' h' a' w' hp he hK' hh'
        | false =>
          rw [hb] at he
          have hne := Nat.ne_of_beq_eq_false hb
          show (if id' = id then Q .normal a' w' else Q (.exit id') a' w')
          rw [if_neg hne]
          exact hn (.exit id') ρ' K' h' a' w' hp he hK' hh'
      | ret => exact hn .ret ρ' K' h' a' w' hp he hK' hh'
    | loop x => cases hr
    | rangeFunc f p x y => cases hr
    | scope x => cases hr
    | label l => cases hr
    | goto l => cases hr
    | refuse s => cases hr
end
end Go.Proofs.YtdfgmfddkcmalaaDoor
