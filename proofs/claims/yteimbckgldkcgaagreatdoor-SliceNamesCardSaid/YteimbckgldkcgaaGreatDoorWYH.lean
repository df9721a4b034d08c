/- A function with one range over a function, run on data. No condition. -/
import Derived.Test.YteimbckgldkcgaaGreatDoorWYG
namespace Go.Proofs.YteimbckgldkcgaaGreatDoor
noncomputable section
open Go.RowKit
def rfPs : Code → List Nat
  | .rangeFunc _ ps _ _ => ps.toList
  | _ => []
def rfAs : Code → Code
  | .rangeFunc _ _ as _ => as
  | _ => .skip
def rfBd : Code → Code
  | .rangeFunc _ _ _ bd => bd
  | _ => .skip
def rndF (P : Program) (call : (β : Type) → CallF β) (N : Nat) (ps : List Nat) (as bd : Code) (Kc : Slo) : YlF := fun γ args h' k => rnd P call N ps as bd Kc γ args h' k
/-! Where the statement is -/
def NodeOk (L : Code → Prop) : AY → Code → Prop
  | .no, _ => True
  | .two a b, c => match c with
    | .seq x y => NodeOk L a x ∧ NodeOk L b y
    | .block _ x => NodeOk L a x
    | _ => True
  | .one a, c => match c with
    | .seq x _ => NodeOk L a x
    | .block _ x => NodeOk L a x
    | _ => True
  | .lp, c => L c
theorem NodeOk.seq {L : Code → Prop} {an : AY} {x y : Code} (h : NodeOk L an (.seq x y)) : NodeOk L an.l x ∧ NodeOk L an.r y := by
  cases an with
  | no => exact ⟨trivial, trivial⟩
  | two a b => exact h
  | one a => exact ⟨h, trivial⟩
  | lp => exact ⟨trivial, trivial⟩
theorem NodeOk.block {L : Code → Prop} {an : AY} {id : Nat} {x : Code} (h : NodeOk L an (.block id x)) : NodeOk L an.l x := by
  cases an with
  | no => trivial
  | two a b => exact h
  | one a => exact h
  | lp => trivial
def NodeP (L : Code → Prop) (c : Code) : AY → List Nat → Prop
  | .no, _ => True
  | .two a b, p => NodeP L c a (p ++ [0]) ∧ NodeP L c b (p ++ [1])
  | .one a, p => NodeP L c a (p ++ [0])
  | .lp, p => L (subAt c p)
theorem nodeP_ok {L : Code → Prop} {c : Code} : ∀ {an : AY} {p : List Nat}, NodeP L c an p → NodeOk L an (subAt c p)
  | .no, p, _ => trivial
  | .two a b, p, h => by
    have h1 := nodeP_ok (an := a) h.1
    have h2 := nodeP_ok (an := b) h.2
    rw [subAt_app] at h1 h2
    cases hc : subAt c p <;> rw [hc] at h1 h2 <;> first | exact ⟨h1, h2⟩ | exact h1 | trivial
  | .one a, p, h => by
    have h1 := nodeP_ok (an := a) (p := p ++ [0]) h
    rw [subAt_app] at h1
    cases hc : subAt c p <;> rw [hc] at h1 <;> first | exact h1 | trivial
  | .lp, p, h => h
/-- What is known of the function that is ranged over. -/
structure RgA where
  (SC LS : Sch) (oo : Outs) (LM : SC.ty → LS.ty → Option (OutTy oo)) (an : AY) (gf na : Nat) (ysp : Nat → Option Nat)
def evZ (P : Program) (A : Plans) (Fu f : Nat) (call : (β : Type) → CallF β) (m N : Nat) (R : RgA) : Nat → AY → Code → (β : Type) → Slo → List Root → Bool → (XT → Slo → List Root → Bool → Option β) → Option β
  | 0, _, _, _, _, _, _, _ => none
  | d + 1, sk, c, β, K, h, q, k => match sk with
    | .no => evCode P Fu (plOf A f) (call β) 1000 N c K h (fun e K' h' => k e K' h' q)
    | .lp => match c, q with
      | .rangeFunc g ps as bd, false => match R.SC.dec m K h with
        | some xc => match evalP (slEnc same R.SC.slots (R.SC.a xc)) g with
          | some (.c (.hv j)) => rfEv P (plOf A) call N R.ysp R.LS R.oo (R.LM xc) R.an R.gf R.na ps.toList as bd β j (slEnc same R.SC.slots (R.SC.a xc)) (rsEnc same R.SC.roots (R.SC.b xc)) (fun p h' => k (p.getD .normal) (slEnc same R.SC.slots (R.SC.a xc)) h' true)
          | _ => none
        | none => none
      | _, _ => none
    | sk => match c with
      | .seq x y => evZ P A Fu f call m N R d sk.l x β K h q (fun e K' h' q' => match e with
        | .normal => evZ P A Fu f call m N R d sk.r y β K' h' q' k
        | e => k e K' h' q')
      | .block id x => evZ P A Fu f call m N R d sk.l x β K h q (fun e K' h' q' => match e with
        | .exit id' => bif Nat.beq id' id then k .normal K' h' q' else k (.exit id') K' h' q'
        | e => k e K' h' q')
      | _ => none
section
variable {P : Program} {m N : Nat} {S0 F0 : List Nat} {W0 : World}
def StZ (S0 F0 : List Nat) (W0 : World) (N : Nat) : Bool → List Info → Slo → List Root → Act → World → Prop
  | false, ρ, K, h, a, W => KOk N [] ρ K a ∧ HOk S0 F0 W0 ρ h W
  | true, ρ, K, h, a, W => ∃ ρ1 h1 w1 B, HOk S0 F0 W0 ρ1 h1 w1 ∧ Pre ρ1 ρ ∧ Ext w1 B ∧ B.heap[w1.heap.size]? = some (.deferred (some [])) ∧ HOk (blocksOf own ρ1 h1 (List.range h1.length)) (blocksOf foot ρ1 h1 (List.range h1.length)) B ρ h W ∧ KOk N [mark w1.heap.size] ρ K a
/-- What is asked of the loop at the statement. -/
def LfOk (P : Program) (call : (β : Type) → CallF β) (N : Nat) (R : RgA) (node : Code) : Prop :=
  ∀ (xc : R.SC.ty) (n l : Nat) (S F : List Nat) (B : Option XT → World) (ρ0 : List Info), ρ0.length = (rsEnc same R.SC.roots (R.SC.b xc)).length + 1 → (∃ i, ρ0[(rsEnc same R.SC.roots (R.SC.b xc)).length]? = some i ∧ i.val = .func (.yield l) #[] #[]) →
    YlOk P (n - 1) l S F B ρ0 (fun γ args h' k => rnd P call N (rfPs node) (rfAs node) (rfBd node) (slEnc same R.SC.slots (R.SC.a xc)) γ args h' k) → AYok (LoopY P n (tmpsOf P R.gf R.na) S F B ρ0 R.LS R.oo (R.LM xc)) R.an (bodyOf P R.gf)
theorem evZ_ok {call : (β : Type) → CallF β} (hcall : ∀ β, CallOk P (call β)) (hmx : P.follows .mixedOrders = true) {A : Plans} (hA : PlansOk P A) {Fu f : Nat} {R : RgA} : ∀ (d : Nat) (sk : AY) (c : Code), NodeOk (LfOk P call N R) sk c → regsOk (plOf A f) c = true → ∀ (β : Type) (K : Slo) (h : List Root) (q : Bool) (k : XT → Slo → List Root → Bool → Option β) (x : β), evZ P A Fu f call m N R d sk c β K h q k = some x →
    ∀ (ρ : List Info) (a : Act) (W : World), StZ S0 F0 W0 N q ρ K h a W → ∀ Q : Exit → Act → World → Prop,
    (∀ (e : XT) (ρ' : List Info) (K' : Slo) (h' : List Root) (q' : Bool) (a' : Act) (W' : World), PreM m ρ ρ' → k e K' h' q' = some x → StZ S0 F0 W0 N q' ρ' K' h' a' W' → Q e.out a' W') → c.wpIn (RFo none) 6 P Q a W
  | 0, _, _, _, _, _, _, _, _, _, _, hr => by cases hr
  | d + 1, sk, c, hNd, hreg, β, K, h, q, k, x, hr => fun ρ a W hst Q hn => by
    have plain : (match (generalizing := false) c with
      | .seq x y => evZ P A Fu f call m N R d sk.l x β K h q (fun e K' h' q' => match e with
        | .normal => evZ P A Fu f call m N R d sk.r y β K' h' q' k
        | e => k e K' h' q')
      | .block id x => evZ P A Fu f call m N R d sk.l x β K h q (fun e K' h' q' => match e with
        | .exit id' => bif Nat.beq id' id then k .normal K' h' q' else k (.exit id') K' h' q'
        | e => k e K' h' q')
      | _ => none) = some x → c.wpIn (RFo none) 6 P Q a W := by
      intro hr
      cases c with
      | seq u v =>
        simp only [regsOk, Bool.and_eq_true] at hreg
        obtain ⟨hA1, hA2⟩ := hNd.seq
        refine wpIn_seq (evZ_ok hcall hmx hA d sk.l u hA1 hreg.1 β K h q _ x hr ρ a W hst _ (fun e ρ' K' h' q' a' W' hp he hst' => ?_))
        cases e with
        | normal => exact evZ_ok hcall hmx hA d sk.r v hA2 hreg.2 β K' h' q' k x he ρ' a' W' hst' Q (fun e ρ2 K2 h2 q2 a2 w2 hp2 => hn e ρ2 K2 h2 q2 a2 w2 (hp.trans hp2))
        | exit id => exact hn _ ρ' K' h' q' a' W' hp he hst'
        | ret => exact hn _ ρ' K' h' q' a' W' hp he hst'
      | block id u =>
        refine wpIn_block (evZ_ok hcall hmx hA d sk.l u hNd.block hreg β K h q _ x hr ρ a W hst _ (fun e ρ' K' h' q' a' W' hp he hst' => ?_))
        cases e with
        | normal => exact hn .normal ρ' K' h' q' a' W' hp he hst'
        | exit id' =>
          show Exit.inBlock id Q (.exit id') a' W'
          dsimp only at he
          cases hb : Nat.beq id' id with
          | true =>
            rw [hb] at he
            have := Nat.eq_of_beq_eq_true hb
            subst this
            show (if id' = id' then Q .normal a' W' else Q (.exit id') a' W')
            rw [if_pos rfl]
            exact hn .normal ρ' K' h' q' a' W' hp he hst'
          | false =>
            rw [hb] at he
            have hne := Nat.ne_of_beq_eq_false hb
            show (if id' = id then Q .normal a' W' else Q (.exit id') a' W')
            rw [if_neg hne]
            exact hn (.exit id') ρ' K' h' q' a' W' hp he hst'
        | ret => exact hn .ret ρ' K' h' q' a' W' hp he hst'
      | _ => cases hr
    cases sk with
    | no =>
      simp only [evZ] at hr
      refine wpIn_wide.2 ?_
      cases q with
      | false =>
        obtain ⟨hK, hh⟩ := hst
        exact evCode_ok (D := []) (hcall β) hmx Fu (plOf A f) 1000 c hreg K h _ x hr S0 F0 W0 ρ a W hK hh Q (fun e ρ' K' h' a' w' hp he hK' hh' => hn e ρ' K' h' false a' w' hp.m he ⟨hK', hh'⟩)
      | true =>
        obtain ⟨ρ1, h1, w1, B, e1, e2, e3, e4, e5, hK⟩ := hst
        exact evCode_ok (D := [mark w1.heap.size]) (hcall β) hmx Fu (plOf A f) 1000 c hreg K h _ x hr _ _ B ρ a W hK e5 Q (fun e ρ' K' h' a' w' hp he hK' hh' => hn e ρ' K' h' true a' w' hp.m he ⟨ρ1, h1, w1, B, e1, e2.trans hp, e3, e4, hh', hK'⟩)
    | lp =>
      simp only [evZ] at hr
      split at hr
      · rename_i g ps as bd
        obtain ⟨hK, hh⟩ := hst
        split at hr
        · rename_i xc hxc
          split at hr
          · rename_i j hj
            obtain ⟨ι, h2, h3, h4⟩ := Sch.dec_ok hxc hK hh
            have hL2 : LfOk P call N R (.rangeFunc g ps as bd) := hNd
            have := range_ok (N := N) (na := R.na) (gop := g) (ps := ps.toList) (as := as) (bd := bd) hcall hmx hA (hL2 xc) hr h3 h4 hj (Q := Q) (fun p ρ' h' B w' a' e1 e2 e3 e4 e5 e6 =>
              hn _ ρ' _ h' true a' w' (h2.trans e1.m) e2 ⟨ι, _, W, B, h4, e1, e3, e4, e5, e6⟩)
            simpa using this
          · cases hr
        · cases hr
      · cases hr
    | two u v =>
      simp only [evZ] at hr
      exact plain hr
    | one u =>
      simp only [evZ] at hr
      exact plain hr
/-- The body of a function, run on data. -/
def fnEvZ (P : Program) (A : Plans) (Fu : Nat) (call : (β : Type) → CallF β) (R : RgA) (sk : AY) (nargs f : Nat) (In : Sch) (Out : FSch) (s : In.ty) : Option Out.ty :=
  match P.funcs[f]? with
  | some fn => match fn.body with
    | some c => evZ P A Fu f call In.roots.length (nargs + (fn.ntmps - nargs)) R 300 sk c Out.ty (slEnc same In.slots (In.a s)) (rsEnc same In.roots (In.b s)) false (fun e K' h' q => match q with
      | false => none
      | true => match e with
        | .exit _ => none
        | _ => match retP P K' h' fn.results.toList with
          | some v => Out.dec In.roots.length v h'
          | none => none)
    | none => none
  | none => none
theorem fnZ_ok {call : (β : Type) → CallF β} (hcall : ∀ β, CallOk P (call β)) (hmx : P.follows .mixedOrders = true) {A : Plans} (hA : PlansOk P A) {Fu nargs f : Nat} {R : RgA} {sk : AY} {In : Sch} {Out : FSch} {spec : In.ty → Option Out.ty}
    (hreg : regsOk (plOf A f) (bodyOf P f) = true) (hNd : NodeOk (LfOk P call (tmpsOf P f nargs) R) sk (bodyOf P f)) (hs : ∀ s, spec s = fnEvZ P A Fu call R sk nargs f In Out s) : FnSem P f nargs In Out spec := by
  intro s t hst S F W0 ι w vs hlen hden hh hcl
  rw [hs] at hst
  unfold fnEvZ at hst
  split at hst
  · rename_i fn hfn
    split at hst
    · rename_i c hc
      have hb : bodyOf P f = c := by simp [bodyOf, hfn, hc]
      have ht : tmpsOf P f nargs = nargs + (fn.ntmps - nargs) := by simp [tmpsOf, hfn]
      rw [hb] at hreg hNd
      rw [ht] at hNd
      have hsz : vs.toArray.size = nargs := by simpa using hlen
      refine callsIn_wide.1 (callsIn_of_wp_marks (n := 6) hfn hc trivial ?_)
      refine evZ_ok (S0 := S) (F0 := F) (W0 := W0) hcall hmx hA 300 sk c hNd hreg Out.ty _ _ false _ t hst ι _ w ⟨⟨by simp [hsz], rfl, fun q p hp => ?_⟩, hh⟩ _ (fun e ρ' K' h' q a' w' hp he hst' => ?_)
      · obtain ⟨v, h3, h4⟩ := hden q p hp
        refine ⟨v, h3, ?_⟩
        have hlt := (List.getElem?_eq_some_iff.1 h4).1
        show (vs.toArray ++ Array.replicate (fn.ntmps - vs.toArray.size) undef)[q]? = some v
        rw [Array.getElem?_append_left (by simpa using hlt)]
        simpa using h4
      · cases q with
        | false => cases he
        | true =>
          obtain ⟨ρ1, h1, w1, B, e1, e2, e3, e4, e5, hK⟩ := hst'
          have hS : w1.heap.size ∉ blocksOf own ρ1 h1 (List.range h1.length) := fun hm => by have := own_lt e1 hm; omega
          have hk := e5.kept e4 hS
          have hBl := lt_of_block e4
          have hh5 : HOk (blocksOf own ρ1 h1 (List.range h1.length)) (blocksOf foot ρ1 h1 (List.range h1.length)) (B.putObj w1.heap.size (.deferred none)) ρ' h' (w'.putObj w1.heap.size (.deferred none)) :=
            e5.putObj hk rfl ⟨rfl, rfl, rfl, by simp, fun k _ hk => World.putObj_heap_other (by simpa using hk)⟩ (by simp) (World.putObj_heap_same hBl)
          have hE5 : Ext w1 (B.putObj w1.heap.size (.deferred none)) := by
            refine ⟨e3.os, e3.tape, e3.output, by simp; exact e3.size, fun k hk _ => ?_⟩
            rw [World.putObj_heap_other (by omega), e3.block k hk (by simp)]
          have fin : (match retP P K' h' fn.results.toList with
              | some v => Out.dec In.roots.length v h'
              | none => none) = some t → LeavesInM (RFo none) 6 P fn a'.tmps (fun e w' => ∃ ι' u, e = .returned u ∧ PreM In.roots.length ι ι' ∧ DenP ι' (Out.res.enc same (Out.a t)) u ∧ HOk S F W0 ι' (rsEnc same Out.roots (Out.b t)) w' ∧ In.roots.length ≤ Out.roots.length) a'.defers .returning w' := by
            intro hm2
            split at hm2
            · rename_i v hv
              obtain ⟨u, q1, q2⟩ := retP_ok hK hh5 hv
              have hback := e1.back e2 hE5 hh5
              obtain ⟨h3, ι', h4, h5, h6⟩ := FSch.dec_ok hm2 q1 hback
              rw [hK.2.1]
              exact ⟨by simp, .inl ⟨w1.heap.size, _, rfl, run_takeDeferred hk, u, q2, ι', u, rfl, hp.trans h4, h5, h6, h3⟩⟩
            · cases hm2
          cases e with
          | normal => exact fin he
          | exit id => cases he
          | ret => exact fin he
    · cases hst
  · cases hst
end
end
end Go.Proofs.YteimbckgldkcgaaGreatDoor
