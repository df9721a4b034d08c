/- A range over a function, run on data: the function that is ranged over. No condition. -/
import Derived.Test.YteimbckgldkcgaaGreatDoorWY8
import Derived.Test.YteimbckgldkcgaaGreatDoorWY6
namespace Go.Proofs.YteimbckgldkcgaaGreatDoor
noncomputable section
open Go.RowKit
/-! Where the loop is -/
inductive AY where
  | no
  | two (a b : AY)
  | one (a : AY)
  | lp
def AY.l : AY → AY
  | .two a _ => a
  | .one a => a
  | _ => .no
def AY.r : AY → AY
  | .two _ b => b
  | _ => .no
def AYok (L : Code → Prop) : AY → Code → Prop
  | .no, _ => True
  | .two a b, c => match c with
    | .seq x y => AYok L a x ∧ AYok L b y
    | .cond _ x y => AYok L a x ∧ AYok L b y
    | .block _ x => AYok L a x
    | _ => True
  | .one a, c => match c with
    | .seq x _ => AYok L a x
    | .cond _ x _ => AYok L a x
    | .block _ x => AYok L a x
    | _ => True
  | .lp, c => match c with
    | .loop x => L x
    | _ => True
theorem AYok.seq {L : Code → Prop} {an : AY} {x y : Code} (h : AYok L an (.seq x y)) : AYok L an.l x ∧ AYok L an.r y := by
  cases an with
  | no => exact ⟨trivial, trivial⟩
  | two a b => exact h
  | one a => exact ⟨h, trivial⟩
  | lp => exact ⟨trivial, trivial⟩
theorem AYok.cond {L : Code → Prop} {an : AY} {c : Operand} {x y : Code} (h : AYok L an (.cond c x y)) : AYok L an.l x ∧ AYok L an.r y := by
  cases an with
  | no => exact ⟨trivial, trivial⟩
  | two a b => exact h
  | one a => exact ⟨h, trivial⟩
  | lp => exact ⟨trivial, trivial⟩
theorem AYok.block {L : Code → Prop} {an : AY} {id : Nat} {x : Code} (h : AYok L an (.block id x)) : AYok L an.l x := by
  cases an with
  | no => trivial
  | two a b => exact h
  | one a => exact h
  | lp => trivial
def AYP (L : Code → Prop) (c : Code) : AY → List Nat → Prop
  | .no, _ => True
  | .two a b, p => AYP L c a (p ++ [0]) ∧ AYP L c b (p ++ [1])
  | .one a, p => AYP L c a (p ++ [0])
  | .lp, p => L (subAt c (p ++ [0]))
theorem ayP_ok {L : Code → Prop} {c : Code} : ∀ {an : AY} {p : List Nat}, AYP L c an p → AYok L an (subAt c p)
  | .no, p, _ => trivial
  | .two a b, p, h => by
    have h1 := ayP_ok (an := a) h.1
    have h2 := ayP_ok (an := b) h.2
    rw [subAt_app] at h1 h2
    cases hc : subAt c p <;> rw [hc] at h1 h2 <;> first | exact ⟨h1, h2⟩ | exact h1 | trivial
  | .one a, p, h => by
    have h1 := ayP_ok (an := a) (p := p ++ [0]) h
    rw [subAt_app] at h1
    cases hc : subAt c p <;> rw [hc] at h1 <;> first | exact h1 | trivial
  | .lp, p, h => by
    have h1 : L (subAt c (p ++ [0])) := h
    rw [subAt_app] at h1
    cases hc : subAt c p <;> rw [hc] at h1 <;> first | exact h1 | trivial
abbrev sch0 : Sch := ⟨[], []⟩
def lm0 : sch0.ty → Option (OutTy []) := fun _ => none
/-! The evaluation -/
abbrev KontY (β : Type) := XT → Slo → List Root → Option XT → Option β
abbrev YlF := (β : Type) → List PV → List Root → (Option XT → List Root → Option β) → Option β
def yldGo (jy N : Nat) (yl : YlF) (β : Type) (o : Oper) (K : Slo) (h : List Root) (p : Option XT) (k : Slo → List Root → Option XT → Option β) : Option β :=
  match o.op with
  | .call ⟨.value f, ⟨args⟩, _⟩ => match evalP K f, argsP K args with
    | some (.c (.hv i)), some q => bif Nat.beq i jy then (match p with
      | none => yl β q h (fun p' h2 => match setP N K o.dst (.c (.sc (.bool p'.isNone))) with
        | some K2 => k K2 h2 p'
        | none => none)
      | some _ => none) else none
    | _, _ => none
  | _ => none
def yldOp (ops : Array Oper) (jy N : Nat) (yl : YlF) (β : Type) (o : Oper) (K : Slo) (h : List Root) (p : Option XT) (k : Slo → List Root → Option XT → Option β) : Option β :=
  withGd ops K o (fun K => yldGo jy N yl β o K h p k) (fun K => match setP N K o.dst .un with
    | some K2 => k K2 h p
    | none => none)
def evRdY {β : Type} (body : Slo → List Root → Option XT → KontY β → Option β) : Nat → Slo → List Root → Option XT → KontY β → Option β
  | 0, _, _, _, _ => none
  | i + 1, K, h, p, k => body K h p (fun e K' h' p' => match e with
    | .normal => evRdY body i K' h' p' k
    | e => k e K' h' p')
def evY (P : Program) (pl : Nat → Option PT) (call : (β : Type) → CallF β) (m N jy : Nat) (yl : YlF) (ysp : Nat → Option Nat) (LS : Sch) (oo : Outs) (LM : LS.ty → Option (OutTy oo)) : Nat → AY → Code → (β : Type) → Slo → List Root → Option XT → KontY β → Option β
  | 0, _, _, _, _, _, _, _ => none
  | d + 1, an, c, β, K, h, p, k => match c with
    | .skip => k .normal K h p
    | .exit id => k (.exit id) K h p
    | .ret => k .ret K h p
    | .region id ops false => match ysp id with
      | some j => evOps P N ops (call β) (ops.toList.take j) K h (fun K1 h1 => match ops.toList.drop j with
        | o :: os => yldOp ops jy N yl β o K1 h1 p (fun K2 h2 p' => evOps P N ops (call β) os K2 h2 (fun K3 h3 => k .normal K3 h3 p'))
        | [] => none)
      | none => evOps P N ops (call β) ops.toList K h (fun K1 h1 => k .normal K1 h1 p)
    | .region id ops true => match pl id with
      | some t => evDraw P N ops (call β) t K h (fun K1 h1 => k .normal K1 h1 p)
      | none => none
    | .seq x y => evY P pl call m N jy yl ysp LS oo LM d an.l x β K h p (fun e K' h' p' => match e with
      | .normal => evY P pl call m N jy yl ysp LS oo LM d an.r y β K' h' p' k
      | e => k e K' h' p')
    | .cond c x y => match evalP K c with
      | some (.c (.sc (.bool b))) => bif b then evY P pl call m N jy yl ysp LS oo LM d an.l x β K h p k else evY P pl call m N jy yl ysp LS oo LM d an.r y β K h p k
      | _ => none
    | .block id x => evY P pl call m N jy yl ysp LS oo LM d an.l x β K h p (fun e K' h' p' => match e with
      | .exit id' => bif Nat.beq id' id then k .normal K' h' p' else k (.exit id') K' h' p'
      | e => k e K' h' p')
    | .loop x => match an, p with
      | .lp, none => match LS.dec m K h with
        | some s => ob (LM s) (fun t => outK (fun e K h => k e K h none) oo t)
        | none => none
      | _, _ => evRdY (fun K h p k => evY P pl call m N jy yl ysp LS oo LM d .no x β K h p k) 64 K h p k
    | _ => none
section
variable {P : Program} {m N jy l n : Nat} {S F : List Nat} {B : Option XT → World} {ρ0 : List Info}
/-- What is asked of yield. -/
def YlOk (P : Program) (n l : Nat) (S F : List Nat) (B : Option XT → World) (ρ0 : List Info) (yl : YlF) : Prop :=
  ∀ (β : Type) (args : List PV) (h : List Root) (k : Option XT → List Root → Option β) (x : β), yl β args h k = some x → ∀ (ρ : List Info) (vs : List Value) (W : World), Pre ρ0 ρ → DenArgs ρ args vs → HOk S F (B none) ρ h W →
    YieldAt Fence.wide n P l vs.toArray W (fun e w' => ∃ p ρ' h', e = .returned (.bool p.isNone) ∧ Pre ρ ρ' ∧ HOk S F (B p) ρ' h' w' ∧ k p h' = some x)
def LoopY (P : Program) (n N : Nat) (S F : List Nat) (B : Option XT → World) (ρ0 : List Info) (LS : Sch) (oo : Outs) (LM : LS.ty → Option (OutTy oo)) (x : Code) : Prop :=
  ∀ (s : LS.ty) (t : OutTy oo), LM s = some t → ∀ (ρ : List Info) (a : Act) (W : World), Pre ρ0 ρ → KOk N [] ρ (slEnc same LS.slots (LS.a s)) a → HOk S F (B none) ρ (rsEnc same LS.roots (LS.b s)) W → ∀ Q : Exit → Act → World → Prop,
    (∀ (ρ' : List Info) (a' : Act) (W' : World), Pre ρ0 ρ' → KOk N [] ρ' (outSt oo t).2.1 a' → HOk S F (B none) ρ' (outSt oo t).2.2 W' → Q (outSt oo t).1.out a' W') → ∃ i, Code.roundsIn (RFo none) n P x Q i a W
theorem preM_pre {ρ ρ' : List Info} (h : Pre ρ0 ρ) (hm : ρ0.length ≤ m) (h' : PreM m ρ ρ') : Pre ρ0 ρ' := fun j i e => h' j (Nat.lt_of_lt_of_le (List.getElem?_eq_some_iff.1 e).1 hm) i (h j i e)
theorem yldGo_ok {yl : YlF} (hY : YlOk P (n - 1) l S F B ρ0 yl) (hy : ∃ i, ρ0[jy]? = some i ∧ i.val = .func (.yield l) #[] #[]) {β : Type} {o : Oper} {K : Slo} {h : List Root} {p : Option XT} {k : Slo → List Root → Option XT → Option β} {x : β}
    (hr : yldGo jy N yl β o K h p k = some x) {ρ : List Info} {a : Act} {W : World} (hρ : Pre ρ0 ρ) (hK : KOk N [] ρ K a) (hh : HOk S F (B p) ρ h W) {Q : Exit → Act → World → Prop} {next : Act → World → Prop}
    (hn : ∀ p' ρ' K' h' a' W', Pre ρ ρ' → KOk N [] ρ' K' a' → HOk S F (B p') ρ' h' W' → k K' h' p' = some x → next a' W') : o.wpIn (RFo none) n P a W next Q := by
  unfold yldGo at hr
  split at hr
  · rename_i f args ts ho
    split at hr
    · rename_i i q hf hq
      cases hb : Nat.beq i jy with
      | false => rw [hb] at hr; cases hr
      | true =>
        rw [hb] at hr
        simp only [cond_true] at hr
        have hi := Nat.eq_of_beq_eq_true hb
        subst hi
        split at hr
        · obtain ⟨iy, h1, h2⟩ := hy
          obtain ⟨i2, h3, h4⟩ := evalP_ok hK hf
          have h5 := hρ _ _ h1
          rw [h5] at h3
          cases h3
          have hv : a.eval f = .func (.yield l) #[] #[] := by rw [← h2]; exact h4.1
          obtain ⟨fn, tmps, as, bd, h6, h7⟩ := hY β q h _ x hr ρ (args.map a.eval) W hρ (argsP_ok hK hq) hh
          refine ⟨fun _ _ => trivial, ?_⟩
          have hrun : (execOp a.eval o).run P W = .ok (.round l fn tmps as bd) W := by
            unfold execOp
            simp only [ho]
            simp [resolve, Deferred.ofValue, hv, invoke, Sem.run_bind, Result.andThen, h6]
          rw [semAt_val (fun d hd => by cases hd) hrun, Oper.uponIn_round]
          refine ⟨fun hd => by simp [RFo, Fence.wide] at hd, RoundIn.mono h7 ?_⟩
          rintro e w' ⟨p', ρ', h', rfl, e1, e2, e3⟩
          split at e3
          · rename_i K2 hK2
            exact hn p' ρ' K2 h' _ w' e1 (put_P (hK.mono e1) (v := .c (.sc (.bool p'.isNone))) (u := .bool p'.isNone) ⟨rfl, rfl⟩ hK2) e2 e3
          · cases e3
        · cases hr
    · cases hr
  · cases hr
theorem yldOp_ok {yl : YlF} (hY : YlOk P (n - 1) l S F B ρ0 yl) (hy : ∃ i, ρ0[jy]? = some i ∧ i.val = .func (.yield l) #[] #[]) {β : Type} {ops : Array Oper} {o : Oper} {K : Slo} {h : List Root} {p : Option XT} {k : Slo → List Root → Option XT → Option β} {x : β}
    (hr : yldOp ops jy N yl β o K h p k = some x) {ρ : List Info} {a : Act} {W : World} (hρ : Pre ρ0 ρ) (hK : KOk N [] ρ K a) (hh : HOk S F (B p) ρ h W) {Q : Exit → Act → World → Prop} {next : Act → World → Prop}
    (hn : ∀ p' ρ' K' h' a' W', Pre ρ ρ' → KOk N [] ρ' K' a' → HOk S F (B p') ρ' h' W' → k K' h' p' = some x → next a' W') :
    if Region.wanted o (yielded ops a.tmps) then o.wpIn (RFo none) n P a W next Q else (∀ f, o.about P W a.eval = some f → (RFo none).fn f) ∧ next (a.put o.dst undef) W := by
  unfold yldOp at hr
  rcases withGd_some hK hr with ⟨hw, K1, h1, h2, _, _⟩ | ⟨hw, K1, h1, h2, _, _⟩
  · rw [if_pos hw]
    exact yldGo_ok hY hy h1 hρ h2 hh hn
  · rw [if_neg (by rw [hw]; simp)]
    refine ⟨fun _ _ => trivial, ?_⟩
    split at h1
    · rename_i K2 hK2
      exact hn p ρ K2 h _ W (Pre.refl ρ) (put_P (v := .un) h2 rfl hK2) hh h1
    · cases h1
theorem wpListIn_app {ops : Array Oper} {Q : Exit → Act → World → Prop} {o : Oper} {os : List Oper} {a : Act} {W : World} (h : if Region.wanted o (yielded ops a.tmps) then o.wpIn (RFo none) n P a W (wpListIn (RFo none) n P ops Q os) Q else (∀ f, o.about P W a.eval = some f → (RFo none).fn f) ∧ wpListIn (RFo none) n P ops Q os (a.put o.dst undef) W) : wpListIn (RFo none) n P ops Q (o :: os) a W := by
  unfold wpListIn
  exact h
theorem evRdY_ok {β : Type} {u : Code} {body : Slo → List Root → Option XT → KontY β → Option β}
    (hb : ∀ (K : Slo) (h : List Root) (p : Option XT) (k : KontY β) (x : β), body K h p k = some x → ∀ (ρ : List Info) (a : Act) (W : World), Pre ρ0 ρ → KOk N [] ρ K a → HOk S F (B p) ρ h W → ∀ Q : Exit → Act → World → Prop,
      (∀ (e : XT) (ρ' : List Info) (K' : Slo) (h' : List Root) (p' : Option XT) (a' : Act) (W' : World), Pre ρ0 ρ' → k e K' h' p' = some x → KOk N [] ρ' K' a' → HOk S F (B p') ρ' h' W' → Q e.out a' W') → u.wpIn (RFo none) n P Q a W) :
    ∀ (i : Nat) (K : Slo) (h : List Root) (p : Option XT) (k : KontY β) (x : β), evRdY body i K h p k = some x → ∀ (ρ : List Info) (a : Act) (W : World), Pre ρ0 ρ → KOk N [] ρ K a → HOk S F (B p) ρ h W → ∀ Q : Exit → Act → World → Prop,
      (∀ (e : XT) (ρ' : List Info) (K' : Slo) (h' : List Root) (p' : Option XT) (a' : Act) (W' : World), Pre ρ0 ρ' → k e K' h' p' = some x → KOk N [] ρ' K' a' → HOk S F (B p') ρ' h' W' → Q e.out a' W') → Code.roundsIn (RFo none) n P u Q i a W
  | 0, _, _, _, _, _, hr => by cases hr
  | i + 1, K, h, p, k, x, hr => fun ρ a W hρ hK hh Q hn => by
    refine hb K h p _ x hr ρ a W hρ hK hh _ (fun e ρ' K' h' p' a' W' hp he hK' hh' => ?_)
    cases e with
    | normal => exact evRdY_ok hb i K' h' p' k x he ρ' a' W' hp hK' hh' Q hn
    | exit id => exact hn _ ρ' K' h' p' a' W' hp he hK' hh'
    | ret => exact hn _ ρ' K' h' p' a' W' hp he hK' hh'
theorem evY_ok {call : (β : Type) → CallF β} (hcall : ∀ β, CallOk P (call β)) (hmx : P.follows .mixedOrders = true) {pl : Nat → Option PT} {yl : YlF} (hY : YlOk P (n - 1) l S F B ρ0 yl) (hy : ∃ i, ρ0[jy]? = some i ∧ i.val = .func (.yield l) #[] #[]) (hm : ρ0.length ≤ m) {ysp : Nat → Option Nat} {LS : Sch} {oo : Outs} {LM : LS.ty → Option (OutTy oo)} :
    ∀ (d : Nat) (an : AY) (c : Code), AYok (LoopY P n N S F B ρ0 LS oo LM) an c → regsOk pl c = true → ∀ (β : Type) (K : Slo) (h : List Root) (p : Option XT) (k : KontY β) (x : β), evY P pl call m N jy yl ysp LS oo LM d an c β K h p k = some x →
    ∀ (ρ : List Info) (a : Act) (W : World), Pre ρ0 ρ → KOk N [] ρ K a → HOk S F (B p) ρ h W → ∀ Q : Exit → Act → World → Prop,
    (∀ (e : XT) (ρ' : List Info) (K' : Slo) (h' : List Root) (p' : Option XT) (a' : Act) (W' : World), Pre ρ0 ρ' → k e K' h' p' = some x → KOk N [] ρ' K' a' → HOk S F (B p') ρ' h' W' → Q e.out a' W') → c.wpIn (RFo none) n P Q a W
  | 0, _, _, _, _, _, _, _, _, _, _, hr => by cases hr
  | d + 1, an, c, hA, hreg, β, K, h, p, k, x, hr => fun ρ a W hρ hK hh Q hn => by
    cases c with
    | skip => exact wpIn_skip (hn .normal ρ K h p a W hρ hr hK hh)
    | exit id => exact wpIn_exit (hn (.exit id) ρ K h p a W hρ hr hK hh)
    | ret => exact wpIn_ret (hn .ret ρ K h p a W hρ hr hK hh)
    | region id ops draw =>
      cases draw with
      | false =>
        refine wpIn_region_list ?_
        simp only [evY] at hr
        split at hr
        · rename_i j hj
          have := evOps_okIn (P := P) (N := N) (ops := ops) (S := S) (F := F) (W0 := B p) (r := x) (ro := none) (n := n) (hcall β) (Q := Q) (ops.toList.drop j) (ops.toList.take j) ρ K h a W _ hr hK hh (fun a' w' hb => by
            obtain ⟨ρ', K', h', h1, h2, h3, h4⟩ := hb
            dsimp only at h4
            split at h4
            · rename_i o os hos
              rw [hos]
              have hw := yldOp_ok (ops := ops) (n := n) hY hy h4 (hρ.trans h1) h2 h3 (Q := Q) (next := wpListIn (RFo none) n P ops Q os) (fun p' ρ2 K2 h2' a2 w2 e1 e2 e3 e4 => by
                have := evOps_okIn (P := P) (N := N) (ops := ops) (S := S) (F := F) (W0 := B p') (r := x) (ro := none) (n := n) (hcall β) (Q := Q) [] os ρ2 K2 h2' a2 w2 _ e4 e2 e3 (fun a3 w3 hb3 => by
                  obtain ⟨ρ3, K3, h3', q1, q2, q3, q4⟩ := hb3
                  exact wpListIn_nil (hn .normal ρ3 K3 h3' p' a3 w3 (((hρ.trans h1).trans e1).trans q1) q4 q2 q3))
                simpa using this)
              exact wpListIn_app hw
            · cases h4)
          simpa using this
        · have := evOps_okIn (P := P) (N := N) (ops := ops) (S := S) (F := F) (W0 := B p) (r := x) (ro := none) (n := n) (hcall β) (Q := Q) [] ops.toList ρ K h a W _ hr hK hh (fun a' w' hb => by
            obtain ⟨ρ', K', h', h1, h2, h3, h4⟩ := hb
            exact wpListIn_nil (hn .normal ρ' K' h' p a' w' (hρ.trans h1) h4 h2 h3))
          simpa using this
      | true =>
        simp only [evY] at hr
        simp only [regsOk] at hreg
        split at hr
        · rename_i t ht
          rw [ht] at hreg
          exact wpIn_wide.2 (evDraw_ok (hcall β) hmx hreg hr hK hh (fun ρ' K' h' a' w' h1 h2 h3 h4 => hn .normal ρ' K' h' p a' w' (hρ.trans h1) h2 h3 h4))
        · cases hr
    | seq u v =>
      simp only [regsOk, Bool.and_eq_true] at hreg
      obtain ⟨hA1, hA2⟩ := hA.seq
      refine wpIn_seq (evY_ok hcall hmx hY hy hm d an.l u hA1 hreg.1 β K h p _ x hr ρ a W hρ hK hh _ (fun e ρ' K' h' p' a' w' hp he hK' hh' => ?_))
      cases e with
      | normal => exact evY_ok hcall hmx hY hy hm d an.r v hA2 hreg.2 β K' h' p' k x he ρ' a' w' hp hK' hh' Q hn
      | exit id => exact hn _ ρ' K' h' p' a' w' hp he hK' hh'
      | ret => exact hn _ ρ' K' h' p' a' w' hp he hK' hh'
    | cond c u v =>
      simp only [regsOk, Bool.and_eq_true] at hreg
      obtain ⟨hA1, hA2⟩ := hA.cond
      simp only [evY] at hr
      split at hr
      · rename_i b hc
        have hb : a.eval c = .bool b := (evalP_ok hK hc).1
        cases b with
        | true => exact wpIn_cond_true hb (evY_ok hcall hmx hY hy hm d an.l u hA1 hreg.1 β K h p k x hr ρ a W hρ hK hh Q hn)
        | false => exact wpIn_cond_false hb (evY_ok hcall hmx hY hy hm d an.r v hA2 hreg.2 β K h p k x hr ρ a W hρ hK hh Q hn)
      · cases hr
    | block id u =>
      refine wpIn_block (evY_ok hcall hmx hY hy hm d an.l u hA.block hreg β K h p _ x hr ρ a W hρ hK hh _ (fun e ρ' K' h' p' a' w' hp he hK' hh' => ?_))
      cases e with
      | normal => exact hn .normal ρ' K' h' p' a' w' hp he hK' hh'
      | exit id' =>
        show Exit.inBlock id Q (.exit id') a' w'
        dsimp only at he
        cases hb : Nat.beq id' id with
        | true =>
          rw [hb] at he
          have := Nat.eq_of_beq_eq_true hb
          subst this
          show (if id' = id' then Q .normal a' w' else Q (.exit id') a' w')
          rw [if_pos rfl]
          exact hn .normal ρ' K' h' p' a' w' hp he hK' hh'
        | false =>
          rw [hb] at he
          have hne := Nat.ne_of_beq_eq_false hb
          show (if id' = id then Q .normal a' w' else Q (.exit id') a' w')
          rw [if_neg hne]
          exact hn (.exit id') ρ' K' h' p' a' w' hp he hK' hh'
      | ret => exact hn .ret ρ' K' h' p' a' w' hp he hK' hh'
    | loop u =>
      simp only [evY] at hr
      split at hr
      · split at hr
        · rename_i s hs
          obtain ⟨t, ht, hk⟩ := ob_inv hr
          rw [outK_eq] at hk
          obtain ⟨ι, h2, h3, h4⟩ := Sch.dec_ok hs hK hh
          obtain ⟨i, h5⟩ := hA s t ht ι a W (preM_pre hρ hm h2) h3 h4 Q (fun ρ' a' W' hp hK' hh' => hn _ ρ' _ _ none a' W' hp hk hK' hh')
          exact wpIn_loop_rounds i h5
        · cases hr
      · exact wpIn_loop_rounds 64 (evRdY_ok (fun K h p k x hr => evY_ok hcall hmx hY hy hm d .no u trivial hreg β K h p k x hr) 64 K h p k x hr ρ a W hρ hK hh Q hn)
    | rangeFunc f q u v => cases hr
    | scope u => cases hr
    | label q => cases hr
    | goto q => cases hr
    | refuse s => cases hr
/-- The loop of the function that is ranged over, by its round. -/
theorem loopY_ok {call : (β : Type) → CallF β} (hcall : ∀ β, CallOk P (call β)) (hmx : P.follows .mixedOrders = true) {pl : Nat → Option PT} {yl : YlF} (hY : YlOk P (n - 1) l S F B ρ0 yl) (hy : ∃ i, ρ0[jy]? = some i ∧ i.val = .func (.yield l) #[] #[]) (hm : ρ0.length ≤ m) {ysp : Nat → Option Nat} {LS : Sch} {oo : Outs} {M : Nat → LS.ty → Option (OutTy oo)} {c : Code} (hreg : regsOk pl c = true) (h0 : ∀ s, M 0 s = none)
    (hs : ∀ (i : Nat) (s : LS.ty), M (i + 1) s = evY P pl call m N jy yl ysp sch0 [] lm0 300 .no c (OutTy oo) (slEnc same LS.slots (LS.a s)) (rsEnc same LS.roots (LS.b s)) none (fun e K h p => match p with
      | none => match e with
        | .normal => ob (LS.dec m K h) (fun s' => M i s')
        | e => decOut m oo e K h
      | some _ => none)) : ∀ i, LoopY P n N S F B ρ0 LS oo (M i) c := by
  have main : ∀ (i : Nat) (s : LS.ty) (t : OutTy oo), M i s = some t → ∀ (ρ : List Info) (a : Act) (W : World), Pre ρ0 ρ → KOk N [] ρ (slEnc same LS.slots (LS.a s)) a → HOk S F (B none) ρ (rsEnc same LS.roots (LS.b s)) W → ∀ Q : Exit → Act → World → Prop,
      (∀ (ρ' : List Info) (a' : Act) (W' : World), Pre ρ0 ρ' → KOk N [] ρ' (outSt oo t).2.1 a' → HOk S F (B none) ρ' (outSt oo t).2.2 W' → Q (outSt oo t).1.out a' W') → Code.roundsIn (RFo none) n P c Q i a W := by
    intro i
    induction i with
    | zero => intro s t ht; rw [h0] at ht; cases ht
    | succ i ih =>
      intro s t ht ρ a W hρ hK hh Q hn
      rw [hs] at ht
      refine evY_ok hcall hmx hY hy hm 300 .no c trivial hreg (OutTy oo) _ _ none _ t ht ρ a W hρ hK hh _ (fun e ρ' K' h' p' a' w' hp he hK' hh' => ?_)
      cases p' with
      | some _ => cases he
      | none =>
        cases e with
        | normal =>
          obtain ⟨s', h1, h2⟩ := ob_inv he
          obtain ⟨ι', h3, h4, h5⟩ := Sch.dec_ok h1 hK' hh'
          exact ih s' t h2 ι' a' w' (preM_pre hp hm h3) h4 h5 Q hn
        | exit id =>
          obtain ⟨h1, ι', h3, h4, h5⟩ := decOut_ok he hK' hh'
          have := hn ι' a' w' (preM_pre hp hm h3) h4 h5
          rw [h1] at this
          exact this
        | ret =>
          obtain ⟨h1, ι', h3, h4, h5⟩ := decOut_ok he hK' hh'
          have := hn ι' a' w' (preM_pre hp hm h3) h4 h5
          rw [h1] at this
          exact this
  exact fun i s t ht ρ a W hρ hK hh Q hn => ⟨i, main i s t ht ρ a W hρ hK hh Q hn⟩
end
end
end Go.Proofs.YteimbckgldkcgaaGreatDoor
