/- Code with places at which what is known is read off and laid again: joins, loops. No condition. -/
import Derived.Test.YtcbbhiobibhdnaaDoorWY2
namespace Go.Proofs.YtcbbhiobibhdnaaDoor
noncomputable section
open Go.RowKit
@[reducible] def ob {α β : Type} (x : Option α) (f : α → Option β) : Option β := Option.rec none f x
theorem xAd {α β : Type} (x : α) (f : α → Option β) : ob (some x) f = f x := rfl
theorem xE8 {α β : Type} {x : Option α} {f : α → Option β} {r : β} (h : ob x f = some r) : ∃ y, x = some y ∧ f y = some r := by
 cases x with
 | none => cases h
 | some y => exact ⟨y, rfl, h⟩
@[reducible] def su {α β γ : Type} (x : α ⊕ β) (f : α → γ) (g : β → γ) : γ := Sum.rec f g x
def Sch.dec (s : Sch) (m : Nat) (K : Slo) (h : List Root) : Option s.ty :=
 bif Nat.ble m s.roots.length then match s.decR (rn0 m s.roots.length 0) K h with
  | some (x, _) => some x
  | none => none
 else none
def PreM (m : Nat) (ρ ρ' : List Info) : Prop := ∀ j, j < m → ∀ i, ρ[j]? = some i → ρ'[j]? = some i
theorem PreM.refl (m : Nat) (ρ : List Info) : PreM m ρ ρ := fun _ _ _ h => h
theorem PreM.trans {m : Nat} {a b c : List Info} (h : PreM m a b) (k : PreM m b c) : PreM m a c := fun j hj i e => k j hj i (h j hj i e)
theorem Pre.m {m : Nat} {a b : List Info} (h : Pre a b) : PreM m a b := fun j _ i e => h j i e
theorem xLZ : ∀ (m len j q : Nat), q < m → m ≤ len → (rn0 m len j)[q]? = some (some (some (j + q)))
 | 0, _, _, _, h, _ => absurd h (Nat.not_lt_zero _)
 | m + 1, 0, _, _, _, h => by omega
 | m + 1, len + 1, j, 0, _, _ => by simp [rn0]
 | m + 1, len + 1, j, q + 1, h, hl => by
  simp only [rn0, List.getElem?_cons_succ]
  rw [xLZ m len (j + 1) q (by omega) (by omega)]
  congr 3; omega
theorem Sch.dec_ok {s : Sch} {m : Nat} {K : Slo} {h : List Root} {x : s.ty} (hd : s.dec m K h = some x) : ∀ {N : Nat} {D : List Deferred} {S F : List Nat} {W0 : World} {ρ : List Info} {a : Act} {w : World}, KOk N D ρ K a → HOk S F W0 ρ h w →
  ∃ ι, PreM m ρ ι ∧ KOk N D ι (xBm same s.slots (s.a x)) a ∧ HOk S F W0 ι (xAx same s.roots (s.b x)) w := by
 intro N D S F W0 ρ a w hK hh
 unfold Sch.dec at hd
 cases hb : Nat.ble m s.roots.length with
 | false => rw [hb] at hd; cases hd
 | true =>
  rw [hb] at hd
  simp only [cond_true] at hd
  split at hd
  ·rename_i y rn hy
   cases hd
   obtain ⟨h1, h2⟩ := Sch.decR_ok hy
   obtain ⟨h3, h4⟩ := h2 hK hh
   refine ⟨_, fun j hj i e => ?_, h3, h4⟩
   have := h1.2 j _ (xLZ m _ 0 j hj (Nat.le_of_ble_eq_true hb))
   rw [((Agr.mk rn ρ) j).1 _ this, Nat.zero_add, e]
   rfl
  ·cases hd
/-! Outcomes -/
def xtEq : XT → XT → Bool
 | .normal, .normal => true
 | .ret, .ret => true
 | .exit a, .exit b => Nat.beq a b
 | _, _ => false
theorem xOW {a b : XT} (h : xtEq a b = true) : a = b := by
 cases a <;> cases b <;> first | rfl | cases h | skip
 rw [Nat.eq_of_beq_eq_true h]
abbrev xDg := List (XT × Sch)
@[reducible] def xBO : xDg → Type
 | [] => Empty
 | [p] => p.2.ty
 | p :: q :: l => p.2.ty ⊕ xBO (q :: l)
def xEm (m : Nat) : (o : xDg) → XT → Slo → List Root → Option (xBO o)
 | [], _, _, _ => none
 | [p], e, K, h => bif xtEq p.1 e then p.2.dec m K h else none
 | p :: q :: l, e, K, h => bif xtEq p.1 e then (match p.2.dec m K h with
   | some x => some (.inl x)
   | none => none) else (match xEm m (q :: l) e K h with
   | some x => some (.inr x)
   | none => none)
def xCH : (o : xDg) → xBO o → XT × Slo × List Root
 | [p], x => (p.1, xBm same p.2.slots (p.2.a x), xAx same p.2.roots (p.2.b x))
 | p :: q :: l, x => match x with
  | .inl y => (p.1, xBm same p.2.slots (p.2.a y), xAx same p.2.roots (p.2.b y))
  | .inr z => xCH (q :: l) z
def outK {β : Type} (k : xF5 β) : (o : xDg) → xBO o → Option β
 | [], _ => none
 | [p], x => k p.1 (xBm same p.2.slots (p.2.a x)) (xAx same p.2.roots (p.2.b x))
 | p :: q :: l, x => su x (fun y => k p.1 (xBm same p.2.slots (p.2.a y)) (xAx same p.2.roots (p.2.b y))) (fun z => outK k (q :: l) z)
theorem xFM {β : Type} (k : xF5 β) : ∀ (o : xDg) (x : xBO o), outK k o x = k (xCH o x).1 (xCH o x).2.1 (xCH o x).2.2
 | [], x => nomatch x
 | [p], x => rfl
 | p :: q :: l, .inl y => rfl
 | p :: q :: l, .inr z => xFM k (q :: l) z
theorem xCF {m : Nat} : ∀ {o : xDg} {e : XT} {K : Slo} {h : List Root} {x : xBO o}, xEm m o e K h = some x → ∀ {N : Nat} {D : List Deferred} {S F : List Nat} {W0 : World} {ρ : List Info} {a : Act} {w : World}, KOk N D ρ K a → HOk S F W0 ρ h w →
  (xCH o x).1 = e ∧ ∃ ι, PreM m ρ ι ∧ KOk N D ι (xCH o x).2.1 a ∧ HOk S F W0 ι (xCH o x).2.2 w
 | [], _, _, _, x, _ => nomatch x
 | [p], e, K, h, x, hd => fun hK hh => by
  simp only [xEm] at hd
  cases hb : xtEq p.1 e with
  | false => rw [hb] at hd; cases hd
  | true => rw [hb] at hd; exact ⟨xOW hb, Sch.dec_ok hd hK hh⟩
 | p :: q :: l, e, K, h, x, hd => fun hK hh => by
  simp only [xEm] at hd
  cases hb : xtEq p.1 e with
  | true =>
   rw [hb] at hd
   simp only [cond_true] at hd
   split at hd
   ·rename_i y hy
    cases hd
    exact ⟨xOW hb, Sch.dec_ok hy hK hh⟩
   ·cases hd
  | false =>
   rw [hb] at hd
   simp only [cond_false] at hd
   split at hd
   ·rename_i y hy
    cases hd
    exact xCF hy hK hh
   ·cases hd
/-! Marks beside a code -/
inductive An where
 | no
 | two (a b : An)
 | one (a : An)
 | rnd (a b : An)
 | join (o : xDg) (a : An)
 | loop (S : Sch) (o : xDg) (M : S.ty → Option (xBO o))
def An.l : An → An
 | .two a _ => a
 | .one a => a
 | _ => .no
def An.r : An → An
 | .two _ b => b
 | _ => .no
/-- The note of a round of a loop. -/
def An.rd : An → Nat → An
 | .rnd a b, i => match i with
  | 0 => a
  | i + 1 => b.rd i
 | an, _ => an.l
def xDr {β : Type} (body : Nat → Slo → List Root → xF5 β → Option β) : Nat → Slo → List Root → xF5 β → Option β
 | 0, _, _, _ => none
 | n + 1, K, h, k => body n K h (fun e K' h' => match e with
  | .normal => xDr body n K' h' k
  | e => k e K' h')
def evA (P : Program) (Fu : Nat) (pl : Nat → Option PT) (call : (β : Type) → xAW β) (m N : Nat) : Nat → An → Code → (β : Type) → Slo → List Root → xF5 β → Option β
 | 0, _, _, _, _, _, _ => none
 | d + 1, an, c, β, K, h, k => match an with
  | .join o a => ob (evA P Fu pl call m N d a c (xBO o) K h (xEm m o)) (fun x => outK k o x)
  | .loop S o M => match c with
   | .loop _ => match S.dec m K h with
    | some s => ob (M s) (fun x => outK k o x)
    | none => none
   | _ => none
  | an => match c with
   | .skip => k .normal K h
   | .exit id => k (.exit id) K h
   | .ret => k .ret K h
   | .region _ ops false => xIt P N ops (call β) ops.toList K h (k .normal)
   | .region id ops true => match pl id with
    | some t => xHW P N ops (call β) t K h (k .normal)
    | none => none
   | .seq x y => evA P Fu pl call m N d an.l x β K h (fun e K' h' => match e with
    | .normal => evA P Fu pl call m N d an.r y β K' h' k
    | e => k e K' h')
   | .cond c x y => match xAt K c with
    | some (.c (.sc (.bool b))) => bif b then evA P Fu pl call m N d an.l x β K h k else evA P Fu pl call m N d an.r y β K h k
    | _ => none
   | .block id x => evA P Fu pl call m N d an.l x β K h (fun e K' h' => match e with
    | .exit id' => bif Nat.beq id' id then k .normal K' h' else k (.exit id') K' h'
    | e => k e K' h')
   | .loop x => xDr (fun n K h k => evA P Fu pl call m N d (an.rd (Fu - 1 - n)) x β K h k) Fu K h k
   | _ => none
def xBT (P : Program) (m N : Nat) (x : Code) (S : Sch) (o : xDg) (M : S.ty → Option (xBO o)) : Prop :=
 ∀ (s : S.ty) (y : xBO o), M s = some y → ∀ (D : List Deferred) (S' F : List Nat) (W0 : World) (ι : List Info) (a : Act) (w : World), KOk N D ι (xBm same S.slots (S.a s)) a → HOk S' F W0 ι (xAx same S.roots (S.b s)) w → ∀ Q : Exit → Act → World → Prop,
  (∀ (ι' : List Info) (a' : Act) (w' : World), PreM m ι ι' → KOk N D ι' (xCH o y).2.1 a' → HOk S' F W0 ι' (xCH o y).2.2 w' → Q (xCH o y).1.out a' w') → ∃ n, Code.rounds P x Q n a w
def AnOk (P : Program) (m N : Nat) : An → Code → Prop
 | .no, _ => True
 | .two a b, c => match c with
  | .seq x y => AnOk P m N a x ∧ AnOk P m N b y
  | .cond _ x y => AnOk P m N a x ∧ AnOk P m N b y
  | .block _ x => AnOk P m N a x
  | .loop x => AnOk P m N a x
  | _ => True
 | .one a, c => match c with
  | .seq x _ => AnOk P m N a x
  | .cond _ x _ => AnOk P m N a x
  | .block _ x => AnOk P m N a x
  | .loop x => AnOk P m N a x
  | _ => True
 | .rnd a b, c => match c with
  | .loop x => AnOk P m N a x ∧ AnOk P m N b (.loop x)
  | _ => True
 | .join _ a, c => AnOk P m N a c
 | .loop S o M, c => match c with
  | .loop x => xBT P m N x S o M
  | _ => True
section
variable {P : Program} {m N : Nat} {D : List Deferred}
theorem AnOk.seq {an : An} {x y : Code} (h : AnOk P m N an (.seq x y)) : AnOk P m N an.l x ∧ AnOk P m N an.r y := by
 cases an with
 | no => exact ⟨trivial, trivial⟩
 | two a b => exact h
 | one a => exact ⟨h, trivial⟩
 | rnd a b => exact ⟨trivial, trivial⟩
 | join o a => exact ⟨trivial, trivial⟩
 | loop S o M => exact ⟨trivial, trivial⟩
theorem AnOk.cond {an : An} {c : Operand} {x y : Code} (h : AnOk P m N an (.cond c x y)) : AnOk P m N an.l x ∧ AnOk P m N an.r y := by
 cases an with
 | no => exact ⟨trivial, trivial⟩
 | two a b => exact h
 | one a => exact ⟨h, trivial⟩
 | rnd a b => exact ⟨trivial, trivial⟩
 | join o a => exact ⟨trivial, trivial⟩
 | loop S o M => exact ⟨trivial, trivial⟩
theorem AnOk.block {an : An} {id : Nat} {x : Code} (h : AnOk P m N an (.block id x)) : AnOk P m N an.l x := by
 cases an with
 | no => trivial
 | two a b => exact h
 | one a => exact h
 | rnd a b => trivial
 | join o a => trivial
 | loop S o M => trivial
theorem AnOk.loop {x : Code} : ∀ {an : An}, AnOk P m N an (.loop x) → (∀ S o M, an ≠ .loop S o M) → ∀ i, AnOk P m N (an.rd i) x
 | .no, _, _, _ => trivial
 | .two a b, h, _, _ => h
 | .one a, h, _, _ => h
 | .rnd a b, h, hn, i => by
  cases i with
  | zero => exact h.1
  | succ i =>
   cases b with
   | loop S o M => exact trivial
   | no => exact AnOk.loop h.2 (fun _ _ _ e => by cases e) i
   | two a b => exact AnOk.loop h.2 (fun _ _ _ e => by cases e) i
   | one a => exact AnOk.loop h.2 (fun _ _ _ e => by cases e) i
   | rnd a b => exact AnOk.loop h.2 (fun _ _ _ e => by cases e) i
   | join o a => exact trivial
 | .join o a, _, _, _ => trivial
 | .loop S o M, _, hn, _ => absurd rfl (hn S o M)
def EvOkM (P : Program) (m N : Nat) (D : List Deferred) (β : Type) (run : Slo → List Root → xF5 β → Option β) (c : Code) : Prop :=
 ∀ (K : Slo) (h : List Root) (k : xF5 β) (r : β), run K h k = some r → ∀ (S F : List Nat) (W0 : World) (ρ : List Info) (a : Act) (w : World), KOk N D ρ K a → HOk S F W0 ρ h w → ∀ Q : Exit → Act → World → Prop,
  (∀ (e : XT) (ρ' : List Info) (K' : Slo) (h' : List Root) (a' : Act) (w' : World), PreM m ρ ρ' → k e K' h' = some r → KOk N D ρ' K' a' → HOk S F W0 ρ' h' w' → Q e.out a' w') → c.wp P Q a w
theorem xI3 {β : Type} {x : Code} {body : Nat → Slo → List Root → xF5 β → Option β} (hb : ∀ n, EvOkM P m N D β (body n) x) : ∀ (n : Nat) (K : Slo) (h : List Root) (k : xF5 β) (r : β), xDr body n K h k = some r → ∀ (S F : List Nat) (W0 : World) (ρ : List Info) (a : Act) (w : World), KOk N D ρ K a → HOk S F W0 ρ h w → ∀ Q : Exit → Act → World → Prop,
  (∀ (e : XT) (ρ' : List Info) (K' : Slo) (h' : List Root) (a' : Act) (w' : World), PreM m ρ ρ' → k e K' h' = some r → KOk N D ρ' K' a' → HOk S F W0 ρ' h' w' → Q e.out a' w') → Code.rounds P x Q n a w
 | 0, K, h, k, r, hr => by cases hr
 | n + 1, K, h, k, r, hr => fun S F W0 ρ a w hK hh Q hn => by
  refine hb n K h _ r hr S F W0 ρ a w hK hh _ (fun e ρ' K' h' a' w' hp he hK' hh' => ?_)
  cases e with
  | normal => exact xI3 hb n K' h' k r he S F W0 ρ' a' w' hK' hh' Q (fun e ρ2 K2 h2 a2 w2 hp2 => hn e ρ2 K2 h2 a2 w2 (hp.trans hp2))
  | exit id => exact hn _ ρ' K' h' a' w' hp he hK' hh'
  | ret => exact hn _ ρ' K' h' a' w' hp he hK' hh'
theorem xEl {call : (β : Type) → xAW β} (hcall : ∀ β, xA4 P (call β)) (hm : P.follows .mixedOrders = true) (Fu : Nat) (pl : Nat → Option PT) : ∀ (d : Nat) (an : An) (c : Code), AnOk P m N an c → xAU pl c = true → ∀ β : Type, EvOkM P m N D β (fun K h k => evA P Fu pl call m N d an c β K h k) c
 | 0, an, c, _, _, β => fun K h k r hr => by cases hr
 | d + 1, an, c, hA, hreg, β => fun K h k r hr S F W0 ρ a w hK hh Q hn => by
  have plain : (∀ S o M, an ≠ .loop S o M) → (match (generalizing := false) c with
   | .skip => k .normal K h
   | .exit id => k (.exit id) K h
   | .ret => k .ret K h
   | .region _ ops false => xIt P N ops (call β) ops.toList K h (k .normal)
   | .region id ops true => match pl id with
    | some t => xHW P N ops (call β) t K h (k .normal)
    | none => none
   | .seq x y => evA P Fu pl call m N d an.l x β K h (fun e K' h' => match e with
    | .normal => evA P Fu pl call m N d an.r y β K' h' k
    | e => k e K' h')
   | .cond c x y => match xAt K c with
    | some (.c (.sc (.bool b))) => bif b then evA P Fu pl call m N d an.l x β K h k else evA P Fu pl call m N d an.r y β K h k
    | _ => none
   | .block id x => evA P Fu pl call m N d an.l x β K h (fun e K' h' => match e with
    | .exit id' => bif Nat.beq id' id then k .normal K' h' else k (.exit id') K' h'
    | e => k e K' h')
   | .loop x => xDr (fun n K h k => evA P Fu pl call m N d (an.rd (Fu - 1 - n)) x β K h k) Fu K h k
   | _ => none) = some r → c.wp P Q a w := by
   intro hno hr
   cases c with
   | skip => exact wp_skip (hn .normal ρ K h a w (PreM.refl _ _) hr hK hh)
   | exit id => exact wp_exit (hn (.exit id) ρ K h a w (PreM.refl _ _) hr hK hh)
   | ret => exact wp_ret (hn .ret ρ K h a w (PreM.refl _ _) hr hK hh)
   | region id ops draw =>
    cases draw with
    | false =>
     refine wp_region_list ?_
     have := xKe (P := P) (N := N) (ops := ops) (S := S) (F := F) (W0 := W0) (r := r) (hcall β) (Q := Q) [] ops.toList ρ K h a w (k .normal) hr hK hh (fun a' w' hb => by
      obtain ⟨ρ', K', h', h1, h2, h3, h4⟩ := hb
      exact wpList_nil (hn .normal ρ' K' h' a' w' h1.m h4 h2 h3))
     simpa using this
    | true =>
     dsimp only at hr
     simp only [xAU] at hreg
     split at hr
     ·rename_i t ht
      rw [ht] at hreg
      exact xHV (hcall β) hm hreg hr hK hh (fun ρ' K' h' a' w' h1 h2 h3 h4 => hn .normal ρ' K' h' a' w' h1.m h2 h3 h4)
     ·cases hr
   | seq x y =>
    simp only [xAU, Bool.and_eq_true] at hreg
    obtain ⟨hA1, hA2⟩ := hA.seq
    refine wp_seq (xEl hcall hm Fu pl d an.l x hA1 hreg.1 β K h _ r hr S F W0 ρ a w hK hh _ (fun e ρ' K' h' a' w' hp he hK' hh' => ?_))
    cases e with
    | normal => exact xEl hcall hm Fu pl d an.r y hA2 hreg.2 β K' h' k r he S F W0 ρ' a' w' hK' hh' Q (fun e ρ2 K2 h2 a2 w2 hp2 => hn e ρ2 K2 h2 a2 w2 (hp.trans hp2))
    | exit id => exact hn _ ρ' K' h' a' w' hp he hK' hh'
    | ret => exact hn _ ρ' K' h' a' w' hp he hK' hh'
   | cond c x y =>
    simp only [xAU, Bool.and_eq_true] at hreg
    obtain ⟨hA1, hA2⟩ := hA.cond
    dsimp only at hr
    split at hr
    ·rename_i b hc
     have hb : a.eval c = .bool b := (xAb hK hc).1
     cases b with
     | true => exact wp_cond_true hb (xEl hcall hm Fu pl d an.l x hA1 hreg.1 β K h k r hr S F W0 ρ a w hK hh Q hn)
     | false => exact wp_cond_false hb (xEl hcall hm Fu pl d an.r y hA2 hreg.2 β K h k r hr S F W0 ρ a w hK hh Q hn)
    ·cases hr
   | block id x =>
    refine wp_block (xEl hcall hm Fu pl d an.l x hA.block hreg β K h _ r hr S F W0 ρ a w hK hh _ (fun e ρ' K' h' a' w' hp he hK' hh' => ?_))
    cases e with
    | normal => exact hn .normal ρ' K' h' a' w' hp he hK' hh'
    | exit id' =>
     show Exit.inBlock id Q (.exit id') a' w'
     dsimp only at he
     cases hb : Nat.beq id' id with
     | true =>
      rw [hb] at he
      have := Nat.eq_of_beq_eq_true hb
      subst this
      show (if id' = id' then Q .normal a' w' else Q (.exit id') a' w')
      rw [if_pos rfl]
      exact hn .normal ρ' K' h' a' w' hp he hK' hh'
     | false =>
      rw [hb] at he
      have hne := Nat.ne_of_beq_eq_false hb
      show (if id' = id then Q .normal a' w' else Q (.exit id') a' w')
      rw [if_neg hne]
      exact hn (.exit id') ρ' K' h' a' w' hp he hK' hh'
    | ret => exact hn .ret ρ' K' h' a' w' hp he hK' hh'
   | loop x =>
    exact wp_loop_rounds Fu (xI3 (fun n => xEl hcall hm Fu pl d (an.rd (Fu - 1 - n)) x (hA.loop hno (Fu - 1 - n)) hreg β) Fu K h k r hr S F W0 ρ a w hK hh Q hn)
   | rangeFunc f p x y => cases hr
   | scope x => cases hr
   | label l => cases hr
   | goto l => cases hr
   | refuse s => cases hr
  dsimp only [evA] at hr
  cases an with
  | no =>
   dsimp only at hr
   exact plain (fun _ _ _ e => by cases e) hr
  | two x y =>
   dsimp only at hr
   exact plain (fun _ _ _ e => by cases e) hr
  | one x =>
   dsimp only at hr
   exact plain (fun _ _ _ e => by cases e) hr
  | rnd x y =>
   dsimp only at hr
   exact plain (fun _ _ _ e => by cases e) hr
  | join o x =>
   obtain ⟨y, hy, hk⟩ := xE8 hr
   rw [xFM] at hk
   refine xEl hcall hm Fu pl d x c hA hreg (xBO o) K h (xEm m o) y hy S F W0 ρ a w hK hh Q (fun e ρ' K' h' a' w' hp he hK' hh' => ?_)
   obtain ⟨h1, ι, h2, h3, h4⟩ := xCF he hK' hh'
   rw [← h1]
   exact hn _ ι _ _ a' w' (hp.trans h2) hk h3 h4
  | loop T o M =>
   cases c with
   | loop x =>
    dsimp only at hr
    split at hr
    ·rename_i s hs
     obtain ⟨y, hy, hk⟩ := xE8 hr
     rw [xFM] at hk
     obtain ⟨ι, h2, h3, h4⟩ := Sch.dec_ok hs hK hh
     obtain ⟨n, h5⟩ := hA s y hy D S F W0 ι a w h3 h4 Q (fun ι' a' w' hp hK' hh' => hn _ ι' _ _ a' w' (h2.trans hp) hk hK' hh')
     exact wp_loop_rounds n h5
    ·cases hr
   | _ => cases hr
/-- A loop, by its round. -/
theorem xCD {call : (β : Type) → xAW β} (hcall : ∀ β, xA4 P (call β)) (hm : P.follows .mixedOrders = true) {Fu : Nat} {pl : Nat → Option PT} {d : Nat} {an : An} {x : Code} (hA : AnOk P m N an x) (hreg : xAU pl x = true) {S : Sch} {o : xDg} {M : Nat → S.ty → Option (xBO o)} (h0 : ∀ s, M 0 s = none)
  (hs : ∀ (n : Nat) (s : S.ty), M (n + 1) s = evA P Fu pl call m N d an x (xBO o) (xBm same S.slots (S.a s)) (xAx same S.roots (S.b s)) (fun e K h => match e with
   | .normal => ob (S.dec m K h) (fun s' => M n s')
   | e => xEm m o e K h)) : ∀ n, xBT P m N x S o (M n) := by
 have main : ∀ (n : Nat) (s : S.ty) (y : xBO o), M n s = some y → ∀ (D : List Deferred) (S' F : List Nat) (W0 : World) (ι : List Info) (a : Act) (w : World), KOk N D ι (xBm same S.slots (S.a s)) a → HOk S' F W0 ι (xAx same S.roots (S.b s)) w → ∀ Q : Exit → Act → World → Prop,
  (∀ (ι' : List Info) (a' : Act) (w' : World), PreM m ι ι' → KOk N D ι' (xCH o y).2.1 a' → HOk S' F W0 ι' (xCH o y).2.2 w' → Q (xCH o y).1.out a' w') → Code.rounds P x Q n a w := by
  intro n
  induction n with
  | zero => intro s y hy; rw [h0] at hy; cases hy
  | succ n ih =>
   intro s y hy D S' F W0 ι a w hK hh Q hn
   rw [hs] at hy
   refine xEl hcall hm Fu pl d an x hA hreg (xBO o) _ _ _ y hy S' F W0 ι a w hK hh _ (fun e ρ' K' h' a' w' hp he hK' hh' => ?_)
   cases e with
   | normal =>
    obtain ⟨s', h1, h2⟩ := xE8 he
    obtain ⟨ι', h3, h4, h5⟩ := Sch.dec_ok h1 hK' hh'
    exact ih s' y h2 D S' F W0 ι' a' w' h4 h5 Q (fun ι2 a2 w2 hp2 => hn ι2 a2 w2 (hp.trans (h3.trans hp2)))
   | exit id =>
    obtain ⟨h1, ι', h2, h3, h4⟩ := xCF he hK' hh'
    have := hn ι' a' w' (hp.trans h2) h3 h4
    rw [h1] at this
    exact this
   | ret =>
    obtain ⟨h1, ι', h2, h3, h4⟩ := xCF he hK' hh'
    have := hn ι' a' w' (hp.trans h2) h3 h4
    rw [h1] at this
    exact this
 exact fun n s y hy D S' F W0 ι a w hK hh Q hn => ⟨n, main n s y hy D S' F W0 ι a w hK hh Q hn⟩
end
end
end Go.Proofs.YtcbbhiobibhdnaaDoor
