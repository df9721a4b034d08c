/- A part of the proof of the theorem of the last file. No condition. By an AI agent. -/
import Derived.Test.YtnomnijhlbalaaaGreatDoorWZW
namespace Go.Proofs.YtnomnijhlbalaaaGreatDoor
open Go.RowKit
section
variable {P : Program} {N : Nat} {D : List Deferred} {S F : List Nat} {W0 : World} {ops : Array Oper} {β : Type} {r : β} {call : xAT β} {Q : Exit -> Act -> World -> Prop} {k : Slo -> List Root -> Option β}
theorem xHM (hcall : xAS P call) (hsel : ∀ (j : Nat) (o : Oper) cs b, ops[j]? = some o -> o.op ≠ .select cs b) (hu : xHu ops = true) : ∀ t : PT, xJ7 P N D S F W0 ops call Q k r t
 | .done => xTC
 | .rd _ t => tree_rd hsel hu (xHM hcall hsel hu t)
 | .go _ _ t => tree_go hcall hsel hu (xHM hcall hsel hu t)
 | .both _ _ _ _ => fun _ _ _ _ _ _ _ _ _ _ _ he _ _ => by simp only [xDo] at he; cases he
theorem xFQ : ∀ (l : List Nat) (K : Slo) (t : Nat), lkP (xWS l K) t = if t ∈ l then none else lkP K t
 | [], K, t => by simp [xWS]
 | s :: l, K, t => by
  show lkP (delP (xWS l K) s) t = _;rw [xL4, xFQ l K t];by_cases h : t = s
  ·simp [h]
  ·simp [h]
theorem KOk.drop {ρ : List Info} {K : Slo} {a : Act} (hK : KOk N D ρ K a) (l : List Nat) : KOk N D ρ (xWS l K) a :=
 ⟨hK.1, hK.2.1, fun t p hp => by
  rw [xFQ] at hp;split at hp
  ·cases hp
  ·exact hK.2.2 t p hp⟩
theorem xFf (hcall : xAS P call) {t : PT} (hp : xKh ops t = true) {ρ : List Info} {K : Slo} {h : List Root} {a : Act} {w : World} (hr : xFg P N ops call t K h k = some r) (hK : KOk N D ρ K a) (hh : HOk S F W0 ρ h w) (hf : Fin N D S F W0 Q k r ρ) : wpAny P .any ops (Calm Q) ops.size (Array.replicate ops.size false) a { w with drawn := w.drawn + 1 } := by
 simp only [xKh, Bool.and_eq_true] at hp;obtain ⟨⟨hns, hu⟩, hp⟩ := hp;refine xGi (G := []) _ _ _ _ ?_;have := xHM (N := N) (S := S) (F := F) (W0 := W0) (Q := Q) (k := k) (r := r) hcall (Region.noSelect_spec hns) hu t (Array.replicate ops.size false) (Array.replicate ops.size false) [] [] [] ρ _ h a w.drew
  ⟨⟨by simp, by simp, fun j _ => by simp [inE]⟩, (fun j oj _ hl => by rw [getD_replicate_false] at hl; cases hl), (fun p hp => by cases hp), List.Pairwise.nil, hK.drop _, hh.drew, rfl, (fun p hp => by cases hp), fun j oj d hj hal hd _ => ?_⟩ hr hp hf
 ·rw [Array.toList_replicate, xXt] at this;exact this
 ·rw [xFQ, if_pos];exact List.mem_filterMap.2 ⟨oj, List.mem_filter.2 ⟨by simpa using Array.mem_of_getElem? hj, hal⟩, hd⟩
theorem xS1 (hcall : xAS P call) (hm : P.follows .mixedOrders = true) {t : PT} (hp : xKh ops t = true) {ρ : List Info} {K : Slo} {h : List Root} {a : Act} {w : World} {id : Nat} (hr : xFg P N ops call t K h k = some r) (hK : KOk N D ρ K a) (hh : HOk S F W0 ρ h w) (hf : Fin N D S F W0 Q k r ρ) : (Code.region id ops true).wp P Q a w :=
 Code.wp_mono (Q := Calm Q) (fun e a w q => by cases e <;> first | exact q | exact q.elim) (wp_region_any hm (xFf hcall hp hr hK hh hf))
theorem xSd (r : Nat) : ∀ (g : Nat) (l : List Oper), (xYb r g l).length = l.length
 | _, [] => by cases ‹Nat› <;> rfl
 | 0, _ :: _ => rfl
 | g + 1, _ :: l => congrArg (· + 1) (xSd r g l)
def oAft (r : Nat) (o : Oper) : Oper := { o with after := o.after.push ⟨r, .chain⟩ }
theorem xSe (r : Nat) : ∀ (g : Nat) (l : List Oper) (i : Nat), (xYb r g l)[i]? = if i = g then l[i]?.map (oAft r) else l[i]?
 | g, [], i => by cases g <;> simp [xYb]
 | 0, o :: l, 0 => by simp [xYb, oAft]
 | 0, o :: l, i + 1 => by simp [xYb]
 | g + 1, o :: l, 0 => by simp [xYb]
 | g + 1, o :: l, i + 1 => by simp [xYb, xSe r g l i]
theorem xGQ (ops : Array Oper) (g r i : Nat) : (xCm ops g r)[i]? = if i = g then ops[i]?.map (oAft r) else ops[i]? := by
 have h1 : (xCm ops g r)[i]? = (xYb r g ops.toList)[i]? := by simp [xCm]
 have h2 : ops[i]? = ops.toList[i]? := by simp
 rw [h1, h2, xSe]
theorem xP4 (ops : Array Oper) (g r : Nat) : (xCm ops g r).size = ops.size := by simp [xCm, xSd]
theorem xKk (ops : Array Oper) (g r : Nat) (tmps : Array Value) : yielded (xCm ops g r) tmps = yielded ops tmps := by
 funext j;have e : ((xCm ops g r)[j]?).bind (fun x => x.dst) = (ops[j]?).bind (fun x => x.dst) := by
  rw [xGQ];by_cases h : j = g
  ·rw [if_pos h]; cases ops[j]? <;> rfl
  ·rw [if_neg h]
 unfold yielded;rw [e]
theorem xX2 {g r i : Nat} {R : Exit -> Act -> World -> Prop} {X : Act -> World -> Prop} {a : Act} {w : World} (h : wpOp P (xCm ops g r) R i X a w) : wpOp P ops R i X a w := by
 unfold wpOp at h ⊢;rw [xGQ, xKk] at h;split at h
 ·rename_i hn;have : ops[i]? = none := by
   by_cases hi : i = g
   ·rw [if_pos hi] at hn; simpa using hn
   ·rwa [if_neg hi] at hn
  rw [this]; exact h
 ·rename_i o ho;by_cases hi : i = g
  ·rw [if_pos hi] at ho;obtain ⟨o', h1, h2⟩ := Option.map_eq_some_iff.1 ho;subst h2;rw [h1];exact h
  ·rw [if_neg hi] at ho;rw [ho]; exact h
theorem xHw {g r i : Nat} {L : Array Bool} : i ∈ Region.ready .any (xCm ops g r) L ↔ i ∈ Region.ready .any ops L /\ (i = g -> L.getD r false = true) := by
 simp only [mem_ready, xGQ];by_cases hi : i = g
 ·simp only [hi, if_true, true_implies];constructor
  ·rintro ⟨h1, o, h2, h3⟩
   obtain ⟨o', h4, h5⟩ := Option.map_eq_some_iff.1 h2;subst h5;exact ⟨⟨h1, o', h4, fun e he hb => h3 e (by simp [oAft, he]) hb⟩, h3 ⟨r, .chain⟩ (by simp [oAft]) rfl⟩
  ·rintro ⟨⟨h1, o, h2, h3⟩, h4⟩
   refine ⟨h1, oAft r o, by rw [h2]; rfl, fun e he hb => ?_⟩;have he' : e ∈ o.after \/ e = ⟨r, .chain⟩ := by simpa [oAft] using he
   rcases he' with he | rfl
   ·exact h3 e he hb
   ·exact h4
 ·simp only [hi, if_false, false_implies, and_true]
def ahead (r g : Nat) : List Nat -> Prop
 | [] => True
 | i :: l => i = r \/ (i ≠ g /\ ahead r g l)
theorem xSc {r g : Nat} (hne : r ≠ g) : ∀ l : List Nat, ahead r g l \/ ahead g r l
 | [] => .inl trivial
 | i :: l => by
  by_cases h1 : i = r
  ·exact .inl (.inl h1)
  ·by_cases h2 : i = g
   ·exact .inr (.inl h2)
   ·rcases xSc hne l with h | h
    ·exact .inl (.inr ⟨h2, h⟩)
    ·exact .inr (.inr ⟨h1, h⟩)
theorem xHv {r g : Nat} (hne : r ≠ g) {R : Exit -> Act -> World -> Prop} : ∀ (fuel t : Nat) (L : Array Bool) (a : Act) (w : World), ops.size <= L.size -> wpAny P .any (xCm ops g r) R fuel L a w -> (L.getD r false = true \/ ahead r g (Region.linearise.go .any ops fuel t L [])) -> wpOps P ops R (Region.linearise.go .any ops fuel t L []) a w := by
 intro fuel
 induction fuel with
 | zero => intro t L a w _ h _; simpa [Region.linearise.go, wpOps] using h.2
 | succ fuel ih =>
  intro t L a w hsz h hb;obtain ⟨h₀, h₁⟩ := h;simp only [Region.linearise.go] at hb ⊢;change wpOps P ops R (match (Region.ready .any ops L)[t % (Region.ready .any ops L).length]? with
   | some i => Region.linearise.go .any ops fuel (t / (Region.ready .any ops L).length) (L.setIfInBounds i true) [i]
   | none => [].reverse) a w
  change (L.getD r false = true \/ ahead r g (match (Region.ready .any ops L)[t % (Region.ready .any ops L).length]? with
   | some i => Region.linearise.go .any ops fuel (t / (Region.ready .any ops L).length) (L.setIfInBounds i true) [i]
   | none => [].reverse)) at hb
  cases hi : (Region.ready .any ops L)[t % (Region.ready .any ops L).length]? with
  | none =>
   have hnil : Region.ready .any ops L = [] := by
    cases hr : Region.ready .any ops L with
    | nil => rfl
    | cons x xs =>
     rw [hr] at hi;have hlt : t % (x :: xs).length < (x :: xs).length := Nat.mod_lt _ (by simp);simp at hi;simp at hlt;omega
   have hnil' : Region.ready .any (xCm ops g r) L = [] := by
    rw [List.eq_nil_iff_forall_not_mem];intro j hj;have := (xHw.1 hj).1;rw [hnil] at this; cases this
   simpa [wpOps] using h₀ hnil'
  | some i =>
   rw [hi] at hb;simp only [] at hb ⊢;rw [linearise_go_acc, List.reverse_singleton, List.singleton_append] at hb ⊢;rw [wpOps_cons];have hir := List.mem_of_getElem? hi;have hilt : i < L.size := Nat.lt_of_lt_of_le (xHV hir) hsz;have hrd : i ∈ Region.ready .any (xCm ops g r) L := xHw.2 ⟨hir, fun hig => by
    rcases hb with hb | hb | ⟨hb, _⟩
    ·exact hb
    ·exact absurd (hb.symm.trans hig) hne
    ·exact absurd hig hb⟩
   refine wpOp_mono (fun a w hx => ih _ _ a w (by simpa using hsz) hx ?_) (xX2 (h₁ i hrd));rcases hb with hb | hb | ⟨_, hb⟩
   ·left;by_cases hri : r = i
    ·subst hri; simp [hilt]
    ·rw [getD_set_ne _ (fun e => hri e.symm)]; exact hb
   ·left; subst hb; simp [hilt]
   ·exact .inr hb
theorem xJO (hcall : xAS P call) (hm : P.follows .mixedOrders = true) {t : PT} (hp : ptOk ops t = true) {ρ : List Info} {K : Slo} {h : List Root} {a : Act} {w : World} {id : Nat} (hr : xK8 P N ops call t K h k = some r) (hK : KOk N D ρ K a) (hh : HOk S F W0 ρ h w) (hf : Fin N D S F W0 Q k r ρ) : (Code.region id ops true).wp P Q a w := by
 unfold xK8 at hr;split at hr
 ·rename_i r0 g0 ta tb;simp only [ptOk, Bool.and_eq_true, Bool.not_eq_true'] at hp;obtain ⟨⟨hne, hp1⟩, hp2⟩ := hp;have hne' : r0 ≠ g0 := fun e => by rw [e, Nat.beq_refl] at hne; cases hne
  obtain ⟨hr1, hr2⟩ := xXE hr;have h1 := xFf hcall hp1 hr1 hK hh hf;have h2 := xFf hcall hp2 hr2 hK hh hf;rw [xP4] at h1 h2;refine Code.wp_mono (Q := Calm Q) (fun e a w q => by cases e <;> first | exact q | exact q.elim) (wp_region_draw fun t => ?_)
  simp only [Region.schedule, hm, Bool.true_or, if_true];rcases xSc hne' (Region.linearise.go .any ops ops.size t (Array.replicate ops.size false) []) with h3 | h3
  ·exact xHv hne' ops.size t _ a _ (by simp) h1 (.inr h3)
  ·exact xHv hne'.symm ops.size t _ a _ (by simp) h2 (.inr h3)
 ·rename_i t hnb;exact xS1 hcall hm (by
   unfold ptOk at hp;split at hp
   ·exact absurd rfl (hnb _ _ _ _)
   ·exact hp) hr hK hh hf
def EvOk (P : Program) (N : Nat) (D : List Deferred) (run : Slo -> List Root -> xFn β -> Option β) (c : Code) : Prop :=
 ∀ (K : Slo) (h : List Root) (k : xFn β) (r : β), run K h k = some r -> ∀ (S F : List Nat) (W0 : World) (ρ : List Info) (a : Act) (w : World), KOk N D ρ K a -> HOk S F W0 ρ h w -> ∀ Q : Exit -> Act -> World -> Prop,
  (∀ (e : XT) (ρ' : List Info) (K' : Slo) (h' : List Root) (a' : Act) (w' : World), Pre ρ ρ' -> k e K' h' = some r -> KOk N D ρ' K' a' -> HOk S F W0 ρ' h' w' -> Q e.out a' w') -> c.wp P Q a w
theorem xOv {x : Code} {body : Slo -> List Root -> xFn β -> Option β} (hb : EvOk P N D body x) : ∀ (n : Nat) (K : Slo) (h : List Root) (k : xFn β) (r : β), xOw body n K h k = some r -> ∀ (S F : List Nat) (W0 : World) (ρ : List Info) (a : Act) (w : World), KOk N D ρ K a -> HOk S F W0 ρ h w -> ∀ Q : Exit -> Act -> World -> Prop,
  (∀ (e : XT) (ρ' : List Info) (K' : Slo) (h' : List Root) (a' : Act) (w' : World), Pre ρ ρ' -> k e K' h' = some r -> KOk N D ρ' K' a' -> HOk S F W0 ρ' h' w' -> Q e.out a' w') -> Code.rounds P x Q n a w
 | 0, K, h, k, r, hr => by cases hr
 | n + 1, K, h, k, r, hr => fun S F W0 ρ a w hK hh Q hn => by
  refine hb K h _ r hr S F W0 ρ a w hK hh _ (fun e ρ' K' h' a' w' hp he hK' hh' => ?_)
  cases e with
  | normal => exact xOv hb n K' h' k r he S F W0 ρ' a' w' hK' hh' Q (fun e ρ2 K2 h2 a2 w2 hp2 => hn e ρ2 K2 h2 a2 w2 (hp.trans hp2))
  | exit id => exact hn _ ρ' K' h' a' w' hp he hK' hh'
  | ret => exact hn _ ρ' K' h' a' w' hp he hK' hh'
theorem xBU (hcall : xAS P call) (hm : P.follows .mixedOrders = true) (Fu : Nat) (pl : Nat -> Option PT) : ∀ (d : Nat) (c : Code), xAU pl c = true -> EvOk P N D (fun K h k => xDS P Fu pl call d N c K h k) c
 | 0, c, _ => fun K h k r hr => by cases hr
 | d + 1, c, hreg => fun K h k r hr S F W0 ρ a w hK hh Q hn => by
  cases c with
  | skip => exact wp_skip (hn .normal ρ K h a w (Pre.refl _) hr hK hh)
  | exit id => exact wp_exit (hn (.exit id) ρ K h a w (Pre.refl _) hr hK hh)
  | ret => exact wp_ret (hn .ret ρ K h a w (Pre.refl _) hr hK hh)
  | region id ops draw =>
   cases draw with
   | false =>
    refine wp_region_list ?_;have := xDM (P := P) (N := N) (ops := ops) (S := S) (F := F) (W0 := W0) (r := r) hcall (Q := Q) [] ops.toList ρ K h a w (k .normal) hr hK hh (fun a' w' hb => by
     obtain ⟨ρ', K', h', h1, h2, h3, h4⟩ := hb;exact wpList_nil (hn .normal ρ' K' h' a' w' h1 h4 h2 h3))
    simpa using this
   | true =>
    simp only [xDS] at hr;simp only [xAU] at hreg;split at hr
    ·rename_i t ht;rw [ht] at hreg;exact xJO hcall hm hreg hr hK hh (fun ρ' K' h' a' w' h1 h2 h3 h4 => hn .normal ρ' K' h' a' w' h1 h2 h3 h4)
    ·cases hr
  | seq x y =>
   simp only [xAU, Bool.and_eq_true] at hreg;refine wp_seq (xBU hcall hm Fu pl d x hreg.1 K h _ r hr S F W0 ρ a w hK hh _ (fun e ρ' K' h' a' w' hp he hK' hh' => ?_))
   cases e with
   | normal => exact xBU hcall hm Fu pl d y hreg.2 K' h' k r he S F W0 ρ' a' w' hK' hh' Q (fun e ρ2 K2 h2 a2 w2 hp2 => hn e ρ2 K2 h2 a2 w2 (hp.trans hp2))
   | exit id => exact hn _ ρ' K' h' a' w' hp he hK' hh'
   | ret => exact hn _ ρ' K' h' a' w' hp he hK' hh'
  | cond c x y =>
   simp only [xAU, Bool.and_eq_true] at hreg;simp only [xDS] at hr;split at hr
   ·rename_i b hc;have hb : a.eval c = .bool b := (xAa hK hc).1
    cases b with
    | true => exact wp_cond_true hb (xBU hcall hm Fu pl d x hreg.1 K h k r hr S F W0 ρ a w hK hh Q hn)
    | false => exact wp_cond_false hb (xBU hcall hm Fu pl d y hreg.2 K h k r hr S F W0 ρ a w hK hh Q hn)
   ·cases hr
  | block id x =>
   refine wp_block (xBU hcall hm Fu pl d x hreg K h _ r hr S F W0 ρ a w hK hh _ (fun e ρ' K' h' a' w' hp he hK' hh' => ?_))
   cases e with
   | normal => exact hn .normal ρ' K' h' a' w' hp he hK' hh'
   | exit id' =>
    show Exit.inBlock id Q (.exit id') a' w';dsimp only at he
    cases hb : Nat.beq id' id with
    | true =>
     rw [hb] at he;have := nbT hb;subst this;show (if id' = id' then Q .normal a' w' else Q (.exit id') a' w');rw [if_pos rfl];exact hn .normal ρ' K' h' a' w' hp he hK' hh'
    | false =>
     rw [hb] at he;have hne := Nat.ne_of_beq_eq_false hb;show (if id' = id then Q .normal a' w' else Q (.exit id') a' w');rw [if_neg hne];exact hn (.exit id') ρ' K' h' a' w' hp he hK' hh'
   | ret => exact hn .ret ρ' K' h' a' w' hp he hK' hh'
  | loop x =>
   exact wp_loop_rounds Fu (xOv (xBU hcall hm Fu pl d x hreg) Fu K h k r hr S F W0 ρ a w hK hh Q hn)
  | rangeFunc f p x y => cases hr
  | scope x => cases hr
  | label l => cases hr
  | goto l => cases hr
  | refuse s => cases hr
theorem xVy {α : Type} : ∀ {l : List (Nat × α)} {n : Nat} {x : α}, lkN l n = some x -> (n, x) ∈ l
 | [], n, x, h => by cases h
 | (i, y) :: l, n, x, h => by
  simp only [lkN] at h
  cases hb : Nat.beq i n with
  | true =>
   rw [hb] at h;have := nbT hb;subst this;cases h;simp
  | false => rw [hb] at h; exact List.mem_cons_of_mem _ (xVy h)
theorem xBJ : ∀ c : Code, xAU (fun _ => none) c = true
 | .skip => rfl
 | .region _ _ true => rfl
 | .region _ _ false => rfl
 | .seq x y => by simp [xAU, xBJ x, xBJ y]
 | .cond _ x y => by simp [xAU, xBJ x, xBJ y]
 | .block _ x => xBJ x
 | .loop x => xBJ x
 | .rangeFunc .. => rfl
 | .exit _ => rfl
 | .scope _ => rfl
 | .label _ => rfl
 | .goto _ => rfl
 | .ret => rfl
 | .refuse _ => rfl
theorem xPl {A : xFm} (hA : xEl P A) {f : Nat} {fn : Func} {c : Code} (hf : P.funcs[f]? = some fn) (hb : fn.body = some c) : xAU (xE4 A f) c = true := by
 unfold xE4;split
 ·rename_i l hl;have := hA _ (xVy hl);simp only [xAV, hf, hb] at this;exact this
 ·exact xBJ c
theorem xEs : ∀ (l : List PV) (i t : Nat) (p : PV), lkP (xX8 i l) t = some p -> i <= t /\ l[t - i]? = some p
 | [], i, t, p, h => by cases h
 | v :: l, i, t, p, h => by
  simp only [xX8, xBq] at h;by_cases hb : t = i
  ·subst hb;rw [if_pos rfl] at h;cases h;exact ⟨Nat.le_refl _, by simp⟩
  ·rw [if_neg hb] at h;obtain ⟨h1, h2⟩ := xEs l (i + 1) t p h;refine ⟨by omega, ?_⟩;rw [show t - i = (t - (i + 1)) + 1 by omega, List.getElem?_cons_succ];exact h2
theorem DenArgs.get {ρ : List Info} : ∀ {l : List PV} {vs : List Value} {j : Nat} {p : PV}, DenArgs ρ l vs -> l[j]? = some p -> ∃ v, vs[j]? = some v /\ DenP ρ p v
 | [], _, _, _, _, h => by simp at h
 | _ :: _, _, 0, _, ⟨v, r, e, h1, _⟩, h => by
  simp only [List.getElem?_cons_zero, Option.some.injEq] at h; subst h; exact ⟨v, by rw [e]; rfl, h1⟩
 | _ :: _, _, j + 1, _, ⟨v, r, e, _, h2⟩, h => by
  simp only [List.getElem?_cons_succ] at h;obtain ⟨u, h3, h4⟩ := h2.get h;exact ⟨u, by rw [e]; simpa using h3, h4⟩
theorem DenArgs.len {ρ : List Info} : ∀ {l : List PV} {vs : List Value}, DenArgs ρ l vs -> vs.length = l.length
 | [], _, h => by rw [h]; rfl
 | _ :: _, _, ⟨_, _, e, _, h⟩ => by rw [e]; simp [h.len]
def SumsOk (P : Program) (Sm : Sums) : Prop :=
 ∀ (f : FuncId) (args : List PV) (h : List Root) (v : PV) (news : List Root), Sm f args h = some (some (v, news)) -> ∀ (S F : List Nat) (W0 : World) (ρ : List Info) (w : World) (vs : List Value), DenArgs ρ args vs -> HOk S F W0 ρ h w -> xBa P f = true ->
  Calls P f vs.toArray w (fun e w' => ∃ ρ' u, e = .returned u /\ Pre ρ ρ' /\ DenP ρ' v u /\ HOk S F W0 ρ' (h ++ news) w' /\ Ext w w' /\ Feet ρ h w ρ' (h ++ news))
theorem xUZ : SumsOk P noSums := fun _ _ _ _ _ h => by cases h
theorem xOx (hm : P.follows .mixedOrders = true) (Fu : Nat) {A : xFm} (hA : xEl P A) {Sm : Sums} (hS : SumsOk P Sm) : ∀ d : Nat, xAS P (β := β) (xRR P Fu A Sm d)
 | 0 => fun f args h k r hr => by cases hr
 | d + 1 => fun f args h k r hr S F W0 ρ w vs hargs hh hcl => by
  simp only [xRR] at hr;split at hr
  ·rename_i rr hsm;split at hr
   ·rename_i v news;refine (hS f args h v news hsm S F W0 ρ w vs hargs hh hcl).mono fun e w' he => ?_;obtain ⟨ρ', u, rfl, h1, h2, h3, h4, h5⟩ := he;exact ⟨ρ', _, v, u, [], [], rfl, h1, h2, h3, hr, h4, by simp, fun q _ hq => List.getElem?_append_left hq, h5⟩
   ·cases hr
  split at hr
  ·rename_i fn hfn;split at hr
   ·rename_i c hc;have hsz : vs.toArray.size = args.length := by simpa using hargs.len
    refine calls_of_wp hfn hc (xBU (N := args.length + (fn.ntmps - args.length)) (xOx hm Fu hA hS d) hm Fu (xE4 A f) 10000 c (xPl hA hfn hc) _ _ _ r hr _ _ w ρ _ w ⟨by simp [hsz], rfl, fun t p hp => ?_⟩ (hh.enter (xA5 h args)) _ (fun e ρ' K' h' a' w' hp he hK' hh' => ?_))
    ·obtain ⟨_, h2⟩ := xEs _ _ _ _ hp;rw [Nat.sub_zero] at h2;obtain ⟨v, h3, h4⟩ := hargs.get h2;refine ⟨v, h4, ?_⟩;have hlt := (List.getElem?_eq_some_iff.1 h3).1;show (vs.toArray ++ Array.replicate (fn.ntmps - vs.toArray.size) undef)[t]? = some v;rw [Array.getElem?_append_left (by simpa using hlt)];simpa using h3
    ·have fin : (match xTj P K' h' fn.results.toList with
       | some v => k (xA5 h args) v (xEL (xA5 h args) h h' 0)
       | none => none) = some r -> a'.defers = [] /\ ∃ v, (results fn a'.tmps).run P w' = .ok v w' /\ ∃ ρ' h' v' u B t, Ending.returned v = .returned u /\ Pre ρ ρ' /\ DenP ρ' v' u /\ HOk S F W0 ρ' h' w' /\ k t v' h' = some r /\ Ex B w w' /\
       (∀ b ∈ B, ∃ p ∈ t, ∃ r i, h[p]? = some r /\ ρ[p]? = some i /\ own i r b) /\ (∀ q : Nat, q ∉ t -> q < h.length -> h'[q]? = h[q]?) /\ Feet ρ h w ρ' h' := by
      intro hm2;split at hm2
      ·rename_i v hv;obtain ⟨u, h1, h2⟩ := xIH hK' hh' hv;have hl : h.length <= h'.length := by rw [<- hh.len, <- hh'.len]; exact hp.len
       refine ⟨hK'.2.1, u, h2, ρ', _, v, u, _, xA5 h args, rfl, hp, h1, hh.merged _ (fun _ _ q1 q2 => xKA q1 q2) hp hh', hm2, hh'.ext, fun b hb => xAe.1 hb, fun q hq hlt => xIX _ h h' 0 q hl (by
        rw [Nat.zero_add]
        cases hb : (xA5 h args).any (Nat.beq q) with
        | false => rfl
        | true => exact absurd (xC7.1 hb) hq) hlt, fun q s j b hs hj hb => ?_⟩
       rcases xBj _ h h' 0 q s hl hs with ⟨g1, _⟩ | ⟨g1, _⟩
       ·rcases hh'.near q s j b g1 hj hb with g2 | g2 | g2
        ·exact .inl g2
        ·obtain ⟨p, _, r0, i0, g3, g4, g5⟩ := xAe.1 g2;exact .inr ⟨p, r0, i0, g3, g4, xAu g5⟩
        ·obtain ⟨p, _, r0, i0, g3, g4, g5⟩ := xAe.1 g2;exact .inr ⟨p, r0, i0, g3, g4, g5⟩
       ·obtain ⟨i0, g2⟩ := hh.info g1;have := hp _ _ g2;rw [hj] at this;cases this;exact .inr ⟨q, s, j, g1, g2, hb⟩
      ·cases hm2
     cases e with
     | normal => exact fin he
     | exit id => cases he
     | ret => exact fin he
   ·cases hr
  ·cases hr
end
noncomputable section
open Go.RowKit
inductive Kd where
 | sl (j k : Nat)
 | so (j k : Nat)
 | sp (j k : Nat)
 | sf (j k n : Nat)
 | pt (j k row c : Nat)
 | pr (j k c : Nat)
 | hv (j : Nat)
 | lit (v : Value)
 | any
@[reducible] def Kd.ty : Kd -> Type
 | .so _ _ => Nat
 | .sp _ _ => Nat × Nat
 | .pr _ _ _ => Nat
 | _ => Unit
def Kd.hasD : Kd -> Bool
 | .so _ _ => true
 | .sp _ _ => true
 | .pr _ _ _ => true
 | _ => false
def Kd.dflt : (κ : Kd) -> κ.ty
 | .so _ _ => (0 : Nat)
 | .sp _ _ => ((0, 0) : Nat × Nat)
 | .pr _ _ _ => (0 : Nat)
 | .sl _ _ => ()
 | .sf _ _ _ => ()
 | .pt _ _ _ _ => ()
 | .hv _ => ()
 | .lit _ => ()
 | .any => ()
@[reducible] def pTy (a b : Bool) (A B : Type) : Type :=
 match a, b with
 | false, _ => B
 | true, false => A
 | true, true => A × B
def pf {A B : Type} (d : A) : (a b : Bool) -> pTy a b A B -> A
 | false, _, _ => d
 | true, false, x => x
 | true, true, x => x.1
def ps {A B : Type} (d : B) : (a b : Bool) -> pTy a b A B -> B
 | false, _, x => x
 | true, false, _ => d
 | true, true, x => x.2
def pm {A B : Type} : (a b : Bool) -> A -> B -> pTy a b A B
 | false, _, _, y => y
 | true, false, x, _ => x
 | true, true, x, y => (x, y)
inductive Sg where
 | t (τ : TC)
 | k (κ : Kd)
@[reducible] def Sg.ty : Sg -> Type
 | .t τ => τ.ty
 | .k κ => κ.ty
def Sg.hasD : Sg -> Bool
 | .t _ => true
 | .k κ => κ.hasD
def Sg.dflt : (g : Sg) -> g.ty
 | .t τ => τ.dflt
 | .k κ => κ.dflt
def gsD : List Sg -> Bool
 | [] => false
 | g :: l => g.hasD || gsD l
@[reducible] def xOU : List Sg -> Type
 | [] => Unit
 | g :: l => pTy g.hasD (gsD l) g.ty (xOU l)
def xKa : (l : List Sg) -> xOU l
 | [] => ()
 | g :: l => pm g.hasD (gsD l) g.dflt (xKa l)
inductive PK where
 | c (g : Sg)
 | ag (l : List Sg)
@[reducible] def PK.ty : PK -> Type
 | .c g => g.ty
 | .ag l => xOU l
def PK.hasD : PK -> Bool
 | .c g => g.hasD
 | .ag l => gsD l
def PK.dflt : (p : PK) -> p.ty
 | .c g => g.dflt
 | .ag l => xKa l
def slD : List (Nat × PK) -> Bool
 | [] => false
 | p :: l => p.2.hasD || slD l
@[reducible] def xO8 : List (Nat × PK) -> Type
 | [] => Unit
 | p :: l => pTy p.2.hasD (slD l) p.2.ty (xO8 l)
def xYM : (l : List (Nat × PK)) -> xO8 l
 | [] => ()
 | p :: l => pm p.2.hasD (slD l) p.2.dflt (xYM l)
inductive RK where
 | dead
 | ro (τ : TC)
 | rows (T : TypeId) (τ : TC)
 | blk (T : TypeId) (l : List Sg)
 | clo (f : FuncId) (a b : List Sg)
 | mp (κ : KK) (agg : Bool) (τ : TC)
 | ars (t : Nat) (T : TypeId) (τ : TC)
 | aro (t : Nat) (T : TypeId) (τ : TC)
 | arm (t : Nat) (κ : KK) (agg : Bool) (τ : TC)
 | arr (t : Nat) (τ : TC)
@[reducible] def RK.ty : RK -> Type
 | .dead => Unit
 | .ro τ => List τ.ty
 | .rows _ τ => List τ.ty
 | .blk _ l => xOU l
 | .clo _ a b => pTy (gsD a) (gsD b) (xOU a) (xOU b)
 | .mp κ _ τ => List (κ.ty × τ.ty)
 | .ars _ _ τ => List (Option (List τ.ty))
 | .aro _ _ τ => List τ.ty
 | .arm _ κ _ τ => List (Option (List (κ.ty × τ.ty)))
 | .arr _ τ => List (List τ.ty)
def RK.hasD : RK -> Bool
 | .dead => false
 | .ro _ => true
 | .rows _ _ => true
 | .blk _ l => gsD l
 | .clo _ a b => gsD a || gsD b
 | _ => true
def RK.dflt : (r : RK) -> r.ty
 | .dead => ()
 | .ro _ => []
 | .rows _ _ => []
 | .blk _ l => xKa l
 | .clo _ a b => pm (gsD a) (gsD b) (xKa a) (xKa b)
 | .mp _ _ _ => ([] : List _)
 | .ars _ _ _ => ([] : List _)
 | .aro _ _ _ => ([] : List _)
 | .arm _ _ _ _ => ([] : List _)
 | .arr _ _ => ([] : List _)
def TC.tags : TC -> List Nat
 | .rf _ t => [t]
 | .pair a b => a.tags ++ b.tags
 | _ => []
def Sg.tags : Sg -> List Nat
 | .t τ => τ.tags
 | .k _ => []
def xHa (l : List Sg) : List Nat := l.flatMap Sg.tags
def PK.tags : PK -> List Nat
 | .c g => g.tags
 | .ag l => xHa l
def RK.tags : RK -> List Nat
 | .dead => []
 | .ro τ => τ.tags
 | .rows _ τ => τ.tags
 | .blk _ l => xHa l
 | .clo _ a b => xHa a ++ xHa b
 | .mp _ _ τ => τ.tags
 | .ars _ _ τ => τ.tags
 | .aro _ _ τ => τ.tags
 | .arm _ _ _ τ => τ.tags
 | .arr _ τ => τ.tags
def RK.tag : RK -> Option Nat
 | .ars t _ _ => some t
 | .aro t _ _ => some t
 | .arm t _ _ _ => some t
 | .arr t _ => some t
 | _ => none
def xIB (l : List (Nat × PK)) : List Nat := l.flatMap (fun p => p.2.tags)
def xCU (l : List RK) : List Nat := l.flatMap RK.tags
def xAP (ts : List Nat) (l : List RK) : Bool := ts.all (fun t => l.any (fun r => match r.tag with
 | some t' => Nat.beq t t'
 | none => false))
def rsD : List RK -> Bool
 | [] => false
 | r :: l => r.hasD || rsD l
@[reducible] def xGh : List RK -> Type
 | [] => Unit
 | r :: l => pTy r.hasD (rsD l) r.ty (xGh l)
def rsDf : (l : List RK) -> xGh l
 | [] => ()
 | r :: l => pm r.hasD (rsD l) r.dflt (rsDf l)
structure Sch where
 slots : List (Nat × PK)
 roots : List RK
@[reducible] def Sch.ty (s : Sch) : Type := pTy (slD s.slots) (rsD s.roots) (xO8 s.slots) (xGh s.roots)
def Sch.a (s : Sch) (x : s.ty) : xO8 s.slots := pf (xYM s.slots) (slD s.slots) (rsD s.roots) x
def Sch.b (s : Sch) (x : s.ty) : xGh s.roots := ps (rsDf s.roots) (slD s.slots) (rsD s.roots) x
def Kd.enc (ids : Nat -> Nat) : (κ : Kd) -> κ.ty -> CV
 | .sl j k, _ => .sl (ids j) k 0 none none
 | .so j k, off => .sl (ids j) k off none none
 | .sf j k n, _ => .sl (ids j) k 0 (some n) (some n)
 | .sp j k, (off, n) => .sl (ids j) k off (some n) none
 | .pt j k row c, _ => .pt (ids j) k row c
 | .pr j k c, row => .pt (ids j) k row c
 | .hv j, _ => .hv (ids j)
 | .lit v, _ => .sc v
 | .any, _ => .any
def Sg.enc (ids : Nat -> Nat) : (g : Sg) -> g.ty -> List CV
 | .t τ, x => τ.enc x
 | .k κ, x => [κ.enc ids x]
def xBX (ids : Nat -> Nat) : (l : List Sg) -> xOU l -> List CV
 | [], _ => []
 | g :: l, x => g.enc ids (pf g.dflt g.hasD (gsD l) x) ++ xBX ids l (ps (xKa l) g.hasD (gsD l) x)
def xZO : List CV -> CV
 | [] => .sc (.bool false)
 | c :: _ => c
def PK.enc (ids : Nat -> Nat) : (p : PK) -> p.ty -> PV
 | .c (.t τ), x => .c (xZO (τ.enc x))
 | .c (.k κ), x => .c (κ.enc ids x)
 | .ag l, x => .ag (xBX ids l x)
def xA2 (ids : Nat -> Nat) : (l : List (Nat × PK)) -> xO8 l -> Slo
 | [], _ => .nil
 | p :: l, x => xDr (xA2 ids l (ps (xYM l) p.2.hasD (slD l) x)) p.1 (p.2.enc ids (pf p.2.dflt p.2.hasD (slD l) x))
def RK.enc (ids : Nat -> Nat) : (r : RK) -> r.ty -> Root
 | .dead, _ => .dead
 | .ro τ, xs => .ro τ xs
 | .rows T τ, xs => .rows T τ xs
 | .blk T l, x => .blk (xBX ids l x) T
 | .clo f a b, x => .clo f (xBX ids a (pf (xKa a) (gsD a) (gsD b) x)) (xBX ids b (ps (xKa b) (gsD a) (gsD b) x))
 | .mp κ agg τ, ts => .mp κ agg τ ts
 | .ars t T τ, os => .ars t T τ os
 | .aro t T τ, os => .aro t T τ os
 | .arm t κ agg τ, os => .arm t κ agg τ os
 | .arr t τ, os => .arr t τ os
def xAn (ids : Nat -> Nat) : (l : List RK) -> xGh l -> List Root
 | [], _ => []
 | r :: l, x => r.enc ids (pf r.dflt r.hasD (rsD l) x) :: xAn ids l (ps (rsDf l) r.hasD (rsD l) x)
@[reducible] def same (j : Nat) : Nat := j
abbrev Rn := List (Option (Option Nat))
def castMO {κ κ' : KK} {τ τ' : TC} (e1 : κ = κ') (e2 : τ = τ') (os : List (Option (List (κ.ty × τ.ty)))) : List (Option (List (κ'.ty × τ'.ty))) := e1 ▸ e2 ▸ os
def xHJ (rn : Rn) (j : Nat) (x : Option Nat) : Option Rn :=
 match rn[j]? with
 | some none => some (rn.set j (some x))
 | some (some y) => match x, y with
  | none, none => some rn
  | some a, some b => bif Nat.beq a b then some rn else none
  | _, _ => none
 | none => none
def xZu : Value -> Value -> Bool
 | .pointer none, .pointer none => true
 | .slice none 0 0, .slice none 0 0 => true
 | .map none, .map none => true
 | .func (.func f) ⟨[]⟩ ⟨[]⟩, .func (.func g) ⟨[]⟩ ⟨[]⟩ => Nat.beq f g
 | .int k a, .int k' b => Nat.beq (kix k) (kix k') && (a == b)
 | .bool a, .bool b => a == b
 | .string a, .string b => a.data.toList == b.data.toList
 | _, _ => false
def Kd.dec (rn : Rn) : (κ : Kd) -> CV -> Option (κ.ty × Rn)
 | .sl j k, x => match x with
  | .sl id k' off n c => match off, n, c with
   | 0, none, none => bif Nat.beq k k' then (match xHJ rn j (some id) with
    | some rn' => some ((), rn')
    | none => none) else none
   | _, _, _ => none
  | .sc (.slice none 0 0) => match xHJ rn j none with
   | some rn' => some ((), rn')
   | none => none
  | _ => none
 | .sf j k n, x => match x with
  | .sl id k' off m c => match off, m, c with
   | 0, some m, some c => bif Nat.beq k k' && Nat.beq n m && Nat.beq n c then (match xHJ rn j (some id) with
    | some rn' => some ((), rn')
    | none => none) else none
   | _, _, _ => none
  | _ => none
 | .so j k, x => match x with
  | .sl id k' off n c => match n, c with
   | none, none => bif Nat.beq k k' then (match xHJ rn j (some id) with
    | some rn' => some (off, rn')
    | none => none) else none
   | _, _ => none
  | .sc (.slice none 0 0) => match xHJ rn j none with
   | some rn' => some (0, rn')
   | none => none
  | _ => none
 | .sp j k, x => match x with
  | .sl id k' off n c => match n, c with
   | some n, none => bif Nat.beq k k' then (match xHJ rn j (some id) with
    | some rn' => some ((off, n), rn')
    | none => none) else none
   | _, _ => none
  | _ => none
 | .pt j k row c, x => match x with
  | .pt id k' row' c' => bif Nat.beq k k' && Nat.beq row row' && Nat.beq c c' then (match xHJ rn j (some id) with
   | some rn' => some ((), rn')
   | none => none) else none
  | _ => none
 | .pr j k c, x => match x with
  | .pt id k' row c' => bif Nat.beq k k' && Nat.beq c c' then (match xHJ rn j (some id) with
   | some rn' => some (row, rn')
   | none => none) else none
  | _ => none
 | .hv j, x => match x with
  | .hv id => match xHJ rn j (some id) with
   | some rn' => some ((), rn')
   | none => none
  | _ => none
 | .lit v, x => match x with
  | .sc u => bif xZu v u then some ((), rn) else none
  | _ => none
 | .any, x => match x with
  | .sc _ => some ((), rn)
  | .any => some ((), rn)
  | _ => none
def Sg.dec (rn : Rn) : (g : Sg) -> List CV -> Option (g.ty × Rn × List CV)
 | .t τ, l => match τ.dec l with
  | some (x, r) => bif xAC τ then none else some (x, rn, r)
  | none => none
 | .k κ, l => match l with
  | c :: r => match κ.dec rn c with
   | some (x, rn') => some (x, rn', r)
   | none => none
  | [] => none
def xMf (rn : Rn) : (l : List Sg) -> List CV -> Option (xOU l × Rn)
 | [], cs => match cs with
  | [] => some ((), rn)
  | _ :: _ => none
 | g :: l, cs => match g.dec rn cs with
  | some (x, rn', r) => match xMf rn' l r with
   | some (y, rn2) => some (pm g.hasD (gsD l) x y, rn2)
   | none => none
  | none => none
def PK.dec (rn : Rn) : (p : PK) -> PV -> Option (p.ty × Rn)
 | .c g, v => match v with
  | .c x => match g.dec rn [x] with
   | some (y, rn', []) => some (y, rn')
   | _ => none
  | _ => none
 | .ag l, v => match v with
  | .ag cs => xMf rn l cs
  | _ => none
def xUh (rn : Rn) (K : Slo) : (l : List (Nat × PK)) -> Option (xO8 l × Rn)
 | [] => some ((), rn)
 | p :: l => match xUh rn K l with
  | some (y, rn') => match lkP K p.1 with
   | some v => match p.2.dec rn' v with
    | some (x, rn2) => some (pm p.2.hasD (slD l) x y, rn2)
    | none => none
   | none => none
  | none => none
def yAb {τ' τ : TC} (e : xFx τ' τ = true) (xs : List τ'.ty) : List τ.ty := xAD e ▸ xs
def castG {τ' τ : TC} (F : TC -> Type) (e : xFx τ' τ = true) (x : F τ') : F τ := xAD e ▸ x
def RK.dec (rn : Rn) : (r : RK) -> Root -> Option (r.ty × Rn)
 | .dead, _ => some ((), rn)
 | .ro τ, x => bif xAC τ then none else match x with
  | .rows _ τ' xs => if e : xFx τ' τ = true then some (yAb e xs, rn) else none
  | .ro τ' xs => if e : xFx τ' τ = true then some (yAb e xs, rn) else none
  | _ => none
 | .rows T τ, x => bif xAC τ then none else match x with
  | .rows T' τ' xs => bif Nat.beq T T' then (if e : xFx τ' τ = true then some (yAb e xs, rn) else none) else none
  | _ => none
 | .blk T l, x => match x with
  | .blk cs T' => bif Nat.beq T T' then xMf rn l cs else none
  | _ => none
 | .clo f a b, x => match x with
  | .clo f' as1 bs => bif Nat.beq f f' then (match xMf rn a as1 with
   | some (y, rn') => match xMf rn' b bs with
    | some (z, rn2) => some (pm (gsD a) (gsD b) y z, rn2)
    | none => none
   | none => none) else none
  | _ => none
 | .mp κ agg τ, x => bif xAC τ then none else match x with
  | .mp κ' agg' τ' ts => bif agg == agg' then (if e0 : kkEq κ' κ = true then (if e : xFx τ' τ = true then some (xTa (xCj e0) (xAD e) ts, rn) else none) else none) else none
  | _ => none
 | .ars t T τ, x => bif xAC τ then none else match x with
  | .ars t' T' τ' os => bif Nat.beq t t' && Nat.beq T T' then (if e : xFx τ' τ = true then some (castG (fun τ => List (Option (List τ.ty))) e os, rn) else none) else none
  | _ => none
 | .aro t T τ, x => bif xAC τ then none else match x with
  | .aro t' T' τ' os => bif Nat.beq t t' && Nat.beq T T' then (if e : xFx τ' τ = true then some (yAb e os, rn) else none) else none
  | _ => none
 | .arm t κ agg τ, x => bif xAC τ then none else match x with
  | .arm t' κ' agg' τ' os => bif Nat.beq t t' && (agg == agg') then (if e0 : kkEq κ' κ = true then (if e : xFx τ' τ = true then some (castMO (xCj e0) (xAD e) os, rn) else none) else none) else none
  | _ => none
 | .arr t τ, x => bif xAC τ then none else match x with
  | .arr t' τ' os => bif Nat.beq t t' then (if e : xFx τ' τ = true then some (castG (fun τ => List (List τ.ty)) e os, rn) else none) else none
  | _ => none
def RK.nil : (r : RK) -> Option r.ty
 | .dead => some ()
 | .ro τ => bif xAC τ then none else some []
 | .rows _ τ => bif xAC τ then none else bif Nat.beq τ.w 0 then none else some []
 | _ => none
def RK.gone : (r : RK) -> Option r.ty
 | .dead => some ()
 | _ => none
def xGp (rn : Rn) (h : List Root) : (l : List RK) -> Nat -> Option (xGh l × Rn)
 | [], _ => some ((), rn)
 | r :: l, j => match (match rn[j]? with
   | some (some (some id)) => (match h[id]? with
    | some x => r.dec rn x
    | none => none)
   | some (some none) => (match r.nil with
    | some x => some (x, rn)
    | none => none)
   | _ => (match r.gone with
    | some x => some (x, rn)
    | none => none)) with
  | some (x, rn') => match xGp rn' h l (j + 1) with
   | some (y, rn2) => some (pm r.hasD (rsD l) x y, rn2)
   | none => none
  | none => none
def rn0 : (m len j : Nat) -> Rn
 | _, 0, _ => []
 | 0, len + 1, j => none :: rn0 0 len (j + 1)
 | m + 1, len + 1, j => some (some j) :: rn0 m len (j + 1)
def idIn (id : Nat) : Rn -> Bool
 | [] => false
 | x :: rn => (match x with
  | some (some id') => Nat.beq id id'
  | _ => false) || idIn id rn
def xEP : Rn -> Bool
 | [] => true
 | x :: rn => (match x with
  | some (some id) => !idIn id rn
  | _ => true) && xEP rn
def xI3 : List RK -> Rn -> Rn
 | k :: l, x :: rn => (match k with
  | .dead => none
  | _ => x) :: xI3 l rn
 | _, _ => []
def xFk (h : List Root) : List RK -> Nat -> Rn -> Option Rn
 | [], _, rn => some rn
 | r :: l, j, rn => match r.tag with
  | none => xFk h l (j + 1) rn
  | some t => match rn[j]? with
   | some none => match xA7 t h 0 with
    | some (id, _) => match xHJ rn j (some id) with
     | some rn' => xFk h l (j + 1) rn'
     | none => none
    | none => none
   | some (some _) => xFk h l (j + 1) rn
   | none => none
def Sch.decR (s : Sch) (rn : Rn) (K : Slo) (h : List Root) : Option (s.ty × Rn) :=
 match xFk h s.roots 0 rn with
 | some rn => match xUh rn K s.slots with
  | some (x, rn') => match xGp rn' h s.roots 0 with
   | some (y, rn2) => bif xEP (xI3 s.roots rn2) && Nat.beq rn2.length s.roots.length && xAP (xIB s.slots ++ xCU s.roots) s.roots then some (pm (slD s.slots) (rsD s.roots) x y, rn2) else none
   | none => none
  | none => none
 | none => none
end
end Go.Proofs.YtnomnijhlbalaaaGreatDoor
