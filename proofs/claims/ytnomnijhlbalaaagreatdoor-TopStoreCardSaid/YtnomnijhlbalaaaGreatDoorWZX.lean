/- A part of the proof of the theorem of the last file. No condition. By an AI agent. -/
import Derived.Test.YtnomnijhlbalaaaGreatDoorWZV
namespace Go.Proofs.YtnomnijhlbalaaaGreatDoor
open Go.RowKit
section
variable {P : Program} {N : Nat} {D : List Deferred} {S F : List Nat} {W0 : World} {ops : Array Oper} {β : Type} {r : β} {call : xAK β} {Q : Exit -> Act -> World -> Prop} {k : Slo -> List Root -> Option β}
def Fin (N : Nat) (D : List Deferred) (S F : List Nat) (W0 : World) (Q : Exit -> Act -> World -> Prop) (k : Slo -> List Root -> Option β) (r : β) (O : List Info) : Prop :=
 ∀ (O' : List Info) (K' : Slo) (h' : List Root) (a' : Act) (w' : World), Pre O O' -> k K' h' = some r -> KOk N D O' K' a' -> HOk S F W0 O' h' w' -> Q .normal a' w'
theorem Fin.mono {O O' : List Info} (hf : Fin N D S F W0 Q k r O) (hp : Pre O O') : Fin N D S F W0 Q k r O' := fun O2 K' h' a' w' h1 => hf O2 K' h' a' w' (hp.trans h1)
def xJa (P : Program) (N : Nat) (D : List Deferred) (S F : List Nat) (W0 : World) (ops : Array Oper) (call : xAK β) (Q : Exit -> Act -> World -> Prop) (k : Slo -> List Root -> Option β) (r : β) (t : PT) : Prop :=
 ∀ (c L : Array Bool) (E : Es) (Gd : Reads) (G : Gs) (O : List Info) (K : Slo) (h : List Root) (a : Act) (w : World), Inv P ops N D S F W0 c L E Gd G O K h a w -> xDA P N ops call t Gd K h k = some r -> ptGo ops t c = true -> Fin N D S F W0 Q k r O -> xDl P ops (Calm Q) G (cf L.toList) L a w
theorem xSe : xJa P N D S F W0 ops call Q k r .done := by
 intro c L E Gd G O K h a w hi he hp hf;have hrc : Region.ready .any ops c = [] := by simpa [ptGo] using hp
 have hE : E = [] := by
  cases E with
  | nil => rfl
  | cons p E => have := (hi.er p (by simp)).1; rw [hrc] at this; cases this
 subst hE;have hrl : Region.ready .any ops L = [] := by
  rw [List.eq_nil_iff_forall_not_mem];intro j hj;have hlt := xHv hj;have : j ∈ Region.ready .any ops c := by
   rw [mem_ready] at hj ⊢;obtain ⟨h0, o, ho, hall⟩ := hj;refine ⟨(hi.lo.unlisted h0).1, o, ho, fun e he hb => ?_⟩;have h1 := hall e he hb;have h2 := xII h1;rw [hi.lo.ls] at h2;rw [<- xFh (by rw [hi.lo.ls]; exact h2), hi.lo.eq _ h2] at h1;rw [<- xFh (by rw [hi.lo.cs]; exact h2)];simpa [inE] using h1
  rw [hrc] at this; cases this
 have hq : Q .normal a w := hf O K h a w (Pre.refl _) he hi.ko hi.ho
 cases cf L.toList with
 | zero => exact ⟨hrl, hq⟩
 | succ n => exact ⟨fun _ => hq, by rw [hrl]; simp⟩
theorem Inv.step {c L : Array Bool} {E : Es} {Gd : Reads} {G : Gs} {O : List Info} {K : Slo} {h : List Root} {a : Act} {w : World} (hsel : ∀ (j : Nat) (o : Oper) cs b, ops[j]? = some o -> o.op ≠ .select cs b) (hu : xG8 ops = true) (hi : Inv P ops N D S F W0 c L E Gd G O K h a w) {i : Nat} {oi : Oper} (hoi : ops[i]? = some oi) (hir : i ∈ Region.ready .any ops c) (hfr : Region.free .any ops c i = true) (hiE : inE E i = false)
  {O' : List Info} {K1 K' : Slo} {h' : List Root} {u : Value} {v : PV} {w' : World} {Gd' : Reads} {G' : Gs} {B : List Nat} (hp : Pre O O') (hK1 : ∀ d, lkP K d = none -> lkP K1 d = none) (hset : xHu N K1 oi.dst v = some K') (hK' : KOk N D O' K' (a.put oi.dst u)) (hh' : HOk S F W0 O' h' w') (hg' : GOk O' h' Gd' G') (hE : Ex B w w') (hB : ∀ b ∈ B, ∃ (p : Nat) (r : Root) (i : Info), h[p]? = some r /\ O[p]? = some i /\ foot i r b) (hft : Feet O h w O' h') :
  Inv P ops N D S F W0 (c.setIfInBounds i true) (L.setIfInBounds i true) E Gd' G' O' K' h' (a.put oi.dst u) w' := by
 have hirL := hi.lo.ready hir hiE;have hne : ∀ p ∈ E, p.1 ≠ i := fun p hp' e => by rw [xB7.2 ⟨p, hp', e⟩] at hiE; cases hiE
 refine ⟨hi.lo.canon i, xBd hi.cl hirL, fun p hp' => ⟨ready_mono (hi.er p hp').1 (hne p hp'), (hi.er p hp').2⟩, hi.nd, hK', hh', hg', fun p hp' => ?_, fun j oj d hj ha hd hun => ?_⟩
 ·have h0 := (hi.eo p hp').put hsel (oi := oi) (u := u) (xGw hoi hfr hir (hi.er p hp').1 (hne p hp'));obtain ⟨p1, p2⟩ := p
  cases p2 with
  | zero => exact h0
  | succ p2 =>
   have h1 : EOk P ops W0 O h (a.put oi.dst u) w p1 p2 := h0;have hnB : p2 ∉ B := fun hb => by
    obtain ⟨q, r', i', g1, g2, g3⟩ := hB _ hb;exact h1.apart q r' i' g1 g2 g3
   have h2 := h1.world hE hnB;refine (⟨h2.ex, h2.new, fun q r' i' g1 g2 g3 => ?_⟩ : EOk P ops W0 O' h' (a.put oi.dst u) w' p1 p2);rcases hft q r' i' p2 g1 g2 g3 with g4 | ⟨q0, r0, i0, g5, g6, g7⟩
   ·obtain ⟨_, _, _, _, _, _, _, g8, _⟩ := h1.ex;have := lt_of_block g8;omega
   ·exact h1.apart q0 r0 i0 g5 g6 g7
 ·rw [xCo] at hun;have hun' := Bool.or_eq_false_iff.1 hun;have hji : j ≠ i := fun e => by rw [e, Nat.beq_refl] at hun'; cases hun'.2
  exact xH9 hset ((xLE hu hj ha hd).2 i oi hoi (Ne.symm hji)) (hK1 d (hi.un j oj d hj ha hd hun'.1))
theorem tree_rd (hsel : ∀ (j : Nat) (o : Oper) cs b, ops[j]? = some o -> o.op ≠ .select cs b) (hu : xG8 ops = true) {i : Nat} {t : PT} (ih : xJa P N D S F W0 ops call Q k r t) : xJa P N D S F W0 ops call Q k r (.rd i t) := by
 intro c L E Gd G O K h a w hi he hp hf;simp only [ptGo, Bool.and_eq_true, Bool.not_eq_true'] at hp;obtain ⟨⟨⟨hir, hfr⟩, hna⟩, hp⟩ := hp;have hir' : i ∈ Region.ready .any ops c := by simpa using hir
 simp only [xDA] at he;split at he
 ·rename_i oi hoi;have hiE : inE E i = false := by
   cases hx : inE E i with
   | false => rfl
   | true =>
    obtain ⟨p, hp', e⟩ := xB7.1 hx;have := (hi.er p hp').2;rw [e, hna] at this; cases this
  have hirL := hi.lo.ready hir' hiE;have hfree : ∀ j oj, ops[j]? = some oj -> j ≠ i -> L.getD j true = false -> (∀ e ∈ oj.after, Region.binds .any e = true -> e.on ≠ i) -> oi.apart ops oj = true := fun j oj hj hne hun hno =>
   Region.free_spec hoi hfr j oj hj hne (hi.lo.unlisted hun).1 hno
  rw [<- xHG hirL];have key : ∀ (T : World -> Prop) (K1 K' : Slo) (u : Value) (v : PV) (ids : Option (List Nat)), YieldsIf P ops T oi u a -> T w -> (∀ d, lkP K d = none -> lkP K1 d = none) -> xHu N K1 oi.dst v = some K' -> KOk N D O K' (a.put oi.dst u) -> GOk O h (match ids with
    | some ids => (i, some ids) :: Gd
    | none => Gd) (match ids with
    | some _ => (i, T) :: G
    | none => G) -> xDA P N ops call t (match ids with
    | some ids => (i, some ids) :: Gd
    | none => Gd) K' h k = some r -> (ids = none -> T = fun _ => True) -> xDl P ops (Calm Q) G (cf (L.setIfInBounds i true).toList + 1) L a w := by
   intro T K1 K' u v ids hy hT hK1 hset hK' hg hev hids;have hi' := hi.step hsel hu hoi hir' hfr hiE (Pre.refl O) hK1 hset hK' hi.ho hg (Ex.refl [] w) (by simp) (Feet.refl w);have := ih _ _ _ _ _ _ _ _ _ _ hi' hev hp hf
   cases ids with
   | some ids => exact xGM hoi hsel (fun _ _ _ q => q) _ L a w hi.cl hfree hirL hy hT this
   | none =>
    refine xGM (T := T) hoi hsel (fun _ _ _ q => q) _ L a w hi.cl hfree hirL hy hT ?_;rw [hids rfl];exact xHK _ _ _ _ this
  rcases xCI hi.ko he with ⟨hw, K1, h1, h2, h3, _⟩ | ⟨hw, K1, h1, h2, h3, _⟩
  ·unfold opRd at h1;have hv := xHt (P := P) (o := oi) h2 hi.ho;have done : ∀ (u : Value) (v : PV), DenP O v u -> (∀ w', Agree (xGi K1 h oi) O h w w' -> (execOp a.eval oi).run P w' = .ok (.value u) w') -> (match xHu N K1 oi.dst v with
     | some K' => xDA P N ops call t ((i, some (xGi K1 h oi)) :: Gd) K' h k
     | none => none) = some r -> xDl P ops (Calm Q) G (cf (L.setIfInBounds i true).toList + 1) L a w := by
    intro u v hd hrun hm;split at hm
    ·rename_i K' hK';refine key (fun w' => ∀ b ∈ xAk .foot O h (xGi K1 h oi) ++ xIJ, w'.heap[b]? = w.heap[b]?) K1 K' u v (some (xGi K1 h oi)) (.inl ⟨hw, fun w' hT => hrun w' ⟨fun id hid r' i' b g1 g2 g3 => hT b (List.mem_append_left _ (xAc.2 ⟨id, hid, r', i', g1, g2, g3⟩)), fun b hb => hT b (List.mem_append_right _ hb)⟩⟩) (fun _ _ => rfl) h3 hK' (xFG h2 hd hK') ⟨_, G, ⟨rfl, fun w1 w2 hE hT b hb => ?_⟩, ⟨_, w, rfl, fun b hb => ?_⟩, hi.go⟩ hm (fun e => by cases e)
     ·have g4 : b < w.heap.size := by
       rcases List.mem_append.1 hb with hb | hb
       ·obtain ⟨id, hid, r', i', g1, g2, g3⟩ := xAc.1 hb;exact (hi.ho.ok id r' i' g1 g2).lt g3
       ·exact hi.ho.outW hb
      have g5 := hT b hb;have g6 : b < w1.heap.size := by
       rcases Nat.lt_or_ge b w1.heap.size with g | g
       ·exact g
       ·rw [Array.getElem?_eq_none g, Array.getElem?_eq_getElem g4] at g5; cases g5
      rw [hE.block b g6 (by simp)];exact g5
     rcases List.mem_append.1 hb with hb | hb
     ·obtain ⟨id, hid, r', i', g1, g2, g3⟩ := xAc.1 hb;exact .inr ⟨id, hid, r', i', g1, g2, g3⟩
     ·exact .inl hb
    ·cases hm
   split at h1
   ·rename_i g v hs;rw [hs] at hv;obtain ⟨h4, h5⟩ := xBE h1;obtain ⟨u, h6, h7⟩ := hv h4;exact done u v h6 h7 h5
   ·rename_i b x y hs;rw [hs] at hv;obtain ⟨u, h6, h7⟩ := hv
    cases b with
    | true => exact done u x h6 h7 h1
    | false => exact done u y h6 h7 h1
   ·cases h1
  ·obtain ⟨K', h4, h5⟩ := xB3 h1;exact key (fun _ => True) K1 K' undef .un none (.inr ⟨hw, rfl⟩) trivial h3 h4 (xFG (v := .un) h2 rfl h4) hi.go h5 (fun _ => rfl)
 ·cases he
theorem xXS {K : Slo} {h : List Root} {o : Oper} (ha : xBV o = true) : xHd P K h o = .stuck /\ ∀ f args, stepM P K h o ≠ .call f args := by
 rw [xQN ha];unfold xBV at ha;split at ha
 ·split at ha
  ·rename_i T ho;refine ⟨by unfold xHd; rw [ho], fun f args => ?_⟩;unfold xCO; rw [ho];dsimp only;split <;> simp
  ·rename_i T x ho;refine ⟨by unfold xHd; rw [ho], fun f args => ?_⟩;unfold xCO; rw [ho];dsimp only;split <;> simp
  ·rename_i t n parts ho;refine ⟨by unfold xHd; rw [ho], fun f args => ?_⟩;unfold xCO; rw [ho];dsimp only;unfold xB9;split
   ·split
    ·generalize (Nat.beq _ _ && Nat.beq _ _ && Nat.ble 1 _ && Nat.ble _ 16777216) = q;cases q
     ·simp
     ·dsimp only [cond_true];split
      ·split
       ·simp
       ·generalize Nat.beq _ _ = q2;cases q2
        ·simp
        ·dsimp only [cond_true];split <;> simp
      ·simp
    ·simp
   ·simp
  ·rename_i t l c ho;refine ⟨by unfold xHd; rw [ho], fun f args => ?_⟩;unfold xCO; rw [ho];dsimp only;unfold xRu;split
   ·split
    ·generalize (Nat.beq _ _ && xJw _ && Nat.beq _ _ && Nat.ble 1 _) = q;cases q
     ·simp
     ·dsimp only [cond_true];split
      ·generalize xRf l c = q2;cases q2
       ·dsimp only [cond_false];split <;> simp
       ·simp
      ·simp
    ·simp
   ·simp
  ·cases ha
 ·cases ha
theorem pw_ne : ∀ {E : Es}, E.Pairwise (fun p q => p.1 ≠ q.1 /\ (p.2 = q.2 -> p.2 = 0)) -> ∀ {p q : Nat × Nat}, p ∈ E -> q ∈ E -> p.1 ≠ q.1 -> p.2 = q.2 -> p.2 = 0
 | [], _, _, _, hp, _, _, _ => by cases hp
 | x :: E, h, p, q, hp, hq, hne, he => by
  obtain ⟨h1, h2⟩ := List.pairwise_cons.1 h;rcases List.mem_cons.1 hp with e1 | hp'
  ·rcases List.mem_cons.1 hq with e2 | hq'
   ·rw [e1, e2] at hne; exact absurd rfl hne
   ·rw [e1]; exact (h1 q hq').2 (by rw [<- e1]; exact he)
  ·rcases List.mem_cons.1 hq with e2 | hq'
   ·have := (h1 p hp').2 (by rw [<- e2]; exact he.symm);rw [he, e2]; exact this
   ·exact pw_ne h2 hp' hq' hne he
theorem xVW {w : World} {x y : Obj} (h : w.alloc x = w.alloc y) : x = y := by
 have h1 := xAq w x;rw [h, xAq] at h1;exact (Option.some.inj h1).symm
theorem xGN (hsel : ∀ (j : Nat) (o : Oper) cs b, ops[j]? = some o -> o.op ≠ .select cs b) (hu : xG8 ops = true) {i : Nat} {t : PT} (ih : xJa P N D S F W0 ops call Q k r t) {c L : Array Bool} {E : Es} {Gd : Reads} {G : Gs} {O : List Info} {K : Slo} {h : List Root} {a : Act} {w : World} (hi : Inv P ops N D S F W0 c L E Gd G O K h a w) {oi : Oper}
  (he : xJn ops K oi (fun K => xTF P N call (calm ops Gd i) K h oi (fun tt K' h' => xDA P N ops call t (xNK tt Gd) K' h' k)) (fun K => xDf N K oi .un h (fun K' h' => xDA P N ops call t Gd K' h' k)) = some r)
  (hp : ptGo ops t (c.setIfInBounds i true) = true) (hf : Fin N D S F W0 Q k r O) (hir : i ∈ Region.ready .any ops c) (hoi : ops[i]? = some oi) (hiE : inE E i = true) : xDl P ops (Calm Q) G (cf L.toList) L a w := by
 obtain ⟨⟨i', b⟩, hpE, hei⟩ := xB7.1 hiE;dsimp only at hei;subst hei;have hal : xBV oi = true := by simpa [opAt, hoi] using (hi.er _ hpE).2
 cases b with
 | zero =>
  obtain ⟨oe, d, k1, k2, k3, k4⟩ := (hi.eo _ hpE : ESk ops a i');rw [hoi] at k1; cases k1;rcases xCI hi.ko he with ⟨hw, K1, h1, h2, h3, h4⟩ | ⟨hw, K1, h1, h2, h3, h4⟩
  ·rw [k4] at hw; cases hw
  ·obtain ⟨K', h5, h6⟩ := xB3 h1;have hko : KOk N D O K' a := by
    rw [k2] at h5;simp only [xHu] at h5
    cases hb : Nat.ble (d + 1) N with
    | false => rw [hb] at h5; cases h5
    | true =>
     rw [hb] at h5;cases h5;exact h2.have (v := .un) (u := undef) rfl k3
   have hi' : Inv P ops N D S F W0 (c.setIfInBounds i' true) L (xOH i' E) Gd G O K' h a w := by
    have mem : ∀ p ∈ xOH i' E, p ∈ E /\ p.1 ≠ i' := fun p hp' => by
     obtain ⟨m1, m2⟩ := List.mem_filter.1 hp';exact ⟨m1, fun e => by rw [e, Nat.beq_refl] at m2; cases m2⟩
    refine ⟨hi.lo.stutter hiE, hi.cl, fun p hp' => ⟨ready_mono (hi.er p (mem p hp').1).1 (mem p hp').2, (hi.er p (mem p hp').1).2⟩, hi.nd.sublist List.filter_sublist, hko, hi.ho, hi.go, fun p hp' => hi.eo p (mem p hp').1, fun j oj d' hj ha hd hun => ?_⟩;rw [xCo] at hun;have hun' := Bool.or_eq_false_iff.1 hun;have hji : j ≠ i' := fun e => by rw [e, Nat.beq_refl] at hun'; cases hun'.2
    exact xH9 h5 ((xLE hu hj ha hd).2 i' oi hoi (Ne.symm hji)) (h3 _ (hi.un j oj d' hj ha hd hun'.1))
   exact ih _ _ _ _ _ _ _ _ _ _ hi' h6 hp hf
 | succ b =>
 have hE : EOk P ops W0 O h a w i' b := hi.eo _ hpE;obtain ⟨oe, d, obj, mk, g1, g2, g3, g4, g6, g5⟩ := hE.ex;rw [hoi] at g1; cases g1;rcases xCI hi.ko he with ⟨hw, K1, h1, h2, h3, h4⟩ | ⟨hw, K1, h1, h2, h3, h4⟩
 ·obtain ⟨hst, hnc⟩ := xXS (P := P) (K := K1) (h := h) hal;unfold xTF at h1;rw [hst] at h1;dsimp only at h1;split at h1
  ·rename_i gg v h' tt hs
   cases hok : calm ops Gd i' tt with
   | false => rw [hok] at h1; cases h1
   | true =>
    rw [hok] at h1;obtain ⟨h5, h6⟩ := xBE h1;obtain ⟨K', h7, h8⟩ := xB3 h6;obtain ⟨r1, info, mk1, obj1, e1, e2, e3⟩ := al_ok h2 hi.ho.len hal hs h5;have hobj : obj = obj1 := by
     have := (g5 w).symm.trans (e2 w);simp only [Result.ok.injEq] at this;exact xVW this.2
    have hmk : mk b = mk1 b := by
     have := (g5 { w with heap := Array.replicate b obj }).symm.trans (e2 { w with heap := Array.replicate b obj });simp only [Result.ok.injEq, Next.value.injEq, Array.size_replicate] at this;exact this.1
    subst hobj;subst e1;obtain ⟨q1, q2, q3, q4, q5⟩ := e3 w b g4;have hpre : Pre O (O ++ [info b]) := Pre.app _ _;have hho : HOk S F W0 (O ++ [info b]) (h ++ [r1]) w := by
     have := hi.ho.move h.length [b] (Ex.refl [b] w) (fun q s j c _ hs hj hc hcb => by
      rw [List.mem_singleton] at hcb;subst hcb;exact hE.apart q s j hs hj hc) (fun c hc => by
      rw [List.mem_singleton] at hc;subst hc;exact .inl hE.new) (info b) r1 q1 (fun c hc => .inr (by rw [q3 c hc]; simp)) q4 q5
     rwa [List.set_eq_of_length_le (Nat.le_refl _)] at this
    have hko : KOk N D (O ++ [info b]) K' a := by
     rw [g2] at h7;simp only [xHu] at h7
     cases hb : Nat.ble (d + 1) N with
     | false => rw [hb] at h7; cases h7
     | true =>
      rw [hb] at h7;cases h7;exact (h2.mono hpre).have q2 (by rw [<- hmk]; exact g3)
    have hi' : Inv P ops N D S F W0 (c.setIfInBounds i' true) L (xOH i' E) (xNK tt Gd) G (O ++ [info b]) K' (h ++ [r1]) a w := by
     have mem : ∀ p ∈ xOH i' E, p ∈ E /\ p.1 ≠ i' := fun p hp' => by
      obtain ⟨m1, m2⟩ := List.mem_filter.1 hp';exact ⟨m1, fun e => by rw [e, Nat.beq_refl] at m2; cases m2⟩
     refine ⟨hi.lo.stutter hiE, hi.cl, fun p hp' => ⟨ready_mono (hi.er p (mem p hp').1).1 (mem p hp').2, (hi.er p (mem p hp').1).2⟩, hi.nd.sublist List.filter_sublist, hko, hho, GOk.after hi.ho hpre (fun q _ hq => List.getElem?_append_left hq) hi.go, fun p hp' => ?_, fun j oj d' hj ha hd hun => ?_⟩
     ·obtain ⟨m1, m2⟩ := mem p hp';have h9' := hi.eo p m1;obtain ⟨p1, p2⟩ := p
      cases p2 with
      | zero => exact h9'
      | succ p2 =>
      have h9 : EOk P ops W0 O h a w p1 p2 := h9';refine (⟨h9.ex, h9.new, fun q r' i9 f1 f2 f3 => ?_⟩ : EOk P ops W0 (O ++ [info b]) (h ++ [r1]) a w p1 p2);rcases Nat.lt_or_ge q h.length with hq | hq
      ·rw [List.getElem?_append_left hq] at f1;rw [List.getElem?_append_left (by rw [hi.ho.len]; exact hq)] at f2;exact h9.apart q r' i9 f1 f2 f3
      ·have hlt := (List.getElem?_eq_some_iff.1 f1).1;simp at hlt;obtain rfl : q = h.length := by omega
       rw [List.getElem?_append_right (Nat.le_refl _)] at f1;have := xLd hi.ho.len f2;subst this;simp at f1;subst f1;exact absurd (pw_ne hi.nd m1 hpE m2 (by rw [q3 _ f3])) (by simp)
     ·rw [xCo] at hun;have hun' := Bool.or_eq_false_iff.1 hun;have hji : j ≠ i' := fun e => by rw [e, Nat.beq_refl] at hun'; cases hun'.2
      exact xH9 h7 ((xLE hu hj ha hd).2 i' oi hoi (Ne.symm hji)) (h3 _ (hi.un j oj d' hj ha hd hun'.1))
    exact ih _ _ _ _ _ _ _ _ _ _ hi' h8 hp (hf.mono hpre)
  ·rename_i f args hs; exact absurd hs (hnc f args)
  ·cases h1
 ·rw [g6] at hw; cases hw
theorem tree_go (hcall : xAJ P call) (hsel : ∀ (j : Nat) (o : Oper) cs b, ops[j]? = some o -> o.op ≠ .select cs b) (hu : xG8 ops = true) {i : Nat} {A : List Nat} {t : PT} (ih : xJa P N D S F W0 ops call Q k r t) : xJa P N D S F W0 ops call Q k r (.go i A t) := by
 intro c L0 E0 Gd G O K h a0 w0 hi0 he hp hf;simp only [ptGo, Bool.and_eq_true] at hp;obtain ⟨⟨⟨⟨⟨hir, hfr⟩, hon⟩, hA⟩, hall⟩, hp⟩ := hp;have hir' : i ∈ Region.ready .any ops c := by simpa using hir
 rw [List.all_eq_true] at hA hall;simp only [xDA] at he;split at he
 ·rename_i oi hoi;obtain ⟨he, hearly⟩ := xLt he
  suffices inner : ∀ (n : Nat) (L : Array Bool) (E : Es) (a : Act) (w : World), cf L.toList = n -> Inv P ops N D S F W0 c L E Gd G O K h a w -> xDl P ops (Calm Q) G n L a w from inner _ L0 E0 a0 w0 rfl hi0
  intro n
  induction n with
  | zero =>
   intro L E a w hn hi
   cases hiE : inE E i with
   | false => have := xHG (hi.lo.ready hir' hiE); omega
   | true => rw [<- hn]; exact xGN hsel hu ih hi he hp hf hir' hoi hiE
  | succ n ihn =>
   intro L E a w hn hi
   cases hiE : inE E i with
   | true => rw [<- hn]; exact xGN hsel hu ih hi he hp hf hir' hoi hiE
   | false =>
    have hirL := hi.lo.ready hir' hiE;have hcf := xHG hirL;refine ⟨fun h0 => (by rw [h0] at hirL; cases hirL), fun j hj => ?_⟩;by_cases hji : j = i
    ·subst hji;have hcf' : cf (L.setIfInBounds j true).toList = n := by omega
     rcases xCI hi.ko he with ⟨hw, K1, h1, h2, h3, _⟩ | ⟨hw, K1, h1, h2, h3, _⟩
     ·unfold wpOp;simp only [hoi, hw, if_true];refine .inl (xWZ hcall h2 hi.ho h1 (fun O' K' h' u v w' B tt q1 q2 q3 q4 q5 q6 q7 q8 q9 q10 => ⟨?_, ?_⟩))
      ·rcases q10 with q10 | q10
       ·exact xKe hi.ho q6 q7 hi.go q10
       ·subst q10; exact fun _ _ _ h => h
      ·have hi' := hi.step hsel hu hoi hir' hfr hiE q1 h3 q2 q3 q4 (GOk.after hi.ho q1 q8 hi.go) q6 (fun b hb => by
        obtain ⟨p, _, r', i', g1, g2, g3⟩ := q7 b hb;exact ⟨p, r', i', g1, g2, xAm g3⟩) q9
       have := ih _ _ _ _ _ _ _ _ _ _ hi' q5 hp (hf.mono q1);rwa [hcf'] at this
     ·unfold wpOp;simp only [hoi, hw, Bool.false_eq_true, if_false];obtain ⟨K', h4, h5⟩ := xB3 h1;refine ⟨fun _ _ _ h => h, ?_⟩;have hi' := hi.step hsel hu hoi hir' hfr hiE (Pre.refl O) h3 h4 (xFG (v := .un) h2 rfl h4) hi.ho hi.go (Ex.refl [] w) (by simp) (Feet.refl w);have := ih _ _ _ _ _ _ _ _ _ _ hi' h5 hp hf;rwa [hcf'] at this
    ·have hEA : ∀ p ∈ E, p.1 ∈ A := fun p hp' => by
      obtain ⟨g1, g2⟩ := hi.er p hp';have g3 := hall p.1 g1;rw [g2] at g3;have g4 : Nat.beq i p.1 = false := by
       cases hb : Nat.beq i p.1 with
       | false => rfl
       | true => rw [xB7.2 ⟨p, hp', (nbT hb).symm⟩] at hiE; cases hiE
      rw [g4] at g3;exact xDi.1 (by simpa using g3)
     have hjA := hi.lo.only hon hEA hj hji;have hAj := hA j hjA;simp only [Bool.and_eq_true] at hAj;obtain ⟨⟨⟨hjr, hjf⟩, hjal⟩, _⟩ := hAj;have hjr' : j ∈ Region.ready .any ops c := by simpa using hjr
     obtain ⟨oj, d, k1, k2, k3, k7⟩ := hearly j hjA;have hal : xBV oj = true := by simpa [opAt, k1] using hjal
     obtain ⟨hju, hjE⟩ := hi.lo.unlisted (mem_ready.1 hj).1;have hcfj := xHG hj;have hub := xLE hu k1 hal k2;rcases k7 with ⟨k7, g, v, h', k4, k5, k6⟩ | k7;rotate_left
     ·have hwant : Region.wanted oj (yielded ops a.tmps) = false := xUD hi.ko k7;unfold wpOp;simp only [k1, hwant, Bool.false_eq_true, if_false];refine ⟨fun _ _ _ h => h, ?_⟩;refine ihn _ ((j, 0) :: E) _ _ (by omega) ⟨hi.lo.early j _, xBd hi.cl hj, ?_, ?_, ?_, hi.ho, hi.go, ?_, hi.un⟩
      ·intro p hp';rcases List.mem_cons.1 hp' with rfl | hp'
       ·exact ⟨hjr', hjal⟩
       ·exact hi.er p hp'
      ·exact List.pairwise_cons.2 ⟨fun q hq => ⟨(fun e => by rw [xB7.2 ⟨q, hq, e.symm⟩] at hjE; cases hjE), fun _ => rfl⟩, hi.nd⟩
      ·rw [k2];exact hi.ko.other (hi.un j oj d k1 hal k2 hju) _
      ·intro p hp';rcases List.mem_cons.1 hp' with rfl | hp'
       ·refine (⟨oj, d, k1, k2, ?_, by rw [wanted_put oj a oj.dst _ (fun d' hd' => by rw [k2] at hd'; cases hd'; exact hub.1)]; exact hwant⟩ : ESk ops (a.put oj.dst undef) j);have hd : d < a.tmps.size := by rw [hi.ko.1]; exact k3
        rw [k2];simp [Act.put, hd]
       ·have hne : p.1 ≠ j := fun e => by rw [xB7.2 ⟨p, hp', e⟩] at hjE; cases hjE
        exact (hi.eo p hp').put hsel (oi := oj) (xGw k1 hjf hjr' (hi.er p hp').1 hne)
     obtain ⟨r1, info, mk, obj, _, hrun, _⟩ := al_ok hi.ko hi.ho.len hal k5 k6;have hwant : Region.wanted oj (yielded ops a.tmps) = true := xUD hi.ko k7;unfold wpOp;simp only [k1, hwant, if_true];refine .inl ?_;unfold Oper.wp;rw [hrun w, Oper.upon_value];refine ⟨GOk.ext (Ex.allocs w obj) hi.go, ?_⟩;refine ihn _ ((j, w.heap.size + 1) :: E) _ _ (by omega) ⟨hi.lo.early j _, xBd hi.cl hj, ?_, ?_, ?_, hi.ho.ext' (Ex.allocs w obj), hi.go, ?_, hi.un⟩
     ·intro p hp';rcases List.mem_cons.1 hp' with rfl | hp'
      ·exact ⟨hjr', hjal⟩
      ·exact hi.er p hp'
     ·refine List.pairwise_cons.2 ⟨fun q hq => ⟨fun e => ?_, fun e => ?_⟩, hi.nd⟩
      ·rw [xB7.2 ⟨q, hq, e.symm⟩] at hjE; cases hjE
      ·have h9 := hi.eo q hq;obtain ⟨q1, q2⟩ := q
       cases q2 with
       | zero => cases e
       | succ q2 =>
        obtain ⟨_, _, _, _, _, _, _, g8, _, _⟩ := (h9 : EOk P ops W0 O h a w q1 q2).ex;have := lt_of_block g8;have e' : w.heap.size + 1 = q2 + 1 := e;omega
     ·rw [k2];exact hi.ko.other (hi.un j oj d k1 hal k2 hju) _
     ·intro p hp';rcases List.mem_cons.1 hp' with rfl | hp'
      ·refine (⟨⟨oj, d, obj, mk, k1, k2, ?_, xAq w obj, by rw [wanted_put oj a oj.dst _ (fun d' hd' => by rw [k2] at hd'; cases hd'; exact hub.1)]; exact hwant, fun w2 => ?_⟩, hi.ho.ext.size, fun q r' i' g1 g2 g3 => ?_⟩ : EOk P ops W0 O h (a.put oj.dst (mk w.heap.size)) (w.alloc obj) j w.heap.size)
       ·have hd : d < a.tmps.size := by rw [hi.ko.1]; exact k3
        rw [k2];simp [Act.put, hd]
       ·rw [execOp_put oj (fun cs b => hsel j oj cs b k1) a oj.dst _ (fun d' hd' => by rw [k2] at hd'; cases hd'; exact hub.1)];exact hrun w2
       ·have := (hi.ho.ok q r' i' g1 g2).lt g3;have : w.heap.size < w.heap.size := this;omega
      ·have hne : p.1 ≠ j := fun e => by rw [xB7.2 ⟨p, hp', e⟩] at hjE; cases hjE
       have h9 := (hi.eo p hp').put hsel (oi := oj) (u := mk w.heap.size) (xGw k1 hjf hjr' (hi.er p hp').1 hne);obtain ⟨p1, p2⟩ := p
       cases p2 with
       | zero => exact h9
       | succ p2 => exact EOk.world (h9 : EOk P ops W0 O h (a.put oj.dst (mk w.heap.size)) w p1 p2) (Ex.allocs w obj) (by simp)
 ·cases he
end
section
variable {P : Program} {N : Nat} {D : List Deferred} {S F : List Nat} {W0 : World} {ops : Array Oper} {β : Type} {r : β} {call : xAK β} {Q : Exit -> Act -> World -> Prop} {k : Slo -> List Root -> Option β}
theorem xHn (hcall : xAJ P call) (hsel : ∀ (j : Nat) (o : Oper) cs b, ops[j]? = some o -> o.op ≠ .select cs b) (hu : xG8 ops = true) : ∀ t : PT, xJa P N D S F W0 ops call Q k r t
 | .done => xSe
 | .rd _ t => tree_rd hsel hu (xHn hcall hsel hu t)
 | .go _ _ t => tree_go hcall hsel hu (xHn hcall hsel hu t)
 | .both _ _ _ _ => fun _ _ _ _ _ _ _ _ _ _ _ he _ _ => by simp only [xDA] at he; cases he
theorem xFO : ∀ (l : List Nat) (K : Slo) (t : Nat), lkP (xUV l K) t = if t ∈ l then none else lkP K t
 | [], K, t => by simp [xUV]
 | s :: l, K, t => by
  show lkP (delP (xUV l K) s) t = _;rw [xK2, xFO l K t];by_cases h : t = s
  ·simp [h]
  ·simp [h]
theorem KOk.drop {O : List Info} {K : Slo} {a : Act} (hK : KOk N D O K a) (l : List Nat) : KOk N D O (xUV l K) a :=
 ⟨hK.1, hK.2.1, fun t p hp => by
  rw [xFO] at hp;split at hp
  ·cases hp
  ·exact hK.2.2 t p hp⟩
theorem xFk (hcall : xAJ P call) {t : PT} (hp : xJh ops t = true) {O : List Info} {K : Slo} {h : List Root} {a : Act} {w : World} (hr : xFl P N ops call t K h k = some r) (hK : KOk N D O K a) (hh : HOk S F W0 O h w) (hf : Fin N D S F W0 Q k r O) : wpAny P .any ops (Calm Q) ops.size (Array.replicate ops.size false) a { w with drawn := w.drawn + 1 } := by
 simp only [xJh, Bool.and_eq_true] at hp;obtain ⟨⟨hns, hu⟩, hp⟩ := hp;refine xGa (G := []) _ _ _ _ ?_;have := xHn (N := N) (S := S) (F := F) (W0 := W0) (Q := Q) (k := k) (r := r) hcall (Region.noSelect_spec hns) hu t (Array.replicate ops.size false) (Array.replicate ops.size false) [] [] [] O _ h a w.drew
  ⟨⟨by simp, by simp, fun j _ => by simp [inE]⟩, (fun j oj _ hl => by rw [getD_replicate_false] at hl; cases hl), (fun p hp => by cases hp), List.Pairwise.nil, hK.drop _, hh.drew, rfl, (fun p hp => by cases hp), fun j oj d hj hal hd _ => ?_⟩ hr hp hf
 ·rw [Array.toList_replicate, xVk] at this;exact this
 ·rw [xFO, if_pos];exact List.mem_filterMap.2 ⟨oj, List.mem_filter.2 ⟨by simpa using Array.mem_of_getElem? hj, hal⟩, hd⟩
theorem xRK (hcall : xAJ P call) (hm : P.follows .mixedOrders = true) {t : PT} (hp : xJh ops t = true) {O : List Info} {K : Slo} {h : List Root} {a : Act} {w : World} {id : Nat} (hr : xFl P N ops call t K h k = some r) (hK : KOk N D O K a) (hh : HOk S F W0 O h w) (hf : Fin N D S F W0 Q k r O) : (Code.region id ops true).wp P Q a w :=
 Code.wp_mono (Q := Calm Q) (fun e a w q => by cases e <;> first | exact q | exact q.elim) (wp_region_any hm (xFk hcall hp hr hK hh hf))
theorem xQP (r : Nat) : ∀ (g : Nat) (l : List Oper), (xV5 r g l).length = l.length
 | _, [] => by cases ‹Nat› <;> rfl
 | 0, _ :: _ => rfl
 | g + 1, _ :: l => congrArg (· + 1) (xQP r g l)
def oAft (r : Nat) (o : Oper) : Oper := { o with after := o.after.push ⟨r, .chain⟩ }
theorem xQQ (r : Nat) : ∀ (g : Nat) (l : List Oper) (i : Nat), (xV5 r g l)[i]? = if i = g then l[i]?.map (oAft r) else l[i]?
 | g, [], i => by cases g <;> simp [xV5]
 | 0, o :: l, 0 => by simp [xV5, oAft]
 | 0, o :: l, i + 1 => by simp [xV5]
 | g + 1, o :: l, 0 => by simp [xV5]
 | g + 1, o :: l, i + 1 => by simp [xV5, xQQ r g l i]
theorem xGL (ops : Array Oper) (g r i : Nat) : (xCt ops g r)[i]? = if i = g then ops[i]?.map (oAft r) else ops[i]? := by
 have h1 : (xCt ops g r)[i]? = (xV5 r g ops.toList)[i]? := by simp [xCt]
 have h2 : ops[i]? = ops.toList[i]? := by simp
 rw [h1, h2, xQQ]
theorem xOX (ops : Array Oper) (g r : Nat) : (xCt ops g r).size = ops.size := by simp [xCt, xQP]
theorem xJl (ops : Array Oper) (g r : Nat) (tmps : Array Value) : yielded (xCt ops g r) tmps = yielded ops tmps := by
 funext j;have e : ((xCt ops g r)[j]?).bind (fun x => x.dst) = (ops[j]?).bind (fun x => x.dst) := by
  rw [xGL];by_cases h : j = g
  ·rw [if_pos h]; cases ops[j]? <;> rfl
  ·rw [if_neg h]
 unfold yielded;rw [e]
theorem xVY {g r i : Nat} {R : Exit -> Act -> World -> Prop} {X : Act -> World -> Prop} {a : Act} {w : World} (h : wpOp P (xCt ops g r) R i X a w) : wpOp P ops R i X a w := by
 unfold wpOp at h ⊢;rw [xGL, xJl] at h;split at h
 ·rename_i hn;have : ops[i]? = none := by
   by_cases hi : i = g
   ·rw [if_pos hi] at hn; simpa using hn
   ·rwa [if_neg hi] at hn
  rw [this]; exact h
 ·rename_i o ho;by_cases hi : i = g
  ·rw [if_pos hi] at ho;obtain ⟨o', h1, h2⟩ := Option.map_eq_some_iff.1 ho;subst h2;rw [h1];exact h
  ·rw [if_neg hi] at ho;rw [ho]; exact h
theorem xHa {g r i : Nat} {L : Array Bool} : i ∈ Region.ready .any (xCt ops g r) L ↔ i ∈ Region.ready .any ops L /\ (i = g -> L.getD r false = true) := by
 simp only [mem_ready, xGL];by_cases hi : i = g
 ·simp only [hi, if_true, true_implies];constructor
  ·rintro ⟨h1, o, h2, h3⟩
   obtain ⟨o', h4, h5⟩ := Option.map_eq_some_iff.1 h2;subst h5;exact ⟨⟨h1, o', h4, fun e he hb => h3 e (by simp [oAft, he]) hb⟩, h3 ⟨r, .chain⟩ (by simp [oAft]) rfl⟩
  ·rintro ⟨⟨h1, o, h2, h3⟩, h4⟩
   refine ⟨h1, oAft r o, by rw [h2]; rfl, fun e he hb => ?_⟩;have he' : e ∈ o.after \/ e = ⟨r, .chain⟩ := by simpa [oAft] using he
   rcases he' with he | rfl
   ·exact h3 e he hb
   ·exact h4
 ·simp only [hi, if_false, false_implies, and_true]
def ahead (r g : Nat) : List Nat -> Prop
 | [] => True
 | i :: l => i = r \/ (i ≠ g /\ ahead r g l)
theorem xQO {r g : Nat} (hne : r ≠ g) : ∀ l : List Nat, ahead r g l \/ ahead g r l
 | [] => .inl trivial
 | i :: l => by
  by_cases h1 : i = r
  ·exact .inl (.inl h1)
  ·by_cases h2 : i = g
   ·exact .inr (.inl h2)
   ·rcases xQO hne l with h | h
    ·exact .inl (.inr ⟨h2, h⟩)
    ·exact .inr (.inr ⟨h1, h⟩)
theorem xG9 {r g : Nat} (hne : r ≠ g) {R : Exit -> Act -> World -> Prop} : ∀ (fuel t : Nat) (L : Array Bool) (a : Act) (w : World), ops.size <= L.size -> wpAny P .any (xCt ops g r) R fuel L a w -> (L.getD r false = true \/ ahead r g (Region.linearise.go .any ops fuel t L [])) -> wpOps P ops R (Region.linearise.go .any ops fuel t L []) a w := by
 intro fuel
 induction fuel with
 | zero => intro t L a w _ h _; simpa [Region.linearise.go, wpOps] using h.2
 | succ fuel ih =>
  intro t L a w hsz h hb;obtain ⟨h₀, h₁⟩ := h;simp only [Region.linearise.go] at hb ⊢;change wpOps P ops R (match (Region.ready .any ops L)[t % (Region.ready .any ops L).length]? with
   | some i => Region.linearise.go .any ops fuel (t / (Region.ready .any ops L).length) (L.setIfInBounds i true) [i]
   | none => [].reverse) a w
  change (L.getD r false = true \/ ahead r g (match (Region.ready .any ops L)[t % (Region.ready .any ops L).length]? with
   | some i => Region.linearise.go .any ops fuel (t / (Region.ready .any ops L).length) (L.setIfInBounds i true) [i]
   | none => [].reverse)) at hb
  cases hi : (Region.ready .any ops L)[t % (Region.ready .any ops L).length]? with
  | none =>
   have hnil : Region.ready .any ops L = [] := by
    cases hr : Region.ready .any ops L with
    | nil => rfl
    | cons x xs =>
     rw [hr] at hi;have hlt : t % (x :: xs).length < (x :: xs).length := Nat.mod_lt _ (by simp);simp at hi;simp at hlt;omega
   have hnil' : Region.ready .any (xCt ops g r) L = [] := by
    rw [List.eq_nil_iff_forall_not_mem];intro j hj;have := (xHa.1 hj).1;rw [hnil] at this; cases this
   simpa [wpOps] using h₀ hnil'
  | some i =>
   rw [hi] at hb;simp only [] at hb ⊢;rw [linearise_go_acc, List.reverse_singleton, List.singleton_append] at hb ⊢;rw [wpOps_cons];have hir := List.mem_of_getElem? hi;have hilt : i < L.size := Nat.lt_of_lt_of_le (xHv hir) hsz;have hrd : i ∈ Region.ready .any (xCt ops g r) L := xHa.2 ⟨hir, fun hig => by
    rcases hb with hb | hb | ⟨hb, _⟩
    ·exact hb
    ·exact absurd (hb.symm.trans hig) hne
    ·exact absurd hig hb⟩
   refine wpOp_mono (fun a w hx => ih _ _ a w (by simpa using hsz) hx ?_) (xVY (h₁ i hrd));rcases hb with hb | hb | ⟨_, hb⟩
   ·left;by_cases hri : r = i
    ·subst hri; simp [hilt]
    ·rw [getD_set_ne _ (fun e => hri e.symm)]; exact hb
   ·left; subst hb; simp [hilt]
   ·exact .inr hb
theorem xIQ (hcall : xAJ P call) (hm : P.follows .mixedOrders = true) {t : PT} (hp : ptOk ops t = true) {O : List Info} {K : Slo} {h : List Root} {a : Act} {w : World} {id : Nat} (hr : xJ7 P N ops call t K h k = some r) (hK : KOk N D O K a) (hh : HOk S F W0 O h w) (hf : Fin N D S F W0 Q k r O) : (Code.region id ops true).wp P Q a w := by
 unfold xJ7 at hr;split at hr
 ·rename_i r0 g0 ta tb;simp only [ptOk, Bool.and_eq_true, Bool.not_eq_true'] at hp;obtain ⟨⟨hne, hp1⟩, hp2⟩ := hp;have hne' : r0 ≠ g0 := fun e => by rw [e, Nat.beq_refl] at hne; cases hne
  obtain ⟨hr1, hr2⟩ := xVv hr;have h1 := xFk hcall hp1 hr1 hK hh hf;have h2 := xFk hcall hp2 hr2 hK hh hf;rw [xOX] at h1 h2;refine Code.wp_mono (Q := Calm Q) (fun e a w q => by cases e <;> first | exact q | exact q.elim) (wp_region_draw fun t => ?_)
  simp only [Region.schedule, hm, Bool.true_or, if_true];rcases xQO hne' (Region.linearise.go .any ops ops.size t (Array.replicate ops.size false) []) with h3 | h3
  ·exact xG9 hne' ops.size t _ a _ (by simp) h1 (.inr h3)
  ·exact xG9 hne'.symm ops.size t _ a _ (by simp) h2 (.inr h3)
 ·rename_i t hnb;exact xRK hcall hm (by
   unfold ptOk at hp;split at hp
   ·exact absurd rfl (hnb _ _ _ _)
   ·exact hp) hr hK hh hf
def EvOk (P : Program) (N : Nat) (D : List Deferred) (run : Slo -> List Root -> xFq β -> Option β) (c : Code) : Prop :=
 ∀ (K : Slo) (h : List Root) (k : xFq β) (r : β), run K h k = some r -> ∀ (S F : List Nat) (W0 : World) (O : List Info) (a : Act) (w : World), KOk N D O K a -> HOk S F W0 O h w -> ∀ Q : Exit -> Act -> World -> Prop,
  (∀ (e : XT) (O' : List Info) (K' : Slo) (h' : List Root) (a' : Act) (w' : World), Pre O O' -> k e K' h' = some r -> KOk N D O' K' a' -> HOk S F W0 O' h' w' -> Q e.out a' w') -> c.wp P Q a w
theorem xNi {x : Code} {body : Slo -> List Root -> xFq β -> Option β} (hb : EvOk P N D body x) : ∀ (n : Nat) (K : Slo) (h : List Root) (k : xFq β) (r : β), xNj body n K h k = some r -> ∀ (S F : List Nat) (W0 : World) (O : List Info) (a : Act) (w : World), KOk N D O K a -> HOk S F W0 O h w -> ∀ Q : Exit -> Act -> World -> Prop,
  (∀ (e : XT) (O' : List Info) (K' : Slo) (h' : List Root) (a' : Act) (w' : World), Pre O O' -> k e K' h' = some r -> KOk N D O' K' a' -> HOk S F W0 O' h' w' -> Q e.out a' w') -> Code.rounds P x Q n a w
 | 0, K, h, k, r, hr => by cases hr
 | n + 1, K, h, k, r, hr => fun S F W0 O a w hK hh Q hn => by
  refine hb K h _ r hr S F W0 O a w hK hh _ (fun e O' K' h' a' w' hp he hK' hh' => ?_)
  cases e with
  | normal => exact xNi hb n K' h' k r he S F W0 O' a' w' hK' hh' Q (fun e O2 K2 h2 a2 w2 hp2 => hn e O2 K2 h2 a2 w2 (hp.trans hp2))
  | exit id => exact hn _ O' K' h' a' w' hp he hK' hh'
  | ret => exact hn _ O' K' h' a' w' hp he hK' hh'
theorem xBU (hcall : xAJ P call) (hm : P.follows .mixedOrders = true) (Fu : Nat) (pl : Nat -> Option PT) : ∀ (d : Nat) (c : Code), xAL pl c = true -> EvOk P N D (fun K h k => xD6 P Fu pl call d N c K h k) c
 | 0, c, _ => fun K h k r hr => by cases hr
 | d + 1, c, hreg => fun K h k r hr S F W0 O a w hK hh Q hn => by
  cases c with
  | skip => exact wp_skip (hn .normal O K h a w (Pre.refl _) hr hK hh)
  | exit id => exact wp_exit (hn (.exit id) O K h a w (Pre.refl _) hr hK hh)
  | ret => exact wp_ret (hn .ret O K h a w (Pre.refl _) hr hK hh)
  | region id ops draw =>
   cases draw with
   | false =>
    refine wp_region_list ?_;have := xD2 (P := P) (N := N) (ops := ops) (S := S) (F := F) (W0 := W0) (r := r) hcall (Q := Q) [] ops.toList O K h a w (k .normal) hr hK hh (fun a' w' hb => by
     obtain ⟨O', K', h', h1, h2, h3, h4⟩ := hb;exact wpList_nil (hn .normal O' K' h' a' w' h1 h4 h2 h3))
    simpa using this
   | true =>
    simp only [xD6] at hr;simp only [xAL] at hreg;split at hr
    ·rename_i t ht;rw [ht] at hreg;exact xIQ hcall hm hreg hr hK hh (fun O' K' h' a' w' h1 h2 h3 h4 => hn .normal O' K' h' a' w' h1 h2 h3 h4)
    ·cases hr
  | seq x y =>
   simp only [xAL, Bool.and_eq_true] at hreg;refine wp_seq (xBU hcall hm Fu pl d x hreg.1 K h _ r hr S F W0 O a w hK hh _ (fun e O' K' h' a' w' hp he hK' hh' => ?_))
   cases e with
   | normal => exact xBU hcall hm Fu pl d y hreg.2 K' h' k r he S F W0 O' a' w' hK' hh' Q (fun e O2 K2 h2 a2 w2 hp2 => hn e O2 K2 h2 a2 w2 (hp.trans hp2))
   | exit id => exact hn _ O' K' h' a' w' hp he hK' hh'
   | ret => exact hn _ O' K' h' a' w' hp he hK' hh'
  | cond c x y =>
   simp only [xAL, Bool.and_eq_true] at hreg;simp only [xD6] at hr;split at hr
   ·rename_i b hc;have hb : a.eval c = .bool b := (xAa hK hc).1
    cases b with
    | true => exact wp_cond_true hb (xBU hcall hm Fu pl d x hreg.1 K h k r hr S F W0 O a w hK hh Q hn)
    | false => exact wp_cond_false hb (xBU hcall hm Fu pl d y hreg.2 K h k r hr S F W0 O a w hK hh Q hn)
   ·cases hr
  | block id x =>
   refine wp_block (xBU hcall hm Fu pl d x hreg K h _ r hr S F W0 O a w hK hh _ (fun e O' K' h' a' w' hp he hK' hh' => ?_))
   cases e with
   | normal => exact hn .normal O' K' h' a' w' hp he hK' hh'
   | exit id' =>
    show Exit.inBlock id Q (.exit id') a' w';dsimp only at he
    cases hb : Nat.beq id' id with
    | true =>
     rw [hb] at he;have := nbT hb;subst this;show (if id' = id' then Q .normal a' w' else Q (.exit id') a' w');rw [if_pos rfl];exact hn .normal O' K' h' a' w' hp he hK' hh'
    | false =>
     rw [hb] at he;have hne := Nat.ne_of_beq_eq_false hb;show (if id' = id then Q .normal a' w' else Q (.exit id') a' w');rw [if_neg hne];exact hn (.exit id') O' K' h' a' w' hp he hK' hh'
   | ret => exact hn .ret O' K' h' a' w' hp he hK' hh'
  | loop x =>
   exact wp_loop_rounds Fu (xNi (xBU hcall hm Fu pl d x hreg) Fu K h k r hr S F W0 O a w hK hh Q hn)
  | rangeFunc f p x y => cases hr
  | scope x => cases hr
  | label l => cases hr
  | goto l => cases hr
  | refuse s => cases hr
theorem xUb {α : Type} : ∀ {l : List (Nat × α)} {n : Nat} {x : α}, lkN l n = some x -> (n, x) ∈ l
 | [], n, x, h => by cases h
 | (i, y) :: l, n, x, h => by
  simp only [lkN] at h
  cases hb : Nat.beq i n with
  | true =>
   rw [hb] at h;have := nbT hb;subst this;cases h;simp
  | false => rw [hb] at h; exact List.mem_cons_of_mem _ (xUb h)
theorem xBF : ∀ c : Code, xAL (fun _ => none) c = true
 | .skip => rfl
 | .region _ _ true => rfl
 | .region _ _ false => rfl
 | .seq x y => by simp [xAL, xBF x, xBF y]
 | .cond _ x y => by simp [xAL, xBF x, xBF y]
 | .block _ x => xBF x
 | .loop x => xBF x
 | .rangeFunc .. => rfl
 | .exit _ => rfl
 | .scope _ => rfl
 | .label _ => rfl
 | .goto _ => rfl
 | .ret => rfl
 | .refuse _ => rfl
theorem xOf {A : xFo} (hA : xEy P A) {f : Nat} {fn : Func} {c : Code} (hf : P.funcs[f]? = some fn) (hb : fn.body = some c) : xAL (xFp A f) c = true := by
 unfold xFp;split
 ·rename_i l hl;have := hA _ (xUb hl);simp only [xAQ, hf, hb] at this;exact this
 ·exact xBF c
theorem xEG : ∀ (l : List PV) (i t : Nat) (p : PV), lkP (xV1 i l) t = some p -> i <= t /\ l[t - i]? = some p
 | [], i, t, p, h => by cases h
 | v :: l, i, t, p, h => by
  simp only [xV1, xBj] at h;by_cases hb : t = i
  ·subst hb;rw [if_pos rfl] at h;cases h;exact ⟨Nat.le_refl _, by simp⟩
  ·rw [if_neg hb] at h;obtain ⟨h1, h2⟩ := xEG l (i + 1) t p h;refine ⟨by omega, ?_⟩;rw [show t - i = (t - (i + 1)) + 1 by omega, List.getElem?_cons_succ];exact h2
theorem DenArgs.get {O : List Info} : ∀ {l : List PV} {vs : List Value} {j : Nat} {p : PV}, DenArgs O l vs -> l[j]? = some p -> ∃ v, vs[j]? = some v /\ DenP O p v
 | [], _, _, _, _, h => by simp at h
 | _ :: _, _, 0, _, ⟨v, r, e, h1, _⟩, h => by
  simp only [List.getElem?_cons_zero, Option.some.injEq] at h; subst h; exact ⟨v, by rw [e]; rfl, h1⟩
 | _ :: _, _, j + 1, _, ⟨v, r, e, _, h2⟩, h => by
  simp only [List.getElem?_cons_succ] at h;obtain ⟨u, h3, h4⟩ := h2.get h;exact ⟨u, by rw [e]; simpa using h3, h4⟩
theorem DenArgs.len {O : List Info} : ∀ {l : List PV} {vs : List Value}, DenArgs O l vs -> vs.length = l.length
 | [], _, h => by rw [h]; rfl
 | _ :: _, _, ⟨_, _, e, _, h⟩ => by rw [e]; simp [h.len]
def SumsOk (P : Program) (Sm : Sums) : Prop :=
 ∀ (f : FuncId) (args : List PV) (h : List Root) (v : PV) (news : List Root), Sm f args h = some (some (v, news)) -> ∀ (S F : List Nat) (W0 : World) (O : List Info) (w : World) (vs : List Value), DenArgs O args vs -> HOk S F W0 O h w -> xA3 P f = true ->
  Calls P f vs.toArray w (fun e w' => ∃ O' u, e = .returned u /\ Pre O O' /\ DenP O' v u /\ HOk S F W0 O' (h ++ news) w' /\ Ext w w' /\ Feet O h w O' (h ++ news))
theorem xTK : SumsOk P noSums := fun _ _ _ _ _ h => by cases h
theorem xNk (hm : P.follows .mixedOrders = true) (Fu : Nat) {A : xFo} (hA : xEy P A) {Sm : Sums} (hS : SumsOk P Sm) : ∀ d : Nat, xAJ P (β := β) (xQw P Fu A Sm d)
 | 0 => fun f args h k r hr => by cases hr
 | d + 1 => fun f args h k r hr S F W0 O w vs hargs hh hcl => by
  simp only [xQw] at hr;split at hr
  ·rename_i rr hsm;split at hr
   ·rename_i v news;refine (hS f args h v news hsm S F W0 O w vs hargs hh hcl).mono fun e w' he => ?_;obtain ⟨O', u, rfl, h1, h2, h3, h4, h5⟩ := he;exact ⟨O', _, v, u, [], [], rfl, h1, h2, h3, hr, h4, by simp, fun q _ hq => List.getElem?_append_left hq, h5⟩
   ·cases hr
  split at hr
  ·rename_i fn hfn;split at hr
   ·rename_i c hc;have hsz : vs.toArray.size = args.length := by simpa using hargs.len
    refine calls_of_wp hfn hc (xBU (N := args.length + (fn.ntmps - args.length)) (xNk hm Fu hA hS d) hm Fu (xFp A f) 10000 c (xOf hA hfn hc) _ _ _ r hr _ _ w O _ w ⟨by simp [hsz], rfl, fun t p hp => ?_⟩ (hh.enter (xAY h args)) _ (fun e O' K' h' a' w' hp he hK' hh' => ?_))
    ·obtain ⟨_, h2⟩ := xEG _ _ _ _ hp;rw [Nat.sub_zero] at h2;obtain ⟨v, h3, h4⟩ := hargs.get h2;refine ⟨v, h4, ?_⟩;have hlt := (List.getElem?_eq_some_iff.1 h3).1;show (vs.toArray ++ Array.replicate (fn.ntmps - vs.toArray.size) undef)[t]? = some v;rw [Array.getElem?_append_left (by simpa using hlt)];simpa using h3
    ·have fin : (match xR2 P K' h' fn.results.toList with
       | some v => k (xAY h args) v (xEV (xAY h args) h h' 0)
       | none => none) = some r -> a'.defers = [] /\ ∃ v, (results fn a'.tmps).run P w' = .ok v w' /\ ∃ O' h' v' u B t, Ending.returned v = .returned u /\ Pre O O' /\ DenP O' v' u /\ HOk S F W0 O' h' w' /\ k t v' h' = some r /\ Ex B w w' /\
       (∀ b ∈ B, ∃ p ∈ t, ∃ r i, h[p]? = some r /\ O[p]? = some i /\ own i r b) /\ (∀ q : Nat, q ∉ t -> q < h.length -> h'[q]? = h[q]?) /\ Feet O h w O' h' := by
      intro hm2;split at hm2
      ·rename_i v hv;obtain ⟨u, h1, h2⟩ := xId hK' hh' hv;have hl : h.length <= h'.length := by rw [<- hh.len, <- hh'.len]; exact hp.len
       refine ⟨hK'.2.1, u, h2, O', _, v, u, _, xAY h args, rfl, hp, h1, hh.merged _ (fun _ _ q1 q2 => xJD q1 q2) hp hh', hm2, hh'.ext, fun b hb => xAc.1 hb, fun q hq hlt => xIr _ h h' 0 q hl (by
        rw [Nat.zero_add]
        cases hb : (xAY h args).any (Nat.beq q) with
        | false => rfl
        | true => exact absurd (xDi.1 hb) hq) hlt, fun q s j b hs hj hb => ?_⟩
       rcases xA9 _ h h' 0 q s hl hs with ⟨g1, _⟩ | ⟨g1, _⟩
       ·rcases hh'.near q s j b g1 hj hb with g2 | g2 | g2
        ·exact .inl g2
        ·obtain ⟨p, _, r0, i0, g3, g4, g5⟩ := xAc.1 g2;exact .inr ⟨p, r0, i0, g3, g4, xAm g5⟩
        ·obtain ⟨p, _, r0, i0, g3, g4, g5⟩ := xAc.1 g2;exact .inr ⟨p, r0, i0, g3, g4, g5⟩
       ·obtain ⟨i0, g2⟩ := hh.info g1;have := hp _ _ g2;rw [hj] at this;cases this;exact .inr ⟨q, s, j, g1, g2, hb⟩
      ·cases hm2
     cases e with
     | normal => exact fin he
     | exit id => cases he
     | ret => exact fin he
   ·cases hr
  ·cases hr
end
end Go.Proofs.YtnomnijhlbalaaaGreatDoor
