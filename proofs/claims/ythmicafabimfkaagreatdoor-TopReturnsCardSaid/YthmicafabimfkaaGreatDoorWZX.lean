/- A region that draws its order, on data: the tree is walked whatever order is drawn (2). No condition. -/
import Derived.Test.YthmicafabimfkaaGreatDoorWZV

namespace Go.Proofs.YthmicafabimfkaaGreatDoor
open Go.RowKit
section
variable {P : Program} {N : Nat} {D : List Deferred} {S F : List Nat} {W0 : World} {ops : Array Oper} {β : Type} {r : β} {call : xAT β} {Q : Exit -> Act -> World -> Prop} {k : Slo -> List Root -> Option β}
/-- What holds at the end. -/
def Fin (N : Nat) (D : List Deferred) (S F : List Nat) (W0 : World) (Q : Exit -> Act -> World -> Prop) (k : Slo -> List Root -> Option β) (r : β) (ρ : List Info) : Prop :=
 ∀ (ρ' : List Info) (K' : Slo) (h' : List Root) (a' : Act) (w' : World), Pre ρ ρ' -> k K' h' = some r -> KOk N D ρ' K' a' -> HOk S F W0 ρ' h' w' -> Q .normal a' w'
theorem Fin.mono {ρ ρ' : List Info} (hf : Fin N D S F W0 Q k r ρ) (hp : Pre ρ ρ') : Fin N D S F W0 Q k r ρ' := fun ρ2 K' h' a' w' h1 => hf ρ2 K' h' a' w' (hp.trans h1)
def xJg (P : Program) (N : Nat) (D : List Deferred) (S F : List Nat) (W0 : World) (ops : Array Oper) (call : xAT β) (Q : Exit -> Act -> World -> Prop) (k : Slo -> List Root -> Option β) (r : β) (t : PT) : Prop :=
 ∀ (c L : Array Bool) (E : Es) (Gd : Reads) (G : Gs) (ρ : List Info) (K : Slo) (h : List Root) (a : Act) (w : World), Inv P ops N D S F W0 c L E Gd G ρ K h a w -> xDR P N ops call t Gd K h k = some r -> ptGo ops t c = true -> Fin N D S F W0 Q k r ρ -> xC2 P ops (Calm Q) G (cf L.toList) L a w
theorem xRm : xJg P N D S F W0 ops call Q k r .done := by
 intro c L E Gd G ρ K h a w hi he hp hf;have hrc : Region.ready .any ops c = [] := by simpa [ptGo] using hp
 have hE : E = [] := by
  cases E with
  | nil => rfl
  | cons p E => have := (hi.er p (by simp)).1; rw [hrc] at this; cases this
 subst hE;have hrl : Region.ready .any ops L = [] := by
  rw [List.eq_nil_iff_forall_not_mem];intro j hj;have hlt := xKJ hj;have : j ∈ Region.ready .any ops c := by
   rw [mem_ready] at hj ⊢;obtain ⟨h0, o, ho, hall⟩ := hj;refine ⟨(hi.lo.unlisted h0).1, o, ho, fun e he hb => ?_⟩;have h1 := hall e he hb;have h2 := xIF h1;rw [hi.lo.ls] at h2;rw [<- xE4 (by rw [hi.lo.ls]; exact h2), hi.lo.eq _ h2] at h1;rw [<- xE4 (by rw [hi.lo.cs]; exact h2)];simpa [inE] using h1
  rw [hrc] at this; cases this
 have hq : Q .normal a w := hf ρ K h a w (Pre.refl _) he hi.ko hi.ho
 cases cf L.toList with
 | zero => exact ⟨hrl, hq⟩
 | succ n => exact ⟨fun _ => hq, by rw [hrl]; simp⟩
/-- Behind something that changed no memory. -/
theorem Inv.step {c L : Array Bool} {E : Es} {Gd : Reads} {G : Gs} {ρ : List Info} {K : Slo} {h : List Root} {a : Act} {w : World} (hsel : ∀ (j : Nat) (o : Oper) cs b, ops[j]? = some o -> o.op ≠ .select cs b) (hu : xHf ops = true) (hi : Inv P ops N D S F W0 c L E Gd G ρ K h a w) {i : Nat} {oi : Oper} (hoi : ops[i]? = some oi) (hir : i ∈ Region.ready .any ops c) (hfr : Region.free .any ops c i = true) (hiE : inE E i = false)
  {ρ' : List Info} {K1 K' : Slo} {h' : List Root} {u : Value} {v : PV} {w' : World} {Gd' : Reads} {G' : Gs} {B : List Nat} (hp : Pre ρ ρ') (hK1 : ∀ d, lkP K d = none -> lkP K1 d = none) (hset : xHr N K1 oi.dst v = some K') (hK' : KOk N D ρ' K' (a.put oi.dst u)) (hh' : HOk S F W0 ρ' h' w') (hg' : GOk ρ' h' Gd' G') (hE : Ex B w w') (hB : ∀ b ∈ B, ∃ (p : Nat) (r : Root) (i : Info), h[p]? = some r /\ ρ[p]? = some i /\ foot i r b) (hft : Feet ρ h w ρ' h') :
  Inv P ops N D S F W0 (c.setIfInBounds i true) (L.setIfInBounds i true) E Gd' G' ρ' K' h' (a.put oi.dst u) w' := by
 have hirL := hi.lo.ready hir hiE;have hne : ∀ p ∈ E, p.1 ≠ i := fun p hp' e => by rw [xB4.2 ⟨p, hp', e⟩] at hiE; cases hiE
 refine ⟨hi.lo.canon i, xEF hi.cl hirL, fun p hp' => ⟨ready_mono (hi.er p hp').1 (hne p hp'), (hi.er p hp').2⟩, hi.nd, hK', hh', hg', fun p hp' => ?_, fun j oj d hj ha hd hun => ?_⟩
 ·have h0 := (hi.eo p hp').put hsel (oi := oi) (u := u) (xGu hoi hfr hir (hi.er p hp').1 (hne p hp'));obtain ⟨p1, p2⟩ := p
  cases p2 with
  | zero => exact h0
  | succ p2 =>
   have h1 : EOk P ops W0 ρ h (a.put oi.dst u) w p1 p2 := h0;have hnB : p2 ∉ B := fun hb => by
    obtain ⟨q, r', i', g1, g2, g3⟩ := hB _ hb;exact h1.apart q r' i' g1 g2 g3
   have h2 := h1.world hE hnB;refine (⟨h2.ex, h2.new, fun q r' i' g1 g2 g3 => ?_⟩ : EOk P ops W0 ρ' h' (a.put oi.dst u) w' p1 p2);rcases hft q r' i' p2 g1 g2 g3 with g4 | ⟨q0, r0, i0, g5, g6, g7⟩
   ·obtain ⟨_, _, _, _, _, _, _, g8, _⟩ := h1.ex;have := lt_of_block g8;omega
   ·exact h1.apart q0 r0 i0 g5 g6 g7
 ·rw [xCk] at hun;have hun' := Bool.or_eq_false_iff.1 hun;have hji : j ≠ i := fun e => by rw [e, Nat.beq_refl] at hun'; cases hun'.2
  exact xH2 hset ((xLP hu hj ha hd).2 i oi hoi (Ne.symm hji)) (hK1 d (hi.un j oj d hj ha hd hun'.1))
theorem tree_rd (hsel : ∀ (j : Nat) (o : Oper) cs b, ops[j]? = some o -> o.op ≠ .select cs b) (hu : xHf ops = true) {i : Nat} {t : PT} (ih : xJg P N D S F W0 ops call Q k r t) : xJg P N D S F W0 ops call Q k r (.rd i t) := by
 intro c L E Gd G ρ K h a w hi he hp hf;simp only [ptGo, Bool.and_eq_true, Bool.not_eq_true'] at hp;obtain ⟨⟨⟨hir, hfr⟩, hna⟩, hp⟩ := hp;have hir' : i ∈ Region.ready .any ops c := by simpa using hir
 simp only [xDR] at he;split at he
 ·rename_i oi hoi;have hiE : inE E i = false := by
   cases hx : inE E i with
   | false => rfl
   | true =>
    obtain ⟨p, hp', e⟩ := xB4.1 hx;have := (hi.er p hp').2;rw [e, hna] at this; cases this
  have hirL := hi.lo.ready hir' hiE;have hfree : ∀ j oj, ops[j]? = some oj -> j ≠ i -> L.getD j true = false -> (∀ e ∈ oj.after, Region.binds .any e = true -> e.on ≠ i) -> oi.apart ops oj = true := fun j oj hj hne hun hno =>
   Region.free_spec hoi hfr j oj hj hne (hi.lo.unlisted hun).1 hno
  rw [<- xHF hirL];have key : ∀ (T : World -> Prop) (K1 K' : Slo) (u : Value) (v : PV) (ids : Option (List Nat)), YieldsIf P ops T oi u a -> T w -> (∀ d, lkP K d = none -> lkP K1 d = none) -> xHr N K1 oi.dst v = some K' -> KOk N D ρ K' (a.put oi.dst u) -> GOk ρ h (match ids with
    | some ids => (i, some ids) :: Gd
    | none => Gd) (match ids with
    | some _ => (i, T) :: G
    | none => G) -> xDR P N ops call t (match ids with
    | some ids => (i, some ids) :: Gd
    | none => Gd) K' h k = some r -> (ids = none -> T = fun _ => True) -> xC2 P ops (Calm Q) G (cf (L.setIfInBounds i true).toList + 1) L a w := by
   intro T K1 K' u v ids hy hT hK1 hset hK' hg hev hids;have hi' := hi.step hsel hu hoi hir' hfr hiE (Pre.refl ρ) hK1 hset hK' hi.ho hg (Ex.refl [] w) (by simp) (Feet.refl w);have := ih _ _ _ _ _ _ _ _ _ _ hi' hev hp hf
   cases ids with
   | some ids => exact xGI hoi hsel (fun _ _ _ q => q) _ L a w hi.cl hfree hirL hy hT this
   | none =>
    refine xGI (T := T) hoi hsel (fun _ _ _ q => q) _ L a w hi.cl hfree hirL hy hT ?_;rw [hids rfl];exact xHG _ _ _ _ this
  rcases xCB hi.ko he with ⟨hw, K1, h1, h2, h3, _⟩ | ⟨hw, K1, h1, h2, h3, _⟩
  ·unfold opRd at h1;have hv := xHq (P := P) (o := oi) h2 hi.ho;have done : ∀ (u : Value) (v : PV), DenP ρ v u -> (∀ w', Agree (xGc K1 h oi) ρ h w w' -> (execOp a.eval oi).run P w' = .ok (.value u) w') -> (match xHr N K1 oi.dst v with
     | some K' => xDR P N ops call t ((i, some (xGc K1 h oi)) :: Gd) K' h k
     | none => none) = some r -> xC2 P ops (Calm Q) G (cf (L.setIfInBounds i true).toList + 1) L a w := by
    intro u v hd hrun hm;split at hm
    ·rename_i K' hK';refine key (fun w' => ∀ b ∈ xAo .foot ρ h (xGc K1 h oi) ++ xLw, w'.heap[b]? = w.heap[b]?) K1 K' u v (some (xGc K1 h oi)) (.inl ⟨hw, fun w' hT => hrun w' ⟨fun id hid r' i' b g1 g2 g3 => hT b (List.mem_append_left _ (xAg.2 ⟨id, hid, r', i', g1, g2, g3⟩)), fun b hb => hT b (List.mem_append_right _ hb)⟩⟩) (fun _ _ => rfl) h3 hK' (xFv h2 hd hK') ⟨_, G, ⟨rfl, fun w1 w2 hE hT b hb => ?_⟩, ⟨_, w, rfl, fun b hb => ?_⟩, hi.go⟩ hm (fun e => by cases e)
     ·have g4 : b < w.heap.size := by
       rcases List.mem_append.1 hb with hb | hb
       ·obtain ⟨id, hid, r', i', g1, g2, g3⟩ := xAg.1 hb;exact (hi.ho.ok id r' i' g1 g2).lt g3
       ·exact hi.ho.outW hb
      have g5 := hT b hb;have g6 : b < w1.heap.size := by
       rcases Nat.lt_or_ge b w1.heap.size with g | g
       ·exact g
       ·rw [Array.getElem?_eq_none g, Array.getElem?_eq_getElem g4] at g5; cases g5
      rw [hE.block b g6 (by simp)];exact g5
     rcases List.mem_append.1 hb with hb | hb
     ·obtain ⟨id, hid, r', i', g1, g2, g3⟩ := xAg.1 hb;exact .inr ⟨id, hid, r', i', g1, g2, g3⟩
     ·exact .inl hb
    ·cases hm
   split at h1
   ·rename_i g v hs;rw [hs] at hv;obtain ⟨h4, h5⟩ := xBH h1;obtain ⟨u, h6, h7⟩ := hv h4;exact done u v h6 h7 h5
   ·rename_i b x y hs;rw [hs] at hv;obtain ⟨u, h6, h7⟩ := hv
    cases b with
    | true => exact done u x h6 h7 h1
    | false => exact done u y h6 h7 h1
   ·cases h1
  ·obtain ⟨K', h4, h5⟩ := xB0 h1;exact key (fun _ => True) K1 K' undef .un none (.inr ⟨hw, rfl⟩) trivial h3 h4 (xFv (v := .un) h2 rfl h4) hi.go h5 (fun _ => rfl)
 ·cases he
theorem xWF {K : Slo} {h : List Root} {o : Oper} (ha : xBV o = true) : xHi P K h o = .stuck /\ ∀ f args, stepM P K h o ≠ .call f args := by
 rw [xQc ha];unfold xBV at ha;split at ha
 ·split at ha
  ·rename_i T ho;refine ⟨by unfold xHi; rw [ho], fun f args => ?_⟩;unfold xCE; rw [ho];dsimp only;split <;> simp
  ·rename_i T x ho;refine ⟨by unfold xHi; rw [ho], fun f args => ?_⟩;unfold xCE; rw [ho];dsimp only;split <;> simp
  ·rename_i t n parts ho;refine ⟨by unfold xHi; rw [ho], fun f args => ?_⟩;unfold xCE; rw [ho];dsimp only;unfold xB7;split
   ·split
    ·generalize (Nat.beq _ _ && Nat.beq _ _ && Nat.ble 1 _ && Nat.ble _ 16777216) = q;cases q
     ·simp
     ·dsimp only [cond_true];split
      ·split
       ·simp
       ·generalize Nat.beq _ _ = q2;cases q2
        ·simp
        ·dsimp only [cond_true];split <;> simp
      ·simp
    ·simp
   ·simp
  ·rename_i t l c ho;refine ⟨by unfold xHi; rw [ho], fun f args => ?_⟩;unfold xCE; rw [ho];dsimp only;unfold xQD;split
   ·split
    ·generalize (Nat.beq _ _ && xJA _ && Nat.beq _ _ && Nat.ble 1 _) = q;cases q
     ·simp
     ·dsimp only [cond_true];split
      ·generalize xQq l c = q2;cases q2
       ·dsimp only [cond_false];split <;> simp
       ·simp
      ·simp
    ·simp
   ·simp
  ·cases ha
 ·cases ha
theorem pw_ne : ∀ {E : Es}, E.Pairwise (fun p q => p.1 ≠ q.1 /\ (p.2 = q.2 -> p.2 = 0)) -> ∀ {p q : Nat × Nat}, p ∈ E -> q ∈ E -> p.1 ≠ q.1 -> p.2 = q.2 -> p.2 = 0
 | [], _, _, _, hp, _, _, _ => by cases hp
 | x :: E, h, p, q, hp, hq, hne, he => by
  obtain ⟨h1, h2⟩ := List.pairwise_cons.1 h;rcases List.mem_cons.1 hp with e1 | hp'
  ·rcases List.mem_cons.1 hq with e2 | hq'
   ·rw [e1, e2] at hne; exact absurd rfl hne
   ·rw [e1]; exact (h1 q hq').2 (by rw [<- e1]; exact he)
  ·rcases List.mem_cons.1 hq with e2 | hq'
   ·have := (h1 p hp').2 (by rw [<- e2]; exact he.symm);rw [he, e2]; exact this
   ·exact pw_ne h2 hp' hq' hne he
theorem xUF {w : World} {x y : Obj} (h : w.alloc x = w.alloc y) : x = y := by
 have h1 := xEk w x;rw [h, xEk] at h1;exact (Option.some.inj h1).symm
/-- What was made early is now taken. -/
theorem xGL (hsel : ∀ (j : Nat) (o : Oper) cs b, ops[j]? = some o -> o.op ≠ .select cs b) (hu : xHf ops = true) {i : Nat} {t : PT} (ih : xJg P N D S F W0 ops call Q k r t) {c L : Array Bool} {E : Es} {Gd : Reads} {G : Gs} {ρ : List Info} {K : Slo} {h : List Root} {a : Act} {w : World} (hi : Inv P ops N D S F W0 c L E Gd G ρ K h a w) {oi : Oper}
  (he : xJw ops K oi (fun K => xSo P N call (calm ops Gd i) K h oi (fun tt K' h' => xDR P N ops call t (xNj tt Gd) K' h' k)) (fun K => xCZ N K oi .un h (fun K' h' => xDR P N ops call t Gd K' h' k)) = some r)
  (hp : ptGo ops t (c.setIfInBounds i true) = true) (hf : Fin N D S F W0 Q k r ρ) (hir : i ∈ Region.ready .any ops c) (hoi : ops[i]? = some oi) (hiE : inE E i = true) : xC2 P ops (Calm Q) G (cf L.toList) L a w := by
 obtain ⟨⟨i', b⟩, hpE, hei⟩ := xB4.1 hiE;dsimp only at hei;subst hei;have hal : xBV oi = true := by simpa [opAt, hoi] using (hi.er _ hpE).2
 cases b with
 | zero =>
  obtain ⟨oe, d, k1, k2, k3, k4⟩ := (hi.eo _ hpE : ESk ops a i');rw [hoi] at k1; cases k1;rcases xCB hi.ko he with ⟨hw, K1, h1, h2, h3, h4⟩ | ⟨hw, K1, h1, h2, h3, h4⟩
  ·rw [k4] at hw; cases hw
  ·obtain ⟨K', h5, h6⟩ := xB0 h1;have hko : KOk N D ρ K' a := by
    rw [k2] at h5;simp only [xHr] at h5
    cases hb : Nat.ble (d + 1) N with
    | false => rw [hb] at h5; cases h5
    | true =>
     rw [hb] at h5;cases h5;exact h2.have (v := .un) (u := undef) rfl k3
   have hi' : Inv P ops N D S F W0 (c.setIfInBounds i' true) L (xOc i' E) Gd G ρ K' h a w := by
    have mem : ∀ p ∈ xOc i' E, p ∈ E /\ p.1 ≠ i' := fun p hp' => by
     obtain ⟨m1, m2⟩ := List.mem_filter.1 hp';exact ⟨m1, fun e => by rw [e, Nat.beq_refl] at m2; cases m2⟩
    refine ⟨hi.lo.stutter hiE, hi.cl, fun p hp' => ⟨ready_mono (hi.er p (mem p hp').1).1 (mem p hp').2, (hi.er p (mem p hp').1).2⟩, hi.nd.sublist List.filter_sublist, hko, hi.ho, hi.go, fun p hp' => hi.eo p (mem p hp').1, fun j oj d' hj ha hd hun => ?_⟩;rw [xCk] at hun;have hun' := Bool.or_eq_false_iff.1 hun;have hji : j ≠ i' := fun e => by rw [e, Nat.beq_refl] at hun'; cases hun'.2
    exact xH2 h5 ((xLP hu hj ha hd).2 i' oi hoi (Ne.symm hji)) (h3 _ (hi.un j oj d' hj ha hd hun'.1))
   exact ih _ _ _ _ _ _ _ _ _ _ hi' h6 hp hf
 | succ b =>
 have hE : EOk P ops W0 ρ h a w i' b := hi.eo _ hpE;obtain ⟨oe, d, obj, mk, g1, g2, g3, g4, g6, g5⟩ := hE.ex;rw [hoi] at g1; cases g1;rcases xCB hi.ko he with ⟨hw, K1, h1, h2, h3, h4⟩ | ⟨hw, K1, h1, h2, h3, h4⟩
 ·obtain ⟨hst, hnc⟩ := xWF (P := P) (K := K1) (h := h) hal;unfold xSo at h1;rw [hst] at h1;dsimp only at h1;split at h1
  ·rename_i gg v h' tt hs
   cases hok : calm ops Gd i' tt with
   | false => rw [hok] at h1; cases h1
   | true =>
    rw [hok] at h1;obtain ⟨h5, h6⟩ := xBH h1;obtain ⟨K', h7, h8⟩ := xB0 h6;obtain ⟨r1, info, mk1, obj1, e1, e2, e3⟩ := al_ok h2 hi.ho.len hal hs h5;have hobj : obj = obj1 := by
     have := (g5 w).symm.trans (e2 w);simp only [Result.ok.injEq] at this;exact xUF this.2
    have hmk : mk b = mk1 b := by
     have := (g5 { w with heap := Array.replicate b obj }).symm.trans (e2 { w with heap := Array.replicate b obj });simp only [Result.ok.injEq, Next.value.injEq, Array.size_replicate] at this;exact this.1
    subst hobj;subst e1;obtain ⟨q1, q2, q3, q4, q5⟩ := e3 w b g4;have hpre : Pre ρ (ρ ++ [info b]) := Pre.app _ _;have hho : HOk S F W0 (ρ ++ [info b]) (h ++ [r1]) w := by
     have := hi.ho.move h.length [b] (Ex.refl [b] w) (fun q s j c _ hs hj hc hcb => by
      rw [List.mem_singleton] at hcb;subst hcb;exact hE.apart q s j hs hj hc) (fun c hc => by
      rw [List.mem_singleton] at hc;subst hc;exact .inl hE.new) (info b) r1 q1 (fun c hc => .inr (by rw [q3 c hc]; simp)) q4 q5
     rwa [List.set_eq_of_length_le (Nat.le_refl _)] at this
    have hko : KOk N D (ρ ++ [info b]) K' a := by
     rw [g2] at h7;simp only [xHr] at h7
     cases hb : Nat.ble (d + 1) N with
     | false => rw [hb] at h7; cases h7
     | true =>
      rw [hb] at h7;cases h7;exact (h2.mono hpre).have q2 (by rw [<- hmk]; exact g3)
    have hi' : Inv P ops N D S F W0 (c.setIfInBounds i' true) L (xOc i' E) (xNj tt Gd) G (ρ ++ [info b]) K' (h ++ [r1]) a w := by
     have mem : ∀ p ∈ xOc i' E, p ∈ E /\ p.1 ≠ i' := fun p hp' => by
      obtain ⟨m1, m2⟩ := List.mem_filter.1 hp';exact ⟨m1, fun e => by rw [e, Nat.beq_refl] at m2; cases m2⟩
     refine ⟨hi.lo.stutter hiE, hi.cl, fun p hp' => ⟨ready_mono (hi.er p (mem p hp').1).1 (mem p hp').2, (hi.er p (mem p hp').1).2⟩, hi.nd.sublist List.filter_sublist, hko, hho, GOk.after hi.ho hpre (fun q _ hq => List.getElem?_append_left hq) hi.go, fun p hp' => ?_, fun j oj d' hj ha hd hun => ?_⟩
     ·obtain ⟨m1, m2⟩ := mem p hp';have h9' := hi.eo p m1;obtain ⟨p1, p2⟩ := p
      cases p2 with
      | zero => exact h9'
      | succ p2 =>
      have h9 : EOk P ops W0 ρ h a w p1 p2 := h9';refine (⟨h9.ex, h9.new, fun q r' i9 f1 f2 f3 => ?_⟩ : EOk P ops W0 (ρ ++ [info b]) (h ++ [r1]) a w p1 p2);rcases Nat.lt_or_ge q h.length with hq | hq
      ·rw [List.getElem?_append_left hq] at f1;rw [List.getElem?_append_left (by rw [hi.ho.len]; exact hq)] at f2;exact h9.apart q r' i9 f1 f2 f3
      ·have hlt := (List.getElem?_eq_some_iff.1 f1).1;simp at hlt;obtain rfl : q = h.length := by omega
       rw [List.getElem?_append_right (Nat.le_refl _)] at f1;have := xLt hi.ho.len f2;subst this;simp at f1;subst f1;exact absurd (pw_ne hi.nd m1 hpE m2 (by rw [q3 _ f3])) (by simp)
     ·rw [xCk] at hun;have hun' := Bool.or_eq_false_iff.1 hun;have hji : j ≠ i' := fun e => by rw [e, Nat.beq_refl] at hun'; cases hun'.2
      exact xH2 h7 ((xLP hu hj ha hd).2 i' oi hoi (Ne.symm hji)) (h3 _ (hi.un j oj d' hj ha hd hun'.1))
    exact ih _ _ _ _ _ _ _ _ _ _ hi' h8 hp (hf.mono hpre)
  ·rename_i f args hs; exact absurd hs (hnc f args)
  ·cases h1
 ·rw [g6] at hw; cases hw
theorem tree_go (hcall : xAW P call) (hsel : ∀ (j : Nat) (o : Oper) cs b, ops[j]? = some o -> o.op ≠ .select cs b) (hu : xHf ops = true) {i : Nat} {A : List Nat} {t : PT} (ih : xJg P N D S F W0 ops call Q k r t) : xJg P N D S F W0 ops call Q k r (.go i A t) := by
 intro c L0 E0 Gd G ρ K h a0 w0 hi0 he hp hf;simp only [ptGo, Bool.and_eq_true] at hp;obtain ⟨⟨⟨⟨⟨hir, hfr⟩, hon⟩, hA⟩, hall⟩, hp⟩ := hp;have hir' : i ∈ Region.ready .any ops c := by simpa using hir
 rw [List.all_eq_true] at hA hall;simp only [xDR] at he;split at he
 ·rename_i oi hoi;obtain ⟨he, hearly⟩ := xLC he
  suffices inner : ∀ (n : Nat) (L : Array Bool) (E : Es) (a : Act) (w : World), cf L.toList = n -> Inv P ops N D S F W0 c L E Gd G ρ K h a w -> xC2 P ops (Calm Q) G n L a w from inner _ L0 E0 a0 w0 rfl hi0
  intro n
  induction n with
  | zero =>
   intro L E a w hn hi
   cases hiE : inE E i with
   | false => have := xHF (hi.lo.ready hir' hiE); omega
   | true => rw [<- hn]; exact xGL hsel hu ih hi he hp hf hir' hoi hiE
  | succ n ihn =>
   intro L E a w hn hi
   cases hiE : inE E i with
   | true => rw [<- hn]; exact xGL hsel hu ih hi he hp hf hir' hoi hiE
   | false =>
    have hirL := hi.lo.ready hir' hiE;have hcf := xHF hirL;refine ⟨fun h0 => (by rw [h0] at hirL; cases hirL), fun j hj => ?_⟩;by_cases hji : j = i
    ·subst hji;have hcf' : cf (L.setIfInBounds j true).toList = n := by omega
     rcases xCB hi.ko he with ⟨hw, K1, h1, h2, h3, _⟩ | ⟨hw, K1, h1, h2, h3, _⟩
     ·unfold wpOp;simp only [hoi, hw, if_true];refine .inl (xVG hcall h2 hi.ho h1 (fun ρ' K' h' u v w' B tt q1 q2 q3 q4 q5 q6 q7 q8 q9 q10 => ⟨?_, ?_⟩))
      ·rcases q10 with q10 | q10
       ·exact xKi hi.ho q6 q7 hi.go q10
       ·subst q10; exact fun _ _ _ h => h
      ·have hi' := hi.step hsel hu hoi hir' hfr hiE q1 h3 q2 q3 q4 (GOk.after hi.ho q1 q8 hi.go) q6 (fun b hb => by
        obtain ⟨p, _, r', i', g1, g2, g3⟩ := q7 b hb;exact ⟨p, r', i', g1, g2, xAs g3⟩) q9
       have := ih _ _ _ _ _ _ _ _ _ _ hi' q5 hp (hf.mono q1);rwa [hcf'] at this
     ·unfold wpOp;simp only [hoi, hw, Bool.false_eq_true, if_false];obtain ⟨K', h4, h5⟩ := xB0 h1;refine ⟨fun _ _ _ h => h, ?_⟩;have hi' := hi.step hsel hu hoi hir' hfr hiE (Pre.refl ρ) h3 h4 (xFv (v := .un) h2 rfl h4) hi.ho hi.go (Ex.refl [] w) (by simp) (Feet.refl w);have := ih _ _ _ _ _ _ _ _ _ _ hi' h5 hp hf;rwa [hcf'] at this
    ·have hEA : ∀ p ∈ E, p.1 ∈ A := fun p hp' => by
      obtain ⟨g1, g2⟩ := hi.er p hp';have g3 := hall p.1 g1;rw [g2] at g3;have g4 : Nat.beq i p.1 = false := by
       cases hb : Nat.beq i p.1 with
       | false => rfl
       | true => rw [xB4.2 ⟨p, hp', (nbT hb).symm⟩] at hiE; cases hiE
      rw [g4] at g3;exact xDL.1 (by simpa using g3)
     have hjA := hi.lo.only hon hEA hj hji;have hAj := hA j hjA;simp only [Bool.and_eq_true] at hAj;obtain ⟨⟨⟨hjr, hjf⟩, hjal⟩, _⟩ := hAj;have hjr' : j ∈ Region.ready .any ops c := by simpa using hjr
     obtain ⟨oj, d, k1, k2, k3, k7⟩ := hearly j hjA;have hal : xBV oj = true := by simpa [opAt, k1] using hjal
     obtain ⟨hju, hjE⟩ := hi.lo.unlisted (mem_ready.1 hj).1;have hcfj := xHF hj;have hub := xLP hu k1 hal k2;rcases k7 with ⟨k7, g, v, h', k4, k5, k6⟩ | k7;rotate_left
     ·have hwant : Region.wanted oj (yielded ops a.tmps) = false := xTk hi.ko k7;unfold wpOp;simp only [k1, hwant, Bool.false_eq_true, if_false];refine ⟨fun _ _ _ h => h, ?_⟩;refine ihn _ ((j, 0) :: E) _ _ (by omega) ⟨hi.lo.early j _, xEF hi.cl hj, ?_, ?_, ?_, hi.ho, hi.go, ?_, hi.un⟩
      ·intro p hp';rcases List.mem_cons.1 hp' with rfl | hp'
       ·exact ⟨hjr', hjal⟩
       ·exact hi.er p hp'
      ·exact List.pairwise_cons.2 ⟨fun q hq => ⟨(fun e => by rw [xB4.2 ⟨q, hq, e.symm⟩] at hjE; cases hjE), fun _ => rfl⟩, hi.nd⟩
      ·rw [k2];exact hi.ko.other (hi.un j oj d k1 hal k2 hju) _
      ·intro p hp';rcases List.mem_cons.1 hp' with rfl | hp'
       ·refine (⟨oj, d, k1, k2, ?_, by rw [wanted_put oj a oj.dst _ (fun d' hd' => by rw [k2] at hd'; cases hd'; exact hub.1)]; exact hwant⟩ : ESk ops (a.put oj.dst undef) j);have hd : d < a.tmps.size := by rw [hi.ko.1]; exact k3
        rw [k2];simp [Act.put, hd]
       ·have hne : p.1 ≠ j := fun e => by rw [xB4.2 ⟨p, hp', e⟩] at hjE; cases hjE
        exact (hi.eo p hp').put hsel (oi := oj) (xGu k1 hjf hjr' (hi.er p hp').1 hne)
     obtain ⟨r1, info, mk, obj, _, hrun, _⟩ := al_ok hi.ko hi.ho.len hal k5 k6;have hwant : Region.wanted oj (yielded ops a.tmps) = true := xTk hi.ko k7;unfold wpOp;simp only [k1, hwant, if_true];refine .inl ?_;unfold Oper.wp;rw [hrun w, Oper.upon_value];refine ⟨GOk.ext (Ex.allocs w obj) hi.go, ?_⟩;refine ihn _ ((j, w.heap.size + 1) :: E) _ _ (by omega) ⟨hi.lo.early j _, xEF hi.cl hj, ?_, ?_, ?_, hi.ho.ext' (Ex.allocs w obj), hi.go, ?_, hi.un⟩
     ·intro p hp';rcases List.mem_cons.1 hp' with rfl | hp'
      ·exact ⟨hjr', hjal⟩
      ·exact hi.er p hp'
     ·refine List.pairwise_cons.2 ⟨fun q hq => ⟨fun e => ?_, fun e => ?_⟩, hi.nd⟩
      ·rw [xB4.2 ⟨q, hq, e.symm⟩] at hjE; cases hjE
      ·have h9 := hi.eo q hq;obtain ⟨q1, q2⟩ := q
       cases q2 with
       | zero => cases e
       | succ q2 =>
        obtain ⟨_, _, _, _, _, _, _, g8, _, _⟩ := (h9 : EOk P ops W0 ρ h a w q1 q2).ex;have := lt_of_block g8;have e' : w.heap.size + 1 = q2 + 1 := e;omega
     ·rw [k2];exact hi.ko.other (hi.un j oj d k1 hal k2 hju) _
     ·intro p hp';rcases List.mem_cons.1 hp' with rfl | hp'
      ·refine (⟨⟨oj, d, obj, mk, k1, k2, ?_, xEk w obj, by rw [wanted_put oj a oj.dst _ (fun d' hd' => by rw [k2] at hd'; cases hd'; exact hub.1)]; exact hwant, fun w2 => ?_⟩, hi.ho.ext.size, fun q r' i' g1 g2 g3 => ?_⟩ : EOk P ops W0 ρ h (a.put oj.dst (mk w.heap.size)) (w.alloc obj) j w.heap.size)
       ·have hd : d < a.tmps.size := by rw [hi.ko.1]; exact k3
        rw [k2];simp [Act.put, hd]
       ·rw [execOp_put oj (fun cs b => hsel j oj cs b k1) a oj.dst _ (fun d' hd' => by rw [k2] at hd'; cases hd'; exact hub.1)];exact hrun w2
       ·have := (hi.ho.ok q r' i' g1 g2).lt g3;have : w.heap.size < w.heap.size := this;omega
      ·have hne : p.1 ≠ j := fun e => by rw [xB4.2 ⟨p, hp', e⟩] at hjE; cases hjE
       have h9 := (hi.eo p hp').put hsel (oi := oj) (u := mk w.heap.size) (xGu k1 hjf hjr' (hi.er p hp').1 hne);obtain ⟨p1, p2⟩ := p
       cases p2 with
       | zero => exact h9
       | succ p2 => exact EOk.world (h9 : EOk P ops W0 ρ h (a.put oj.dst (mk w.heap.size)) w p1 p2) (Ex.allocs w obj) (by simp)
 ·cases he
end
end Go.Proofs.YthmicafabimfkaaGreatDoor


namespace Go.Proofs.YthmicafabimfkaaGreatDoor
open Go.RowKit
section
variable {P : Program} {N : Nat} {D : List Deferred} {S F : List Nat} {W0 : World} {ops : Array Oper} {β : Type} {r : β} {call : xAT β} {Q : Exit -> Act -> World -> Prop} {k : Slo -> List Root -> Option β}
theorem xHn (hcall : xAW P call) (hsel : ∀ (j : Nat) (o : Oper) cs b, ops[j]? = some o -> o.op ≠ .select cs b) (hu : xHf ops = true) : ∀ t : PT, xJg P N D S F W0 ops call Q k r t
 | .done => xRm
 | .rd _ t => tree_rd hsel hu (xHn hcall hsel hu t)
 | .go _ _ t => tree_go hcall hsel hu (xHn hcall hsel hu t)
theorem xFG : ∀ (l : List Nat) (K : Slo) (t : Nat), lkP (xTK l K) t = if t ∈ l then none else lkP K t
 | [], K, t => by simp [xTK]
 | s :: l, K, t => by
  show lkP (delP (xTK l K) s) t = _;rw [xK8, xFG l K t];by_cases h : t = s
  ·simp [h]
  ·simp [h]
theorem KOk.drop {ρ : List Info} {K : Slo} {a : Act} (hK : KOk N D ρ K a) (l : List Nat) : KOk N D ρ (xTK l K) a :=
 ⟨hK.1, hK.2.1, fun t p hp => by
  rw [xFG] at hp;split at hp
  ·cases hp
  ·exact hK.2.2 t p hp⟩
theorem xIU (hcall : xAW P call) (hm : P.follows .mixedOrders = true) {t : PT} (hp : ptOk ops t = true) {ρ : List Info} {K : Slo} {h : List Root} {a : Act} {w : World} {id : Nat} (hr : xIV P N ops call t K h k = some r) (hK : KOk N D ρ K a) (hh : HOk S F W0 ρ h w) (hf : Fin N D S F W0 Q k r ρ) : (Code.region id ops true).wp P Q a w := by
 simp only [ptOk, Bool.and_eq_true] at hp;obtain ⟨⟨hns, hu⟩, hp⟩ := hp;refine Code.wp_mono (Q := Calm Q) (fun e a w q => by cases e <;> first | exact q | exact q.elim) ?_
 refine wp_region_any hm (xF4 (G := []) _ _ _ _ ?_);have := xHn (N := N) (S := S) (F := F) (W0 := W0) (Q := Q) (k := k) (r := r) hcall (Region.noSelect_spec hns) hu t (Array.replicate ops.size false) (Array.replicate ops.size false) [] [] [] ρ _ h a w.drew
  ⟨⟨by simp, by simp, fun j _ => by simp [inE]⟩, (fun j oj _ hl => by rw [getD_replicate_false] at hl; cases hl), (fun p hp => by cases hp), List.Pairwise.nil, hK.drop _, hh.drew, rfl, (fun p hp => by cases hp), fun j oj d hj hal hd _ => ?_⟩ hr hp hf
 ·rw [Array.toList_replicate, xUg] at this;exact this
 ·rw [xFG, if_pos];exact List.mem_filterMap.2 ⟨oj, List.mem_filter.2 ⟨by simpa using Array.mem_of_getElem? hj, hal⟩, hd⟩
/-- What a run of code proves. -/
def EvOk (P : Program) (N : Nat) (D : List Deferred) (run : Slo -> List Root -> xFd β -> Option β) (c : Code) : Prop :=
 ∀ (K : Slo) (h : List Root) (k : xFd β) (r : β), run K h k = some r -> ∀ (S F : List Nat) (W0 : World) (ρ : List Info) (a : Act) (w : World), KOk N D ρ K a -> HOk S F W0 ρ h w -> ∀ Q : Exit -> Act -> World -> Prop,
  (∀ (e : XT) (ρ' : List Info) (K' : Slo) (h' : List Root) (a' : Act) (w' : World), Pre ρ ρ' -> k e K' h' = some r -> KOk N D ρ' K' a' -> HOk S F W0 ρ' h' w' -> Q e.out a' w') -> c.wp P Q a w
theorem xM7 {x : Code} {body : Slo -> List Root -> xFd β -> Option β} (hb : EvOk P N D body x) : ∀ (n : Nat) (K : Slo) (h : List Root) (k : xFd β) (r : β), xM8 body n K h k = some r -> ∀ (S F : List Nat) (W0 : World) (ρ : List Info) (a : Act) (w : World), KOk N D ρ K a -> HOk S F W0 ρ h w -> ∀ Q : Exit -> Act -> World -> Prop,
  (∀ (e : XT) (ρ' : List Info) (K' : Slo) (h' : List Root) (a' : Act) (w' : World), Pre ρ ρ' -> k e K' h' = some r -> KOk N D ρ' K' a' -> HOk S F W0 ρ' h' w' -> Q e.out a' w') -> Code.rounds P x Q n a w
 | 0, K, h, k, r, hr => by cases hr
 | n + 1, K, h, k, r, hr => fun S F W0 ρ a w hK hh Q hn => by
  refine hb K h _ r hr S F W0 ρ a w hK hh _ (fun e ρ' K' h' a' w' hp he hK' hh' => ?_)
  cases e with
  | normal => exact xM7 hb n K' h' k r he S F W0 ρ' a' w' hK' hh' Q (fun e ρ2 K2 h2 a2 w2 hp2 => hn e ρ2 K2 h2 a2 w2 (hp.trans hp2))
  | exit id => exact hn _ ρ' K' h' a' w' hp he hK' hh'
  | ret => exact hn _ ρ' K' h' a' w' hp he hK' hh'
theorem xCl (hcall : xAW P call) (hm : P.follows .mixedOrders = true) (Fu : Nat) (pl : Nat -> Option PT) : ∀ (d : Nat) (c : Code), xAV pl c = true -> EvOk P N D (fun K h k => xDS P Fu pl call d N c K h k) c
 | 0, c, _ => fun K h k r hr => by cases hr
 | d + 1, c, hreg => fun K h k r hr S F W0 ρ a w hK hh Q hn => by
  cases c with
  | skip => exact wp_skip (hn .normal ρ K h a w (Pre.refl _) hr hK hh)
  | exit id => exact wp_exit (hn (.exit id) ρ K h a w (Pre.refl _) hr hK hh)
  | ret => exact wp_ret (hn .ret ρ K h a w (Pre.refl _) hr hK hh)
  | region id ops draw =>
   cases draw with
   | false =>
    refine wp_region_list ?_;have := xDK (P := P) (N := N) (ops := ops) (S := S) (F := F) (W0 := W0) (r := r) hcall (Q := Q) [] ops.toList ρ K h a w (k .normal) hr hK hh (fun a' w' hb => by
     obtain ⟨ρ', K', h', h1, h2, h3, h4⟩ := hb;exact wpList_nil (hn .normal ρ' K' h' a' w' h1 h4 h2 h3))
    simpa using this
   | true =>
    simp only [xDS] at hr;simp only [xAV] at hreg;split at hr
    ·rename_i t ht;rw [ht] at hreg;exact xIU hcall hm hreg hr hK hh (fun ρ' K' h' a' w' h1 h2 h3 h4 => hn .normal ρ' K' h' a' w' h1 h2 h3 h4)
    ·cases hr
  | seq x y =>
   simp only [xAV, Bool.and_eq_true] at hreg;refine wp_seq (xCl hcall hm Fu pl d x hreg.1 K h _ r hr S F W0 ρ a w hK hh _ (fun e ρ' K' h' a' w' hp he hK' hh' => ?_))
   cases e with
   | normal => exact xCl hcall hm Fu pl d y hreg.2 K' h' k r he S F W0 ρ' a' w' hK' hh' Q (fun e ρ2 K2 h2 a2 w2 hp2 => hn e ρ2 K2 h2 a2 w2 (hp.trans hp2))
   | exit id => exact hn _ ρ' K' h' a' w' hp he hK' hh'
   | ret => exact hn _ ρ' K' h' a' w' hp he hK' hh'
  | cond c x y =>
   simp only [xAV, Bool.and_eq_true] at hreg;simp only [xDS] at hr;split at hr
   ·rename_i b hc;have hb : a.eval c = .bool b := (xAb hK hc).1
    cases b with
    | true => exact wp_cond_true hb (xCl hcall hm Fu pl d x hreg.1 K h k r hr S F W0 ρ a w hK hh Q hn)
    | false => exact wp_cond_false hb (xCl hcall hm Fu pl d y hreg.2 K h k r hr S F W0 ρ a w hK hh Q hn)
   ·cases hr
  | block id x =>
   refine wp_block (xCl hcall hm Fu pl d x hreg K h _ r hr S F W0 ρ a w hK hh _ (fun e ρ' K' h' a' w' hp he hK' hh' => ?_))
   cases e with
   | normal => exact hn .normal ρ' K' h' a' w' hp he hK' hh'
   | exit id' =>
    show Exit.inBlock id Q (.exit id') a' w';dsimp only at he
    cases hb : Nat.beq id' id with
    | true =>
     rw [hb] at he;have := nbT hb;subst this;show (if id' = id' then Q .normal a' w' else Q (.exit id') a' w');rw [if_pos rfl];exact hn .normal ρ' K' h' a' w' hp he hK' hh'
    | false =>
     rw [hb] at he;have hne := Nat.ne_of_beq_eq_false hb;show (if id' = id then Q .normal a' w' else Q (.exit id') a' w');rw [if_neg hne];exact hn (.exit id') ρ' K' h' a' w' hp he hK' hh'
   | ret => exact hn .ret ρ' K' h' a' w' hp he hK' hh'
  | loop x =>
   exact wp_loop_rounds Fu (xM7 (xCl hcall hm Fu pl d x hreg) Fu K h k r hr S F W0 ρ a w hK hh Q hn)
  | rangeFunc f p x y => cases hr
  | scope x => cases hr
  | label l => cases hr
  | goto l => cases hr
  | refuse s => cases hr
theorem xSN {α : Type} : ∀ {l : List (Nat × α)} {n : Nat} {x : α}, lkN l n = some x -> (n, x) ∈ l
 | [], n, x, h => by cases h
 | (i, y) :: l, n, x, h => by
  simp only [lkN] at h
  cases hb : Nat.beq i n with
  | true =>
   rw [hb] at h;have := nbT hb;subst this;cases h;simp
  | false => rw [hb] at h; exact List.mem_cons_of_mem _ (xSN h)
theorem xBI : ∀ c : Code, xAV (fun _ => none) c = true
 | .skip => rfl
 | .region _ _ true => rfl
 | .region _ _ false => rfl
 | .seq x y => by simp [xAV, xBI x, xBI y]
 | .cond _ x y => by simp [xAV, xBI x, xBI y]
 | .block _ x => xBI x
 | .loop x => xBI x
 | .rangeFunc .. => rfl
 | .exit _ => rfl
 | .scope _ => rfl
 | .label _ => rfl
 | .goto _ => rfl
 | .ret => rfl
 | .refuse _ => rfl
theorem xSe {A : xF2} (hA : xFc P A) {f : Nat} {fn : Func} {c : Code} (hf : P.funcs[f]? = some fn) (hb : fn.body = some c) : xAV (xAQ A f) c = true := by
 unfold xAQ;split
 ·rename_i l hl;have := hA _ (xSN hl);simp only [xUn, hf, hb] at this;exact this
 ·exact xBI c
theorem xFy : ∀ (l : List PV) (i t : Nat) (p : PV), lkP (xUL i l) t = some p -> i <= t /\ l[t - i]? = some p
 | [], i, t, p, h => by cases h
 | v :: l, i, t, p, h => by
  simp only [xUL, xBn] at h;by_cases hb : t = i
  ·subst hb;rw [if_pos rfl] at h;cases h;exact ⟨Nat.le_refl _, by simp⟩
  ·rw [if_neg hb] at h;obtain ⟨h1, h2⟩ := xFy l (i + 1) t p h;refine ⟨by omega, ?_⟩;rw [show t - i = (t - (i + 1)) + 1 by omega, List.getElem?_cons_succ];exact h2
theorem DenArgs.get {ρ : List Info} : ∀ {l : List PV} {vs : List Value} {j : Nat} {p : PV}, DenArgs ρ l vs -> l[j]? = some p -> ∃ v, vs[j]? = some v /\ DenP ρ p v
 | [], _, _, _, _, h => by simp at h
 | _ :: _, _, 0, _, ⟨v, r, e, h1, _⟩, h => by
  simp only [List.getElem?_cons_zero, Option.some.injEq] at h; subst h; exact ⟨v, by rw [e]; rfl, h1⟩
 | _ :: _, _, j + 1, _, ⟨v, r, e, _, h2⟩, h => by
  simp only [List.getElem?_cons_succ] at h;obtain ⟨u, h3, h4⟩ := h2.get h;exact ⟨u, by rw [e]; simpa using h3, h4⟩
theorem DenArgs.len {ρ : List Info} : ∀ {l : List PV} {vs : List Value}, DenArgs ρ l vs -> vs.length = l.length
 | [], _, h => by rw [h]; rfl
 | _ :: _, _, ⟨_, _, e, _, h⟩ => by rw [e]; simp [h.len]
/-! Results that are known for some arguments -/
end
end Go.Proofs.YthmicafabimfkaaGreatDoor
