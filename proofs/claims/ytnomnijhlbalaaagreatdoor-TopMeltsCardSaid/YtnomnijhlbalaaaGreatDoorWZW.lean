/- A part of the proof of the theorem of the last file. No condition. By an AI agent. -/
import Derived.Test.YtnomnijhlbalaaaGreatDoorWZV
namespace Go.Proofs.YtnomnijhlbalaaaGreatDoor
open Go.RowKit
section
variable {P : Program} {N : Nat} {D : List Deferred} {S F : List Nat} {W0 : World} {ops : Array Oper} {β : Type} {r : β} {call : xAT β} {Q : Exit -> Act -> World -> Prop} {k : Slo -> List Root -> Option β}
def Fin (N : Nat) (D : List Deferred) (S F : List Nat) (W0 : World) (Q : Exit -> Act -> World -> Prop) (k : Slo -> List Root -> Option β) (r : β) (ρ : List Info) : Prop :=
 ∀ (ρ' : List Info) (K' : Slo) (h' : List Root) (a' : Act) (w' : World), Pre ρ ρ' -> k K' h' = some r -> KOk N D ρ' K' a' -> HOk S F W0 ρ' h' w' -> Q .normal a' w'
theorem Fin.mono {ρ ρ' : List Info} (hf : Fin N D S F W0 Q k r ρ) (hp : Pre ρ ρ') : Fin N D S F W0 Q k r ρ' := fun ρ2 K' h' a' w' h1 => hf ρ2 K' h' a' w' (hp.trans h1)
def xJ7 (P : Program) (N : Nat) (D : List Deferred) (S F : List Nat) (W0 : World) (ops : Array Oper) (call : xAT β) (Q : Exit -> Act -> World -> Prop) (k : Slo -> List Root -> Option β) (r : β) (t : PT) : Prop :=
 ∀ (c L : Array Bool) (E : Es) (Gd : Reads) (G : Gs) (ρ : List Info) (K : Slo) (h : List Root) (a : Act) (w : World), Inv P ops N D S F W0 c L E Gd G ρ K h a w -> xDo P N ops call t Gd K h k = some r -> ptGo ops t c = true -> Fin N D S F W0 Q k r ρ -> xDb P ops (Calm Q) G (cf L.toList) L a w
theorem xTC : xJ7 P N D S F W0 ops call Q k r .done := by
 intro c L E Gd G ρ K h a w hi he hp hf;have hrc : Region.ready .any ops c = [] := by simpa [ptGo] using hp
 have hE : E = [] := by
  cases E with
  | nil => rfl
  | cons p E => have := (hi.er p (by simp)).1; rw [hrc] at this; cases this
 subst hE;have hrl : Region.ready .any ops L = [] := by
  rw [List.eq_nil_iff_forall_not_mem];intro j hj;have hlt := xHV hj;have : j ∈ Region.ready .any ops c := by
   rw [mem_ready] at hj ⊢;obtain ⟨h0, o, ho, hall⟩ := hj;refine ⟨(hi.lo.unlisted h0).1, o, ho, fun e he hb => ?_⟩;have h1 := hall e he hb;have h2 := xJv h1;rw [hi.lo.ls] at h2;rw [<- xFc (by rw [hi.lo.ls]; exact h2), hi.lo.eq _ h2] at h1;rw [<- xFc (by rw [hi.lo.cs]; exact h2)];simpa [inE] using h1
  rw [hrc] at this; cases this
 have hq : Q .normal a w := hf ρ K h a w (Pre.refl _) he hi.ko hi.ho
 cases cf L.toList with
 | zero => exact ⟨hrl, hq⟩
 | succ n => exact ⟨fun _ => hq, by rw [hrl]; simp⟩
theorem Inv.step {c L : Array Bool} {E : Es} {Gd : Reads} {G : Gs} {ρ : List Info} {K : Slo} {h : List Root} {a : Act} {w : World} (hsel : ∀ (j : Nat) (o : Oper) cs b, ops[j]? = some o -> o.op ≠ .select cs b) (hu : xHu ops = true) (hi : Inv P ops N D S F W0 c L E Gd G ρ K h a w) {i : Nat} {oi : Oper} (hoi : ops[i]? = some oi) (hir : i ∈ Region.ready .any ops c) (hfr : Region.free .any ops c i = true) (hiE : inE E i = false)
  {ρ' : List Info} {K1 K' : Slo} {h' : List Root} {u : Value} {v : PV} {w' : World} {Gd' : Reads} {G' : Gs} {B : List Nat} (hp : Pre ρ ρ') (hK1 : ∀ d, lkP K d = none -> lkP K1 d = none) (hset : xHT N K1 oi.dst v = some K') (hK' : KOk N D ρ' K' (a.put oi.dst u)) (hh' : HOk S F W0 ρ' h' w') (hg' : GOk ρ' h' Gd' G') (hE : Ex B w w') (hB : ∀ b ∈ B, ∃ (p : Nat) (r : Root) (i : Info), h[p]? = some r /\ ρ[p]? = some i /\ foot i r b) (hft : Feet ρ h w ρ' h') :
  Inv P ops N D S F W0 (c.setIfInBounds i true) (L.setIfInBounds i true) E Gd' G' ρ' K' h' (a.put oi.dst u) w' := by
 have hirL := hi.lo.ready hir hiE;have hne : ∀ p ∈ E, p.1 ≠ i := fun p hp' e => by rw [xB7.2 ⟨p, hp', e⟩] at hiE; cases hiE
 refine ⟨hi.lo.canon i, xEI hi.cl hirL, fun p hp' => ⟨ready_mono (hi.er p hp').1 (hne p hp'), (hi.er p hp').2⟩, hi.nd, hK', hh', hg', fun p hp' => ?_, fun j oj d hj ha hd hun => ?_⟩
 ·have h0 := (hi.eo p hp').put hsel (oi := oi) (u := u) (xGC hoi hfr hir (hi.er p hp').1 (hne p hp'));obtain ⟨p1, p2⟩ := p
  cases p2 with
  | zero => exact h0
  | succ p2 =>
   have h1 : EOk P ops W0 ρ h (a.put oi.dst u) w p1 p2 := h0;have hnB : p2 ∉ B := fun hb => by
    obtain ⟨q, r', i', g1, g2, g3⟩ := hB _ hb;exact h1.apart q r' i' g1 g2 g3
   have h2 := h1.world hE hnB;refine (⟨h2.ex, h2.new, fun q r' i' g1 g2 g3 => ?_⟩ : EOk P ops W0 ρ' h' (a.put oi.dst u) w' p1 p2);rcases hft q r' i' p2 g1 g2 g3 with g4 | ⟨q0, r0, i0, g5, g6, g7⟩
   ·obtain ⟨_, _, _, _, _, _, _, g8, _⟩ := h1.ex;have := lt_of_block g8;omega
   ·exact h1.apart q0 r0 i0 g5 g6 g7
 ·rw [xCf] at hun;have hun' := Bool.or_eq_false_iff.1 hun;have hji : j ≠ i := fun e => by rw [e, Nat.beq_refl] at hun'; cases hun'.2
  exact xID hset ((xMy hu hj ha hd).2 i oi hoi (Ne.symm hji)) (hK1 d (hi.un j oj d hj ha hd hun'.1))
theorem tree_rd (hsel : ∀ (j : Nat) (o : Oper) cs b, ops[j]? = some o -> o.op ≠ .select cs b) (hu : xHu ops = true) {i : Nat} {t : PT} (ih : xJ7 P N D S F W0 ops call Q k r t) : xJ7 P N D S F W0 ops call Q k r (.rd i t) := by
 intro c L E Gd G ρ K h a w hi he hp hf;simp only [ptGo, Bool.and_eq_true, Bool.not_eq_true'] at hp;obtain ⟨⟨⟨hir, hfr⟩, hna⟩, hp⟩ := hp;have hir' : i ∈ Region.ready .any ops c := by simpa using hir
 simp only [xDo] at he;split at he
 ·rename_i oi hoi;have hiE : inE E i = false := by
   cases hx : inE E i with
   | false => rfl
   | true =>
    obtain ⟨p, hp', e⟩ := xB7.1 hx;have := (hi.er p hp').2;rw [e, hna] at this; cases this
  have hirL := hi.lo.ready hir' hiE;have hfree : ∀ j oj, ops[j]? = some oj -> j ≠ i -> L.getD j true = false -> (∀ e ∈ oj.after, Region.binds .any e = true -> e.on ≠ i) -> oi.apart ops oj = true := fun j oj hj hne hun hno =>
   Region.free_spec hoi hfr j oj hj hne (hi.lo.unlisted hun).1 hno
  rw [<- xH6 hirL];have key : ∀ (T : World -> Prop) (K1 K' : Slo) (u : Value) (v : PV) (ids : Option (List Nat)), YieldsIf P ops T oi u a -> T w -> (∀ d, lkP K d = none -> lkP K1 d = none) -> xHT N K1 oi.dst v = some K' -> KOk N D ρ K' (a.put oi.dst u) -> GOk ρ h (match ids with
    | some ids => (i, some ids) :: Gd
    | none => Gd) (match ids with
    | some _ => (i, T) :: G
    | none => G) -> xDo P N ops call t (match ids with
    | some ids => (i, some ids) :: Gd
    | none => Gd) K' h k = some r -> (ids = none -> T = fun _ => True) -> xDb P ops (Calm Q) G (cf (L.setIfInBounds i true).toList + 1) L a w := by
   intro T K1 K' u v ids hy hT hK1 hset hK' hg hev hids;have hi' := hi.step hsel hu hoi hir' hfr hiE (Pre.refl ρ) hK1 hset hK' hi.ho hg (Ex.refl [] w) (by simp) (Feet.refl w);have := ih _ _ _ _ _ _ _ _ _ _ hi' hev hp hf
   cases ids with
   | some ids => exact xGS hoi hsel (fun _ _ _ q => q) _ L a w hi.cl hfree hirL hy hT this
   | none =>
    refine xGS (T := T) hoi hsel (fun _ _ _ q => q) _ L a w hi.cl hfree hirL hy hT ?_;rw [hids rfl];exact xH8 _ _ _ _ this
  rcases xCz hi.ko he with ⟨hw, K1, h1, h2, h3, _⟩ | ⟨hw, K1, h1, h2, h3, _⟩
  ·unfold opRd at h1;have hv := xHQ (P := P) (o := oi) h2 hi.ho;have done : ∀ (u : Value) (v : PV), DenP ρ v u -> (∀ w', Agree (xGs K1 h oi) ρ h w w' -> (execOp a.eval oi).run P w' = .ok (.value u) w') -> (match xHT N K1 oi.dst v with
     | some K' => xDo P N ops call t ((i, some (xGs K1 h oi)) :: Gd) K' h k
     | none => none) = some r -> xDb P ops (Calm Q) G (cf (L.setIfInBounds i true).toList + 1) L a w := by
    intro u v hd hrun hm;split at hm
    ·rename_i K' hK';refine key (fun w' => ∀ b ∈ xAp .foot ρ h (xGs K1 h oi) ++ xJw, w'.heap[b]? = w.heap[b]?) K1 K' u v (some (xGs K1 h oi)) (.inl ⟨hw, fun w' hT => hrun w' ⟨fun id hid r' i' b g1 g2 g3 => hT b (List.mem_append_left _ (xAe.2 ⟨id, hid, r', i', g1, g2, g3⟩)), fun b hb => hT b (List.mem_append_right _ hb)⟩⟩) (fun _ _ => rfl) h3 hK' (xFI h2 hd hK') ⟨_, G, ⟨rfl, fun w1 w2 hE hT b hb => ?_⟩, ⟨_, w, rfl, fun b hb => ?_⟩, hi.go⟩ hm (fun e => by cases e)
     ·have g4 : b < w.heap.size := by
       rcases List.mem_append.1 hb with hb | hb
       ·obtain ⟨id, hid, r', i', g1, g2, g3⟩ := xAe.1 hb;exact (hi.ho.ok id r' i' g1 g2).lt g3
       ·exact hi.ho.outW hb
      have g5 := hT b hb;have g6 : b < w1.heap.size := by
       rcases Nat.lt_or_ge b w1.heap.size with g | g
       ·exact g
       ·rw [Array.getElem?_eq_none g, Array.getElem?_eq_getElem g4] at g5; cases g5
      rw [hE.block b g6 (by simp)];exact g5
     rcases List.mem_append.1 hb with hb | hb
     ·obtain ⟨id, hid, r', i', g1, g2, g3⟩ := xAe.1 hb;exact .inr ⟨id, hid, r', i', g1, g2, g3⟩
     ·exact .inl hb
    ·cases hm
   split at h1
   ·rename_i g v hs;rw [hs] at hv;obtain ⟨h4, h5⟩ := xBH h1;obtain ⟨u, h6, h7⟩ := hv h4;exact done u v h6 h7 h5
   ·rename_i b x y hs;rw [hs] at hv;obtain ⟨u, h6, h7⟩ := hv
    cases b with
    | true => exact done u x h6 h7 h1
    | false => exact done u y h6 h7 h1
   ·cases h1
  ·obtain ⟨K', h4, h5⟩ := xB1 h1;exact key (fun _ => True) K1 K' undef .un none (.inr ⟨hw, rfl⟩) trivial h3 h4 (xFI (v := .un) h2 rfl h4) hi.go h5 (fun _ => rfl)
 ·cases he
theorem yAl {K : Slo} {h : List Root} {o : Oper} (ha : xBW o = true) : xHz P K h o = .stuck /\ ∀ f args, stepM P K h o ≠ .call f args := by
 rw [xSb ha];unfold xBW at ha;split at ha
 ·split at ha
  ·rename_i T ho;refine ⟨by unfold xHz; rw [ho], fun f args => ?_⟩;unfold xCF; rw [ho];dsimp only;split <;> simp
  ·rename_i T x ho;refine ⟨by unfold xHz; rw [ho], fun f args => ?_⟩;unfold xCF; rw [ho];dsimp only;split <;> simp
  ·rename_i t n parts ho;refine ⟨by unfold xHz; rw [ho], fun f args => ?_⟩;unfold xCF; rw [ho];dsimp only;unfold xB9;split
   ·split
    ·generalize (Nat.beq _ _ && Nat.beq _ _ && Nat.ble 1 _ && Nat.ble _ 16777216) = q;cases q
     ·simp
     ·dsimp only [cond_true];split
      ·split
       ·simp
       ·generalize Nat.beq _ _ = q2;cases q2
        ·simp
        ·dsimp only [cond_true];split <;> simp
      ·simp
    ·simp
   ·simp
  ·rename_i t l c ho;refine ⟨by unfold xHz; rw [ho], fun f args => ?_⟩;unfold xCF; rw [ho];dsimp only;unfold xSJ;split
   ·split
    ·generalize (Nat.beq _ _ && xKv _ && Nat.beq _ _ && Nat.ble 1 _) = q;cases q
     ·simp
     ·dsimp only [cond_true];split
      ·generalize xSw l c = q2;cases q2
       ·dsimp only [cond_false];split <;> simp
       ·simp
      ·simp
    ·simp
   ·simp
  ·cases ha
 ·cases ha
theorem pw_ne : ∀ {E : Es}, E.Pairwise (fun p q => p.1 ≠ q.1 /\ (p.2 = q.2 -> p.2 = 0)) -> ∀ {p q : Nat × Nat}, p ∈ E -> q ∈ E -> p.1 ≠ q.1 -> p.2 = q.2 -> p.2 = 0
 | [], _, _, _, hp, _, _, _ => by cases hp
 | x :: E, h, p, q, hp, hq, hne, he => by
  obtain ⟨h1, h2⟩ := List.pairwise_cons.1 h;rcases List.mem_cons.1 hp with e1 | hp'
  ·rcases List.mem_cons.1 hq with e2 | hq'
   ·rw [e1, e2] at hne; exact absurd rfl hne
   ·rw [e1]; exact (h1 q hq').2 (by rw [<- e1]; exact he)
  ·rcases List.mem_cons.1 hq with e2 | hq'
   ·have := (h1 p hp').2 (by rw [<- e2]; exact he.symm);rw [he, e2]; exact this
   ·exact pw_ne h2 hp' hq' hne he
theorem xX0 {w : World} {x y : Obj} (h : w.alloc x = w.alloc y) : x = y := by
 have h1 := xCN w x;rw [h, xCN] at h1;exact (Option.some.inj h1).symm
theorem xGU (hsel : ∀ (j : Nat) (o : Oper) cs b, ops[j]? = some o -> o.op ≠ .select cs b) (hu : xHu ops = true) {i : Nat} {t : PT} (ih : xJ7 P N D S F W0 ops call Q k r t) {c L : Array Bool} {E : Es} {Gd : Reads} {G : Gs} {ρ : List Info} {K : Slo} {h : List Root} {a : Act} {w : World} (hi : Inv P ops N D S F W0 c L E Gd G ρ K h a w) {oi : Oper}
  (he : xKl ops K oi (fun K => xUT P N call (calm ops Gd i) K h oi (fun tt K' h' => xDo P N ops call t (xOT tt Gd) K' h' k)) (fun K => xC5 N K oi .un h (fun K' h' => xDo P N ops call t Gd K' h' k)) = some r)
  (hp : ptGo ops t (c.setIfInBounds i true) = true) (hf : Fin N D S F W0 Q k r ρ) (hir : i ∈ Region.ready .any ops c) (hoi : ops[i]? = some oi) (hiE : inE E i = true) : xDb P ops (Calm Q) G (cf L.toList) L a w := by
 obtain ⟨⟨i', b⟩, hpE, hei⟩ := xB7.1 hiE;dsimp only at hei;subst hei;have hal : xBW oi = true := by simpa [opAt, hoi] using (hi.er _ hpE).2
 cases b with
 | zero =>
  obtain ⟨oe, d, k1, k2, k3, k4⟩ := (hi.eo _ hpE : ESk ops a i');rw [hoi] at k1; cases k1;rcases xCz hi.ko he with ⟨hw, K1, h1, h2, h3, h4⟩ | ⟨hw, K1, h1, h2, h3, h4⟩
  ·rw [k4] at hw; cases hw
  ·obtain ⟨K', h5, h6⟩ := xB1 h1;have hko : KOk N D ρ K' a := by
    rw [k2] at h5;simp only [xHT] at h5
    cases hb : Nat.ble (d + 1) N with
    | false => rw [hb] at h5; cases h5
    | true =>
     rw [hb] at h5;cases h5;exact h2.have (v := .un) (u := undef) rfl k3
   have hi' : Inv P ops N D S F W0 (c.setIfInBounds i' true) L (xPP i' E) Gd G ρ K' h a w := by
    have mem : ∀ p ∈ xPP i' E, p ∈ E /\ p.1 ≠ i' := fun p hp' => by
     obtain ⟨m1, m2⟩ := List.mem_filter.1 hp';exact ⟨m1, fun e => by rw [e, Nat.beq_refl] at m2; cases m2⟩
    refine ⟨hi.lo.stutter hiE, hi.cl, fun p hp' => ⟨ready_mono (hi.er p (mem p hp').1).1 (mem p hp').2, (hi.er p (mem p hp').1).2⟩, hi.nd.sublist List.filter_sublist, hko, hi.ho, hi.go, fun p hp' => hi.eo p (mem p hp').1, fun j oj d' hj ha hd hun => ?_⟩;rw [xCf] at hun;have hun' := Bool.or_eq_false_iff.1 hun;have hji : j ≠ i' := fun e => by rw [e, Nat.beq_refl] at hun'; cases hun'.2
    exact xID h5 ((xMy hu hj ha hd).2 i' oi hoi (Ne.symm hji)) (h3 _ (hi.un j oj d' hj ha hd hun'.1))
   exact ih _ _ _ _ _ _ _ _ _ _ hi' h6 hp hf
 | succ b =>
 have hE : EOk P ops W0 ρ h a w i' b := hi.eo _ hpE;obtain ⟨oe, d, obj, mk, g1, g2, g3, g4, g6, g5⟩ := hE.ex;rw [hoi] at g1; cases g1;rcases xCz hi.ko he with ⟨hw, K1, h1, h2, h3, h4⟩ | ⟨hw, K1, h1, h2, h3, h4⟩
 ·obtain ⟨hst, hnc⟩ := yAl (P := P) (K := K1) (h := h) hal;unfold xUT at h1;rw [hst] at h1;dsimp only at h1;split at h1
  ·rename_i gg v h' tt hs
   cases hok : calm ops Gd i' tt with
   | false => rw [hok] at h1; cases h1
   | true =>
    rw [hok] at h1;obtain ⟨h5, h6⟩ := xBH h1;obtain ⟨K', h7, h8⟩ := xB1 h6;obtain ⟨r1, info, mk1, obj1, e1, e2, e3⟩ := al_ok h2 hi.ho.len hal hs h5;have hobj : obj = obj1 := by
     have := (g5 w).symm.trans (e2 w);simp only [Result.ok.injEq] at this;exact xX0 this.2
    have hmk : mk b = mk1 b := by
     have := (g5 { w with heap := Array.replicate b obj }).symm.trans (e2 { w with heap := Array.replicate b obj });simp only [Result.ok.injEq, Next.value.injEq, Array.size_replicate] at this;exact this.1
    subst hobj;subst e1;obtain ⟨q1, q2, q3, q4, q5⟩ := e3 w b g4;have hpre : Pre ρ (ρ ++ [info b]) := Pre.app _ _;have hho : HOk S F W0 (ρ ++ [info b]) (h ++ [r1]) w := by
     have := hi.ho.move h.length [b] (Ex.refl [b] w) (fun q s j c _ hs hj hc hcb => by
      rw [List.mem_singleton] at hcb;subst hcb;exact hE.apart q s j hs hj hc) (fun c hc => by
      rw [List.mem_singleton] at hc;subst hc;exact .inl hE.new) (info b) r1 q1 (fun c hc => .inr (by rw [q3 c hc]; simp)) q4 q5
     rwa [List.set_eq_of_length_le (Nat.le_refl _)] at this
    have hko : KOk N D (ρ ++ [info b]) K' a := by
     rw [g2] at h7;simp only [xHT] at h7
     cases hb : Nat.ble (d + 1) N with
     | false => rw [hb] at h7; cases h7
     | true =>
      rw [hb] at h7;cases h7;exact (h2.mono hpre).have q2 (by rw [<- hmk]; exact g3)
    have hi' : Inv P ops N D S F W0 (c.setIfInBounds i' true) L (xPP i' E) (xOT tt Gd) G (ρ ++ [info b]) K' (h ++ [r1]) a w := by
     have mem : ∀ p ∈ xPP i' E, p ∈ E /\ p.1 ≠ i' := fun p hp' => by
      obtain ⟨m1, m2⟩ := List.mem_filter.1 hp';exact ⟨m1, fun e => by rw [e, Nat.beq_refl] at m2; cases m2⟩
     refine ⟨hi.lo.stutter hiE, hi.cl, fun p hp' => ⟨ready_mono (hi.er p (mem p hp').1).1 (mem p hp').2, (hi.er p (mem p hp').1).2⟩, hi.nd.sublist List.filter_sublist, hko, hho, GOk.after hi.ho hpre (fun q _ hq => List.getElem?_append_left hq) hi.go, fun p hp' => ?_, fun j oj d' hj ha hd hun => ?_⟩
     ·obtain ⟨m1, m2⟩ := mem p hp';have h9' := hi.eo p m1;obtain ⟨p1, p2⟩ := p
      cases p2 with
      | zero => exact h9'
      | succ p2 =>
      have h9 : EOk P ops W0 ρ h a w p1 p2 := h9';refine (⟨h9.ex, h9.new, fun q r' i9 f1 f2 f3 => ?_⟩ : EOk P ops W0 (ρ ++ [info b]) (h ++ [r1]) a w p1 p2);rcases Nat.lt_or_ge q h.length with hq | hq
      ·rw [List.getElem?_append_left hq] at f1;rw [List.getElem?_append_left (by rw [hi.ho.len]; exact hq)] at f2;exact h9.apart q r' i9 f1 f2 f3
      ·have hlt := (List.getElem?_eq_some_iff.1 f1).1;simp at hlt;obtain rfl : q = h.length := by omega
       rw [List.getElem?_append_right (Nat.le_refl _)] at f1;have := xMg hi.ho.len f2;subst this;simp at f1;subst f1;exact absurd (pw_ne hi.nd m1 hpE m2 (by rw [q3 _ f3])) (by simp)
     ·rw [xCf] at hun;have hun' := Bool.or_eq_false_iff.1 hun;have hji : j ≠ i' := fun e => by rw [e, Nat.beq_refl] at hun'; cases hun'.2
      exact xID h7 ((xMy hu hj ha hd).2 i' oi hoi (Ne.symm hji)) (h3 _ (hi.un j oj d' hj ha hd hun'.1))
    exact ih _ _ _ _ _ _ _ _ _ _ hi' h8 hp (hf.mono hpre)
  ·rename_i f args hs; exact absurd hs (hnc f args)
  ·cases h1
 ·rw [g6] at hw; cases hw
theorem tree_go (hcall : xAS P call) (hsel : ∀ (j : Nat) (o : Oper) cs b, ops[j]? = some o -> o.op ≠ .select cs b) (hu : xHu ops = true) {i : Nat} {A : List Nat} {t : PT} (ih : xJ7 P N D S F W0 ops call Q k r t) : xJ7 P N D S F W0 ops call Q k r (.go i A t) := by
 intro c L0 E0 Gd G ρ K h a0 w0 hi0 he hp hf;simp only [ptGo, Bool.and_eq_true] at hp;obtain ⟨⟨⟨⟨⟨hir, hfr⟩, hon⟩, hA⟩, hall⟩, hp⟩ := hp;have hir' : i ∈ Region.ready .any ops c := by simpa using hir
 rw [List.all_eq_true] at hA hall;simp only [xDo] at he;split at he
 ·rename_i oi hoi;obtain ⟨he, hearly⟩ := xMp he
  suffices inner : ∀ (n : Nat) (L : Array Bool) (E : Es) (a : Act) (w : World), cf L.toList = n -> Inv P ops N D S F W0 c L E Gd G ρ K h a w -> xDb P ops (Calm Q) G n L a w from inner _ L0 E0 a0 w0 rfl hi0
  intro n
  induction n with
  | zero =>
   intro L E a w hn hi
   cases hiE : inE E i with
   | false => have := xH6 (hi.lo.ready hir' hiE); omega
   | true => rw [<- hn]; exact xGU hsel hu ih hi he hp hf hir' hoi hiE
  | succ n ihn =>
   intro L E a w hn hi
   cases hiE : inE E i with
   | true => rw [<- hn]; exact xGU hsel hu ih hi he hp hf hir' hoi hiE
   | false =>
    have hirL := hi.lo.ready hir' hiE;have hcf := xH6 hirL;refine ⟨fun h0 => (by rw [h0] at hirL; cases hirL), fun j hj => ?_⟩;by_cases hji : j = i
    ·subst hji;have hcf' : cf (L.setIfInBounds j true).toList = n := by omega
     rcases xCz hi.ko he with ⟨hw, K1, h1, h2, h3, _⟩ | ⟨hw, K1, h1, h2, h3, _⟩
     ·unfold wpOp;simp only [hoi, hw, if_true];refine .inl (xZd hcall h2 hi.ho h1 (fun ρ' K' h' u v w' B tt q1 q2 q3 q4 q5 q6 q7 q8 q9 q10 => ⟨?_, ?_⟩))
      ·rcases q10 with q10 | q10
       ·exact xLt hi.ho q6 q7 hi.go q10
       ·subst q10; exact fun _ _ _ h => h
      ·have hi' := hi.step hsel hu hoi hir' hfr hiE q1 h3 q2 q3 q4 (GOk.after hi.ho q1 q8 hi.go) q6 (fun b hb => by
        obtain ⟨p, _, r', i', g1, g2, g3⟩ := q7 b hb;exact ⟨p, r', i', g1, g2, xAu g3⟩) q9
       have := ih _ _ _ _ _ _ _ _ _ _ hi' q5 hp (hf.mono q1);rwa [hcf'] at this
     ·unfold wpOp;simp only [hoi, hw, Bool.false_eq_true, if_false];obtain ⟨K', h4, h5⟩ := xB1 h1;refine ⟨fun _ _ _ h => h, ?_⟩;have hi' := hi.step hsel hu hoi hir' hfr hiE (Pre.refl ρ) h3 h4 (xFI (v := .un) h2 rfl h4) hi.ho hi.go (Ex.refl [] w) (by simp) (Feet.refl w);have := ih _ _ _ _ _ _ _ _ _ _ hi' h5 hp hf;rwa [hcf'] at this
    ·have hEA : ∀ p ∈ E, p.1 ∈ A := fun p hp' => by
      obtain ⟨g1, g2⟩ := hi.er p hp';have g3 := hall p.1 g1;rw [g2] at g3;have g4 : Nat.beq i p.1 = false := by
       cases hb : Nat.beq i p.1 with
       | false => rfl
       | true => rw [xB7.2 ⟨p, hp', (nbT hb).symm⟩] at hiE; cases hiE
      rw [g4] at g3;exact xC7.1 (by simpa using g3)
     have hjA := hi.lo.only hon hEA hj hji;have hAj := hA j hjA;simp only [Bool.and_eq_true] at hAj;obtain ⟨⟨⟨hjr, hjf⟩, hjal⟩, _⟩ := hAj;have hjr' : j ∈ Region.ready .any ops c := by simpa using hjr
     obtain ⟨oj, d, k1, k2, k3, k7⟩ := hearly j hjA;have hal : xBW oj = true := by simpa [opAt, k1] using hjal
     obtain ⟨hju, hjE⟩ := hi.lo.unlisted (mem_ready.1 hj).1;have hcfj := xH6 hj;have hub := xMy hu k1 hal k2;rcases k7 with ⟨k7, g, v, h', k4, k5, k6⟩ | k7;rotate_left
     ·have hwant : Region.wanted oj (yielded ops a.tmps) = false := xWo hi.ko k7;unfold wpOp;simp only [k1, hwant, Bool.false_eq_true, if_false];refine ⟨fun _ _ _ h => h, ?_⟩;refine ihn _ ((j, 0) :: E) _ _ (by omega) ⟨hi.lo.early j _, xEI hi.cl hj, ?_, ?_, ?_, hi.ho, hi.go, ?_, hi.un⟩
      ·intro p hp';rcases List.mem_cons.1 hp' with rfl | hp'
       ·exact ⟨hjr', hjal⟩
       ·exact hi.er p hp'
      ·exact List.pairwise_cons.2 ⟨fun q hq => ⟨(fun e => by rw [xB7.2 ⟨q, hq, e.symm⟩] at hjE; cases hjE), fun _ => rfl⟩, hi.nd⟩
      ·rw [k2];exact hi.ko.other (hi.un j oj d k1 hal k2 hju) _
      ·intro p hp';rcases List.mem_cons.1 hp' with rfl | hp'
       ·refine (⟨oj, d, k1, k2, ?_, by rw [wanted_put oj a oj.dst _ (fun d' hd' => by rw [k2] at hd'; cases hd'; exact hub.1)]; exact hwant⟩ : ESk ops (a.put oj.dst undef) j);have hd : d < a.tmps.size := by rw [hi.ko.1]; exact k3
        rw [k2];simp [Act.put, hd]
       ·have hne : p.1 ≠ j := fun e => by rw [xB7.2 ⟨p, hp', e⟩] at hjE; cases hjE
        exact (hi.eo p hp').put hsel (oi := oj) (xGC k1 hjf hjr' (hi.er p hp').1 hne)
     obtain ⟨r1, info, mk, obj, _, hrun, _⟩ := al_ok hi.ko hi.ho.len hal k5 k6;have hwant : Region.wanted oj (yielded ops a.tmps) = true := xWo hi.ko k7;unfold wpOp;simp only [k1, hwant, if_true];refine .inl ?_;unfold Oper.wp;rw [hrun w, Oper.upon_value];refine ⟨GOk.ext (Ex.allocs w obj) hi.go, ?_⟩;refine ihn _ ((j, w.heap.size + 1) :: E) _ _ (by omega) ⟨hi.lo.early j _, xEI hi.cl hj, ?_, ?_, ?_, hi.ho.ext' (Ex.allocs w obj), hi.go, ?_, hi.un⟩
     ·intro p hp';rcases List.mem_cons.1 hp' with rfl | hp'
      ·exact ⟨hjr', hjal⟩
      ·exact hi.er p hp'
     ·refine List.pairwise_cons.2 ⟨fun q hq => ⟨fun e => ?_, fun e => ?_⟩, hi.nd⟩
      ·rw [xB7.2 ⟨q, hq, e.symm⟩] at hjE; cases hjE
      ·have h9 := hi.eo q hq;obtain ⟨q1, q2⟩ := q
       cases q2 with
       | zero => cases e
       | succ q2 =>
        obtain ⟨_, _, _, _, _, _, _, g8, _, _⟩ := (h9 : EOk P ops W0 ρ h a w q1 q2).ex;have := lt_of_block g8;have e' : w.heap.size + 1 = q2 + 1 := e;omega
     ·rw [k2];exact hi.ko.other (hi.un j oj d k1 hal k2 hju) _
     ·intro p hp';rcases List.mem_cons.1 hp' with rfl | hp'
      ·refine (⟨⟨oj, d, obj, mk, k1, k2, ?_, xCN w obj, by rw [wanted_put oj a oj.dst _ (fun d' hd' => by rw [k2] at hd'; cases hd'; exact hub.1)]; exact hwant, fun w2 => ?_⟩, hi.ho.ext.size, fun q r' i' g1 g2 g3 => ?_⟩ : EOk P ops W0 ρ h (a.put oj.dst (mk w.heap.size)) (w.alloc obj) j w.heap.size)
       ·have hd : d < a.tmps.size := by rw [hi.ko.1]; exact k3
        rw [k2];simp [Act.put, hd]
       ·rw [execOp_put oj (fun cs b => hsel j oj cs b k1) a oj.dst _ (fun d' hd' => by rw [k2] at hd'; cases hd'; exact hub.1)];exact hrun w2
       ·have := (hi.ho.ok q r' i' g1 g2).lt g3;have : w.heap.size < w.heap.size := this;omega
      ·have hne : p.1 ≠ j := fun e => by rw [xB7.2 ⟨p, hp', e⟩] at hjE; cases hjE
       have h9 := (hi.eo p hp').put hsel (oi := oj) (u := mk w.heap.size) (xGC k1 hjf hjr' (hi.er p hp').1 hne);obtain ⟨p1, p2⟩ := p
       cases p2 with
       | zero => exact h9
       | succ p2 => exact EOk.world (h9 : EOk P ops W0 ρ h (a.put oj.dst (mk w.heap.size)) w p1 p2) (Ex.allocs w obj) (by simp)
 ·cases he
end
end Go.Proofs.YtnomnijhlbalaaaGreatDoor
