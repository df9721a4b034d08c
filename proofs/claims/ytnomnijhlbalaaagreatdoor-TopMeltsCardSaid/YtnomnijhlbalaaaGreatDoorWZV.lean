/- A part of the proof of the theorem of the last file. No condition. By an AI agent. -/
import Derived.Test.YtnomnijhlbalaaaGreatDoorWZT
namespace Go.Proofs.YtnomnijhlbalaaaGreatDoor
open Go.RowKit
section
variable {P : Program} {N : Nat} {D : List Deferred} {S F : List Nat} {W0 : World} {ρ ρ' : List Info} {K : Slo} {h h' : List Root} {w w' : World} {a : Act} {o : Oper} {ops : Array Oper} {β : Type} {r : β} {call : xAT β}
theorem xB1 {v : PV} {k : Slo -> List Root -> Option β} (hr : xC5 N K o v h k = some r) : ∃ K', xHT N K o.dst v = some K' /\ k K' h = some r := by
 unfold xC5 at hr;split at hr
 ·rename_i K' hK'; exact ⟨K', hK', hr⟩
 ·cases hr
theorem xZd (hcall : xAS P call) (hK : KOk N D ρ K a) (hh : HOk S F W0 ρ h w) {ok : List Nat -> Bool} {k : List Nat -> Slo -> List Root -> Option β} (hr : xUT P N call ok K h o k = some r) {Q : Exit -> Act -> World -> Prop} {next : Act -> World -> Prop}
  (hn : ∀ (ρ' : List Info) (K' : Slo) (h' : List Root) (u : Value) (v : PV) (w' : World) (B t : List Nat), Pre ρ ρ' -> xHT N K o.dst v = some K' -> KOk N D ρ' K' (a.put o.dst u) -> HOk S F W0 ρ' h' w' -> k t K' h' = some r -> Ex B w w' -> (∀ b ∈ B, ∃ p ∈ t, ∃ r i, h[p]? = some r /\ ρ[p]? = some i /\ own i r b) ->
   (∀ q : Nat, q ∉ t -> q < h.length -> h'[q]? = h[q]?) -> Feet ρ h w ρ' h' -> (ok t = true \/ w' = w) -> next (a.put o.dst u) w') : o.wp P a w next Q := by
 unfold xUT at hr;have hv := xHQ (P := P) (o := o) hK hh;have same : ∀ {v : PV} {u : Value}, DenP ρ v u -> xC5 N K o v h (k []) = some r -> next (a.put o.dst u) w := by
  intro v u h3 h2;obtain ⟨K', h5, h6⟩ := xB1 h2;exact hn ρ K' h u v w [] [] (Pre.refl _) h5 (xFI hK h3 h5) hh h6 (Ex.refl _ _) (by simp) (fun _ _ _ => rfl) (Feet.refl w) (.inr rfl)
 split at hr
 ·rename_i g v hs;rw [hs] at hv;obtain ⟨h1, h2⟩ := xBH hr;obtain ⟨u, h3, h4⟩ := hv h1;unfold Oper.wp;rw [h4 w (Agree.refl _ _ _ _), Oper.upon_value];exact same h3 h2
 ·rename_i b x y hs;rw [hs] at hv;obtain ⟨u, h3, h4⟩ := hv;unfold Oper.wp;rw [h4 w (Agree.refl _ _ _ _), Oper.upon_value]
  cases b with
  | true => exact same h3 hr
  | false => exact same h3 hr
 ·have hm := xLH (P := P) (o := o) hK hh;split at hr
  ·rename_i g v h' t hs;rw [hs] at hm
   cases hok : ok t with
   | false => rw [hok] at hr; cases hr
   | true =>
    rw [hok] at hr;obtain ⟨h1, h2⟩ := xBH hr;obtain ⟨K', h5, h6⟩ := xB1 h2;obtain ⟨ρ', u, nx, w', B, q1, q2, q3, q4, q5, q6, q7, q8, q9⟩ := hm h1;unfold Oper.wp;rw [q4];have fin := hn ρ' K' h' u v w' B t q1 h5 (xFI (hK.mono q1) q2 h5) q5 h6 q6 q7 q8 q9 (.inl hok);rcases q3 with rfl | ⟨rfl, rfl⟩
    ·rw [Oper.upon_value]; exact fin
    ·rw [Oper.upon_skip]; exact fin
  ·rename_i f args hs;rw [hs] at hm;obtain ⟨vs, q1, q2, q3⟩ := hm;unfold Oper.wp;rw [q1, Oper.upon_enter];refine (hcall f args h _ r hr S F W0 ρ w vs q3 hh q2).mono fun e w' he => ?_;obtain ⟨ρ', h', v, u, B, t, rfl, e1, e2, e3, e4, e5, e6, e7, e8⟩ := he
   cases hok : ok t with
   | false => rw [hok] at e4; cases e4
   | true =>
    rw [hok] at e4;simp only [cond_true] at e4;obtain ⟨K', h5, h6⟩ := xB1 e4;exact hn ρ' K' h' u v w' B t e1 h5 (xFI (hK.mono e1) e2 h5) e3 h6 e5 e6 e7 e8 (.inl hok)
  ·cases hr
 ·cases hr
theorem xWo {ops : Array Oper} {a : Act} {ρ : List Info} {D : List Deferred} (hK : KOk N D ρ K a) {o : Oper} {b : Bool} (hg : gdSt ops K o = some b) : Region.wanted o (yielded ops a.tmps) = b := by
 unfold gdSt at hg;split at hg
 ·rename_i h; cases hg; exact xMj hK h
 ·rename_i h; cases hg; exact xMi hK h
 ·rename_i t b' want h;cases hg;rw [(xF5 hK h).1];cases b' <;> cases want <;> rfl
 ·cases hg
theorem xMp : ∀ {A : List Nat} {x : Option β}, early P N K h ops A x = some r -> x = some r /\ ∀ e ∈ A, ∃ o d, ops[e]? = some o /\ o.dst = some d /\ d < N /\ ((gdSt ops K o = some true /\ ∃ g v h', xHz P K h o = .stuck /\ stepM P K h o = .mem g v h' [] /\ AllB g) \/ gdSt ops K o = some false)
 | [], x, hr => ⟨hr, fun e he => by cases he⟩
 | e :: A, x, hr => by
  simp only [early] at hr;split at hr
  ·rename_i o ho;split at hr
   ·rename_i d b h3 h8
    cases hb : Nat.ble (d + 1) N with
    | false => rw [hb] at hr; cases hr
    | true =>
     rw [hb] at hr;simp only [cond_true] at hr
     cases b with
     | true =>
      simp only [cond_true] at hr;split at hr
      ·rename_i g v h' h1 h2;obtain ⟨h4, h5⟩ := xBH hr;obtain ⟨h6, h7⟩ := xMp h5;refine ⟨h6, fun e' he' => ?_⟩;rcases List.mem_cons.1 he' with rfl | he'
       ·exact ⟨o, d, ho, h3, Nat.le_of_ble_eq_true hb, .inl ⟨h8, g, v, h', h1, h2, h4⟩⟩
       ·exact h7 e' he'
      ·cases hr
     | false =>
      simp only [cond_false] at hr;obtain ⟨h6, h7⟩ := xMp hr;refine ⟨h6, fun e' he' => ?_⟩;rcases List.mem_cons.1 he' with rfl | he'
      ·exact ⟨o, d, ho, h3, Nat.le_of_ble_eq_true hb, .inr h8⟩
      ·exact h7 e' he'
   ·cases hr
  ·cases hr
theorem xCz (hK : KOk N D ρ K a) {f g : Slo -> Option β} (hr : xKl ops K o f g = some r) :
  (Region.wanted o (yielded ops a.tmps) = true /\ ∃ K1, f K1 = some r /\ KOk N D ρ K1 a /\ (∀ d, lkP K d = none -> lkP K1 d = none) /\ (o.guard = none -> K1 = K)) \/
  (Region.wanted o (yielded ops a.tmps) = false /\ ∃ K1, g K1 = some r /\ KOk N D ρ K1 a /\ (∀ d, lkP K d = none -> lkP K1 d = none) /\ o.guard ≠ none) := by
 unfold xKl at hr;split at hr
 ·rename_i hg;exact .inl ⟨xMj hK hg, K, hr, hK, fun _ h => h, fun _ => rfl⟩
 ·rename_i hg;refine .inr ⟨xMi hK hg, K, hr, hK, fun _ h => h, fun e => ?_⟩;unfold xWp at hg;rw [e] at hg;cases hg
 ·rename_i t b want hg;obtain ⟨h1, h2⟩ := xF5 hK hg;have hgn : o.guard ≠ none := fun e => by
   unfold xWp at hg;rw [e] at hg;cases hg
  have keep : ∀ (x : PV) (d : Nat), lkP K d = none -> lkP (xDr K t x) d = none := fun x d hd => by
   rw [xBq];split
   ·rename_i e; subst e; rw [h2] at hd; cases hd
   ·exact hd
  cases b with
  | true =>
   simp only [cond_true] at hr;have hK' := hK.bool h2 true rfl
   cases want with
   | true => exact .inl ⟨by rw [h1]; rfl, _, hr, hK', keep _, fun e => absurd e hgn⟩
   | false => exact .inr ⟨by rw [h1]; rfl, _, hr, hK', keep _, hgn⟩
  | false =>
   simp only [cond_false] at hr;have hK' := hK.bool h2 false rfl
   cases want with
   | true => exact .inr ⟨by rw [h1]; rfl, _, hr, hK', keep _, hgn⟩
   | false => exact .inl ⟨by rw [h1]; rfl, _, hr, hK', keep _, fun e => absurd e hgn⟩
 ·cases hr
theorem xID {K' : Slo} {v : PV} {dst : Option Tmp} (hs : xHT N K dst v = some K') {d : Nat} (hne : dst ≠ some d) (hd : lkP K d = none) : lkP K' d = none := by
 cases dst with
 | none => cases hs; exact hd
 | some t =>
  simp only [xHT] at hs
  cases hb : Nat.ble (t + 1) N with
  | false => rw [hb] at hs; cases hs
  | true =>
   rw [hb] at hs;cases hs;rw [xBq, if_neg (fun e => hne (by rw [e]))];exact hd
theorem KOk.other (hK : KOk N D ρ K a) {d : Nat} (hd : lkP K d = none) (u : Value) : KOk N D ρ K (a.put (some d) u) := by
 refine ⟨by simp [Act.put, hK.1], hK.2.1, fun t p hp => ?_⟩;obtain ⟨x, h1, h2⟩ := hK.2.2 t p hp;have hne : d ≠ t := fun e => by subst e; rw [hd] at hp; cases hp
 refine ⟨x, h1, ?_⟩;simp only [Act.put];rw [Array.getElem?_setIfInBounds_ne hne];exact h2
theorem KOk.have (hK : KOk N D ρ K a) {d : Nat} {v : PV} {u : Value} (hv : DenP ρ v u) (hu : a.tmps[d]? = some u) : KOk N D ρ (xDr K d v) a := by
 refine ⟨hK.1, hK.2.1, fun t p hp => ?_⟩;rw [xBq] at hp;split at hp
 ·rename_i e; subst e; cases hp; exact ⟨u, hv, hu⟩
 ·exact hK.2.2 t p hp
end
section
variable {P : Program} {N : Nat} {D : List Deferred} {S F : List Nat} {W0 : World} {ρ ρ' : List Info} {K : Slo} {h h' : List Root} {w w' : World} {a : Act} {o : Oper} {ops : Array Oper} {β : Type} {r : β} {call : xAT β}
abbrev Es := List (Nat × Nat)
def inE (E : Es) (j : Nat) : Bool := E.any (fun p => Nat.beq p.1 j)
theorem xB7 {E : Es} {j : Nat} : inE E j = true ↔ ∃ p ∈ E, p.1 = j := by
 unfold inE;rw [List.any_eq_true];constructor
 ·rintro ⟨p, hp, hb⟩; exact ⟨p, hp, nbT hb⟩
 ·rintro ⟨p, hp, rfl⟩; exact ⟨p, hp, Nat.beq_refl _⟩
structure LOk (ops : Array Oper) (c L : Array Bool) (E : Es) : Prop where
 cs : c.size = ops.size
 ls : L.size = ops.size
 eq : ∀ j, j < ops.size -> L.getD j true = (c.getD j true || inE E j)
theorem xFc {L : Array Bool} {j : Nat} (h : j < L.size) : L.getD j true = L.getD j false := by
 simp [Array.getD, h]
theorem xJv {L : Array Bool} {j : Nat} (h : L.getD j false = true) : j < L.size := by
 rcases Nat.lt_or_ge j L.size with h1 | h1
 ·exact h1
 ·simp [Array.getD, Nat.not_lt.2 h1] at h
theorem xOc {L : Array Bool} {j : Nat} (h : L.getD j true = false) : j < L.size := by
 rcases Nat.lt_or_ge j L.size with h1 | h1
 ·exact h1
 ·simp [Array.getD, Nat.not_lt.2 h1] at h
theorem xCf (L : Array Bool) (i j : Nat) : (L.setIfInBounds i true).getD j true = (L.getD j true || Nat.beq i j) := by
 by_cases e : i = j
 ·subst e;rw [Nat.beq_refl, Bool.or_true];rcases Nat.lt_or_ge i L.size with h1 | h1
  ·simp [Array.getD, h1]
  ·simp [Array.getD, Nat.not_lt.2 h1]
 ·rw [getD_set_ne true e]
  cases hb : Nat.beq i j with
  | true => exact absurd (nbT hb) e
  | false => simp
theorem LOk.canon {c L : Array Bool} {E : Es} (hl : LOk ops c L E) (i : Nat) : LOk ops (c.setIfInBounds i true) (L.setIfInBounds i true) E :=
 ⟨by simpa using hl.cs, by simpa using hl.ls, fun j hj => by rw [xCf, xCf, hl.eq j hj]; cases c.getD j true <;> cases inE E j <;> cases Nat.beq i j <;> rfl⟩
theorem LOk.early {c L : Array Bool} {E : Es} (hl : LOk ops c L E) (i b : Nat) : LOk ops c (L.setIfInBounds i true) ((i, b) :: E) :=
 ⟨hl.cs, by simpa using hl.ls, fun j hj => by
  rw [xCf, hl.eq j hj];simp only [inE, List.any_cons];cases c.getD j true <;> cases (E.any fun p => Nat.beq p.1 j) <;> cases Nat.beq i j <;> rfl⟩
def xPP (i : Nat) (E : Es) : Es := E.filter (fun p => !Nat.beq p.1 i)
theorem LOk.stutter {c L : Array Bool} {E : Es} (hl : LOk ops c L E) {i : Nat} (hi : inE E i = true) : LOk ops (c.setIfInBounds i true) L (xPP i E) := by
 refine ⟨by simpa using hl.cs, hl.ls, fun j hj => ?_⟩;rw [xCf, hl.eq j hj];by_cases e : i = j
 ·subst e;rw [hi, Nat.beq_refl]; simp
 ·have h1 : Nat.beq i j = false := by
   cases hb : Nat.beq i j with
   | true => exact absurd (nbT hb) e
   | false => rfl
  have h2 : inE (xPP i E) j = inE E j := by
   cases hx : inE E j with
   | true =>
    obtain ⟨p, hp, rfl⟩ := xB7.1 hx;exact xB7.2 ⟨p, List.mem_filter.2 ⟨hp, by
     cases hb : Nat.beq p.1 i with
     | true => exact absurd (nbT hb).symm e
     | false => rfl⟩, rfl⟩
   | false =>
    cases hy : inE (xPP i E) j with
    | false => rfl
    | true =>
     obtain ⟨p, hp, rfl⟩ := xB7.1 hy;rw [xB7.2 ⟨p, (List.mem_filter.1 hp).1, rfl⟩] at hx; cases hx
  rw [h1, h2, Bool.or_false]
theorem xHV {c : Array Bool} {j : Nat} (hr : j ∈ Region.ready .any ops c) : j < ops.size := by
 obtain ⟨_, o, ho, _⟩ := mem_ready.1 hr;exact (Array.getElem?_eq_some_iff.1 ho).1
theorem LOk.ready {c L : Array Bool} {E : Es} (hl : LOk ops c L E) {j : Nat} (hr : j ∈ Region.ready .any ops c) (hj : inE E j = false) : j ∈ Region.ready .any ops L := by
 have hlt := xHV hr;rw [mem_ready] at hr ⊢;obtain ⟨h0, o, ho, hall⟩ := hr;refine ⟨by rw [hl.eq j hlt, h0, hj]; rfl, o, ho, fun e he hb => ?_⟩;have h1 := hall e he hb;have h2 := xJv h1;rw [hl.cs] at h2;rw [<- xFc (by rw [hl.ls]; exact h2), hl.eq _ h2, xFc (by rw [hl.cs]; exact h2), h1];rfl
theorem LOk.unlisted {c L : Array Bool} {E : Es} (hl : LOk ops c L E) {j : Nat} (h : L.getD j true = false) : c.getD j true = false /\ inE E j = false := by
 have h1 := xOc h;rw [hl.ls] at h1;rw [hl.eq j h1] at h;simpa using h
theorem xIY : ∀ (A : List Nat) (c : Array Bool) (j : Nat), j ∉ A -> (xGw A c).getD j true = c.getD j true
 | [], _, _, _ => rfl
 | x :: A, c, j, hj => by
  simp only [List.mem_cons, not_or] at hj;show (xGw A (c.setIfInBounds x true)).getD j true = _;rw [xIY A _ j hj.2, getD_set_ne true (Ne.symm hj.1)]
theorem xG4 : ∀ (A : List Nat) (c : Array Bool) (j : Nat), j < c.size -> (j ∈ A \/ c.getD j false = true) -> (xGw A c).getD j false = true
 | [], _, _, _, h => h.resolve_left (by simp)
 | x :: A, c, j, hlt, h => by
  show (xGw A (c.setIfInBounds x true)).getD j false = true;refine xG4 A _ j (by simpa using hlt) ?_;rcases h with h | h
  ·rcases List.mem_cons.1 h with rfl | h
   ·refine .inr ?_;rw [<- xFc (by simpa using hlt), xCf, Nat.beq_refl, Bool.or_true]
   ·exact .inl h
  ·exact .inr (getD_set_true h)
theorem LOk.only {c L : Array Bool} {E : Es} (hl : LOk ops c L E) {A : List Nat} {i : Nat} (ho : only .any ops c A i = true) (hE : ∀ p ∈ E, p.1 ∈ A) {j : Nat} (hr : j ∈ Region.ready .any ops L) (hne : j ≠ i) : j ∈ A := by
 apply Classical.byContradiction;intro hj;have hlt := xHV hr;have hm : j ∈ Region.ready .any ops (xGw A c) := by
  rw [mem_ready] at hr ⊢;obtain ⟨h0, o, hoj, hall⟩ := hr;refine ⟨by rw [xIY A c j hj]; exact (hl.unlisted h0).1, o, hoj, fun e he hb => ?_⟩;have h1 := hall e he hb;have h2 := xJv h1;rw [hl.ls] at h2;refine xG4 A c _ (by rw [hl.cs]; exact h2) ?_;rw [<- xFc (by rw [hl.ls]; exact h2), hl.eq _ h2] at h1;rcases Bool.or_eq_true_iff.1 h1 with h3 | h3
  ·exact .inr (by rw [<- xFc (by rw [hl.cs]; exact h2)]; exact h3)
  ·obtain ⟨p, hp, e1⟩ := xB7.1 h3;exact .inl (e1 ▸ hE p hp)
 unfold Go.Proofs.YtnomnijhlbalaaaGreatDoor.only at ho;split at ho
 ·rename_i j' hj';rw [hj'] at hm;rw [nbT ho] at hne;exact hne (by simpa using hm)
 ·cases ho
theorem xH6 {L : Array Bool} {j : Nat} (hr : j ∈ Region.ready .any ops L) : cf (L.setIfInBounds j true).toList + 1 = cf L.toList := by
 obtain ⟨h0, _⟩ := mem_ready.1 hr;have hlt := xOc h0;rw [Array.toList_setIfInBounds];refine cf_set _ _ ?_;rw [Array.getElem?_toList, Array.getElem?_eq_getElem hlt];simpa [Array.getD, hlt] using h0
structure Inv (P : Program) (ops : Array Oper) (N : Nat) (D : List Deferred) (S F : List Nat) (W0 : World) (c L : Array Bool) (E : Es) (Gd : Reads) (G : Gs) (ρ : List Info) (K : Slo) (h : List Root) (a : Act) (w : World) : Prop where
 lo : LOk ops c L E
 cl : Closed .any ops L
 er : ∀ p ∈ E, p.1 ∈ Region.ready .any ops c /\ opAt xBW ops p.1 = true
 nd : E.Pairwise (fun p q => p.1 ≠ q.1 /\ (p.2 = q.2 -> p.2 = 0))
 ko : KOk N D ρ K a
 ho : HOk S F W0 ρ h w
 go : GOk ρ h Gd G
 eo : ∀ p ∈ E, EOkO P ops W0 ρ h a w p.1 p.2
 un : ∀ (j : Nat) (oj : Oper) (d : Nat), ops[j]? = some oj -> xBW oj = true -> oj.dst = some d -> c.getD j true = false -> lkP K d = none
theorem xMy (hu : xHu ops = true) {j : Nat} {oj : Oper} (hj : ops[j]? = some oj) (ha : xBW oj = true) {d : Nat} (hd : oj.dst = some d) : d ∉ oj.looksAt ops /\ ∀ (i : Nat) (oi : Oper), ops[i]? = some oi -> i ≠ j -> oi.dst ≠ some d := by
 unfold xHu at hu;rw [List.all_eq_true] at hu;have h1 := hu j (List.mem_range.2 (Array.getElem?_eq_some_iff.1 hj).1);simp only [opAt, hj, ha, Bool.not_true, Bool.false_or, hd, Bool.and_eq_true, Bool.not_eq_true', List.all_eq_true] at h1;refine ⟨by simpa using h1.1, fun i oi hi hne e => ?_⟩;have h2 := h1.2 i (List.mem_range.2 (Array.getElem?_eq_some_iff.1 hi).1);rw [hi] at h2;simp only [e, Bool.or_eq_true, Bool.not_eq_true'] at h2;rcases h2 with h2 | h2
 ·exact hne (nbT h2)
 ·rw [Nat.beq_refl] at h2; cases h2
theorem xGC {c : Array Bool} {i : Nat} {oi : Oper} (hi : ops[i]? = some oi) (hf : Region.free .any ops c i = true) (hir : i ∈ Region.ready .any ops c) {j : Nat} (hjr : j ∈ Region.ready .any ops c) (hne : j ≠ i) : ∀ oj, ops[j]? = some oj -> oi.apart ops oj = true := by
 intro oj hj;obtain ⟨h0, o, ho, hall⟩ := mem_ready.1 hjr;rw [hj] at ho; cases ho;refine Region.free_spec hi hf j oj hj hne h0 (fun e he hb heq => ?_);have h1 := hall e he hb;rw [heq, xDP hir] at h1; cases h1
end
end Go.Proofs.YtnomnijhlbalaaaGreatDoor
