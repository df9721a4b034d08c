/- References and arenas: what is held in a slot or a root of its own becomes an object of an arena, and back. No condition. -/
import Derived.Test.YthmicafabimfkaaGreatDoorWZ8

namespace Go.Proofs.YthmicafabimfkaaGreatDoor
noncomputable section
open Go.RowKit
noncomputable def xDj (K : Slo) (t : Nat) (v : PV) : Slo :=
 Slo.rec (motive := fun _ => Nat -> Slo) (fun n => oneP v (Nat.succ n) n) (fun u l r il ir n => Bool.rec (Bool.rec (.node u l (ir (Slo.way n))) (.node u (il (Slo.way n)) r) (Slo.odd n)) (.node (some v) l r) (Nat.beq n 0)) K t
theorem xVz (t : Nat) (v : PV) : xDj .nil t v = oneP v (t + 1) t := rfl
theorem xSa (u : Option PV) (l r : Slo) (t : Nat) (v : PV) : xDj (.node u l r) t v = bif Nat.beq t 0 then .node (some v) l r else bif Slo.odd t then .node u (xDj l (Slo.way t) v) r else .node u l (xDj r (Slo.way t) v) := by
 show @Bool.rec (fun _ => Slo) (@Bool.rec (fun _ => Slo) (.node u l (xDj r (Slo.way t) v)) (.node u (xDj l (Slo.way t) v) r) (Slo.odd t)) (.node (some v) l r) (Nat.beq t 0) = _;cases Nat.beq t 0
 ·cases Slo.odd t <;> rfl
 ·rfl
theorem xBn : ∀ (t : Nat) (v : PV) (K : Slo) (s : Nat), lkP (xDj K t v) s = if s = t then some v else lkP K s
 | t, v, .nil, s => by rw [xVz, xK7 v _ _ _ (Nat.lt_succ_self t), xEY]
 | t, v, .node u l r, s => by
  rw [xSa]
  cases ht : Nat.beq t 0 with
  | true =>
   have := nbT ht;subst this;simp only [cond_true, xCp]
   cases hs : Nat.beq s 0 with
   | true => have := nbT hs; subst this; rfl
   | false => rw [if_neg (Nat.ne_of_beq_eq_false hs)]; rfl
  | false =>
   simp only [cond_false]
   cases ho : Slo.odd t with
   | true =>
    simp only [cond_true, xCp]
    cases hs : Nat.beq s 0 with
    | true =>
     have e := nbT hs;rw [if_neg (fun e' => by rw [<- e', e] at ht; cases ht)]; rfl
    | false =>
     simp only [cond_false]
     cases hso : Slo.odd s with
     | false => rw [if_neg (fun e' => by rw [e', ho] at hso; cases hso)]; rfl
     | true =>
      simp only [cond_true, xBn _ v l];by_cases hw : Slo.way s = Slo.way t
      ·rw [if_pos hw, if_pos (Slo.way_eq hs ht (by rw [hso, ho]) hw)]
      ·rw [if_neg hw, if_neg (fun e => hw (by rw [e]))]
   | false =>
    simp only [cond_false, xCp]
    cases hs : Nat.beq s 0 with
    | true =>
     have e := nbT hs;rw [if_neg (fun e' => by rw [<- e', e] at ht; cases ht)]; rfl
    | false =>
     simp only [cond_false]
     cases hso : Slo.odd s with
     | true => rw [if_neg (fun e' => by rw [e', ho] at hso; cases hso)]; rfl
     | false =>
      simp only [cond_false, xBn _ v r];by_cases hw : Slo.way s = Slo.way t
      ·rw [if_pos hw, if_pos (Slo.way_eq hs ht (by rw [hso, ho]) hw)]
      ·rw [if_neg hw, if_neg (fun e => hw (by rw [e]))]
def xDP {α : Type} (os : List (Option (List α))) : Nat -> List (Option (List α))
 | 0 => os
 | m + 1 => os.set m none
def isRf : TC -> Bool
 | .rf _ _ => true
 | _ => false
def rfC : CV -> Bool
 | .rf _ _ _ => true
 | _ => false
def xIb (f : List Root -> Nat -> Nat -> CV -> Option (CV × List Root × List Nat)) : List Root -> List TC -> List CV -> Option (List CV × List Root × List Nat)
 | h, .rf q t :: ls, c :: cs => match f h q t c with
  | some (c', h1, t1) => match xIb f h1 ls cs with
   | some (cs', h2, t2) => some (c' :: cs', h2, t1 ++ t2)
   | none => none
  | none => none
 | h, _ :: ls, c :: cs => match xIb f h ls cs with
  | some (cs', h2, t2) => some (c :: cs', h2, t2)
  | none => none
 | h, _, cs => some (cs, h, [])
def xBw (h : List Root) (p q : Nat) : List Root := (h.set p .dead).set q .dead
def xVI (t : Nat) (h : List Root) : Bool := (xA3 t h 0).isNone
/-- One cell becomes a reference. -/
def pack1 (f : List Root -> Nat -> Nat -> CV -> Option (CV × List Root × List Nat)) (h : List Root) (q t : Nat) (c : CV) : Option (CV × List Root × List Nat) :=
 match c with
 | .rf q' t' n => bif Nat.beq q q' && Nat.beq t t' then some (.rf q' t' n, h, []) else none
 | .sl id k off none none => match q, h[id]?, xA3 t h 0 with
  | 1, some (.rows T τ xs), some (p, .ars _ T' τ' os) => if e : xGP τ τ' = true then bif Nat.beq T T' && Nat.beq k τ.w && xVI t (xBw h p id) then some (.rf 1 t (os.length + 1), xBw h p id ++ [.ars t T' τ' (os ++ [some ((xAC e ▸ xs).drop off)])], [p, id]) else none else none
  | _, _, _ => none
 | .sl id k off (some m) none => match q, h[id]?, xA3 t h 0 with
  | 1, some (.rows T τ xs), some (p, .ars _ T' τ' os) => if e : xGP τ τ' = true then bif Nat.beq T T' && Nat.beq k τ.w && xVI t (xBw h p id) then some (.rf 1 t (os.length + 1), xBw h p id ++ [.ars t T' τ' (os ++ [some (((xAC e ▸ xs).drop off).take m)])], [p, id]) else none else none
  | _, _, _ => none
 | .pt id 0 0 0 => match q, h[id]?, xA3 t h 0 with
  | 0, some (.blk cs T), some (_, .aro _ _ τ0 _) => match xIb f h τ0.leaves cs with
   | some (cs', h1, t1) => match h1[id]?, xA3 t h1 0 with
    | some (.blk _ _), some (p, .aro _ T' τ os) => match τ.dec1 cs' with
     | some x => bif Nat.beq T T' && Nat.ble 1 τ.w && xVI t (xBw h1 p id) then some (.rf 0 t (os.length + 1), xBw h1 p id ++ [.aro t T' τ (os ++ [x])], t1 ++ [p, id]) else none
     | none => none
    | _, _ => none
   | none => none
  | _, _, _ => none
 | .hv id => match q, h[id]?, xA3 t h 0 with
  | 2, some (.mp κ agg τ ts), some (p, .arm _ κ' agg' τ' os) => if e0 : kkEq κ κ' = true then if e : xGP τ τ' = true then bif (agg == agg') && xVI t (xBw h p id) then some (.rf 2 t (os.length + 1), xBw h p id ++ [.arm t κ' agg τ' (os ++ [some (xQ1 (xCn e0) (xAC e) ts)])], [p, id]) else none else none else none
  | _, _, _ => none
 | c => bif rfC (nil1 q t c) then some (nil1 q t c, h, []) else none
def xSk : Nat -> List Root -> Nat -> Nat -> CV -> Option (CV × List Root × List Nat)
 | 0 => fun _ _ _ _ => none
 | d + 1 => pack1 (xSk d)
/-- What a ghost step comes to: guards, slots, roots, and the roots that it took. -/
abbrev GhR := Option (List Bool × Slo × List Root × List Nat)
def ghP (K : Slo) (h : List Root) (ls : List TC) (x : Operand) : GhR :=
 bif ls.any isRf then match x with
  | .tmp t => match lkP K t with
   | some (.c c) => match xIb (xSk 4) h ls [c] with
    | some ([c'], h', T) => some ([], xDj K t (.c c'), h', T)
    | _ => none
   | some (.ag l) => match xIb (xSk 4) h ls l with
    | some (l', h', T) => some ([], xDj K t (.ag l'), h', T)
    | none => none
   | _ => none
  | _ => some ([], K, h, [])
 else some ([], K, h, [])
/-- The elements of a slice of its own become references. -/
def rtyP (P : Program) (K : Slo) (h : List Root) (t : TypeId) (x : Operand) : GhR :=
 match P.underlying t with
 | some (.slice e) => bif (xBo P 20 e).leaves.any isRf then match x with
  | .tmp s => match lkP K s with
   | some (.c (.sl id k off n c)) => match h[id]? with
    | some (.rows T τ' ys) => bif xGP τ' (xBo P 20 e) then some ([], K, h, []) else match xIb (xSk 4) h (List.replicate ys.length (xBo P 20 e).leaves).flatten (flat τ' ys) with
     | some (cs, h1, t1) => match h1[id]?, xFV (xBo P 20 e) ys.length cs with
      | some (.rows _ _ _), some zs => bif Nat.beq τ'.w (xBo P 20 e).w then some ([], xDj K s (.c (.sl h1.length k off n c)), h1.set id .dead ++ [.rows T (xBo P 20 e) zs], t1 ++ [id]) else none
      | _, _ => none
     | none => none
    | _ => some ([], K, h, [])
   | _ => some ([], K, h, [])
  | _ => some ([], K, h, [])
  else some ([], K, h, [])
 | _ => some ([], K, h, [])
def xWb (a : GhR) (f : Slo -> List Root -> GhR) : GhR :=
 match a with
 | some (g1, K1, h1, t1) => match f K1 h1 with
  | some (g2, K2, h2, t2) => some (g1 ++ g2, K2, h2, t1 ++ t2)
  | none => none
 | none => none
def unpP (K : Slo) (h : List Root) (x : Operand) : GhR :=
 match x with
 | .tmp s => match lkP K s with
  | some (.c (.rf 1 t n)) => match xA3 t h 0 with
   | some (p, .ars t' T τ os) => bif Nat.ble 1 τ.w then some ([xDA os n], xDj K s (.c (.sl (h.length + 1) τ.w 0 none none)), h.set p .dead ++ [.ars t' T τ (xDP os n), .rows T τ (rowAt os n)], [p]) else none
   | _ => none
  | _ => some ([], K, h, [])
 | _ => some ([], K, h, [])
def unpL : List Nat -> Slo -> List Root -> GhR
 | [], K, h => some ([], K, h, [])
 | t :: l, K, h => xWb (unpP K h (.tmp t)) (unpL l)
def rootTC : Root -> Option TC
 | .rows _ τ _ => some τ
 | .ars _ _ τ _ => some τ
 | .aro _ _ τ _ => some τ
 | _ => none
/-- What the place is that a store goes to. -/
def placeTC (h : List Root) : CV -> Option (TC × Nat)
 | .pt id _ _ j => match h[id]? with
  | some r => (rootTC r).map (fun τ => (τ, j))
  | none => none
 | c => match rpOf c with
  | some (t, _, _, _, j) => match xA3 t h 0 with
   | some (_, r) => (rootTC r).map (fun τ => (τ, j))
   | none => none
  | none => none
def ghost (P : Program) (K : Slo) (h : List Root) (o : Oper) : GhR :=
 match o.op with
 | .store _ x y => match xAt K x with
  | some (.c c) => match placeTC h c with
   | some (τ, j) => ghP K h (τ.leaves.drop j) y
   | none => some ([], K, h, [])
  | _ => some ([], K, h, [])
 | .mapUpdate _ m _ y => match xAt K m with
  | some (.c c) => match xKZ h c with
   | some M => ghP K h M.τ.leaves y
   | none => some ([], K, h, [])
  | _ => some ([], K, h, [])
 | .insert _ m _ y => match xAt K m with
  | some (.c c) => match xKZ h c with
   | some M => ghP K h M.τ.leaves y
   | none => some ([], K, h, [])
  | _ => some ([], K, h, [])
 | .call ⟨.builtin .append, ⟨[s, x]⟩, ⟨[t, _]⟩⟩ => xWb (rtyP P K h t x) (fun K h => unpP K h s)
 | _ => some ([], K, h, [])
/-- An operation that changes memory, or calls; what must be is put into arenas first. -/
def stepM (P : Program) (K : Slo) (h : List Root) (o : Oper) : Step :=
 match ghost P K h o with
 | some (g, K', h', T) => match xCE P K' h' o with
  | .mem g' v h2 t => .mem (g ++ g') v h2 (T ++ t)
  | _ => xCE P K h o
 | none => .stuck
theorem xNr {P : Program} {K : Slo} {h : List Root} {o : Oper} (hg : ghost P K h o = some ([], K, h, [])) : stepM P K h o = xCE P K h o := by
 unfold stepM;rw [hg];dsimp only;cases xCE P K h o <;> rfl
end
end Go.Proofs.YthmicafabimfkaaGreatDoor


namespace Go.Proofs.YthmicafabimfkaaGreatDoor
open Go.RowKit
section
variable {P : Program} {N : Nat} {D : List Deferred} {S F : List Nat} {W0 : World} {ρ ρ1 ρ2 : List Info} {K : Slo} {h h1 h2 : List Root} {w : World} {a : Act} {o : Oper}
/-- The same memory, described anew. -/
structure Gst (ρ : List Info) (h : List Root) (ρ' : List Info) (h' : List Root) (T : List Nat) : Prop where
 pre : Pre ρ ρ'
 leq : ρ.length = h.length
 len : h.length <= h'.length
 same : ∀ q : Nat, q ∉ T -> q < h.length -> h'[q]? = h[q]?
 old : ∀ (q : Nat) (r : Root), q < h.length -> h'[q]? = some r -> r = .dead \/ h[q]? = some r
 feet : ∀ (q : Nat) (r : Root) (i : Info) (b : Nat), h'[q]? = some r -> ρ'[q]? = some i -> foot i r b -> ∃ (p : Nat) (r0 : Root) (i0 : Info), h[p]? = some r0 /\ ρ[p]? = some i0 /\ foot i0 r0 b
 owns : ∀ (q : Nat) (r : Root) (i : Info) (b : Nat), h.length <= q -> h'[q]? = some r -> ρ'[q]? = some i -> own i r b -> ∃ p ∈ T, ∃ (r0 : Root) (i0 : Info), h[p]? = some r0 /\ ρ[p]? = some i0 /\ own i0 r0 b
theorem Gst.refl (hl : ρ.length = h.length) : Gst ρ h ρ h [] :=
 ⟨Pre.refl _, hl, Nat.le_refl _, fun _ _ _ => rfl, fun _ _ _ e => .inr e, fun q r i b h1 h2 h3 => ⟨q, r, i, h1, h2, h3⟩, fun q r i b hq h1 _ _ => by have := (List.getElem?_eq_some_iff.1 h1).1; omega⟩
theorem xNH (hp : Pre ρ ρ1) {q : Nat} (hq : q < ρ.length) {i : Info} (hi : ρ1[q]? = some i) : ρ[q]? = some i := by
 have := hp q _ (List.getElem?_eq_getElem hq);rw [this] at hi;rw [List.getElem?_eq_getElem hq]; exact hi
theorem Gst.trans {T1 T2 : List Nat} (a1 : Gst ρ h ρ1 h1 T1) (a2 : Gst ρ1 h1 ρ2 h2 T2) : Gst ρ h ρ2 h2 (T1 ++ T2) := by
 refine ⟨a1.pre.trans a2.pre, a1.leq, Nat.le_trans a1.len a2.len, fun q hq hl => ?_, fun q r hl hr => ?_, fun q r i b h3 h4 h5 => ?_, fun q r i b hl h3 h4 h5 => ?_⟩
 ·rw [List.mem_append, not_or] at hq;rw [a2.same q hq.2 (Nat.lt_of_lt_of_le hl a1.len), a1.same q hq.1 hl]
 ·rcases a2.old q r (Nat.lt_of_lt_of_le hl a1.len) hr with h3 | h3
  ·exact .inl h3
  ·exact a1.old q r hl h3
 ·obtain ⟨p, r0, i0, g1, g2, g3⟩ := a2.feet q r i b h3 h4 h5;exact a1.feet p r0 i0 b g1 g2 g3
 ·have back : ∀ (p : Nat) (r0 : Root) (i0 : Info), h1[p]? = some r0 -> ρ1[p]? = some i0 -> own i0 r0 b -> (p ∈ T2 \/ h.length <= p) -> ∃ p ∈ T1 ++ T2, ∃ (r0 : Root) (i0 : Info), h[p]? = some r0 /\ ρ[p]? = some i0 /\ own i0 r0 b := by
   intro p r0 i0 g1 g2 g3 g4;rcases Nat.lt_or_ge p h.length with hlt | hge
   ·rcases a1.old p r0 hlt g1 with rfl | g5
    ·cases g3
    ·rcases g4 with g4 | g4
     ·exact ⟨p, by simp [g4], r0, i0, g5, xNH a1.pre (by rw [a1.leq]; exact hlt) g2, g3⟩
     ·omega
   ·obtain ⟨p', hp', r1, i1, g5⟩ := a1.owns p r0 i0 b hge g1 g2 g3;exact ⟨p', by simp [hp'], r1, i1, g5⟩
  rcases Nat.lt_or_ge q h1.length with hlt | hge
  ·rcases a2.old q r hlt h3 with rfl | h6
   ·cases h5
   ·exact back q r i h6 (xNH a2.pre (by rw [a2.leq]; exact hlt) h4) h5 (.inr hl)
  ·obtain ⟨p, hp, r0, i0, g1, g2, g3⟩ := a2.owns q r i b hge h3 h4 h5;exact back p r0 i0 g1 g2 g3 (.inl hp)
theorem MemOk.ghost {T t : List Nat} {v : PV} {h' : List Root} (hG : Gst ρ h ρ1 h1 T) (hm : MemOk P S F W0 ρ1 h1 w a o v h' t) : MemOk P S F W0 ρ h w a o v h' (T ++ t) := by
 obtain ⟨ρ', u, nx, w', B, g1, g2, g3, g4, g5, g6, g7, g8, g9⟩ := hm;refine ⟨ρ', u, nx, w', B, hG.pre.trans g1, g2, g3, g4, g5, g6, fun b hb => ?_, fun q hq hl => ?_, fun q r i b hr hi hf => ?_⟩
 ·obtain ⟨p, hp, r, i, q1, q2, q3⟩ := g7 b hb;rcases Nat.lt_or_ge p h.length with hlt | hge
  ·rcases hG.old p r hlt q1 with rfl | q4
   ·cases q3
   ·exact ⟨p, by simp [hp], r, i, q4, xNH hG.pre (by rw [hG.leq]; exact hlt) q2, q3⟩
  ·obtain ⟨p', hp', q4⟩ := hG.owns p r i b hge q1 q2 q3;exact ⟨p', by simp [hp'], q4⟩
 ·rw [List.mem_append, not_or] at hq;rw [g8 q hq.2 (Nat.lt_of_lt_of_le hl hG.len), hG.same q hq.1 hl]
 ·rcases g9 q r i b hr hi hf with q1 | ⟨p, r0, i0, q1, q2, q3⟩
  ·exact .inl q1
  ·exact .inr (hG.feet p r0 i0 b q1 q2 q3)
theorem xEz : ∀ (L : List Nat) (h : List Root), (L.foldl (fun h p => h.set p .dead) h).length = h.length := by
 intro L
 induction L with
 | nil => intro h; rfl
 | cons p L ih => intro h; rw [List.foldl_cons, ih]; simp
theorem xPQ : ∀ (L : List Nat) (h : List Root) (q : Nat) (r : Root), (L.foldl (fun h p => h.set p .dead) h)[q]? = some r -> r = .dead \/ h[q]? = some r := by
 intro L
 induction L with
 | nil => intro h q r e; exact .inr e
 | cons p L ih =>
  intro h q r e;rw [List.foldl_cons] at e;rcases ih _ q r e with h1 | h2
  ·exact .inl h1
  ·rw [List.getElem?_set] at h2;split at h2
   ·split at h2
    ·exact .inl (Option.some.inj h2).symm
    ·cases h2
   ·exact .inr h2
theorem fold_ne : ∀ (L : List Nat) (h : List Root) (q : Nat), q ∉ L -> (L.foldl (fun h p => h.set p .dead) h)[q]? = h[q]? := by
 intro L
 induction L with
 | nil => intro h q _; rfl
 | cons p L ih =>
  intro h q hq;rw [List.mem_cons, not_or] at hq;rw [List.foldl_cons, ih _ _ hq.2, List.getElem?_set_ne (fun e => hq.1 e.symm)]
/-- Roots that are put together anew: what that leaves. -/
theorem xES (hl : ρ.length = h.length) (L : List Nat) (N : List (Info × Root)) (hN : ∀ (j : Nat) (x : Info × Root), N[j]? = some x -> ∀ b, foot x.1 x.2 b -> ∃ p ∈ L, ∃ r i, h[p]? = some r /\ ρ[p]? = some i /\ own i r b) :
  Gst ρ h (ρ ++ N.map Prod.fst) (L.foldl (fun h p => h.set p .dead) h ++ N.map Prod.snd) L := by
 have cases' : ∀ (q : Nat) (r : Root) (i : Info), (L.foldl (fun h p => h.set p .dead) h ++ N.map Prod.snd)[q]? = some r -> (ρ ++ N.map Prod.fst)[q]? = some i -> (r = .dead) \/ (q < h.length /\ h[q]? = some r /\ ρ[q]? = some i) \/ (∃ j : Nat, N[j]? = some (i, r)) := by
  intro q r i h1 h2;rcases Nat.lt_or_ge q h.length with hq | hq
  ·rw [List.getElem?_append_left (by rw [xEz]; exact hq)] at h1;rw [List.getElem?_append_left (by rw [hl]; exact hq)] at h2;rcases xPQ L h q r h1 with h3 | h4
   ·exact .inl h3
   ·exact .inr (.inl ⟨hq, h4, h2⟩)
  ·rw [List.getElem?_append_right (by rw [xEz]; exact hq), xEz, List.getElem?_map] at h1;rw [List.getElem?_append_right (by rw [hl]; exact hq), hl, List.getElem?_map] at h2;obtain ⟨x, hx, e1⟩ := Option.map_eq_some_iff.1 h1;rw [hx] at h2;cases h2;subst e1;exact .inr (.inr ⟨q - h.length, hx⟩)
 refine ⟨Pre.app _ _, hl, by rw [List.length_append, xEz]; omega, fun q hq hlt => ?_, fun q r hlt hr => ?_, fun q r i b h1 h2 h3 => ?_, fun q r i b hge h1 h2 h3 => ?_⟩
 ·rw [List.getElem?_append_left (by rw [xEz]; exact hlt), fold_ne L h q hq]
 ·rw [List.getElem?_append_left (by rw [xEz]; exact hlt)] at hr;exact xPQ L h q r hr
 ·rcases cases' q r i h1 h2 with rfl | ⟨_, h4, h5⟩ | ⟨j, h4⟩
  ·exact absurd h3 xBh
  ·exact ⟨q, r, i, h4, h5, h3⟩
  ·obtain ⟨p, _, r0, i0, g1, g2, g3⟩ := hN j _ h4 b h3;exact ⟨p, r0, i0, g1, g2, xAs g3⟩
 ·rcases cases' q r i h1 h2 with rfl | ⟨h4, _⟩ | ⟨j, h4⟩
  ·cases h3
  ·omega
  ·exact hN j _ h4 b (xAs h3)
theorem xIH {t : Nat} : ∀ {h : List Root} {p : Nat}, xA3 t h p = none -> ∀ (q : Nat) (r : Root), h[q]? = some r -> r.tag ≠ some t
 | [], _, _, q, r, e => by simp at e
 | x :: h, p, hn, q, r, e => by
  simp only [xA3] at hn;have both : x.tag ≠ some t /\ xA3 t h (p + 1) = none := by
   split at hn
   ·rename_i t' ht
    cases hb : Nat.beq t t' with
    | true => rw [hb] at hn; cases hn
    | false =>
     rw [hb] at hn;exact ⟨fun e => (by rw [ht] at e; cases e; rw [Nat.beq_refl] at hb; cases hb), hn⟩
   ·rename_i ht;exact ⟨fun e => (by rw [ht] at e; cases e), hn⟩
  cases q with
  | zero => simp only [List.getElem?_cons_zero, Option.some.injEq] at e; subst e; exact both.1
  | succ q => exact xIH both.2 q r (by simpa using e)
theorem xER {i : Info} {r : Root} {t : Nat} (ht : r.tag = some t) : (RootOk ρ w i r ↔ ArOk ρ w (i.objs t) r.obs) /\ ∀ b, own i r b ↔ xCo (i.objs t) r.obs b := by
 cases r <;> first | (cases ht; exact ⟨Iff.rfl, fun _ => Iff.rfl⟩) | (cases ht; exact ⟨Iff.rfl, fun _ => ⟨fun h => h.elim, fun h => absurd h xI9⟩⟩) | (cases ht; done)
theorem ArOk.push {vs : List Value} {os : List Ob} (hA : ArOk ρ w vs os) {v : Value} {ob : Ob} (ho : ObOk ρ w v ob) (hd : ∀ b, xC0 v ob b -> ¬ xCo vs os b) : ArOk ρ w (vs ++ [v]) (os ++ [ob]) := by
 have get : ∀ (m : Nat) (u : Value) (s : Ob), (vs ++ [v])[m]? = some u -> (os ++ [ob])[m]? = some s -> (vs[m]? = some u /\ os[m]? = some s) \/ (m = vs.length /\ u = v /\ s = ob) := by
  intro m u s h1 h2;rcases Nat.lt_or_ge m vs.length with hm | hm
  ·rw [List.getElem?_append_left hm] at h1;rw [List.getElem?_append_left (by rw [<- hA.1]; exact hm)] at h2;exact .inl ⟨h1, h2⟩
  ·rw [List.getElem?_append_right hm] at h1;rw [List.getElem?_append_right (by rw [<- hA.1]; exact hm)] at h2;have hlt := (List.getElem?_eq_some_iff.1 h1).1;simp only [List.length_singleton] at hlt;obtain rfl : m = vs.length := by omega
   rw [hA.1, Nat.sub_self] at h2;rw [Nat.sub_self] at h1;simp only [List.getElem?_cons_zero, Option.some.injEq] at h1 h2;exact .inr ⟨rfl, h1.symm, h2.symm⟩
 refine ⟨by simp [hA.1], fun m u s h1 h2 => ?_, fun m m' u u' s s' b hm h1 h2 h3 h4 h5 h6 => ?_⟩
 ·rcases get m u s h1 h2 with ⟨g1, g2⟩ | ⟨_, rfl, rfl⟩
  ·exact hA.2.1 m u s g1 g2
  ·exact ho
 ·rcases get m u s h1 h3 with ⟨g1, g2⟩ | ⟨e1, rfl, rfl⟩
  ·rcases get m' u' s' h2 h4 with ⟨g3, g4⟩ | ⟨_, rfl, rfl⟩
   ·exact hA.2.2 m m' u u' s s' b hm g1 g3 g2 g4 h5 h6
   ·exact hd b h6 ⟨m, u, s, g1, g2, h5⟩
  ·rcases get m' u' s' h2 h4 with ⟨g3, g4⟩ | ⟨e2, rfl, rfl⟩
   ·exact hd b h5 ⟨m', u', s', g3, g4, h6⟩
   ·exact hm (by rw [e1, e2])
theorem xQ5 {vs : List Value} {os : List Ob} (hl : vs.length = os.length) {v : Value} {ob : Ob} {b : Nat} (h : xCo (vs ++ [v]) (os ++ [ob]) b) : xCo vs os b \/ xC0 v ob b := by
 obtain ⟨m, u, s, h1, h2, h3⟩ := h;rcases Nat.lt_or_ge m vs.length with hm | hm
 ·rw [List.getElem?_append_left hm] at h1;rw [List.getElem?_append_left (by rw [<- hl]; exact hm)] at h2;exact .inl ⟨m, u, s, h1, h2, h3⟩
 ·rw [List.getElem?_append_right hm] at h1;rw [List.getElem?_append_right (by rw [<- hl]; exact hm)] at h2;have hlt := (List.getElem?_eq_some_iff.1 h1).1;simp only [List.length_singleton] at hlt;obtain rfl : m = vs.length := by omega
  rw [hl, Nat.sub_self] at h2;rw [Nat.sub_self] at h1;simp only [List.getElem?_cons_zero, Option.some.injEq] at h1 h2;subst h1; subst h2;exact .inr h3
/-- An arena takes one object more: what a root was till now. -/
theorem grow (hh : HOk S F W0 ρ h w) {p q t : Nat} {r rq r' : Root} {ip iq : Info} (hp : h[p]? = some r) (hip : ρ[p]? = some ip) (htag : r.tag = some t) (hq : h[q]? = some rq) (hiq : ρ[q]? = some iq) (hpq : p ≠ q) (htag' : r'.tag = some t) {ob : Ob} (hobs : r'.obs = r.obs ++ [ob]) {v : Value} (hob : ObOk ρ w v ob) (hown : ∀ b, xC0 v ob b -> own iq rq b) (hno : xVI t (xBw h p q) = true) (hnr : ∀ t τ os, r' ≠ Root.arr t τ os := by intros; exact fun e => by cases e) :
  ∃ ρ', Gst ρ h ρ' (xBw h p q ++ [r']) [p, q] /\ HOk S F W0 ρ' (xBw h p q ++ [r']) w /\ ∃ i', ρ'[h.length]? = some i' /\ (i'.objs t)[r.obs.length]? = some v := by
 obtain ⟨i', hi'⟩ : ∃ i' : Info, i' = ⟨none, 0, none, .tuple ⟨.int .u64 (t : Int) :: (ip.objs t ++ [v])⟩⟩ := ⟨_, rfl⟩;have hot : i'.objs t = ip.objs t ++ [v] := by subst hi'; simp [Info.objs]
 have hoo : ∀ t2, t2 ≠ t -> i'.objs t2 = [] := fun t2 hne => by
  subst hi';simp only [Info.objs];rw [if_neg (by omega)]
 have hA := (xER (ρ := ρ) (w := w) htag).1.1 (hh.ok p r ip hp hip);have hfoot : ∀ b, foot i' r' b -> ∃ x ∈ [p, q], ∃ r i, h[x]? = some r /\ ρ[x]? = some i /\ own i r b := fun b hb => by
  have hb' : xCo (i'.objs t) r'.obs b := ((xER (ρ := ρ) (w := w) htag').2 b).1 ((xVb htag' hnr).1 hb);rw [hot, hobs] at hb';rcases xQ5 hA.1 hb' with g | g
  ·exact ⟨p, by simp, r, ip, hp, hip, ((xER (ρ := ρ) (w := w) htag).2 b).2 g⟩
  ·exact ⟨q, by simp, rq, iq, hq, hiq, hown b g⟩
 have hdis : ∀ b, xC0 v ob b -> ¬ xCo (ip.objs t) r.obs b := fun b h1 h2 =>
  hh.sep p q r rq ip iq b hpq hp hq hip hiq (((xER (ρ := ρ) (w := w) htag).2 b).2 h2) (xAs (hown b h1))
 have hgst := xES hh.len [p, q] [(i', r')] (fun j x hx b hb => by
  cases j with
  | zero => simp only [List.getElem?_cons_zero, Option.some.injEq] at hx; subst hx; exact hfoot b hb
  | succ j => simp at hx)
 have hreg := hh.regroup [p, q] [(i', r')] (fun j x hx => by
  cases j with
  | zero =>
   simp only [List.getElem?_cons_zero, Option.some.injEq] at hx; subst hx;refine ⟨(xER htag').1.2 ?_, hfoot⟩;show ArOk _ w (i'.objs t) r'.obs;rw [hot, hobs];exact ArOk.mono (Pre.app _ _) (hA.push hob hdis)
  | succ j => simp at hx) (fun j k x y b hjk hx hy => by
  cases j with
  | zero => cases k with
   | zero => exact absurd rfl hjk
   | succ k => simp at hy
  | succ j => simp at hx) (fun j t2 x hx ht2 id i m u hi hu => by
  cases j with
  | zero =>
   simp only [List.getElem?_cons_zero, Option.some.injEq] at hx; subst hx;have ht2' : r'.tag = some t2 := ht2;rw [htag'] at ht2';cases ht2';rcases Nat.lt_or_ge id ρ.length with hlt | hge
   ·rw [List.getElem?_append_left hlt] at hi;have := hh.cov p t r ip hp hip htag id i m u hi hu;show (i'.objs t)[m]? = some u;rw [hot, List.getElem?_append_left (List.getElem?_eq_some_iff.1 this).1]; exact this
   ·rw [List.getElem?_append_right hge] at hi
    cases hk : id - ρ.length with
    | zero => rw [hk] at hi; simp only [List.map_cons, List.map_nil, List.getElem?_cons_zero, Option.some.injEq] at hi; rw [hi]; exact hu
    | succ k => rw [hk] at hi; simp at hi
  | succ j => simp at hx) (fun p2 t2 r2 i2 h2 hi2 hL ht2 j x m u hx hu => by
  cases j with
  | zero =>
   simp only [List.getElem?_cons_zero, Option.some.injEq] at hx; subst hx;have hu' : (i'.objs t2)[m]? = some u := hu;by_cases he : t2 = t
   ·subst he;have hnn := xIH (Option.isNone_iff_eq_none.1 hno) p2 r2 (by
     simp only [List.mem_cons, List.not_mem_nil, or_false, not_or] at hL;unfold xBw;rw [List.getElem?_set_ne (fun e => hL.2 e.symm), List.getElem?_set_ne (fun e => hL.1 e.symm)]; exact h2)
    exact absurd ht2 hnn
   ·rw [hoo t2 he] at hu'; simp at hu'
  | succ j => simp at hx) (fun j x hx => by
  cases j with
  | zero =>
   simp only [List.getElem?_cons_zero, Option.some.injEq] at hx; subst hx;exact .inr fun t2 ht2 => hoo t2 (fun e => ht2 (by rw [e]; exact htag'))
  | succ j => simp at hx)
 refine ⟨ρ ++ [i'], hgst, hreg, i', ?_, ?_⟩
 ·rw [<- hh.len]; simp
 ·rw [hot, <- hA.1]; simp
end
end Go.Proofs.YthmicafabimfkaaGreatDoor


namespace Go.Proofs.YthmicafabimfkaaGreatDoor
open Go.RowKit
section
variable {P : Program} {N : Nat} {D : List Deferred} {S F : List Nat} {W0 : World} {ρ : List Info} {K : Slo} {h : List Root} {w : World} {a : Act} {o : Oper}
def FOk (S F : List Nat) (W0 w : World) (f : List Root -> Nat -> Nat -> CV -> Option (CV × List Root × List Nat)) : Prop :=
 ∀ (ρ : List Info) (h : List Root) (q t : Nat) (c c' : CV) (h' : List Root) (T : List Nat) (v : Value), HOk S F W0 ρ h w -> Den ρ c v -> f h q t c = some (c', h', T) -> ∃ ρ', Gst ρ h ρ' h' T /\ HOk S F W0 ρ' h' w /\ Den ρ' c' v
theorem xEs {f : List Root -> Nat -> Nat -> CV -> Option (CV × List Root × List Nat)} (hf : FOk S F W0 w f) : ∀ (ls : List TC) (cs : List CV) (ρ : List Info) (h : List Root) (cs' : List CV) (h' : List Root) (T : List Nat) (vs : List Value), HOk S F W0 ρ h w -> DenL ρ cs vs -> xIb f h ls cs = some (cs', h', T) -> ∃ ρ', Gst ρ h ρ' h' T /\ HOk S F W0 ρ' h' w /\ DenL ρ' cs' vs
 | [], cs, ρ, h, cs', h', T, vs, hh, hd, hp => by
  simp only [xIb, Option.some.injEq, Prod.mk.injEq] at hp;obtain ⟨rfl, rfl, rfl⟩ := hp;exact ⟨ρ, Gst.refl hh.len, hh, hd⟩
 | l :: ls, [], ρ, h, cs', h', T, vs, hh, hd, hp => by
  have : some (([] : List CV), h, ([] : List Nat)) = some (cs', h', T) := by rw [<- hp]; cases l <;> rfl
  simp only [Option.some.injEq, Prod.mk.injEq] at this;obtain ⟨rfl, rfl, rfl⟩ := this;exact ⟨ρ, Gst.refl hh.len, hh, hd⟩
 | l :: ls, c :: cs, ρ, h, cs', h', T, vs, hh, ⟨v, r, e, hd1, hd2⟩, hp => by
  have plain : (match xIb f h ls cs with
    | some (cs', h2, t2) => some (c :: cs', h2, t2)
    | none => none) = some (cs', h', T) -> ∃ ρ', Gst ρ h ρ' h' T /\ HOk S F W0 ρ' h' w /\ DenL ρ' cs' vs := by
   intro hp;split at hp
   ·rename_i cs2 h2 t2 hq;simp only [Option.some.injEq, Prod.mk.injEq] at hp;obtain ⟨rfl, rfl, rfl⟩ := hp;obtain ⟨ρ', g1, g2, g3⟩ := xEs hf ls cs ρ h _ _ _ r hh hd2 hq;exact ⟨ρ', g1, g2, v, r, e, hd1.mono g1.pre, g3⟩
   ·cases hp
  cases l with
  | rf q t =>
   simp only [xIb] at hp;split at hp
   ·rename_i c1 h1 t1 hq1;split at hp
    ·rename_i cs2 h2 t2 hq2;simp only [Option.some.injEq, Prod.mk.injEq] at hp;obtain ⟨rfl, rfl, rfl⟩ := hp;obtain ⟨ρ1, g1, g2, g3⟩ := hf ρ h q t c c1 h1 t1 v hh hd1 hq1;obtain ⟨ρ2, g4, g5, g6⟩ := xEs hf ls cs ρ1 h1 _ _ _ r g2 (hd2.mono g1.pre) hq2;exact ⟨ρ2, g1.trans g4, g5, v, r, e, g3.mono g4.pre, g6⟩
    ·cases hp
   ·cases hp
  | _ => exact plain (by simp only [xIb] at hp; exact hp)
theorem xSl {T k : Nat} {aa : Option Addr} {cap n m : Nat} {vs : List Value} (hw : ownsAt w T k aa cap n vs) (hm : m <= n) : ownsAt w T k aa cap m (vs.take (m * k)) := by
 obtain ⟨k1, k2, k3, k4⟩ := hw;have hmk : m * k <= n * k := Nat.mul_le_mul_right _ hm;refine ⟨by rw [List.length_take, k1]; omega, by omega, k3, ?_⟩;rcases k4 with k4 | ⟨g, o, cur, k4, k5, k6, k7⟩
 ·exact .inl k4
 ·exact .inr ⟨g, o, cur, k4, k5, k6, by rw [<- k7, List.take_take, Nat.min_eq_left hmk]⟩
theorem xVD {f : List Root -> Nat -> Nat -> CV -> Option (CV × List Root × List Nat)} (hf : FOk S F W0 w f) : FOk S F W0 w (pack1 f) := by
 intro ρ h q t c c' h' T v hh hd hp;unfold pack1 at hp;split at hp
 ·rename_i q' t' n
  cases hb : (Nat.beq q q' && Nat.beq t t') with
  | false => rw [hb] at hp; cases hp
  | true =>
   rw [hb] at hp;simp only [cond_true, Option.some.injEq, Prod.mk.injEq] at hp;obtain ⟨rfl, rfl, rfl⟩ := hp;exact ⟨ρ, Gst.refl hh.len, hh, hd⟩
 ·rename_i id k off;split at hp
  ·rename_i T0 τ xs p t2 T' τ' os hid har;split at hp
   ·rename_i e;have e' := xAC e;subst e'
    cases hb : (Nat.beq T0 T' && Nat.beq k τ.w && xVI t (xBw h p id)) with
    | false => rw [hb] at hp; cases hp
    | true =>
     rw [hb] at hp;simp only [Bool.and_eq_true] at hb;obtain ⟨⟨hb1, hb2⟩, hb3⟩ := hb;have hb1 := nbT hb1;subst hb1;simp only [cond_true, Option.some.injEq, Prod.mk.injEq] at hp;obtain ⟨rfl, rfl, rfl⟩ := hp;obtain ⟨p', hpp, hrr, ht⟩ := xAD har;rw [Nat.zero_add] at hpp; subst hpp;obtain ⟨ip, hip⟩ := hh.info hrr;obtain ⟨i, a', c', nn, h1, h2, h3, h4, h5, h6, ⟨m0, h7, h8⟩, h9, h9', h10, h11⟩ := hd;obtain ⟨g0, g1, vs, g2, g3⟩ := hh.ok id _ i hid h1;obtain ⟨m1, h12, h13⟩ := h6;rw [g0] at h12; cases h12;rw [g0] at h7; cases h7;have hlen : (xs.drop off).length = nn := by rw [List.length_drop]; omega
     have g4 := xIc g3 (off := off) (by omega) a' h9' h10 (by rw [<- nbT hb2]; exact h11);rw [<- h9, <- List.length_drop] at g4;have hne : p ≠ id := fun e => by rw [e, hid] at hrr; cases hrr
     cases ht;obtain ⟨ρ', q1, q2, i', q3, q4⟩ := grow hh hrr hip rfl hid h1 hne (r' := .ars t T0 τ (os ++ [some (xs.drop off)])) rfl (ob := .row T0 τ (xs.drop off)) (by simp [Root.obs]) (v := v) ⟨_, _, by rw [h2, hlen]; rfl, g1, vs.drop (off * τ.w), by rw [xDe]; exact g2.drop _, g4⟩ (fun b hb => by
      have : xHK v = some b := hb;rw [h2] at this;show i.a.map (·.block) = some b;rw [<- h9']; exact this) hb3
     refine ⟨ρ', q1, q2, .inr ⟨os.length, h.length, i', rfl, q3, ?_, _, _, _, h2⟩⟩;rw [<- q4]; simp [Root.obs]
   ·cases hp
  ·cases hp
 ·rename_i id k off m;split at hp
  ·rename_i T0 τ xs p t2 T' τ' os hid har;split at hp
   ·rename_i e;have e' := xAC e;subst e'
    cases hb : (Nat.beq T0 T' && Nat.beq k τ.w && xVI t (xBw h p id)) with
    | false => rw [hb] at hp; cases hp
    | true =>
     rw [hb] at hp;simp only [Bool.and_eq_true] at hb;obtain ⟨⟨hb1, hb2⟩, hb3⟩ := hb;have hb1 := nbT hb1;subst hb1;simp only [cond_true, Option.some.injEq, Prod.mk.injEq] at hp;obtain ⟨rfl, rfl, rfl⟩ := hp;obtain ⟨p', hpp, hrr, ht⟩ := xAD har;rw [Nat.zero_add] at hpp; subst hpp;obtain ⟨ip, hip⟩ := hh.info hrr;obtain ⟨i, a', c', nn, h1, h2, h3, h4, h5, h6, ⟨m0, h7, h8⟩, h9, h9', h10, h11⟩ := hd;obtain ⟨g0, g1, vs, g2, g3⟩ := hh.ok id _ i hid h1;rw [g0] at h7; cases h7;simp only [Info.cnt] at h6;subst h6;have hlen : ((xs.drop off).take nn).length = nn := by rw [List.length_take, List.length_drop]; omega
     have g4 := xIc g3 (off := off) (by omega) a' h9' h10 (by rw [<- nbT hb2]; exact h11);rw [<- h9] at g4;have hne : p ≠ id := fun e => by rw [e, hid] at hrr; cases hrr
     cases ht;obtain ⟨ρ', q1, q2, i', q3, q4⟩ := grow hh hrr hip rfl hid h1 hne (r' := .ars t T0 τ (os ++ [some ((xs.drop off).take nn)])) rfl (ob := .row T0 τ ((xs.drop off).take nn)) (by simp [Root.obs]) (v := v) ⟨_, _, by rw [h2, hlen]; rfl, g1, (vs.drop (off * τ.w)).take (nn * τ.w), by rw [xDd, xDe]; exact (g2.drop _).take _, by rw [hlen]; exact xSl g4 (by omega)⟩ (fun b hb => by
      have : xHK v = some b := hb;rw [h2] at this;show i.a.map (·.block) = some b;rw [<- h9']; exact this) hb3
     refine ⟨ρ', q1, q2, .inr ⟨os.length, h.length, i', rfl, q3, ?_, _, _, _, h2⟩⟩;rw [<- q4]; simp [Root.obs]
   ·cases hp
  ·cases hp
 ·rename_i id;split at hp
  ·rename_i cs T0 p0 t0 T00 τ0 os0 hid har;split at hp
   ·rename_i cs' h1 t1 hpk;split at hp
    ·rename_i cs2 T2 p t2 T' τ os hid1 har1;split at hp
     ·rename_i x hx
      cases hb : (Nat.beq T0 T' && Nat.ble 1 τ.w && xVI t (xBw h1 p id)) with
      | false => rw [hb] at hp; cases hp
      | true =>
       rw [hb] at hp;simp only [Bool.and_eq_true] at hb;obtain ⟨⟨hb1, hb2⟩, hb3⟩ := hb;have hb1 := nbT hb1;have hb2 := Nat.le_of_ble_eq_true hb2;subst hb1;simp only [cond_true, Option.some.injEq, Prod.mk.injEq] at hp;obtain ⟨rfl, rfl, rfl⟩ := hp;obtain ⟨i, b, off, d1, d2, _, d4⟩ := hd;obtain ⟨_, b', vs, d5, d6, d7⟩ := hh.ok id _ i hid d1;rw [d2] at d5; cases d5;obtain ⟨ρ1, g1, g2, g3⟩ := xEs hf _ _ ρ h _ _ _ vs hh d6 hpk;obtain ⟨p', hpp, hrr, ht⟩ := xAD har1;rw [Nat.zero_add] at hpp; subst hpp;obtain ⟨ip, hip⟩ := g2.info hrr;have hne : p ≠ id := fun e => by rw [e, hid1] at hrr; cases hrr
       cases ht;have hxe := TC.dec1_enc hx;have hvl : vs.length = τ.w := by rw [g3.len, hxe, τ.enc_len]
       have hfl : flat τ [x] = cs' := by simp [flat, hxe]
       have hv : v = .pointer (some ⟨b, 0, none⟩) := by simpa using d4
       obtain ⟨ρ', q1, q2, i', q3, q4⟩ := grow g2 hrr hip rfl hid1 (g1.pre _ _ d1) hne (r' := .aro t T0 τ (os ++ [x])) rfl (ob := .row T0 τ [x]) (by simp [Root.obs]) (v := v) ⟨some ⟨b, 0, none⟩, 1, by rw [hv]; rfl, hb2, vs, by rw [hfl]; exact g3, by simp [hvl], Nat.le_refl _, by unfold maxLen; omega, .inr ⟨b, 0, vs.toArray, rfl, d7, by simp [hvl], by simp [<- hvl]⟩⟩ (fun b' hb => by
        have : xHK v = some b' := hb;rw [hv] at this;show i.a.map (·.block) = some b';rw [d2]; exact this) hb3
       refine ⟨ρ', g1.trans q1, q2, .inr ⟨os.length, h1.length, i', rfl, q3, ?_, b, 0, hv⟩⟩;rw [<- q4]; simp [Root.obs]
     ·cases hp
    ·cases hp
   ·cases hp
  ·cases hp
 ·rename_i id;split at hp
  ·rename_i κ agg τ ts p t2 κ' agg' τ' os hid har;split at hp
   ·rename_i e0;have e0' := xCn e0;subst e0';split at hp;rotate_left
    ·cases hp
    rename_i e;have e' := xAC e;subst e'
    cases hb : ((agg == agg') && xVI t (xBw h p id)) with
    | false => rw [hb] at hp; cases hp
    | true =>
     rw [hb] at hp;simp only [Bool.and_eq_true, beq_iff_eq] at hb;obtain ⟨hb2, hb3⟩ := hb;subst hb2;simp only [cond_true, Option.some.injEq, Prod.mk.injEq] at hp;obtain ⟨rfl, rfl, rfl⟩ := hp;obtain ⟨p', hpp, hrr, ht⟩ := xAD har;rw [Nat.zero_add] at hpp; subst hpp;obtain ⟨ip, hip⟩ := hh.info hrr;obtain ⟨i, d1, d2, d3⟩ := hd;obtain ⟨r, ents, clock, g1, g2, g3, g4⟩ := hh.ok id _ i hid d1;have hv : v = .map (some r) := by rw [d2, g1]
     have hne : p ≠ id := fun e => by rw [e, hid] at hrr; cases hrr
     cases ht;obtain ⟨ρ', q1, q2, i', q3, q4⟩ := grow hh hrr hip rfl hid d1 hne (r' := .arm t κ agg τ (os ++ [some ts])) rfl (ob := .mp κ agg τ ts) (by simp [Root.obs]) (v := v) ⟨r, ents, clock, hv, g3, g4⟩ (fun b hb => by
      have : xHK v = some b := hb;rw [hv] at this;show i.a.map (·.block) = some b;rw [g2]; exact this) hb3
     refine ⟨ρ', q1, q2, .inr ⟨os.length, h.length, i', rfl, q3, ?_, r, hv⟩⟩;rw [<- q4]; simp [Root.obs]
   ·cases hp
  ·cases hp
 ·cases hb : rfC (nil1 q t c) with
  | false => rw [hb] at hp; cases hp
  | true =>
   rw [hb] at hp;simp only [cond_true, Option.some.injEq, Prod.mk.injEq] at hp;obtain ⟨rfl, rfl, rfl⟩ := hp;exact ⟨ρ, Gst.refl hh.len, hh, xSv hd⟩
theorem xHx : ∀ d : Nat, FOk S F W0 w (xSk d)
 | 0 => fun _ _ _ _ _ _ _ _ _ _ _ h => by cases h
 | d + 1 => xVD (xHx d)
theorem xHt {K : Slo} (hK : KOk N D ρ K a) {t : Nat} {p0 p : PV} {v : Value} (h0 : lkP K t = some p0) (hv : a.tmps[t]? = some v) (hd : DenP ρ p v) : KOk N D ρ (xDj K t p) a := by
 refine ⟨hK.1, hK.2.1, fun s q hq => ?_⟩;rw [xBn] at hq;split at hq
 ·rename_i e;subst e;cases hq;exact ⟨v, hd, hv⟩
 ·exact hK.2.2 s q hq
/-- What a ghost step leaves. -/
def xWJ (S F : List Nat) (W0 : World) (N : Nat) (D : List Deferred) (ρ : List Info) (h : List Root) (w : World) (a : Act) : GhR -> Prop
 | some (g, K', h', T) => AllB g -> ∃ ρ', Gst ρ h ρ' h' T /\ KOk N D ρ' K' a /\ HOk S F W0 ρ' h' w
 | none => True
theorem xHj (hK : KOk N D ρ K a) (hh : HOk S F W0 ρ h w) : xWJ S F W0 N D ρ h w a (some ([], K, h, [])) := fun _ => ⟨ρ, Gst.refl hh.len, hK, hh⟩
theorem ghP_ok (hK : KOk N D ρ K a) (hh : HOk S F W0 ρ h w) (ls : List TC) (x : Operand) : xWJ S F W0 N D ρ h w a (ghP K h ls x) := by
 unfold ghP
 cases hb : ls.any isRf with
 | false => exact xHj hK hh
 | true =>
  simp only [cond_true];split
  ·rename_i t;split
   ·rename_i c hc;split
    ·rename_i c' h' T hp;intro _;obtain ⟨v, h1, h2⟩ := hK.2.2 t _ hc;obtain ⟨ρ', g1, g2, g3⟩ := xEs (xHx 4) ls [c] ρ h _ _ _ [v] hh ⟨v, [], rfl, h1, rfl⟩ hp;obtain ⟨u, r, e, g4, g5⟩ := g3;cases e;exact ⟨ρ', g1, xHt (hK.mono g1.pre) hc h2 g4, g2⟩
    ·trivial
   ·rename_i l hl;split
    ·rename_i l' h' T hp;intro _;obtain ⟨v, ⟨vs, h1, h1'⟩, h2⟩ := hK.2.2 t _ hl;obtain ⟨ρ', g1, g2, g3⟩ := xEs (xHx 4) ls l ρ h _ _ _ vs hh h1 hp;exact ⟨ρ', g1, xHt (hK.mono g1.pre) hl h2 ⟨vs, g3, h1'⟩, g2⟩
    ·trivial
   ·trivial
  ·exact xHj hK hh
theorem AllB.app {g1 g2 : List Bool} : AllB (g1 ++ g2) -> AllB g1 /\ AllB g2 := by
 induction g1 with
 | nil => intro h; exact ⟨trivial, h⟩
 | cons b g1 ih => intro h; exact ⟨⟨h.1, (ih h.2).1⟩, (ih h.2).2⟩
theorem xPJ {x : GhR} {f : Slo -> List Root -> GhR} (hx : xWJ S F W0 N D ρ h w a x) (hf : ∀ (ρ : List Info) (K : Slo) (h : List Root), KOk N D ρ K a -> HOk S F W0 ρ h w -> xWJ S F W0 N D ρ h w a (f K h)) : xWJ S F W0 N D ρ h w a (xWb x f) := by
 unfold xWb;split
 ·rename_i g1 K1 h1' t1;split
  ·rename_i g2 K2 h2 t2 he2;intro hg;obtain ⟨hg1, hg2⟩ := AllB.app hg;obtain ⟨ρ1, q1, q2, q3⟩ := hx hg1;have h2' := hf ρ1 K1 h1' q2 q3;rw [he2] at h2';obtain ⟨ρ2, q4, q5, q6⟩ := h2' hg2;exact ⟨ρ2, q1.trans q4, q5, q6⟩
  ·trivial
 ·trivial
theorem rtyP_ok (hK : KOk N D ρ K a) (hh : HOk S F W0 ρ h w) (t : TypeId) (x : Operand) : xWJ S F W0 N D ρ h w a (rtyP P K h t x) := by
 unfold rtyP;split
 ·rename_i e hd
  cases hb : (xBo P 20 e).leaves.any isRf with
  | false => exact xHj hK hh
  | true =>
   simp only [cond_true];split
   ·rename_i s;split
    ·rename_i id k off n c hx;split
     ·rename_i T τ' ys hr
      cases hq : xGP τ' (xBo P 20 e) with
      | true => exact xHj hK hh
      | false =>
       simp only [cond_false];split
       ·rename_i cs h1 t1 hp;split
        ·rename_i T2 τ2 ys2 zs hr1 hz
         cases hwq : Nat.beq τ'.w (xBo P 20 e).w with
         | false => trivial
         | true =>
          have hwe := nbT hwq;intro _;obtain ⟨i, hi⟩ := hh.info hr;obtain ⟨g0, g1, vs, g2, g3⟩ := hh.ok id _ i hr hi;obtain ⟨ρ1, q1, q2, q3⟩ := xEs (xHx 4) _ _ ρ h _ _ _ vs hh g2 hp;obtain ⟨e1, e2⟩ := xFU hz;have hi1 := q1.pre _ _ hi;have hlt := (List.getElem?_eq_some_iff.1 hr).1;have hr2 : h1[id]? = some (.rows T τ' ys) := by
           rcases q1.old id _ hlt hr1 with hc | hc
           ·cases hc
           ·rw [hr1, <- hc, hr]
          have hok : RootOk (ρ1 ++ [i]) w i (.rows T (xBo P 20 e) zs) := ⟨by rw [e2]; exact g0, by rw [<- hwe]; exact g1, vs, by rw [<- e1]; exact q3.mono (Pre.app _ _), by rw [e2, <- hwe]; exact g3⟩;have hone : ∀ (j : Nat) (x : Info × Root), [(i, Root.rows T (xBo P 20 e) zs)][j]? = some x -> j = 0 /\ x = (i, Root.rows T (xBo P 20 e) zs) := by
           intro j x hx
           cases j with
           | zero => simp only [List.getElem?_cons_zero, Option.some.injEq] at hx; exact ⟨rfl, hx.symm⟩
           | succ j => simp at hx
          have hfoot : ∀ (j : Nat) (x : Info × Root), [(i, Root.rows T (xBo P 20 e) zs)][j]? = some x -> ∀ b, foot x.1 x.2 b -> ∃ q ∈ [id], ∃ r j, h1[q]? = some r /\ ρ1[q]? = some j /\ own j r b := by
           intro j x hx b hb;obtain ⟨_, rfl⟩ := hone j x hx;exact ⟨id, by simp, _, i, hr2, hi1, hb⟩
          have hgst := xES q2.len [id] _ hfoot;have hreg := q2.regroup [id] _ (fun j x hx => ⟨by obtain ⟨_, rfl⟩ := hone j x hx; exact hok, hfoot j x hx⟩) (fun j k x y b hjk hx hy => by
           obtain ⟨rfl, _⟩ := hone j x hx;obtain ⟨rfl, _⟩ := hone k y hy;exact absurd rfl hjk) (fun j t2 x hx ht2 => by
           obtain ⟨_, rfl⟩ := hone j x hx;cases ht2) (fun p2 t2 r2 i2 h2 hi2 hL ht2 j x m u hx hu => by
           obtain ⟨_, rfl⟩ := hone j x hx;exact q2.cov p2 t2 r2 i2 h2 hi2 ht2 id i m u hi1 hu) (fun j x hx => by
           obtain ⟨_, rfl⟩ := hone j x hx;rcases q2.cln id _ i hr2 hi1 with g | g
           ·cases g
           ·exact .inr g)
          obtain ⟨v, hv1, hv2⟩ := hK.2.2 s _ hx;refine ⟨_, q1.trans hgst, xHt (hK.mono (q1.pre.trans hgst.pre)) hx hv2 ?_, hreg⟩;obtain ⟨i', a', c', nn, d1, d2⟩ := hv1;rw [hi] at d1; cases d1;exact ⟨i, a', c', nn, by rw [<- q2.len]; simp, d2⟩
        ·trivial
       ·trivial
     ·exact xHj hK hh
    ·exact xHj hK hh
   ·exact xHj hK hh
 ·exact xHj hK hh
theorem xRg (hK : KOk N D ρ K a) (hh : HOk S F W0 ρ h w) (x : Operand) : xWJ S F W0 N D ρ h w a (unpP K h x) := by
 unfold unpP;split
 ·rename_i s;split
  ·rename_i t n hs;split
   ·rename_i p t2 T τ os har
    cases hb : Nat.ble 1 τ.w with
    | false => trivial
    | true =>
     have hw := Nat.le_of_ble_eq_true hb;intro hg;obtain ⟨p', hpp, hrr, ht⟩ := xAD har;rw [Nat.zero_add] at hpp; subst hpp;obtain ⟨ip, hip⟩ := hh.info hrr;cases ht;have hA : ArOk ρ w (ip.objs t) (Root.ars t T τ os).obs := hh.ok p _ ip hrr hip;obtain ⟨v, hd, hv⟩ := hK.2.2 s _ hs
     -- the arena without the object
     have hkill : ∀ (m : Nat) (ob : Ob), (Root.ars t T τ (xDP os n)).obs[m]? = some ob -> ob = .no \/ ((Root.ars t T τ os).obs[m]? = some ob /\ n ≠ m + 1) := by
      intro m ob hm
      cases n with
      | zero => exact .inr ⟨hm, by omega⟩
      | succ n =>
       simp only [Root.obs, xDP, List.map_set] at hm;rw [List.getElem?_set] at hm;split at hm
       ·split at hm
        ·exact .inl (Option.some.inj hm).symm
        ·cases hm
       ·rename_i hne;exact .inr ⟨hm, by omega⟩
     have hklen : (Root.ars t T τ (xDP os n)).obs.length = (Root.ars t T τ os).obs.length := by
      cases n <;> simp [Root.obs, xDP]
     have hA' : ArOk ρ w (ip.objs t) (Root.ars t T τ (xDP os n)).obs := by
      refine ⟨by rw [hklen]; exact hA.1, fun m u ob h1 h2 => ?_, fun m m' u u' ob ob' b hm h1 h2 h3 h4 h5 h6 => ?_⟩
      ·rcases hkill m ob h2 with rfl | ⟨h3, _⟩
       ·trivial
       ·exact hA.2.1 m u ob h1 h3
      ·rcases hkill m ob h3 with rfl | ⟨g3, _⟩
       ·cases h5
       ·rcases hkill m' ob' h4 with rfl | ⟨g4, _⟩
        ·cases h6
        ·exact hA.2.2 m m' u u' ob ob' b hm h1 h2 g3 g4 h5 h6
     have hsub : ∀ b, xCo (ip.objs t) (Root.ars t T τ (xDP os n)).obs b -> own ip (.ars t T τ os) b := by
      rintro b ⟨m, u, ob, h1, h2, h3⟩
      rcases hkill m ob h2 with rfl | ⟨g3, _⟩
      ·cases h3
      ·exact ⟨m, u, ob, h1, g3, h3⟩
     -- the row
     have hrow : ∃ aa cc vs, v = .slice aa (rowAt os n).length cc /\ DenL ρ (flat τ (rowAt os n)) vs /\ ownsAt w T τ.w aa cc (rowAt os n).length vs /\ (∀ b, aa.map (·.block) = some b -> own ip (.ars t T τ os) b /\ ¬ xCo (ip.objs t) (Root.ars t T τ (xDP os n)).obs b) := by
      rcases hd with ⟨h0, h1⟩ | ⟨m, id, i0, h1, h2, h3, a0, n0, c0, h4⟩
      ·subst h0;exact ⟨none, 0, [], h1, rfl, ⟨by simp [rowAt], by simp [rowAt], by unfold maxLen; omega, .inl ⟨rfl, fun b hb => by cases hb⟩⟩, fun b hb => by cases hb⟩
      ·have h7 := hh.cov p t _ ip hrr hip rfl id i0 m _ h2 h3;have hlive : ∃ xs, os[m]? = some (some xs) := by
        have := hg.1;rw [h1] at this;simp only [xDA] at this;split at this
        ·rename_i xs hx2; exact ⟨xs, hx2⟩
        ·cases this
       obtain ⟨xs, hos⟩ := hlive;have hob : (Root.ars t T τ os).obs[m]? = some (.row T τ xs) := by simp only [Root.obs, List.getElem?_map, hos, Option.map_some]
       obtain ⟨a1, c1, g1, g2, vs, g3, g4⟩ := hA.2.1 m _ _ h7 hob;rw [h4] at g1;simp only [hdr, Option.some.injEq, Prod.mk.injEq] at g1;obtain ⟨rfl, rfl, rfl⟩ := g1;have hxs : rowAt os n = xs := by rw [h1]; simp only [rowAt, hos]
       rw [hxs];have hvb : ∀ b, a0.map (·.block) = some b -> xC0 v (.row T τ xs) b := fun b hb => by show xHK v = some b; rw [h4]; exact hb
       refine ⟨a0, c0, vs, h4, g3, g4, fun b hb => ⟨⟨m, v, _, h7, hob, hvb b hb⟩, ?_⟩⟩
       rintro ⟨m', u, ob, q1, q2, q3⟩
       rcases hkill m' ob q2 with rfl | ⟨q4, q5⟩
       ·cases q3
       ·exact hA.2.2 m m' v u _ ob b (fun e => q5 (by rw [<- e]; exact h1)) h7 q1 hob q4 (hvb b hb) q3
     obtain ⟨aa, cc, vs, hv0, hvd, hvo, hvb⟩ := hrow;obtain ⟨ir, hir⟩ : ∃ ir : Info, ir = ⟨aa, cc, some (rowAt os n).length, .nilFunc⟩ := ⟨_, rfl⟩;have hiro : ∀ t, ir.objs t = [] := fun t => by subst hir; rfl
     have hNx : ∀ (j : Nat) (x : Info × Root), [(ip, Root.ars t T τ (xDP os n)), (ir, Root.rows T τ (rowAt os n))][j]? = some x -> (j = 0 /\ x = (ip, Root.ars t T τ (xDP os n))) \/ (j = 1 /\ x = (ir, Root.rows T τ (rowAt os n))) := by
      intro j x hx
      match j, hx with
      | 0, hx => simp only [List.getElem?_cons_zero, Option.some.injEq] at hx; exact .inl ⟨rfl, hx.symm⟩
      | 1, hx => simp only [List.getElem?_cons_succ, List.getElem?_cons_zero, Option.some.injEq] at hx; exact .inr ⟨rfl, hx.symm⟩
      | j + 2, hx => simp at hx
     have hfoot : ∀ (j : Nat) (x : Info × Root), [(ip, Root.ars t T τ (xDP os n)), (ir, Root.rows T τ (rowAt os n))][j]? = some x -> ∀ b, foot x.1 x.2 b -> ∃ q ∈ [p], ∃ r i, h[q]? = some r /\ ρ[q]? = some i /\ own i r b := by
      intro j x hx b hb;rcases hNx j x hx with ⟨_, rfl⟩ | ⟨_, rfl⟩
      ·exact ⟨p, by simp, _, ip, hrr, hip, hsub b hb⟩
      ·have hb' : aa.map (·.block) = some b := by subst hir; exact hb
       exact ⟨p, by simp, _, ip, hrr, hip, (hvb b hb').1⟩
     have hgst := xES hh.len [p] _ hfoot;have hreg := hh.regroup [p] _ (fun j x hx => by
      refine ⟨?_, hfoot j x hx⟩;rcases hNx j x hx with ⟨_, rfl⟩ | ⟨_, rfl⟩
      ·exact ArOk.mono (Pre.app _ _) hA'
      ·subst hir;exact ⟨rfl, hw, vs, hvd.mono (Pre.app _ _), hvo⟩) (fun j k x y b hjk hx hy h1 h2 => by
      rcases hNx j x hx with ⟨rfl, rfl⟩ | ⟨rfl, rfl⟩
      ·rcases hNx k y hy with ⟨rfl, rfl⟩ | ⟨rfl, rfl⟩
       ·exact hjk rfl
       ·have h2' : aa.map (·.block) = some b := by subst hir; exact h2
        exact (hvb b h2').2 h1
      ·rcases hNx k y hy with ⟨rfl, rfl⟩ | ⟨rfl, rfl⟩
       ·have h1' : aa.map (·.block) = some b := by subst hir; exact h1
        exact (hvb b h1').2 h2
       ·exact hjk rfl) (fun j t2 x hx ht2 id i m u hi hu => by
      rcases hNx j x hx with ⟨rfl, rfl⟩ | ⟨rfl, rfl⟩
      ·have ht2' : t = t2 := Option.some.inj ht2;subst ht2';rcases Nat.lt_or_ge id ρ.length with hlt | hge
       ·rw [List.getElem?_append_left hlt] at hi;exact hh.cov p t _ ip hrr hip rfl id i m u hi hu
       ·rw [List.getElem?_append_right hge, List.getElem?_map] at hi;obtain ⟨x, hx, e1⟩ := Option.map_eq_some_iff.1 hi;rcases hNx _ x hx with ⟨_, rfl⟩ | ⟨_, rfl⟩
        ·subst e1; exact hu
        ·subst e1;dsimp only at hu;rw [hiro] at hu; simp at hu
      ·cases ht2) (fun p2 t2 r2 i2 h2 hi2 hL ht2 j x m u hx hu => by
      rcases hNx j x hx with ⟨rfl, rfl⟩ | ⟨rfl, rfl⟩
      ·exact hh.cov p2 t2 r2 i2 h2 hi2 ht2 p ip m u hip hu
      ·dsimp only at hu;rw [hiro] at hu; simp at hu) (fun j x hx => by
      rcases hNx j x hx with ⟨rfl, rfl⟩ | ⟨rfl, rfl⟩
      ·rcases hh.cln p _ ip hrr hip with g | g
       ·cases g
       ·exact .inr g
      ·exact .inr fun t _ => hiro t)
     refine ⟨_, hgst, xHt (hK.mono hgst.pre) hs hv ?_, hreg⟩;have hget : (ρ ++ [(ip, Root.ars t T τ (xDP os n)), (ir, Root.rows T τ (rowAt os n))].map Prod.fst)[h.length + 1]? = some ir := by
      rw [List.getElem?_append_right (by rw [hh.len]; omega), hh.len]; simp
     refine ⟨ir, aa, cc, (rowAt os n).length, hget, hv0, hvo.2.1, hvo.2.2.1, fun hpos => ?_, ?_⟩
     ·subst hir;rcases hvo.2.2.2 with ⟨g5, _⟩ | ⟨g, og, cur, g5, _⟩
      ·have := hvo.2.1; omega
      ·exact ⟨g, og, g5⟩
     ·subst hir;refine ⟨⟨_, rfl, (Nat.sub_zero _).symm⟩, ⟨_, rfl, by omega⟩, (Nat.sub_zero _).symm, rfl, fun _ => rfl, fun _ => ?_⟩;cases aa <;> simp [Addr.add]
   ·trivial
  ·exact xHj hK hh
 ·exact xHj hK hh
theorem xRh : ∀ (l : List Nat) (ρ : List Info) (K : Slo) (h : List Root), KOk N D ρ K a -> HOk S F W0 ρ h w -> xWJ S F W0 N D ρ h w a (unpL l K h)
 | [], _, _, _, hK, hh => xHj hK hh
 | t :: l, ρ, K, h, hK, hh => xPJ (xRg hK hh _) (fun ρ K h hK hh => xRh l ρ K h hK hh)
theorem xWa (hK : KOk N D ρ K a) (hh : HOk S F W0 ρ h w) : xWJ S F W0 N D ρ h w a (ghost P K h o) := by
 unfold ghost
 repeat' split
 all_goals first | exact xHj hK hh | exact ghP_ok hK hh _ _ | exact xPJ (rtyP_ok hK hh _ _) (fun _ _ _ hK hh => xRg hK hh _)
/-- Operations that change memory, or call. -/
theorem xKy (hK : KOk N D ρ K a) (hh : HOk S F W0 ρ h w) : xF1 P S F W0 ρ h w a o (stepM P K h o) := by
 unfold stepM;have hg := xWa (P := P) (o := o) hK hh;split
 ·rename_i g K' h' T he;rw [he] at hg;split
  ·rename_i g' v h2 t hs;intro hgg;obtain ⟨hg1, hg2⟩ := AllB.app hgg;obtain ⟨ρ', q1, q2, q3⟩ := hg hg1;have := xL5 (P := P) (o := o) q2 q3;rw [hs] at this;exact MemOk.ghost q1 (this hg2)
  ·exact xL5 hK hh
 ·trivial
end
end Go.Proofs.YthmicafabimfkaaGreatDoor
