/- A part of the proof of the theorem of the last file. No condition. By an AI agent. -/
import Derived.Test.YtnomnijhlbalaaaGreatDoorWZ8
namespace Go.Proofs.YtnomnijhlbalaaaGreatDoor
noncomputable section
open Go.RowKit
noncomputable def xDF (K : Slo) (t : Nat) (v : PV) : Slo :=
 Slo.rec (motive := fun _ => Nat -> Slo) (fun n => oneP v (Nat.succ n) n) (fun u l r il ir n => Bool.rec (Bool.rec (.node u l (ir (Slo.way n))) (.node u (il (Slo.way n)) r) (Slo.odd n)) (.node (some v) l r) (Nat.beq n 0)) K t
theorem xWJ (t : Nat) (v : PV) : xDF .nil t v = oneP v (t + 1) t := rfl
theorem xTs (u : Option PV) (l r : Slo) (t : Nat) (v : PV) : xDF (.node u l r) t v = bif Nat.beq t 0 then .node (some v) l r else bif Slo.odd t then .node u (xDF l (Slo.way t) v) r else .node u l (xDF r (Slo.way t) v) := by
 show @Bool.rec (fun _ => Slo) (@Bool.rec (fun _ => Slo) (.node u l (xDF r (Slo.way t) v)) (.node u (xDF l (Slo.way t) v) r) (Slo.odd t)) (.node (some v) l r) (Nat.beq t 0) = _;cases Nat.beq t 0
 ·cases Slo.odd t <;> rfl
 ·rfl
theorem xBj : ∀ (t : Nat) (v : PV) (K : Slo) (s : Nat), lkP (xDF K t v) s = if s = t then some v else lkP K s
 | t, v, .nil, s => by rw [xWJ, xK1 v _ _ _ (Nat.lt_succ_self t), xFf]
 | t, v, .node u l r, s => by
  rw [xTs]
  cases ht : Nat.beq t 0 with
  | true =>
   have := nbT ht;subst this;simp only [cond_true, xCu]
   cases hs : Nat.beq s 0 with
   | true => have := nbT hs; subst this; rfl
   | false => rw [if_neg (Nat.ne_of_beq_eq_false hs)]; rfl
  | false =>
   simp only [cond_false]
   cases ho : Slo.odd t with
   | true =>
    simp only [cond_true, xCu]
    cases hs : Nat.beq s 0 with
    | true =>
     have e := nbT hs;rw [if_neg (fun e' => by rw [<- e', e] at ht; cases ht)]; rfl
    | false =>
     simp only [cond_false]
     cases hso : Slo.odd s with
     | false => rw [if_neg (fun e' => by rw [e', ho] at hso; cases hso)]; rfl
     | true =>
      simp only [cond_true, xBj _ v l];by_cases hw : Slo.way s = Slo.way t
      ·rw [if_pos hw, if_pos (Slo.way_eq hs ht (by rw [hso, ho]) hw)]
      ·rw [if_neg hw, if_neg (fun e => hw (by rw [e]))]
   | false =>
    simp only [cond_false, xCu]
    cases hs : Nat.beq s 0 with
    | true =>
     have e := nbT hs;rw [if_neg (fun e' => by rw [<- e', e] at ht; cases ht)]; rfl
    | false =>
     simp only [cond_false]
     cases hso : Slo.odd s with
     | true => rw [if_neg (fun e' => by rw [e', ho] at hso; cases hso)]; rfl
     | false =>
      simp only [cond_false, xBj _ v r];by_cases hw : Slo.way s = Slo.way t
      ·rw [if_pos hw, if_pos (Slo.way_eq hs ht (by rw [hso, ho]) hw)]
      ·rw [if_neg hw, if_neg (fun e => hw (by rw [e]))]
def xD5 {α : Type} (os : List (Option (List α))) : Nat -> List (Option (List α))
 | 0 => os
 | m + 1 => os.set m none
def isRf : TC -> Bool
 | .rf _ _ => true
 | _ => false
def rfC : CV -> Bool
 | .rf _ _ _ => true
 | _ => false
def xIl (f : List Root -> Nat -> Nat -> CV -> Option (CV × List Root × List Nat)) : List Root -> List TC -> List CV -> Option (List CV × List Root × List Nat)
 | h, .rf q t :: ls, c :: cs => match f h q t c with
  | some (c', h1, t1) => match xIl f h1 ls cs with
   | some (cs', h2, t2) => some (c' :: cs', h2, t1 ++ t2)
   | none => none
  | none => none
 | h, _ :: ls, c :: cs => match xIl f h ls cs with
  | some (cs', h2, t2) => some (c :: cs', h2, t2)
  | none => none
 | h, _, cs => some (cs, h, [])
def xBw (h : List Root) (p q : Nat) : List Root := (h.set p .dead).set q .dead
def xW1 (t : Nat) (h : List Root) : Bool := (xAZ t h 0).isNone
def pack1 (f : List Root -> Nat -> Nat -> CV -> Option (CV × List Root × List Nat)) (h : List Root) (q t : Nat) (c : CV) : Option (CV × List Root × List Nat) :=
 match c with
 | .rf q' t' n => bif Nat.beq q q' && Nat.beq t t' then some (.rf q' t' n, h, []) else none
 | .sl id k off none none => match q, h[id]?, xAZ t h 0 with
  | 1, some (.rows T U xs), some (p, .ars _ T' U' os) => if e : xFv U U' = true then bif Nat.beq T T' && Nat.beq k U.w && xW1 t (xBw h p id) then some (.rf 1 t (os.length + 1), xBw h p id ++ [.ars t T' U' (os ++ [some ((xAz e ▸ xs).drop off)])], [p, id]) else none else none
  | _, _, _ => none
 | .sl id k off (some m) none => match q, h[id]?, xAZ t h 0 with
  | 1, some (.rows T U xs), some (p, .ars _ T' U' os) => if e : xFv U U' = true then bif Nat.beq T T' && Nat.beq k U.w && xW1 t (xBw h p id) then some (.rf 1 t (os.length + 1), xBw h p id ++ [.ars t T' U' (os ++ [some (((xAz e ▸ xs).drop off).take m)])], [p, id]) else none else none
  | _, _, _ => none
 | .pt id 0 0 0 => match q, h[id]?, xAZ t h 0 with
  | 0, some (.blk cs T), some (_, .aro _ _ U0 _) => match xIl f h U0.leaves cs with
   | some (cs', h1, t1) => match h1[id]?, xAZ t h1 0 with
    | some (.blk _ _), some (p, .aro _ T' U os) => match U.dec1 cs' with
     | some x => bif Nat.beq T T' && Nat.ble 1 U.w && xW1 t (xBw h1 p id) then some (.rf 0 t (os.length + 1), xBw h1 p id ++ [.aro t T' U (os ++ [x])], t1 ++ [p, id]) else none
     | none => none
    | _, _ => none
   | none => none
  | _, _, _ => none
 | .hv id => match q, h[id]?, xAZ t h 0 with
  | 2, some (.mp V agg U ts), some (p, .arm _ V' agg' U' os) => if e0 : kkEq V V' = true then if e : xFv U U' = true then bif (agg == agg') && xW1 t (xBw h p id) then some (.rf 2 t (os.length + 1), xBw h p id ++ [.arm t V' agg U' (os ++ [some (xRQ (xCq e0) (xAz e) ts)])], [p, id]) else none else none else none
  | _, _, _ => none
 | c => bif rfC (nil1 q t c) then some (nil1 q t c, h, []) else none
def xTz : Nat -> List Root -> Nat -> Nat -> CV -> Option (CV × List Root × List Nat)
 | 0 => fun _ _ _ _ => none
 | d + 1 => pack1 (xTz d)
abbrev GhR := Option (List Bool × Slo × List Root × List Nat)
def ghP (K : Slo) (h : List Root) (ls : List TC) (x : Operand) : GhR :=
 bif ls.any isRf then match x with
  | .tmp t => match lkP K t with
   | some (.c c) => match xIl (xTz 4) h ls [c] with
    | some ([c'], h', T) => some ([], xDF K t (.c c'), h', T)
    | _ => none
   | some (.ag l) => match xIl (xTz 4) h ls l with
    | some (l', h', T) => some ([], xDF K t (.ag l'), h', T)
    | none => none
   | _ => none
  | _ => some ([], K, h, [])
 else some ([], K, h, [])
def rtyP (P : Program) (K : Slo) (h : List Root) (t : TypeId) (x : Operand) : GhR :=
 match P.underlying t with
 | some (.slice e) => bif (xBs P 20 e).leaves.any isRf then match x with
  | .tmp s => match lkP K s with
   | some (.c (.sl id k off n c)) => match h[id]? with
    | some (.rows T U' ys) => bif xFv U' (xBs P 20 e) then some ([], K, h, []) else match xIl (xTz 4) h (List.replicate ys.length (xBs P 20 e).leaves).flatten (flat U' ys) with
     | some (cs, h1, t1) => match h1[id]?, xE3 (xBs P 20 e) ys.length cs with
      | some (.rows _ _ _), some zs => bif Nat.beq U'.w (xBs P 20 e).w then some ([], xDF K s (.c (.sl h1.length k off n c)), h1.set id .dead ++ [.rows T (xBs P 20 e) zs], t1 ++ [id]) else none
      | _, _ => none
     | none => none
    | _ => some ([], K, h, [])
   | _ => some ([], K, h, [])
  | _ => some ([], K, h, [])
  else some ([], K, h, [])
 | _ => some ([], K, h, [])
def xXp (a : GhR) (f : Slo -> List Root -> GhR) : GhR :=
 match a with
 | some (g1, K1, h1, t1) => match f K1 h1 with
  | some (g2, K2, h2, t2) => some (g1 ++ g2, K2, h2, t1 ++ t2)
  | none => none
 | none => none
def unpP (K : Slo) (h : List Root) (x : Operand) : GhR :=
 match x with
 | .tmp s => match lkP K s with
  | some (.c (.rf 1 t n)) => match xAZ t h 0 with
   | some (p, .ars t' T U os) => bif Nat.ble 1 U.w then some ([xCv os n], xDF K s (.c (.sl (h.length + 1) U.w 0 none none)), h.set p .dead ++ [.ars t' T U (xD5 os n), .rows T U (rowAt os n)], [p]) else none
   | _ => none
  | _ => some ([], K, h, [])
 | _ => some ([], K, h, [])
def unpL : List Nat -> Slo -> List Root -> GhR
 | [], K, h => some ([], K, h, [])
 | t :: l, K, h => xXp (unpP K h (.tmp t)) (unpL l)
def rootTC : Root -> Option TC
 | .rows _ U _ => some U
 | .ars _ _ U _ => some U
 | .aro _ _ U _ => some U
 | _ => none
def placeTC (h : List Root) : CV -> Option (TC × Nat)
 | .pt id _ _ j => match h[id]? with
  | some r => (rootTC r).map (fun U => (U, j))
  | none => none
 | c => match rpOf c with
  | some (t, _, _, _, j) => match xAZ t h 0 with
   | some (_, r) => (rootTC r).map (fun U => (U, j))
   | none => none
  | none => none
def ghost (P : Program) (K : Slo) (h : List Root) (o : Oper) : GhR :=
 match o.op with
 | .store _ x y => match xAo K x with
  | some (.c c) => match placeTC h c with
   | some (U, j) => ghP K h (U.leaves.drop j) y
   | none => some ([], K, h, [])
  | _ => some ([], K, h, [])
 | .mapUpdate _ m _ y => match xAo K m with
  | some (.c c) => match xKV h c with
   | some M => ghP K h M.U.leaves y
   | none => some ([], K, h, [])
  | _ => some ([], K, h, [])
 | .insert _ m _ y => match xAo K m with
  | some (.c c) => match xKV h c with
   | some M => ghP K h M.U.leaves y
   | none => some ([], K, h, [])
  | _ => some ([], K, h, [])
 | .call ⟨.builtin .append, ⟨[s, x]⟩, ⟨[t, _]⟩⟩ => xXp (rtyP P K h t x) (fun K h => unpP K h s)
 | _ => some ([], K, h, [])
def stepM (P : Program) (K : Slo) (h : List Root) (o : Oper) : Step :=
 match ghost P K h o with
 | some (g, K', h', T) => match xCO P K' h' o with
  | .mem g' v h2 t => .mem (g ++ g') v h2 (T ++ t)
  | _ => xCO P K h o
 | none => .stuck
theorem xNU {P : Program} {K : Slo} {h : List Root} {o : Oper} (hg : ghost P K h o = some ([], K, h, [])) : stepM P K h o = xCO P K h o := by
 unfold stepM;rw [hg];dsimp only;cases xCO P K h o <;> rfl
end
open Go.RowKit
section
variable {P : Program} {N : Nat} {D : List Deferred} {S F : List Nat} {W0 : World} {O O1 O2 : List Info} {K : Slo} {h h1 h2 : List Root} {w : World} {a : Act} {o : Oper}
structure Gst (O : List Info) (h : List Root) (O' : List Info) (h' : List Root) (T : List Nat) : Prop where
 pre : Pre O O'
 leq : O.length = h.length
 len : h.length <= h'.length
 same : ∀ q : Nat, q ∉ T -> q < h.length -> h'[q]? = h[q]?
 old : ∀ (q : Nat) (r : Root), q < h.length -> h'[q]? = some r -> r = .dead \/ h[q]? = some r
 feet : ∀ (q : Nat) (r : Root) (i : Info) (b : Nat), h'[q]? = some r -> O'[q]? = some i -> foot i r b -> ∃ (p : Nat) (r0 : Root) (i0 : Info), h[p]? = some r0 /\ O[p]? = some i0 /\ foot i0 r0 b
 owns : ∀ (q : Nat) (r : Root) (i : Info) (b : Nat), h.length <= q -> h'[q]? = some r -> O'[q]? = some i -> own i r b -> ∃ p ∈ T, ∃ (r0 : Root) (i0 : Info), h[p]? = some r0 /\ O[p]? = some i0 /\ own i0 r0 b
theorem Gst.refl (hl : O.length = h.length) : Gst O h O h [] :=
 ⟨Pre.refl _, hl, Nat.le_refl _, fun _ _ _ => rfl, fun _ _ _ e => .inr e, fun q r i b h1 h2 h3 => ⟨q, r, i, h1, h2, h3⟩, fun q r i b hq h1 _ _ => by have := (List.getElem?_eq_some_iff.1 h1).1; omega⟩
theorem xOe (hp : Pre O O1) {q : Nat} (hq : q < O.length) {i : Info} (hi : O1[q]? = some i) : O[q]? = some i := by
 have := hp q _ (List.getElem?_eq_getElem hq);rw [this] at hi;rw [List.getElem?_eq_getElem hq]; exact hi
theorem Gst.trans {T1 T2 : List Nat} (a1 : Gst O h O1 h1 T1) (a2 : Gst O1 h1 O2 h2 T2) : Gst O h O2 h2 (T1 ++ T2) := by
 refine ⟨a1.pre.trans a2.pre, a1.leq, Nat.le_trans a1.len a2.len, fun q hq hl => ?_, fun q r hl hr => ?_, fun q r i b h3 h4 h5 => ?_, fun q r i b hl h3 h4 h5 => ?_⟩
 ·rw [List.mem_append, not_or] at hq;rw [a2.same q hq.2 (Nat.lt_of_lt_of_le hl a1.len), a1.same q hq.1 hl]
 ·rcases a2.old q r (Nat.lt_of_lt_of_le hl a1.len) hr with h3 | h3
  ·exact .inl h3
  ·exact a1.old q r hl h3
 ·obtain ⟨p, r0, i0, g1, g2, g3⟩ := a2.feet q r i b h3 h4 h5;exact a1.feet p r0 i0 b g1 g2 g3
 ·have back : ∀ (p : Nat) (r0 : Root) (i0 : Info), h1[p]? = some r0 -> O1[p]? = some i0 -> own i0 r0 b -> (p ∈ T2 \/ h.length <= p) -> ∃ p ∈ T1 ++ T2, ∃ (r0 : Root) (i0 : Info), h[p]? = some r0 /\ O[p]? = some i0 /\ own i0 r0 b := by
   intro p r0 i0 g1 g2 g3 g4;rcases Nat.lt_or_ge p h.length with hlt | hge
   ·rcases a1.old p r0 hlt g1 with rfl | g5
    ·cases g3
    ·rcases g4 with g4 | g4
     ·exact ⟨p, by simp [g4], r0, i0, g5, xOe a1.pre (by rw [a1.leq]; exact hlt) g2, g3⟩
     ·omega
   ·obtain ⟨p', hp', r1, i1, g5⟩ := a1.owns p r0 i0 b hge g1 g2 g3;exact ⟨p', by simp [hp'], r1, i1, g5⟩
  rcases Nat.lt_or_ge q h1.length with hlt | hge
  ·rcases a2.old q r hlt h3 with rfl | h6
   ·cases h5
   ·exact back q r i h6 (xOe a2.pre (by rw [a2.leq]; exact hlt) h4) h5 (.inr hl)
  ·obtain ⟨p, hp, r0, i0, g1, g2, g3⟩ := a2.owns q r i b hge h3 h4 h5;exact back p r0 i0 g1 g2 g3 (.inl hp)
theorem MemOk.ghost {T t : List Nat} {v : PV} {h' : List Root} (hG : Gst O h O1 h1 T) (hm : MemOk P S F W0 O1 h1 w a o v h' t) : MemOk P S F W0 O h w a o v h' (T ++ t) := by
 obtain ⟨O', u, nx, w', B, g1, g2, g3, g4, g5, g6, g7, g8, g9⟩ := hm;refine ⟨O', u, nx, w', B, hG.pre.trans g1, g2, g3, g4, g5, g6, fun b hb => ?_, fun q hq hl => ?_, fun q r i b hr hi hf => ?_⟩
 ·obtain ⟨p, hp, r, i, q1, q2, q3⟩ := g7 b hb;rcases Nat.lt_or_ge p h.length with hlt | hge
  ·rcases hG.old p r hlt q1 with rfl | q4
   ·cases q3
   ·exact ⟨p, by simp [hp], r, i, q4, xOe hG.pre (by rw [hG.leq]; exact hlt) q2, q3⟩
  ·obtain ⟨p', hp', q4⟩ := hG.owns p r i b hge q1 q2 q3;exact ⟨p', by simp [hp'], q4⟩
 ·rw [List.mem_append, not_or] at hq;rw [g8 q hq.2 (Nat.lt_of_lt_of_le hl hG.len), hG.same q hq.1 hl]
 ·rcases g9 q r i b hr hi hf with q1 | ⟨p, r0, i0, q1, q2, q3⟩
  ·exact .inl q1
  ·exact .inr (hG.feet p r0 i0 b q1 q2 q3)
theorem xEO : ∀ (L : List Nat) (h : List Root), (L.foldl (fun h p => h.set p .dead) h).length = h.length := by
 intro L
 induction L with
 | nil => intro h; rfl
 | cons p L ih => intro h; rw [List.foldl_cons, ih]; simp
theorem xQl : ∀ (L : List Nat) (h : List Root) (q : Nat) (r : Root), (L.foldl (fun h p => h.set p .dead) h)[q]? = some r -> r = .dead \/ h[q]? = some r := by
 intro L
 induction L with
 | nil => intro h q r e; exact .inr e
 | cons p L ih =>
  intro h q r e;rw [List.foldl_cons] at e;rcases ih _ q r e with h1 | h2
  ·exact .inl h1
  ·rw [List.getElem?_set] at h2;split at h2
   ·split at h2
    ·exact .inl (Option.some.inj h2).symm
    ·cases h2
   ·exact .inr h2
theorem fold_ne : ∀ (L : List Nat) (h : List Root) (q : Nat), q ∉ L -> (L.foldl (fun h p => h.set p .dead) h)[q]? = h[q]? := by
 intro L
 induction L with
 | nil => intro h q _; rfl
 | cons p L ih =>
  intro h q hq;rw [List.mem_cons, not_or] at hq;rw [List.foldl_cons, ih _ _ hq.2, List.getElem?_set_ne (fun e => hq.1 e.symm)]
theorem xE8 (hl : O.length = h.length) (L : List Nat) (N : List (Info × Root)) (hN : ∀ (j : Nat) (x : Info × Root), N[j]? = some x -> ∀ b, foot x.1 x.2 b -> ∃ p ∈ L, ∃ r i, h[p]? = some r /\ O[p]? = some i /\ own i r b) :
  Gst O h (O ++ N.map Prod.fst) (L.foldl (fun h p => h.set p .dead) h ++ N.map Prod.snd) L := by
 have cases' : ∀ (q : Nat) (r : Root) (i : Info), (L.foldl (fun h p => h.set p .dead) h ++ N.map Prod.snd)[q]? = some r -> (O ++ N.map Prod.fst)[q]? = some i -> (r = .dead) \/ (q < h.length /\ h[q]? = some r /\ O[q]? = some i) \/ (∃ j : Nat, N[j]? = some (i, r)) := by
  intro q r i h1 h2;rcases Nat.lt_or_ge q h.length with hq | hq
  ·rw [List.getElem?_append_left (by rw [xEO]; exact hq)] at h1;rw [List.getElem?_append_left (by rw [hl]; exact hq)] at h2;rcases xQl L h q r h1 with h3 | h4
   ·exact .inl h3
   ·exact .inr (.inl ⟨hq, h4, h2⟩)
  ·rw [List.getElem?_append_right (by rw [xEO]; exact hq), xEO, List.getElem?_map] at h1;rw [List.getElem?_append_right (by rw [hl]; exact hq), hl, List.getElem?_map] at h2;obtain ⟨x, hx, e1⟩ := Option.map_eq_some_iff.1 h1;rw [hx] at h2;cases h2;subst e1;exact .inr (.inr ⟨q - h.length, hx⟩)
 refine ⟨Pre.app _ _, hl, by rw [List.length_append, xEO]; omega, fun q hq hlt => ?_, fun q r hlt hr => ?_, fun q r i b h1 h2 h3 => ?_, fun q r i b hge h1 h2 h3 => ?_⟩
 ·rw [List.getElem?_append_left (by rw [xEO]; exact hlt), fold_ne L h q hq]
 ·rw [List.getElem?_append_left (by rw [xEO]; exact hlt)] at hr;exact xQl L h q r hr
 ·rcases cases' q r i h1 h2 with rfl | ⟨_, h4, h5⟩ | ⟨j, h4⟩
  ·exact absurd h3 xBa
  ·exact ⟨q, r, i, h4, h5, h3⟩
  ·obtain ⟨p, _, r0, i0, g1, g2, g3⟩ := hN j _ h4 b h3;exact ⟨p, r0, i0, g1, g2, xAm g3⟩
 ·rcases cases' q r i h1 h2 with rfl | ⟨h4, _⟩ | ⟨j, h4⟩
  ·cases h3
  ·omega
  ·exact hN j _ h4 b (xAm h3)
theorem xIO {t : Nat} : ∀ {h : List Root} {p : Nat}, xAZ t h p = none -> ∀ (q : Nat) (r : Root), h[q]? = some r -> r.tag ≠ some t
 | [], _, _, q, r, e => by simp at e
 | x :: h, p, hn, q, r, e => by
  simp only [xAZ] at hn;have both : x.tag ≠ some t /\ xAZ t h (p + 1) = none := by
   split at hn
   ·rename_i t' ht
    cases hb : Nat.beq t t' with
    | true => rw [hb] at hn; cases hn
    | false =>
     rw [hb] at hn;exact ⟨fun e => (by rw [ht] at e; cases e; rw [Nat.beq_refl] at hb; cases hb), hn⟩
   ·rename_i ht;exact ⟨fun e => (by rw [ht] at e; cases e), hn⟩
  cases q with
  | zero => simp only [List.getElem?_cons_zero, Option.some.injEq] at e; subst e; exact both.1
  | succ q => exact xIO both.2 q r (by simpa using e)
theorem xEe {i : Info} {r : Root} {t : Nat} (ht : r.tag = some t) : (RootOk O w i r ↔ ArOk O w (i.objs t) r.obs) /\ ∀ b, own i r b ↔ xCs (i.objs t) r.obs b := by
 cases r <;> first | (cases ht; exact ⟨Iff.rfl, fun _ => Iff.rfl⟩) | (cases ht; exact ⟨Iff.rfl, fun _ => ⟨fun h => h.elim, fun h => absurd h xI2⟩⟩) | (cases ht; done)
theorem ArOk.push {vs : List Value} {os : List Ob} (hA : ArOk O w vs os) {v : Value} {ob : Ob} (ho : ObOk O w v ob) (hd : ∀ b, xDg v ob b -> ¬ xCs vs os b) : ArOk O w (vs ++ [v]) (os ++ [ob]) := by
 have get : ∀ (m : Nat) (u : Value) (s : Ob), (vs ++ [v])[m]? = some u -> (os ++ [ob])[m]? = some s -> (vs[m]? = some u /\ os[m]? = some s) \/ (m = vs.length /\ u = v /\ s = ob) := by
  intro m u s h1 h2;rcases Nat.lt_or_ge m vs.length with hm | hm
  ·rw [List.getElem?_append_left hm] at h1;rw [List.getElem?_append_left (by rw [<- hA.1]; exact hm)] at h2;exact .inl ⟨h1, h2⟩
  ·rw [List.getElem?_append_right hm] at h1;rw [List.getElem?_append_right (by rw [<- hA.1]; exact hm)] at h2;have hlt := (List.getElem?_eq_some_iff.1 h1).1;simp only [List.length_singleton] at hlt;obtain rfl : m = vs.length := by omega
   rw [hA.1, Nat.sub_self] at h2;rw [Nat.sub_self] at h1;simp only [List.getElem?_cons_zero, Option.some.injEq] at h1 h2;exact .inr ⟨rfl, h1.symm, h2.symm⟩
 refine ⟨by simp [hA.1], fun m u s h1 h2 => ?_, fun m m' u u' s s' b hm h1 h2 h3 h4 h5 h6 => ?_⟩
 ·rcases get m u s h1 h2 with ⟨g1, g2⟩ | ⟨_, rfl, rfl⟩
  ·exact hA.2.1 m u s g1 g2
  ·exact ho
 ·rcases get m u s h1 h3 with ⟨g1, g2⟩ | ⟨e1, rfl, rfl⟩
  ·rcases get m' u' s' h2 h4 with ⟨g3, g4⟩ | ⟨_, rfl, rfl⟩
   ·exact hA.2.2 m m' u u' s s' b hm g1 g3 g2 g4 h5 h6
   ·exact hd b h6 ⟨m, u, s, g1, g2, h5⟩
  ·rcases get m' u' s' h2 h4 with ⟨g3, g4⟩ | ⟨e2, rfl, rfl⟩
   ·exact hd b h5 ⟨m', u', s', g3, g4, h6⟩
   ·exact hm (by rw [e1, e2])
theorem xRV {vs : List Value} {os : List Ob} (hl : vs.length = os.length) {v : Value} {ob : Ob} {b : Nat} (h : xCs (vs ++ [v]) (os ++ [ob]) b) : xCs vs os b \/ xDg v ob b := by
 obtain ⟨m, u, s, h1, h2, h3⟩ := h;rcases Nat.lt_or_ge m vs.length with hm | hm
 ·rw [List.getElem?_append_left hm] at h1;rw [List.getElem?_append_left (by rw [<- hl]; exact hm)] at h2;exact .inl ⟨m, u, s, h1, h2, h3⟩
 ·rw [List.getElem?_append_right hm] at h1;rw [List.getElem?_append_right (by rw [<- hl]; exact hm)] at h2;have hlt := (List.getElem?_eq_some_iff.1 h1).1;simp only [List.length_singleton] at hlt;obtain rfl : m = vs.length := by omega
  rw [hl, Nat.sub_self] at h2;rw [Nat.sub_self] at h1;simp only [List.getElem?_cons_zero, Option.some.injEq] at h1 h2;subst h1; subst h2;exact .inr h3
theorem grow (hh : HOk S F W0 O h w) {p q t : Nat} {r rq r' : Root} {ip iq : Info} (hp : h[p]? = some r) (hip : O[p]? = some ip) (htag : r.tag = some t) (hq : h[q]? = some rq) (hiq : O[q]? = some iq) (hpq : p ≠ q) (htag' : r'.tag = some t) {ob : Ob} (hobs : r'.obs = r.obs ++ [ob]) {v : Value} (hob : ObOk O w v ob) (hown : ∀ b, xDg v ob b -> own iq rq b) (hno : xW1 t (xBw h p q) = true) (hnr : ∀ t U os, r' ≠ Root.arr t U os := by intros; exact fun e => by cases e) :
  ∃ O', Gst O h O' (xBw h p q ++ [r']) [p, q] /\ HOk S F W0 O' (xBw h p q ++ [r']) w /\ ∃ i', O'[h.length]? = some i' /\ (i'.objs t)[r.obs.length]? = some v := by
 obtain ⟨i', hi'⟩ : ∃ i' : Info, i' = ⟨none, 0, none, .tuple ⟨.int .u64 (t : Int) :: (ip.objs t ++ [v])⟩⟩ := ⟨_, rfl⟩;have hot : i'.objs t = ip.objs t ++ [v] := by subst hi'; simp [Info.objs]
 have hoo : ∀ t2, t2 ≠ t -> i'.objs t2 = [] := fun t2 hne => by
  subst hi';simp only [Info.objs];rw [if_neg (by omega)]
 have hA := (xEe (O := O) (w := w) htag).1.1 (hh.ok p r ip hp hip);have hfoot : ∀ b, foot i' r' b -> ∃ x ∈ [p, q], ∃ r i, h[x]? = some r /\ O[x]? = some i /\ own i r b := fun b hb => by
  have hb' : xCs (i'.objs t) r'.obs b := ((xEe (O := O) (w := w) htag').2 b).1 ((xWn htag' hnr).1 hb);rw [hot, hobs] at hb';rcases xRV hA.1 hb' with g | g
  ·exact ⟨p, by simp, r, ip, hp, hip, ((xEe (O := O) (w := w) htag).2 b).2 g⟩
  ·exact ⟨q, by simp, rq, iq, hq, hiq, hown b g⟩
 have hdis : ∀ b, xDg v ob b -> ¬ xCs (ip.objs t) r.obs b := fun b h1 h2 =>
  hh.sep p q r rq ip iq b hpq hp hq hip hiq (((xEe (O := O) (w := w) htag).2 b).2 h2) (xAm (hown b h1))
 have hgst := xE8 hh.len [p, q] [(i', r')] (fun j x hx b hb => by
  cases j with
  | zero => simp only [List.getElem?_cons_zero, Option.some.injEq] at hx; subst hx; exact hfoot b hb
  | succ j => simp at hx)
 have hreg := hh.regroup [p, q] [(i', r')] (fun j x hx => by
  cases j with
  | zero =>
   simp only [List.getElem?_cons_zero, Option.some.injEq] at hx; subst hx;refine ⟨(xEe htag').1.2 ?_, hfoot⟩;show ArOk _ w (i'.objs t) r'.obs;rw [hot, hobs];exact ArOk.mono (Pre.app _ _) (hA.push hob hdis)
  | succ j => simp at hx) (fun j k x y b hjk hx hy => by
  cases j with
  | zero => cases k with
   | zero => exact absurd rfl hjk
   | succ k => simp at hy
  | succ j => simp at hx) (fun j t2 x hx ht2 id i m u hi hu => by
  cases j with
  | zero =>
   simp only [List.getElem?_cons_zero, Option.some.injEq] at hx; subst hx;have ht2' : r'.tag = some t2 := ht2;rw [htag'] at ht2';cases ht2';rcases Nat.lt_or_ge id O.length with hlt | hge
   ·rw [List.getElem?_append_left hlt] at hi;have := hh.cov p t r ip hp hip htag id i m u hi hu;show (i'.objs t)[m]? = some u;rw [hot, List.getElem?_append_left (List.getElem?_eq_some_iff.1 this).1]; exact this
   ·rw [List.getElem?_append_right hge] at hi
    cases hk : id - O.length with
    | zero => rw [hk] at hi; simp only [List.map_cons, List.map_nil, List.getElem?_cons_zero, Option.some.injEq] at hi; rw [hi]; exact hu
    | succ k => rw [hk] at hi; simp at hi
  | succ j => simp at hx) (fun p2 t2 r2 i2 h2 hi2 hL ht2 j x m u hx hu => by
  cases j with
  | zero =>
   simp only [List.getElem?_cons_zero, Option.some.injEq] at hx; subst hx;have hu' : (i'.objs t2)[m]? = some u := hu;by_cases he : t2 = t
   ·subst he;have hnn := xIO (Option.isNone_iff_eq_none.1 hno) p2 r2 (by
     simp only [List.mem_cons, List.not_mem_nil, or_false, not_or] at hL;unfold xBw;rw [List.getElem?_set_ne (fun e => hL.2 e.symm), List.getElem?_set_ne (fun e => hL.1 e.symm)]; exact h2)
    exact absurd ht2 hnn
   ·rw [hoo t2 he] at hu'; simp at hu'
  | succ j => simp at hx) (fun j x hx => by
  cases j with
  | zero =>
   simp only [List.getElem?_cons_zero, Option.some.injEq] at hx; subst hx;exact .inr fun t2 ht2 => hoo t2 (fun e => ht2 (by rw [e]; exact htag'))
  | succ j => simp at hx)
 refine ⟨O ++ [i'], hgst, hreg, i', ?_, ?_⟩
 ·rw [<- hh.len]; simp
 ·rw [hot, <- hA.1]; simp
end
end Go.Proofs.YtnomnijhlbalaaaGreatDoor
