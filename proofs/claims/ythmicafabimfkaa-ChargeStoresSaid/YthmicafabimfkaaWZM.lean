/- References and arenas: what is held in a slot or a root of its own becomes an object of an arena, and back. No condition. -/
import Derived.Test.YthmicafabimfkaaWZ8
namespace Go.Proofs.Ythmicafabimfkaa
noncomputable section
open Go.RowKit
noncomputable def putP (K : Slo) (t : Nat) (v : PV) : Slo :=
  Slo.rec (motive := fun _ => Nat → Slo) (fun n => oneP v (Nat.succ n) n) (fun u l r il ir n => Bool.rec (Bool.rec (.node u l (ir (Slo.way n))) (.node u (il (Slo.way n)) r) (Slo.odd n)) (.node (some v) l r) (Nat.beq n 0)) K t
theorem putP_nil (t : Nat) (v : PV) : putP .nil t v = oneP v (t + 1) t := rfl
theorem putP_node (u : Option PV) (l r : Slo) (t : Nat) (v : PV) : putP (.node u l r) t v = bif Nat.beq t 0 then .node (some v) l r else bif Slo.odd t then .node u (putP l (Slo.way t) v) r else .node u l (putP r (Slo.way t) v) := by
  show @Bool.rec (fun _ => Slo) (@Bool.rec (fun _ => Slo) (.node u l (putP r (Slo.way t) v)) (.node u (putP l (Slo.way t) v) r) (Slo.odd t)) (.node (some v) l r) (Nat.beq t 0) = _
  cases Nat.beq t 0
  · cases Slo.odd t <;> rfl
  · rfl
theorem lkP_putP : ∀ (t : Nat) (v : PV) (K : Slo) (s : Nat), lkP (putP K t v) s = if s = t then some v else lkP K s
  | t, v, .nil, s => by rw [putP_nil, lkP_oneP v _ _ _ (Nat.lt_succ_self t), lkP_nil]
  | t, v, .node u l r, s => by
    rw [putP_node]
    cases ht : Nat.beq t 0 with
    | true =>
      have := Nat.eq_of_beq_eq_true ht
      subst this
      simp only [cond_true, lkP_node]
      cases hs : Nat.beq s 0 with
      | true => have := Nat.eq_of_beq_eq_true hs; subst this; rfl
      | false => rw [if_neg (Nat.ne_of_beq_eq_false hs)]; rfl
    | false =>
      simp only [cond_false]
      cases ho : Slo.odd t with
      | true =>
        simp only [cond_true, lkP_node]
        cases hs : Nat.beq s 0 with
        | true =>
          have e := Nat.eq_of_beq_eq_true hs
          rw [if_neg (fun e' => by rw [← e', e] at ht; cases ht)]; rfl
        | false =>
          simp only [cond_false]
          cases hso : Slo.odd s with
          | false => rw [if_neg (fun e' => by rw [e', ho] at hso; cases hso)]; rfl
          | true =>
            simp only [cond_true, lkP_putP _ v l]
            by_cases hw : Slo.way s = Slo.way t
            · rw [if_pos hw, if_pos (Slo.way_eq hs ht (by rw [hso, ho]) hw)]
            · rw [if_neg hw, if_neg (fun e => hw (by rw [e]))]
      | false =>
        simp only [cond_false, lkP_node]
        cases hs : Nat.beq s 0 with
        | true =>
          have e := Nat.eq_of_beq_eq_true hs
          rw [if_neg (fun e' => by rw [← e', e] at ht; cases ht)]; rfl
        | false =>
          simp only [cond_false]
          cases hso : Slo.odd s with
          | true => rw [if_neg (fun e' => by rw [e', ho] at hso; cases hso)]; rfl
          | false =>
            simp only [cond_false, lkP_putP _ v r]
            by_cases hw : Slo.way s = Slo.way t
            · rw [if_pos hw, if_pos (Slo.way_eq hs ht (by rw [hso, ho]) hw)]
            · rw [if_neg hw, if_neg (fun e => hw (by rw [e]))]
def killAt {α : Type} (os : List (Option (List α))) : Nat → List (Option (List α))
  | 0 => os
  | m + 1 => os.set m none
def isRf : TC → Bool
  | .rf _ _ => true
  | _ => false
def rfC : CV → Bool
  | .rf _ _ _ => true
  | _ => false
def packW (f : List Root → Nat → Nat → CV → Option (CV × List Root × List Nat)) : List Root → List TC → List CV → Option (List CV × List Root × List Nat)
  | h, .rf q t :: ls, c :: cs => match f h q t c with
    | some (c', h1, t1) => match packW f h1 ls cs with
      | some (cs', h2, t2) => some (c' :: cs', h2, t1 ++ t2)
      | none => none
    | none => none
  | h, _ :: ls, c :: cs => match packW f h ls cs with
    | some (cs', h2, t2) => some (c :: cs', h2, t2)
    | none => none
  | h, _, cs => some (cs, h, [])
def twoDead (h : List Root) (p q : Nat) : List Root := (h.set p .dead).set q .dead
def noAr (t : Nat) (h : List Root) : Bool := (findAr t h 0).isNone
/-- One cell becomes a reference. -/
def pack1 (f : List Root → Nat → Nat → CV → Option (CV × List Root × List Nat)) (h : List Root) (q t : Nat) (c : CV) : Option (CV × List Root × List Nat) :=
  match c with
  | .rf q' t' n => bif Nat.beq q q' && Nat.beq t t' then some (.rf q' t' n, h, []) else none
  | .sl id k off none none => match q, h[id]?, findAr t h 0 with
    | 1, some (.rows T τ xs), some (p, .ars _ T' τ' os) => if e : tcEq τ τ' = true then bif Nat.beq T T' && Nat.beq k τ.w && noAr t (twoDead h p id) then some (.rf 1 t (os.length + 1), twoDead h p id ++ [.ars t T' τ' (os ++ [some ((tcEq_ok e ▸ xs).drop off)])], [p, id]) else none else none
    | _, _, _ => none
  | .sl id k off (some m) none => match q, h[id]?, findAr t h 0 with
    | 1, some (.rows T τ xs), some (p, .ars _ T' τ' os) => if e : tcEq τ τ' = true then bif Nat.beq T T' && Nat.beq k τ.w && noAr t (twoDead h p id) then some (.rf 1 t (os.length + 1), twoDead h p id ++ [.ars t T' τ' (os ++ [some (((tcEq_ok e ▸ xs).drop off).take m)])], [p, id]) else none else none
    | _, _, _ => none
  | .pt id 0 0 0 => match q, h[id]?, findAr t h 0 with
    | 0, some (.blk cs T), some (_, .aro _ _ τ0 _) => match packW f h τ0.leaves cs with
      | some (cs', h1, t1) => match h1[id]?, findAr t h1 0 with
        | some (.blk _ _), some (p, .aro _ T' τ os) => match τ.dec1 cs' with
          | some x => bif Nat.beq T T' && Nat.ble 1 τ.w && noAr t (twoDead h1 p id) then some (.rf 0 t (os.length + 1), twoDead h1 p id ++ [.aro t T' τ (os ++ [x])], t1 ++ [p, id]) else none
          | none => none
        | _, _ => none
      | none => none
    | _, _, _ => none
  | .hv id => match q, h[id]?, findAr t h 0 with
    | 2, some (.mp κ agg τ ts), some (p, .arm _ κ' agg' τ' os) => if e0 : kkEq κ κ' = true then if e : tcEq τ τ' = true then bif (agg == agg') && noAr t (twoDead h p id) then some (.rf 2 t (os.length + 1), twoDead h p id ++ [.arm t κ' agg τ' (os ++ [some (castM (kkEq_ok e0) (tcEq_ok e) ts)])], [p, id]) else none else none else none
    | _, _, _ => none
  | c => bif rfC (nil1 q t c) then some (nil1 q t c, h, []) else none
def packC : Nat → List Root → Nat → Nat → CV → Option (CV × List Root × List Nat)
  | 0 => fun _ _ _ _ => none
  | d + 1 => pack1 (packC d)
/-- What a ghost step comes to: guards, slots, roots, and the roots that it took. -/
abbrev GhR := Option (List Bool × Slo × List Root × List Nat)
def ghP (K : Slo) (h : List Root) (ls : List TC) (x : Operand) : GhR :=
  bif ls.any isRf then match x with
    | .tmp t => match lkP K t with
      | some (.c c) => match packW (packC 4) h ls [c] with
        | some ([c'], h', T) => some ([], putP K t (.c c'), h', T)
        | _ => none
      | some (.ag l) => match packW (packC 4) h ls l with
        | some (l', h', T) => some ([], putP K t (.ag l'), h', T)
        | none => none
      | _ => none
    | _ => some ([], K, h, [])
  else some ([], K, h, [])
/-- The elements of a slice of its own become references. -/
def rtyP (P : Program) (K : Slo) (h : List Root) (t : TypeId) (x : Operand) : GhR :=
  match P.underlying t with
  | some (.slice e) => bif (tcOf P 20 e).leaves.any isRf then match x with
    | .tmp s => match lkP K s with
      | some (.c (.sl id k off n c)) => match h[id]? with
        | some (.rows T τ' ys) => bif tcEq τ' (tcOf P 20 e) then some ([], K, h, []) else match packW (packC 4) h (List.replicate ys.length (tcOf P 20 e).leaves).flatten (flat τ' ys) with
          | some (cs, h1, t1) => match h1[id]?, decAll (tcOf P 20 e) ys.length cs with
            | some (.rows _ _ _), some zs => bif Nat.beq τ'.w (tcOf P 20 e).w then some ([], putP K s (.c (.sl h1.length k off n c)), h1.set id .dead ++ [.rows T (tcOf P 20 e) zs], t1 ++ [id]) else none
            | _, _ => none
          | none => none
        | _ => some ([], K, h, [])
      | _ => some ([], K, h, [])
    | _ => some ([], K, h, [])
    else some ([], K, h, [])
  | _ => some ([], K, h, [])
def ghSeq (a : GhR) (f : Slo → List Root → GhR) : GhR :=
  match a with
  | some (g1, K1, h1, t1) => match f K1 h1 with
    | some (g2, K2, h2, t2) => some (g1 ++ g2, K2, h2, t1 ++ t2)
    | none => none
  | none => none
def unpP (K : Slo) (h : List Root) (x : Operand) : GhR :=
  match x with
  | .tmp s => match lkP K s with
    | some (.c (.rf 1 t n)) => match findAr t h 0 with
      | some (p, .ars t' T τ os) => bif Nat.ble 1 τ.w then some ([liveA os n], putP K s (.c (.sl (h.length + 1) τ.w 0 none none)), h.set p .dead ++ [.ars t' T τ (killAt os n), .rows T τ (rowAt os n)], [p]) else none
      | _ => none
    | _ => some ([], K, h, [])
  | _ => some ([], K, h, [])
def unpL : List Nat → Slo → List Root → GhR
  | [], K, h => some ([], K, h, [])
  | t :: l, K, h => ghSeq (unpP K h (.tmp t)) (unpL l)
def rootTC : Root → Option TC
  | .rows _ τ _ => some τ
  | .ars _ _ τ _ => some τ
  | .aro _ _ τ _ => some τ
  | _ => none
/-- What the place is that a store goes to. -/
def placeTC (h : List Root) : CV → Option (TC × Nat)
  | .pt id _ _ j => match h[id]? with
    | some r => (rootTC r).map (fun τ => (τ, j))
    | none => none
  | c => match rpOf c with
    | some (t, _, _, _, j) => match findAr t h 0 with
      | some (_, r) => (rootTC r).map (fun τ => (τ, j))
      | none => none
    | none => none
def ghost (P : Program) (K : Slo) (h : List Root) (o : Oper) : GhR :=
  match o.op with
  | .store _ x y => match evalP K x with
    | some (.c c) => match placeTC h c with
      | some (τ, j) => ghP K h (τ.leaves.drop j) y
      | none => some ([], K, h, [])
    | _ => some ([], K, h, [])
  | .mapUpdate _ m _ y => match evalP K m with
    | some (.c c) => match mpAt h c with
      | some M => ghP K h M.τ.leaves y
      | none => some ([], K, h, [])
    | _ => some ([], K, h, [])
  | .insert _ m _ y => match evalP K m with
    | some (.c c) => match mpAt h c with
      | some M => ghP K h M.τ.leaves y
      | none => some ([], K, h, [])
    | _ => some ([], K, h, [])
  | .call ⟨.builtin .append, ⟨[s, x]⟩, ⟨[t, _]⟩⟩ => ghSeq (rtyP P K h t x) (fun K h => unpP K h s)
  | _ => some ([], K, h, [])
/-- An operation that changes memory, or calls; what must be is put into arenas first. -/
def stepM (P : Program) (K : Slo) (h : List Root) (o : Oper) : Step :=
  match ghost P K h o with
  | some (g, K', h', T) => match stepM0 P K' h' o with
    | .mem g' v h2 t => .mem (g ++ g') v h2 (T ++ t)
    | _ => stepM0 P K h o
  | none => .stuck
theorem stepM_plain {P : Program} {K : Slo} {h : List Root} {o : Oper} (hg : ghost P K h o = some ([], K, h, [])) : stepM P K h o = stepM0 P K h o := by
  unfold stepM
  rw [hg]
  dsimp only
  cases stepM0 P K h o <;> rfl
end
end Go.Proofs.Ythmicafabimfkaa
