/- A region that draws its order, as a tree: reads first; then the one operation that can come up besides allocations. No condition. -/
import Derived.Test.YthmicafabimfkaaWZ10
import Derived.Test.YthmicafabimfkaaWQR
namespace Go.Proofs.Ythmicafabimfkaa
noncomputable section
open Go.RowKit
inductive PT where
  | done
  | rd (i : Nat) (t : PT)
  | go (i : Nat) (A : List Nat) (t : PT)
/-- Operations that make something new, and do nothing else. -/
def alKind (o : Oper) : Bool :=
  match o.dst with
  | some _ => match o.op with
    | .alloc _ | .box _ _ | .buildSlice _ _ _ | .makeSlice _ _ _ => true
    | _ => false
  | none => false
def opAt (f : Oper → Bool) (ops : Array Oper) (i : Nat) : Bool :=
  match ops[i]? with
  | some o => f o
  | none => false
def markAll (l : List Nat) (listed : Array Bool) : Array Bool := l.foldl (fun t i => t.setIfInBounds i true) listed
def only (md : Region.Mode) (ops : Array Oper) (listed : Array Bool) (A : List Nat) (i : Nat) : Bool :=
  match Region.ready md ops (markAll A listed) with
  | [j] => Nat.beq i j
  | _ => false
def without (i : Nat) : List Nat → List Nat
  | [] => []
  | j :: l => bif Nat.beq i j then without i l else j :: without i l
section
variable {β : Type}
def disj (l m : List Nat) : Bool := l.all (fun x => m.all (fun y => !Nat.beq x y))
abbrev Reads := List (Nat × Option (List Nat))
/-- What has been read already is not touched, or only by what had to wait. -/
def calm (ops : Array Oper) (G : Reads) (i : Nat) (t : List Nat) : Bool :=
  G.all (fun p => (match p.2 with
    | some ids => disj ids t
    | none => false) || waits .any ops ops.size i p.1)
def afterG (t : List Nat) : Reads → Reads
  | [] => []
  | (i, x) :: G => (i, match x with
    | some ids => bif disj ids t then some ids else none
    | none => none) :: afterG t G
def opGoT (P : Program) (N : Nat) (call : CallF β) (ok : List Nat → Bool) (K : Slo) (h : List Root) (o : Oper) (k : List Nat → Slo → List Root → Option β) : Option β :=
  match stepV P K h o with
  | .val g v => gds g (opSet N K o v h (k []))
  | .pick b x y => bif b then opSet N K o x h (k []) else opSet N K o y h (k [])
  | .stuck => match stepM P K h o with
    | .mem g v h' t => bif ok t then gds g (opSet N K o v h' (k t)) else none
    | .call f args => call f args h (fun t v h' => bif ok t then opSet N K o v h' (k t) else none)
    | _ => none
  | _ => none
def opRd (P : Program) (N : Nat) (K : Slo) (h : List Root) (o : Oper) (k : Slo → Option β) : Option β :=
  match stepV P K h o with
  | .val g v => gds g (match setP N K o.dst v with
    | some K' => k K'
    | none => none)
  | .pick b x y => bif b then (match setP N K o.dst x with
      | some K' => k K'
      | none => none) else (match setP N K o.dst y with
      | some K' => k K'
      | none => none)
  | _ => none
/-- An operation, with its guard; f carries it out, g leaves it. -/
def withGd (ops : Array Oper) (K : Slo) (o : Oper) (f g : Slo → Option β) : Option β :=
  match gdOf ops K o with
  | .go => f K
  | .no => g K
  | .test t b want => bif b then (bif want then f (putP K t (.c (.sc (.bool true)))) else g (putP K t (.c (.sc (.bool true)))))
      else (bif want then g (putP K t (.c (.sc (.bool false)))) else f (putP K t (.c (.sc (.bool false)))))
  | .bad => none
/-- Whether the guard of an operation is open. -/
def gdSt (ops : Array Oper) (K : Slo) (o : Oper) : Option Bool :=
  match gdOf ops K o with
  | .go => some true
  | .no => some false
  | .test _ b want => some (bif b then want else !want)
  | _ => none
/-- What may come up early can be made, now; or it is left. -/
def early (P : Program) (N : Nat) (K : Slo) (h : List Root) (ops : Array Oper) : List Nat → Option β → Option β
  | [], r => r
  | e :: A, r => match ops[e]? with
    | some o => match o.dst, gdSt ops K o with
      | some d, some b => bif Nat.ble (d + 1) N then (bif b then (match stepV P K h o, stepM P K h o with
        | .stuck, .mem g _ _ [] => gds g (early P N K h ops A r)
        | _, _ => none) else early P N K h ops A r) else none
      | _, _ => none
    | none => none
def evTree (P : Program) (N : Nat) (ops : Array Oper) (call : CallF β) : PT → Reads → Slo → List Root → (Slo → List Root → Option β) → Option β
  | .done, _, K, h, k => k K h
  | .rd i t, G, K, h, k => match ops[i]? with
    | some o => withGd ops K o (fun K => opRd P N K h o (fun K' => evTree P N ops call t ((i, some (rdIds K h o)) :: G) K' h k)) (fun K => opSet N K o .un h (fun K' h' => evTree P N ops call t G K' h' k))
    | none => none
  | .go i A t, G, K, h, k => match ops[i]? with
    | some o => early P N K h ops A (withGd ops K o (fun K => opGoT P N call (calm ops G i) K h o (fun tt K' h' => evTree P N ops call t (afterG tt G) K' h' k)) (fun K => opSet N K o .un h (fun K' h' => evTree P N ops call t G K' h' k)))
    | none => none
def dropK (l : List Nat) : Slo → Slo
  | K => l.foldr (fun t K => delP K t) K
def evDraw (P : Program) (N : Nat) (ops : Array Oper) (call : CallF β) (t : PT) (K : Slo) (h : List Root) (k : Slo → List Root → Option β) : Option β :=
  evTree P N ops call t [] (dropK ((ops.toList.filter alKind).filterMap (·.dst)) K) h k
/-- Whether a tree fits its operations. -/
def ptGo (ops : Array Oper) : PT → Array Bool → Bool
  | .done, listed => (Region.ready .any ops listed).isEmpty
  | .rd i t, listed => (Region.ready .any ops listed).contains i && Region.free .any ops listed i && !opAt alKind ops i && ptGo ops t (listed.setIfInBounds i true)
  | .go i A t, listed => (Region.ready .any ops listed).contains i && Region.free .any ops listed i && only .any ops listed A i && A.all (fun e => (Region.ready .any ops listed).contains e && Region.free .any ops listed e && opAt alKind ops e && !Nat.beq i e) &&
      (Region.ready .any ops listed).all (fun j => Nat.beq i j || !opAt alKind ops j || A.any (Nat.beq j)) && ptGo ops t (listed.setIfInBounds i true)
def alUniq (ops : Array Oper) : Bool := (List.range ops.size).all fun j => !opAt alKind ops j || (match ops[j]? with
  | some oj => match oj.dst with
    | some d => !(oj.looksAt ops).contains d && (List.range ops.size).all (fun i => Nat.beq i j || (match ops[i]? with
      | some oi => match oi.dst with
        | some d' => !Nat.beq d d'
        | none => true
      | none => true))
    | none => false
  | none => false)
def ptOk (ops : Array Oper) (t : PT) : Bool := Region.noSelect ops && alUniq ops && ptGo ops t (Array.replicate ops.size false)
/-! Code -/
inductive XT where
  | normal
  | exit (id : Nat)
  | ret
def XT.out : XT → Exit
  | .normal => .normal
  | .exit id => .exit id
  | .ret => .ret
abbrev Kont (β : Type) := XT → Slo → List Root → Option β
def parK : Nat → List PV → Slo
  | _, [] => .nil
  | i, v :: l => putP (parK (i + 1) l) i v
def evLoop (body : Slo → List Root → Kont β → Option β) : Nat → Slo → List Root → Kont β → Option β
  | 0, _, _, _ => none
  | n + 1, K, h, k => body K h (fun e K' h' => match e with
    | .normal => evLoop body n K' h' k
    | e => k e K' h')
def evCode (P : Program) (Fu : Nat) (pl : Nat → Option PT) (call : CallF β) : Nat → Nat → Code → Slo → List Root → Kont β → Option β
  | 0, _, _, _, _, _ => none
  | d + 1, N, c, K, h, k => match c with
    | .skip => k .normal K h
    | .exit id => k (.exit id) K h
    | .ret => k .ret K h
    | .region _ ops false => evOps P N ops call ops.toList K h (k .normal)
    | .region id ops true => match pl id with
      | some t => evDraw P N ops call t K h (k .normal)
      | none => none
    | .seq x y => evCode P Fu pl call d N x K h (fun e K' h' => match e with
      | .normal => evCode P Fu pl call d N y K' h' k
      | e => k e K' h')
    | .cond c x y => match evalP K c with
      | some (.c (.sc (.bool b))) => bif b then evCode P Fu pl call d N x K h k else evCode P Fu pl call d N y K h k
      | _ => none
    | .block id x => evCode P Fu pl call d N x K h (fun e K' h' => match e with
      | .exit id' => bif Nat.beq id' id then k .normal K' h' else k (.exit id') K' h'
      | e => k e K' h')
    | .loop x => evLoop (fun K h k => evCode P Fu pl call d N x K h k) Fu K h k
    | _ => none
def lkN {α : Type} : List (Nat × α) → Nat → Option α
  | [], _ => none
  | (i, x) :: l, n => bif Nat.beq i n then some x else lkN l n
abbrev Plans := List (Nat × List (Nat × PT))
def plOf (A : Plans) (f : Nat) : Nat → Option PT :=
  match lkN A f with
  | some l => lkN l
  | none => fun _ => none
/-- What is known of calls: the value, and what is new in memory. -/
abbrev Sums := FuncId → List PV → List Root → Option (Option (PV × List Root))
def noSums : Sums := fun _ _ _ => none
/-- A call: known; or entered: it sees what its arguments reach. -/
def evCall (P : Program) (Fu : Nat) (A : Plans) (Sm : Sums) : Nat → CallF β
  | 0, _, _, _, _ => none
  | d + 1, f, args, h, k => match Sm f args h with
    | some r => match r with
      | some (v, news) => k [] v (h ++ news)
      | none => none
    | none => match P.funcs[f]? with
      | some fn => match fn.body with
        | some c => evCode P Fu (plOf A f) (evCall P Fu A Sm d) 10000 (args.length + (fn.ntmps - args.length)) c (parK 0 args) (mask (reachOf h args) h) (fun e K' h' => match e with
          | .exit _ => none
          | _ => match retP P K' h' fn.results.toList with
            | some v => k (reachOf h args) v (merge (reachOf h args) h h' 0)
            | none => none)
        | none => none
      | none => none
/-- Whether all regions of a code have plans that fit, where they have any. -/
def regsOk (pl : Nat → Option PT) : Code → Bool
  | .region id ops true => match pl id with
    | some t => ptOk ops t
    | none => true
  | .seq x y => regsOk pl x && regsOk pl y
  | .cond _ x y => regsOk pl x && regsOk pl y
  | .block _ x => regsOk pl x
  | .loop x => regsOk pl x
  | _ => true
def bodyOk (P : Program) (p : Nat × List (Nat × PT)) : Bool :=
  match P.funcs[p.1]? with
  | some fn => match fn.body with
    | some c => regsOk (lkN p.2) c
    | none => true
  | none => true
def PlansOk (P : Program) (A : Plans) : Prop := ∀ p ∈ A, bodyOk P p = true
end
end
end Go.Proofs.Ythmicafabimfkaa
