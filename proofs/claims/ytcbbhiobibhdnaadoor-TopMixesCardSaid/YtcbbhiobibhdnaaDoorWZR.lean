/- A region that draws its order, as a tree: reads first; then the one operation that can come up besides allocations. No condition. -/
import Derived.Test.YtcbbhiobibhdnaaDoorWZ10
import Derived.Test.YtcbbhiobibhdnaaDoorWQR
namespace Go.Proofs.YtcbbhiobibhdnaaDoor
noncomputable section
open Go.RowKit
inductive PT where
 | done
 | rd (i : Nat) (t : PT)
 | go (i : Nat) (A : List Nat) (t : PT)
/-- Operations that only read. -/
def rdKind : Op → Bool
 | .move _ | .assign _ | .pick .. | .load .. | .nilCheck _ | .binOp .. | .unOp .. | .convert .. | .fieldAddr .. | .field .. | .indexAddr .. | .index .. | .extract .. | .slice .. | .build .. | .lookup .. => true
 | .call ⟨.builtin .len, _, _⟩ | .call ⟨.builtin .min, _, _⟩ | .call ⟨.builtin .max, _, _⟩ => true
 | _ => false
/-- Operations that make something new, and do nothing else. -/
def xB2 (o : Oper) : Bool :=
 match o.dst with
 | some _ => match o.op with
  | .alloc _ | .box _ _ | .buildSlice _ _ _ | .makeSlice _ _ _ => true
  | _ => false
 | none => false
def opAt (f : Oper → Bool) (ops : Array Oper) (i : Nat) : Bool :=
 match ops[i]? with
 | some o => f o
 | none => false
def xFO (l : List Nat) (listed : Array Bool) : Array Bool := l.foldl (fun t i => t.setIfInBounds i true) listed
def only (md : Region.Mode) (ops : Array Oper) (listed : Array Bool) (A : List Nat) (i : Nat) : Bool :=
 match Region.ready md ops (xFO A listed) with
 | [j] => Nat.beq i j
 | _ => false
def xCy (i : Nat) : List Nat → List Nat
 | [] => []
 | j :: l => bif Nat.beq i j then xCy i l else j :: xCy i l
def xKa (f : Nat → Bool) : List Nat → Option Nat
 | [] => none
 | i :: l => bif f i then some i else xKa f l
def xNi (ops : Array Oper) : Nat → Array Bool → Option PT
 | 0, _ => none
 | n + 1, listed => match Region.ready .any ops listed with
  | [] => some .done
  | R => match xKa (fun i => opAt (fun o => rdKind o.op) ops i && Region.free .any ops listed i) R with
   | some i => match xNi ops n (listed.setIfInBounds i true) with
    | some t => some (.rd i t)
    | none => none
   | none => match xKa (fun i => !opAt xB2 ops i && only .any ops listed (R.filter (opAt xB2 ops)) i) R with
    | some i => match xNi ops n (listed.setIfInBounds i true) with
     | some t => some (.go i (R.filter (opAt xB2 ops)) t)
     | none => none
    | none => match xKa (fun i => only .any ops listed (xCy i R) i) R with
     | some i => match xNi ops n (listed.setIfInBounds i true) with
      | some t => some (.go i (xCy i R) t)
      | none => none
     | none => none
def planOf (ops : Array Oper) : Option PT := xNi ops (ops.size + 1) (Array.replicate ops.size false)
section
variable {β : Type}
def disj (l m : List Nat) : Bool := l.all (fun x => m.all (fun y => !Nat.beq x y))
abbrev Reads := List (Nat × Option (List Nat))
/-- What has been read already is not touched, or only by what had to wait. -/
def calm (ops : Array Oper) (G : Reads) (i : Nat) (t : List Nat) : Bool :=
 G.all (fun p => (match p.2 with
  | some ids => disj ids t
  | none => false) || waits .any ops ops.size i p.1)
def xLJ (t : List Nat) : Reads → Reads
 | [] => []
 | (i, x) :: G => (i, match x with
  | some ids => bif disj ids t then some ids else none
  | none => none) :: xLJ t G
def xPF (P : Program) (N : Nat) (call : xAW β) (ok : List Nat → Bool) (K : Slo) (h : List Root) (o : Oper) (k : List Nat → Slo → List Root → Option β) : Option β :=
 match xGA P K h o with
 | .val g v => gds g (xCV N K o v h (k []))
 | .pick b x y => bif b then xCV N K o x h (k []) else xCV N K o y h (k [])
 | .stuck => match xG8 P K h o with
  | .mem g v h' t => bif ok t then gds g (xCV N K o v h' (k t)) else none
  | .call f args => call f args h (fun t v h' => bif ok t then xCV N K o v h' (k t) else none)
  | _ => none
 | _ => none
def opRd (P : Program) (N : Nat) (K : Slo) (h : List Root) (o : Oper) (k : Slo → Option β) : Option β :=
 match xGA P K h o with
 | .val g v => gds g (match xIH N K o.dst v with
  | some K' => k K'
  | none => none)
 | .pick b x y => bif b then (match xIH N K o.dst x with
   | some K' => k K'
   | none => none) else (match xIH N K o.dst y with
   | some K' => k K'
   | none => none)
 | _ => none
/-- An operation, with its guard; f carries it out, g leaves it. -/
def xIz (ops : Array Oper) (K : Slo) (o : Oper) (f g : Slo → Option β) : Option β :=
 match xQt ops K o with
 | .go => f K
 | .no => g K
 | .test t b want => bif b then (bif want then f (xE4 K t (.c (.sc (.bool true)))) else g (xE4 K t (.c (.sc (.bool true)))))
   else (bif want then g (xE4 K t (.c (.sc (.bool false)))) else f (xE4 K t (.c (.sc (.bool false)))))
 | .bad => none
/-- Whether the guard of an operation is open. -/
def gdSt (ops : Array Oper) (K : Slo) (o : Oper) : Option Bool :=
 match xQt ops K o with
 | .go => some true
 | .no => some false
 | .test _ b want => some (bif b then want else !want)
 | _ => none
/-- What may come up early can be made, now; or it is left. -/
def early (P : Program) (N : Nat) (K : Slo) (h : List Root) (ops : Array Oper) : List Nat → Option β → Option β
 | [], r => r
 | e :: A, r => match ops[e]? with
  | some o => match o.dst, gdSt ops K o with
   | some d, some b => bif Nat.ble (d + 1) N then (bif b then (match xGA P K h o, xG8 P K h o with
    | .stuck, .mem g _ _ [] => gds g (early P N K h ops A r)
    | _, _ => none) else early P N K h ops A r) else none
   | _, _ => none
  | none => none
def xDv (P : Program) (N : Nat) (ops : Array Oper) (call : xAW β) : PT → Reads → Slo → List Root → (Slo → List Root → Option β) → Option β
 | .done, _, K, h, k => k K h
 | .rd i t, G, K, h, k => match ops[i]? with
  | some o => xIz ops K o (fun K => opRd P N K h o (fun K' => xDv P N ops call t ((i, some (xFJ K h o)) :: G) K' h k)) (fun K => xCV N K o .un h (fun K' h' => xDv P N ops call t G K' h' k))
  | none => none
 | .go i A t, G, K, h, k => match ops[i]? with
  | some o => early P N K h ops A (xIz ops K o (fun K => xPF P N call (calm ops G i) K h o (fun tt K' h' => xDv P N ops call t (xLJ tt G) K' h' k)) (fun K => xCV N K o .un h (fun K' h' => xDv P N ops call t G K' h' k)))
  | none => none
def xQN (l : List Nat) : Slo → Slo
 | K => l.foldr (fun t K => delP K t) K
def xHW (P : Program) (N : Nat) (ops : Array Oper) (call : xAW β) (t : PT) (K : Slo) (h : List Root) (k : Slo → List Root → Option β) : Option β :=
 xDv P N ops call t [] (xQN ((ops.toList.filter xB2).filterMap (·.dst)) K) h k
/-- Whether a tree fits its operations. -/
def ptGo (ops : Array Oper) : PT → Array Bool → Bool
 | .done, listed => (Region.ready .any ops listed).isEmpty
 | .rd i t, listed => (Region.ready .any ops listed).contains i && Region.free .any ops listed i && !opAt xB2 ops i && ptGo ops t (listed.setIfInBounds i true)
 | .go i A t, listed => (Region.ready .any ops listed).contains i && Region.free .any ops listed i && only .any ops listed A i && A.all (fun e => (Region.ready .any ops listed).contains e && Region.free .any ops listed e && opAt xB2 ops e && !Nat.beq i e) &&
   (Region.ready .any ops listed).all (fun j => Nat.beq i j || !opAt xB2 ops j || A.any (Nat.beq j)) && ptGo ops t (listed.setIfInBounds i true)
def xGx (ops : Array Oper) : Bool := (List.range ops.size).all fun j => !opAt xB2 ops j || (match ops[j]? with
 | some oj => match oj.dst with
  | some d => !(oj.looksAt ops).contains d && (List.range ops.size).all (fun i => Nat.beq i j || (match ops[i]? with
   | some oi => match oi.dst with
    | some d' => !Nat.beq d d'
    | none => true
   | none => true))
  | none => false
 | none => false)
def ptOk (ops : Array Oper) (t : PT) : Bool := Region.noSelect ops && xGx ops && ptGo ops t (Array.replicate ops.size false)
/-! Code -/
inductive XT where
 | normal
 | exit (id : Nat)
 | ret
def XT.out : XT → Exit
 | .normal => .normal
 | .exit id => .exit id
 | .ret => .ret
abbrev xF5 (β : Type) := XT → Slo → List Root → Option β
def xRS : Nat → List PV → Slo
 | _, [] => .nil
 | i, v :: l => xE4 (xRS (i + 1) l) i v
def xLv (body : Slo → List Root → xF5 β → Option β) : Nat → Slo → List Root → xF5 β → Option β
 | 0, _, _, _ => none
 | n + 1, K, h, k => body K h (fun e K' h' => match e with
  | .normal => xLv body n K' h' k
  | e => k e K' h')
def xDU (P : Program) (Fu : Nat) (pl : Nat → Option PT) (call : xAW β) : Nat → Nat → Code → Slo → List Root → xF5 β → Option β
 | 0, _, _, _, _, _ => none
 | d + 1, N, c, K, h, k => match c with
  | .skip => k .normal K h
  | .exit id => k (.exit id) K h
  | .ret => k .ret K h
  | .region _ ops false => xIt P N ops call ops.toList K h (k .normal)
  | .region id ops true => match pl id with
   | some t => xHW P N ops call t K h (k .normal)
   | none => none
  | .seq x y => xDU P Fu pl call d N x K h (fun e K' h' => match e with
   | .normal => xDU P Fu pl call d N y K' h' k
   | e => k e K' h')
  | .cond c x y => match xAt K c with
   | some (.c (.sc (.bool b))) => bif b then xDU P Fu pl call d N x K h k else xDU P Fu pl call d N y K h k
   | _ => none
  | .block id x => xDU P Fu pl call d N x K h (fun e K' h' => match e with
   | .exit id' => bif Nat.beq id' id then k .normal K' h' else k (.exit id') K' h'
   | e => k e K' h')
  | .loop x => xLv (fun K h k => xDU P Fu pl call d N x K h k) Fu K h k
  | _ => none
def lkN {α : Type} : List (Nat × α) → Nat → Option α
 | [], _ => none
 | (i, x) :: l, n => bif Nat.beq i n then some x else lkN l n
abbrev xFA := List (Nat × List (Nat × PT))
def xBc (A : xFA) (f : Nat) : Nat → Option PT :=
 match lkN A f with
 | some l => lkN l
 | none => fun _ => none
/-- What is known of calls: the value, and what is new in memory. -/
abbrev Sums := FuncId → List PV → List Root → Option (Option (PV × List Root))
def noSums : Sums := fun _ _ _ => none
/-- A call: known; or entered: it sees what its arguments reach. -/
def evCall (P : Program) (Fu : Nat) (A : xFA) (Sm : Sums) : Nat → xAW β
 | 0, _, _, _, _ => none
 | d + 1, f, args, h, k => match Sm f args h with
  | some r => match r with
   | some (v, news) => k [] v (h ++ news)
   | none => none
  | none => match P.funcs[f]? with
   | some fn => match fn.body with
    | some c => xDU P Fu (xBc A f) (evCall P Fu A Sm d) 10000 (args.length + (fn.ntmps - args.length)) c (xRS 0 args) (xPT (xBL h args) h) (fun e K' h' => match e with
     | .exit _ => none
     | _ => match xPp P K' h' fn.results.toList with
      | some v => k (xBL h args) v (xEw (xBL h args) h h' 0)
      | none => none)
    | none => none
   | none => none
/-- Whether all regions of a code have plans that fit, where they have any. -/
def xAU (pl : Nat → Option PT) : Code → Bool
 | .region id ops true => match pl id with
  | some t => ptOk ops t
  | none => true
 | .seq x y => xAU pl x && xAU pl y
 | .cond _ x y => xAU pl x && xAU pl y
 | .block _ x => xAU pl x
 | .loop x => xAU pl x
 | _ => true
def xRA (P : Program) (p : Nat × List (Nat × PT)) : Bool :=
 match P.funcs[p.1]? with
 | some fn => match fn.body with
  | some c => xAU (lkN p.2) c
  | none => true
 | none => true
def xEN (P : Program) (A : xFA) : Prop := ∀ p ∈ A, xRA P p = true
end
end
end Go.Proofs.YtcbbhiobibhdnaaDoor
