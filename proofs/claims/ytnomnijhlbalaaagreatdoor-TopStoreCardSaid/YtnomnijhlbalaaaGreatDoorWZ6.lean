/- A part of the proof of the theorem of the last file. No condition. By an AI agent. -/
import Derived.Test.YtnomnijhlbalaaaGreatDoorWZ4
import Derived.Laws.OwnMore
namespace Go.Proofs.YtnomnijhlbalaaaGreatDoor
noncomputable section
open Go.RowKit
def xFv : TC -> TC -> Bool
 | .int k, .int k' => Nat.beq (kix k) (kix k')
 | .bool, .bool => true
 | .str, .str => true
 | .cv, .cv => true
 | .nil, .nil => true
 | .er, .er => true
 | .rf q t, .rf q' t' => Nat.beq q q' && Nat.beq t t'
 | .pair a b, .pair c d => xFv a c && xFv b d
 | _, _ => false
theorem xAz : ∀ {a b : TC}, xFv a b = true -> a = b
 | .int k, b, h => by
  cases b <;> simp only [xFv] at h <;> first | cases h | rw [xDU h]
 | .bool, b, h => by cases b <;> first | rfl | cases h
 | .str, b, h => by cases b <;> first | rfl | cases h
 | .cv, b, h => by cases b <;> first | rfl | cases h
 | .nil, b, h => by cases b <;> first | rfl | cases h
 | .er, b, h => by cases b <;> first | rfl | cases h
 | .rf q t, b, h => by
  cases b with
  | rf q' t' =>
   simp only [xFv, Bool.and_eq_true] at h;rw [nbT h.1, nbT h.2]
  | _ => cases h
 | .pair x y, b, h => by
  cases b with
  | pair c d =>
   simp only [xFv, Bool.and_eq_true] at h;rw [xAz h.1, xAz h.2]
  | _ => cases h
def xEd : List TC -> TC
 | [] => .nil
 | [a] => a
 | a :: b :: r => .pair a (xEd (b :: r))
def xBs (P : Program) : Nat -> TypeId -> TC
 | 0, _ => .cv
 | d + 1, t => match P.underlying t with
  | some (.int k) => .int k
  | some .bool => .bool
  | some .string => .str
  | some (.struct fs) => xEd (fs.toList.map (fun f => xBs P d f.type))
  | some (.array n e) => xEd (List.replicate n (xBs P d e))
  | _ => match refOf t with
   | some (q, k) => .rf q k
   | none => .cv
def xOb : TC -> TC
 | .rf _ _ => .cv
 | .pair a b => .pair (xOb a) (xOb b)
 | U => U
def xE3 (U : TC) : Nat -> List CV -> Option (List U.ty)
 | 0, l => match l with
  | [] => some []
  | _ :: _ => none
 | n + 1, l => match U.dec l with
  | some (x, r) => match xE3 U n r with
   | some xs => some (x :: xs)
   | none => none
  | none => none
theorem xEv {U : TC} : ∀ {n : Nat} {l : List CV} {xs : List U.ty}, xE3 U n l = some xs -> l = flat U xs /\ xs.length = n
 | 0, l, xs, h => by
  simp only [xE3] at h;split at h
  ·cases h; exact ⟨rfl, rfl⟩
  ·cases h
 | n + 1, l, xs, h => by
  simp only [xE3] at h;split at h
  ·rename_i x r hx;split at h
   ·rename_i ys hy;cases h;obtain ⟨h1, h2⟩ := xEv hy;exact ⟨by rw [TC.dec_enc U l x r hx, h1]; rfl, by simp [h2]⟩
   ·cases h
  ·cases h
def repL : Nat -> List CV -> List CV
 | 0, _ => []
 | n + 1, z => z ++ repL n z
def partOf (U U' : TC) (ys : List U'.ty) (k off : Nat) (n : Option Nat) : Option (List U.ty) :=
 if e : xFv U' U = true then bif Nat.beq k U'.w then match n with
   | none => some (xAz e ▸ ys.drop off)
   | some m => some (xAz e ▸ (ys.drop off).take m)
  else none
 else none
def xSH (U : TC) (h : List Root) : PV -> Option (List U.ty)
 | .c (.sl id k off n _) => match h[id]? with
  | some (.rows _ U' ys) => partOf U U' ys k off n
  | some (.ro U' ys) => partOf U U' ys k off n
  | _ => none
 | .c (.rf 1 t n) => match xAZ t h 0 with
  | some (_, .arr _ U' os) => if e : xFv U' U = true then some (xAz e ▸ xED os n) else none
  | _ => none
 | .c (.sc (.slice _ 0 _)) => some []
 | _ => none
def xAR (n m : Nat) : Bool := decide (n + m <= 1000000)
def lenOk2 (n m : Nat) : Bool := decide ((n + m) * 104 <= 140737488355328)
def lenG (b n m : Nat) : Bool := bif Nat.beq b 104 then lenOk2 n m else xAR n m
def xJw (bytes : Nat) : Bool := Nat.ble (1000000 * bytes) 140737488355328
def xOR (P : Program) (K : Slo) (h : List Root) (t : TypeId) (s x : Operand) : Step :=
 match P.underlying t with
 | some (.slice e) => match P.info? e, xJd P e with
  | some inf, some z => bif Nat.beq z.length inf.size && xJw inf.bytes then match xAo K s, xAo K x with
    | some (.c (.sl id k off n none)), some y => match h[id]? with
     | some (.rows T U xs) => bif Nat.beq T e && Nat.beq k U.w && Nat.beq inf.size U.w then match xSH U h y with
       | some ys => match n with
        | none => .mem [lenG inf.bytes (xs.length - off) ys.length] (.c (.sl h.length k 0 none none)) (h.set id .dead ++ [.rows T U (xs.drop off ++ ys)]) [id]
        | some n0 => .mem [Nat.ble (off + n0 + ys.length) xs.length] (.c (.sl id k off (some (n0 + ys.length)) none)) (h.set id (.rows T U (xs.take (off + n0) ++ ys ++ xs.drop (off + n0 + ys.length)))) [id]
       | none => .stuck
      else .stuck
     | _ => .stuck
    | some (.c (.sc (.slice none 0 0))), some y => bif Nat.beq inf.size (xBs P 20 e).w && Nat.ble 1 inf.size then match xSH (xBs P 20 e) h y with
      | some ys => .mem [lenG inf.bytes 0 ys.length] (.c (.sl h.length inf.size 0 none none)) (h ++ [.rows e (xBs P 20 e) ys]) []
      | none => .stuck
     else .stuck
    | _, _ => .stuck
   else .stuck
  | _, _ => .stuck
 | _ => .stuck
def xVo (K : Slo) : List Operand -> Option (List CV)
 | [] => some []
 | x :: r => match xAo K x, xVo K r with
  | some (.c y), some l => some (y :: l)
  | _, _ => none
def xRT (K : Slo) : List Operand -> Option (List PV)
 | [] => some []
 | x :: r => match xAo K x, xRT K r with
  | some y, some l => some (y :: l)
  | _, _ => none
def xA3 (P : Program) (f : FuncId) : Bool :=
 match P.funcs[f]? with
 | some fn => fn.body.isSome && fn.name != "runtime.NumGoroutine"
 | none => false
def xIz (P : Program) (f : FuncId) : Bool :=
 match P.funcs[f]? with
 | some fn => fn.body.isNone && (fn.name == "math/bits.Sub64") && (fn.origin == "")
 | none => false
def subP (l : List PV) (h : List Root) : Step :=
 match l with
 | [.c (.sc (.int .u64 x)), .c (.sc (.int .u64 y)), .c (.sc (.int .u64 b))] =>
  .mem [decide (0 <= x), decide (0 <= y), decide (0 <= b), decide (b <= 1)] (.tu [(false, [.sc (.int .u64 (((x.toNat + 18446744073709551616 - y.toNat - b.toNat) % 18446744073709551616 : Nat) : Int))]), (false, [.sc (.int .u64 ((bif decide (x.toNat < y.toNat + b.toNat) then 1 else 0 : Nat) : Int))])]) h []
 | _ => .stuck
def callP (P : Program) (K : Slo) (h : List Root) (f : Operand) (args : List Operand) : Step :=
 match xRT K args with
 | some l => match xAo K f with
  | some (.c (.sc (.func (.func g) ⟨[]⟩ ⟨[]⟩))) => bif xA3 P g then .call g l else (bif xIz P g then subP l h else .stuck)
  | some (.c (.hv id)) => match h[id]? with
   | some (.clo g fs cs) => bif xA3 P g then .call g (fs.map .c ++ l ++ cs.map .c) else .stuck
   | _ => .stuck
  | _ => .stuck
 | none => .stuck
def xRf : Operand -> Operand -> Bool
 | .tmp a, .tmp b => Nat.beq a b
 | _, _ => false
theorem xPw {l c : Operand} (h : xRf l c = true) : l = c := by
 unfold xRf at h;split at h
 ·rw [nbT h]
 ·cases h
def xRu (P : Program) (K : Slo) (h : List Root) (t : TypeId) (l c : Operand) : Step :=
 match P.underlying t with
 | some (.slice e) => match P.info? e, xJd P e with
  | some inf, some z => bif Nat.beq z.length inf.size && xJw inf.bytes && Nat.beq inf.size (xBs P 20 e).w && Nat.ble 1 inf.size then
    match xAo K l, xAo K c, (xBs P 20 e).dec1 (xD9 (xBs P 20 e).leaves z) with
    | some (.c (.sc (.int .i64 x))), some (.c (.sc (.int .i64 y))), some z0 => bif xRf l c then .mem [decide (0 <= x) && decide (x <= 1000000)] (.c (.sl h.length inf.size 0 none none)) (h ++ [.rows e (xBs P 20 e) (List.replicate x.toNat z0)]) [] else match x with
     | .ofNat 0 => .mem [decide (0 <= y) && decide (y <= 1000000)] (.c (.sl h.length inf.size 0 none none)) (h ++ [.rows e (xBs P 20 e) []]) []
     | _ => .stuck
    | _, _, _ => .stuck
   else .stuck
  | _, _ => .stuck
 | _ => .stuck
def xB9 (P : Program) (K : Slo) (h : List Root) (t : TypeId) (n : Nat) (parts : Array (Nat × Operand)) : Step :=
 match P.underlying t with
 | some (.slice e) => match P.info? e, xJd P e, xME K parts.toList with
  | some inf, some z, some ps => bif Nat.beq z.length inf.size && Nat.beq inf.size (xBs P 20 e).w && Nat.ble 1 inf.size && Nat.ble (n * inf.size) 16777216 then
    match xOD (fun i => some (i * inf.size, inf.size)) (repL n z) ps with
    | some cs => match xE3 (xBs P 20 e) n (xD9 (List.replicate n (xBs P 20 e).leaves).flatten cs) with
     | some xs => .mem [] (.c (.sl h.length inf.size 0 none none)) (h ++ [.rows e (xBs P 20 e) xs]) []
     | none => bif Nat.beq (xOb (xBs P 20 e)).w (xBs P 20 e).w then match xE3 (xOb (xBs P 20 e)) n cs with
      | some xs => .mem [] (.c (.sl h.length inf.size 0 none none)) (h ++ [.rows e (xOb (xBs P 20 e)) xs]) []
      | none => .stuck
      else .stuck
    | none => .stuck
   else .stuck
  | _, _, _ => .stuck
 | _ => .stuck
def compP : PV -> Option (Bool × List CV)
 | .c x => some (false, [x])
 | .ag l => some (true, l)
 | _ => none
def bltL : List UInt8 -> List UInt8 -> Bool
 | [], m => match m with
  | [] => false
  | _ :: _ => true
 | a :: l, m => match m with
  | [] => false
  | b :: m => bif Nat.beq a.toNat b.toNat then bltL l m else Nat.ble (a.toNat + 1) b.toNat
def KK.ltb : (V : KK) -> V.ty -> V.ty -> Bool
 | .i _, a, b => decide (a < b)
 | .s, a, b => bltL a.data.toList b.data.toList
def setK (V : KK) {α : Type} (n : V.ty) (x : α) (ts : List (V.ty × α)) : List (V.ty × α) := ts.map (fun e => bif V.eqb n e.1 then (e.1, x) else e)
def xXU (V : KK) {α : Type} (n : V.ty) (x : α) : List (V.ty × α) -> List (V.ty × α)
 | [] => [(n, x)]
 | e :: r => bif V.ltb n e.1 then (n, x) :: e :: r else e :: xXU V n x r
def xHh (V : KK) {α : Type} (n : V.ty) (x : α) (ts : List (V.ty × α)) : List (V.ty × α) := bif hasK V n ts then setK V n x ts else xXU V n x ts
def delK (V : KK) {α : Type} (n : V.ty) (ts : List (V.ty × α)) : List (V.ty × α) := ts.filter (fun e => !V.eqb n e.1)
def kkEq : KK -> KK -> Bool
 | .i k, .i k' => Nat.beq (kix k) (kix k')
 | .s, .s => true
 | _, _ => false
theorem xCq {a b : KK} (h : kkEq a b = true) : a = b := by
 cases a <;> cases b <;> first | (cases h; done) | rfl | (rw [xDU h])
def xRQ {V V' : KK} {U U' : TC} (e1 : V = V') (e2 : U = U') (ts : List (V.ty × U.ty)) : List (V'.ty × U'.ty) := e1 ▸ e2 ▸ ts
def xTP (h : List Root) (pl : MPl) (V : KK) (agg : Bool) (U : TC) (ts : List (V.ty × U.ty)) : Option (List Root) :=
 match pl with
 | .root id => some (h.set id (.mp V agg U ts))
 | .ar p n => match h[p]? with
  | some (.arm t V' agg' U' os) => if e1 : kkEq V V' = true then if e : xFv U U' = true then some (h.set p (.arm t V' agg' U' (xBh os n (xRQ (xCq e1) (xAz e) ts)))) else none else none
  | _ => none
def wrG : MPl -> List Bool
 | .root _ => []
 | .ar _ n => [!Nat.beq n 0]
def valT (agg : Bool) (U : TC) : PV -> Option U.ty
 | .c x => bif agg then none else U.dec1 (xD9 U.leaves [x])
 | .ag l => bif agg then U.dec1 (xD9 U.leaves l) else none
 | _ => none
def xKY (P : Program) (K : Slo) (h : List Root) (t : TypeId) (r : Option Operand) : Step :=
 match P.underlying t with
 | some (.map kt et) => match kkOf P kt, P.underlying et with
  | some V, some d => match r with
   | none => .mem [] (.c (.hv h.length)) (h ++ [.mp V (xBK d) (xBs P 20 et) []]) []
   | some x => match xAo K x with
    | some (.c (.sc (.int _ _))) => .mem [] (.c (.hv h.length)) (h ++ [.mp V (xBK d) (xBs P 20 et) []]) []
    | _ => .stuck
  | _, _ => .stuck
 | _ => .stuck
def memS (g : List Bool) (v : PV) (t : List Nat) : Option (List Root) -> Step
 | some h' => .mem g v h' t
 | none => .stuck
def xKX (P : Program) (K : Slo) (h : List Root) (t : TypeId) (m x y : Operand) : Step :=
 match P.underlying t, xAo K m, xAo K x, xAo K y with
 | some (.map kt _), some (.c c), some (.c (.sc kv)), some v => match P.underlying kt, xKV h c with
  | some d, some ⟨g, pl, V, agg, U, ts⟩ => bif V.fits d then match keyOf V kv, valT agg U v with
    | some n, some z => memS (wrG pl ++ g) .un [pl.id] (xTP h pl V agg U (xHh V n z ts))
    | _, _ => .stuck
   else .stuck
  | _, _ => .stuck
 | _, _, _, _ => .stuck
def xOn (P : Program) (K : Slo) (h : List Root) (t : TypeId) (m x : Operand) : Step :=
 match P.underlying t, xAo K m, xAo K x with
 | some (.map kt _), some (.c c), some (.c (.sc kv)) => match P.underlying kt, xKV h c with
  | some d, some ⟨g, pl, V, agg, U, ts⟩ => bif V.fits d then match keyOf V kv with
    | some n => memS (wrG pl ++ g) (.tu []) [pl.id] (xTP h pl V agg U (delK V n ts))
    | none => .stuck
   else .stuck
  | _, _ => .stuck
 | _, _, _ => .stuck
def xVc (P : Program) (K : Slo) (h : List Root) (t : TypeId) (x : Operand) : Step :=
 match P.underlying t with
 | some (.slice e) => match P.info? e, xJd P e with
  | some inf, some z => match xAo K x with
   | some (.c (.sl id k off (some n) none)) => match h[id]? with
    | some (.rows T U xs) => bif Nat.beq z.length inf.size && Nat.beq k U.w && Nat.beq inf.size U.w then match U.dec1 (xD9 U.leaves z) with
      | some z0 => .mem [Nat.ble (off + n) xs.length] (.tu []) (h.set id (.rows T U (xs.take off ++ List.replicate n z0 ++ xs.drop (off + n)))) [id]
      | none => .stuck
     else .stuck
    | _ => .stuck
   | _ => .stuck
  | _, _ => .stuck
 | _ => .stuck
def xNY (P : Program) (K : Slo) (h : List Root) (t : TypeId) (x lo hi mx : Operand) : Step :=
 match P.underlying t, xAo K x with
 | some (.slice e), some (.c (.sl id _ off n _)) => match P.info? e, lenP h id off n with
  | some _, some n0 => match xAo K lo, xAo K hi, xAo K mx with
   | some (.c (.sc (.int _ l))), some (.c (.sc (.int _ u))), some (.c (.sc (.int _ m))) => .mem [inC m n0, inC u m.toNat, inC l u.toNat] (.c (.hv h.length)) (h ++ [.dead]) []
   | _, _, _ => .stuck
  | _, _ => .stuck
 | _, _ => .stuck
def xQz (len off : Nat) : Option Nat -> Nat
 | none => len - off
 | some m => m
def copyP (P : Program) (K : Slo) (h : List Root) (t : TypeId) (x y : Operand) : Step :=
 match P.underlying t with
 | some (.slice e) => match P.info? e, xAo K y with
  | some inf, some q => match xAo K x with
   | some (.c (.sl id k off n none)) => match h[id]? with
    | some (.rows T U xs) => bif Nat.beq k U.w && Nat.beq inf.size U.w && Nat.beq inf.size 1 then match xSH U h q with
      | some ys => .mem [] (.c (.sc (.int .i64 ((ys.take (xQz xs.length off n)).length : Nat)))) (h.set id (.rows T U (xs.take off ++ ys.take (xQz xs.length off n) ++ xs.drop (off + (ys.take (xQz xs.length off n)).length)))) [id]
      | none => .stuck
     else .stuck
    | _ => .stuck
   | _ => .stuck
  | _, _ => .stuck
 | _ => .stuck
def xTh (P : Program) (K : Slo) (h : List Root) (t : TypeId) (x : Operand) : Step :=
 match P.underlying t, xAo K x with
 | some .string, some (.c (.sc (.string s))) => .mem [] (.c (.pt h.length 0 0 0)) (h ++ [.it s 0]) []
 | _, _ => .stuck
def nextP (K : Slo) (h : List Root) (x : Operand) : Step :=
 match xAo K x with
 | some (.c (.pt id k row j)) => bif Nat.beq k 0 && Nat.beq row 0 && Nat.beq j 0 then match h[id]? with
   | some (.it s pos) => bif Nat.blt pos s.size then .mem [] (.tu [(false, [.sc (.bool true)]), (false, [.sc (.int .i64 pos)]), (false, [.sc (.int .i32 (Utf8.decode s pos).1)])]) (h.set id (.it s (pos + (Utf8.decode s pos).2))) [id] else .mem [] (.tu [(false, [.sc (.bool false)])]) h []
   | _ => .stuck
  else .stuck
 | _ => .stuck
def xCO (P : Program) (K : Slo) (h : List Root) (o : Oper) : Step :=
 match o.op with
 | .alloc T => match xJd P T with
  | some cs => .mem [] (.c (.pt h.length 0 0 0)) (h ++ [.blk cs T]) []
  | none => .stuck
 | .box T x => match (xAo K x).bind xQF with
  | some cs => .mem [] (.c (.pt h.length 0 0 0)) (h ++ [.blk cs T]) []
  | none => .stuck
 | .store t x y => match xAo K x, (xAo K y).bind xQF, P.info? t with
  | some (.c (.pt id k row j)), some cs, some inf => bif Nat.beq cs.length inf.size then match h[id]? with
    | some r => match xKE r k row j cs with
     | some r' => .mem [] .un (h.set id r') [id]
     | none => .stuck
    | none => .stuck
   else .stuck
  | some (.c x'), some cs, some inf => bif Nat.beq cs.length inf.size then match rpOf x' with
    | some (t', n, k, row, j) => match xAZ t' h 0 with
     | some (p, r) => match xRU r n k row j cs with
      | some (g, r') => .mem [g] .un (h.set p r') [p]
      | none => .stuck
     | none => .stuck
    | none => .stuck
   else .stuck
  | _, _, _ => .stuck
 | .makeFunc (.func f) ⟨fs⟩ ⟨cs⟩ => match xVo K fs, xVo K cs with
  | some a, some b => .mem [] (.c (.hv h.length)) (h ++ [.clo f a b]) []
  | _, _ => .stuck
 | .buildSlice t n parts => xB9 P K h t n parts
 | .makeSlice t l c => xRu P K h t l c
 | .call ⟨.builtin .append, ⟨[s, x]⟩, ⟨[t, t']⟩⟩ => bif Nat.beq t t' then xOR P K h t s x else .stuck
 | .call ⟨.value f, ⟨args⟩, _⟩ => callP P K h f args
 | .makeMap t r => xKY P K h t r
 | .range t x => xTh P K h t x
 | .next x true => nextP K h x
 | .call ⟨.builtin .clear, ⟨[x]⟩, ⟨[t]⟩⟩ => xVc P K h t x
 | .call ⟨.builtin .copy, ⟨[x, y]⟩, ⟨[t, _]⟩⟩ => copyP P K h t x y
 | .mapUpdate t m x y => xKX P K h t m x y
 | .insert t m x y => xKX P K h t m x y
 | .slice t x (some lo) (some hi) (some mx) => xNY P K h t x lo hi mx
 | .call ⟨.builtin .delete, ⟨[m, x]⟩, ⟨t :: _⟩⟩ => xOn P K h t m x
 | _ => .stuck
end
open Go.RowKit
def DenArgs (O : List Info) : List PV -> List Value -> Prop
 | [], vs => vs = []
 | p :: l, vs => ∃ v r, vs = v :: r /\ DenP O p v /\ DenArgs O l r
section
variable {P : Program} {N : Nat} {S F : List Nat} {W0 : World} {O : List Info} {K : Slo} {h : List Root} {w : World} {a : Act} {o : Oper}
def Feet (O : List Info) (h : List Root) (w : World) (O' : List Info) (h' : List Root) : Prop :=
 ∀ (q : Nat) (r : Root) (i : Info) (b : Nat), h'[q]? = some r -> O'[q]? = some i -> foot i r b -> w.heap.size <= b \/ ∃ (p : Nat) (r0 : Root) (i0 : Info), h[p]? = some r0 /\ O[p]? = some i0 /\ foot i0 r0 b
theorem Feet.app {i' : Info} {r' : Root} (hl : O.length = h.length) {h1 : List Root} (hh : h1.length = h.length) (h1o : ∀ (q : Nat) (r : Root), h1[q]? = some r -> r = .dead \/ h[q]? = some r) (hn : ∀ b, foot i' r' b -> w.heap.size <= b \/ ∃ (p : Nat) (r0 : Root) (i0 : Info), h[p]? = some r0 /\ O[p]? = some i0 /\ foot i0 r0 b) : Feet O h w (O ++ [i']) (h1 ++ [r']) := by
 intro q r i b hr hi hf;rcases Nat.lt_or_ge q h.length with hq | hq
 ·rw [List.getElem?_append_left (by omega)] at hr hi;rcases h1o q r hr with rfl | h2
  ·exact absurd hf xBa
  ·exact .inr ⟨q, r, i, h2, hi, hf⟩
 ·have hlt := (List.getElem?_eq_some_iff.1 hr).1;simp at hlt;obtain rfl : q = h.length := by omega
  rw [List.getElem?_append_right (by omega), hh] at hr;have := xLd hl hi;subst this;simp at hr;subst hr;exact hn b hf
theorem Feet.refl (w : World) : Feet O h w O h := fun q r i _ h1 h2 h3 => .inr ⟨q, r, i, h1, h2, h3⟩
def MemOk (P : Program) (S F : List Nat) (W0 : World) (O : List Info) (h : List Root) (w : World) (a : Act) (o : Oper) (v : PV) (h' : List Root) (t : List Nat) : Prop :=
 ∃ O' u nx w' B, Pre O O' /\ DenP O' v u /\ (nx = .value u \/ (nx = .skip /\ u = undef)) /\ (execOp a.eval o).run P w = .ok nx w' /\ HOk S F W0 O' h' w' /\ Ex B w w' /\
  (∀ b ∈ B, ∃ p ∈ t, ∃ r i, h[p]? = some r /\ O[p]? = some i /\ own i r b) /\ (∀ q : Nat, q ∉ t -> q < h.length -> h'[q]? = h[q]?) /\ Feet O h w O' h'
def xEX (P : Program) (S F : List Nat) (W0 : World) (O : List Info) (h : List Root) (w : World) (a : Act) (o : Oper) : Step -> Prop
 | .mem g v h' t => AllB g -> MemOk P S F W0 O h w a o v h' t
 | .call f args => ∃ vs : List Value, (execOp a.eval o).run P w = .ok (.enter f vs.toArray) w /\ xA3 P f = true /\ DenArgs O args vs
 | _ => True
theorem xEo (hh : HOk S F W0 O h w) (i : Info) : (O ++ [i])[h.length]? = some i := by
 rw [List.getElem?_append_right (by rw [hh.len]; omega), hh.len]; simp
theorem Ex.allocs (w : World) (x : Obj) : Ext w (w.alloc x) := (Ex.refl [] w).alloc x
theorem xF2 {p : PV} {v : Value} {cs : List CV} (hd : DenP O p v) (hc : xQF p = some cs) : DenL O cs v.cells.toList := by
 cases p with
 | c y =>
  cases hc;refine ⟨v, [], ?_, hd, rfl⟩;have := Den.one hd;cases v <;> first | rfl | cases this
 | ag m =>
  cases hc;obtain ⟨vs, h1, h2⟩ := hd;rw [h2]; simpa [Value.cells] using h1
 | tu m => cases hc
 | un => cases hc
theorem xTN (hh : HOk S F W0 O h w) {cs : List CV} {T : TypeId} {arr : Array Value} (hd : DenL O cs arr.toList) (hrun : (execOp a.eval o).run P w = .ok (.value (.pointer (some ⟨w.heap.size, 0, none⟩))) (w.alloc (.cells arr T (0, 0)))) :
  MemOk P S F W0 O h w a o (.c (.pt h.length 0 0 0)) (h ++ [.blk cs T]) [] := by
 refine ⟨O ++ [⟨some ⟨w.heap.size, 0, none⟩, cs.length, none, .nilFunc⟩], _, _, _, [], Pre.app _ _, ⟨_, w.heap.size, 0, xEo hh _, rfl, ⟨fun m hm => (by cases hm), fun _ h0 => (by cases h0)⟩, rfl⟩, .inl rfl, hrun, ?_, Ex.allocs _ _, by simp, fun q _ hq => List.getElem?_append_left hq, Feet.app hh.len rfl (fun _ _ h => .inr h) (fun b hb => by simp only [foot, own, Option.map_some, Option.some.injEq] at hb; omega)⟩;refine hh.add (Ex.allocs _ _) _ _ ⟨⟨rfl, rfl⟩, w.heap.size, arr.toList, rfl, hd.mono (Pre.app _ _), by simpa using xAq w (.cells arr T (0, 0))⟩ (fun b hb => ?_);simp only [foot, own, Option.map_some, Option.some.injEq] at hb;omega
theorem xFL (hh : HOk S F W0 O h w) {T : TypeId} {U : TC} {xs : List U.ty} (hw : 0 < U.w) {us : List Value} (hd : DenL O (flat U xs) us) {v : Value} {w' : World} (hrun : (execOp a.eval o).run P w = .ok (.value v) w') (hown : w'.ownsRow w.heap.size T U.w v xs.length us) (hE : Ext w w') :
  MemOk P S F W0 O h w a o (.c (.sl h.length U.w 0 none none)) (h ++ [.rows T U xs]) [] := by
 obtain ⟨h1, h2⟩ := hown;have key : ∃ aa cap, v = .slice aa xs.length cap /\ ownsAt w' T U.w aa cap xs.length us /\ xs.length <= cap /\ cap <= maxLen /\ (0 < xs.length -> ∃ b o, aa = some ⟨b, o, none⟩) /\ ∀ b, aa.map (·.block) = some b -> w.heap.size <= b := by
  rcases h2 with ⟨h2, h3⟩ | ⟨g, cap, cur, h2, h3, h4, h5, h6, h7, h8⟩
  ·refine ⟨none, 0, by rw [h2, h3], ⟨h1, by omega, by unfold maxLen; omega, .inl ⟨rfl, by simp⟩⟩, by omega, by unfold maxLen; omega, by omega, by simp⟩
  ·refine ⟨some ⟨g, 0, none⟩, cap, h2, ⟨h1, h5, h6, .inr ⟨g, 0, cur, rfl, h4, by omega, by simpa using h8⟩⟩, h5, h6, fun _ => ⟨g, 0, rfl⟩, fun b hb => ?_⟩;simp only [Option.map_some, Option.some.injEq] at hb;omega
 obtain ⟨aa, cap, e, k1, k2, k3, k4, k5⟩ := key;subst e;refine ⟨O ++ [⟨aa, cap, some xs.length, .nilFunc⟩], _, _, _, [], Pre.app _ _, ⟨_, aa, cap, xs.length, xEo hh _, rfl, k2, k3, k4, ⟨_, rfl, (Nat.sub_zero _).symm⟩, ⟨_, rfl, by omega⟩, (Nat.sub_zero _).symm, rfl, fun _ => rfl, fun _ => ?_⟩, .inl rfl, hrun, ?_, hE, by simp, fun q _ hq => List.getElem?_append_left hq, Feet.app (i' := ⟨aa, cap, some xs.length, .nilFunc⟩) (r' := .rows T U xs) hh.len rfl (fun _ _ h => .inr h) (fun b hb => .inl (k5 b hb))⟩
 ·cases aa <;> simp [Addr.add]
 ·exact hh.add hE _ _ ⟨rfl, hw, us, hd.mono (Pre.app _ _), k1⟩ (fun b hb => k5 b hb)
theorem xGh {z : List CV} {vs : List Value} (hz : DenL O z vs) : ∀ n : Nat, DenL O (repL n z) (List.replicate n vs).flatten
 | 0 => rfl
 | n + 1 => by rw [repL, List.replicate_succ, List.flatten_cons]; exact hz.app (xGh hz n)
theorem xBt (vs : Array Value) : ∀ n : Nat, (madeCells vs (n * vs.size)).toList = (List.replicate n vs.toList).flatten
 | 0 => by simp [madeCells]
 | n + 1 => by
  have ih := xBt vs n;simp only [madeCells, Array.toList_map, Array.toList_range] at ih ⊢;rw [Nat.add_mul, Nat.one_mul, Nat.add_comm, List.range_add, List.map_append, List.replicate_succ, List.flatten_cons, <- ih, List.map_map];congr 1
  ·apply List.ext_getElem
   ·simp
   ·intro i h1 h2;have h3 : i < vs.size := by simpa using h2
    simp [Nat.mod_eq_of_lt h3, h3]
  ·apply List.map_congr_left;intro i _;simp
theorem xHE (U : TC) (x : U.ty) : ∀ n : Nat, flat U (List.replicate n x) = repL n (U.enc x)
 | 0 => rfl
 | n + 1 => by rw [List.replicate_succ, flat, List.flatMap_cons, repL]; congr 1; exact xHE U x n
theorem xKy (hh : HOk S F W0 O h w) {U : TC} {y : PV} {v : Value} {ys : List U.ty} (hy : DenP O y v) (hs : xSH U h y = some ys) :
  ∃ a2 c2 us, v = .slice a2 ys.length c2 /\ DenL O (flat U ys) us /\ (0 < ys.length -> ∃ b o, a2 = some ⟨b, o, none⟩ /\ ∀ (j : Nat) (u : Value), us[j]? = some u -> w.cell? ⟨b, o + j, none⟩ = some u) := by
 have part : ∀ (id k off : Nat) (n c : Option Nat) (U' : TC) (zs : List U'.ty) (i : Info) (vs : List Value), O[id]? = some i -> i.len = some zs.length -> DenL O (flat U' zs) vs ->
   (∀ b o, i.a = some ⟨b, o, none⟩ -> 0 < zs.length -> ∀ (j : Nat) (u : Value), vs[j]? = some u -> w.cell? ⟨b, o + j, none⟩ = some u) -> Den O (.sl id k off n c) v -> partOf U U' zs k off n = some ys ->
   ∃ a2 c2 us, v = .slice a2 ys.length c2 /\ DenL O (flat U ys) us /\ (0 < ys.length -> ∃ b o, a2 = some ⟨b, o, none⟩ /\ ∀ (j : Nat) (u : Value), us[j]? = some u -> w.cell? ⟨b, o + j, none⟩ = some u) := by
  intro id k off n c U' zs i vs hi hlen hd hcell hden hp;obtain ⟨i', a', c', nn, h1, h2, h3, h4, h5, h6, h7⟩ := hden;rw [hi] at h1; cases h1;unfold partOf at hp;split at hp
  ·rename_i e;have e' := xAz e;subst e'
   cases hk : Nat.beq k U'.w with
   | false => rw [hk] at hp; cases hp
   | true =>
    rw [hk] at hp;have hk' := nbT hk;subst hk';simp only [cond_true] at hp;have hfl : ∀ x : Nat, flat U' (zs.drop x) = (flat U' zs).drop (x * U'.w) := by
     intro x;rcases Nat.lt_or_ge x zs.length with hx | hx
     ·have := xFX U' zs x hx;rw [List.append_nil, List.append_nil] at this;rw [this, List.drop_eq_getElem_cons hx];show U'.enc zs[x] ++ _ = U'.enc (nth zs U'.dflt x) ++ _;rw [<- xAG zs _ x hx];rfl
     ·rw [List.drop_of_length_le hx, List.drop_of_length_le (by rw [xDa]; exact Nat.mul_le_mul_right _ hx)]; rfl
    have hft : ∀ (l : List U'.ty) (m : Nat), flat U' (l.take m) = (flat U' l).take (m * U'.w) := by
     intro l
     induction l with
     | nil => intro m; simp [flat]
     | cons x l ih =>
      intro m
      cases m with
      | zero => simp [flat]
      | succ m =>
       have := ih m;simp only [flat] at this;simp only [List.take_succ_cons, flat, List.flatMap_cons, this];rw [show (m + 1) * U'.w = (U'.enc x).length + m * U'.w by rw [U'.enc_len, Nat.add_mul]; omega, List.take_length_add_append]
    have fin : ∀ (us : List Value), DenL O (flat U' ys) us -> (∀ (j : Nat) (u : Value), us[j]? = some u -> vs[off * U'.w + j]? = some u) -> nn = ys.length -> 0 < zs.length \/ ys.length = 0 -> (0 < ys.length -> 0 < nn /\ a' = i.a.map (·.add (off * U'.w))) -> ∃ a2 c2 us, v = .slice a2 ys.length c2 /\ DenL O (flat U' ys) us /\ (0 < ys.length -> ∃ b o, a2 = some ⟨b, o, none⟩ /\ ∀ (j : Nat) (u : Value), us[j]? = some u -> w.cell? ⟨b, o + j, none⟩ = some u) := by
     intro us g1 g2 g3 g4 g5;subst g3;refine ⟨a', c', us, h2, g1, fun hpos => ?_⟩;obtain ⟨g6, g7⟩ := g5 hpos;obtain ⟨b, o, g8⟩ := h5 g6;refine ⟨b, o + off * U'.w, by rw [g7, g8, Option.map_some, Addr.add_lit], fun j u hu => ?_⟩;have := hcell b o g8 (by omega) _ u (g2 j u hu);rwa [<- Nat.add_assoc] at this
    have addr : 0 < nn -> a' = i.a.map (·.add (off * U'.w)) := by
     intro hpos
     cases c with
     | none =>
      obtain ⟨⟨m, h8, h9⟩, h10, _, h11, h12⟩ := h7;exact h12 (by omega)
     | some c0 => exact h7.2.2.2 hpos
    split at hp
    ·cases hp;obtain ⟨m, h8, h9⟩ := h6;rw [hlen] at h8; cases h8;have hl : nn = (zs.drop off).length := by rw [h9, List.length_drop]
     refine fin (vs.drop (off * U'.w)) (by rw [hfl]; exact hd.drop _) (fun j u hu => by rwa [List.getElem?_drop] at hu) hl ?_ (fun hpos => ⟨by omega, addr (by omega)⟩);rw [List.length_drop]; omega
    ·rename_i m;have hb' : off + m <= zs.length := by
      simp only [Info.cnt] at h6
      cases c with
      | none =>
       obtain ⟨⟨m', h8, h9⟩, _⟩ := h7;rw [hlen] at h8; cases h8; omega
      | some c0 => have := h7.1; rw [hlen] at this; cases this
     cases hp;have hl : nn = ((zs.drop off).take m).length := by rw [List.length_take, List.length_drop]; simp only [Info.cnt] at h6; omega
     refine fin ((vs.drop (off * U'.w)).take (m * U'.w)) (by rw [hft, hfl]; exact (hd.drop _).take _) (fun j u hu => ?_) hl ?_ (fun hpos => ⟨by omega, addr (by omega)⟩)
     ·rw [List.getElem?_take] at hu;split at hu
      ·rwa [List.getElem?_drop] at hu
      ·cases hu
     ·rw [List.length_take, List.length_drop]; omega
  ·cases hp
 unfold xSH at hs;split at hs
 ·rename_i id k off n c;split at hs
  ·rename_i T U' zs hr;obtain ⟨i, hi⟩ := hh.info hr;obtain ⟨h0, _, vs, h1, h2⟩ := hh.ok id _ i hr hi;exact part id k off n c U' zs i vs hi h0 h1 (fun b o ha _ j u hu => by rw [ha] at h2; exact xCR h2 hu) hy hs
  ·rename_i U' zs hr;obtain ⟨i, hi⟩ := hh.info hr;obtain ⟨h0, vs, h1, h2⟩ := hh.ok id _ i hr hi;refine part id k off n c U' zs i vs hi h0 h1 (fun b o ha hpos j u hu => ?_) hy hs;obtain ⟨b', o', h3, _, h4⟩ := h2 hpos;rw [ha] at h3; cases h3;exact h4 j u hu
  ·cases hs
 ·rename_i t n;split at hs
  ·rename_i p t2 U' os hr;split at hs
   ·rename_i e;have e' := xAz e;subst e';cases hs;obtain ⟨p', hp, hrr, ht⟩ := xAA hr;rw [Nat.zero_add] at hp; subst hp;rcases hy with ⟨h0, h1⟩ | ⟨m, id, i0, h1, h2, h3, _⟩
    ·subst h0; exact ⟨_, _, [], h1, rfl, fun hpos => absurd hpos (by simp [xED])⟩
    ·obtain ⟨ip, hip⟩ := hh.info hrr;have h7 := hh.cov p t _ ip hrr hip ht id i0 m _ h2 h3;obtain ⟨hA, _⟩ : ArOk O w (ip.objs t) (Root.arr t2 U' os).obs /\ True := ⟨by cases ht; exact hh.ok p _ ip hrr hip, trivial⟩;have hlt : m < os.length := by
      have h8 := (List.getElem?_eq_some_iff.1 h7).1;have h9 := hA.1;simp only [Root.obs, List.length_map] at h9;omega
     obtain ⟨a1, c1, g1, _, _, vs, g2, g3⟩ := hA.2.1 m _ (.rr U' os[m]) h7 (by simp only [Root.obs, List.getElem?_map, List.getElem?_eq_getElem hlt, Option.map_some]);have hrow : xED os n = os[m] := by
      rw [h1]; simp [xED, nth, List.getD_eq_getElem?_getD, List.getElem?_eq_getElem hlt]
     show ∃ a2 c2 us, v = .slice a2 (xED os n).length c2 /\ DenL O (flat U' (xED os n)) us /\ _;rw [hrow];refine ⟨a1, c1, vs, g1, g2, fun hpos => ?_⟩;obtain ⟨b, o, g4, _, g5⟩ := g3 hpos;exact ⟨b, o, g4, g5⟩
   ·cases hs
  ·cases hs
 ·cases hs;exact ⟨_, _, [], hy.1, rfl, fun hpos => absurd hpos (by simp)⟩
 ·cases hs
end
end Go.Proofs.YtnomnijhlbalaaaGreatDoor
