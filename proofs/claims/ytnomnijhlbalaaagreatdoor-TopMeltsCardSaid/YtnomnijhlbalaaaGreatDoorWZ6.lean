/- A part of the proof of the theorem of the last file. No condition. By an AI agent. -/
import Derived.Test.YtnomnijhlbalaaaGreatDoorWZ4
import Derived.Laws.OwnMore
namespace Go.Proofs.YtnomnijhlbalaaaGreatDoor
noncomputable section
open Go.RowKit
def xFx : TC -> TC -> Bool
 | .int k, .int k' => Nat.beq (kix k) (kix k')
 | .bool, .bool => true
 | .str, .str => true
 | .cv, .cv => true
 | .nil, .nil => true
 | .er, .er => true
 | .rf q t, .rf q' t' => Nat.beq q q' && Nat.beq t t'
 | .pair a b, .pair c d => xFx a c && xFx b d
 | _, _ => false
theorem xAD : ∀ {a b : TC}, xFx a b = true -> a = b
 | .int k, b, h => by
  cases b <;> simp only [xFx] at h <;> first | cases h | rw [xDG h]
 | .bool, b, h => by cases b <;> first | rfl | cases h
 | .str, b, h => by cases b <;> first | rfl | cases h
 | .cv, b, h => by cases b <;> first | rfl | cases h
 | .nil, b, h => by cases b <;> first | rfl | cases h
 | .er, b, h => by cases b <;> first | rfl | cases h
 | .rf q t, b, h => by
  cases b with
  | rf q' t' =>
   simp only [xFx, Bool.and_eq_true] at h;rw [nbT h.1, nbT h.2]
  | _ => cases h
 | .pair x y, b, h => by
  cases b with
  | pair c d =>
   simp only [xFx, Bool.and_eq_true] at h;rw [xAD h.1, xAD h.2]
  | _ => cases h
def xD0 : List TC -> TC
 | [] => .nil
 | [a] => a
 | a :: b :: r => .pair a (xD0 (b :: r))
def xBv (P : Program) : Nat -> TypeId -> TC
 | 0, _ => .cv
 | d + 1, t => match P.underlying t with
  | some (.int k) => .int k
  | some .bool => .bool
  | some .string => .str
  | some (.struct fs) => xD0 (fs.toList.map (fun f => xBv P d f.type))
  | some (.array n e) => xD0 (List.replicate n (xBv P d e))
  | _ => match refOf t with
   | some (q, k) => .rf q k
   | none => .cv
def xPh : TC -> TC
 | .rf _ _ => .cv
 | .pair a b => .pair (xPh a) (xPh b)
 | τ => τ
def xEU (τ : TC) : Nat -> List CV -> Option (List τ.ty)
 | 0, l => match l with
  | [] => some []
  | _ :: _ => none
 | n + 1, l => match τ.dec l with
  | some (x, r) => match xEU τ n r with
   | some xs => some (x :: xs)
   | none => none
  | none => none
theorem xEg {τ : TC} : ∀ {n : Nat} {l : List CV} {xs : List τ.ty}, xEU τ n l = some xs -> l = flat τ xs /\ xs.length = n
 | 0, l, xs, h => by
  simp only [xEU] at h;split at h
  ·cases h; exact ⟨rfl, rfl⟩
  ·cases h
 | n + 1, l, xs, h => by
  simp only [xEU] at h;split at h
  ·rename_i x r hx;split at h
   ·rename_i ys hy;cases h;obtain ⟨h1, h2⟩ := xEg hy;exact ⟨by rw [TC.dec_enc τ l x r hx, h1]; rfl, by simp [h2]⟩
   ·cases h
  ·cases h
def repL : Nat -> List CV -> List CV
 | 0, _ => []
 | n + 1, z => z ++ repL n z
def partOf (τ τ' : TC) (ys : List τ'.ty) (k off : Nat) (n : Option Nat) : Option (List τ.ty) :=
 if e : xFx τ' τ = true then bif Nat.beq k τ'.w then match n with
   | none => some (xAD e ▸ ys.drop off)
   | some m => some (xAD e ▸ (ys.drop off).take m)
  else none
 else none
def xT2 (τ : TC) (h : List Root) : PV -> Option (List τ.ty)
 | .c (.sl id k off n _) => match h[id]? with
  | some (.rows _ τ' ys) => partOf τ τ' ys k off n
  | some (.ro τ' ys) => partOf τ τ' ys k off n
  | _ => none
 | .c (.rf 1 t n) => match xA7 t h 0 with
  | some (_, .arr _ τ' os) => if e : xFx τ' τ = true then some (xAD e ▸ xJ9 os n) else none
  | _ => none
 | .c (.sc (.slice _ 0 _)) => some []
 | _ => none
def xA8 (n m : Nat) : Bool := decide (n + m <= 1000000)
def lenOk2 (n m : Nat) : Bool := decide ((n + m) * 104 <= 140737488355328)
def lenG (b n m : Nat) : Bool := bif Nat.beq b 104 then lenOk2 n m else xA8 n m
def xKv (bytes : Nat) : Bool := Nat.ble (1000000 * bytes) 140737488355328
def xP1 (P : Program) (K : Slo) (h : List Root) (t : TypeId) (s x : Operand) : Step :=
 match P.underlying t with
 | some (.slice e) => match P.info? e, xKb P e with
  | some inf, some z => bif Nat.beq z.length inf.size && xKv inf.bytes then match xAv K s, xAv K x with
    | some (.c (.sl id k off n none)), some y => match h[id]? with
     | some (.rows T τ xs) => bif Nat.beq T e && Nat.beq k τ.w && Nat.beq inf.size τ.w then match xT2 τ h y with
       | some ys => match n with
        | none => .mem [lenG inf.bytes (xs.length - off) ys.length] (.c (.sl h.length k 0 none none)) (h.set id .dead ++ [.rows T τ (xs.drop off ++ ys)]) [id]
        | some n0 => .mem [Nat.ble (off + n0 + ys.length) xs.length] (.c (.sl id k off (some (n0 + ys.length)) none)) (h.set id (.rows T τ (xs.take (off + n0) ++ ys ++ xs.drop (off + n0 + ys.length)))) [id]
       | none => .stuck
      else .stuck
     | _ => .stuck
    | some (.c (.sc (.slice none 0 0))), some y => bif Nat.beq inf.size (xBv P 20 e).w && Nat.ble 1 inf.size then match xT2 (xBv P 20 e) h y with
      | some ys => .mem [lenG inf.bytes 0 ys.length] (.c (.sl h.length inf.size 0 none none)) (h ++ [.rows e (xBv P 20 e) ys]) []
      | none => .stuck
     else .stuck
    | _, _ => .stuck
   else .stuck
  | _, _ => .stuck
 | _ => .stuck
def xXx (K : Slo) : List Operand -> Option (List CV)
 | [] => some []
 | x :: r => match xAv K x, xXx K r with
  | some (.c y), some l => some (y :: l)
  | _, _ => none
def xTb (K : Slo) : List Operand -> Option (List PV)
 | [] => some []
 | x :: r => match xAv K x, xTb K r with
  | some y, some l => some (y :: l)
  | _, _ => none
def xBa (P : Program) (f : FuncId) : Bool :=
 match P.funcs[f]? with
 | some fn => fn.body.isSome && fn.name != "runtime.NumGoroutine"
 | none => false
def xJi (P : Program) (f : FuncId) : Bool :=
 match P.funcs[f]? with
 | some fn => fn.body.isNone && (fn.name == "math/bits.Sub64") && (fn.origin == "")
 | none => false
def subP (l : List PV) (h : List Root) : Step :=
 match l with
 | [.c (.sc (.int .u64 x)), .c (.sc (.int .u64 y)), .c (.sc (.int .u64 b))] =>
  .mem [decide (0 <= x), decide (0 <= y), decide (0 <= b), decide (b <= 1)] (.tu [(false, [.sc (.int .u64 (((x.toNat + 18446744073709551616 - y.toNat - b.toNat) % 18446744073709551616 : Nat) : Int))]), (false, [.sc (.int .u64 ((bif decide (x.toNat < y.toNat + b.toNat) then 1 else 0 : Nat) : Int))])]) h []
 | _ => .stuck
def callP (P : Program) (K : Slo) (h : List Root) (f : Operand) (args : List Operand) : Step :=
 match xTb K args with
 | some l => match xAv K f with
  | some (.c (.sc (.func (.func g) ⟨[]⟩ ⟨[]⟩))) => bif xBa P g then .call g l else (bif xJi P g then subP l h else .stuck)
  | some (.c (.hv id)) => match h[id]? with
   | some (.clo g fs cs) => bif xBa P g then .call g (fs.map .c ++ l ++ cs.map .c) else .stuck
   | _ => .stuck
  | _ => .stuck
 | none => .stuck
def xSw : Operand -> Operand -> Bool
 | .tmp a, .tmp b => Nat.beq a b
 | _, _ => false
theorem xQE {l c : Operand} (h : xSw l c = true) : l = c := by
 unfold xSw at h;split at h
 ·rw [nbT h]
 ·cases h
def xSJ (P : Program) (K : Slo) (h : List Root) (t : TypeId) (l c : Operand) : Step :=
 match P.underlying t with
 | some (.slice e) => match P.info? e, xKb P e with
  | some inf, some z => bif Nat.beq z.length inf.size && xKv inf.bytes && Nat.beq inf.size (xBv P 20 e).w && Nat.ble 1 inf.size then
    match xAv K l, xAv K c, (xBv P 20 e).dec1 (xDX (xBv P 20 e).leaves z) with
    | some (.c (.sc (.int .i64 x))), some (.c (.sc (.int .i64 y))), some z0 => bif xSw l c then .mem [decide (0 <= x) && decide (x <= 1000000)] (.c (.sl h.length inf.size 0 none none)) (h ++ [.rows e (xBv P 20 e) (List.replicate x.toNat z0)]) [] else match x with
     | .ofNat 0 => .mem [decide (0 <= y) && decide (y <= 1000000)] (.c (.sl h.length inf.size 0 none none)) (h ++ [.rows e (xBv P 20 e) []]) []
     | _ => .stuck
    | _, _, _ => .stuck
   else .stuck
  | _, _ => .stuck
 | _ => .stuck
def xB9 (P : Program) (K : Slo) (h : List Root) (t : TypeId) (n : Nat) (parts : Array (Nat × Operand)) : Step :=
 match P.underlying t with
 | some (.slice e) => match P.info? e, xKb P e, xNz K parts.toList with
  | some inf, some z, some ps => bif Nat.beq z.length inf.size && Nat.beq inf.size (xBv P 20 e).w && Nat.ble 1 inf.size && Nat.ble (n * inf.size) 16777216 then
    match xPF (fun i => some (i * inf.size, inf.size)) (repL n z) ps with
    | some cs => match xEU (xBv P 20 e) n (xDX (List.replicate n (xBv P 20 e).leaves).flatten cs) with
     | some xs => .mem [] (.c (.sl h.length inf.size 0 none none)) (h ++ [.rows e (xBv P 20 e) xs]) []
     | none => bif Nat.beq (xPh (xBv P 20 e)).w (xBv P 20 e).w then match xEU (xPh (xBv P 20 e)) n cs with
      | some xs => .mem [] (.c (.sl h.length inf.size 0 none none)) (h ++ [.rows e (xPh (xBv P 20 e)) xs]) []
      | none => .stuck
      else .stuck
    | none => .stuck
   else .stuck
  | _, _, _ => .stuck
 | _ => .stuck
def compP : PV -> Option (Bool × List CV)
 | .c x => some (false, [x])
 | .ag l => some (true, l)
 | _ => none
def bltL : List UInt8 -> List UInt8 -> Bool
 | [], m => match m with
  | [] => false
  | _ :: _ => true
 | a :: l, m => match m with
  | [] => false
  | b :: m => bif Nat.beq a.toNat b.toNat then bltL l m else Nat.ble (a.toNat + 1) b.toNat
def KK.ltb : (κ : KK) -> κ.ty -> κ.ty -> Bool
 | .i _, a, b => decide (a < b)
 | .s, a, b => bltL a.data.toList b.data.toList
def setK (κ : KK) {α : Type} (n : κ.ty) (x : α) (ts : List (κ.ty × α)) : List (κ.ty × α) := ts.map (fun e => bif κ.eqb n e.1 then (e.1, x) else e)
def addK (κ : KK) {α : Type} (n : κ.ty) (x : α) : List (κ.ty × α) -> List (κ.ty × α)
 | [] => [(n, x)]
 | e :: r => bif κ.ltb n e.1 then (n, x) :: e :: r else e :: addK κ n x r
def xF2 (κ : KK) {α : Type} (n : κ.ty) (x : α) (ts : List (κ.ty × α)) : List (κ.ty × α) := bif hasK κ n ts then setK κ n x ts else addK κ n x ts
def delK (κ : KK) {α : Type} (n : κ.ty) (ts : List (κ.ty × α)) : List (κ.ty × α) := ts.filter (fun e => !κ.eqb n e.1)
def kkEq : KK -> KK -> Bool
 | .i k, .i k' => Nat.beq (kix k) (kix k')
 | .s, .s => true
 | _, _ => false
theorem xCj {a b : KK} (h : kkEq a b = true) : a = b := by
 cases a <;> cases b <;> first | (cases h; done) | rfl | (rw [xDG h])
def xTa {κ κ' : KK} {τ τ' : TC} (e1 : κ = κ') (e2 : τ = τ') (ts : List (κ.ty × τ.ty)) : List (κ'.ty × τ'.ty) := e1 ▸ e2 ▸ ts
def xU7 (h : List Root) (pl : MPl) (κ : KK) (agg : Bool) (τ : TC) (ts : List (κ.ty × τ.ty)) : Option (List Root) :=
 match pl with
 | .root id => some (h.set id (.mp κ agg τ ts))
 | .ar p n => match h[p]? with
  | some (.arm t κ' agg' τ' os) => if e1 : kkEq κ κ' = true then if e : xFx τ τ' = true then some (h.set p (.arm t κ' agg' τ' (xBR os n (xTa (xCj e1) (xAD e) ts)))) else none else none
  | _ => none
def wrG : MPl -> List Bool
 | .root _ => []
 | .ar _ n => [!Nat.beq n 0]
def valT (agg : Bool) (τ : TC) : PV -> Option τ.ty
 | .c x => bif agg then none else τ.dec1 (xDX τ.leaves [x])
 | .ag l => bif agg then τ.dec1 (xDX τ.leaves l) else none
 | _ => none
def xL1 (P : Program) (K : Slo) (h : List Root) (t : TypeId) (r : Option Operand) : Step :=
 match P.underlying t with
 | some (.map kt et) => match kkOf P kt, P.underlying et with
  | some κ, some d => match r with
   | none => .mem [] (.c (.hv h.length)) (h ++ [.mp κ (xBD d) (xBv P 20 et) []]) []
   | some x => match xAv K x with
    | some (.c (.sc (.int _ _))) => .mem [] (.c (.hv h.length)) (h ++ [.mp κ (xBD d) (xBv P 20 et) []]) []
    | _ => .stuck
  | _, _ => .stuck
 | _ => .stuck
def memS (g : List Bool) (v : PV) (t : List Nat) : Option (List Root) -> Step
 | some h' => .mem g v h' t
 | none => .stuck
def xL0 (P : Program) (K : Slo) (h : List Root) (t : TypeId) (m x y : Operand) : Step :=
 match P.underlying t, xAv K m, xAv K x, xAv K y with
 | some (.map kt _), some (.c c), some (.c (.sc kv)), some v => match P.underlying kt, xLY h c with
  | some d, some ⟨g, pl, κ, agg, τ, ts⟩ => bif κ.fits d then match keyOf κ kv, valT agg τ v with
    | some n, some z => memS (wrG pl ++ g) .un [pl.id] (xU7 h pl κ agg τ (xF2 κ n z ts))
    | _, _ => .stuck
   else .stuck
  | _, _ => .stuck
 | _, _, _, _ => .stuck
def xPr (P : Program) (K : Slo) (h : List Root) (t : TypeId) (m x : Operand) : Step :=
 match P.underlying t, xAv K m, xAv K x with
 | some (.map kt _), some (.c c), some (.c (.sc kv)) => match P.underlying kt, xLY h c with
  | some d, some ⟨g, pl, κ, agg, τ, ts⟩ => bif κ.fits d then match keyOf κ kv with
    | some n => memS (wrG pl ++ g) (.tu []) [pl.id] (xU7 h pl κ agg τ (delK κ n ts))
    | none => .stuck
   else .stuck
  | _, _ => .stuck
 | _, _, _ => .stuck
def xXl (P : Program) (K : Slo) (h : List Root) (t : TypeId) (x : Operand) : Step :=
 match P.underlying t with
 | some (.slice e) => match P.info? e, xKb P e with
  | some inf, some z => match xAv K x with
   | some (.c (.sl id k off (some n) none)) => match h[id]? with
    | some (.rows T τ xs) => bif Nat.beq z.length inf.size && Nat.beq k τ.w && Nat.beq inf.size τ.w then match τ.dec1 (xDX τ.leaves z) with
      | some z0 => .mem [Nat.ble (off + n) xs.length] (.tu []) (h.set id (.rows T τ (xs.take off ++ List.replicate n z0 ++ xs.drop (off + n)))) [id]
      | none => .stuck
     else .stuck
    | _ => .stuck
   | _ => .stuck
  | _, _ => .stuck
 | _ => .stuck
def xO7 (P : Program) (K : Slo) (h : List Root) (t : TypeId) (x lo hi mx : Operand) : Step :=
 match P.underlying t, xAv K x with
 | some (.slice e), some (.c (.sl id _ off n _)) => match P.info? e, lenP h id off n with
  | some _, some n0 => match xAv K lo, xAv K hi, xAv K mx with
   | some (.c (.sc (.int _ l))), some (.c (.sc (.int _ u))), some (.c (.sc (.int _ m))) => .mem [inC m n0, inC u m.toNat, inC l u.toNat] (.c (.hv h.length)) (h ++ [.dead]) []
   | _, _, _ => .stuck
  | _, _ => .stuck
 | _, _ => .stuck
def xRU (len off : Nat) : Option Nat -> Nat
 | none => len - off
 | some m => m
def copyP (P : Program) (K : Slo) (h : List Root) (t : TypeId) (x y : Operand) : Step :=
 match P.underlying t with
 | some (.slice e) => match P.info? e, xAv K y with
  | some inf, some q => match xAv K x with
   | some (.c (.sl id k off n none)) => match h[id]? with
    | some (.rows T τ xs) => bif Nat.beq k τ.w && Nat.beq inf.size τ.w && Nat.beq inf.size 1 then match xT2 τ h q with
      | some ys => .mem [] (.c (.sc (.int .i64 ((ys.take (xRU xs.length off n)).length : Nat)))) (h.set id (.rows T τ (xs.take off ++ ys.take (xRU xs.length off n) ++ xs.drop (off + (ys.take (xRU xs.length off n)).length)))) [id]
      | none => .stuck
     else .stuck
    | _ => .stuck
   | _ => .stuck
  | _, _ => .stuck
 | _ => .stuck
def xUA (P : Program) (K : Slo) (h : List Root) (t : TypeId) (x : Operand) : Step :=
 match P.underlying t, xAv K x with
 | some .string, some (.c (.sc (.string s))) => .mem [] (.c (.pt h.length 0 0 0)) (h ++ [.it s 0]) []
 | _, _ => .stuck
def nextP (K : Slo) (h : List Root) (x : Operand) : Step :=
 match xAv K x with
 | some (.c (.pt id k row j)) => bif Nat.beq k 0 && Nat.beq row 0 && Nat.beq j 0 then match h[id]? with
   | some (.it s pos) => bif Nat.blt pos s.size then .mem [] (.tu [(false, [.sc (.bool true)]), (false, [.sc (.int .i64 pos)]), (false, [.sc (.int .i32 (Utf8.decode s pos).1)])]) (h.set id (.it s (pos + (Utf8.decode s pos).2))) [id] else .mem [] (.tu [(false, [.sc (.bool false)])]) h []
   | _ => .stuck
  else .stuck
 | _ => .stuck
def xCF (P : Program) (K : Slo) (h : List Root) (o : Oper) : Step :=
 match o.op with
 | .alloc T => match xKb P T with
  | some cs => .mem [] (.c (.pt h.length 0 0 0)) (h ++ [.blk cs T]) []
  | none => .stuck
 | .box T x => match (xAv K x).bind xR2 with
  | some cs => .mem [] (.c (.pt h.length 0 0 0)) (h ++ [.blk cs T]) []
  | none => .stuck
 | .store t x y => match xAv K x, (xAv K y).bind xR2, P.info? t with
  | some (.c (.pt id k row j)), some cs, some inf => bif Nat.beq cs.length inf.size then match h[id]? with
    | some r => match xLN r k row j cs with
     | some r' => .mem [] .un (h.set id r') [id]
     | none => .stuck
    | none => .stuck
   else .stuck
  | some (.c x'), some cs, some inf => bif Nat.beq cs.length inf.size then match rpOf x' with
    | some (t', n, k, row, j) => match xA7 t' h 0 with
     | some (p, r) => match xTc r n k row j cs with
      | some (g, r') => .mem [g] .un (h.set p r') [p]
      | none => .stuck
     | none => .stuck
    | none => .stuck
   else .stuck
  | _, _, _ => .stuck
 | .makeFunc (.func f) ⟨fs⟩ ⟨cs⟩ => match xXx K fs, xXx K cs with
  | some a, some b => .mem [] (.c (.hv h.length)) (h ++ [.clo f a b]) []
  | _, _ => .stuck
 | .buildSlice t n parts => xB9 P K h t n parts
 | .makeSlice t l c => xSJ P K h t l c
 | .call ⟨.builtin .append, ⟨[s, x]⟩, ⟨[t, t']⟩⟩ => bif Nat.beq t t' then xP1 P K h t s x else .stuck
 | .call ⟨.value f, ⟨args⟩, _⟩ => callP P K h f args
 | .makeMap t r => xL1 P K h t r
 | .range t x => xUA P K h t x
 | .next x true => nextP K h x
 | .call ⟨.builtin .clear, ⟨[x]⟩, ⟨[t]⟩⟩ => xXl P K h t x
 | .call ⟨.builtin .copy, ⟨[x, y]⟩, ⟨[t, _]⟩⟩ => copyP P K h t x y
 | .mapUpdate t m x y => xL0 P K h t m x y
 | .insert t m x y => xL0 P K h t m x y
 | .slice t x (some lo) (some hi) (some mx) => xO7 P K h t x lo hi mx
 | .call ⟨.builtin .delete, ⟨[m, x]⟩, ⟨t :: _⟩⟩ => xPr P K h t m x
 | _ => .stuck
end
open Go.RowKit
def DenArgs (ρ : List Info) : List PV -> List Value -> Prop
 | [], vs => vs = []
 | p :: l, vs => ∃ v r, vs = v :: r /\ DenP ρ p v /\ DenArgs ρ l r
section
variable {P : Program} {N : Nat} {S F : List Nat} {W0 : World} {ρ : List Info} {K : Slo} {h : List Root} {w : World} {a : Act} {o : Oper}
def Feet (ρ : List Info) (h : List Root) (w : World) (ρ' : List Info) (h' : List Root) : Prop :=
 ∀ (q : Nat) (r : Root) (i : Info) (b : Nat), h'[q]? = some r -> ρ'[q]? = some i -> foot i r b -> w.heap.size <= b \/ ∃ (p : Nat) (r0 : Root) (i0 : Info), h[p]? = some r0 /\ ρ[p]? = some i0 /\ foot i0 r0 b
theorem Feet.app {i' : Info} {r' : Root} (hl : ρ.length = h.length) {h1 : List Root} (hh : h1.length = h.length) (h1o : ∀ (q : Nat) (r : Root), h1[q]? = some r -> r = .dead \/ h[q]? = some r) (hn : ∀ b, foot i' r' b -> w.heap.size <= b \/ ∃ (p : Nat) (r0 : Root) (i0 : Info), h[p]? = some r0 /\ ρ[p]? = some i0 /\ foot i0 r0 b) : Feet ρ h w (ρ ++ [i']) (h1 ++ [r']) := by
 intro q r i b hr hi hf;rcases Nat.lt_or_ge q h.length with hq | hq
 ·rw [List.getElem?_append_left (by omega)] at hr hi;rcases h1o q r hr with rfl | h2
  ·exact absurd hf xBk
  ·exact .inr ⟨q, r, i, h2, hi, hf⟩
 ·have hlt := (List.getElem?_eq_some_iff.1 hr).1;simp at hlt;obtain rfl : q = h.length := by omega
  rw [List.getElem?_append_right (by omega), hh] at hr;have := xMg hl hi;subst this;simp at hr;subst hr;exact hn b hf
theorem Feet.refl (w : World) : Feet ρ h w ρ h := fun q r i _ h1 h2 h3 => .inr ⟨q, r, i, h1, h2, h3⟩
def MemOk (P : Program) (S F : List Nat) (W0 : World) (ρ : List Info) (h : List Root) (w : World) (a : Act) (o : Oper) (v : PV) (h' : List Root) (t : List Nat) : Prop :=
 ∃ ρ' u nx w' B, Pre ρ ρ' /\ DenP ρ' v u /\ (nx = .value u \/ (nx = .skip /\ u = undef)) /\ (execOp a.eval o).run P w = .ok nx w' /\ HOk S F W0 ρ' h' w' /\ Ex B w w' /\
  (∀ b ∈ B, ∃ p ∈ t, ∃ r i, h[p]? = some r /\ ρ[p]? = some i /\ own i r b) /\ (∀ q : Nat, q ∉ t -> q < h.length -> h'[q]? = h[q]?) /\ Feet ρ h w ρ' h'
def xEN (P : Program) (S F : List Nat) (W0 : World) (ρ : List Info) (h : List Root) (w : World) (a : Act) (o : Oper) : Step -> Prop
 | .mem g v h' t => AllB g -> MemOk P S F W0 ρ h w a o v h' t
 | .call f args => ∃ vs : List Value, (execOp a.eval o).run P w = .ok (.enter f vs.toArray) w /\ xBa P f = true /\ DenArgs ρ args vs
 | _ => True
theorem xEa (hh : HOk S F W0 ρ h w) (i : Info) : (ρ ++ [i])[h.length]? = some i := by
 rw [List.getElem?_append_right (by rw [hh.len]; omega), hh.len]; simp
theorem Ex.allocs (w : World) (x : Obj) : Ext w (w.alloc x) := (Ex.refl [] w).alloc x
theorem xGe {p : PV} {v : Value} {cs : List CV} (hd : DenP ρ p v) (hc : xR2 p = some cs) : DenL ρ cs v.cells.toList := by
 cases p with
 | c y =>
  cases hc;refine ⟨v, [], ?_, hd, rfl⟩;have := Den.one hd;cases v <;> first | rfl | cases this
 | ag m =>
  cases hc;obtain ⟨vs, h1, h2⟩ := hd;rw [h2]; simpa [Value.cells] using h1
 | tu m => cases hc
 | un => cases hc
theorem xU2 (hh : HOk S F W0 ρ h w) {cs : List CV} {T : TypeId} {arr : Array Value} (hd : DenL ρ cs arr.toList) (hrun : (execOp a.eval o).run P w = .ok (.value (.pointer (some ⟨w.heap.size, 0, none⟩))) (w.alloc (.cells arr T (0, 0)))) :
  MemOk P S F W0 ρ h w a o (.c (.pt h.length 0 0 0)) (h ++ [.blk cs T]) [] := by
 refine ⟨ρ ++ [⟨some ⟨w.heap.size, 0, none⟩, cs.length, none, .nilFunc⟩], _, _, _, [], Pre.app _ _, ⟨_, w.heap.size, 0, xEa hh _, rfl, ⟨fun m hm => (by cases hm), fun _ h0 => (by cases h0)⟩, rfl⟩, .inl rfl, hrun, ?_, Ex.allocs _ _, by simp, fun q _ hq => List.getElem?_append_left hq, Feet.app hh.len rfl (fun _ _ h => .inr h) (fun b hb => by simp only [foot, own, Option.map_some, Option.some.injEq] at hb; omega)⟩;refine hh.add (Ex.allocs _ _) _ _ ⟨⟨rfl, rfl⟩, w.heap.size, arr.toList, rfl, hd.mono (Pre.app _ _), by simpa using xCN w (.cells arr T (0, 0))⟩ (fun b hb => ?_);simp only [foot, own, Option.map_some, Option.some.injEq] at hb;omega
theorem xFM (hh : HOk S F W0 ρ h w) {T : TypeId} {τ : TC} {xs : List τ.ty} (hw : 0 < τ.w) {us : List Value} (hd : DenL ρ (flat τ xs) us) {v : Value} {w' : World} (hrun : (execOp a.eval o).run P w = .ok (.value v) w') (hown : w'.ownsRow w.heap.size T τ.w v xs.length us) (hE : Ext w w') :
  MemOk P S F W0 ρ h w a o (.c (.sl h.length τ.w 0 none none)) (h ++ [.rows T τ xs]) [] := by
 obtain ⟨h1, h2⟩ := hown;have key : ∃ aa cap, v = .slice aa xs.length cap /\ ownsAt w' T τ.w aa cap xs.length us /\ xs.length <= cap /\ cap <= maxLen /\ (0 < xs.length -> ∃ b o, aa = some ⟨b, o, none⟩) /\ ∀ b, aa.map (·.block) = some b -> w.heap.size <= b := by
  rcases h2 with ⟨h2, h3⟩ | ⟨g, cap, cur, h2, h3, h4, h5, h6, h7, h8⟩
  ·refine ⟨none, 0, by rw [h2, h3], ⟨h1, by omega, by unfold maxLen; omega, .inl ⟨rfl, by simp⟩⟩, by omega, by unfold maxLen; omega, by omega, by simp⟩
  ·refine ⟨some ⟨g, 0, none⟩, cap, h2, ⟨h1, h5, h6, .inr ⟨g, 0, cur, rfl, h4, by omega, by simpa using h8⟩⟩, h5, h6, fun _ => ⟨g, 0, rfl⟩, fun b hb => ?_⟩;simp only [Option.map_some, Option.some.injEq] at hb;omega
 obtain ⟨aa, cap, e, k1, k2, k3, k4, k5⟩ := key;subst e;refine ⟨ρ ++ [⟨aa, cap, some xs.length, .nilFunc⟩], _, _, _, [], Pre.app _ _, ⟨_, aa, cap, xs.length, xEa hh _, rfl, k2, k3, k4, ⟨_, rfl, (Nat.sub_zero _).symm⟩, ⟨_, rfl, by omega⟩, (Nat.sub_zero _).symm, rfl, fun _ => rfl, fun _ => ?_⟩, .inl rfl, hrun, ?_, hE, by simp, fun q _ hq => List.getElem?_append_left hq, Feet.app (i' := ⟨aa, cap, some xs.length, .nilFunc⟩) (r' := .rows T τ xs) hh.len rfl (fun _ _ h => .inr h) (fun b hb => .inl (k5 b hb))⟩
 ·cases aa <;> simp [Addr.add]
 ·exact hh.add hE _ _ ⟨rfl, hw, us, hd.mono (Pre.app _ _), k1⟩ (fun b hb => k5 b hb)
theorem xGr {z : List CV} {vs : List Value} (hz : DenL ρ z vs) : ∀ n : Nat, DenL ρ (repL n z) (List.replicate n vs).flatten
 | 0 => rfl
 | n + 1 => by rw [repL, List.replicate_succ, List.flatten_cons]; exact hz.app (xGr hz n)
theorem xBy (vs : Array Value) : ∀ n : Nat, (madeCells vs (n * vs.size)).toList = (List.replicate n vs.toList).flatten
 | 0 => by simp [madeCells]
 | n + 1 => by
  have ih := xBy vs n;simp only [madeCells, Array.toList_map, Array.toList_range] at ih ⊢;rw [Nat.add_mul, Nat.one_mul, Nat.add_comm, List.range_add, List.map_append, List.replicate_succ, List.flatten_cons, <- ih, List.map_map];congr 1
  ·apply List.ext_getElem
   ·simp
   ·intro i h1 h2;have h3 : i < vs.size := by simpa using h2
    simp [Nat.mod_eq_of_lt h3, h3]
  ·apply List.map_congr_left;intro i _;simp
theorem xH3 (τ : TC) (x : τ.ty) : ∀ n : Nat, flat τ (List.replicate n x) = repL n (τ.enc x)
 | 0 => rfl
 | n + 1 => by rw [List.replicate_succ, flat, List.flatMap_cons, repL]; congr 1; exact xH3 τ x n
theorem xLJ (hh : HOk S F W0 ρ h w) {τ : TC} {y : PV} {v : Value} {ys : List τ.ty} (hy : DenP ρ y v) (hs : xT2 τ h y = some ys) :
  ∃ a2 c2 us, v = .slice a2 ys.length c2 /\ DenL ρ (flat τ ys) us /\ (0 < ys.length -> ∃ b o, a2 = some ⟨b, o, none⟩ /\ ∀ (j : Nat) (u : Value), us[j]? = some u -> w.cell? ⟨b, o + j, none⟩ = some u) := by
 have part : ∀ (id k off : Nat) (n c : Option Nat) (τ' : TC) (zs : List τ'.ty) (i : Info) (vs : List Value), ρ[id]? = some i -> i.len = some zs.length -> DenL ρ (flat τ' zs) vs ->
   (∀ b o, i.a = some ⟨b, o, none⟩ -> 0 < zs.length -> ∀ (j : Nat) (u : Value), vs[j]? = some u -> w.cell? ⟨b, o + j, none⟩ = some u) -> Den ρ (.sl id k off n c) v -> partOf τ τ' zs k off n = some ys ->
   ∃ a2 c2 us, v = .slice a2 ys.length c2 /\ DenL ρ (flat τ ys) us /\ (0 < ys.length -> ∃ b o, a2 = some ⟨b, o, none⟩ /\ ∀ (j : Nat) (u : Value), us[j]? = some u -> w.cell? ⟨b, o + j, none⟩ = some u) := by
  intro id k off n c τ' zs i vs hi hlen hd hcell hden hp;obtain ⟨i', a', c', nn, h1, h2, h3, h4, h5, h6, h7⟩ := hden;rw [hi] at h1; cases h1;unfold partOf at hp;split at hp
  ·rename_i e;have e' := xAD e;subst e'
   cases hk : Nat.beq k τ'.w with
   | false => rw [hk] at hp; cases hp
   | true =>
    rw [hk] at hp;have hk' := nbT hk;subst hk';simp only [cond_true] at hp;have hfl : ∀ x : Nat, flat τ' (zs.drop x) = (flat τ' zs).drop (x * τ'.w) := by
     intro x;rcases Nat.lt_or_ge x zs.length with hx | hx
     ·have := xF6 τ' zs x hx;rw [List.append_nil, List.append_nil] at this;rw [this, List.drop_eq_getElem_cons hx];show τ'.enc zs[x] ++ _ = τ'.enc (nth zs τ'.dflt x) ++ _;rw [<- xND zs _ x hx];rfl
     ·rw [List.drop_of_length_le hx, List.drop_of_length_le (by rw [xCY]; exact Nat.mul_le_mul_right _ hx)]; rfl
    have hft : ∀ (l : List τ'.ty) (m : Nat), flat τ' (l.take m) = (flat τ' l).take (m * τ'.w) := by
     intro l
     induction l with
     | nil => intro m; simp [flat]
     | cons x l ih =>
      intro m
      cases m with
      | zero => simp [flat]
      | succ m =>
       have := ih m;simp only [flat] at this;simp only [List.take_succ_cons, flat, List.flatMap_cons, this];rw [show (m + 1) * τ'.w = (τ'.enc x).length + m * τ'.w by rw [τ'.enc_len, Nat.add_mul]; omega, List.take_length_add_append]
    have fin : ∀ (us : List Value), DenL ρ (flat τ' ys) us -> (∀ (j : Nat) (u : Value), us[j]? = some u -> vs[off * τ'.w + j]? = some u) -> nn = ys.length -> 0 < zs.length \/ ys.length = 0 -> (0 < ys.length -> 0 < nn /\ a' = i.a.map (·.add (off * τ'.w))) -> ∃ a2 c2 us, v = .slice a2 ys.length c2 /\ DenL ρ (flat τ' ys) us /\ (0 < ys.length -> ∃ b o, a2 = some ⟨b, o, none⟩ /\ ∀ (j : Nat) (u : Value), us[j]? = some u -> w.cell? ⟨b, o + j, none⟩ = some u) := by
     intro us g1 g2 g3 g4 g5;subst g3;refine ⟨a', c', us, h2, g1, fun hpos => ?_⟩;obtain ⟨g6, g7⟩ := g5 hpos;obtain ⟨b, o, g8⟩ := h5 g6;refine ⟨b, o + off * τ'.w, by rw [g7, g8, Option.map_some, Addr.add_lit], fun j u hu => ?_⟩;have := hcell b o g8 (by omega) _ u (g2 j u hu);rwa [<- Nat.add_assoc] at this
    have addr : 0 < nn -> a' = i.a.map (·.add (off * τ'.w)) := by
     intro hpos
     cases c with
     | none =>
      obtain ⟨⟨m, h8, h9⟩, h10, _, h11, h12⟩ := h7;exact h12 (by omega)
     | some c0 => exact h7.2.2.2 hpos
    split at hp
    ·cases hp;obtain ⟨m, h8, h9⟩ := h6;rw [hlen] at h8; cases h8;have hl : nn = (zs.drop off).length := by rw [h9, List.length_drop]
     refine fin (vs.drop (off * τ'.w)) (by rw [hfl]; exact hd.drop _) (fun j u hu => by rwa [List.getElem?_drop] at hu) hl ?_ (fun hpos => ⟨by omega, addr (by omega)⟩);rw [List.length_drop]; omega
    ·rename_i m;have hb' : off + m <= zs.length := by
      simp only [Info.cnt] at h6
      cases c with
      | none =>
       obtain ⟨⟨m', h8, h9⟩, _⟩ := h7;rw [hlen] at h8; cases h8; omega
      | some c0 => have := h7.1; rw [hlen] at this; cases this
     cases hp;have hl : nn = ((zs.drop off).take m).length := by rw [List.length_take, List.length_drop]; simp only [Info.cnt] at h6; omega
     refine fin ((vs.drop (off * τ'.w)).take (m * τ'.w)) (by rw [hft, hfl]; exact (hd.drop _).take _) (fun j u hu => ?_) hl ?_ (fun hpos => ⟨by omega, addr (by omega)⟩)
     ·rw [List.getElem?_take] at hu;split at hu
      ·rwa [List.getElem?_drop] at hu
      ·cases hu
     ·rw [List.length_take, List.length_drop]; omega
  ·cases hp
 unfold xT2 at hs;split at hs
 ·rename_i id k off n c;split at hs
  ·rename_i T τ' zs hr;obtain ⟨i, hi⟩ := hh.info hr;obtain ⟨h0, _, vs, h1, h2⟩ := hh.ok id _ i hr hi;exact part id k off n c τ' zs i vs hi h0 h1 (fun b o ha _ j u hu => by rw [ha] at h2; exact xCI h2 hu) hy hs
  ·rename_i τ' zs hr;obtain ⟨i, hi⟩ := hh.info hr;obtain ⟨h0, vs, h1, h2⟩ := hh.ok id _ i hr hi;refine part id k off n c τ' zs i vs hi h0 h1 (fun b o ha hpos j u hu => ?_) hy hs;obtain ⟨b', o', h3, _, h4⟩ := h2 hpos;rw [ha] at h3; cases h3;exact h4 j u hu
  ·cases hs
 ·rename_i t n;split at hs
  ·rename_i p t2 τ' os hr;split at hs
   ·rename_i e;have e' := xAD e;subst e';cases hs;obtain ⟨p', hp, hrr, ht⟩ := xAE hr;rw [Nat.zero_add] at hp; subst hp;rcases hy with ⟨h0, h1⟩ | ⟨m, id, i0, h1, h2, h3, _⟩
    ·subst h0; exact ⟨_, _, [], h1, rfl, fun hpos => absurd hpos (by simp [xJ9])⟩
    ·obtain ⟨ip, hip⟩ := hh.info hrr;have h7 := hh.cov p t _ ip hrr hip ht id i0 m _ h2 h3;obtain ⟨hA, _⟩ : ArOk ρ w (ip.objs t) (Root.arr t2 τ' os).obs /\ True := ⟨by cases ht; exact hh.ok p _ ip hrr hip, trivial⟩;have hlt : m < os.length := by
      have h8 := (List.getElem?_eq_some_iff.1 h7).1;have h9 := hA.1;simp only [Root.obs, List.length_map] at h9;omega
     obtain ⟨a1, c1, g1, _, _, vs, g2, g3⟩ := hA.2.1 m _ (.rr τ' os[m]) h7 (by simp only [Root.obs, List.getElem?_map, List.getElem?_eq_getElem hlt, Option.map_some]);have hrow : xJ9 os n = os[m] := by
      rw [h1]; simp [xJ9, nth, List.getD_eq_getElem?_getD, List.getElem?_eq_getElem hlt]
     show ∃ a2 c2 us, v = .slice a2 (xJ9 os n).length c2 /\ DenL ρ (flat τ' (xJ9 os n)) us /\ _;rw [hrow];refine ⟨a1, c1, vs, g1, g2, fun hpos => ?_⟩;obtain ⟨b, o, g4, _, g5⟩ := g3 hpos;exact ⟨b, o, g4, g5⟩
   ·cases hs
  ·cases hs
 ·cases hs;exact ⟨_, _, [], hy.1, rfl, fun hpos => absurd hpos (by simp)⟩
 ·cases hs
end
end Go.Proofs.YtnomnijhlbalaaaGreatDoor
