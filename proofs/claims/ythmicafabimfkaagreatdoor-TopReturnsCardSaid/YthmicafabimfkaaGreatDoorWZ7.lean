/- Operations that change memory, on data. No condition. -/
import Derived.Test.YthmicafabimfkaaGreatDoorWZ4
import Derived.Laws.OwnMore

namespace Go.Proofs.YthmicafabimfkaaGreatDoor
noncomputable section
open Go.RowKit
def xGP : TC -> TC -> Bool
 | .int k, .int k' => Nat.beq (kix k) (kix k')
 | .bool, .bool => true
 | .str, .str => true
 | .cv, .cv => true
 | .nil, .nil => true
 | .er, .er => true
 | .rf q t, .rf q' t' => Nat.beq q q' && Nat.beq t t'
 | .pair a b, .pair c d => xGP a c && xGP b d
 | _, _ => false
theorem xAC : ∀ {a b : TC}, xGP a b = true -> a = b
 | .int k, b, h => by
  cases b <;> simp only [xGP] at h <;> first | cases h | rw [xDB h]
 | .bool, b, h => by cases b <;> first | rfl | cases h
 | .str, b, h => by cases b <;> first | rfl | cases h
 | .cv, b, h => by cases b <;> first | rfl | cases h
 | .nil, b, h => by cases b <;> first | rfl | cases h
 | .er, b, h => by cases b <;> first | rfl | cases h
 | .rf q t, b, h => by
  cases b with
  | rf q' t' =>
   simp only [xGP, Bool.and_eq_true] at h;rw [nbT h.1, nbT h.2]
  | _ => cases h
 | .pair x y, b, h => by
  cases b with
  | pair c d =>
   simp only [xGP, Bool.and_eq_true] at h;rw [xAC h.1, xAC h.2]
  | _ => cases h
def xDY : List TC -> TC
 | [] => .nil
 | [a] => a
 | a :: b :: r => .pair a (xDY (b :: r))
def xBo (P : Program) : Nat -> TypeId -> TC
 | 0, _ => .cv
 | d + 1, t => match P.underlying t with
  | some (.int k) => .int k
  | some .bool => .bool
  | some .string => .str
  | some (.struct fs) => xDY (fs.toList.map (fun f => xBo P d f.type))
  | some (.array n e) => xDY (List.replicate n (xBo P d e))
  | _ => match refOf t with
   | some (q, k) => .rf q k
   | none => .cv
/-- References as plain cells. -/
def xNF : TC -> TC
 | .rf _ _ => .cv
 | .pair a b => .pair (xNF a) (xNF b)
 | τ => τ
def xFV (τ : TC) : Nat -> List CV -> Option (List τ.ty)
 | 0, l => match l with
  | [] => some []
  | _ :: _ => none
 | n + 1, l => match τ.dec l with
  | some (x, r) => match xFV τ n r with
   | some xs => some (x :: xs)
   | none => none
  | none => none
theorem xFU {τ : TC} : ∀ {n : Nat} {l : List CV} {xs : List τ.ty}, xFV τ n l = some xs -> l = flat τ xs /\ xs.length = n
 | 0, l, xs, h => by
  simp only [xFV] at h;split at h
  ·cases h; exact ⟨rfl, rfl⟩
  ·cases h
 | n + 1, l, xs, h => by
  simp only [xFV] at h;split at h
  ·rename_i x r hx;split at h
   ·rename_i ys hy;cases h;obtain ⟨h1, h2⟩ := xFU hy;exact ⟨by rw [TC.dec_enc τ l x r hx, h1]; rfl, by simp [h2]⟩
   ·cases h
  ·cases h
def repL : Nat -> List CV -> List CV
 | 0, _ => []
 | n + 1, z => z ++ repL n z
def partOf (τ τ' : TC) (ys : List τ'.ty) (k off : Nat) (n : Option Nat) : Option (List τ.ty) :=
 if e : xGP τ' τ = true then bif Nat.beq k τ'.w then match n with
   | none => some (xAC e ▸ ys.drop off)
   | some m => some (xAC e ▸ (ys.drop off).take m)
  else none
 else none
/-- The elements of a part of a slice. -/
def xRI (τ : TC) (h : List Root) : PV -> Option (List τ.ty)
 | .c (.sl id k off n _) => match h[id]? with
  | some (.rows _ τ' ys) => partOf τ τ' ys k off n
  | some (.ro τ' ys) => partOf τ τ' ys k off n
  | _ => none
 | .c (.rf 1 t n) => match xA3 t h 0 with
  | some (_, .arr _ τ' os) => if e : xGP τ' τ = true then some (xAC e ▸ xJh os n) else none
  | _ => none
 | .c (.sc (.slice _ 0 _)) => some []
 | _ => none
def xAN (n m : Nat) : Bool := decide (n + m <= 1000000)
def xA5 (n m : Nat) : Bool := decide ((n + m) * 104 <= 140737488355328)
def lenG (b n m : Nat) : Bool := bif Nat.beq b 104 then xA5 n m else xAN n m
def xJA (bytes : Nat) : Bool := Nat.ble (1000000 * bytes) 140737488355328
def xOr (P : Program) (K : Slo) (h : List Root) (t : TypeId) (s x : Operand) : Step :=
 match P.underlying t with
 | some (.slice e) => match P.info? e, xJj P e with
  | some inf, some z => bif Nat.beq z.length inf.size && xJA inf.bytes then match xAt K s, xAt K x with
    | some (.c (.sl id k off n none)), some y => match h[id]? with
     | some (.rows T τ xs) => bif Nat.beq T e && Nat.beq k τ.w && Nat.beq inf.size τ.w then match xRI τ h y with
       | some ys => match n with
        | none => .mem [lenG inf.bytes (xs.length - off) ys.length] (.c (.sl h.length k 0 none none)) (h.set id .dead ++ [.rows T τ (xs.drop off ++ ys)]) [id]
        | some n0 => .mem [Nat.ble (off + n0 + ys.length) xs.length] (.c (.sl id k off (some (n0 + ys.length)) none)) (h.set id (.rows T τ (xs.take (off + n0) ++ ys ++ xs.drop (off + n0 + ys.length)))) [id]
       | none => .stuck
      else .stuck
     | _ => .stuck
    | some (.c (.sc (.slice none 0 0))), some y => bif Nat.beq inf.size (xBo P 20 e).w && Nat.ble 1 inf.size then match xRI (xBo P 20 e) h y with
      | some ys => .mem [lenG inf.bytes 0 ys.length] (.c (.sl h.length inf.size 0 none none)) (h ++ [.rows e (xBo P 20 e) ys]) []
      | none => .stuck
     else .stuck
    | _, _ => .stuck
   else .stuck
  | _, _ => .stuck
 | _ => .stuck
def xUi (K : Slo) : List Operand -> Option (List CV)
 | [] => some []
 | x :: r => match xAt K x, xUi K r with
  | some (.c y), some l => some (y :: l)
  | _, _ => none
def xQ2 (K : Slo) : List Operand -> Option (List PV)
 | [] => some []
 | x :: r => match xAt K x, xQ2 K r with
  | some y, some l => some (y :: l)
  | _, _ => none
def xBc (P : Program) (f : FuncId) : Bool :=
 match P.funcs[f]? with
 | some fn => fn.body.isSome && fn.name != "runtime.NumGoroutine"
 | none => false
/-- Whether a function is the library's Sub64, for which the model stands in. -/
def xIv (P : Program) (f : FuncId) : Bool :=
 match P.funcs[f]? with
 | some fn => fn.body.isNone && (fn.name == "math/bits.Sub64") && (fn.origin == "")
 | none => false
def subP (l : List PV) (h : List Root) : Step :=
 match l with
 | [.c (.sc (.int .u64 x)), .c (.sc (.int .u64 y)), .c (.sc (.int .u64 b))] =>
  .mem [decide (0 <= x), decide (0 <= y), decide (0 <= b), decide (b <= 1)] (.tu [(false, [.sc (.int .u64 (((x.toNat + 18446744073709551616 - y.toNat - b.toNat) % 18446744073709551616 : Nat) : Int))]), (false, [.sc (.int .u64 ((bif decide (x.toNat < y.toNat + b.toNat) then 1 else 0 : Nat) : Int))])]) h []
 | _ => .stuck
def callP (P : Program) (K : Slo) (h : List Root) (f : Operand) (args : List Operand) : Step :=
 match xQ2 K args with
 | some l => match xAt K f with
  | some (.c (.sc (.func (.func g) ⟨[]⟩ ⟨[]⟩))) => bif xBc P g then .call g l else (bif xIv P g then subP l h else .stuck)
  | some (.c (.hv id)) => match h[id]? with
   | some (.clo g fs cs) => bif xBc P g then .call g (fs.map .c ++ l ++ cs.map .c) else .stuck
   | _ => .stuck
  | _ => .stuck
 | none => .stuck
def xQq : Operand -> Operand -> Bool
 | .tmp a, .tmp b => Nat.beq a b
 | _, _ => false
theorem xOU {l c : Operand} (h : xQq l c = true) : l = c := by
 unfold xQq at h;split at h
 ·rw [nbT h]
 ·cases h
def xQD (P : Program) (K : Slo) (h : List Root) (t : TypeId) (l c : Operand) : Step :=
 match P.underlying t with
 | some (.slice e) => match P.info? e, xJj P e with
  | some inf, some z => bif Nat.beq z.length inf.size && xJA inf.bytes && Nat.beq inf.size (xBo P 20 e).w && Nat.ble 1 inf.size then
    match xAt K l, xAt K c, (xBo P 20 e).dec1 (xDV (xBo P 20 e).leaves z) with
    | some (.c (.sc (.int .i64 x))), some (.c (.sc (.int .i64 y))), some z0 => bif xQq l c then .mem [decide (0 <= x) && decide (x <= 1000000)] (.c (.sl h.length inf.size 0 none none)) (h ++ [.rows e (xBo P 20 e) (List.replicate x.toNat z0)]) [] else match x with
     | .ofNat 0 => .mem [decide (0 <= y) && decide (y <= 1000000)] (.c (.sl h.length inf.size 0 none none)) (h ++ [.rows e (xBo P 20 e) []]) []
     | _ => .stuck
    | _, _, _ => .stuck
   else .stuck
  | _, _ => .stuck
 | _ => .stuck
def xB7 (P : Program) (K : Slo) (h : List Root) (t : TypeId) (n : Nat) (parts : Array (Nat × Operand)) : Step :=
 match P.underlying t with
 | some (.slice e) => match P.info? e, xJj P e, xMu K parts.toList with
  | some inf, some z, some ps => bif Nat.beq z.length inf.size && Nat.beq inf.size (xBo P 20 e).w && Nat.ble 1 inf.size && Nat.ble (n * inf.size) 16777216 then
    match xN2 (fun i => some (i * inf.size, inf.size)) (repL n z) ps with
    | some cs => match xFV (xBo P 20 e) n (xDV (List.replicate n (xBo P 20 e).leaves).flatten cs) with
     | some xs => .mem [] (.c (.sl h.length inf.size 0 none none)) (h ++ [.rows e (xBo P 20 e) xs]) []
     | none => bif Nat.beq (xNF (xBo P 20 e)).w (xBo P 20 e).w then match xFV (xNF (xBo P 20 e)) n cs with
      | some xs => .mem [] (.c (.sl h.length inf.size 0 none none)) (h ++ [.rows e (xNF (xBo P 20 e)) xs]) []
      | none => .stuck
      else .stuck
    | none => .stuck
   else .stuck
  | _, _, _ => .stuck
 | _ => .stuck
def compP : PV -> Option (Bool × List CV)
 | .c x => some (false, [x])
 | .ag l => some (true, l)
 | _ => none
/-- Texts by their bytes. -/
def bltL : List UInt8 -> List UInt8 -> Bool
 | [], m => match m with
  | [] => false
  | _ :: _ => true
 | a :: l, m => match m with
  | [] => false
  | b :: m => bif Nat.beq a.toNat b.toNat then bltL l m else Nat.ble (a.toNat + 1) b.toNat
def KK.ltb : (κ : KK) -> κ.ty -> κ.ty -> Bool
 | .i _, a, b => decide (a < b)
 | .s, a, b => bltL a.data.toList b.data.toList
def setK (κ : KK) {α : Type} (n : κ.ty) (x : α) (ts : List (κ.ty × α)) : List (κ.ty × α) := ts.map (fun e => bif κ.eqb n e.1 then (e.1, x) else e)
def xWH (κ : KK) {α : Type} (n : κ.ty) (x : α) : List (κ.ty × α) -> List (κ.ty × α)
 | [] => [(n, x)]
 | e :: r => bif κ.ltb n e.1 then (n, x) :: e :: r else e :: xWH κ n x r
/-- An entry is changed, or put in. -/
def xEZ (κ : KK) {α : Type} (n : κ.ty) (x : α) (ts : List (κ.ty × α)) : List (κ.ty × α) := bif hasK κ n ts then setK κ n x ts else xWH κ n x ts
def delK (κ : KK) {α : Type} (n : κ.ty) (ts : List (κ.ty × α)) : List (κ.ty × α) := ts.filter (fun e => !κ.eqb n e.1)
def kkEq : KK -> KK -> Bool
 | .i k, .i k' => Nat.beq (kix k) (kix k')
 | .s, .s => true
 | _, _ => false
theorem xCn {a b : KK} (h : kkEq a b = true) : a = b := by
 cases a <;> cases b <;> first | (cases h; done) | rfl | (rw [xDB h])
def xQ1 {κ κ' : KK} {τ τ' : TC} (e1 : κ = κ') (e2 : τ = τ') (ts : List (κ.ty × τ.ty)) : List (κ'.ty × τ'.ty) := e1 ▸ e2 ▸ ts
/-- A map becomes another. -/
def xSy (h : List Root) (pl : MPl) (κ : KK) (agg : Bool) (τ : TC) (ts : List (κ.ty × τ.ty)) : Option (List Root) :=
 match pl with
 | .root id => some (h.set id (.mp κ agg τ ts))
 | .ar p n => match h[p]? with
  | some (.arm t κ' agg' τ' os) => if e1 : kkEq κ κ' = true then if e : xGP τ τ' = true then some (h.set p (.arm t κ' agg' τ' (xB8 os n (xQ1 (xCn e1) (xAC e) ts)))) else none else none
  | _ => none
def wrG : MPl -> List Bool
 | .root _ => []
 | .ar _ n => [!Nat.beq n 0]
def valT (agg : Bool) (τ : TC) : PV -> Option τ.ty
 | .c x => bif agg then none else τ.dec1 (xDV τ.leaves [x])
 | .ag l => bif agg then τ.dec1 (xDV τ.leaves l) else none
 | _ => none
def xK3 (P : Program) (K : Slo) (h : List Root) (t : TypeId) (r : Option Operand) : Step :=
 match P.underlying t with
 | some (.map kt et) => match kkOf P kt, P.underlying et with
  | some κ, some d => match r with
   | none => .mem [] (.c (.hv h.length)) (h ++ [.mp κ (xBL d) (xBo P 20 et) []]) []
   | some x => match xAt K x with
    | some (.c (.sc (.int _ _))) => .mem [] (.c (.hv h.length)) (h ++ [.mp κ (xBL d) (xBo P 20 et) []]) []
    | _ => .stuck
  | _, _ => .stuck
 | _ => .stuck
def memS (g : List Bool) (v : PV) (t : List Nat) : Option (List Root) -> Step
 | some h' => .mem g v h' t
 | none => .stuck
def xK2 (P : Program) (K : Slo) (h : List Root) (t : TypeId) (m x y : Operand) : Step :=
 match P.underlying t, xAt K m, xAt K x, xAt K y with
 | some (.map kt _), some (.c c), some (.c (.sc kv)), some v => match P.underlying kt, xKZ h c with
  | some d, some ⟨g, pl, κ, agg, τ, ts⟩ => bif κ.fits d then match keyOf κ kv, valT agg τ v with
    | some n, some z => memS (wrG pl ++ g) .un [pl.id] (xSy h pl κ agg τ (xEZ κ n z ts))
    | _, _ => .stuck
   else .stuck
  | _, _ => .stuck
 | _, _, _, _ => .stuck
def xNN (P : Program) (K : Slo) (h : List Root) (t : TypeId) (m x : Operand) : Step :=
 match P.underlying t, xAt K m, xAt K x with
 | some (.map kt _), some (.c c), some (.c (.sc kv)) => match P.underlying kt, xKZ h c with
  | some d, some ⟨g, pl, κ, agg, τ, ts⟩ => bif κ.fits d then match keyOf κ kv with
    | some n => memS (wrG pl ++ g) (.tu []) [pl.id] (xSy h pl κ agg τ (delK κ n ts))
    | none => .stuck
   else .stuck
  | _, _ => .stuck
 | _, _, _ => .stuck
/-- clear of a part of a slice of the call's own. -/
def xT9 (P : Program) (K : Slo) (h : List Root) (t : TypeId) (x : Operand) : Step :=
 match P.underlying t with
 | some (.slice e) => match P.info? e, xJj P e with
  | some inf, some z => match xAt K x with
   | some (.c (.sl id k off (some n) none)) => match h[id]? with
    | some (.rows T τ xs) => bif Nat.beq z.length inf.size && Nat.beq k τ.w && Nat.beq inf.size τ.w then match τ.dec1 (xDV τ.leaves z) with
      | some z0 => .mem [Nat.ble (off + n) xs.length] (.tu []) (h.set id (.rows T τ (xs.take off ++ List.replicate n z0 ++ xs.drop (off + n)))) [id]
      | none => .stuck
     else .stuck
    | _ => .stuck
   | _ => .stuck
  | _, _ => .stuck
 | _ => .stuck
/-- A part with a capacity that is told: no more is known of it. -/
def xNt (P : Program) (K : Slo) (h : List Root) (t : TypeId) (x lo hi mx : Operand) : Step :=
 match P.underlying t, xAt K x with
 | some (.slice e), some (.c (.sl id _ off n _)) => match P.info? e, lenP h id off n with
  | some _, some n0 => match xAt K lo, xAt K hi, xAt K mx with
   | some (.c (.sc (.int _ l))), some (.c (.sc (.int _ u))), some (.c (.sc (.int _ m))) => .mem [inC m n0, inC u m.toNat, inC l u.toNat] (.c (.hv h.length)) (h ++ [.dead]) []
   | _, _, _ => .stuck
  | _, _ => .stuck
 | _, _ => .stuck
def xPX (len off : Nat) : Option Nat -> Nat
 | none => len - off
 | some m => m
/-- Elements go over from one slice to a part of the call's own. -/
def copyP (P : Program) (K : Slo) (h : List Root) (t : TypeId) (x y : Operand) : Step :=
 match P.underlying t with
 | some (.slice e) => match P.info? e, xAt K y with
  | some inf, some q => match xAt K x with
   | some (.c (.sl id k off n none)) => match h[id]? with
    | some (.rows T τ xs) => bif Nat.beq k τ.w && Nat.beq inf.size τ.w && Nat.beq inf.size 1 then match xRI τ h q with
      | some ys => .mem [] (.c (.sc (.int .i64 ((ys.take (xPX xs.length off n)).length : Nat)))) (h.set id (.rows T τ (xs.take off ++ ys.take (xPX xs.length off n) ++ xs.drop (off + (ys.take (xPX xs.length off n)).length)))) [id]
      | none => .stuck
     else .stuck
    | _ => .stuck
   | _ => .stuck
  | _, _ => .stuck
 | _ => .stuck
/-- An operation that changes memory, or calls. -/
def xCE (P : Program) (K : Slo) (h : List Root) (o : Oper) : Step :=
 match o.op with
 | .alloc T => match xJj P T with
  | some cs => .mem [] (.c (.pt h.length 0 0 0)) (h ++ [.blk cs T]) []
  | none => .stuck
 | .box T x => match (xAt K x).bind xP7 with
  | some cs => .mem [] (.c (.pt h.length 0 0 0)) (h ++ [.blk cs T]) []
  | none => .stuck
 | .store t x y => match xAt K x, (xAt K y).bind xP7, P.info? t with
  | some (.c (.pt id k row j)), some cs, some inf => bif Nat.beq cs.length inf.size then match h[id]? with
    | some r => match xKG r k row j cs with
     | some r' => .mem [] .un (h.set id r') [id]
     | none => .stuck
    | none => .stuck
   else .stuck
  | some (.c x'), some cs, some inf => bif Nat.beq cs.length inf.size then match rpOf x' with
    | some (t', n, k, row, j) => match xA3 t' h 0 with
     | some (p, r) => match xQ4 r n k row j cs with
      | some (g, r') => .mem [g] .un (h.set p r') [p]
      | none => .stuck
     | none => .stuck
    | none => .stuck
   else .stuck
  | _, _, _ => .stuck
 | .makeFunc (.func f) ⟨fs⟩ ⟨cs⟩ => match xUi K fs, xUi K cs with
  | some a, some b => .mem [] (.c (.hv h.length)) (h ++ [.clo f a b]) []
  | _, _ => .stuck
 | .buildSlice t n parts => xB7 P K h t n parts
 | .makeSlice t l c => xQD P K h t l c
 | .call ⟨.builtin .append, ⟨[s, x]⟩, ⟨[t, t']⟩⟩ => bif Nat.beq t t' then xOr P K h t s x else .stuck
 | .call ⟨.value f, ⟨args⟩, _⟩ => callP P K h f args
 | .makeMap t r => xK3 P K h t r
 | .call ⟨.builtin .clear, ⟨[x]⟩, ⟨[t]⟩⟩ => xT9 P K h t x
 | .call ⟨.builtin .copy, ⟨[x, y]⟩, ⟨[t, _]⟩⟩ => copyP P K h t x y
 | .mapUpdate t m x y => xK2 P K h t m x y
 | .insert t m x y => xK2 P K h t m x y
 | .slice t x (some lo) (some hi) (some mx) => xNt P K h t x lo hi mx
 | .call ⟨.builtin .delete, ⟨[m, x]⟩, ⟨t :: _⟩⟩ => xNN P K h t m x
 | _ => .stuck
end
end Go.Proofs.YthmicafabimfkaaGreatDoor


namespace Go.Proofs.YthmicafabimfkaaGreatDoor
open Go.RowKit
def DenArgs (ρ : List Info) : List PV -> List Value -> Prop
 | [], vs => vs = []
 | p :: l, vs => ∃ v r, vs = v :: r /\ DenP ρ p v /\ DenArgs ρ l r
section
variable {P : Program} {N : Nat} {S F : List Nat} {W0 : World} {ρ : List Info} {K : Slo} {h : List Root} {w : World} {a : Act} {o : Oper}
/-- The blocks that are looked at are those of before, or new. -/
def Feet (ρ : List Info) (h : List Root) (w : World) (ρ' : List Info) (h' : List Root) : Prop :=
 ∀ (q : Nat) (r : Root) (i : Info) (b : Nat), h'[q]? = some r -> ρ'[q]? = some i -> foot i r b -> w.heap.size <= b \/ ∃ (p : Nat) (r0 : Root) (i0 : Info), h[p]? = some r0 /\ ρ[p]? = some i0 /\ foot i0 r0 b
theorem Feet.app {i' : Info} {r' : Root} (hl : ρ.length = h.length) {h1 : List Root} (hh : h1.length = h.length) (h1o : ∀ (q : Nat) (r : Root), h1[q]? = some r -> r = .dead \/ h[q]? = some r) (hn : ∀ b, foot i' r' b -> w.heap.size <= b \/ ∃ (p : Nat) (r0 : Root) (i0 : Info), h[p]? = some r0 /\ ρ[p]? = some i0 /\ foot i0 r0 b) : Feet ρ h w (ρ ++ [i']) (h1 ++ [r']) := by
 intro q r i b hr hi hf;rcases Nat.lt_or_ge q h.length with hq | hq
 ·rw [List.getElem?_append_left (by omega)] at hr hi;rcases h1o q r hr with rfl | h2
  ·exact absurd hf xBh
  ·exact .inr ⟨q, r, i, h2, hi, hf⟩
 ·have hlt := (List.getElem?_eq_some_iff.1 hr).1;simp at hlt;obtain rfl : q = h.length := by omega
  rw [List.getElem?_append_right (by omega), hh] at hr;have := xLt hl hi;subst this;simp at hr;subst hr;exact hn b hf
theorem Feet.refl (w : World) : Feet ρ h w ρ h := fun q r i _ h1 h2 h3 => .inr ⟨q, r, i, h1, h2, h3⟩
/-- What a step that changes memory leaves. -/
def MemOk (P : Program) (S F : List Nat) (W0 : World) (ρ : List Info) (h : List Root) (w : World) (a : Act) (o : Oper) (v : PV) (h' : List Root) (t : List Nat) : Prop :=
 ∃ ρ' u nx w' B, Pre ρ ρ' /\ DenP ρ' v u /\ (nx = .value u \/ (nx = .skip /\ u = undef)) /\ (execOp a.eval o).run P w = .ok nx w' /\ HOk S F W0 ρ' h' w' /\ Ex B w w' /\
  (∀ b ∈ B, ∃ p ∈ t, ∃ r i, h[p]? = some r /\ ρ[p]? = some i /\ own i r b) /\ (∀ q : Nat, q ∉ t -> q < h.length -> h'[q]? = h[q]?) /\ Feet ρ h w ρ' h'
def xF1 (P : Program) (S F : List Nat) (W0 : World) (ρ : List Info) (h : List Root) (w : World) (a : Act) (o : Oper) : Step -> Prop
 | .mem g v h' t => AllB g -> MemOk P S F W0 ρ h w a o v h' t
 | .call f args => ∃ vs : List Value, (execOp a.eval o).run P w = .ok (.enter f vs.toArray) w /\ xBc P f = true /\ DenArgs ρ args vs
 | _ => True
theorem xGi (hh : HOk S F W0 ρ h w) (i : Info) : (ρ ++ [i])[h.length]? = some i := by
 rw [List.getElem?_append_right (by rw [hh.len]; omega), hh.len]; simp
theorem Ex.allocs (w : World) (x : Obj) : Ext w (w.alloc x) := (Ex.refl [] w).alloc x
theorem xFZ {p : PV} {v : Value} {cs : List CV} (hd : DenP ρ p v) (hc : xP7 p = some cs) : DenL ρ cs v.cells.toList := by
 cases p with
 | c y =>
  cases hc;refine ⟨v, [], ?_, hd, rfl⟩;have := Den.one hd;cases v <;> first | rfl | cases this
 | ag m =>
  cases hc;obtain ⟨vs, h1, h2⟩ := hd;rw [h2]; simpa [Value.cells] using h1
 | tu m => cases hc
 | un => cases hc
/-- A new block of cells. -/
theorem xSw (hh : HOk S F W0 ρ h w) {cs : List CV} {T : TypeId} {arr : Array Value} (hd : DenL ρ cs arr.toList) (hrun : (execOp a.eval o).run P w = .ok (.value (.pointer (some ⟨w.heap.size, 0, none⟩))) (w.alloc (.cells arr T (0, 0)))) :
  MemOk P S F W0 ρ h w a o (.c (.pt h.length 0 0 0)) (h ++ [.blk cs T]) [] := by
 refine ⟨ρ ++ [⟨some ⟨w.heap.size, 0, none⟩, cs.length, none, .nilFunc⟩], _, _, _, [], Pre.app _ _, ⟨_, w.heap.size, 0, xGi hh _, rfl, ⟨fun m hm => (by cases hm), fun _ h0 => (by cases h0)⟩, rfl⟩, .inl rfl, hrun, ?_, Ex.allocs _ _, by simp, fun q _ hq => List.getElem?_append_left hq, Feet.app hh.len rfl (fun _ _ h => .inr h) (fun b hb => by simp only [foot, own, Option.map_some, Option.some.injEq] at hb; omega)⟩;refine hh.add (Ex.allocs _ _) _ _ ⟨⟨rfl, rfl⟩, w.heap.size, arr.toList, rfl, hd.mono (Pre.app _ _), by simpa using xEk w (.cells arr T (0, 0))⟩ (fun b hb => ?_);simp only [foot, own, Option.map_some, Option.some.injEq] at hb;omega
/-- A new row of the call's own. -/
theorem xFB (hh : HOk S F W0 ρ h w) {T : TypeId} {τ : TC} {xs : List τ.ty} (hw : 0 < τ.w) {us : List Value} (hd : DenL ρ (flat τ xs) us) {v : Value} {w' : World} (hrun : (execOp a.eval o).run P w = .ok (.value v) w') (hown : w'.ownsRow w.heap.size T τ.w v xs.length us) (hE : Ext w w') :
  MemOk P S F W0 ρ h w a o (.c (.sl h.length τ.w 0 none none)) (h ++ [.rows T τ xs]) [] := by
 obtain ⟨h1, h2⟩ := hown;have key : ∃ aa cap, v = .slice aa xs.length cap /\ ownsAt w' T τ.w aa cap xs.length us /\ xs.length <= cap /\ cap <= maxLen /\ (0 < xs.length -> ∃ b o, aa = some ⟨b, o, none⟩) /\ ∀ b, aa.map (·.block) = some b -> w.heap.size <= b := by
  rcases h2 with ⟨h2, h3⟩ | ⟨g, cap, cur, h2, h3, h4, h5, h6, h7, h8⟩
  ·refine ⟨none, 0, by rw [h2, h3], ⟨h1, by omega, by unfold maxLen; omega, .inl ⟨rfl, by simp⟩⟩, by omega, by unfold maxLen; omega, by omega, by simp⟩
  ·refine ⟨some ⟨g, 0, none⟩, cap, h2, ⟨h1, h5, h6, .inr ⟨g, 0, cur, rfl, h4, by omega, by simpa using h8⟩⟩, h5, h6, fun _ => ⟨g, 0, rfl⟩, fun b hb => ?_⟩;simp only [Option.map_some, Option.some.injEq] at hb;omega
 obtain ⟨aa, cap, e, k1, k2, k3, k4, k5⟩ := key;subst e;refine ⟨ρ ++ [⟨aa, cap, some xs.length, .nilFunc⟩], _, _, _, [], Pre.app _ _, ⟨_, aa, cap, xs.length, xGi hh _, rfl, k2, k3, k4, ⟨_, rfl, (Nat.sub_zero _).symm⟩, ⟨_, rfl, by omega⟩, (Nat.sub_zero _).symm, rfl, fun _ => rfl, fun _ => ?_⟩, .inl rfl, hrun, ?_, hE, by simp, fun q _ hq => List.getElem?_append_left hq, Feet.app (i' := ⟨aa, cap, some xs.length, .nilFunc⟩) (r' := .rows T τ xs) hh.len rfl (fun _ _ h => .inr h) (fun b hb => .inl (k5 b hb))⟩
 ·cases aa <;> simp [Addr.add]
 ·exact hh.add hE _ _ ⟨rfl, hw, us, hd.mono (Pre.app _ _), k1⟩ (fun b hb => k5 b hb)
theorem xGb {z : List CV} {vs : List Value} (hz : DenL ρ z vs) : ∀ n : Nat, DenL ρ (repL n z) (List.replicate n vs).flatten
 | 0 => rfl
 | n + 1 => by rw [repL, List.replicate_succ, List.flatten_cons]; exact hz.app (xGb hz n)
theorem xBs (vs : Array Value) : ∀ n : Nat, (madeCells vs (n * vs.size)).toList = (List.replicate n vs.toList).flatten
 | 0 => by simp [madeCells]
 | n + 1 => by
  have ih := xBs vs n;simp only [madeCells, Array.toList_map, Array.toList_range] at ih ⊢;rw [Nat.add_mul, Nat.one_mul, Nat.add_comm, List.range_add, List.map_append, List.replicate_succ, List.flatten_cons, <- ih, List.map_map];congr 1
  ·apply List.ext_getElem
   ·simp
   ·intro i h1 h2;have h3 : i < vs.size := by simpa using h2
    simp [Nat.mod_eq_of_lt h3, h3]
  ·apply List.map_congr_left;intro i _;simp
theorem xHC (τ : TC) (x : τ.ty) : ∀ n : Nat, flat τ (List.replicate n x) = repL n (τ.enc x)
 | 0 => rfl
 | n + 1 => by rw [List.replicate_succ, flat, List.flatMap_cons, repL]; congr 1; exact xHC τ x n
theorem xKA (hh : HOk S F W0 ρ h w) {τ : TC} {y : PV} {v : Value} {ys : List τ.ty} (hy : DenP ρ y v) (hs : xRI τ h y = some ys) :
  ∃ a2 c2 us, v = .slice a2 ys.length c2 /\ DenL ρ (flat τ ys) us /\ (0 < ys.length -> ∃ b o, a2 = some ⟨b, o, none⟩ /\ ∀ (j : Nat) (u : Value), us[j]? = some u -> w.cell? ⟨b, o + j, none⟩ = some u) := by
 have part : ∀ (id k off : Nat) (n c : Option Nat) (τ' : TC) (zs : List τ'.ty) (i : Info) (vs : List Value), ρ[id]? = some i -> i.len = some zs.length -> DenL ρ (flat τ' zs) vs ->
   (∀ b o, i.a = some ⟨b, o, none⟩ -> 0 < zs.length -> ∀ (j : Nat) (u : Value), vs[j]? = some u -> w.cell? ⟨b, o + j, none⟩ = some u) -> Den ρ (.sl id k off n c) v -> partOf τ τ' zs k off n = some ys ->
   ∃ a2 c2 us, v = .slice a2 ys.length c2 /\ DenL ρ (flat τ ys) us /\ (0 < ys.length -> ∃ b o, a2 = some ⟨b, o, none⟩ /\ ∀ (j : Nat) (u : Value), us[j]? = some u -> w.cell? ⟨b, o + j, none⟩ = some u) := by
  intro id k off n c τ' zs i vs hi hlen hd hcell hden hp;obtain ⟨i', a', c', nn, h1, h2, h3, h4, h5, h6, h7⟩ := hden;rw [hi] at h1; cases h1;unfold partOf at hp;split at hp
  ·rename_i e;have e' := xAC e;subst e'
   cases hk : Nat.beq k τ'.w with
   | false => rw [hk] at hp; cases hp
   | true =>
    rw [hk] at hp;have hk' := nbT hk;subst hk';simp only [cond_true] at hp;have hfl : ∀ x : Nat, flat τ' (zs.drop x) = (flat τ' zs).drop (x * τ'.w) := by
     intro x;rcases Nat.lt_or_ge x zs.length with hx | hx
     ·have := xFQ τ' zs x hx;rw [List.append_nil, List.append_nil] at this;rw [this, List.drop_eq_getElem_cons hx];show τ'.enc zs[x] ++ _ = τ'.enc (nth zs τ'.dflt x) ++ _;rw [<- xJI zs _ x hx];rfl
     ·rw [List.drop_of_length_le hx, List.drop_of_length_le (by rw [xCU]; exact Nat.mul_le_mul_right _ hx)]; rfl
    have hft : ∀ (l : List τ'.ty) (m : Nat), flat τ' (l.take m) = (flat τ' l).take (m * τ'.w) := by
     intro l
     induction l with
     | nil => intro m; simp [flat]
     | cons x l ih =>
      intro m
      cases m with
      | zero => simp [flat]
      | succ m =>
       have := ih m;simp only [flat] at this;simp only [List.take_succ_cons, flat, List.flatMap_cons, this];rw [show (m + 1) * τ'.w = (τ'.enc x).length + m * τ'.w by rw [τ'.enc_len, Nat.add_mul]; omega, List.take_length_add_append]
    have fin : ∀ (us : List Value), DenL ρ (flat τ' ys) us -> (∀ (j : Nat) (u : Value), us[j]? = some u -> vs[off * τ'.w + j]? = some u) -> nn = ys.length -> 0 < zs.length \/ ys.length = 0 -> (0 < ys.length -> 0 < nn /\ a' = i.a.map (·.add (off * τ'.w))) -> ∃ a2 c2 us, v = .slice a2 ys.length c2 /\ DenL ρ (flat τ' ys) us /\ (0 < ys.length -> ∃ b o, a2 = some ⟨b, o, none⟩ /\ ∀ (j : Nat) (u : Value), us[j]? = some u -> w.cell? ⟨b, o + j, none⟩ = some u) := by
     intro us g1 g2 g3 g4 g5;subst g3;refine ⟨a', c', us, h2, g1, fun hpos => ?_⟩;obtain ⟨g6, g7⟩ := g5 hpos;obtain ⟨b, o, g8⟩ := h5 g6;refine ⟨b, o + off * τ'.w, by rw [g7, g8, Option.map_some, Addr.add_lit], fun j u hu => ?_⟩;have := hcell b o g8 (by omega) _ u (g2 j u hu);rwa [<- Nat.add_assoc] at this
    have addr : 0 < nn -> a' = i.a.map (·.add (off * τ'.w)) := by
     intro hpos
     cases c with
     | none =>
      obtain ⟨⟨m, h8, h9⟩, h10, _, h11, h12⟩ := h7;exact h12 (by omega)
     | some c0 => exact h7.2.2.2 hpos
    split at hp
    ·cases hp;obtain ⟨m, h8, h9⟩ := h6;rw [hlen] at h8; cases h8;have hl : nn = (zs.drop off).length := by rw [h9, List.length_drop]
     refine fin (vs.drop (off * τ'.w)) (by rw [hfl]; exact hd.drop _) (fun j u hu => by rwa [List.getElem?_drop] at hu) hl ?_ (fun hpos => ⟨by omega, addr (by omega)⟩);rw [List.length_drop]; omega
    ·rename_i m;have hb' : off + m <= zs.length := by
      simp only [Info.cnt] at h6
      cases c with
      | none =>
       obtain ⟨⟨m', h8, h9⟩, _⟩ := h7;rw [hlen] at h8; cases h8; omega
      | some c0 => have := h7.1; rw [hlen] at this; cases this
     cases hp;have hl : nn = ((zs.drop off).take m).length := by rw [List.length_take, List.length_drop]; simp only [Info.cnt] at h6; omega
     refine fin ((vs.drop (off * τ'.w)).take (m * τ'.w)) (by rw [hft, hfl]; exact (hd.drop _).take _) (fun j u hu => ?_) hl ?_ (fun hpos => ⟨by omega, addr (by omega)⟩)
     ·rw [List.getElem?_take] at hu;split at hu
      ·rwa [List.getElem?_drop] at hu
      ·cases hu
     ·rw [List.length_take, List.length_drop]; omega
  ·cases hp
 unfold xRI at hs;split at hs
 ·rename_i id k off n c;split at hs
  ·rename_i T τ' zs hr;obtain ⟨i, hi⟩ := hh.info hr;obtain ⟨h0, _, vs, h1, h2⟩ := hh.ok id _ i hr hi;exact part id k off n c τ' zs i vs hi h0 h1 (fun b o ha _ j u hu => by rw [ha] at h2; exact xCI h2 hu) hy hs
  ·rename_i τ' zs hr;obtain ⟨i, hi⟩ := hh.info hr;obtain ⟨h0, vs, h1, h2⟩ := hh.ok id _ i hr hi;refine part id k off n c τ' zs i vs hi h0 h1 (fun b o ha hpos j u hu => ?_) hy hs;obtain ⟨b', o', h3, _, h4⟩ := h2 hpos;rw [ha] at h3; cases h3;exact h4 j u hu
  ·cases hs
 ·rename_i t n;split at hs
  ·rename_i p t2 τ' os hr;split at hs
   ·rename_i e;have e' := xAC e;subst e';cases hs;obtain ⟨p', hp, hrr, ht⟩ := xAD hr;rw [Nat.zero_add] at hp; subst hp;rcases hy with ⟨h0, h1⟩ | ⟨m, id, i0, h1, h2, h3, _⟩
    ·subst h0; exact ⟨_, _, [], h1, rfl, fun hpos => absurd hpos (by simp [xJh])⟩
    ·obtain ⟨ip, hip⟩ := hh.info hrr;have h7 := hh.cov p t _ ip hrr hip ht id i0 m _ h2 h3;obtain ⟨hA, _⟩ : ArOk ρ w (ip.objs t) (Root.arr t2 τ' os).obs /\ True := ⟨by cases ht; exact hh.ok p _ ip hrr hip, trivial⟩;have hlt : m < os.length := by
      have h8 := (List.getElem?_eq_some_iff.1 h7).1;have h9 := hA.1;simp only [Root.obs, List.length_map] at h9;omega
     obtain ⟨a1, c1, g1, _, _, vs, g2, g3⟩ := hA.2.1 m _ (.rr τ' os[m]) h7 (by simp only [Root.obs, List.getElem?_map, List.getElem?_eq_getElem hlt, Option.map_some]);have hrow : xJh os n = os[m] := by
      rw [h1]; simp [xJh, nth, List.getD_eq_getElem?_getD, List.getElem?_eq_getElem hlt]
     show ∃ a2 c2 us, v = .slice a2 (xJh os n).length c2 /\ DenL ρ (flat τ' (xJh os n)) us /\ _;rw [hrow];refine ⟨a1, c1, vs, g1, g2, fun hpos => ?_⟩;obtain ⟨b, o, g4, _, g5⟩ := g3 hpos;exact ⟨b, o, g4, g5⟩
   ·cases hs
  ·cases hs
 ·cases hs;exact ⟨_, _, [], hy.1, rfl, fun hpos => absurd hpos (by simp)⟩
 ·cases hs
end
end Go.Proofs.YthmicafabimfkaaGreatDoor


namespace Go.Proofs.YthmicafabimfkaaGreatDoor
open Go.RowKit
section
variable {P : Program} {N : Nat} {D : List Deferred} {S F : List Nat} {W0 : World} {ρ : List Info} {K : Slo} {h : List Root} {w : World} {a : Act} {o : Oper}
theorem xCs {t : TypeId} {z : List CV} {inf : TypeInfo} (hz : xJj P t = some z) (hi : P.info? t = some inf) : ∃ v : Value, inf.zero = some v /\ DenL ρ z v.cells.toList := by
 unfold xJj at hz;rw [hi] at hz;simp only at hz;split at hz
 ·rename_i v hv; exact ⟨v, hv, xMe hz⟩
 ·cases hz
/-- append where there is room: the cells behind are written. -/
theorem xFp {t ty e : TypeId} {inf : TypeInfo} (ht : P.underlying t = some (.slice e)) (hi : P.info? e = some inf) {g off n cap m c : Nat} {cur : Array Value} {T : TypeId} (hg : w.heap[g]? = some (.cells cur T (0, 0))) {a2 : Option Addr} {us : List Value}
  (hl : us.length = m * inf.size) (hus : 0 < m -> ∃ b o, a2 = some ⟨b, o, none⟩ /\ ∀ (j : Nat) (u : Value), us[j]? = some u -> w.cell? ⟨b, o + j, none⟩ = some u) (h1 : ∀ u ∈ us, u.oneCell' = true) (hroom : n + m <= cap) (hfit : off + (n + m) * inf.size <= cur.size) :
  (Builtin.append_ #[t, t] ty #[.slice (some ⟨g, off, none⟩) n cap, .slice a2 m c]).run P w =
   .ok (.slice (some ⟨g, off, none⟩) (n + m) cap) (w.setRow g (cur.toList.take (off + n * inf.size) ++ us ++ cur.toList.drop (off + n * inf.size + us.length)).toArray) := by
 have hf : (Builtin.firstCells inf.size m (.slice a2 m c)).run P w = .ok us.toArray w := by
  rcases Nat.eq_zero_or_pos m with h0 | h0
  ·subst h0;obtain rfl : us = [] := List.eq_nil_of_length_eq_zero (by simpa using hl);cases a2 <;> simp [Builtin.firstCells, loadCells, loadCellsFrom]
  ·obtain ⟨b, o, e1, e2⟩ := hus h0;subst e1;exact run_firstCells_some (P := P) w inf.size m ⟨b, o, none⟩ m c us hl (fun j u hu => by rw [Addr.add_lit]; exact e2 j u hu)
 have hst := run_storeCells_at P g (off + n * inf.size) T us 0 cur w hg (by rw [hl]; rw [Nat.add_mul] at hfit; omega) h1;simp only [Nat.add_zero] at hst;simp [Builtin.append_, run_underlying ht, sizeOf, typeInfo, hi, Builtin.lenOf, hroom, hf, Addr.add_lit, hst]
theorem xBJ {t : TypeId} {so xo : Operand} (ho : o.op = .call ⟨.builtin .append, ⟨[so, xo]⟩, ⟨[t, t]⟩⟩) {v : Value} {w' : World} (hr : (Builtin.append_ #[t, t] o.type #[a.eval so, a.eval xo]).run P w = .ok v w') : (execOp a.eval o).run P w = .ok (.value v) w' := by
 unfold execOp;simp only [ho];simp [resolve, invoke, builtin, Sem.run_bind, hr, Result.andThen]
theorem xSQ {b n m : Nat} (hs : 1000000 * b <= 140737488355328) (h : lenG b n m = true) : n + m <= 1400000000000 /\ (n + m) * b <= 140737488355328 := by
 unfold lenG at h
 cases hb : Nat.beq b 104 with
 | true =>
  rw [hb, cond_true] at h;have := nbT hb;subst this;have h : (n + m) * 104 <= 140737488355328 := by simpa [xA5] using h
  exact ⟨by omega, h⟩
 | false =>
  rw [hb, cond_false] at h;have h : n + m <= 1000000 := by simpa [xAN] using h
  exact ⟨by omega, Nat.le_trans (Nat.mul_le_mul_right _ h) hs⟩
theorem xVX {n m : Nat} (h : xAN n m = true) : n + m <= 1000000 := by simpa [xAN] using h
/-- Cells of some elements, in the middle of a row. -/
theorem xIc {T k : Nat} {aa : Option Addr} {cap n off : Nat} {vs : List Value} (hw : ownsAt w T k aa cap n vs) (hoff : off <= n) (a' : Option Addr) (hb : a'.map (·.block) = aa.map (·.block)) (h0 : off = 0 -> a' = aa) (h1 : off < cap -> a' = aa.map (·.add (off * k))) : ownsAt w T k a' (cap - off) (n - off) (vs.drop (off * k)) := by
 obtain ⟨k1, k2, k3, k4⟩ := hw;refine ⟨by rw [List.length_drop, k1, Nat.sub_mul], by omega, by omega, ?_⟩;rcases k4 with ⟨k4, k5⟩ | ⟨g, o, cur, k4, k5, k6, k7⟩
 ·exact .inl ⟨by omega, fun b e => k5 b (by rw [<- hb]; exact e)⟩
 ·by_cases hlt : off < cap
  ·refine .inr ⟨g, o + off * k, cur, by rw [h1 hlt, k4, Option.map_some, Addr.add_lit], k5, ?_, ?_⟩
   ·have : (cap - off) * k + off * k = cap * k := by rw [<- Nat.add_mul]; congr 1; omega
    omega
   ·rw [<- k7, List.drop_take, List.drop_drop, Nat.sub_mul]
  ·exact .inl ⟨by omega, fun b e => by
    rw [hb, k4] at e;simp only [Option.map_some, Option.some.injEq] at e;subst e; exact lt_of_block k5⟩
theorem xDe (τ : TC) (zs : List τ.ty) (x : Nat) : flat τ (zs.drop x) = (flat τ zs).drop (x * τ.w) := by
 rcases Nat.lt_or_ge x zs.length with hx | hx
 ·have := xFQ τ zs x hx;rw [List.append_nil, List.append_nil] at this;rw [this, List.drop_eq_getElem_cons hx];show τ.enc zs[x] ++ _ = τ.enc (nth zs τ.dflt x) ++ _;rw [<- xJI zs _ x hx];rfl
 ·rw [List.drop_of_length_le hx, List.drop_of_length_le (by rw [xCU]; exact Nat.mul_le_mul_right _ hx)]; rfl
theorem xDd (τ : TC) : ∀ (l : List τ.ty) (m : Nat), flat τ (l.take m) = (flat τ l).take (m * τ.w)
 | [], m => by simp [flat]
 | x :: l, 0 => by simp [flat]
 | x :: l, m + 1 => by
  have := xDd τ l m;simp only [flat] at this;simp only [List.take_succ_cons, flat, List.flatMap_cons, this];rw [show (m + 1) * τ.w = (τ.enc x).length + m * τ.w by rw [τ.enc_len, Nat.add_mul]; omega, List.take_length_add_append]
theorem xDH (τ : TC) (xs ys : List τ.ty) : flat τ (xs ++ ys) = flat τ xs ++ flat τ ys := by simp [flat]
theorem run_append_nothing {t ty e : TypeId} {inf : TypeInfo} (ht : P.underlying t = some (.slice e)) (hi : P.info? e = some inf) (aa a2 : Option Addr) (n cap c2 : Nat) (hn : n <= cap) : (Builtin.append_ #[t, t] ty #[.slice aa n cap, .slice a2 0 c2]).run P w = .ok (.slice aa n cap) w := by
 cases aa <;> cases a2 <;> simp [Builtin.append_, run_underlying ht, sizeOf, typeInfo, hi, Builtin.lenOf, Builtin.firstCells, loadCells, loadCellsFrom, hn, storeCells]
/-- One root of the call's own becomes another. -/
theorem xIh (hh : HOk S F W0 ρ h w) {id : Nat} {r : Root} {i : Info} (hr : h[id]? = some r) (hi : ρ[id]? = some i) (B : List Nat) (hB : ∀ b ∈ B, own i r b) {T : TypeId} {τ : TC} {xs : List τ.ty} (hw : 0 < τ.w) {us : List Value} (hd : DenL ρ (flat τ xs) us) {aa : Option Addr} {cap : Nat} {w' : World} (hrun : (execOp a.eval o).run P w = .ok (.value (.slice aa xs.length cap)) w') (hown : ownsAt w' T τ.w aa cap xs.length us) (hE : Ex B w w') (hnew : ∀ b, aa.map (·.block) = some b -> w.heap.size <= b \/ b ∈ B) (hsome : 0 < xs.length -> ∃ b o, aa = some ⟨b, o, none⟩) :
  MemOk P S F W0 ρ h w a o (.c (.sl h.length τ.w 0 none none)) (h.set id .dead ++ [.rows T τ xs]) [id] := by
 refine ⟨ρ ++ [⟨aa, cap, some xs.length, .nilFunc⟩], _, _, _, B, Pre.app _ _, ⟨_, aa, cap, xs.length, xGi hh _, rfl, hown.2.1, hown.2.2.1, hsome, ⟨_, rfl, (Nat.sub_zero _).symm⟩, ⟨_, rfl, by omega⟩, (Nat.sub_zero _).symm, rfl, fun _ => rfl, fun _ => ?_⟩, .inl rfl, hrun, ?_, hE, fun b hb => ⟨id, by simp, r, i, hr, hi, hB b hb⟩, fun q hq hl => by rw [List.getElem?_append_left (by simpa using hl), List.getElem?_set_ne (by simpa [eq_comm] using hq)], Feet.app (i' := ⟨aa, cap, some xs.length, .nilFunc⟩) (r' := .rows T τ xs) hh.len (by simp) (fun q s hs => by
   rw [List.getElem?_set] at hs;split at hs
   ·split at hs
    ·exact .inl (Option.some.inj hs).symm
    ·cases hs
   ·exact .inr hs) (fun b hb => (hnew b hb).imp (fun x => x) (fun hb => ⟨id, r, i, hr, hi, xAs (hB b hb)⟩))⟩
 ·cases aa <;> simp [Addr.add]
 ·refine hh.move id B hE (fun q s j b hq hs hj hf hb => ?_) (fun b hb => hh.mine id r i b hr hi (hB b hb)) _ _ ⟨rfl, hw, us, hd.mono (Pre.app _ _), hown⟩ (fun b hb => hnew b hb);exact hh.sep id q r s i j b (Ne.symm hq) hr hs hi hj (hB b hb) hf
theorem xEo {α : Type} {l : List α} {p : Nat} {r : α} (hr : l[p]? = some r) : l.set p r = l := by
 apply List.ext_getElem?;intro q;rw [List.getElem?_set];split
 ·rename_i e;subst e;have := (List.getElem?_eq_some_iff.1 hr).1;rw [if_pos this, hr]
 ·rfl
theorem Feet.set {w : World} {id : Nat} {r r' : Root} {i : Info} (hr : h[id]? = some r) (hi : ρ[id]? = some i) (hf : ∀ b, foot i r' b -> foot i r b) : Feet ρ h w ρ (h.set id r') := by
 intro q s j b hs hj hb;rw [List.getElem?_set] at hs;split at hs
 ·rename_i e;subst e;split at hs
  ·cases hs;rw [hi] at hj; cases hj;exact .inr ⟨_, r, i, hr, hi, hf b hb⟩
  ·cases hs
 ·exact .inr ⟨q, s, j, hs, hj, hb⟩
theorem xQ6 (hK : KOk N D ρ K a) (hh : HOk S F W0 ρ h w) {t : TypeId} {s x : Operand} (ho : o.op = .call ⟨.builtin .append, ⟨[s, x]⟩, ⟨[t, t]⟩⟩) : xF1 P S F W0 ρ h w a o (xOr P K h t s x) := by
 unfold xOr;split
 ·rename_i e hd;split
  ·rename_i inf z hi hz;obtain ⟨zv, hzv, hzd⟩ := xCs (ρ := ρ) hz hi
   cases hc0 : (Nat.beq z.length inf.size && xJA inf.bytes) with
   | false => trivial
   | true =>
    simp only [Bool.and_eq_true] at hc0;have hzs : zv.cells.size = inf.size := by
     have h1 := hzd.len;have h2 := nbT hc0.1;simp at h1; omega
    have hsm : 1000000 * inf.bytes <= 140737488355328 := Nat.le_of_ble_eq_true hc0.2;simp only [cond_true];split
    ·rename_i id k off n y hs hy;split
     ·rename_i T τ xs hr
      cases hc1 : (Nat.beq T e && Nat.beq k τ.w && Nat.beq inf.size τ.w) with
      | false => trivial
      | true =>
       simp only [Bool.and_eq_true] at hc1;obtain ⟨⟨hc2, hc3⟩, hc4⟩ := hc1;have hTe := nbT hc2;have hkw := nbT hc3;have hsz := nbT hc4;subst hTe;subst hkw;simp only [cond_true];split
       ·rename_i ys hys;obtain ⟨i, a', c', nn, h1, h2, h3, h4, h5, h6, ⟨m0, h7, h8⟩, h9, h9', h10, h11⟩ := xAb hK hs;obtain ⟨g0, g1, vs, g2, g3⟩ := hh.ok id _ i hr h1;rw [g0] at h7; cases h7;obtain ⟨a2, c2, us, s1, s2, s3⟩ := xKA hh (xAb hK hy) hys;have hul : us.length = ys.length * inf.size := by rw [s2.len, xCU, hsz]
        have howB : ∀ b ∈ (i.a.map (·.block)).toList, own i (.rows T τ xs) b := fun b hb => by simpa [own, eq_comm] using hb
        split
        ·-- the whole rest
         obtain ⟨m1, e1, e2⟩ := h6;rw [g0] at e1; cases e1;have hoff : off <= xs.length := by omega
         have hown := xIc g3 hoff a' h9' h10 h11;rw [<- h9] at hown;intro hg;obtain ⟨hlen, hlb⟩ := xSQ hsm hg.1;have hbytes : ∀ q : Nat, q <= (xs.length - off) + ys.length -> q * inf.bytes <= 140737488355328 := fun q hq => Nat.le_trans (Nat.mul_le_mul_right _ hq) hlb;have hnl : (xs.drop off ++ ys).length = nn + ys.length := by rw [List.length_append, List.length_drop]; omega
         have hdl : DenL ρ (flat τ (xs.drop off ++ ys)) (vs.drop (off * τ.w) ++ us) := by
          rw [xDH, xDe]; exact (g2.drop _).app s2
         have hvl : (vs.drop (off * τ.w)).length = nn * τ.w := by rw [hown.1, e2]
         have hblk : ∀ b, a'.map (·.block) = some b -> b ∈ (i.a.map (·.block)).toList := fun b hb => by rw [<- h9', hb]; simp
         rcases Nat.eq_zero_or_pos ys.length with hm | hm
         ·have hy0 : ys = [] := List.length_eq_zero_iff.1 hm;subst hy0;have hu0 : us = [] := List.eq_nil_of_length_eq_zero (by simpa using hul);subst hu0;have hrun := run_append_nothing (P := P) (w := w) (ty := o.type) hd hi a' a2 nn c' c2 h3;refine xIh hh hr h1 _ howB (cap := c') g1 hdl (xBJ ho (by rw [h2, s1, hnl]; exact hrun)) ?_ (Ex.refl _ _) (fun b hb => .inr (hblk b hb)) (fun hp => ?_)
          ·rw [hnl, List.append_nil]; rw [<- e2] at hown; exact hown
          ·obtain ⟨b, o', h12⟩ := h5 (by omega);rw [h11 (by omega), h12, Option.map_some, Addr.add_lit];exact ⟨_, _, rfl⟩
         ·rcases Nat.lt_or_ge c' (nn + ys.length) with hgrow | hroom
          ·obtain ⟨b2, o2, s4, s5⟩ := s3 hm;subst s4;have hres : ∃ v' w', (Builtin.append_ #[t, t] o.type #[.slice a' nn c', .slice (some ⟨b2, o2, none⟩) ys.length c2]).run P w = .ok v' w' /\ w'.ownsRow w.heap.size T inf.size v' (nn + ys.length) (vs.drop (off * τ.w) ++ us) /\ w.grownBy w' none := by
            rcases hown.2.2.2 with ⟨k1, _⟩ | ⟨g, og, cur, k1, k2, k3, k4⟩
            ·have hn0 : nn = 0 := by omega
             have hv0 : vs.drop (off * τ.w) = [] := List.eq_nil_of_length_eq_zero (by rw [hvl, hn0]; simp);rw [hv0]
             cases a' with
             | none =>
              obtain ⟨v', w', hrun, r1, r2, _⟩ := run_append_own (P := P) w w.heap.size t o.type T inf zv inf.size inf.bytes hd hi hzv rfl rfl hzs (by omega) (.slice none 0 0) 0 [] (World.ownsRow_nil w _ T inf.size) ⟨b2, o2, none⟩ ys.length c2 us hul (fun j u hu => by rw [Addr.add_lit]; exact s5 j u hu) s2.ones (by unfold maxLen; omega) (hbytes _ (by omega)) (Nat.le_refl _);refine ⟨v', w', ?_, by rw [hn0]; exact r1, r2⟩;rw [hn0, k1]; exact hrun
             | some b =>
              obtain ⟨v', w', hrun, r1, r2⟩ := run_append_arg_grows (P := P) w t o.type T inf zv inf.size inf.bytes hd hi hzv rfl rfl hzs (by omega) b nn c' [] (by simp [hn0]) (by simp) ⟨b2, o2, none⟩ ys.length c2 us hul (fun j u hu => by rw [Addr.add_lit]; exact s5 j u hu) hgrow (by unfold maxLen; omega) (hbytes _ (by omega));exact ⟨v', w', hrun, r1, r2⟩
            ·subst k1;obtain ⟨v', w', hrun, r1, r2⟩ := run_append_arg_grows (P := P) w t o.type T inf zv inf.size inf.bytes hd hi hzv rfl rfl hzs (by omega) ⟨g, og, none⟩ nn c' (vs.drop (off * τ.w)) (by rw [hvl, hsz]) (fun j u hu => by rw [Addr.add_lit]; exact xCI hown hu) ⟨b2, o2, none⟩ ys.length c2 us hul (fun j u hu => by rw [Addr.add_lit]; exact s5 j u hu) hgrow (by unfold maxLen; omega) (hbytes _ (by omega));exact ⟨v', w', hrun, r1, r2⟩
           obtain ⟨v', w', hrun, r1, r2⟩ := hres;obtain ⟨r3, r4⟩ := r1;rcases r4 with ⟨_, r4⟩ | ⟨g, cap, cur, r4, r5, r6, r7, r8, r9, r10⟩
           ·omega
           ·subst r4;refine xIh hh hr h1 [] (by simp) (cap := cap) g1 hdl (xBJ ho (by rw [h2, s1, hnl]; exact hrun)) ?_ (Ex.of_grown r2) (fun b hb => .inl ?_) (fun _ => ⟨g, 0, rfl⟩)
            ·rw [hnl];exact ⟨by rw [r3, hsz], r7, r8, .inr ⟨g, 0, cur, rfl, r6, by rw [<- hsz]; omega, by rw [hsz] at r10; simpa using r10⟩⟩
            ·simp only [Option.map_some, Option.some.injEq] at hb;omega
          ·rcases hown.2.2.2 with ⟨k1, _⟩ | ⟨g, og, cur, k1, k2, k3, k4⟩
           ·omega
           ·subst k1;have hfit : og + (nn + ys.length) * inf.size <= cur.size := by
             have := Nat.mul_le_mul_right τ.w hroom;rw [hsz]; omega
            have hrun := xFp (P := P) (w := w) (ty := o.type) hd hi (n := nn) (cap := c') (c := c2) k2 hul s3 s2.ones hroom hfit;refine xIh hh hr h1 _ howB (cap := c') g1 hdl (xBJ ho (by rw [h2, s1, hnl]; exact hrun)) ?_ ((Ex.setRow w g _).mono (fun b hb => ?_)) (fun b hb => .inr (hblk b hb)) (fun _ => ⟨g, og, rfl⟩)
            ·rw [hnl];rw [Nat.add_mul, hsz] at hfit;refine ⟨by rw [List.length_append, hvl, hul, hsz, Nat.add_mul], hroom, h4, .inr ⟨g, og, _, rfl, setRow_heap _ _ _ _ _ _ k2, ?_, ?_⟩⟩
             ·simp only [List.size_toArray, List.length_append, List.length_take, List.length_drop, Array.length_toList];rw [hul, hsz]; omega
             ·rw [hsz];have hpl := xEr cur.toList us og (nn * τ.w) ((nn + ys.length) * τ.w) (by rw [hul, hsz, Nat.add_mul]; omega) (by simp only [Array.length_toList]; rw [Nat.add_mul]; omega);have e3 : vs.drop (off * τ.w) = (cur.toList.drop og).take (nn * τ.w) := by rw [<- e2] at k4; exact k4.symm
              rw [e3];refine hpl.trans ?_;rw [List.take_take, Nat.min_eq_left (by rw [Nat.add_mul]; omega), List.drop_of_length_le (l := (cur.toList.drop og).take ((nn + ys.length) * τ.w)) (by rw [List.length_take, hul, hsz, Nat.add_mul]; omega), List.append_nil]
            ·rw [List.mem_singleton] at hb;subst hb;exact hblk b (by simp)
        ·rename_i n0
         ·intro hgd;have hb' := Nat.le_of_ble_eq_true hgd.1;simp only [Info.cnt] at h6;subst h6;have hcap := g3.2.1;have hnewlen : (xs.take (off + nn) ++ ys ++ xs.drop (off + nn + ys.length)).length = xs.length := by
           rw [List.length_append, List.length_append, List.length_take, List.length_drop]; omega
          have hden : ∀ p, a' = p -> DenP ρ (.c (.sl id τ.w off (some (nn + ys.length)) none)) (.slice p (nn + ys.length) c') := by
           intro p hp;subst hp;refine ⟨i, a', c', nn + ys.length, h1, rfl, by omega, h4, fun hp => ?_, rfl, ⟨_, g0, by omega⟩, h9, h9', h10, h11⟩;rcases g3.2.2.2 with ⟨k1, _⟩ | ⟨g, og, cur, k1, _⟩
           ·omega
           ·exact ⟨g, og, k1⟩
          rcases Nat.eq_zero_or_pos ys.length with hm | hm
          ·have hy0 : ys = [] := List.length_eq_zero_iff.1 hm;subst hy0;have hrun := run_append_nothing (P := P) (w := w) (ty := o.type) hd hi a' a2 nn c' c2 h3;have e1 : xs.take (off + nn) ++ [] ++ xs.drop (off + nn + ([] : List τ.ty).length) = xs := by simp
           refine ⟨ρ, _, _, w, [], Pre.refl _, hden _ rfl, .inl rfl, xBJ ho (by rw [h2, s1]; exact hrun), ?_, Ex.refl _ _, by simp, fun q hq _ => List.getElem?_set_ne (by simpa [eq_comm] using hq), ?_⟩
           ·rw [e1, xEo hr];exact hh
           ·rw [e1, xEo hr];exact Feet.refl w
          ·rcases g3.2.2.2 with ⟨k1, _⟩ | ⟨g, og, cur, k1, k2, k3, k4⟩
           ·omega
           ·have ha' : a' = some ⟨g, og + off * τ.w, none⟩ := by rw [h11 (by omega), k1, Option.map_some, Addr.add_lit]
            subst ha';have hxw : xs.length * τ.w <= i.cap * τ.w := Nat.mul_le_mul_right _ hcap;have hall : (off + nn + ys.length) * τ.w <= xs.length * τ.w := Nat.mul_le_mul_right _ hb';have hsplit : (off + nn + ys.length) * τ.w = off * τ.w + nn * τ.w + ys.length * τ.w := by rw [Nat.add_mul, Nat.add_mul]
            have hfit : og + off * τ.w + (nn + ys.length) * inf.size <= cur.size := by
             rw [hsz, Nat.add_mul]; omega
            have hrun := xFp (P := P) (w := w) (ty := o.type) hd hi (n := nn) (cap := c') (c := c2) k2 hul s3 s2.ones (by omega) hfit;have hown0 : own i (.rows T τ xs) g := by simp [own, k1]
            refine ⟨ρ, _, _, _, [g], Pre.refl _, hden _ rfl, .inl rfl, xBJ ho (by rw [h2, s1]; exact hrun), ?_, Ex.setRow w g _, fun b hb => ?_, fun q hq _ => List.getElem?_set_ne (by simpa [eq_comm] using hq), Feet.set hr h1 (fun b hb => by simpa [foot, own] using hb)⟩
            ·refine hh.setr hr h1 hown0 (Ex.setRow w g _) _ ⟨by rw [g0, hnewlen], g1, vs.take ((off + nn) * τ.w) ++ us ++ vs.drop ((off + nn) * τ.w + us.length), ?_, ?_⟩ (fun c hc => by simpa [foot, own, k1, eq_comm] using hc) (fun c hc => by simpa [own, k1, eq_comm] using hc)
             ·rw [xDH, xDH, xDd, xDe];refine DenL.app (DenL.app (g2.take _) s2) ?_;rw [hul, hsz, <- Nat.add_mul];exact g2.drop _
             ·rw [hnewlen];refine ⟨?_, hcap, g3.2.2.1, .inr ⟨g, og, _, k1, setRow_heap _ _ _ _ _ _ k2, ?_, ?_⟩⟩
              ·rw [List.length_append, List.length_append, List.length_take, List.length_drop, g3.1, hul, hsz, Nat.add_mul]; omega
              ·simp only [List.size_toArray, List.length_append, List.length_take, List.length_drop, Array.length_toList];rw [hul, hsz]; omega
              ·have hpl := xEr cur.toList us og ((off + nn) * τ.w) (xs.length * τ.w) (by rw [hul, hsz, <- Nat.add_mul]; exact hall) (by simp only [Array.length_toList]; omega);rw [k4] at hpl;rw [<- hpl, hsz];simp only [Nat.add_mul, Nat.add_assoc]
            ·rw [List.mem_singleton] at hb;subst hb;exact ⟨id, by simp, _, i, hr, h1, hown0⟩
       ·trivial
     ·trivial
    ·rename_i y hs hy
     cases hc1 : (Nat.beq inf.size (xBo P 20 e).w && Nat.ble 1 inf.size) with
     | false => trivial
     | true =>
      simp only [Bool.and_eq_true] at hc1;have hsz := nbT hc1.1;have hpos := Nat.le_of_ble_eq_true hc1.2;simp only [cond_true];split
      ·rename_i ys hys;obtain ⟨a2, c2, us, s1, s2, s3⟩ := xKA hh (xAb hK hy) hys;have h2 : a.eval s = .slice none 0 0 := (xAb hK hs).1;have hul : us.length = ys.length * inf.size := by rw [s2.len, xCU, hsz]
       intro hg;obtain ⟨hlen, hlb⟩ := xSQ hsm hg.1;have hbytes : ∀ q : Nat, q <= 0 + ys.length -> q * inf.bytes <= 140737488355328 := fun q hq => Nat.le_trans (Nat.mul_le_mul_right _ hq) hlb;rcases Nat.eq_zero_or_pos ys.length with hm | hm
       ·have hy0 : ys = [] := List.length_eq_zero_iff.1 hm;subst hy0;have hu0 : us = [] := List.eq_nil_of_length_eq_zero (by simpa using hul);subst hu0;have hrun := run_append_nothing (P := P) (w := w) (ty := o.type) hd hi none a2 0 0 c2 (Nat.le_refl _);rw [hsz];exact xFB hh (by omega) s2 (xBJ ho (by rw [h2, s1]; exact hrun)) (World.ownsRow_nil w _ e _) (Ex.refl _ _)
       ·obtain ⟨b2, o2, s4, s5⟩ := s3 hm;subst s4;obtain ⟨v', w', hrun, r1, r2, _⟩ := run_append_own (P := P) w w.heap.size t o.type e inf zv inf.size inf.bytes hd hi hzv rfl rfl hzs (by omega) (.slice none 0 0) 0 [] (World.ownsRow_nil w _ e inf.size) ⟨b2, o2, none⟩ ys.length c2 us hul (fun j u hu => by rw [Addr.add_lit]; exact s5 j u hu) s2.ones (by unfold maxLen; omega) (hbytes _ (by omega)) (Nat.le_refl _);rw [hsz] at r1 ⊢;exact xFB hh (by omega) s2 (xBJ ho (by rw [h2, s1]; exact hrun)) (by simpa using r1) (Ex.of_grown r2)
      ·trivial
    ·trivial
  ·trivial
 ·trivial
end
end Go.Proofs.YthmicafabimfkaaGreatDoor
