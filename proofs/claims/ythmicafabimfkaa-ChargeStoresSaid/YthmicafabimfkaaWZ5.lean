/- Operations that change memory, on data. No condition. -/
import Derived.Test.YthmicafabimfkaaWZ4
namespace Go.Proofs.Ythmicafabimfkaa
noncomputable section
open Go.RowKit
def tcEq : TC → TC → Bool
  | .int k, .int k' => Nat.beq (kix k) (kix k')
  | .bool, .bool => true
  | .str, .str => true
  | .cv, .cv => true
  | .nil, .nil => true
  | .er, .er => true
  | .rf q t, .rf q' t' => Nat.beq q q' && Nat.beq t t'
  | .pair a b, .pair c d => tcEq a c && tcEq b d
  | _, _ => false
theorem tcEq_ok : ∀ {a b : TC}, tcEq a b = true → a = b
  | .int k, b, h => by
    cases b <;> simp only [tcEq] at h <;> first | cases h | rw [kix_inj h]
  | .bool, b, h => by cases b <;> first | rfl | cases h
  | .str, b, h => by cases b <;> first | rfl | cases h
  | .cv, b, h => by cases b <;> first | rfl | cases h
  | .nil, b, h => by cases b <;> first | rfl | cases h
  | .er, b, h => by cases b <;> first | rfl | cases h
  | .rf q t, b, h => by
    cases b with
    | rf q' t' =>
      simp only [tcEq, Bool.and_eq_true] at h
      rw [Nat.eq_of_beq_eq_true h.1, Nat.eq_of_beq_eq_true h.2]
    | _ => cases h
  | .pair x y, b, h => by
    cases b with
    | pair c d =>
      simp only [tcEq, Bool.and_eq_true] at h
      rw [tcEq_ok h.1, tcEq_ok h.2]
    | _ => cases h
def tcPairs : List TC → TC
  | [] => .nil
  | [a] => a
  | a :: b :: r => .pair a (tcPairs (b :: r))
def tcOf (P : Program) : Nat → TypeId → TC
  | 0, _ => .cv
  | d + 1, t => match P.underlying t with
    | some (.int k) => .int k
    | some .bool => .bool
    | some .string => .str
    | some (.struct fs) => tcPairs (fs.toList.map (fun f => tcOf P d f.type))
    | some (.array n e) => tcPairs (List.replicate n (tcOf P d e))
    | _ => match refOf t with
      | some (q, k) => .rf q k
      | none => .cv
/-- References as plain cells. -/
def rawTC : TC → TC
  | .rf _ _ => .cv
  | .pair a b => .pair (rawTC a) (rawTC b)
  | τ => τ
def decAll (τ : TC) : Nat → List CV → Option (List τ.ty)
  | 0, l => match l with
    | [] => some []
    | _ :: _ => none
  | n + 1, l => match τ.dec l with
    | some (x, r) => match decAll τ n r with
      | some xs => some (x :: xs)
      | none => none
    | none => none
theorem decAll_ok {τ : TC} : ∀ {n : Nat} {l : List CV} {xs : List τ.ty}, decAll τ n l = some xs → l = flat τ xs ∧ xs.length = n
  | 0, l, xs, h => by
    simp only [decAll] at h
    split at h
    · cases h; exact ⟨rfl, rfl⟩
    · cases h
  | n + 1, l, xs, h => by
    simp only [decAll] at h
    split at h
    · rename_i x r hx
      split at h
      · rename_i ys hy
        cases h
        obtain ⟨h1, h2⟩ := decAll_ok hy
        exact ⟨by rw [TC.dec_enc τ l x r hx, h1]; rfl, by simp [h2]⟩
      · cases h
    · cases h
def repL : Nat → List CV → List CV
  | 0, _ => []
  | n + 1, z => z ++ repL n z
def partOf (τ τ' : TC) (ys : List τ'.ty) (k off : Nat) (n : Option Nat) : Option (List τ.ty) :=
  if e : tcEq τ' τ = true then bif Nat.beq k τ'.w then match n with
      | none => some (tcEq_ok e ▸ ys.drop off)
      | some m => some (tcEq_ok e ▸ (ys.drop off).take m)
    else none
  else none
/-- The elements of a part of a slice. -/
def srcOf (τ : TC) (h : List Root) : PV → Option (List τ.ty)
  | .c (.sl id k off n _) => match h[id]? with
    | some (.rows _ τ' ys) => partOf τ τ' ys k off n
    | some (.ro τ' ys) => partOf τ τ' ys k off n
    | _ => none
  | .c (.rf 1 t n) => match findAr t h 0 with
    | some (_, .arr _ τ' os) => if e : tcEq τ' τ = true then some (tcEq_ok e ▸ rrAt os n) else none
    | _ => none
  | .c (.sc (.slice _ 0 _)) => some []
  | _ => none
def lenOk (n m : Nat) : Bool := decide (n + m ≤ 1000000)
def lenOk2 (n m : Nat) : Bool := decide ((n + m) * 104 ≤ 140737488355328)
def lenG (b n m : Nat) : Bool := bif Nat.beq b 104 then lenOk2 n m else lenOk n m
def smallB (bytes : Nat) : Bool := Nat.ble (1000000 * bytes) 140737488355328
def appendP (P : Program) (K : Slo) (h : List Root) (t : TypeId) (s x : Operand) : Step :=
  match P.underlying t with
  | some (.slice e) => match P.info? e, zeroL P e with
    | some inf, some z => bif Nat.beq z.length inf.size && smallB inf.bytes then match evalP K s, evalP K x with
        | some (.c (.sl id k off n none)), some y => match h[id]? with
          | some (.rows T τ xs) => bif Nat.beq T e && Nat.beq k τ.w && Nat.beq inf.size τ.w then match srcOf τ h y with
              | some ys => match n with
                | none => .mem [lenG inf.bytes (xs.length - off) ys.length] (.c (.sl h.length k 0 none none)) (h.set id .dead ++ [.rows T τ (xs.drop off ++ ys)]) [id]
                | some n0 => .mem [Nat.ble (off + n0 + ys.length) xs.length] (.c (.sl id k off (some (n0 + ys.length)) none)) (h.set id (.rows T τ (xs.take (off + n0) ++ ys ++ xs.drop (off + n0 + ys.length)))) [id]
              | none => .stuck
            else .stuck
          | _ => .stuck
        | some (.c (.sc (.slice none 0 0))), some y => bif Nat.beq inf.size (tcOf P 20 e).w && Nat.ble 1 inf.size then match srcOf (tcOf P 20 e) h y with
            | some ys => .mem [lenG inf.bytes 0 ys.length] (.c (.sl h.length inf.size 0 none none)) (h ++ [.rows e (tcOf P 20 e) ys]) []
            | none => .stuck
          else .stuck
        | _, _ => .stuck
      else .stuck
    | _, _ => .stuck
  | _ => .stuck
def capsP (K : Slo) : List Operand → Option (List CV)
  | [] => some []
  | x :: r => match evalP K x, capsP K r with
    | some (.c y), some l => some (y :: l)
    | _, _ => none
def argsP (K : Slo) : List Operand → Option (List PV)
  | [] => some []
  | x :: r => match evalP K x, argsP K r with
    | some y, some l => some (y :: l)
    | _, _ => none
def callable (P : Program) (f : FuncId) : Bool :=
  match P.funcs[f]? with
  | some fn => fn.body.isSome && fn.name != "runtime.NumGoroutine"
  | none => false
/-- Whether a function is the library's Sub64, for which the model stands in. -/
def isSub64 (P : Program) (f : FuncId) : Bool :=
  match P.funcs[f]? with
  | some fn => fn.body.isNone && (fn.name == "math/bits.Sub64") && (fn.origin == "")
  | none => false
def subP (l : List PV) (h : List Root) : Step :=
  match l with
  | [.c (.sc (.int .u64 x)), .c (.sc (.int .u64 y)), .c (.sc (.int .u64 b))] =>
    .mem [decide (0 ≤ x), decide (0 ≤ y), decide (0 ≤ b), decide (b ≤ 1)] (.tu [(false, [.sc (.int .u64 (((x.toNat + 18446744073709551616 - y.toNat - b.toNat) % 18446744073709551616 : Nat) : Int))]), (false, [.sc (.int .u64 ((bif decide (x.toNat < y.toNat + b.toNat) then 1 else 0 : Nat) : Int))])]) h []
  | _ => .stuck
def callP (P : Program) (K : Slo) (h : List Root) (f : Operand) (args : List Operand) : Step :=
  match argsP K args with
  | some l => match evalP K f with
    | some (.c (.sc (.func (.func g) ⟨[]⟩ ⟨[]⟩))) => bif callable P g then .call g l else (bif isSub64 P g then subP l h else .stuck)
    | some (.c (.hv id)) => match h[id]? with
      | some (.clo g fs cs) => bif callable P g then .call g (fs.map .c ++ l ++ cs.map .c) else .stuck
      | _ => .stuck
    | _ => .stuck
  | none => .stuck
def sameT : Operand → Operand → Bool
  | .tmp a, .tmp b => Nat.beq a b
  | _, _ => false
theorem sameT_eq {l c : Operand} (h : sameT l c = true) : l = c := by
  unfold sameT at h
  split at h
  · rw [Nat.eq_of_beq_eq_true h]
  · cases h
def makeP (P : Program) (K : Slo) (h : List Root) (t : TypeId) (l c : Operand) : Step :=
  match P.underlying t with
  | some (.slice e) => match P.info? e, zeroL P e with
    | some inf, some z => bif Nat.beq z.length inf.size && smallB inf.bytes && Nat.beq inf.size (tcOf P 20 e).w && Nat.ble 1 inf.size then
        match evalP K l, evalP K c, (tcOf P 20 e).dec1 (nilCs (tcOf P 20 e).leaves z) with
        | some (.c (.sc (.int .i64 x))), some (.c (.sc (.int .i64 y))), some z0 => bif sameT l c then .mem [decide (0 ≤ x) && decide (x ≤ 1000000)] (.c (.sl h.length inf.size 0 none none)) (h ++ [.rows e (tcOf P 20 e) (List.replicate x.toNat z0)]) [] else match x with
          | .ofNat 0 => .mem [decide (0 ≤ y) && decide (y ≤ 1000000)] (.c (.sl h.length inf.size 0 none none)) (h ++ [.rows e (tcOf P 20 e) []]) []
          | _ => .stuck
        | _, _, _ => .stuck
      else .stuck
    | _, _ => .stuck
  | _ => .stuck
def buildSliceP (P : Program) (K : Slo) (h : List Root) (t : TypeId) (n : Nat) (parts : Array (Nat × Operand)) : Step :=
  match P.underlying t with
  | some (.slice e) => match P.info? e, zeroL P e, partsP K parts.toList with
    | some inf, some z, some ps => bif Nat.beq z.length inf.size && Nat.beq inf.size (tcOf P 20 e).w && Nat.ble 1 inf.size && Nat.ble (n * inf.size) 16777216 then
        match fillP (fun i => some (i * inf.size, inf.size)) (repL n z) ps with
        | some cs => match decAll (tcOf P 20 e) n (nilCs (List.replicate n (tcOf P 20 e).leaves).flatten cs) with
          | some xs => .mem [] (.c (.sl h.length inf.size 0 none none)) (h ++ [.rows e (tcOf P 20 e) xs]) []
          | none => bif Nat.beq (rawTC (tcOf P 20 e)).w (tcOf P 20 e).w then match decAll (rawTC (tcOf P 20 e)) n cs with
            | some xs => .mem [] (.c (.sl h.length inf.size 0 none none)) (h ++ [.rows e (rawTC (tcOf P 20 e)) xs]) []
            | none => .stuck
            else .stuck
        | none => .stuck
      else .stuck
    | _, _, _ => .stuck
  | _ => .stuck
def compP : PV → Option (Bool × List CV)
  | .c x => some (false, [x])
  | .ag l => some (true, l)
  | _ => none
/-- Texts by their bytes. -/
def bltL : List UInt8 → List UInt8 → Bool
  | [], m => match m with
    | [] => false
    | _ :: _ => true
  | a :: l, m => match m with
    | [] => false
    | b :: m => bif Nat.beq a.toNat b.toNat then bltL l m else Nat.ble (a.toNat + 1) b.toNat
def KK.ltb : (κ : KK) → κ.ty → κ.ty → Bool
  | .i _, a, b => decide (a < b)
  | .s, a, b => bltL a.data.toList b.data.toList
def setK (κ : KK) {α : Type} (n : κ.ty) (x : α) (ts : List (κ.ty × α)) : List (κ.ty × α) := ts.map (fun e => bif κ.eqb n e.1 then (e.1, x) else e)
def addK (κ : KK) {α : Type} (n : κ.ty) (x : α) : List (κ.ty × α) → List (κ.ty × α)
  | [] => [(n, x)]
  | e :: r => bif κ.ltb n e.1 then (n, x) :: e :: r else e :: addK κ n x r
/-- An entry is changed, or put in. -/
def insK (κ : KK) {α : Type} (n : κ.ty) (x : α) (ts : List (κ.ty × α)) : List (κ.ty × α) := bif hasK κ n ts then setK κ n x ts else addK κ n x ts
def delK (κ : KK) {α : Type} (n : κ.ty) (ts : List (κ.ty × α)) : List (κ.ty × α) := ts.filter (fun e => !κ.eqb n e.1)
def kkEq : KK → KK → Bool
  | .i k, .i k' => Nat.beq (kix k) (kix k')
  | .s, .s => true
  | _, _ => false
theorem kkEq_ok {a b : KK} (h : kkEq a b = true) : a = b := by
  cases a <;> cases b <;> first | (cases h; done) | rfl | (rw [kix_inj h])
def castM {κ κ' : KK} {τ τ' : TC} (e1 : κ = κ') (e2 : τ = τ') (ts : List (κ.ty × τ.ty)) : List (κ'.ty × τ'.ty) := e1 ▸ e2 ▸ ts
/-- A map becomes another. -/
def mpPut (h : List Root) (pl : MPl) (κ : KK) (agg : Bool) (τ : TC) (ts : List (κ.ty × τ.ty)) : Option (List Root) :=
  match pl with
  | .root id => some (h.set id (.mp κ agg τ ts))
  | .ar p n => match h[p]? with
    | some (.arm t κ' agg' τ' os) => if e1 : kkEq κ κ' = true then if e : tcEq τ τ' = true then some (h.set p (.arm t κ' agg' τ' (setRowAt os n (castM (kkEq_ok e1) (tcEq_ok e) ts)))) else none else none
    | _ => none
def wrG : MPl → List Bool
  | .root _ => []
  | .ar _ n => [!Nat.beq n 0]
def valT (agg : Bool) (τ : TC) : PV → Option τ.ty
  | .c x => bif agg then none else τ.dec1 (nilCs τ.leaves [x])
  | .ag l => bif agg then τ.dec1 (nilCs τ.leaves l) else none
  | _ => none
def makeMapP (P : Program) (K : Slo) (h : List Root) (t : TypeId) (r : Option Operand) : Step :=
  match P.underlying t with
  | some (.map kt et) => match kkOf P kt, P.underlying et with
    | some κ, some d => match r with
      | none => .mem [] (.c (.hv h.length)) (h ++ [.mp κ (isAggD d) (tcOf P 20 et) []]) []
      | some x => match evalP K x with
        | some (.c (.sc (.int _ _))) => .mem [] (.c (.hv h.length)) (h ++ [.mp κ (isAggD d) (tcOf P 20 et) []]) []
        | _ => .stuck
    | _, _ => .stuck
  | _ => .stuck
def memS (g : List Bool) (v : PV) (t : List Nat) : Option (List Root) → Step
  | some h' => .mem g v h' t
  | none => .stuck
def mapSetP (P : Program) (K : Slo) (h : List Root) (t : TypeId) (m x y : Operand) : Step :=
  match P.underlying t, evalP K m, evalP K x, evalP K y with
  | some (.map kt _), some (.c c), some (.c (.sc kv)), some v => match P.underlying kt, mpAt h c with
    | some d, some ⟨g, pl, κ, agg, τ, ts⟩ => bif κ.fits d then match keyOf κ kv, valT agg τ v with
        | some n, some z => memS (wrG pl ++ g) .un [pl.id] (mpPut h pl κ agg τ (insK κ n z ts))
        | _, _ => .stuck
      else .stuck
    | _, _ => .stuck
  | _, _, _, _ => .stuck
def mapDelP (P : Program) (K : Slo) (h : List Root) (t : TypeId) (m x : Operand) : Step :=
  match P.underlying t, evalP K m, evalP K x with
  | some (.map kt _), some (.c c), some (.c (.sc kv)) => match P.underlying kt, mpAt h c with
    | some d, some ⟨g, pl, κ, agg, τ, ts⟩ => bif κ.fits d then match keyOf κ kv with
        | some n => memS (wrG pl ++ g) (.tu []) [pl.id] (mpPut h pl κ agg τ (delK κ n ts))
        | none => .stuck
      else .stuck
    | _, _ => .stuck
  | _, _, _ => .stuck
/-- clear of a part of a slice of the call's own. -/
def clearP (P : Program) (K : Slo) (h : List Root) (t : TypeId) (x : Operand) : Step :=
  match P.underlying t with
  | some (.slice e) => match P.info? e, zeroL P e with
    | some inf, some z => match evalP K x with
      | some (.c (.sl id k off (some n) none)) => match h[id]? with
        | some (.rows T τ xs) => bif Nat.beq z.length inf.size && Nat.beq k τ.w && Nat.beq inf.size τ.w then match τ.dec1 (nilCs τ.leaves z) with
            | some z0 => .mem [Nat.ble (off + n) xs.length] (.tu []) (h.set id (.rows T τ (xs.take off ++ List.replicate n z0 ++ xs.drop (off + n)))) [id]
            | none => .stuck
          else .stuck
        | _ => .stuck
      | _ => .stuck
    | _, _ => .stuck
  | _ => .stuck
/-- A part with a capacity that is told: no more is known of it. -/
def slice3P (P : Program) (K : Slo) (h : List Root) (t : TypeId) (x lo hi mx : Operand) : Step :=
  match P.underlying t, evalP K x with
  | some (.slice e), some (.c (.sl id _ off n _)) => match P.info? e, lenP h id off n with
    | some _, some n0 => match evalP K lo, evalP K hi, evalP K mx with
      | some (.c (.sc (.int _ l))), some (.c (.sc (.int _ u))), some (.c (.sc (.int _ m))) => .mem [inC m n0, inC u m.toNat, inC l u.toNat] (.c (.hv h.length)) (h ++ [.dead]) []
      | _, _, _ => .stuck
    | _, _ => .stuck
  | _, _ => .stuck
def dstLen (len off : Nat) : Option Nat → Nat
  | none => len - off
  | some m => m
/-- Elements go over from one slice to a part of the call's own. -/
def copyP (P : Program) (K : Slo) (h : List Root) (t : TypeId) (x y : Operand) : Step :=
  match P.underlying t with
  | some (.slice e) => match P.info? e, evalP K y with
    | some inf, some q => match evalP K x with
      | some (.c (.sl id k off n none)) => match h[id]? with
        | some (.rows T τ xs) => bif Nat.beq k τ.w && Nat.beq inf.size τ.w && Nat.beq inf.size 1 then match srcOf τ h q with
            | some ys => .mem [] (.c (.sc (.int .i64 ((ys.take (dstLen xs.length off n)).length : Nat)))) (h.set id (.rows T τ (xs.take off ++ ys.take (dstLen xs.length off n) ++ xs.drop (off + (ys.take (dstLen xs.length off n)).length)))) [id]
            | none => .stuck
          else .stuck
        | _ => .stuck
      | _ => .stuck
    | _, _ => .stuck
  | _ => .stuck
/-- An operation that changes memory, or calls. -/
def stepM0 (P : Program) (K : Slo) (h : List Root) (o : Oper) : Step :=
  match o.op with
  | .alloc T => match zeroL P T with
    | some cs => .mem [] (.c (.pt h.length 0 0 0)) (h ++ [.blk cs T]) []
    | none => .stuck
  | .box T x => match (evalP K x).bind cellsP with
    | some cs => .mem [] (.c (.pt h.length 0 0 0)) (h ++ [.blk cs T]) []
    | none => .stuck
  | .store t x y => match evalP K x, (evalP K y).bind cellsP, P.info? t with
    | some (.c (.pt id k row j)), some cs, some inf => bif Nat.beq cs.length inf.size then match h[id]? with
        | some r => match rootSet r k row j cs with
          | some r' => .mem [] .un (h.set id r') [id]
          | none => .stuck
        | none => .stuck
      else .stuck
    | some (.c x'), some cs, some inf => bif Nat.beq cs.length inf.size then match rpOf x' with
        | some (t', n, k, row, j) => match findAr t' h 0 with
          | some (p, r) => match arSet r n k row j cs with
            | some (g, r') => .mem [g] .un (h.set p r') [p]
            | none => .stuck
          | none => .stuck
        | none => .stuck
      else .stuck
    | _, _, _ => .stuck
  | .makeFunc (.func f) ⟨fs⟩ ⟨cs⟩ => match capsP K fs, capsP K cs with
    | some a, some b => .mem [] (.c (.hv h.length)) (h ++ [.clo f a b]) []
    | _, _ => .stuck
  | .buildSlice t n parts => buildSliceP P K h t n parts
  | .makeSlice t l c => makeP P K h t l c
  | .call ⟨.builtin .append, ⟨[s, x]⟩, ⟨[t, t']⟩⟩ => bif Nat.beq t t' then appendP P K h t s x else .stuck
  | .call ⟨.value f, ⟨args⟩, _⟩ => callP P K h f args
  | .makeMap t r => makeMapP P K h t r
  | .call ⟨.builtin .clear, ⟨[x]⟩, ⟨[t]⟩⟩ => clearP P K h t x
  | .call ⟨.builtin .copy, ⟨[x, y]⟩, ⟨[t, _]⟩⟩ => copyP P K h t x y
  | .mapUpdate t m x y => mapSetP P K h t m x y
  | .insert t m x y => mapSetP P K h t m x y
  | .slice t x (some lo) (some hi) (some mx) => slice3P P K h t x lo hi mx
  | .call ⟨.builtin .delete, ⟨[m, x]⟩, ⟨t :: _⟩⟩ => mapDelP P K h t m x
  | _ => .stuck
end
end Go.Proofs.Ythmicafabimfkaa
