/- Operations that change memory, on data. No condition. -/
import Derived.Test.YtcbbhiobibhdnaaDoorWZ4
namespace Go.Proofs.YtcbbhiobibhdnaaDoor
noncomputable section
open Go.RowKit
def xIk : TC → TC → Bool
 | .int k, .int k' => Nat.beq (kix k) (kix k')
 | .bool, .bool => true
 | .str, .str => true
 | .cv, .cv => true
 | .nil, .nil => true
 | .er, .er => true
 | .rf q t, .rf q' t' => Nat.beq q q' && Nat.beq t t'
 | .pair a b, .pair c d => xIk a c && xIk b d
 | _, _ => false
theorem xAY : ∀ {a b : TC}, xIk a b = true → a = b
 | .int k, b, h => by
  cases b <;> simp only [xIk] at h <;> first | cases h | rw [xBY h]
 | .bool, b, h => by cases b <;> first | rfl | cases h
 | .str, b, h => by cases b <;> first | rfl | cases h
 | .cv, b, h => by cases b <;> first | rfl | cases h
 | .nil, b, h => by cases b <;> first | rfl | cases h
 | .er, b, h => by cases b <;> first | rfl | cases h
 | .rf q t, b, h => by
  cases b with
  | rf q' t' =>
   simp only [xIk, Bool.and_eq_true] at h
   rw [Nat.eq_of_beq_eq_true h.1, Nat.eq_of_beq_eq_true h.2]
  | _ => cases h
 | .pair x y, b, h => by
  cases b with
  | pair c d =>
   simp only [xIk, Bool.and_eq_true] at h
   rw [xAY h.1, xAY h.2]
  | _ => cases h
def xDE : List TC → TC
 | [] => .nil
 | [a] => a
 | a :: b :: r => .pair a (xDE (b :: r))
def xBE (P : Program) : Nat → TypeId → TC
 | 0, _ => .cv
 | d + 1, t => match P.underlying t with
  | some (.int k) => .int k
  | some .bool => .bool
  | some .string => .str
  | some (.struct fs) => xDE (fs.toList.map (fun f => xBE P d f.type))
  | some (.array n e) => xDE (List.replicate n (xBE P d e))
  | _ => match refOf t with
   | some (q, k) => .rf q k
   | none => .cv
/-- References as plain cells. -/
def xL2 : TC → TC
 | .rf _ _ => .cv
 | .pair a b => .pair (xL2 a) (xL2 b)
 | τ => τ
def xFp (τ : TC) : Nat → List CV → Option (List τ.ty)
 | 0, l => match l with
  | [] => some []
  | _ :: _ => none
 | n + 1, l => match τ.dec l with
  | some (x, r) => match xFp τ n r with
   | some xs => some (x :: xs)
   | none => none
  | none => none
theorem xFo {τ : TC} : ∀ {n : Nat} {l : List CV} {xs : List τ.ty}, xFp τ n l = some xs → l = flat τ xs ∧ xs.length = n
 | 0, l, xs, h => by
  simp only [xFp] at h
  split at h
  ·cases h; exact ⟨rfl, rfl⟩
  ·cases h
 | n + 1, l, xs, h => by
  simp only [xFp] at h
  split at h
  ·rename_i x r hx
   split at h
   ·rename_i ys hy
    cases h
    obtain ⟨h1, h2⟩ := xFo hy
    exact ⟨by rw [TC.dec_enc τ l x r hx, h1]; rfl, by simp [h2]⟩
   ·cases h
  ·cases h
def repL : Nat → List CV → List CV
 | 0, _ => []
 | n + 1, z => z ++ repL n z
def partOf (τ τ' : TC) (ys : List τ'.ty) (k off : Nat) (n : Option Nat) : Option (List τ.ty) :=
 if e : xIk τ' τ = true then bif Nat.beq k τ'.w then match n with
   | none => some (xAY e ▸ ys.drop off)
   | some m => some (xAY e ▸ (ys.drop off).take m)
  else none
 else none
/-- The elements of a part of a slice. -/
def xPf (τ : TC) (h : List Root) : PV → Option (List τ.ty)
 | .c (.sl id k off n _) => match h[id]? with
  | some (.rows _ τ' ys) => partOf τ τ' ys k off n
  | some (.ro τ' ys) => partOf τ τ' ys k off n
  | _ => none
 | .c (.sc (.slice _ 0 _)) => some []
 | _ => none
def xB6 (n m : Nat) : Bool := decide (n + m ≤ 1000000)
def xCP (n m : Nat) : Bool := decide ((n + m) * 104 ≤ 140737488355328)
def lenG (b n m : Nat) : Bool := bif Nat.beq b 104 then xCP n m else xB6 n m
def xIF (bytes : Nat) : Bool := Nat.ble (1000000 * bytes) 140737488355328
def xMP (P : Program) (K : Slo) (h : List Root) (t : TypeId) (s x : Operand) : Step :=
 match P.underlying t with
 | some (.slice e) => match P.info? e, xIm P e with
  | some inf, some z => bif Nat.beq z.length inf.size && xIF inf.bytes then match xAt K s, xAt K x with
    | some (.c (.sl id k off n none)), some y => match h[id]? with
     | some (.rows T τ xs) => bif Nat.beq T e && Nat.beq k τ.w && Nat.beq inf.size τ.w then match xPf τ h y with
       | some ys => match n with
        | none => .mem [lenG inf.bytes (xs.length - off) ys.length] (.c (.sl h.length k 0 none none)) (h.set id .dead ++ [.rows T τ (xs.drop off ++ ys)]) [id]
        | some n0 => .mem [Nat.ble (off + n0 + ys.length) xs.length] (.c (.sl id k off (some (n0 + ys.length)) none)) (h.set id (.rows T τ (xs.take (off + n0) ++ ys ++ xs.drop (off + n0 + ys.length)))) [id]
       | none => .stuck
      else .stuck
     | _ => .stuck
    | some (.c (.sc (.slice none 0 0))), some y => bif Nat.beq inf.size (xBE P 20 e).w && Nat.ble 1 inf.size then match xPf (xBE P 20 e) h y with
      | some ys => .mem [lenG inf.bytes 0 ys.length] (.c (.sl h.length inf.size 0 none none)) (h ++ [.rows e (xBE P 20 e) ys]) []
      | none => .stuck
     else .stuck
    | _, _ => .stuck
   else .stuck
  | _, _ => .stuck
 | _ => .stuck
def xRq (K : Slo) : List Operand → Option (List CV)
 | [] => some []
 | x :: r => match xAt K x, xRq K r with
  | some (.c y), some l => some (y :: l)
  | _, _ => none
def xOO (K : Slo) : List Operand → Option (List PV)
 | [] => some []
 | x :: r => match xAt K x, xOO K r with
  | some y, some l => some (y :: l)
  | _, _ => none
def xBb (P : Program) (f : FuncId) : Bool :=
 match P.funcs[f]? with
 | some fn => fn.body.isSome && fn.name != "runtime.NumGoroutine"
 | none => false
/-- Whether a function is the library's Sub64, for which the model stands in. -/
def xHy (P : Program) (f : FuncId) : Bool :=
 match P.funcs[f]? with
 | some fn => fn.body.isNone && (fn.name == "math/bits.Sub64") && (fn.origin == "")
 | none => false
def subP (l : List PV) (h : List Root) : Step :=
 match l with
 | [.c (.sc (.int .u64 x)), .c (.sc (.int .u64 y)), .c (.sc (.int .u64 b))] =>
  .mem [decide (0 ≤ x), decide (0 ≤ y), decide (0 ≤ b), decide (b ≤ 1)] (.tu [(false, [.sc (.int .u64 (((x.toNat + 18446744073709551616 - y.toNat - b.toNat) % 18446744073709551616 : Nat) : Int))]), (false, [.sc (.int .u64 ((bif decide (x.toNat < y.toNat + b.toNat) then 1 else 0 : Nat) : Int))])]) h []
 | _ => .stuck
def callP (P : Program) (K : Slo) (h : List Root) (f : Operand) (args : List Operand) : Step :=
 match xOO K args with
 | some l => match xAt K f with
  | some (.c (.sc (.func (.func g) ⟨[]⟩ ⟨[]⟩))) => bif xBb P g then .call g l else (bif xHy P g then subP l h else .stuck)
  | some (.c (.hv id)) => match h[id]? with
   | some (.clo g fs cs) => bif xBb P g then .call g (fs.map .c ++ l ++ cs.map .c) else .stuck
   | _ => .stuck
  | _ => .stuck
 | none => .stuck
def xOi : Operand → Operand → Bool
 | .tmp a, .tmp b => Nat.beq a b
 | _, _ => false
theorem xNa {l c : Operand} (h : xOi l c = true) : l = c := by
 unfold xOi at h
 split at h
 ·rw [Nat.eq_of_beq_eq_true h]
 ·cases h
def xOt (P : Program) (K : Slo) (h : List Root) (t : TypeId) (l c : Operand) : Step :=
 match P.underlying t with
 | some (.slice e) => match P.info? e, xIm P e with
  | some inf, some z => bif Nat.beq z.length inf.size && xIF inf.bytes && Nat.beq inf.size (xBE P 20 e).w && Nat.ble 1 inf.size then
    match xAt K l, xAt K c, (xBE P 20 e).dec1 (xDA (xBE P 20 e).leaves z) with
    | some (.c (.sc (.int .i64 x))), some (.c (.sc (.int .i64 y))), some z0 => bif xOi l c then .mem [decide (0 ≤ x) && decide (x ≤ 1000000)] (.c (.sl h.length inf.size 0 none none)) (h ++ [.rows e (xBE P 20 e) (List.replicate x.toNat z0)]) [] else match x with
     | .ofNat 0 => .mem [decide (0 ≤ y) && decide (y ≤ 1000000)] (.c (.sl h.length inf.size 0 none none)) (h ++ [.rows e (xBE P 20 e) []]) []
     | _ => .stuck
    | _, _, _ => .stuck
   else .stuck
  | _, _ => .stuck
 | _ => .stuck
def xCa (P : Program) (K : Slo) (h : List Root) (t : TypeId) (n : Nat) (parts : Array (Nat × Operand)) : Step :=
 match P.underlying t with
 | some (.slice e) => match P.info? e, xIm P e, xKV K parts.toList with
  | some inf, some z, some ps => bif Nat.beq z.length inf.size && Nat.beq inf.size (xBE P 20 e).w && Nat.ble 1 inf.size && Nat.ble (n * inf.size) 16777216 then
    match xMm (fun i => some (i * inf.size, inf.size)) (repL n z) ps with
    | some cs => match xFp (xBE P 20 e) n (xDA (List.replicate n (xBE P 20 e).leaves).flatten cs) with
     | some xs => .mem [] (.c (.sl h.length inf.size 0 none none)) (h ++ [.rows e (xBE P 20 e) xs]) []
     | none => bif Nat.beq (xL2 (xBE P 20 e)).w (xBE P 20 e).w then match xFp (xL2 (xBE P 20 e)) n cs with
      | some xs => .mem [] (.c (.sl h.length inf.size 0 none none)) (h ++ [.rows e (xL2 (xBE P 20 e)) xs]) []
      | none => .stuck
      else .stuck
    | none => .stuck
   else .stuck
  | _, _, _ => .stuck
 | _ => .stuck
def compP : PV → Option (Bool × List CV)
 | .c x => some (false, [x])
 | .ag l => some (true, l)
 | _ => none
def updE (n : Int) (cl : Nat) (b : Bool) (l : List CV) : List (Int × Nat × Bool × List CV) → List (Int × Nat × Bool × List CV)
 | [] => [(n, cl, b, l)]
 | (m, c, b', l') :: r => bif n == m then (n, c, b, l) :: r else (m, c, b', l') :: updE n cl b l r
def delE (n : Int) : List (Int × Nat × Bool × List CV) → List (Int × Nat × Bool × List CV)
 | [] => []
 | (m, c, b', l') :: r => bif n == m then r else (m, c, b', l') :: delE n r
def xOM (n : Int) : List (Int × Nat × Bool × List CV) → Option Nat
 | [] => none
 | (m, c, _, _) :: r => bif n == m then some c else xOM n r
/-- The entry that was made at some time gets its value. -/
def xKG (s : Int) (b : Bool) (l : List CV) : List (Int × Nat × Bool × List CV) → Option (List (Int × Nat × Bool × List CV))
 | [] => none
 | (m, c, b', l') :: r => bif (c : Int) == s then some ((m, c, b, l) :: r) else match xKG s b l r with
  | some q => some ((m, c, b', l') :: q)
  | none => none
/-! The same, typed -/
def xFB {α : Type} (n : Int) (cl : Nat) (x : α) : List (Int × Nat × α) → List (Int × Nat × α)
 | [] => [(n, cl, x)]
 | e :: r => bif n == e.1 then (n, e.2.1, x) :: r else e :: xFB n cl x r
def delT {α : Type} (n : Int) : List (Int × Nat × α) → List (Int × Nat × α)
 | [] => []
 | e :: r => bif n == e.1 then r else e :: delT n r
def xML {α : Type} (n : Int) (cl : Nat) : List (Int × Nat × α) → Nat
 | [] => cl
 | e :: r => bif n == e.1 then e.2.1 else xML n cl r
def hasS {α : Type} (s : Int) : List (Int × Nat × α) → Bool
 | [] => false
 | e :: r => bif (e.2.1 : Int) == s then true else hasS s r
def xKE {α : Type} (s : Int) (x : α) : List (Int × Nat × α) → List (Int × Nat × α)
 | [] => []
 | e :: r => bif (e.2.1 : Int) == s then (e.1, e.2.1, x) :: r else e :: xKE s x r
def xCI {α : Type} (n : Int) (cl : Nat) (ts : List (Int × Nat × α)) : Nat := bif xGV n ts then cl else cl + 1
theorem xEO {agg : Bool} {τ : TC} (n : Int) (cl : Nat) (x : τ.ty) : ∀ ts : List (Int × Nat × τ.ty), updE n cl agg (τ.enc x) (xDf agg τ ts) = xDf agg τ (xFB n cl x ts)
 | [] => rfl
 | e :: r => by
  have ih := xEO (agg := agg) n cl x r
  simp only [xDf] at ih
  simp only [xDf, List.map_cons, updE, xFB]
  cases hb : (n == e.1) with
  | true => rfl
  | false => simp only [cond_false, List.map_cons, ih]
theorem xKi {agg : Bool} {τ : TC} (n : Int) : ∀ ts : List (Int × Nat × τ.ty), delE n (xDf agg τ ts) = xDf agg τ (delT n ts)
 | [] => rfl
 | e :: r => by
  have ih := xKi (agg := agg) n r
  simp only [xDf] at ih
  simp only [xDf, List.map_cons, delE, delT]
  cases hb : (n == e.1) with
  | true => rfl
  | false => simp only [cond_false, List.map_cons, ih]
theorem xLF {agg : Bool} {τ : TC} (n : Int) (cl : Nat) : ∀ ts : List (Int × Nat × τ.ty), xOM n (xDf agg τ ts) = bif xGV n ts then some (xML n cl ts) else none
 | [] => rfl
 | e :: r => by
  have ih := xLF (agg := agg) n cl r
  simp only [xDf] at ih
  simp only [xDf, List.map_cons, xOM, xGV, xML]
  cases hb : (n == e.1) with
  | true => rfl
  | false => simp only [cond_false, ih]
theorem xID {agg : Bool} {τ : TC} (s : Int) (x : τ.ty) : ∀ ts : List (Int × Nat × τ.ty), hasS s ts = true → xKG s agg (τ.enc x) (xDf agg τ ts) = some (xDf agg τ (xKE s x ts))
 | [], h => by cases h
 | e :: r, h => by
  have ih := xID (agg := agg) s x r
  simp only [xDf] at ih
  simp only [hasS] at h
  simp only [xDf, List.map_cons, xKG, xKE]
  cases hb : ((e.2.1 : Int) == s) with
  | true => rfl
  | false => rw [hb] at h; simp only [cond_false, List.map_cons, ih h]
/-- A map becomes another. -/
def xL7 (h : List Root) (pl : MPl) (k : IntKind) (agg : Bool) (τ : TC) (cl : Nat) (ts : List (Int × Nat × τ.ty)) : Option (List Root) :=
 match pl with
 | .root id => some (h.set id (.mp k agg τ cl ts))
 | .ar p n => match h[p]? with
  | some (.arm t k' agg' τ' os) => if e : xIk τ τ' = true then some (h.set p (.arm t k' agg' τ' (os.set (n - 1) (cl, xAY e ▸ ts)))) else none
  | _ => none
def valT (agg : Bool) (τ : TC) : PV → Option τ.ty
 | .c x => bif agg then none else τ.dec1 (xDA τ.leaves [x])
 | .ag l => bif agg then τ.dec1 (xDA τ.leaves l) else none
 | _ => none
def xJQ (P : Program) (K : Slo) (h : List Root) (t : TypeId) (r : Option Operand) : Step :=
 match P.underlying t with
 | some (.map kt et) => match P.underlying kt, P.underlying et with
  | some (.int k), some d => match r with
   | none => .mem [] (.c (.hv h.length)) (h ++ [.mp k (xBZ d) (xBE P 20 et) 0 []]) []
   | some x => match xAt K x with
    | some (.c (.sc (.int _ _))) => .mem [] (.c (.hv h.length)) (h ++ [.mp k (xBZ d) (xBE P 20 et) 0 []]) []
    | _ => .stuck
  | _, _ => .stuck
 | _ => .stuck
def memS (g : List Bool) (v : PV) (t : List Nat) : Option (List Root) → Step
 | some h' => .mem g v h' t
 | none => .stuck
def xJP (P : Program) (K : Slo) (h : List Root) (t : TypeId) (m x y : Operand) : Step :=
 match P.underlying t, xAt K m, xAt K x, xAt K y with
 | some (.map kt _), some (.c c), some (.c (.sc (.int k n))), some v => match P.underlying kt, xLK h c with
  | some (.int _), some ⟨g, pl, k', agg, τ, cl, ts⟩ => bif Nat.beq (kix k) (kix k') then match valT agg τ v with
    | some z => memS g .un [pl.id] (xL7 h pl k' agg τ (xCI n cl ts) (xFB n cl z ts))
    | none => .stuck
   else .stuck
  | _, _ => .stuck
 | _, _, _, _ => .stuck
def xMb (P : Program) (K : Slo) (h : List Root) (t : TypeId) (m x : Operand) : Step :=
 match P.underlying t, xAt K m, xAt K x with
 | some (.map kt _), some (.c c), some (.c (.sc (.int k n))) => match P.underlying kt, xLK h c with
  | some (.int _), some ⟨g, pl, k', agg, τ, cl, ts⟩ => bif Nat.beq (kix k) (kix k') then memS g (.tu []) [pl.id] (xL7 h pl k' agg τ cl (delT n ts)) else .stuck
  | _, _ => .stuck
 | _, _, _ => .stuck
def xHr (P : Program) (K : Slo) (h : List Root) (t : TypeId) (m x : Operand) : Step :=
 match P.underlying t, xAt K m, xAt K x with
 | some (.map kt et), some (.c c), some (.c (.sc (.int k n))) => match P.underlying kt, xLK h c with
  | some (.int _), some ⟨g, pl, k', agg, τ, cl, ts⟩ => bif Nat.beq (kix k) (kix k') then match xRU P agg τ et with
    | some z => memS g (.tu [(agg, τ.enc (xAS z n ts)), (false, [.sc (.int .i64 (xML n cl ts))])]) [pl.id] (xL7 h pl k' agg τ (xCI n cl ts) (xFB n cl (xAS z n ts) ts))
    | none => .stuck
   else .stuck
  | _, _ => .stuck
 | _, _, _ => .stuck
def xEH (_P : Program) (K : Slo) (h : List Root) (m x y : Operand) : Step :=
 match xAt K m, xAt K x, xAt K y with
 | some (.c c), some (.c (.sc (.int _ s))), some v => match xLK h c with
  | some ⟨g, pl, k', agg, τ, cl, ts⟩ => match valT agg τ v with
   | some z => memS (hasS s ts :: g) .un [pl.id] (xL7 h pl k' agg τ cl (xKE s z ts))
   | none => .stuck
  | none => .stuck
 | _, _, _ => .stuck
/-- clear of a part of a slice of the call's own. -/
def xRc (P : Program) (K : Slo) (h : List Root) (t : TypeId) (x : Operand) : Step :=
 match P.underlying t with
 | some (.slice e) => match P.info? e, xIm P e with
  | some inf, some z => match xAt K x with
   | some (.c (.sl id k off (some n) none)) => match h[id]? with
    | some (.rows T τ xs) => bif Nat.beq z.length inf.size && Nat.beq k τ.w && Nat.beq inf.size τ.w then match τ.dec1 (xDA τ.leaves z) with
      | some z0 => .mem [Nat.ble (off + n) xs.length] (.tu []) (h.set id (.rows T τ (xs.take off ++ List.replicate n z0 ++ xs.drop (off + n)))) [id]
      | none => .stuck
     else .stuck
    | _ => .stuck
   | _ => .stuck
  | _, _ => .stuck
 | _ => .stuck
/-- A part with a capacity that is told: no more is known of it. -/
def xLV (P : Program) (K : Slo) (h : List Root) (t : TypeId) (x lo hi mx : Operand) : Step :=
 match P.underlying t, xAt K x with
 | some (.slice e), some (.c (.sl id _ off n _)) => match P.info? e, lenP h id off n with
  | some _, some n0 => match xAt K lo, xAt K hi, xAt K mx with
   | some (.c (.sc (.int _ l))), some (.c (.sc (.int _ u))), some (.c (.sc (.int _ m))) => .mem [inC m n0, inC u m.toNat, inC l u.toNat] (.c (.hv h.length)) (h ++ [.dead]) []
   | _, _, _ => .stuck
  | _, _ => .stuck
 | _, _ => .stuck
def xN1 (len off : Nat) : Option Nat → Nat
 | none => len - off
 | some m => m
/-- Elements go over from one slice to a part of the call's own. -/
def copyP (P : Program) (K : Slo) (h : List Root) (t : TypeId) (x y : Operand) : Step :=
 match P.underlying t with
 | some (.slice e) => match P.info? e, xAt K y with
  | some inf, some q => match xAt K x with
   | some (.c (.sl id k off n none)) => match h[id]? with
    | some (.rows T τ xs) => bif Nat.beq k τ.w && Nat.beq inf.size τ.w && Nat.beq inf.size 1 then match xPf τ h q with
      | some ys => .mem [] (.c (.sc (.int .i64 ((ys.take (xN1 xs.length off n)).length : Nat)))) (h.set id (.rows T τ (xs.take off ++ ys.take (xN1 xs.length off n) ++ xs.drop (off + (ys.take (xN1 xs.length off n)).length)))) [id]
      | none => .stuck
     else .stuck
    | _ => .stuck
   | _ => .stuck
  | _, _ => .stuck
 | _ => .stuck
/-- An operation that changes memory, or calls. -/
def xCA (P : Program) (K : Slo) (h : List Root) (o : Oper) : Step :=
 match o.op with
 | .alloc T => match xIm P T with
  | some cs => .mem [] (.c (.pt h.length 0 0 0)) (h ++ [.blk cs T]) []
  | none => .stuck
 | .box T x => match (xAt K x).bind xN6 with
  | some cs => .mem [] (.c (.pt h.length 0 0 0)) (h ++ [.blk cs T]) []
  | none => .stuck
 | .store t x y => match xAt K x, (xAt K y).bind xN6, P.info? t with
  | some (.c (.pt id k row j)), some cs, some inf => bif Nat.beq cs.length inf.size then match h[id]? with
    | some r => match xJA r k row j cs with
     | some r' => .mem [] .un (h.set id r') [id]
     | none => .stuck
    | none => .stuck
   else .stuck
  | some (.c x'), some cs, some inf => bif Nat.beq cs.length inf.size then match rpOf x' with
    | some (t', n, k, row, j) => match xBA t' h 0 with
     | some (p, r) => match xOP r n k row j cs with
      | some (g, r') => .mem [g] .un (h.set p r') [p]
      | none => .stuck
     | none => .stuck
    | none => .stuck
   else .stuck
  | _, _, _ => .stuck
 | .makeFunc (.func f) ⟨fs⟩ ⟨cs⟩ => match xRq K fs, xRq K cs with
  | some a, some b => .mem [] (.c (.hv h.length)) (h ++ [.clo f a b]) []
  | _, _ => .stuck
 | .buildSlice t n parts => xCa P K h t n parts
 | .makeSlice t l c => xOt P K h t l c
 | .call ⟨.builtin .append, ⟨[s, x]⟩, ⟨[t, t']⟩⟩ => bif Nat.beq t t' then xMP P K h t s x else .stuck
 | .call ⟨.value f, ⟨args⟩, _⟩ => callP P K h f args
 | .makeMap t r => xJQ P K h t r
 | .call ⟨.builtin .clear, ⟨[x]⟩, ⟨[t]⟩⟩ => xRc P K h t x
 | .call ⟨.builtin .copy, ⟨[x, y]⟩, ⟨[t, _]⟩⟩ => copyP P K h t x y
 | .mapUpdate t m x y => xJP P K h t m x y
 | .insert t m x y => xJP P K h t m x y
 | .mapEntry t m x => xHr P K h t m x
 | .entryStore _ m x y => xEH P K h m x y
 | .slice t x (some lo) (some hi) (some mx) => xLV P K h t x lo hi mx
 | .call ⟨.builtin .delete, ⟨[m, x]⟩, ⟨t :: _⟩⟩ => xMb P K h t m x
 | _ => .stuck
end
end Go.Proofs.YtcbbhiobibhdnaaDoor
