/- A part of the proof of the theorem of the last file. No condition. By an AI agent. -/
import Derived.Test.YtnomnijhlbalaaaGreatDoorWZG
import Derived.Laws.StructEq
import Derived.Laws.Cover3
import Derived.ChangeKeysEq
import Derived.Laws.BytesString
namespace Go.Proofs.YtnomnijhlbalaaaGreatDoor
noncomputable section
open Go.RowKit
inductive PV where
 | c (x : CV)
 | ag (l : List CV)
 | tu (l : List (Bool × List CV))
 | un
def DenT (O : List Info) : List (Bool × List CV) -> List Value -> Prop
 | [], vs => vs = []
 | p :: l, vs => ∃ v r, vs = v :: r /\ DenB O p.1 p.2 v /\ DenT O l r
def DenP (O : List Info) : PV -> Value -> Prop
 | .c x, v => Den O x v
 | .ag l, v => DenB O true l v
 | .tu l, v => ∃ vs, DenT O l vs /\ v = .tuple vs.toArray
 | .un, v => v = undef
theorem DenT.mono {O O' : List Info} (hp : Pre O O') : ∀ {l : List (Bool × List CV)} {vs : List Value}, DenT O l vs -> DenT O' l vs
 | [], _, h => h
 | _ :: _, _, ⟨v, r, e, h1, h2⟩ => ⟨v, r, e, h1.mono hp, h2.mono hp⟩
theorem DenP.mono {O O' : List Info} (hp : Pre O O') : ∀ {x : PV} {v : Value}, DenP O x v -> DenP O' x v
 | .c _, _, h => Den.mono hp h
 | .ag _, _, h => DenB.mono (b := true) hp h
 | .tu _, _, ⟨vs, h1, h2⟩ => ⟨vs, h1.mono hp, h2⟩
 | .un, _, h => h
theorem DenT.get {O : List Info} : ∀ {l : List (Bool × List CV)} {vs : List Value} {j : Nat} {p : Bool × List CV}, DenT O l vs -> l[j]? = some p -> ∃ v, vs[j]? = some v /\ DenB O p.1 p.2 v
 | [], _, _, _, _, h => by simp at h
 | _ :: _, _, 0, _, ⟨v, r, e, h1, _⟩, h => by
  simp only [List.getElem?_cons_zero, Option.some.injEq] at h; subst h; exact ⟨v, by rw [e]; rfl, h1⟩
 | _ :: _, _, j + 1, _, ⟨v, r, e, _, h2⟩, h => by
  simp only [List.getElem?_cons_succ] at h;obtain ⟨u, h3, h4⟩ := h2.get h;exact ⟨u, by rw [e]; simpa using h3, h4⟩
inductive Slo where
 | nil
 | node (v : Option PV) (l r : Slo)
@[reducible] def Slo.way (n : Nat) : Nat := Nat.div (Nat.sub n 1) 2
@[reducible] def Slo.odd (n : Nat) : Bool := Nat.beq (Nat.mod n 2) 1
noncomputable def lkP (K : Slo) : Nat -> Option PV :=
 Slo.rec (motive := fun _ => Nat -> Option PV) (fun _ => none) (fun v _ _ il ir n => Bool.rec (Bool.rec (ir (Slo.way n)) (il (Slo.way n)) (Slo.odd n)) v (Nat.beq n 0)) K
theorem xFf (n : Nat) : lkP .nil n = none := rfl
theorem xCu (v : Option PV) (l r : Slo) (n : Nat) : lkP (.node v l r) n = bif Nat.beq n 0 then v else bif Slo.odd n then lkP l (Slo.way n) else lkP r (Slo.way n) := by
 show @Bool.rec (fun _ => Option PV) (@Bool.rec (fun _ => Option PV) (lkP r (Slo.way n)) (lkP l (Slo.way n)) (Slo.odd n)) v (Nat.beq n 0) = _;cases Nat.beq n 0
 ·cases Slo.odd n <;> rfl
 ·rfl
theorem Slo.way_lt {n : Nat} (h : Nat.beq n 0 = false) : Slo.way n < n := by
 have h' : n ≠ 0 := Nat.ne_of_beq_eq_false h;show (n - 1) / 2 < n;omega
theorem Slo.way_eq {n m : Nat} (hn : Nat.beq n 0 = false) (hm : Nat.beq m 0 = false) (ho : Slo.odd n = Slo.odd m) (hw : Slo.way n = Slo.way m) : n = m := by
 have h1 : n ≠ 0 := Nat.ne_of_beq_eq_false hn;have h2 : m ≠ 0 := Nat.ne_of_beq_eq_false hm;have h3 : (n - 1) / 2 = (m - 1) / 2 := hw;have ho' : Nat.beq (n % 2) 1 = Nat.beq (m % 2) 1 := ho;by_cases h4 : n % 2 = 1
 ·have h5 : m % 2 = 1 := by rw [h4] at ho'; exact nbT ho'.symm
  omega
 ·have h5 : ¬ m % 2 = 1 := by
   intro h5; rw [h5] at ho'; exact h4 (nbT ho')
  omega
noncomputable def oneP (v : PV) (f : Nat) : Nat -> Slo :=
 Nat.rec (motive := fun _ => Nat -> Slo) (fun _ => .nil) (fun _ ih n => Bool.rec (Bool.rec (.node none .nil (ih (Slo.way n))) (.node none (ih (Slo.way n)) .nil) (Slo.odd n)) (.node (some v) .nil .nil) (Nat.beq n 0)) f
theorem xTI (v : PV) (f n : Nat) : oneP v (f + 1) n = bif Nat.beq n 0 then .node (some v) .nil .nil else bif Slo.odd n then .node none (oneP v f (Slo.way n)) .nil else .node none .nil (oneP v f (Slo.way n)) := by
 show @Bool.rec (fun _ => Slo) (@Bool.rec (fun _ => Slo) (.node none .nil (oneP v f (Slo.way n))) (.node none (oneP v f (Slo.way n)) .nil) (Slo.odd n)) (.node (some v) .nil .nil) (Nat.beq n 0) = _;cases Nat.beq n 0
 ·cases Slo.odd n <;> rfl
 ·rfl
theorem xK1 (v : PV) : ∀ (f n s : Nat), n < f -> lkP (oneP v f n) s = if s = n then some v else none
 | 0, n, s, h => absurd h (Nat.not_lt_zero _)
 | f + 1, n, s, h => by
  rw [xTI]
  cases hn : Nat.beq n 0 with
  | true =>
   have := nbT hn;subst this;simp only [cond_true, xCu, xFf]
   cases hs : Nat.beq s 0 with
   | true => have := nbT hs; subst this; rfl
   | false => rw [if_neg (Nat.ne_of_beq_eq_false hs)]; cases Slo.odd s <;> rfl
  | false =>
   have hlt : Slo.way n < f := by have := Slo.way_lt hn; omega
   simp only [cond_false]
   cases ho : Slo.odd n with
   | true =>
    simp only [cond_true, xCu, xFf]
    cases hs : Nat.beq s 0 with
    | true =>
     have e := nbT hs;rw [if_neg (fun e' => by rw [<- e', e] at hn; cases hn)]; rfl
    | false =>
     simp only [cond_false]
     cases hso : Slo.odd s with
     | false =>
      rw [if_neg (fun e' => by rw [e', ho] at hso; cases hso)]; rfl
     | true =>
      simp only [cond_true, xK1 v f _ _ hlt];by_cases hw : Slo.way s = Slo.way n
      ·rw [if_pos hw, if_pos (Slo.way_eq hs hn (by rw [hso, ho]) hw)]
      ·rw [if_neg hw, if_neg (fun e => hw (by rw [e]))]
   | false =>
    simp only [cond_false, xCu, xFf]
    cases hs : Nat.beq s 0 with
    | true =>
     have e := nbT hs;rw [if_neg (fun e' => by rw [<- e', e] at hn; cases hn)]; rfl
    | false =>
     simp only [cond_false]
     cases hso : Slo.odd s with
     | true =>
      rw [if_neg (fun e' => by rw [e', ho] at hso; cases hso)]; rfl
     | false =>
      simp only [cond_false, xK1 v f _ _ hlt];by_cases hw : Slo.way s = Slo.way n
      ·rw [if_pos hw, if_pos (Slo.way_eq hs hn (by rw [hso, ho]) hw)]
      ·rw [if_neg hw, if_neg (fun e => hw (by rw [e]))]
def KOk (N : Nat) (D : List Deferred) (O : List Info) (K : Slo) (a : Act) : Prop := a.tmps.size = N /\ a.defers = D /\ ∀ t p, lkP K t = some p -> ∃ v, DenP O p v /\ a.tmps[t]? = some v
theorem KOk.mono {N : Nat} {D : List Deferred} {O O' : List Info} {K : Slo} {a : Act} (h : KOk N D O K a) (hp : Pre O O') : KOk N D O' K a := ⟨h.1, h.2.1, fun t p e => by obtain ⟨v, h1, h2⟩ := h.2.2 t p e; exact ⟨v, h1.mono hp, h2⟩⟩
def scs : List Value -> Option (List CV)
 | [] => some []
 | v :: l => bif v.oneCell' then match scs l with
   | some r => some (.sc v :: r)
   | none => none
  else none
theorem xMi {O : List Info} : ∀ {l : List Value} {r : List CV}, scs l = some r -> DenL O r l
 | [], r, h => by cases h; rfl
 | v :: l, r, h => by
  simp only [scs] at h
  cases hv : v.oneCell' with
  | false => rw [hv] at h; cases h
  | true =>
   rw [hv] at h;simp only [cond_true] at h;split at h
   ·rename_i s hs; cases h; exact ⟨v, l, rfl, ⟨rfl, hv⟩, xMi hs⟩
   ·cases h
def ofV : Value -> Option PV
 | .agg cs => match scs cs.toList with
  | some l => some (.ag l)
  | none => none
 | .tuple _ => none
 | v => some (.c (.sc v))
theorem ofV_ok {O : List Info} {v : Value} {p : PV} (h : ofV v = some p) : DenP O p v := by
 cases v with
 | agg cs =>
  simp only [ofV] at h;split at h
  ·rename_i l hl; cases h; exact ⟨cs.toList, xMi hl, by simp⟩
  ·cases h
 | tuple vs => cases h
 | _ => cases h; exact ⟨rfl, rfl⟩
def xAo (K : Slo) : Operand -> Option PV
 | .tmp t => lkP K t
 | .const v => ofV v
 | .func f => some (.c (.sc (.func (.func f) #[] #[])))
 | .global g => some (.c (.sc (.pointer (some ⟨g, 0, none⟩))))
theorem xAa {N : Nat} {D : List Deferred} {O : List Info} {K : Slo} {a : Act} (h : KOk N D O K a) {x : Operand} {p : PV} (hx : xAo K x = some p) : DenP O p (a.eval x) := by
 cases x with
 | tmp t =>
  obtain ⟨v, h1, h2⟩ := h.2.2 t p hx;simpa [Act.eval, h2] using h1
 | const u => simpa [Act.eval] using ofV_ok (O := O) hx
 | func f => cases hx; exact ⟨by simp [Act.eval], rfl⟩
 | global g => cases hx; exact ⟨by simp [Act.eval], rfl⟩
def raws : List CV -> Option (List Value)
 | [] => some []
 | .sc v :: l => match raws l with
  | some r => some (v :: r)
  | none => none
 | _ => none
theorem xKG {O : List Info} : ∀ {l : List CV} {r vs : List Value}, raws l = some r -> DenL O l vs -> vs = r
 | [], r, vs, h, hd => by cases h; exact hd
 | .sc v :: l, r, vs, h, ⟨u, s, e, h1, h2⟩ => by
  simp only [raws] at h;split at h
  ·rename_i q hq; cases h; rw [e, h1.1, xKG hq h2]
  ·cases h
 | .sl _ _ _ _ _ :: _, _, _, h, _ => by cases h
 | .pt _ _ _ _ :: _, _, _, h, _ => by cases h
 | .hv _ :: _, _, _, h, _ => by cases h
 | .er _ :: _, _, _, h, _ => by cases h
 | .rf _ _ _ :: _, _, _, h, _ => by cases h
 | .rp _ _ _ _ _ :: _, _, _, h, _ => by cases h
def rawP : PV -> Option Value
 | .c (.sc v) => some v
 | .ag l => match raws l with
  | some vs => some (.agg vs.toArray)
  | none => none
 | _ => none
theorem rawP_ok {O : List Info} {p : PV} {u v : Value} (h : rawP p = some u) (hd : DenP O p v) : v = u := by
 cases p with
 | c x => cases x with
  | sc w => cases h; exact hd.1
  | _ => cases h
 | ag l =>
  simp only [rawP] at h;split at h
  ·rename_i vs hv; cases h;obtain ⟨us, h1, h2⟩ := hd;rw [h2, xKG hv h1]
  ·cases h
 | _ => cases h
def σK (K : Slo) (x : Operand) : Value := ((xAo K x).bind rawP).getD undef
def isSel : Op -> Bool
 | .select _ _ => true
 | _ => false
def xQM (K : Slo) (o : Oper) : Bool := o.op.operands.toList.all (fun x => ((xAo K x).bind rawP).isSome) && !isSel o.op
theorem xVX {N : Nat} {D : List Deferred} {O : List Info} {K : Slo} {a : Act} (h : KOk N D O K a) {o : Oper} (hc : xQM K o = true) : execOp a.eval o = execOp (σK K) o := by
 simp only [xQM, Bool.and_eq_true, List.all_eq_true, Bool.not_eq_true'] at hc;refine execOp_congr o (fun cs b e => ?_) (fun x hx => ?_)
 ·have := hc.2; rw [e] at this; cases this
 ·have := hc.1 x (by simpa using hx);obtain ⟨u, hu⟩ := Option.isSome_iff_exists.1 this;obtain ⟨p, hp, hp2⟩ := Option.bind_eq_some_iff.1 hu;rw [rawP_ok hp2 (xAa h hp)];simp [σK, hp, hp2]
def xDP (P : Program) {α : Type} : Sem α -> Option α
 | .pure a => some a
 | .program k => xDP P (k P)
 | .mark _ k => xDP P k
 | _ => none
theorem xHx {P : Program} {α : Type} : ∀ (s : Sem α) (x : α), xDP P s = some x -> ∀ w, s.run P w = .ok x w
 | .pure a, x, h, w => by simp only [xDP, Option.some.injEq] at h; rw [<- h]; rfl
 | .program k, x, h, w => by simp only [xDP] at h; exact xHx (k P) x h w
 | .mark m k, x, h, w => by simp only [xDP] at h; exact xHx k x h w
 | .load .., x, h, w => by simp [xDP] at h
 | .store .., x, h, w => by simp [xDP] at h
 | .new .., x, h, w => by simp [xDP] at h
 | .shape .., x, h, w => by simp [xDP] at h
 | .freeze .., x, h, w => by simp [xDP] at h
 | .frozen .., x, h, w => by simp [xDP] at h
 | .getObj .., x, h, w => by simp [xDP] at h
 | .setObj .., x, h, w => by simp [xDP] at h
 | .choose .., x, h, w => by simp [xDP] at h
 | .sys .., x, h, w => by simp [xDP] at h
 | .halt .., x, h, w => by simp [xDP] at h
def xTy (P : Program) (t : TypeId) (xs : Array Value) (off : Nat) : Option Value :=
 xDP P (part t xs off)
theorem xFI {P : Program} {t : TypeId} {xs : Array Value} {off : Nat} {v : Value} (h : xTy P t xs off = some v) (w : World) : (part t xs off).run P w = .ok v w := xHx _ _ h w
def eqFs (P : Program) (rec : TypeId -> Value -> Value -> Option Bool) (xs ys : Array Value) : List Field -> Option Bool
 | [] => some true
 | f :: fs => bif f.name != "_" then match xTy P f.type xs f.offset, xTy P f.type ys f.offset with
   | some a, some b => match rec f.type a b with
    | some r => match fs with
     | [] => some r
     | _ :: _ => match eqFs P rec xs ys fs with
      | some q => some (r && q)
      | none => none
    | none => none
   | _, _ => none
  else none
def eqIs (P : Program) (rec : TypeId -> Value -> Value -> Option Bool) (e : TypeId) (c : Nat) (xs ys : Array Value) : List Nat -> Option Bool
 | [] => some true
 | i :: is => match xTy P e xs (i * c), xTy P e ys (i * c) with
   | some a, some b => match rec e a b with
    | some r => match is with
     | [] => some r
     | _ :: _ => match eqIs P rec e c xs ys is with
      | some q => some (r && q)
      | none => none
    | none => none
   | _, _ => none
def eqV (P : Program) : Nat -> TypeId -> Value -> Value -> Option Bool
 | 0, _, _, _ => none
 | d + 1, t, x, y => match P.underlying t with
  | some (.int _) => match x, y with
   | .int k a, .int k' b => bif decide (k = k') then some (a == b) else none
   | _, _ => none
  | some .bool => match x, y with
   | .bool a, .bool b => some (a == b)
   | _, _ => none
  | some .string => match x, y with
   | .string a, .string b => some (a == b)
   | _, _ => none
  | some (.struct fs) => match x, y with
   | .agg xs, .agg ys => bif P.stoodInHeld t then none else eqFs P (eqV P d) xs ys fs.toList
   | _, _ => none
  | some (.array n e) => match x, y, P.info? e with
   | .agg xs, .agg ys, some _ => eqIs P (eqV P d) e (P.cellsOf e) xs ys (List.range n)
   | _, _, _ => none
  | _ => none
theorem xQy {P : Program} {rec : TypeId -> Value -> Value -> Option Bool} {D : Nat} (hrec : ∀ t x y r, rec t x y = some r -> ∀ w, (Op.equalIn D t x y).run P w = .ok r w) {xs ys : Array Value} : ∀ (fs : List Field) (r : Bool), eqFs P rec xs ys fs = some r -> ∀ w, (Op.eqFields D xs ys fs).run P w = .ok r w
 | [], r, h, w => by simp only [eqFs, Option.some.injEq] at h; subst h; rfl
 | f :: fs, r, h, w => by
  simp only [eqFs] at h
  cases hn : (f.name != "_") with
  | false => rw [hn] at h; cases h
  | true =>
   rw [hn] at h;simp only [cond_true] at h;split at h
   ·rename_i a b ha hb;split at h
    ·rename_i q hq;have hne : f.name ≠ "_" := by simpa using hn
     simp only [Op.eqFields, if_pos hne, Sem.run_bind, xFI ha, xFI hb, Result.andThen_ok, hrec _ _ _ _ hq];split at h
     ·simp only [Option.some.injEq] at h;subst h;cases q <;> rfl
     ·rename_i f2 fs2;split at h
      ·rename_i q2 hq2;simp only [Option.some.injEq] at h;subst h;have ih := xQy hrec (f2 :: fs2) q2 hq2 w;cases q
       ·rfl
       ·simpa using ih
      ·cases h
    ·cases h
   ·cases h
theorem xQx {P : Program} {rec : TypeId -> Value -> Value -> Option Bool} {D : Nat} (hrec : ∀ t x y r, rec t x y = some r -> ∀ w, (Op.equalIn D t x y).run P w = .ok r w) {e : TypeId} {c : Nat} {xs ys : Array Value} : ∀ (is : List Nat) (r : Bool), eqIs P rec e c xs ys is = some r -> ∀ w, (Op.eqItems D e c xs ys is).run P w = .ok r w
 | [], r, h, w => by simp only [eqIs, Option.some.injEq] at h; subst h; rfl
 | i :: is, r, h, w => by
  simp only [eqIs] at h;split at h
  ·rename_i a b ha hb;split at h
   ·rename_i q hq;simp only [Op.eqItems, Sem.run_bind, xFI ha, xFI hb, Result.andThen_ok, hrec _ _ _ _ hq];split at h
    ·simp only [Option.some.injEq] at h;subst h;cases q <;> rfl
    ·rename_i i2 is2;split at h
     ·rename_i q2 hq2;simp only [Option.some.injEq] at h;subst h;have ih := xQx hrec (i2 :: is2) q2 hq2 w;cases q
      ·rfl
      ·simpa using ih
     ·cases h
   ·cases h
  ·cases h
theorem xOF {P : Program} (D : Nat) : ∀ (m : Nat) (t : TypeId) (x y : Value) (r : Bool), eqV P m t x y = some r -> ∀ w, (Op.equalIn (D + m) t x y).run P w = .ok r w
 | 0, t, x, y, r, h, w => by cases h
 | m + 1, t, x, y, r, h, w => by
  simp only [eqV] at h;split at h
  ·rename_i k hu;split at h
   ·rename_i k1 a k2 b
    cases hk : decide (k1 = k2) with
    | false => rw [hk] at h; cases h
    | true =>
     rw [hk] at h;simp only [cond_true, Option.some.injEq] at h;have e := of_decide_eq_true hk;subst e; subst h;exact run_equalIn_int w (D + m) t k1 k a b hu
   ·cases h
  ·rename_i hu;split at h
   ·simp only [Option.some.injEq] at h;subst h;exact run_equalIn_bool' w (D + m) t _ _ hu
   ·cases h
  ·rename_i hu;split at h
   ·simp only [Option.some.injEq] at h;subst h;rw [beq_toListBytes];exact run_equalIn_string w (D + m) t _ _ hu
   ·cases h
  ·rename_i fs hu;split at h
   ·rename_i xs ys
    cases hp : P.stoodInHeld t with
    | true => rw [hp] at h; cases h
    | false =>
     rw [hp] at h;simp only [cond_false] at h;have hf : P.fieldsOf t = fs := by simp [Program.fieldsOf, hu]
     rw [show D + (m + 1) = (D + m) + 1 from rfl, run_equalIn_agg w (D + m) t xs ys (by rw [hf]; exact hu) hp, hf];exact xQy (fun t x y r hr w => xOF D m t x y r hr w) fs.toList r h w
   ·cases h
  ·rename_i n e hu;split at h
   ·rename_i xs ys i hi;rw [show D + (m + 1) = (D + m) + 1 from rfl, run_equalIn_array w (D + m) xs ys hu hi];exact xQx (fun t x y r hr w => xOF D m t x y r hr w) _ r h w
   ·cases h
  ·cases h
def addN : Nat -> Nat -> Nat
 | 0, b => b
 | a + 1, b => addN a b + 1
theorem xBg : ∀ a b : Nat, addN a b = a + b
 | 0, b => (Nat.zero_add b).symm
 | a + 1, b => by rw [addN, xBg a b]; omega
inductive Step where
 | stuck
 | val (g : List Bool) (v : PV)
 | pick (b : Bool) (x y : PV)
 | mem (g : List Bool) (v : PV) (h : List Root) (t : List Nat)
 | call (f : FuncId) (args : List PV)
def optV : Option PV -> Step
 | some v => .val [] v
 | none => .stuck
def xOy (P : Program) (K : Slo) (o : Oper) : Step :=
 bif xQM K o then match xDP P (execOp (σK K) o) with
  | some (.value v) => optV (ofV v)
  | _ => .stuck
 else .stuck
def inB (i : Int) (n : Nat) : Bool := decide (0 <= i) && decide (i < (n : Int))
def inC (i : Int) (n : Nat) : Bool := decide (0 <= i) && decide (i <= (n : Int))
def xBK : TypeDesc -> Bool
 | .struct _ => true
 | .array _ _ => true
 | _ => false
def xRo (P : Program) (t : TypeId) (l : List CV) (off : Nat) : Option PV :=
 match P.underlying t, P.info? t with
 | some d, some i => bif xBK d then match takeN i.size (l.drop off) with
   | some cs => some (.ag cs)
   | none => none
  else match l[off]? with
   | some x => some (.c x)
   | none => none
 | _, _ => none
def xQF : PV -> Option (List CV)
 | .c x => some [x]
 | .ag l => some l
 | _ => none
def bAt (s : ByteArray) (i : Nat) : Int := (((s[i]?).getD 0).toNat : Int)
def lenP (h : List Root) (id off : Nat) : Option Nat -> Option Nat
 | some x => some x
 | none => match h[id]? with
  | some (.rows _ _ xs) => some (xs.length - off)
  | some (.ro _ xs) => some (xs.length - off)
  | _ => none
def rpOf : CV -> Option (Nat × Nat × Nat × Nat × Nat)
 | .rf 0 t n => some (t, n, 0, 0, 0)
 | .rp t n k row j => some (t, n, k, row, j)
 | _ => none
def ldV (agg : Bool) (g : List Bool) (cs : List CV) : Step :=
 bif agg then .val g (.ag cs) else match cs with
  | [x] => .val g (.c x)
  | _ => .stuck
def xW8 (P : Program) (K : Slo) (h : List Root) (t : TypeId) (x : Operand) : Step :=
 match xAo K x, P.underlying t, P.info? t with
 | some (.c (.pt id k row j)), some d, some inf => match h[id]? with
  | some r => match xDe r k row j (bif xBK d then inf.size else 1) with
   | some cs => ldV (xBK d) [] cs
   | none => .stuck
  | none => .stuck
 | some (.c x), some d, some inf => match rpOf x with
  | some (t', n, k, row, j) => match xAZ t' h 0 with
   | some (_, r) => match xHk r n k row j (bif xBK d then inf.size else 1) with
    | some (g, cs) => ldV (xBK d) [g] cs
    | none => .stuck
   | none => .stuck
  | none => match x with
   | .sc (.pointer (some ⟨b, e, none⟩)) => match gTab b with
    | some ⟨U, xs⟩ => bif Nat.beq (bif xBK d then inf.size else 1) U.w then ldV (xBK d) [gFit e U.w xs.length] (U.enc (nth xs U.dflt (gRow e U.w))) else .stuck
    | none => .stuck
   | _ => .stuck
 | _, _, _ => .stuck
def xGA (P : Program) (K : Slo) (s : TypeId) (x : Operand) (f : Nat) : Step :=
 match xAo K x, P.underlying s with
 | some (.c (.pt id k row j)), some (.struct fields) => match fields[f]? with
  | some fd => match P.info? fd.type with
   | some inf => bif Nat.beq inf.size 0 || (Nat.beq k 1 && !Nat.beq fd.offset 0) then .stuck else .val [] (.c (.pt id k row (j + fd.offset)))
   | none => .stuck
  | none => .stuck
 | some (.c x), some (.struct fields) => match rpOf x, fields[f]? with
  | some (t, n, k, row, j), some fd => match P.info? fd.type with
   | some inf => bif Nat.beq inf.size 0 then .stuck else .val [!Nat.beq n 0] (.c (.rp t n k row (j + fd.offset)))
   | none => .stuck
  | _, _ => .stuck
 | _, _ => .stuck
def xGv (P : Program) (K : Slo) (h : List Root) (t : TypeId) (x ix : Operand) : Step :=
 match P.underlying t, xAo K x, xAo K ix with
 | some (.slice e), some (.c (.sl id k off n c)), some (.c (.sc (.int _ i))) => match P.info? e, lenP h id off n with
  | some inf, some n => bif Nat.beq inf.size k then .val [inB i n] (.c (.pt id k (addN off i.toNat) 0)) else .stuck
  | _, _ => .stuck
 | some (.array n e), some (.c (.pt id k row j)), some (.c (.sc (.int _ i))) => match P.info? e with
  | some inf => match h[id]? with
   | some (.blk cs _) => bif Nat.beq inf.size 1 && Nat.beq k 0 && Nat.ble (j + n) cs.length then .val [inB i n] (.c (.pt id 1 i.toNat j)) else bif Nat.beq k 1 then .stuck else .val [inB i n] (.c (.pt id k row (addN j (i.toNat * inf.size))))
   | _ => bif Nat.beq k 1 then .stuck else .val [inB i n] (.c (.pt id k row (addN j (i.toNat * inf.size))))
  | none => .stuck
 | some (.slice e), some (.c (.rf 1 t' n)), some (.c (.sc (.int _ i))) => match P.info? e, xAZ t' h 0 with
  | some inf, some (_, .ars _ _ _ os) => .val [inB i (rowAt os n).length] (.c (.rp t' n inf.size i.toNat 0))
  | some inf, some (_, .arr _ _ os) => .val [inB i (xED os n).length] (.c (.rp t' n inf.size i.toNat 0))
  | _, _ => .stuck
 | some (.array m e), some (.c (.rp t' n k row j)), some (.c (.sc (.int _ i))) => match P.info? e with
  | some inf => .val [inB i m] (.c (.rp t' n k row (addN j (i.toNat * inf.size))))
  | none => .stuck
 | some (.array m e), some (.c (.sc (.pointer (some ⟨b, o, none⟩)))), some (.c (.sc (.int _ i))) => match P.info? e with
  | some inf => .val [inB i m] (.c (.sc (.pointer (some ⟨b, o + i.toNat * inf.size, none⟩))))
  | none => .stuck
 | _, _, _ => .stuck
def xUO (P : Program) (K : Slo) (t : TypeId) (x : Operand) (f : Nat) : Step :=
 match P.underlying t, xAo K x with
 | some (.struct fields), some (.ag l) => match fields[f]? with
  | some fd => optV (xRo P fd.type l fd.offset)
  | none => .stuck
 | _, _ => .stuck
def strsOf : List CV -> Option (List ByteArray)
 | [] => some []
 | .sc (.string s) :: l => match strsOf l with
  | some r => some (s :: r)
  | none => none
 | _ => none
def xUx (P : Program) (K : Slo) (t : TypeId) (x ix : Operand) : Step :=
 match P.underlying t, xAo K x, xAo K ix with
 | some (.array n e), some (.ag l), some (.c (.sc (.int _ i))) => match P.info? e with
  | some inf => match strsOf l, P.underlying e with
   | some ss, some .string => bif Nat.beq inf.size 1 then .val [inB i n, Nat.ble n ss.length] (.c (.sc (.string (nth ss ByteArray.empty i.toNat)))) else .stuck
   | _, _ => match xRo P e l (i.toNat * inf.size) with
    | some v => .val [inB i n] v
    | none => .stuck
  | none => .stuck
 | some .string, some (.c (.sc (.string s))), some (.c (.sc (.int _ i))) => .val [inB i s.size] (.c (.sc (.int .u8 (bAt s i.toNat))))
 | _, _, _ => .stuck
def intOf (K : Slo) (d : Int) : Option Operand -> Option Int
 | none => some d
 | some x => match xAo K x with
  | some (.c (.sc (.int _ i))) => some i
  | _ => none
def roomOf (h : List Root) (id off n : Nat) : Nat :=
 match h[id]? with
 | some (.rows _ _ xs) => xs.length - off
 | _ => n
def xSV (P : Program) (K : Slo) (h : List Root) (t : TypeId) (x : Operand) (lo hi : Option Operand) : Step :=
 match P.underlying t, xAo K x with
 | some (.slice e), some (.c (.sl id k off n c)) => match P.info? e, lenP h id off n, intOf K 0 lo, c with
  | some inf, some n0, some l, none => bif Nat.beq inf.size k then match hi with
    | none => .val [inC l n0] (.c (.sl id k (addN off l.toNat) (n.map (· - l.toNat)) none))
    | some y => match intOf K n0 (some y) with
     | some m => .val [inC m (roomOf h id off n0), inC l m.toNat] (.c (.sl id k (addN off l.toNat) (some (m.toNat - l.toNat)) none))
     | none => .stuck
   else .stuck
  | some inf, some n0, some l, some c0 => match intOf K n0 hi with
   | some m => bif Nat.beq inf.size k then .val [inC m n0, inC l m.toNat] (.c (.sl id k (addN off l.toNat) (some (m.toNat - l.toNat)) (some (c0 - l.toNat)))) else .stuck
   | none => .stuck
  | _, _, _, _ => .stuck
 | some .string, some (.c (.sc (.string s))) => match intOf K 0 lo, intOf K s.size hi with
  | some l, some m => .val [inC m s.size, inC l m.toNat] (.c (.sc (.string (s.extract l.toNat m.toNat))))
  | _, _ => .stuck
 | some (.array n e), some (.c (.pt id k0 row j)) => match P.info? e, intOf K 0 lo, intOf K n hi, h[id]? with
  | some inf, some l, some m, some (.blk cs _) => bif Nat.ble ((row * k0 + j) + n * inf.size) cs.length && Nat.ble n 1000000 && Nat.beq ((row * k0 + j) / inf.size * inf.size) (row * k0 + j) then .val [inC m n, inC l m.toNat] (.c (.sl id inf.size (addN ((row * k0 + j) / inf.size) l.toNat) (some (m.toNat - l.toNat)) (some (n - l.toNat)))) else bif Nat.ble ((row * k0 + j) + n * inf.size) cs.length && Nat.ble n 1000000 && Nat.ble 1 inf.size then .val [inC m n, inC l m.toNat] (.c (.sl id 1 ((row * k0 + j) + l.toNat * inf.size) (some (m.toNat - l.toNat)) (some (n - l.toNat)))) else .stuck
  | _, _, _, _ => .stuck
 | _, _ => .stuck
def xVL (op : BinOp) (k : IntKind) (a b : Int) : Option Value :=
 match op with
 | .add => some (.int k (k.wrap (a + b)))
 | .sub => some (.int k (k.wrap (a - b)))
 | .mul => some (.int k (k.wrap (a * b)))
 | .eql => some (.bool (a == b))
 | .neq => some (.bool (a != b))
 | .lss => some (.bool (a < b))
 | .leq => some (.bool (a <= b))
 | .gtr => some (.bool (a > b))
 | .geq => some (.bool (a >= b))
 | _ => none
def binP (P : Program) (K : Slo) (op : BinOp) (x y : Operand) (o : Oper) : Step :=
 match xAo K x, xAo K y with
 | some (.c (.sc (.int k a))), some (.c (.sc (.int k' b))) => bif Nat.beq (kix k) (kix k') then match xVL op k a b with
   | some v => .val [] (.c (.sc v))
   | none => xOy P K o
  else xOy P K o
 | some (.c (.sc (.string a))), some (.c (.sc (.string b))) => match op with
  | .add => .val [decide (a.size + b.size <= 1000000)] (.c (.sc (.string (a ++ b))))
  | _ => xOy P K o
 | _, _ => xOy P K o
def eqlP (P : Program) (K : Slo) (h : List Root) (t : TypeId) (x y : Operand) (neg : Bool) (o : Oper) : Step :=
 match xAo K x, xAo K y with
 | some (.c (.rf 0 _ n)), some (.c (.sc (.pointer none))) => match P.underlying t with
  | some (.pointer _) => .val [] (.c (.sc (.bool (bif neg then !Nat.beq n 0 else Nat.beq n 0))))
  | _ => .stuck
 | some (.c (.pt _ _ _ _)), some (.c (.sc (.pointer none))) => match P.underlying t with
  | some (.pointer _) => .val [] (.c (.sc (.bool neg)))
  | _ => .stuck
 | some (.c (.sl id _ off n _)), some (.c (.sc (.slice none 0 0))) => match P.underlying t, lenP h id off n with
  | some (.slice _), some n0 => .val [Nat.ble 1 n0] (.c (.sc (.bool neg)))
  | _, _ => .stuck
 | some (.c (.er b)), some (.c (.sc .nilIface)) => match y, P.underlying t with
  | .const _, some (.interface _) => .val [] (.c (.sc (.bool (bif neg then !b else b))))
  | _, _ => .stuck
 | some (.ag l), some (.ag m) => match raws l, raws m with
  | some xs, some ys => bif P.eqGuardType P.depth t then .stuck else match eqV P 20 t (.agg xs.toArray) (.agg ys.toArray) with
   | some b => .val [] (.c (.sc (.bool (bif neg then !b else b))))
   | none => .stuck
  | _, _ => .stuck
 | _, _ => binP P K (bif neg then .neq else .eql) x y o
def xPt (off : Nat) : Nat -> List CV -> List CV -> List CV
 | _, [], l => l
 | j, c :: cs, l => xPt off (j + 1) cs (l.set (off + j) c)
def xOD (place : Nat -> Option (Nat × Nat)) (l : List CV) : List (Nat × List CV) -> Option (List CV)
 | [] => some l
 | (i, cs) :: rest => match place i with
  | none => none
  | some (off, size) => bif Nat.beq cs.length size && Nat.ble (off + cs.length) l.length then xOD place (xPt off 0 cs l) rest else none
def xME (K : Slo) : List (Nat × Operand) -> Option (List (Nat × List CV))
 | [] => some []
 | (i, x) :: r => match (xAo K x).bind xQF, xME K r with
  | some cs, some l => some ((i, cs) :: l)
  | _, _ => none
def xJd (P : Program) (t : TypeId) : Option (List CV) :=
 match P.info? t with
 | some i => match i.zero with
  | some z => scs z.cells.toList
  | none => none
 | none => none
def xKL (P : Program) : List Field -> Option (List (Nat × Nat))
 | [] => some []
 | f :: r => match P.info? f.type, xKL P r with
  | some i, some l => some ((f.offset, i.size) :: l)
  | _, _ => none
def xVt (P : Program) (K : Slo) (t : TypeId) (parts : Array (Nat × Operand)) : Step :=
 match xJd P t, P.underlying t, xME K parts.toList with
 | some z, some (.struct fields), some ps => match xKL P fields.toList with
  | some pl => match xOD (fun i => pl[i]?) z ps with
   | some cs => .val [] (.ag cs)
   | none => .stuck
  | none => .stuck
 | some z, some (.array _ e), some ps => match P.info? e with
  | some inf => match xOD (fun i => some (i * inf.size, inf.size)) z ps with
   | some cs => .val [] (.ag cs)
   | none => .stuck
  | none => .stuck
 | _, _, _ => .stuck
def compOf : Bool -> List CV -> Option PV
 | true, l => some (.ag l)
 | false, l => match l with
  | [x] => some (.c x)
  | _ => none
def KK.eqb : (V : KK) -> V.ty -> V.ty -> Bool
 | .i _, a, b => a == b
 | .s, a, b => a == b
theorem xVr (a b : ByteArray) : (a == b) = true ↔ a = b := by
 cases a with | mk x => cases b with | mk y =>
 show (x == y) = true ↔ _;simp
theorem KK.eqb_iff : ∀ (V : KK) (a b : V.ty), V.eqb a b = true ↔ a = b
 | .i _, a, b => by show (a == b) = true ↔ a = b; exact beq_iff_eq
 | .s, _, _ => xVr _ _
def KK.fits : KK -> TypeDesc -> Bool
 | .i _, .int _ => true
 | .s, .string => true
 | _, _ => false
def keyOf : (V : KK) -> Value -> Option V.ty
 | .i k, .int k' n => bif Nat.beq (kix k) (kix k') then some n else none
 | .s, .string b => some b
 | _, _ => none
theorem xK5 {V : KK} {v : Value} {n : V.ty} (h : keyOf V v = some n) : v = V.val n := by
 unfold keyOf at h;split at h
 ·rename_i k k' m
  cases hb : Nat.beq (kix k) (kix k') with
  | false => rw [hb] at h; cases h
  | true =>
   rw [hb] at h;have := xDU hb;subst this;cases h; rfl
 ·cases h; rfl
 ·cases h
def kkOf (P : Program) (t : TypeId) : Option KK :=
 match P.underlying t with
 | some (.int k) => some (.i k)
 | some .string => some .s
 | _ => none
def hasK (V : KK) {α : Type} (n : V.ty) : List (V.ty × α) -> Bool
 | [] => false
 | e :: r => bif V.eqb n e.1 then true else hasK V n r
def xEW (V : KK) {α : Type} (z : α) (n : V.ty) : List (V.ty × α) -> α
 | [] => z
 | e :: r => bif V.eqb n e.1 then e.2 else xEW V z n r
theorem xEM {V : KK} {α : Type} {n : V.ty} : ∀ {ts : List (V.ty × α)}, hasK V n ts = true ↔ n ∈ ts.map Prod.fst
 | [] => by simp [hasK]
 | e :: r => by
  simp only [hasK, List.map_cons, List.mem_cons]
  cases hb : V.eqb n e.1 with
  | true => simp [(V.eqb_iff n e.1).1 hb]
  | false =>
   have : n ≠ e.1 := fun h => by rw [(V.eqb_iff n e.1).2 h] at hb; cases hb
   simp [xEM (ts := r), this]
theorem xUB {V : KK} {α : Type} {z x : α} {n : V.ty} : ∀ {ts : List (V.ty × α)}, (ts.map Prod.fst).Nodup -> (n, x) ∈ ts -> xEW V z n ts = x
 | e :: r, hn, hm => by
  simp only [xEW];rw [List.map_cons, List.nodup_cons] at hn
  cases hb : V.eqb n e.1 with
  | true =>
   rcases List.mem_cons.1 hm with h | h
   ·rw [<- h]; rfl
   ·exact absurd (List.mem_map.2 ⟨_, h, (V.eqb_iff n e.1).1 hb⟩) hn.1
  | false =>
   rcases List.mem_cons.1 hm with h | h
   ·rw [<- h, (V.eqb_iff n n).2 rfl] at hb; cases hb
   ·exact xUB hn.2 h
theorem xUC {V : KK} {α : Type} {z : α} {n : V.ty} : ∀ {ts : List (V.ty × α)}, hasK V n ts = false -> xEW V z n ts = z
 | [], _ => rfl
 | e :: r, h => by
  simp only [hasK] at h;simp only [xEW]
  cases hb : V.eqb n e.1 with
  | true => rw [hb] at h; cases h
  | false => rw [hb] at h; exact xUC h
inductive MPl where
 | root (id : Nat)
 | ar (p n : Nat)
def MPl.id : MPl -> Nat
 | .root id => id
 | .ar p _ => p
structure MpV where
 (g : List Bool) (pl : MPl) (V : KK) (agg : Bool) (U : TC) (ts : List (V.ty × U.ty))
def xKV (h : List Root) : CV -> Option MpV
 | .hv id => match h[id]? with
  | some (.mp V agg U ts) => some ⟨[], .root id, V, agg, U, ts⟩
  | _ => none
 | .rf 2 t n => match xAZ t h 0 with
  | some (p, .arm _ V agg U os) => some ⟨[xCv os n], .ar p n, V, agg, U, rowAt os n⟩
  | _ => none
 | _ => none
def zeroB (P : Program) (t : TypeId) : Option (Bool × List CV) :=
 match P.info? t with
 | some i => match i.zero with
  | some (.agg cs) => match scs cs.toList with
   | some l => some (true, l)
   | none => none
  | some v => bif v.oneCell' then some (false, [.sc v]) else none
  | none => none
 | none => none
def zeroT (P : Program) (agg : Bool) (U : TC) (t : TypeId) : Option U.ty :=
 match zeroB P t with
 | some (b, l) => bif b == agg then U.dec1 (xD9 U.leaves l) else none
 | none => none
def xOq (P : Program) (K : Slo) (h : List Root) (t : TypeId) (x ix : Operand) (ok : Bool) : Step :=
 match P.underlying t, xAo K x, xAo K ix with
 | some (.map kt et), some (.c m), some (.c (.sc kv)) => match P.underlying kt, xKV h m with
  | some d, some ⟨g, _, V, agg, U, ts⟩ => bif V.fits d then match keyOf V kv, zeroT P agg U et with
    | some n, some z => bif ok then .val g (.tu [(agg, U.enc (xEW V z n ts)), (false, [.sc (.bool (hasK V n ts))])]) else match compOf agg (U.enc (xEW V z n ts)) with
     | some v => .val g v
     | none => .stuck
    | _, _ => .stuck
   else .stuck
  | _, _ => .stuck
 | _, _, _ => .stuck
def bytesOf (xs : List Int) : ByteArray := xs.foldl (fun r n => r.push (UInt8.ofNat n.toNat)) ByteArray.empty
def u8L : (U : TC) -> List U.ty -> Option (List Int)
 | .int .u8, xs => some xs
 | _, _ => none
def u8Of : Root -> Option (List Int)
 | .rows _ U xs => u8L U xs
 | .ro U xs => u8L U xs
 | _ => none
def convP (P : Program) (K : Slo) (h : List Root) (s d : TypeId) (x : Operand) (o : Oper) : Step :=
 match xAo K x with
 | some (.c (.sl id k off n c)) => match P.underlying s, P.underlying d, h[id]? with
  | some (.slice e), some .string, some r => match P.underlying e, u8Of r with
   | some (.int .u8), some xs => bif (Nat.beq k 1 && Nat.beq off 0) && (n.isNone && c.isNone) then .val [] (.c (.sc (.string (bytesOf xs)))) else .stuck
   | _, _ => .stuck
  | _, _, _ => .stuck
 | _ => xOy P K o
def asT (T : Nat) (p : PV) : PV :=
 match p with
 | .c (.sc (.pointer none)) => match refOf T with
  | some (0, t) => .c (.rf 0 t 0)
  | _ => p
 | p => p
theorem asT_ok {O : List Info} {T : Nat} {p : PV} {v : Value} (h : DenP O p v) : DenP O (asT T p) v := by
 unfold asT;split
 ·split
  ·exact .inl ⟨rfl, h.1⟩
  ·exact h
 ·exact h
def xHd (P : Program) (K : Slo) (h : List Root) (o : Oper) : Step :=
 match o.op with
 | .move x => optV (xAo K x)
 | .assign x => optV ((xAo K x).map (asT o.type))
 | .pick c a b => match xAo K c, xAo K a, xAo K b with
  | some (.c (.sc (.bool q))), some x, some y => .pick q x y
  | _, _, _ => .stuck
 | .extract t ix => match xAo K t with
  | some (.tu l) => match l[ix]? with
   | some (true, cs) => .val [] (.ag cs)
   | some (false, [x]) => .val [] (.c x)
   | _ => .stuck
  | _ => .stuck
 | .load t x => xW8 P K h t x
 | .fieldAddr s x f => xGA P K s x f
 | .indexAddr t x ix => xGv P K h t x ix
 | .field t x f => xUO P K t x f
 | .index t x ix => xUx P K t x ix
 | .nilCheck x => match xAo K x with
  | some (.c (.pt id k row j)) => .val [] (.c (.pt id k row j))
  | some (.c (.rf 0 t n)) => .val [!Nat.beq n 0] (.c (.rf 0 t n))
  | some (.c (.rp t n k row j)) => .val [] (.c (.rp t n k row j))
  | _ => .stuck
 | .slice t x lo hi none => xSV P K h t x lo hi
 | .lookup t x ix ok => xOq P K h t x ix ok
 | .call ⟨.builtin .len, ⟨[x]⟩, ⟨[t]⟩⟩ => match xAo K x, P.underlying t with
  | some (.c (.hv id)), some (.map _ _) => match xKV h (.hv id) with
   | some ⟨g, _, _, _, _, ts⟩ => .val g (.c (.sc (.int .i64 ts.length)))
   | _ => .stuck
  | some (.c (.rf 2 t n)), some (.map _ _) => match xKV h (.rf 2 t n) with
   | some ⟨g, _, _, _, _, ts⟩ => .val g (.c (.sc (.int .i64 ts.length)))
   | _ => .stuck
  | some (.c (.rf 1 t n)), some (.slice _) => match xAZ t h 0 with
   | some (_, .ars _ _ _ os) => .val [xCv os n] (.c (.sc (.int .i64 (rowAt os n).length)))
   | some (_, .arr _ _ os) => .val [] (.c (.sc (.int .i64 (xED os n).length)))
   | _ => .stuck
  | some (.c (.sl id _ off n _)), some (.slice _) => match lenP h id off n with
   | some n0 => .val [] (.c (.sc (.int .i64 n0)))
   | none => .stuck
  | _, _ => xOy P K o
 | .binOp .quo _ x y _ => match xAo K x, xAo K y with
  | some (.c (.sc (.int k a))), some (.c (.sc (.int k' b))) => bif Nat.beq (kix k) (kix k') then .val [!(b == 0)] (.c (.sc (.int k (k.wrap (a.tdiv b))))) else xOy P K o
  | _, _ => xOy P K o
 | .binOp .rem _ x y _ => match xAo K x, xAo K y with
  | some (.c (.sc (.int k a))), some (.c (.sc (.int k' b))) => bif Nat.beq (kix k) (kix k') then .val [!(b == 0)] (.c (.sc (.int k (a.tmod b)))) else xOy P K o
  | _, _ => xOy P K o
 | .binOp .shl _ x y _ => match xAo K x, xAo K y with
  | some (.c (.sc (.int k a))), some (.c (.sc (.int _ b))) => .val [decide (0 <= b)] (.c (.sc (.int k (k.wrap (a * 2 ^ (min b.toNat k.bits))))))
  | _, _ => xOy P K o
 | .binOp .shr _ x y _ => match xAo K x, xAo K y with
  | some (.c (.sc (.int k a))), some (.c (.sc (.int _ b))) => .val [decide (0 <= b)] (.c (.sc (.int k (a.fdiv (2 ^ (min b.toNat k.bits))))))
  | _, _ => xOy P K o
 | .binOp .eql t x y _ => eqlP P K h t x y false o
 | .binOp .neq t x y _ => eqlP P K h t x y true o
 | .binOp op _ x y _ => binP P K op x y o
 | .build t parts => xVt P K t parts
 | .convert s d x => convP P K h s d x o
 | .alloc .. => .stuck
 | .box .. => .stuck
 | .store .. => .stuck
 | .buildSlice .. => .stuck
 | .makeSlice .. => .stuck
 | .makeMap .. => .stuck
 | .mapUpdate .. => .stuck
 | .insert .. => .stuck
 | .makeFunc .. => .stuck
 | _ => xOy P K o
def arId (h : List Root) (t : Nat) : List Nat :=
 match xAZ t h 0 with
 | some (p, _) => [p]
 | none => []
def rdC (h : List Root) : CV -> List Nat
 | .pt id _ _ _ => [id]
 | .hv id => [id]
 | .rf _ t _ => arId h t
 | .rp t _ _ _ _ => arId h t
 | _ => []
def xGi (K : Slo) (h : List Root) (o : Oper) : List Nat :=
 match o.op with
 | .load _ x => match xAo K x with
  | some (.c c) => rdC h c
  | _ => []
 | .lookup _ x _ _ => match xAo K x with
  | some (.c c) => rdC h c
  | _ => []
 | .call ⟨.builtin .len, ⟨[x]⟩, _⟩ => match xAo K x with
  | some (.c (.hv id)) => [id]
  | some (.c (.rf q t _)) => bif Nat.beq q 1 then [] else arId h t
  | _ => []
 | .convert _ _ x => match xAo K x with
  | some (.c (.sl id _ _ _ _)) => [id]
  | _ => []
 | _ => []
def Agree (L : List Nat) (O : List Info) (h : List Root) (w w' : World) : Prop := (∀ id ∈ L, ∀ (r : Root) (i : Info) (b : Nat), h[id]? = some r -> O[id]? = some i -> foot i r b -> w'.heap[b]? = w.heap[b]?) /\ ∀ b ∈ xIJ, w'.heap[b]? = w.heap[b]?
theorem Agree.refl (L : List Nat) (O : List Info) (h : List Root) (w : World) : Agree L O h w w := ⟨fun _ _ _ _ _ _ _ _ => rfl, fun _ _ => rfl⟩
def AllB : List Bool -> Prop
 | [] => True
 | b :: r => b = true /\ AllB r
def xBX (P : Program) (O : List Info) (h : List Root) (w : World) (a : Act) (o : Oper) (L : List Nat) : Step -> Prop
 | .val g v => AllB g -> ∃ u, DenP O v u /\ ∀ w', Agree L O h w w' -> (execOp a.eval o).run P w' = .ok (.value u) w'
 | .pick b x y => ∃ u, DenP O (bif b then x else y) u /\ ∀ w', Agree L O h w w' -> (execOp a.eval o).run P w' = .ok (.value u) w'
 | _ => True
section
variable {P : Program} {N : Nat} {D : List Deferred} {S F : List Nat} {W0 : World} {O : List Info} {K : Slo} {h : List Root} {w : World} {a : Act} {o : Oper} {L : List Nat}
theorem xAg {v : PV} {g : List Bool} (f : AllB g -> ∃ u, DenP O v u /\ ∀ w', Agree L O h w w' -> (execOp a.eval o).run P w' = .ok (.value u) w') : xBX P O h w a o L (.val g v) := f
theorem xKO {e : Option PV} (f : ∀ {v : PV}, e = some v -> ∃ u, DenP O v u /\ ∀ w', Agree L O h w w' -> (execOp a.eval o).run P w' = .ok (.value u) w') : xBX P O h w a o L (optV e) := by
 cases e with
 | none => trivial
 | some v => exact fun _ => f rfl
theorem xB8 (hK : KOk N D O K a) : xBX P O h w a o L (xOy P K o) := by
 unfold xOy
 cases hr : xQM K o with
 | false => trivial
 | true =>
  simp only [cond_true];split
  ·rename_i v hv;refine xKO fun {p} hp => ⟨v, ofV_ok hp, fun w' _ => ?_⟩;rw [xVX hK hr];exact xHx _ _ hv w'
  ·trivial
theorem xET {id : Nat} (hid : id ∈ L) {r : Root} {i : Info} {b o : Nat} {v : Value} {w' : World} (ha : Agree L O h w w') (hr : h[id]? = some r) (hi : O[id]? = some i) (hf : foot i r b) (hc : w.cell? ⟨b, o, none⟩ = some v) : w'.cell? ⟨b, o, none⟩ = some v := by
 rw [<- hc]; exact World.cell?_of_block (w := w) (ha.1 id hid r i b hr hi hf)
theorem xMv {i : Info} {r : Root} {k row j n : Nat} {cs : List CV} (h : RootOk O w i r) (hg : xDe r k row j n = some cs) (hrow : i.has k row j) {b o : Nat} (ha : i.a = some ⟨b, o, none⟩) : foot i r b := by
 cases r with
 | dead => cases hg
 | blk ds T => simp [foot, own, ha]
 | rows T U xs => simp [foot, own, ha]
 | ro U xs =>
  obtain ⟨h0, _⟩ := h
  cases xs with
  | nil => exact absurd (hrow.1 _ h0) (Nat.not_lt_zero _)
  | cons x xs => simp [foot, ha]
 | _ => cases hg
theorem xN6 {r : Root} {k row j n : Nat} {cs : List CV} (hg : xDe r k row j n = some cs) : cs.length = n := by
 have tk : ∀ {n : Nat} {l r : List CV}, takeN n l = some r -> r.length = n := fun h => by
  obtain ⟨h1, h2⟩ := xFw h; rw [h1, List.length_take]; omega
 cases r with
 | dead => cases hg
 | blk ds T =>
  simp only [xDe] at hg
  cases hb : (Nat.beq k 1 && Nat.beq n 1) with
  | false => rw [hb] at hg; exact tk hg
  | true =>
   rw [hb] at hg;simp only [Bool.and_eq_true] at hb;have e := nbT hb.2;subst e;simp only [cond_true] at hg;unfold cellAt at hg;split at hg
   ·split at hg
    ·cases hg; rfl
    ·exact tk hg
   ·split at hg
    ·cases hg; rfl
    ·exact tk hg
   ·split at hg
    ·cases hg; rfl
    ·exact tk hg
   ·exact tk hg
 | rows T U xs =>
  simp only [xDe] at hg
  cases hk : Nat.beq k U.w with
  | false => rw [hk] at hg; cases hg
  | true => rw [hk] at hg; exact tk hg
 | ro U xs =>
  simp only [xDe] at hg
  cases hk : Nat.beq k U.w with
  | false => rw [hk] at hg; cases hg
  | true => rw [hk] at hg; exact tk hg
 | _ => cases hg
theorem xK0 (hK : KOk N D O K a) {t : TypeId} {x : Operand} (ho : o.op = .load t x) {d : TypeDesc} {inf : TypeInfo} (hd : P.underlying t = some d) (hi : P.info? t = some inf) {g : List Bool} {cs : List CV} (hlen : cs.length = (bif xBK d then inf.size else 1))
  (hrd : AllB g -> ∃ (b o' : Nat) (us : List Value), a.eval x = .pointer (some ⟨b, o', none⟩) /\ DenL O cs us /\ ∀ w', Agree L O h w w' -> ∀ (t' : Nat) (v : Value), us[t']? = some v -> w'.cell? (Addr.add ⟨b, o', none⟩ t') = some v) :
  xBX P O h w a o L (ldV (xBK d) g cs) := by
 unfold ldV;have exec : ∀ {b o' : Nat}, a.eval x = .pointer (some ⟨b, o', none⟩) -> execOp a.eval o = (do pure (.value (<- Instr.loadAt t (.pointer (some ⟨b, o', none⟩))))) := fun h4 => by
  unfold execOp; simp only [ho]; rw [h4]
 cases hag : xBK d with
 | true =>
  rw [hag] at hlen;simp only [cond_true] at hlen ⊢;refine xAg fun hg => ?_;obtain ⟨b, o', us, h4, hus, run⟩ := hrd hg;refine ⟨.agg us.toArray, ⟨us, hus, rfl⟩, fun w' ha => ?_⟩;rw [exec h4];have hl := run_loadCells_list (P := P) w' ⟨b, o', none⟩ us (run w' ha);rw [hus.len, hlen] at hl;have hagg : (isAgg t).run P w' = .ok true w' := by
   unfold isAgg;cases d <;> simp [xBK] at hag <;> simp [Sem.run_bind, run_underlying hd, Result.andThen]
  simp [Instr.loadAt, Instr.sureAddr, loadVar, hagg, Sem.run_bind, Result.andThen, sizeOf, typeInfo, hi, hl]
 | false =>
  rw [hag] at hlen;simp only [cond_false] at hlen ⊢;split
  ·rename_i y;refine xAg fun hg => ?_;obtain ⟨b, o', us, h4, hus, run⟩ := hrd hg;obtain ⟨u, r', e1, e2, e3⟩ := hus;refine ⟨u, e2, fun w' ha => ?_⟩;rw [exec h4];have hl := run w' ha 0 u (by rw [e1]; rfl);have hagg : (isAgg t).run P w' = .ok false w' := by
    unfold isAgg;cases d <;> simp [xBK] at hag <;> simp [Sem.run_bind, run_underlying hd, Result.andThen]
   rw [Addr.add_lit, Nat.add_zero] at hl;simp [Instr.loadAt, Instr.sureAddr, loadVar, hagg, Sem.run_bind, Result.andThen, hl]
  ·trivial
theorem xWn {i : Info} {r : Root} {t : Nat} (ht : r.tag = some t) (hn : ∀ t U os, r ≠ .arr t U os) {b : Nat} : foot i r b ↔ own i r b := by
 cases r <;> first | exact Iff.rfl | (cases ht; done) | exact absurd rfl (hn _ _ _)
theorem xS4 {x : CV} {v : Value} (hd : Den O x v) {t n k row j : Nat} (hx : rpOf x = some (t, n, k, row, j)) (hn : n ≠ 0) : ∃ (m id : Nat) (i : Info) (u : Value) (b o len : Nat), n = m + 1 /\ O[id]? = some i /\ (i.objs t)[m]? = some u /\ hdA u = some (b, o, len) /\ row < len /\ v = .pointer (some ⟨b, o + row * k + j, none⟩) := by
 unfold rpOf at hx;split at hx
 ·cases hx;rcases hd with ⟨h0, _⟩ | ⟨m, id, i, h1, h2, h3, b, o, rfl⟩
  ·exact absurd h0 hn
  ·exact ⟨m, id, i, _, b, o, 1, h1, h2, h3, rfl, by omega, by simp⟩
 ·cases hx; exact hd
 ·cases hx
theorem xP1 (hK : KOk N D O K a) (hh : HOk S F W0 O h w) {t : TypeId} {x : Operand} (ho : o.op = .load t x) (hL : ∀ c, xAo K x = some (.c c) -> ∀ id ∈ rdC h c, id ∈ L) : xBX P O h w a o L (xW8 P K h t x) := by
 unfold xW8;split
 ·rename_i id k row j d inf hx hd hi;split
  ·rename_i r hr;split
   ·rename_i cs hg;obtain ⟨i, b, off, h1, h2, h3, h4⟩ := xAa hK hx;have hrok := hh.ok id r i hr h1;obtain ⟨us, hus, hc⟩ := xRj hrok hg h3 h2;have hf := xMv hrok hg h3 h2;refine xK0 hK ho hd hi (xN6 hg) (fun _ => ⟨b, _, us, h4, hus, fun w' ha t' v hv => ?_⟩);rw [Addr.add_lit]; exact xET (hL _ hx _ (by simp [rdC])) ha hr h1 hf (hc t' v hv)
   ·trivial
  ·trivial
 ·rename_i c d inf _ hx hd hi;split
  ·rename_i t' n k row j hc;split
   ·rename_i p r hr;split
    ·rename_i g cs hg;refine xK0 hK ho hd hi (xVQ hg) (fun hgg => ?_);obtain ⟨p', hp, hrr, ht⟩ := xAA hr;rw [Nat.zero_add] at hp; subst hp;have hn : n ≠ 0 := fun e => by
      subst e
      cases r with
      | ars t2 T U os =>
       simp only [xHk] at hg
       cases hk : Nat.beq k U.w with
       | false => rw [hk] at hg; cases hg
       | true =>
        rw [hk] at hg; simp only [cond_true] at hg;split at hg
        ·cases hg; have := of_decide_eq_true hgg.1; simp [rowAt] at this
        ·cases hg
      | aro t2 T U os =>
       simp only [xHk] at hg
       cases hk : Nat.beq row 0 with
       | false => rw [hk] at hg; cases hg
       | true =>
        rw [hk] at hg; simp only [cond_true] at hg;split at hg
        ·cases hg; obtain ⟨m, hm, _⟩ := xQf hgg.1; omega
        ·cases hg
      | arr t2 U os =>
       simp only [xHk] at hg
       cases hk : Nat.beq k U.w with
       | false => rw [hk] at hg; cases hg
       | true =>
        rw [hk] at hg; simp only [cond_true] at hg;split at hg
        ·cases hg; have := of_decide_eq_true hgg.1; simp [xED] at this
        ·cases hg
      | _ => cases hg
     obtain ⟨m, id, i0, u, b, off, len, h1, h2, h3, h4, h5, h6⟩ := xS4 (xAa hK hx) hc hn;obtain ⟨i, hi2⟩ := hh.info hrr;have h7 := hh.cov p t' r i hrr hi2 ht id i0 m u h2 h3;obtain ⟨h8, us, hus, hcell⟩ := xXQ (hh.ok p r i hrr hi2) ht hg hgg.1 h1 h7 h4 h5;refine ⟨b, _, us, h6, hus, fun w' ha t' v hv => ?_⟩;rw [Addr.add_lit];have hin : p ∈ rdC h c := by
      unfold rpOf at hc;split at hc
      ·cases hc; simp [rdC, arId, hr]
      ·cases hc; simp [rdC, arId, hr]
      ·cases hc
     exact xET (hL _ hx _ hin) ha hrr hi2 h8 (hcell t' v hv)
    ·trivial
   ·trivial
  ·split
   ·rename_i b e hno hrp;split
    ·rename_i U xs hT
     cases hz : Nat.beq (bif xBK d then inf.size else 1) U.w with
     | false => trivial
     | true =>
      simp only [cond_true];have hw := nbT hz;refine xK0 hK ho hd hi (by rw [TC.enc_len, hw]) (fun hgg => ?_);have hg := hgg.1;unfold gFit at hg;simp only [Bool.and_eq_true] at hg;have m0 : e % U.w = 0 := nbT hg.1;have m1 : e / U.w < xs.length := Nat.le_of_ble_eq_true hg.2;obtain ⟨hb, hrow⟩ := gTab_ok hh.layW hT;obtain ⟨us, hus, hcell⟩ := hrow (e / U.w) m1;have hev : a.eval x = .pointer (some ⟨b, e, none⟩) := (xAa hK hx).1;refine ⟨b, e, us, hev, hus O, fun w' ha t' v hv => ?_⟩;have h9 := hcell t' v hv;have h10 : e / U.w * U.w = e := by have := Nat.div_add_mod e U.w; rw [Nat.mul_comm]; omega
      rw [h10] at h9;rw [Addr.add_lit, <- h9];exact World.cell?_of_block (w := w) (ha.2 b hb)
    ·trivial
   ·trivial
 ·trivial
end
end
end Go.Proofs.YtnomnijhlbalaaaGreatDoor
