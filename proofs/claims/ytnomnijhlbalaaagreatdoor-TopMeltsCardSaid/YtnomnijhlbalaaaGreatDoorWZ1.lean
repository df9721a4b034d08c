/- A part of the proof of the theorem of the last file. No condition. By an AI agent. -/
import Derived.Test.YtnomnijhlbalaaaGreatDoorWZ0
import Derived.ArgAppend
namespace Go.Proofs.YtnomnijhlbalaaaGreatDoor
open Go.RowKit
inductive TC where
 | int (k : IntKind)
 | bool
 | str
 | cv
 | nil
 | er
 | rf (q t : Nat)
 | pair (a b : TC)
inductive CV where
 | sc (v : Value)
 | sl (id k off : Nat) (n c : Option Nat)
 | pt (id k row j : Nat)
 | hv (id : Nat)
 | er (ok : Bool)
 | rf (q t n : Nat)
 | rp (t n k row j : Nat)
 | any
@[reducible] def TC.ty : TC -> Type
 | .int _ => Int
 | .bool => Bool
 | .str => ByteArray
 | .cv => CV
 | .nil => Unit
 | .er => Bool
 | .rf _ _ => Nat
 | .pair a b => a.ty × b.ty
def TC.w : TC -> Nat
 | .nil => 0
 | .pair a b => a.w + b.w
 | _ => 1
def TC.enc : (τ : TC) -> τ.ty -> List CV
 | .int k, n => [.sc (.int k n)]
 | .bool, b => [.sc (.bool b)]
 | .str, s => [.sc (.string s)]
 | .cv, c => [c]
 | .nil, _ => []
 | .er, b => [.er b]
 | .rf q t, n => [.rf q t n]
 | .pair a b, x => a.enc x.1 ++ b.enc x.2
def kix : IntKind -> Nat
 | .i8 => 0
 | .i16 => 1
 | .i32 => 2
 | .i64 => 3
 | .u8 => 4
 | .u16 => 5
 | .u32 => 6
 | .u64 => 7
theorem xDG {a b : IntKind} (h : Nat.beq (kix a) (kix b) = true) : a = b := by
 cases a <;> cases b <;> first | rfl | cases h
def TC.dec : (τ : TC) -> List CV -> Option (τ.ty × List CV)
 | .int k, l => match l with
  | .sc (.int k' n) :: r => bif Nat.beq (kix k) (kix k') then some (n, r) else none
  | _ => none
 | .bool, l => match l with
  | .sc (.bool b) :: r => some (b, r)
  | _ => none
 | .str, l => match l with
  | .sc (.string s) :: r => some (s, r)
  | _ => none
 | .cv, l => match l with
  | c :: r => some (c, r)
  | _ => none
 | .nil, l => some ((), l)
 | .er, l => match l with
  | .er b :: r => some (b, r)
  | _ => none
 | .rf q t, l => match l with
  | .rf q' t' n :: r => bif Nat.beq q q' && Nat.beq t t' then some (n, r) else none
  | _ => none
 | .pair a b, l => match a.dec l with
  | some (x, r) => match b.dec r with
   | some (y, r') => some ((x, y), r')
   | none => none
  | none => none
def TC.dflt : (τ : TC) -> τ.ty
 | .int _ => (0 : Int)
 | .bool => false
 | .str => ByteArray.empty
 | .cv => CV.sc (.bool false)
 | .nil => ()
 | .er => true
 | .rf _ _ => (0 : Nat)
 | .pair a b => (a.dflt, b.dflt)
theorem TC.dec_enc : ∀ (τ : TC) (l : List CV) (x : τ.ty) (r : List CV), τ.dec l = some (x, r) -> l = τ.enc x ++ r
 | .int k, l, x, r, h => by
  simp only [TC.dec] at h;split at h
  ·rename_i k' n r'
   cases hk : Nat.beq (kix k) (kix k') with
   | false => rw [hk] at h; cases h
   | true =>
    rw [hk] at h;have := xDG hk;subst this;cases h; rfl
  ·cases h
 | .bool, l, x, r, h => by
  simp only [TC.dec] at h;split at h
  ·cases h; rfl
  ·cases h
 | .str, l, x, r, h => by
  simp only [TC.dec] at h;split at h
  ·cases h; rfl
  ·cases h
 | .cv, l, x, r, h => by
  simp only [TC.dec] at h;split at h
  ·cases h; rfl
  ·cases h
 | .er, l, x, r, h => by
  simp only [TC.dec] at h;split at h
  ·cases h; rfl
  ·cases h
 | .rf q t, l, x, r, h => by
  simp only [TC.dec] at h;split at h
  ·rename_i q' t' n r'
   cases hk : (Nat.beq q q' && Nat.beq t t') with
   | false => rw [hk] at h; cases h
   | true =>
    rw [hk] at h;simp only [Bool.and_eq_true] at hk;have e1 := nbT hk.1;have e2 := nbT hk.2;subst e1; subst e2;cases h; rfl
  ·cases h
 | .nil, l, x, r, h => by
  simp only [TC.dec] at h;cases h; rfl
 | .pair a b, l, x, r, h => by
  simp only [TC.dec] at h;split at h
  ·rename_i y r1 h1;split at h
   ·rename_i z r2 h2;cases h;rw [TC.dec_enc a _ _ _ h1, TC.dec_enc b _ _ _ h2];simp [TC.enc]
   ·cases h
  ·cases h
theorem TC.enc_len : ∀ (τ : TC) (x : τ.ty), (τ.enc x).length = τ.w
 | .int _, _ => rfl
 | .bool, _ => rfl
 | .str, _ => rfl
 | .cv, _ => rfl
 | .nil, _ => rfl
 | .er, _ => rfl
 | .rf _ _, _ => rfl
 | .pair a b, x => by simp [TC.enc, TC.w, TC.enc_len a, TC.enc_len b]
def TC.dec1 (τ : TC) (l : List CV) : Option τ.ty :=
 match τ.dec l with
 | some (x, []) => some x
 | _ => none
theorem TC.dec1_enc {τ : TC} {l : List CV} {x : τ.ty} (h : τ.dec1 l = some x) : l = τ.enc x := by
 unfold TC.dec1 at h;split at h
 ·rename_i y hy;cases h;simpa using TC.dec_enc τ l _ _ hy
 ·cases h
structure Info where
 (a : Option Addr) (cap : Nat) (len : Option Nat) (val : Value)
def Info.objs (i : Info) (t : Nat) : List Value :=
 match i.val with
 | .tuple ⟨.int _ t' :: l⟩ => if t' = (t : Int) then l else []
 | _ => []
def nilQ : Nat -> Value
 | 0 => .pointer none
 | 1 => .slice none 0 0
 | _ => .map none
def isQ : Nat -> Value -> Prop
 | 0, v => ∃ b o, v = .pointer (some ⟨b, o, none⟩)
 | 1, v => ∃ a n c, v = .slice a n c
 | _, v => ∃ r, v = .map (some r)
def hdA : Value -> Option (Nat × Nat × Nat)
 | .pointer (some ⟨b, o, none⟩) => some (b, o, 1)
 | .slice (some ⟨b, o, none⟩) n _ => some (b, o, n)
 | _ => none
def Info.has (i : Info) (k row j : Nat) : Prop := (∀ m, i.len = some m -> row < m) /\ (i.len = none -> k = 1 -> row + j < i.cap)
def Info.cnt (i : Info) (off : Nat) (n : Option Nat) (nn : Nat) : Prop :=
 match n with
 | some x => nn = x
 | none => ∃ m, i.len = some m /\ nn = m - off
def Den (ρ : List Info) : CV -> Value -> Prop
 | .sc v', v => v = v' /\ v'.oneCell' = true
 | .sl id k off n c, v => ∃ i a' c' nn, ρ[id]? = some i /\ v = .slice a' nn c' /\ nn <= c' /\ c' <= maxLen /\ (0 < nn -> ∃ b o, i.a = some ⟨b, o, none⟩) /\ i.cnt off n nn /\
   match c with
   | none => (∃ m, i.len = some m /\ off + nn <= m) /\ c' = i.cap - off /\ a'.map (·.block) = i.a.map (·.block) /\ (off = 0 -> a' = i.a) /\ (off < i.cap -> a' = i.a.map (·.add (off * k)))
   | some c0 => i.len = none /\ c' = c0 /\ (k = 1 -> off + nn <= i.cap) /\ (0 < nn -> a' = i.a.map (·.add (off * k)))
 | .pt id k row j, v => ∃ i b o, ρ[id]? = some i /\ i.a = some ⟨b, o, none⟩ /\ i.has k row j /\ v = .pointer (some ⟨b, o + row * k + j, none⟩)
 | .hv id, v => ∃ i, ρ[id]? = some i /\ v = i.val /\ i.val.oneCell' = true
 | .any, v => v.oneCell' = true
 | .er b, v => (b = true /\ v = .nilIface) \/ (b = false /\ ∃ t p, v = .iface t p)
 | .rf q t n, v => (n = 0 /\ v = nilQ q) \/ ∃ (m id : Nat) (i : Info), n = m + 1 /\ ρ[id]? = some i /\ (i.objs t)[m]? = some v /\ isQ q v
 | .rp t n k row j, v => ∃ (m id : Nat) (i : Info) (u : Value) (b o len : Nat), n = m + 1 /\ ρ[id]? = some i /\ (i.objs t)[m]? = some u /\ hdA u = some (b, o, len) /\ row < len /\ v = .pointer (some ⟨b, o + row * k + j, none⟩)
def DenL (ρ : List Info) : List CV -> List Value -> Prop
 | [], vs => vs = []
 | c :: cs, vs => ∃ v r, vs = v :: r /\ Den ρ c v /\ DenL ρ cs r
def Pre (ρ ρ' : List Info) : Prop := ∀ (id : Nat) (i : Info), ρ[id]? = some i -> ρ'[id]? = some i
theorem Pre.refl (ρ : List Info) : Pre ρ ρ := fun _ _ h => h
theorem Pre.trans {a b c : List Info} (h : Pre a b) (k : Pre b c) : Pre a c := fun id i x => k id i (h id i x)
theorem Pre.app (ρ r : List Info) : Pre ρ (ρ ++ r) := fun id i h => by
 rw [List.getElem?_append_left (List.getElem?_eq_some_iff.1 h).1]; exact h
theorem Den.mono {ρ ρ' : List Info} (hp : Pre ρ ρ') : ∀ {c : CV} {v : Value}, Den ρ c v -> Den ρ' c v
 | .sc _, _, h => h
 | .sl _ _ _ _ _, _, ⟨i, a', c', nn, h1, h2⟩ => ⟨i, a', c', nn, hp _ _ h1, h2⟩
 | .pt _ _ _ _, _, ⟨i, b, o, h1, h2⟩ => ⟨i, b, o, hp _ _ h1, h2⟩
 | .hv _, _, ⟨i, h1, h2⟩ => ⟨i, hp _ _ h1, h2⟩
 | .any, _, h => h
 | .er _, _, h => h
 | .rf _ _ _, _, h => h.imp (fun h => h) (fun ⟨m, id, i, h1, h2, h3⟩ => ⟨m, id, i, h1, hp _ _ h2, h3⟩)
 | .rp _ _ _ _ _, _, ⟨m, id, i, u, b, o, len, h1, h2, h3⟩ => ⟨m, id, i, u, b, o, len, h1, hp _ _ h2, h3⟩
theorem DenL.mono {ρ ρ' : List Info} (hp : Pre ρ ρ') : ∀ {cs : List CV} {vs : List Value}, DenL ρ cs vs -> DenL ρ' cs vs
 | [], _, h => h
 | _ :: _, _, ⟨v, r, e, h1, h2⟩ => ⟨v, r, e, h1.mono hp, h2.mono hp⟩
theorem DenL.len {ρ : List Info} : ∀ {cs : List CV} {vs : List Value}, DenL ρ cs vs -> vs.length = cs.length
 | [], _, h => by rw [h]; rfl
 | _ :: _, _, ⟨_, _, e, _, h⟩ => by rw [e]; simp [h.len]
theorem DenL.app {ρ : List Info} : ∀ {cs ds : List CV} {vs us : List Value}, DenL ρ cs vs -> DenL ρ ds us -> DenL ρ (cs ++ ds) (vs ++ us)
 | [], _, _, _, h, k => by rw [h]; exact k
 | _ :: _, _, _, _, ⟨v, r, e, h1, h2⟩, k => by rw [e]; exact ⟨v, _, rfl, h1, h2.app k⟩
theorem DenL.split {ρ : List Info} : ∀ {cs ds : List CV} {vs : List Value}, DenL ρ (cs ++ ds) vs -> ∃ a b, vs = a ++ b /\ DenL ρ cs a /\ DenL ρ ds b
 | [], _, vs, h => ⟨[], vs, rfl, rfl, h⟩
 | _ :: _, _, _, ⟨v, r, e, h1, h2⟩ => by
  obtain ⟨a, b, e2, h3, h4⟩ := DenL.split h2;exact ⟨v :: a, b, by rw [e, e2]; rfl, ⟨v, a, rfl, h1, h3⟩, h4⟩
theorem DenL.get {ρ : List Info} : ∀ {cs : List CV} {vs : List Value} {j : Nat} {c : CV}, DenL ρ cs vs -> cs[j]? = some c -> ∃ v, vs[j]? = some v /\ Den ρ c v
 | [], _, _, _, _, h => by simp at h
 | _ :: _, _, 0, _, ⟨v, r, e, h1, _⟩, h => by
  simp only [List.getElem?_cons_zero, Option.some.injEq] at h; subst h; exact ⟨v, by rw [e]; rfl, h1⟩
 | _ :: _, _, j + 1, _, ⟨v, r, e, _, h2⟩, h => by
  simp only [List.getElem?_cons_succ] at h;obtain ⟨u, h3, h4⟩ := h2.get h;exact ⟨u, by rw [e]; simpa using h3, h4⟩
theorem DenL.set {ρ : List Info} : ∀ {cs : List CV} {vs : List Value} {j : Nat} {c : CV} {v : Value}, DenL ρ cs vs -> Den ρ c v -> DenL ρ (cs.set j c) (vs.set j v)
 | [], _, _, _, _, h, _ => by rw [h]; rfl
 | _ :: _, _, 0, _, _, ⟨_, r, e, _, h2⟩, h => by rw [e]; exact ⟨_, r, rfl, h, h2⟩
 | _ :: _, _, j + 1, _, _, ⟨u, r, e, h1, h2⟩, h => by rw [e]; exact ⟨u, _, rfl, h1, h2.set h⟩
theorem DenL.take {ρ : List Info} : ∀ {cs : List CV} {vs : List Value} (n : Nat), DenL ρ cs vs -> DenL ρ (cs.take n) (vs.take n)
 | [], _, n, h => by rw [h]; simp [DenL]
 | _ :: _, _, 0, _ => by simp [DenL]
 | _ :: _, _, n + 1, ⟨u, r, e, h1, h2⟩ => by rw [e]; exact ⟨u, _, rfl, h1, h2.take n⟩
theorem DenL.drop {ρ : List Info} : ∀ {cs : List CV} {vs : List Value} (n : Nat), DenL ρ cs vs -> DenL ρ (cs.drop n) (vs.drop n)
 | [], _, n, h => by rw [h]; simp [DenL]
 | _ :: _, _, 0, h => h
 | _ :: _, _, n + 1, ⟨u, r, e, h1, h2⟩ => by rw [e]; exact h2.drop n
theorem Den.one {ρ : List Info} : ∀ {c : CV} {v : Value}, Den ρ c v -> v.oneCell' = true
 | .sc _, _, ⟨h1, h2⟩ => by rw [h1]; exact h2
 | .sl _ _ _ _ _, _, ⟨_, _, _, _, _, h, _⟩ => by rw [h]; rfl
 | .pt _ _ _ _, _, ⟨_, _, _, _, _, _, h⟩ => by rw [h]; rfl
 | .hv _, _, ⟨i, _, h1, h2⟩ => by rw [h1]; exact h2
 | .any, _, h => h
 | .er _, _, h => by
  rcases h with ⟨_, h⟩ | ⟨_, t, p, h⟩ <;> rw [h] <;> rfl
 | .rf q _ _, _, h => by
  rcases h with ⟨_, h⟩ | ⟨_, _, _, _, _, _, h⟩
  ·rw [h]; match q with
   | 0 => rfl
   | 1 => rfl
   | _ + 2 => rfl
  ·match q, h with
   | 0, ⟨_, _, h⟩ => rw [h]; rfl
   | 1, ⟨_, _, _, h⟩ => rw [h]; rfl
   | _ + 2, ⟨_, h⟩ => rw [h]; rfl
 | .rp _ _ _ _ _, _, ⟨_, _, _, _, _, _, _, _, _, _, _, _, h⟩ => by rw [h]; rfl
theorem DenL.ones {ρ : List Info} : ∀ {cs : List CV} {vs : List Value}, DenL ρ cs vs -> ∀ u ∈ vs, u.oneCell' = true
 | [], _, h, u, hu => by rw [h] at hu; cases hu
 | _ :: _, _, ⟨v, r, e, h1, h2⟩, u, hu => by
  rw [e] at hu;rcases List.mem_cons.1 hu with rfl | hu
  ·exact h1.one
  ·exact h2.ones u hu
def DenB (ρ : List Info) : Bool -> List CV -> Value -> Prop
 | true, l, v => ∃ vs, DenL ρ l vs /\ v = .agg vs.toArray
 | false, l, v => ∃ x, l = [x] /\ Den ρ x v
theorem DenB.mono {ρ ρ' : List Info} (hp : Pre ρ ρ') : ∀ {b : Bool} {l : List CV} {v : Value}, DenB ρ b l v -> DenB ρ' b l v
 | true, _, _, ⟨vs, h1, h2⟩ => ⟨vs, h1.mono hp, h2⟩
 | false, _, _, ⟨x, h1, h2⟩ => ⟨x, h1, h2.mono hp⟩
inductive KK where
 | i (k : IntKind)
 | s
@[reducible] def KK.ty : KK -> Type
 | .i _ => Int
 | .s => ByteArray
def KK.val : (κ : KK) -> κ.ty -> Value
 | .i k, n => .int k n
 | .s, b => .string b
def EntOk (ρ : List Info) (κ : KK) (agg : Bool) (τ : TC) : List (κ.ty × Nat × τ.ty) -> List MapEntry -> Prop
 | [], es => es = []
 | x :: l, es => ∃ e r, es = e :: r /\ e.key = κ.val x.1 /\ (e.born = x.2.1 /\ DenB ρ agg (τ.enc x.2.2) e.val) /\ EntOk ρ κ agg τ l r
theorem EntOk.mono {ρ ρ' : List Info} {κ : KK} {agg : Bool} {τ : TC} (hp : Pre ρ ρ') : ∀ {l : List (κ.ty × Nat × τ.ty)} {es : List MapEntry}, EntOk ρ κ agg τ l es -> EntOk ρ' κ agg τ l es
 | [], _, h => h
 | _ :: _, _, ⟨e, r, h1, h2, h3, h4⟩ => ⟨e, r, h1, h2, ⟨h3.1, h3.2.mono hp⟩, h4.mono hp⟩
def strip {α β : Type} (us : List (α × Nat × β)) : List (α × β) := us.map (fun e => (e.1, e.2.2))
def MapOk (ρ : List Info) (κ : KK) (agg : Bool) (τ : TC) (ts : List (κ.ty × τ.ty)) (ents : Array MapEntry) (cl : Nat) : Prop :=
 ∃ us : List (κ.ty × Nat × τ.ty), EntOk ρ κ agg τ us ents.toList /\ (strip us).Perm ts /\ (ts.map Prod.fst).Nodup /\ (us.map (fun e => e.2.1)).Nodup /\ ∀ e ∈ us, e.2.1 < cl
theorem MapOk.mono {ρ ρ' : List Info} {κ : KK} {agg : Bool} {τ : TC} (hp : Pre ρ ρ') {ts : List (κ.ty × τ.ty)} {ents : Array MapEntry} {cl : Nat} : MapOk ρ κ agg τ ts ents cl -> MapOk ρ' κ agg τ ts ents cl
 | ⟨us, h1, h2⟩ => ⟨us, h1.mono hp, h2⟩
inductive Root where
 | dead
 | blk (cs : List CV) (T : TypeId)
 | rows (T : TypeId) (τ : TC) (xs : List τ.ty)
 | ro (τ : TC) (xs : List τ.ty)
 | clo (f : FuncId) (first caps : List CV)
 | mp (κ : KK) (agg : Bool) (τ : TC) (ts : List (κ.ty × τ.ty))
 | ars (t : Nat) (T : TypeId) (τ : TC) (os : List (Option (List τ.ty)))
 | aro (t : Nat) (T : TypeId) (τ : TC) (os : List τ.ty)
 | arm (t : Nat) (κ : KK) (agg : Bool) (τ : TC) (os : List (Option (List (κ.ty × τ.ty))))
 | arr (t : Nat) (τ : TC) (os : List (List τ.ty))
 | it (s : ByteArray) (pos : Nat)
def ownsAt (w : World) (T k : Nat) (a : Option Addr) (cap n : Nat) (vs : List Value) : Prop :=
 vs.length = n * k /\ n <= cap /\ cap <= maxLen /\
 ((cap = 0 /\ ∀ b, a.map (·.block) = some b -> b < w.heap.size) \/ ∃ g o cur, a = some ⟨g, o, none⟩ /\ w.heap[g]? = some (.cells cur T (0, 0)) /\ o + cap * k <= cur.size /\ (cur.toList.drop o).take (n * k) = vs)
def flat (τ : TC) (xs : List τ.ty) : List CV := xs.flatMap τ.enc
inductive Ob where
 | no
 | row (T : TypeId) (τ : TC) (xs : List τ.ty)
 | mp (κ : KK) (agg : Bool) (τ : TC) (ts : List (κ.ty × τ.ty))
 | rr (τ : TC) (xs : List τ.ty)
def Root.obs : Root -> List Ob
 | .ars _ T τ os => os.map (fun o => match o with
  | some xs => .row T τ xs
  | none => .no)
 | .aro _ T τ os => os.map (fun x => .row T τ [x])
 | .arm _ κ agg τ os => os.map (fun o => match o with
  | some ts => .mp κ agg τ ts
  | none => .no)
 | .arr _ τ os => os.map (fun xs => .rr τ xs)
 | _ => []
def Root.tag : Root -> Option Nat
 | .ars t _ _ _ => some t
 | .aro t _ _ _ => some t
 | .arm t _ _ _ _ => some t
 | .arr t _ _ => some t
 | _ => none
def hdr : Value -> Option (Option Addr × Nat × Nat)
 | .pointer (some a) => some (some a, 1, 1)
 | .slice a n c => some (a, n, c)
 | _ => none
def xIb : Value -> Option Nat
 | .pointer a => a.map (·.block)
 | .slice a _ _ => a.map (·.block)
 | .map r => r
 | _ => none
def ObOk (ρ : List Info) (w : World) (v : Value) : Ob -> Prop
 | .no => True
 | .row T τ xs => ∃ a c, hdr v = some (a, xs.length, c) /\ 0 < τ.w /\ ∃ vs, DenL ρ (flat τ xs) vs /\ ownsAt w T τ.w a c xs.length vs
 | .mp κ agg τ ts => ∃ r ents cl, v = .map (some r) /\ w.heap[r]? = some (.map ents cl) /\ MapOk ρ κ agg τ ts ents cl
 | .rr τ xs => ∃ a c, v = .slice a xs.length c /\ xs.length <= c /\ c <= maxLen /\ ∃ vs, DenL ρ (flat τ xs) vs /\ (0 < xs.length -> ∃ b o, a = some ⟨b, o, none⟩ /\ b < w.heap.size /\ ∀ (j : Nat) (v : Value), vs[j]? = some v -> w.cell? ⟨b, o + j, none⟩ = some v)
def xC6 (v : Value) : Ob -> Nat -> Prop
 | .no, _ => False
 | .rr _ _, _ => False
 | _, b => xIb v = some b
def ArOk (ρ : List Info) (w : World) (vs : List Value) (os : List Ob) : Prop :=
 vs.length = os.length /\ (∀ (m : Nat) (v : Value) (o : Ob), vs[m]? = some v -> os[m]? = some o -> ObOk ρ w v o) /\
 ∀ (m m' : Nat) (v v' : Value) (o o' : Ob) (b : Nat), m ≠ m' -> vs[m]? = some v -> vs[m']? = some v' -> os[m]? = some o -> os[m']? = some o' -> xC6 v o b -> ¬ xC6 v' o' b
def RootOk (ρ : List Info) (w : World) (i : Info) : Root -> Prop
 | .dead => True
 | .blk cs T => (i.len = none /\ i.cap = cs.length) /\ ∃ b vs, i.a = some ⟨b, 0, none⟩ /\ DenL ρ cs vs /\ w.heap[b]? = some (.cells vs.toArray T (0, 0))
 | .rows T τ xs => i.len = some xs.length /\ 0 < τ.w /\ ∃ vs, DenL ρ (flat τ xs) vs /\ ownsAt w T τ.w i.a i.cap xs.length vs
 | .ro τ xs => i.len = some xs.length /\ ∃ vs, DenL ρ (flat τ xs) vs /\ (0 < xs.length -> ∃ b o, i.a = some ⟨b, o, none⟩ /\ b < w.heap.size /\ ∀ (j : Nat) (v : Value), vs[j]? = some v -> w.cell? ⟨b, o + j, none⟩ = some v)
 | .clo f first caps => ∃ fs cs, DenL ρ first fs /\ DenL ρ caps cs /\ i.val = .func (.func f) fs.toArray cs.toArray
 | .mp κ agg τ ts => ∃ r ents clock, i.val = .map (some r) /\ i.a = some ⟨r, 0, none⟩ /\ w.heap[r]? = some (.map ents clock) /\ MapOk ρ κ agg τ ts ents clock
 | .ars t T τ os => ArOk ρ w (i.objs t) (Root.ars t T τ os).obs
 | .aro t T τ os => ArOk ρ w (i.objs t) (Root.aro t T τ os).obs
 | .arm t k agg τ os => ArOk ρ w (i.objs t) (Root.arm t k agg τ os).obs
 | .arr t τ os => ArOk ρ w (i.objs t) (Root.arr t τ os).obs
 | .it s pos => i.len = none /\ ∃ b, i.a = some ⟨b, 0, none⟩ /\ w.heap[b]? = some (.stringIter s pos)
def xCl (vs : List Value) (os : List Ob) (b : Nat) : Prop := ∃ (m : Nat) (v : Value) (o : Ob), vs[m]? = some v /\ os[m]? = some o /\ xC6 v o b
def own (i : Info) (r : Root) (b : Nat) : Prop :=
 match r with
 | .blk _ _ => i.a.map (·.block) = some b
 | .rows _ _ _ => i.a.map (·.block) = some b
 | .mp _ _ _ _ => i.a.map (·.block) = some b
 | .it _ _ => i.a.map (·.block) = some b
 | .ars t T τ os => xCl (i.objs t) (Root.ars t T τ os).obs b
 | .aro t T τ os => xCl (i.objs t) (Root.aro t T τ os).obs b
 | .arm t k agg τ os => xCl (i.objs t) (Root.arm t k agg τ os).obs b
 | _ => False
def xNC (v : Value) : Ob -> Nat -> Prop
 | .rr _ xs, b => xs ≠ [] /\ xIb v = some b
 | _, _ => False
def xLv (vs : List Value) (os : List Ob) (b : Nat) : Prop := ∃ (m : Nat) (v : Value) (o : Ob), vs[m]? = some v /\ os[m]? = some o /\ xNC v o b
def foot (i : Info) (r : Root) (b : Nat) : Prop :=
 match r with
 | .ro _ xs => match xs with
  | [] => False
  | _ :: _ => i.a.map (·.block) = some b
 | .arr t τ os => xLv (i.objs t) (Root.arr t τ os).obs b
 | r => own i r b
def obL (v : Value) : Ob -> List Nat
 | .no => []
 | .rr _ _ => []
 | _ => (xIb v).toList
def arL : List Value -> List Ob -> List Nat
 | v :: vs, o :: os => obL v o ++ arL vs os
 | _, _ => []
def ownL (i : Info) : Root -> List Nat
 | .blk _ _ => (i.a.map (·.block)).toList
 | .rows _ _ _ => (i.a.map (·.block)).toList
 | .mp _ _ _ _ => (i.a.map (·.block)).toList
 | .it _ _ => (i.a.map (·.block)).toList
 | .ars t T τ os => arL (i.objs t) (Root.ars t T τ os).obs
 | .aro t T τ os => arL (i.objs t) (Root.aro t T τ os).obs
 | .arm t k agg τ os => arL (i.objs t) (Root.arm t k agg τ os).obs
 | _ => []
def obF (v : Value) : Ob -> List Nat
 | .rr _ xs => match xs with
  | [] => []
  | _ :: _ => (xIb v).toList
 | _ => []
def arF : List Value -> List Ob -> List Nat
 | v :: vs, o :: os => obF v o ++ arF vs os
 | _, _ => []
def xZT (i : Info) : Root -> List Nat
 | .ro _ xs => match xs with
  | [] => []
  | _ :: _ => (i.a.map (·.block)).toList
 | .arr t τ os => arF (i.objs t) (Root.arr t τ os).obs
 | r => ownL i r
theorem xXV : ∀ {vs : List Value} {os : List Ob} {b : Nat}, b ∈ arL vs os ↔ xCl vs os b
 | [], os, b => by
  constructor
  ·intro h; cases os <;> simp [arL] at h
  ·rintro ⟨m, v, o, h, _⟩; simp at h
 | v :: vs, [], b => by
  constructor
  ·intro h; simp [arL] at h
  ·rintro ⟨m, u, o, _, h, _⟩; simp at h
 | v :: vs, o :: os, b => by
  have ih := xXV (vs := vs) (os := os) (b := b);have h0 : b ∈ obL v o ↔ xC6 v o b := by cases o <;> simp [xC6, obL]
  rw [arL, List.mem_append, h0, ih];constructor
  ·rintro (h | ⟨m, u, q, h1, h2, h3⟩)
   ·exact ⟨0, v, o, rfl, rfl, h⟩
   ·exact ⟨m + 1, u, q, by simpa using h1, by simpa using h2, h3⟩
  ·rintro ⟨m, u, q, h1, h2, h3⟩
   cases m with
   | zero => simp only [List.getElem?_cons_zero, Option.some.injEq] at h1 h2; subst h1; subst h2; exact .inl h3
   | succ m => exact .inr ⟨m, u, q, by simpa using h1, by simpa using h2, h3⟩
theorem xQR {i : Info} {r : Root} {b : Nat} : b ∈ ownL i r ↔ own i r b := by
 cases r <;> first | exact xXV | simp [ownL, own]
theorem xXX : ∀ {vs : List Value} {os : List Ob} {b : Nat}, b ∈ arF vs os ↔ xLv vs os b
 | [], os, b => by
  constructor
  ·intro h; cases os <;> simp [arF] at h
  ·rintro ⟨m, v, o, h, _⟩; simp at h
 | v :: vs, [], b => by
  constructor
  ·intro h; simp [arF] at h
  ·rintro ⟨m, u, o, _, h, _⟩; simp at h
 | v :: vs, o :: os, b => by
  have ih := xXX (vs := vs) (os := os) (b := b);have h0 : b ∈ obF v o ↔ xNC v o b := by
   cases o with
   | rr τ xs => cases xs <;> simp [xNC, obF]
   | _ => simp [xNC, obF]
  rw [arF, List.mem_append, h0, ih];constructor
  ·rintro (h | ⟨m, u, q, h1, h2, h3⟩)
   ·exact ⟨0, v, o, rfl, rfl, h⟩
   ·exact ⟨m + 1, u, q, by simpa using h1, by simpa using h2, h3⟩
  ·rintro ⟨m, u, q, h1, h2, h3⟩
   cases m with
   | zero => simp only [List.getElem?_cons_zero, Option.some.injEq] at h1 h2; subst h1; subst h2; exact .inl h3
   | succ m => exact .inr ⟨m, u, q, by simpa using h1, by simpa using h2, h3⟩
theorem xWs {i : Info} {r : Root} {b : Nat} : b ∈ xZT i r ↔ foot i r b := by
 cases r with
 | ro τ xs => cases xs <;> simp [xZT, foot]
 | arr t τ os => exact xXX
 | _ => simp only [xZT, foot]; exact xQR
theorem xAu {i : Info} {r : Root} {b : Nat} (h : own i r b) : foot i r b := by
 cases r <;> first | exact h | cases h
def Cln (i : Info) (r : Root) : Prop := r = .dead \/ ∀ t, r.tag ≠ some t -> i.objs t = []
structure HOk (S F : List Nat) (W0 : World) (ρ : List Info) (h : List Root) (w : World) : Prop where
 ext : Ex S W0 w
 len : ρ.length = h.length
 ok : ∀ (id : Nat) (r : Root) (i : Info), h[id]? = some r -> ρ[id]? = some i -> RootOk ρ w i r
 sep : ∀ (p q : Nat) (r s : Root) (i j : Info) (b : Nat), p ≠ q -> h[p]? = some r -> h[q]? = some s -> ρ[p]? = some i -> ρ[q]? = some j -> own i r b -> ¬ foot j s b
 mine : ∀ (p : Nat) (r : Root) (i : Info) (b : Nat), h[p]? = some r -> ρ[p]? = some i -> own i r b -> W0.heap.size <= b \/ b ∈ S
 near : ∀ (p : Nat) (r : Root) (i : Info) (b : Nat), h[p]? = some r -> ρ[p]? = some i -> foot i r b -> W0.heap.size <= b \/ b ∈ S \/ b ∈ F
 lay : gOk W0
 out : ∀ b ∈ xJw, b < W0.heap.size /\ b ∉ S
 cov : ∀ (p t : Nat) (r : Root) (i : Info), h[p]? = some r -> ρ[p]? = some i -> r.tag = some t -> ∀ (id : Nat) (j : Info) (m : Nat) (v : Value), ρ[id]? = some j -> (j.objs t)[m]? = some v -> (i.objs t)[m]? = some v
 cln : ∀ (p : Nat) (r : Root) (i : Info), h[p]? = some r -> ρ[p]? = some i -> Cln i r
theorem ObOk.mono {ρ ρ' : List Info} {w : World} {v : Value} (hp : Pre ρ ρ') : ∀ {o : Ob}, ObOk ρ w v o -> ObOk ρ' w v o
 | .no, _ => trivial
 | .row _ _ _, ⟨a, c, h1, h2, vs, h3, h4⟩ => ⟨a, c, h1, h2, vs, h3.mono hp, h4⟩
 | .mp _ _ _ _, ⟨r, es, cl, h1, h2, h3⟩ => ⟨r, es, cl, h1, h2, h3.mono hp⟩
 | .rr _ _, ⟨a, c, h1, h2, h3, vs, h4, h5⟩ => ⟨a, c, h1, h2, h3, vs, h4.mono hp, h5⟩
theorem ArOk.mono {ρ ρ' : List Info} {w : World} {vs : List Value} {os : List Ob} (hp : Pre ρ ρ') (h : ArOk ρ w vs os) : ArOk ρ' w vs os :=
 ⟨h.1, fun m v o h1 h2 => (h.2.1 m v o h1 h2).mono hp, h.2.2⟩
theorem ownsAt.lt {w : World} {T k : Nat} {a : Option Addr} {c n : Nat} {vs : List Value} (h : ownsAt w T k a c n vs) {b : Nat} (hb : a.map (·.block) = some b) : b < w.heap.size := by
 obtain ⟨_, _, _, h4⟩ := h;rcases h4 with ⟨_, h4⟩ | ⟨g, o, cur, h4, h5, _⟩
 ·exact h4 b hb
 ·simp only [h4, Option.map_some, Option.some.injEq] at hb;subst hb; exact lt_of_block h5
theorem ownsAt.ex {S : List Nat} {w w' : World} {T k : Nat} {a : Option Addr} {c n : Nat} {vs : List Value} (h : ownsAt w T k a c n vs) (hE : Ex S w w') (hs : ∀ b, a.map (·.block) = some b -> b ∉ S) : ownsAt w' T k a c n vs := by
 obtain ⟨h1, h2, h3, h4⟩ := h;refine ⟨h1, h2, h3, ?_⟩;rcases h4 with h4 | ⟨g, o, cur, h4, h5, h6⟩
 ·exact .inl ⟨h4.1, fun b hb => Nat.lt_of_lt_of_le (h4.2 b hb) hE.size⟩
 ·exact .inr ⟨g, o, cur, h4, hE.heap (hs g (by simp [h4])) h5, h6⟩
theorem xMe {v : Value} {a : Option Addr} {n c : Nat} (h : hdr v = some (a, n, c)) : xIb v = a.map (·.block) := by
 unfold hdr at h;split at h <;> first | (cases h; rfl) | cases h
theorem ObOk.lt {ρ : List Info} {w : World} {v : Value} {o : Ob} (h : ObOk ρ w v o) {b : Nat} (hb : xC6 v o b) : b < w.heap.size := by
 cases o with
 | no => cases hb
 | row T τ xs =>
  obtain ⟨a, c, h1, _, vs, _, h2⟩ := h;exact h2.lt (by rw [<- xMe h1]; exact hb)
 | rr τ xs => cases hb
 | mp κ agg τ ts =>
  obtain ⟨r, ents, cl, h1, h2, _⟩ := h;subst h1;have : r = b := by simpa [xC6, xIb] using hb
  subst this;exact lt_of_block h2
theorem ObOk.ex {ρ : List Info} {S : List Nat} {w w' : World} {v : Value} {o : Ob} (h : ObOk ρ w v o) (hE : Ex S w w') (hs : ∀ b, xC6 v o b -> b ∉ S) (hf : ∀ b, xNC v o b -> b ∉ S) : ObOk ρ w' v o := by
 cases o with
 | no => trivial
 | row T τ xs =>
  obtain ⟨a, c, h1, h0, vs, h2, h3⟩ := h;exact ⟨a, c, h1, h0, vs, h2, h3.ex hE (fun b hb => hs b (by show xIb v = some b; rw [xMe h1]; exact hb))⟩
 | mp κ agg τ ts =>
  obtain ⟨r, ents, cl, h1, h2, h3⟩ := h;exact ⟨r, ents, cl, h1, hE.heap (hs r (by subst h1; rfl)) h2, h3⟩
 | rr τ xs =>
  obtain ⟨a, c, h1, h2, h3, vs, h4, h5⟩ := h;refine ⟨a, c, h1, h2, h3, vs, h4, fun hn => ?_⟩;obtain ⟨b, o, h6, h7, h8⟩ := h5 hn;have hb : b ∉ S := hf b ⟨by intro e; rw [e] at hn; simp at hn, by rw [h1, h6]; rfl⟩;exact ⟨b, o, h6, Nat.lt_of_lt_of_le h7 hE.size, fun j v hv => hE.cell hb (h8 j v hv)⟩
theorem ArOk.get {ρ : List Info} {w : World} {vs : List Value} {os : List Ob} (h : ArOk ρ w vs os) {b : Nat} (hb : xCl vs os b) : b < w.heap.size := by
 obtain ⟨m, v, o, h1, h2, h3⟩ := hb;exact (h.2.1 m v o h1 h2).lt h3
theorem ArOk.getF {ρ : List Info} {w : World} {vs : List Value} {os : List Ob} (h : ArOk ρ w vs os) {b : Nat} (hb : xLv vs os b) : b < w.heap.size := by
 obtain ⟨m, v, o, h1, h2, h3⟩ := hb
 cases o with
 | rr τ xs =>
  obtain ⟨a, c, h4, _, _, us, _, h5⟩ := h.2.1 m v _ h1 h2;obtain ⟨h6, h7⟩ := h3;obtain ⟨b', o, h8, h9, _⟩ := h5 (by cases xs with | nil => exact absurd rfl h6 | cons => simp);rw [h4, h8] at h7;cases h7; exact h9
 | _ => cases h3
theorem ArOk.ex {ρ : List Info} {S : List Nat} {w w' : World} {vs : List Value} {os : List Ob} (h : ArOk ρ w vs os) (hE : Ex S w w') (hs : ∀ b, xCl vs os b -> b ∉ S) (hf : ∀ b, xLv vs os b -> b ∉ S) : ArOk ρ w' vs os :=
 ⟨h.1, fun m v o h1 h2 => (h.2.1 m v o h1 h2).ex hE (fun b hb => hs b ⟨m, v, o, h1, h2, hb⟩) (fun b hb => hf b ⟨m, v, o, h1, h2, hb⟩), h.2.2⟩
theorem xQT {vs : List Value} {os : List Ob} (h : ∀ o ∈ os, ∀ τ xs, o ≠ Ob.rr τ xs) {b : Nat} : ¬ xLv vs os b := by
 rintro ⟨m, v, o, _, h2, h3⟩
 cases o with
 | rr τ xs => exact h _ (List.mem_of_getElem? h2) τ xs rfl
 | _ => cases h3
theorem Root.obs_rr {r : Root} (h : ∀ t τ os, r ≠ .arr t τ os) : ∀ o ∈ r.obs, ∀ τ xs, o ≠ Ob.rr τ xs := by
 intro o ho τ xs e;subst e
 cases r with
 | ars t T τ os =>
  obtain ⟨x, _, h2⟩ := List.mem_map.1 ho;cases x <;> cases h2
 | aro t T τ os =>
  obtain ⟨x, _, h2⟩ := List.mem_map.1 ho;cases h2
 | arm t κ agg τ os =>
  obtain ⟨x, _, h2⟩ := List.mem_map.1 ho;cases x <;> cases h2
 | arr t τ os => exact h _ _ _ rfl
 | _ => simp [Root.obs] at ho
theorem RootOk.mono {ρ ρ' : List Info} {w : World} {i : Info} (hp : Pre ρ ρ') : ∀ {r : Root}, RootOk ρ w i r -> RootOk ρ' w i r
 | .dead, _ => trivial
 | .blk _ _, ⟨h0, b, vs, h1, h2, h3⟩ => ⟨h0, b, vs, h1, h2.mono hp, h3⟩
 | .rows _ _ _, ⟨h0, h9, vs, h1, h2⟩ => ⟨h0, h9, vs, h1.mono hp, h2⟩
 | .ro _ _, ⟨h0, vs, h1, h2⟩ => ⟨h0, vs, h1.mono hp, h2⟩
 | .clo _ _ _, ⟨fs, cs, h1, h2, h3⟩ => ⟨fs, cs, h1.mono hp, h2.mono hp, h3⟩
 | .mp _ _ _ _, ⟨r, es, c, h1, h2, h3, h4⟩ => ⟨r, es, c, h1, h2, h3, h4.mono hp⟩
 | .ars _ _ _ _, h => ArOk.mono hp h
 | .aro _ _ _ _, h => ArOk.mono hp h
 | .arm _ _ _ _ _, h => ArOk.mono hp h
 | .arr _ _ _, h => ArOk.mono hp h
 | .it _ _, h => h
theorem RootOk.lt {ρ : List Info} {w : World} {i : Info} {r : Root} (h : RootOk ρ w i r) {b : Nat} (hb : foot i r b) : b < w.heap.size := by
 cases r with
 | dead => cases hb
 | blk cs T =>
  obtain ⟨_, b', vs, h1, _, h3⟩ := h;simp only [foot, own, h1, Option.map_some, Option.some.injEq] at hb;subst hb; exact lt_of_block h3
 | rows T τ xs =>
  obtain ⟨_, _, vs, _, _, _, _, h4⟩ := h;rcases h4 with ⟨_, h4⟩ | ⟨g, o, cur, h4, h5, _⟩
  ·exact h4 b hb
  ·simp only [foot, own, h4, Option.map_some, Option.some.injEq] at hb;subst hb; exact lt_of_block h5
 | ro τ xs =>
  obtain ⟨_, vs, _, h3⟩ := h
  cases xs with
  | nil => cases hb
  | cons x xs =>
   obtain ⟨b', o, h4, h5, _⟩ := h3 (by simp);simp only [foot, h4, Option.map_some, Option.some.injEq] at hb;subst hb; exact h5
 | clo f a c => cases hb
 | mp κ agg τ es =>
  obtain ⟨r, ents, c, _, h2, h3, _⟩ := h;simp only [foot, own, h2, Option.map_some, Option.some.injEq] at hb;subst hb; exact lt_of_block h3
 | ars t T τ os => exact ArOk.get h hb
 | aro t T τ os => exact ArOk.get h hb
 | arm t k agg τ os => exact ArOk.get h hb
 | arr t τ os => exact ArOk.getF h hb
 | it s pos =>
  obtain ⟨_, b', h1, h3⟩ := h;simp only [foot, own, h1, Option.map_some, Option.some.injEq] at hb;subst hb; exact lt_of_block h3
theorem RootOk.ex {ρ : List Info} {S : List Nat} {w w' : World} {i : Info} {r : Root} (h : RootOk ρ w i r) (hE : Ex S w w') (hs : ∀ b, foot i r b -> b ∉ S) : RootOk ρ w' i r := by
 cases r with
 | dead => trivial
 | blk cs T =>
  obtain ⟨h0, b, vs, h1, h2, h3⟩ := h;exact ⟨h0, b, vs, h1, h2, hE.heap (hs b (by simp [foot, own, h1])) h3⟩
 | rows T τ xs =>
  obtain ⟨h0, h9, vs, h1, h2, h3, h3', h4⟩ := h;refine ⟨h0, h9, vs, h1, h2, h3, h3', ?_⟩;rcases h4 with h4 | ⟨g, o, cur, h4, h5, h6⟩
  ·exact .inl ⟨h4.1, fun b hb => Nat.lt_of_lt_of_le (h4.2 b hb) hE.size⟩
  ·exact .inr ⟨g, o, cur, h4, hE.heap (hs g (by simp [foot, own, h4])) h5, h6⟩
 | ro τ xs =>
  obtain ⟨h0, vs, h1, h2⟩ := h;refine ⟨h0, vs, h1, fun hn => ?_⟩;obtain ⟨b, o, h4, h5, h6⟩ := h2 hn;have hb : b ∉ S := hs b (by cases xs with | nil => simp at hn | cons x xs => simp [foot, h4]);exact ⟨b, o, h4, Nat.lt_of_lt_of_le h5 hE.size, fun j v hv => hE.cell hb (h6 j v hv)⟩
 | clo f a c => exact h
 | mp κ agg τ es =>
  obtain ⟨r, ents, c, h1, h2, h3, h4⟩ := h;exact ⟨r, ents, c, h1, h2, hE.heap (hs r (by simp [foot, own, h2])) h3, h4⟩
 | it s pos =>
  obtain ⟨h0, b, h1, h3⟩ := h;exact ⟨h0, b, h1, hE.heap (hs b (by simp [foot, own, h1])) h3⟩
 | ars t T τ os => exact ArOk.ex h hE hs (fun b hb => absurd hb (xQT (Root.obs_rr (by intros; exact fun e => by cases e))))
 | aro t T τ os => exact ArOk.ex h hE hs (fun b hb => absurd hb (xQT (Root.obs_rr (by intros; exact fun e => by cases e))))
 | arm t k agg τ os => exact ArOk.ex h hE hs (fun b hb => absurd hb (xQT (Root.obs_rr (by intros; exact fun e => by cases e))))
 | arr t τ os => exact ArOk.ex h hE (fun b hb => by
   obtain ⟨m, v, o, _, h2, h3⟩ := hb;simp only [Root.obs, List.getElem?_map] at h2
   cases hq : os[m]? with
   | none => rw [hq] at h2; cases h2
   | some x => rw [hq] at h2; cases h2; cases h3) hs
section
variable {S F : List Nat} {W0 : World} {ρ : List Info} {h : List Root} {w w' : World}
theorem HOk.info (hh : HOk S F W0 ρ h w) {id : Nat} {r : Root} (hr : h[id]? = some r) : ∃ i, ρ[id]? = some i := by
 have := (List.getElem?_eq_some_iff.1 hr).1;exact ⟨_, List.getElem?_eq_getElem (by rw [hh.len]; exact this)⟩
theorem HOk.drew (hh : HOk S F W0 ρ h w) : HOk S F W0 ρ h w.drew :=
 ⟨hh.ext.drew, hh.len, fun id r i a b => (hh.ok id r i a b).ex ((Ex.refl [] _).drew) (by simp), hh.sep, hh.mine, hh.near, hh.lay, hh.out, hh.cov, hh.cln⟩
theorem HOk.ext' (hh : HOk S F W0 ρ h w) (hE : Ext w w') : HOk S F W0 ρ h w' :=
 ⟨hh.ext.trans (hE.ex S), hh.len, fun id r i a b => (hh.ok id r i a b).ex hE (by simp), hh.sep, hh.mine, hh.near, hh.lay, hh.out, hh.cov, hh.cln⟩
theorem HOk.layW (hh : HOk S F W0 ρ h w) : gOk w := xRF (fun b hb => hh.ext.block b (hh.out b hb).1 (hh.out b hb).2) hh.lay
theorem HOk.own_gBlk (hh : HOk S F W0 ρ h w) {p : Nat} {r : Root} {i : Info} {b : Nat} (hr : h[p]? = some r) (hi : ρ[p]? = some i) (ho : own i r b) (hb : b ∈ xJw) : False := by
 have h1 := hh.out b hb;rcases hh.mine p r i b hr hi ho with h2 | h2
 ·omega
 ·exact h1.2 h2
theorem HOk.outW (hh : HOk S F W0 ρ h w) {b : Nat} (hb : b ∈ xJw) : b < w.heap.size := Nat.lt_of_lt_of_le (hh.out b hb).1 hh.ext.size
theorem HOk.notOwn (hh : HOk S F W0 ρ h w) {b : Nat} (hb : b ∈ xJw) {p : Nat} {r : Root} {i : Info} (hr : h[p]? = some r) (hi : ρ[p]? = some i) : ¬ own i r b := fun e => by
 rcases hh.mine p r i b hr hi e with h1 | h1
 ·have := (hh.out b hb).1; omega
 ·exact (hh.out b hb).2 h1
def xVi (L : List Nat) (h : List Root) (p : Nat := 0) : List Root :=
 match h with
 | [] => []
 | r :: rs => (bif L.any (Nat.beq p) then r else .dead) :: xVi L rs (p + 1)
theorem xCb (L : List Nat) : ∀ (h : List Root) (p id : Nat) (r : Root), (xVi L h p)[id]? = some r -> (h[id]? = some r /\ L.any (Nat.beq (p + id)) = true) \/ (r = .dead /\ id < h.length)
 | [], _, _, _, e => by simp [xVi] at e
 | x :: h, p, 0, r, e => by
  simp only [xVi, List.getElem?_cons_zero, Option.some.injEq] at e
  cases hb : L.any (Nat.beq p) with
  | true => rw [hb] at e; exact .inl ⟨by simpa using e, by simp⟩
  | false => rw [hb] at e; exact .inr ⟨e.symm, by simp⟩
 | x :: h, p, id + 1, r, e => by
  simp only [xVi, List.getElem?_cons_succ] at e;rcases xCb L h (p + 1) id r e with ⟨h1, h2⟩ | ⟨h1, h2⟩
  ·exact .inl ⟨by simpa using h1, by rw [show p + (id + 1) = p + 1 + id by omega]; exact h2⟩
  ·exact .inr ⟨h1, by simp; omega⟩
theorem xQ1 (L : List Nat) : ∀ (h : List Root) (p : Nat), (xVi L h p).length = h.length
 | [], _ => rfl
 | x :: h, p => by simp [xVi, xQ1 L h (p + 1)]
end
end Go.Proofs.YtnomnijhlbalaaaGreatDoor
