/- A part of the proof of the theorem of the last file. No condition. By an AI agent. -/
import Derived.Test.YtnomnijhlbalaaaGreatDoorWZQB4
import Derived.Lib.LaidTab
import Derived.Lib.ItoaNum
import Derived.ArgAppend
namespace Go.Proofs.YtnomnijhlbalaaaGreatDoor
open Go.RowKit
def xIJ : List Nat := [0, 1, 2, 3, 6, 9, 10]
def gT : List Nat := [0, 1, 2]
def xG1 : Nat -> List Value
 | 1 => [.bool true, .bool false, .bool false]
 | 2 => [.bool false, .bool true, .bool true]
 | 0 => [.int .i64 0, .bool false, .int .i64 20000, .bool true, .int .i64 1000000000000, .bool true, .int .i64 1000000000000, .bool false, .int .i64 10000, .bool false]
 | _ => []
def gOk (w : World) : Prop := (∀ b ∈ gT, ∃ T f, w.heap[b]? = some (.cells (xG1 b).toArray T f)) /\ (∃ m, w.cell? ⟨3, 0, none⟩ = some (.int .i64 m)) /\ (∃ t p, w.cell? ⟨9, 0, none⟩ = some (.iface t p)) /\ (∃ t p, w.cell? ⟨10, 0, none⟩ = some (.iface t p)) /\ ∃ T f, w.heap[6]? = some (.cells (Lib.pow10Tab.map fun z => Value.int .u64 z).toArray T f)
theorem xOL {w w' : World} {b : Nat} (h : w'.heap[b]? = w.heap[b]?) : w'.cell? ⟨b, 0, none⟩ = w.cell? ⟨b, 0, none⟩ := by
 unfold World.cell?; simp only [h]
theorem gT_sub {b : Nat} (h : b ∈ gT) : b ∈ xIJ := by
 simp only [gT, List.mem_cons, List.not_mem_nil, or_false] at h;rcases h with rfl | rfl | rfl <;> simp [xIJ]
theorem xQi {w w' : World} (h : ∀ b ∈ xIJ, w'.heap[b]? = w.heap[b]?) (hg : gOk w) : gOk w' := by
 obtain ⟨h0, h1, h2, h3, h4⟩ := hg;refine ⟨fun b hb => ?_, ?_, ?_, ?_, ?_⟩
 ·obtain ⟨T, f, e⟩ := h0 b hb;exact ⟨T, f, by rw [h b (gT_sub hb)]; exact e⟩
 ·rw [xOL (h 3 (by simp [xIJ]))]; exact h1
 ·rw [xOL (h 9 (by simp [xIJ]))]; exact h2
 ·rw [xOL (h 10 (by simp [xIJ]))]; exact h3
 ·rw [h 6 (by simp [xIJ])]; exact h4
theorem xLx {w : World} {b : Nat} {v : Value} (h : w.cell? ⟨b, 0, none⟩ = some v) : ∃ c T f, w.heap[b]? = some (.cells c T f) := by
 unfold World.cell? at h;simp only at h;split at h
 ·rename_i c T f hc; exact ⟨_, _, _, hc⟩
 ·cases h
theorem xNa {w : World} (hg : gOk w) {b : Nat} (hb : b ∈ xIJ) : ∃ c T f, w.heap[b]? = some (.cells c T f) := by
 obtain ⟨h0, ⟨m, h1⟩, ⟨t, p, h2⟩, ⟨t', p', h3⟩, T, f, h4⟩ := hg;simp only [xIJ, List.mem_cons, List.not_mem_nil, or_false] at hb;rcases hb with rfl | rfl | rfl | rfl | rfl | rfl | rfl
 ·obtain ⟨T, f, e⟩ := h0 0 (by simp [gT]); exact ⟨_, _, _, e⟩
 ·obtain ⟨T, f, e⟩ := h0 1 (by simp [gT]); exact ⟨_, _, _, e⟩
 ·obtain ⟨T, f, e⟩ := h0 2 (by simp [gT]); exact ⟨_, _, _, e⟩
 ·exact xLx h1
 ·exact ⟨_, _, _, h4⟩
 ·exact xLx h2
 ·exact xLx h3
def refOf (t : Nat) : Option (Nat × Nat) := bif Nat.beq t 119 then some (0, 0) else bif Nat.beq t 95 then some (2, 1) else bif Nat.beq t 230 then some (0, 2) else bif Nat.beq t 69 then some (1, 3) else bif Nat.beq t 234 then some (1, 4) else bif Nat.beq t 258 then some (0, 2) else none
def unpFn (_ : Nat) : List Nat := []
inductive TC where
 | int (k : IntKind)
 | bool
 | str
 | cv
 | nil
 | er
 | rf (q t : Nat)
 | pair (a b : TC)
inductive CV where
 | sc (v : Value)
 | sl (id k off : Nat) (n c : Option Nat)
 | pt (id k row j : Nat)
 | hv (id : Nat)
 | er (ok : Bool)
 | rf (q t n : Nat)
 | rp (t n k row j : Nat)
 | any
@[reducible] def TC.ty : TC -> Type
 | .int _ => Int
 | .bool => Bool
 | .str => ByteArray
 | .cv => CV
 | .nil => Unit
 | .er => Bool
 | .rf _ _ => Nat
 | .pair a b => a.ty × b.ty
def TC.w : TC -> Nat
 | .nil => 0
 | .pair a b => a.w + b.w
 | _ => 1
def TC.enc : (U : TC) -> U.ty -> List CV
 | .int k, n => [.sc (.int k n)]
 | .bool, b => [.sc (.bool b)]
 | .str, s => [.sc (.string s)]
 | .cv, c => [c]
 | .nil, _ => []
 | .er, b => [.er b]
 | .rf q t, n => [.rf q t n]
 | .pair a b, x => a.enc x.1 ++ b.enc x.2
def kix : IntKind -> Nat
 | .i8 => 0
 | .i16 => 1
 | .i32 => 2
 | .i64 => 3
 | .u8 => 4
 | .u16 => 5
 | .u32 => 6
 | .u64 => 7
theorem xDU {a b : IntKind} (h : Nat.beq (kix a) (kix b) = true) : a = b := by
 cases a <;> cases b <;> first | rfl | cases h
def TC.dec : (U : TC) -> List CV -> Option (U.ty × List CV)
 | .int k, l => match l with
  | .sc (.int k' n) :: r => bif Nat.beq (kix k) (kix k') then some (n, r) else none
  | _ => none
 | .bool, l => match l with
  | .sc (.bool b) :: r => some (b, r)
  | _ => none
 | .str, l => match l with
  | .sc (.string s) :: r => some (s, r)
  | _ => none
 | .cv, l => match l with
  | c :: r => some (c, r)
  | _ => none
 | .nil, l => some ((), l)
 | .er, l => match l with
  | .er b :: r => some (b, r)
  | _ => none
 | .rf q t, l => match l with
  | .rf q' t' n :: r => bif Nat.beq q q' && Nat.beq t t' then some (n, r) else none
  | _ => none
 | .pair a b, l => match a.dec l with
  | some (x, r) => match b.dec r with
   | some (y, r') => some ((x, y), r')
   | none => none
  | none => none
def TC.dflt : (U : TC) -> U.ty
 | .int _ => (0 : Int)
 | .bool => false
 | .str => ByteArray.empty
 | .cv => CV.sc (.bool false)
 | .nil => ()
 | .er => true
 | .rf _ _ => (0 : Nat)
 | .pair a b => (a.dflt, b.dflt)
theorem TC.dec_enc : ∀ (U : TC) (l : List CV) (x : U.ty) (r : List CV), U.dec l = some (x, r) -> l = U.enc x ++ r
 | .int k, l, x, r, h => by
  simp only [TC.dec] at h;split at h
  ·rename_i k' n r'
   cases hk : Nat.beq (kix k) (kix k') with
   | false => rw [hk] at h; cases h
   | true =>
    rw [hk] at h;have := xDU hk;subst this;cases h; rfl
  ·cases h
 | .bool, l, x, r, h => by
  simp only [TC.dec] at h;split at h
  ·cases h; rfl
  ·cases h
 | .str, l, x, r, h => by
  simp only [TC.dec] at h;split at h
  ·cases h; rfl
  ·cases h
 | .cv, l, x, r, h => by
  simp only [TC.dec] at h;split at h
  ·cases h; rfl
  ·cases h
 | .er, l, x, r, h => by
  simp only [TC.dec] at h;split at h
  ·cases h; rfl
  ·cases h
 | .rf q t, l, x, r, h => by
  simp only [TC.dec] at h;split at h
  ·rename_i q' t' n r'
   cases hk : (Nat.beq q q' && Nat.beq t t') with
   | false => rw [hk] at h; cases h
   | true =>
    rw [hk] at h;simp only [Bool.and_eq_true] at hk;have e1 := nbT hk.1;have e2 := nbT hk.2;subst e1; subst e2;cases h; rfl
  ·cases h
 | .nil, l, x, r, h => by
  simp only [TC.dec] at h;cases h; rfl
 | .pair a b, l, x, r, h => by
  simp only [TC.dec] at h;split at h
  ·rename_i y r1 h1;split at h
   ·rename_i z r2 h2;cases h;rw [TC.dec_enc a _ _ _ h1, TC.dec_enc b _ _ _ h2];simp [TC.enc]
   ·cases h
  ·cases h
theorem TC.enc_len : ∀ (U : TC) (x : U.ty), (U.enc x).length = U.w
 | .int _, _ => rfl
 | .bool, _ => rfl
 | .str, _ => rfl
 | .cv, _ => rfl
 | .nil, _ => rfl
 | .er, _ => rfl
 | .rf _ _, _ => rfl
 | .pair a b, x => by simp [TC.enc, TC.w, TC.enc_len a, TC.enc_len b]
def TC.dec1 (U : TC) (l : List CV) : Option U.ty :=
 match U.dec l with
 | some (x, []) => some x
 | _ => none
theorem TC.dec1_enc {U : TC} {l : List CV} {x : U.ty} (h : U.dec1 l = some x) : l = U.enc x := by
 unfold TC.dec1 at h;split at h
 ·rename_i y hy;cases h;simpa using TC.dec_enc U l _ _ hy
 ·cases h
structure Info where
 (a : Option Addr) (cap : Nat) (len : Option Nat) (val : Value)
def Info.objs (i : Info) (t : Nat) : List Value :=
 match i.val with
 | .tuple ⟨.int _ t' :: l⟩ => if t' = (t : Int) then l else []
 | _ => []
def nilQ : Nat -> Value
 | 0 => .pointer none
 | 1 => .slice none 0 0
 | _ => .map none
def isQ : Nat -> Value -> Prop
 | 0, v => ∃ b o, v = .pointer (some ⟨b, o, none⟩)
 | 1, v => ∃ a n c, v = .slice a n c
 | _, v => ∃ r, v = .map (some r)
def hdA : Value -> Option (Nat × Nat × Nat)
 | .pointer (some ⟨b, o, none⟩) => some (b, o, 1)
 | .slice (some ⟨b, o, none⟩) n _ => some (b, o, n)
 | _ => none
def Info.has (i : Info) (k row j : Nat) : Prop := (∀ m, i.len = some m -> row < m) /\ (i.len = none -> k = 1 -> row + j < i.cap)
def Info.cnt (i : Info) (off : Nat) (n : Option Nat) (nn : Nat) : Prop :=
 match n with
 | some x => nn = x
 | none => ∃ m, i.len = some m /\ nn = m - off
def Den (O : List Info) : CV -> Value -> Prop
 | .sc v', v => v = v' /\ v'.oneCell' = true
 | .sl id k off n c, v => ∃ i a' c' nn, O[id]? = some i /\ v = .slice a' nn c' /\ nn <= c' /\ c' <= maxLen /\ (0 < nn -> ∃ b o, i.a = some ⟨b, o, none⟩) /\ i.cnt off n nn /\
   match c with
   | none => (∃ m, i.len = some m /\ off + nn <= m) /\ c' = i.cap - off /\ a'.map (·.block) = i.a.map (·.block) /\ (off = 0 -> a' = i.a) /\ (off < i.cap -> a' = i.a.map (·.add (off * k)))
   | some c0 => i.len = none /\ c' = c0 /\ (k = 1 -> off + nn <= i.cap) /\ (0 < nn -> a' = i.a.map (·.add (off * k)))
 | .pt id k row j, v => ∃ i b o, O[id]? = some i /\ i.a = some ⟨b, o, none⟩ /\ i.has k row j /\ v = .pointer (some ⟨b, o + row * k + j, none⟩)
 | .hv id, v => ∃ i, O[id]? = some i /\ v = i.val /\ i.val.oneCell' = true
 | .any, v => v.oneCell' = true
 | .er b, v => (b = true /\ v = .nilIface) \/ (b = false /\ ∃ t p, v = .iface t p)
 | .rf q t n, v => (n = 0 /\ v = nilQ q) \/ ∃ (m id : Nat) (i : Info), n = m + 1 /\ O[id]? = some i /\ (i.objs t)[m]? = some v /\ isQ q v
 | .rp t n k row j, v => ∃ (m id : Nat) (i : Info) (u : Value) (b o len : Nat), n = m + 1 /\ O[id]? = some i /\ (i.objs t)[m]? = some u /\ hdA u = some (b, o, len) /\ row < len /\ v = .pointer (some ⟨b, o + row * k + j, none⟩)
def DenL (O : List Info) : List CV -> List Value -> Prop
 | [], vs => vs = []
 | c :: cs, vs => ∃ v r, vs = v :: r /\ Den O c v /\ DenL O cs r
def Pre (O O' : List Info) : Prop := ∀ (id : Nat) (i : Info), O[id]? = some i -> O'[id]? = some i
theorem Pre.refl (O : List Info) : Pre O O := fun _ _ h => h
theorem Pre.trans {a b c : List Info} (h : Pre a b) (k : Pre b c) : Pre a c := fun id i x => k id i (h id i x)
theorem Pre.app (O r : List Info) : Pre O (O ++ r) := fun id i h => by
 rw [List.getElem?_append_left (List.getElem?_eq_some_iff.1 h).1]; exact h
theorem Den.mono {O O' : List Info} (hp : Pre O O') : ∀ {c : CV} {v : Value}, Den O c v -> Den O' c v
 | .sc _, _, h => h
 | .sl _ _ _ _ _, _, ⟨i, a', c', nn, h1, h2⟩ => ⟨i, a', c', nn, hp _ _ h1, h2⟩
 | .pt _ _ _ _, _, ⟨i, b, o, h1, h2⟩ => ⟨i, b, o, hp _ _ h1, h2⟩
 | .hv _, _, ⟨i, h1, h2⟩ => ⟨i, hp _ _ h1, h2⟩
 | .any, _, h => h
 | .er _, _, h => h
 | .rf _ _ _, _, h => h.imp (fun h => h) (fun ⟨m, id, i, h1, h2, h3⟩ => ⟨m, id, i, h1, hp _ _ h2, h3⟩)
 | .rp _ _ _ _ _, _, ⟨m, id, i, u, b, o, len, h1, h2, h3⟩ => ⟨m, id, i, u, b, o, len, h1, hp _ _ h2, h3⟩
theorem DenL.mono {O O' : List Info} (hp : Pre O O') : ∀ {cs : List CV} {vs : List Value}, DenL O cs vs -> DenL O' cs vs
 | [], _, h => h
 | _ :: _, _, ⟨v, r, e, h1, h2⟩ => ⟨v, r, e, h1.mono hp, h2.mono hp⟩
theorem DenL.len {O : List Info} : ∀ {cs : List CV} {vs : List Value}, DenL O cs vs -> vs.length = cs.length
 | [], _, h => by rw [h]; rfl
 | _ :: _, _, ⟨_, _, e, _, h⟩ => by rw [e]; simp [h.len]
theorem DenL.app {O : List Info} : ∀ {cs ds : List CV} {vs us : List Value}, DenL O cs vs -> DenL O ds us -> DenL O (cs ++ ds) (vs ++ us)
 | [], _, _, _, h, k => by rw [h]; exact k
 | _ :: _, _, _, _, ⟨v, r, e, h1, h2⟩, k => by rw [e]; exact ⟨v, _, rfl, h1, h2.app k⟩
theorem DenL.split {O : List Info} : ∀ {cs ds : List CV} {vs : List Value}, DenL O (cs ++ ds) vs -> ∃ a b, vs = a ++ b /\ DenL O cs a /\ DenL O ds b
 | [], _, vs, h => ⟨[], vs, rfl, rfl, h⟩
 | _ :: _, _, _, ⟨v, r, e, h1, h2⟩ => by
  obtain ⟨a, b, e2, h3, h4⟩ := DenL.split h2;exact ⟨v :: a, b, by rw [e, e2]; rfl, ⟨v, a, rfl, h1, h3⟩, h4⟩
theorem DenL.get {O : List Info} : ∀ {cs : List CV} {vs : List Value} {j : Nat} {c : CV}, DenL O cs vs -> cs[j]? = some c -> ∃ v, vs[j]? = some v /\ Den O c v
 | [], _, _, _, _, h => by simp at h
 | _ :: _, _, 0, _, ⟨v, r, e, h1, _⟩, h => by
  simp only [List.getElem?_cons_zero, Option.some.injEq] at h; subst h; exact ⟨v, by rw [e]; rfl, h1⟩
 | _ :: _, _, j + 1, _, ⟨v, r, e, _, h2⟩, h => by
  simp only [List.getElem?_cons_succ] at h;obtain ⟨u, h3, h4⟩ := h2.get h;exact ⟨u, by rw [e]; simpa using h3, h4⟩
theorem DenL.set {O : List Info} : ∀ {cs : List CV} {vs : List Value} {j : Nat} {c : CV} {v : Value}, DenL O cs vs -> Den O c v -> DenL O (cs.set j c) (vs.set j v)
 | [], _, _, _, _, h, _ => by rw [h]; rfl
 | _ :: _, _, 0, _, _, ⟨_, r, e, _, h2⟩, h => by rw [e]; exact ⟨_, r, rfl, h, h2⟩
 | _ :: _, _, j + 1, _, _, ⟨u, r, e, h1, h2⟩, h => by rw [e]; exact ⟨u, _, rfl, h1, h2.set h⟩
theorem DenL.take {O : List Info} : ∀ {cs : List CV} {vs : List Value} (n : Nat), DenL O cs vs -> DenL O (cs.take n) (vs.take n)
 | [], _, n, h => by rw [h]; simp [DenL]
 | _ :: _, _, 0, _ => by simp [DenL]
 | _ :: _, _, n + 1, ⟨u, r, e, h1, h2⟩ => by rw [e]; exact ⟨u, _, rfl, h1, h2.take n⟩
theorem DenL.drop {O : List Info} : ∀ {cs : List CV} {vs : List Value} (n : Nat), DenL O cs vs -> DenL O (cs.drop n) (vs.drop n)
 | [], _, n, h => by rw [h]; simp [DenL]
 | _ :: _, _, 0, h => h
 | _ :: _, _, n + 1, ⟨u, r, e, h1, h2⟩ => by rw [e]; exact h2.drop n
theorem Den.one {O : List Info} : ∀ {c : CV} {v : Value}, Den O c v -> v.oneCell' = true
 | .sc _, _, ⟨h1, h2⟩ => by rw [h1]; exact h2
 | .sl _ _ _ _ _, _, ⟨_, _, _, _, _, h, _⟩ => by rw [h]; rfl
 | .pt _ _ _ _, _, ⟨_, _, _, _, _, _, h⟩ => by rw [h]; rfl
 | .hv _, _, ⟨i, _, h1, h2⟩ => by rw [h1]; exact h2
 | .any, _, h => h
 | .er _, _, h => by
  rcases h with ⟨_, h⟩ | ⟨_, t, p, h⟩ <;> rw [h] <;> rfl
 | .rf q _ _, _, h => by
  rcases h with ⟨_, h⟩ | ⟨_, _, _, _, _, _, h⟩
  ·rw [h]; match q with
   | 0 => rfl
   | 1 => rfl
   | _ + 2 => rfl
  ·match q, h with
   | 0, ⟨_, _, h⟩ => rw [h]; rfl
   | 1, ⟨_, _, _, h⟩ => rw [h]; rfl
   | _ + 2, ⟨_, h⟩ => rw [h]; rfl
 | .rp _ _ _ _ _, _, ⟨_, _, _, _, _, _, _, _, _, _, _, _, h⟩ => by rw [h]; rfl
theorem DenL.ones {O : List Info} : ∀ {cs : List CV} {vs : List Value}, DenL O cs vs -> ∀ u ∈ vs, u.oneCell' = true
 | [], _, h, u, hu => by rw [h] at hu; cases hu
 | _ :: _, _, ⟨v, r, e, h1, h2⟩, u, hu => by
  rw [e] at hu;rcases List.mem_cons.1 hu with rfl | hu
  ·exact h1.one
  ·exact h2.ones u hu
def DenB (O : List Info) : Bool -> List CV -> Value -> Prop
 | true, l, v => ∃ vs, DenL O l vs /\ v = .agg vs.toArray
 | false, l, v => ∃ x, l = [x] /\ Den O x v
theorem DenB.mono {O O' : List Info} (hp : Pre O O') : ∀ {b : Bool} {l : List CV} {v : Value}, DenB O b l v -> DenB O' b l v
 | true, _, _, ⟨vs, h1, h2⟩ => ⟨vs, h1.mono hp, h2⟩
 | false, _, _, ⟨x, h1, h2⟩ => ⟨x, h1, h2.mono hp⟩
inductive KK where
 | i (k : IntKind)
 | s
@[reducible] def KK.ty : KK -> Type
 | .i _ => Int
 | .s => ByteArray
def KK.val : (V : KK) -> V.ty -> Value
 | .i k, n => .int k n
 | .s, b => .string b
def EntOk (O : List Info) (V : KK) (agg : Bool) (U : TC) : List (V.ty × Nat × U.ty) -> List MapEntry -> Prop
 | [], es => es = []
 | x :: l, es => ∃ e r, es = e :: r /\ e.key = V.val x.1 /\ (e.born = x.2.1 /\ DenB O agg (U.enc x.2.2) e.val) /\ EntOk O V agg U l r
theorem EntOk.mono {O O' : List Info} {V : KK} {agg : Bool} {U : TC} (hp : Pre O O') : ∀ {l : List (V.ty × Nat × U.ty)} {es : List MapEntry}, EntOk O V agg U l es -> EntOk O' V agg U l es
 | [], _, h => h
 | _ :: _, _, ⟨e, r, h1, h2, h3, h4⟩ => ⟨e, r, h1, h2, ⟨h3.1, h3.2.mono hp⟩, h4.mono hp⟩
def strip {α β : Type} (us : List (α × Nat × β)) : List (α × β) := us.map (fun e => (e.1, e.2.2))
def MapOk (O : List Info) (V : KK) (agg : Bool) (U : TC) (ts : List (V.ty × U.ty)) (ents : Array MapEntry) (cl : Nat) : Prop :=
 ∃ us : List (V.ty × Nat × U.ty), EntOk O V agg U us ents.toList /\ (strip us).Perm ts /\ (ts.map Prod.fst).Nodup /\ (us.map (fun e => e.2.1)).Nodup /\ ∀ e ∈ us, e.2.1 < cl
theorem MapOk.mono {O O' : List Info} {V : KK} {agg : Bool} {U : TC} (hp : Pre O O') {ts : List (V.ty × U.ty)} {ents : Array MapEntry} {cl : Nat} : MapOk O V agg U ts ents cl -> MapOk O' V agg U ts ents cl
 | ⟨us, h1, h2⟩ => ⟨us, h1.mono hp, h2⟩
inductive Root where
 | dead
 | blk (cs : List CV) (T : TypeId)
 | rows (T : TypeId) (U : TC) (xs : List U.ty)
 | ro (U : TC) (xs : List U.ty)
 | clo (f : FuncId) (first caps : List CV)
 | mp (V : KK) (agg : Bool) (U : TC) (ts : List (V.ty × U.ty))
 | ars (t : Nat) (T : TypeId) (U : TC) (os : List (Option (List U.ty)))
 | aro (t : Nat) (T : TypeId) (U : TC) (os : List U.ty)
 | arm (t : Nat) (V : KK) (agg : Bool) (U : TC) (os : List (Option (List (V.ty × U.ty))))
 | arr (t : Nat) (U : TC) (os : List (List U.ty))
 | it (s : ByteArray) (pos : Nat)
def ownsAt (w : World) (T k : Nat) (a : Option Addr) (cap n : Nat) (vs : List Value) : Prop :=
 vs.length = n * k /\ n <= cap /\ cap <= maxLen /\
 ((cap = 0 /\ ∀ b, a.map (·.block) = some b -> b < w.heap.size) \/ ∃ g o cur, a = some ⟨g, o, none⟩ /\ w.heap[g]? = some (.cells cur T (0, 0)) /\ o + cap * k <= cur.size /\ (cur.toList.drop o).take (n * k) = vs)
def flat (U : TC) (xs : List U.ty) : List CV := xs.flatMap U.enc
inductive Ob where
 | no
 | row (T : TypeId) (U : TC) (xs : List U.ty)
 | mp (V : KK) (agg : Bool) (U : TC) (ts : List (V.ty × U.ty))
 | rr (U : TC) (xs : List U.ty)
def Root.obs : Root -> List Ob
 | .ars _ T U os => os.map (fun o => match o with
  | some xs => .row T U xs
  | none => .no)
 | .aro _ T U os => os.map (fun x => .row T U [x])
 | .arm _ V agg U os => os.map (fun o => match o with
  | some ts => .mp V agg U ts
  | none => .no)
 | .arr _ U os => os.map (fun xs => .rr U xs)
 | _ => []
def Root.tag : Root -> Option Nat
 | .ars t _ _ _ => some t
 | .aro t _ _ _ => some t
 | .arm t _ _ _ _ => some t
 | .arr t _ _ => some t
 | _ => none
def hdr : Value -> Option (Option Addr × Nat × Nat)
 | .pointer (some a) => some (some a, 1, 1)
 | .slice a n c => some (a, n, c)
 | _ => none
def xHN : Value -> Option Nat
 | .pointer a => a.map (·.block)
 | .slice a _ _ => a.map (·.block)
 | .map r => r
 | _ => none
def ObOk (O : List Info) (w : World) (v : Value) : Ob -> Prop
 | .no => True
 | .row T U xs => ∃ a c, hdr v = some (a, xs.length, c) /\ 0 < U.w /\ ∃ vs, DenL O (flat U xs) vs /\ ownsAt w T U.w a c xs.length vs
 | .mp V agg U ts => ∃ r ents cl, v = .map (some r) /\ w.heap[r]? = some (.map ents cl) /\ MapOk O V agg U ts ents cl
 | .rr U xs => ∃ a c, v = .slice a xs.length c /\ xs.length <= c /\ c <= maxLen /\ ∃ vs, DenL O (flat U xs) vs /\ (0 < xs.length -> ∃ b o, a = some ⟨b, o, none⟩ /\ b < w.heap.size /\ ∀ (j : Nat) (v : Value), vs[j]? = some v -> w.cell? ⟨b, o + j, none⟩ = some v)
def xDg (v : Value) : Ob -> Nat -> Prop
 | .no, _ => False
 | .rr _ _, _ => False
 | _, b => xHN v = some b
def ArOk (O : List Info) (w : World) (vs : List Value) (os : List Ob) : Prop :=
 vs.length = os.length /\ (∀ (m : Nat) (v : Value) (o : Ob), vs[m]? = some v -> os[m]? = some o -> ObOk O w v o) /\
 ∀ (m m' : Nat) (v v' : Value) (o o' : Ob) (b : Nat), m ≠ m' -> vs[m]? = some v -> vs[m']? = some v' -> os[m]? = some o -> os[m']? = some o' -> xDg v o b -> ¬ xDg v' o' b
def RootOk (O : List Info) (w : World) (i : Info) : Root -> Prop
 | .dead => True
 | .blk cs T => (i.len = none /\ i.cap = cs.length) /\ ∃ b vs, i.a = some ⟨b, 0, none⟩ /\ DenL O cs vs /\ w.heap[b]? = some (.cells vs.toArray T (0, 0))
 | .rows T U xs => i.len = some xs.length /\ 0 < U.w /\ ∃ vs, DenL O (flat U xs) vs /\ ownsAt w T U.w i.a i.cap xs.length vs
 | .ro U xs => i.len = some xs.length /\ ∃ vs, DenL O (flat U xs) vs /\ (0 < xs.length -> ∃ b o, i.a = some ⟨b, o, none⟩ /\ b < w.heap.size /\ ∀ (j : Nat) (v : Value), vs[j]? = some v -> w.cell? ⟨b, o + j, none⟩ = some v)
 | .clo f first caps => ∃ fs cs, DenL O first fs /\ DenL O caps cs /\ i.val = .func (.func f) fs.toArray cs.toArray
 | .mp V agg U ts => ∃ r ents clock, i.val = .map (some r) /\ i.a = some ⟨r, 0, none⟩ /\ w.heap[r]? = some (.map ents clock) /\ MapOk O V agg U ts ents clock
 | .ars t T U os => ArOk O w (i.objs t) (Root.ars t T U os).obs
 | .aro t T U os => ArOk O w (i.objs t) (Root.aro t T U os).obs
 | .arm t k agg U os => ArOk O w (i.objs t) (Root.arm t k agg U os).obs
 | .arr t U os => ArOk O w (i.objs t) (Root.arr t U os).obs
 | .it s pos => i.len = none /\ ∃ b, i.a = some ⟨b, 0, none⟩ /\ w.heap[b]? = some (.stringIter s pos)
def xCs (vs : List Value) (os : List Ob) (b : Nat) : Prop := ∃ (m : Nat) (v : Value) (o : Ob), vs[m]? = some v /\ os[m]? = some o /\ xDg v o b
def own (i : Info) (r : Root) (b : Nat) : Prop :=
 match r with
 | .blk _ _ => i.a.map (·.block) = some b
 | .rows _ _ _ => i.a.map (·.block) = some b
 | .mp _ _ _ _ => i.a.map (·.block) = some b
 | .it _ _ => i.a.map (·.block) = some b
 | .ars t T U os => xCs (i.objs t) (Root.ars t T U os).obs b
 | .aro t T U os => xCs (i.objs t) (Root.aro t T U os).obs b
 | .arm t k agg U os => xCs (i.objs t) (Root.arm t k agg U os).obs b
 | _ => False
def xMH (v : Value) : Ob -> Nat -> Prop
 | .rr _ xs, b => xs ≠ [] /\ xHN v = some b
 | _, _ => False
def xKi (vs : List Value) (os : List Ob) (b : Nat) : Prop := ∃ (m : Nat) (v : Value) (o : Ob), vs[m]? = some v /\ os[m]? = some o /\ xMH v o b
def foot (i : Info) (r : Root) (b : Nat) : Prop :=
 match r with
 | .ro _ xs => match xs with
  | [] => False
  | _ :: _ => i.a.map (·.block) = some b
 | .arr t U os => xKi (i.objs t) (Root.arr t U os).obs b
 | r => own i r b
def obL (v : Value) : Ob -> List Nat
 | .no => []
 | .rr _ _ => []
 | _ => (xHN v).toList
def arL : List Value -> List Ob -> List Nat
 | v :: vs, o :: os => obL v o ++ arL vs os
 | _, _ => []
def ownL (i : Info) : Root -> List Nat
 | .blk _ _ => (i.a.map (·.block)).toList
 | .rows _ _ _ => (i.a.map (·.block)).toList
 | .mp _ _ _ _ => (i.a.map (·.block)).toList
 | .it _ _ => (i.a.map (·.block)).toList
 | .ars t T U os => arL (i.objs t) (Root.ars t T U os).obs
 | .aro t T U os => arL (i.objs t) (Root.aro t T U os).obs
 | .arm t k agg U os => arL (i.objs t) (Root.arm t k agg U os).obs
 | _ => []
def obF (v : Value) : Ob -> List Nat
 | .rr _ xs => match xs with
  | [] => []
  | _ :: _ => (xHN v).toList
 | _ => []
def arF : List Value -> List Ob -> List Nat
 | v :: vs, o :: os => obF v o ++ arF vs os
 | _, _ => []
def xRI (i : Info) : Root -> List Nat
 | .ro _ xs => match xs with
  | [] => []
  | _ :: _ => (i.a.map (·.block)).toList
 | .arr t U os => arF (i.objs t) (Root.arr t U os).obs
 | r => ownL i r
theorem xVP : ∀ {vs : List Value} {os : List Ob} {b : Nat}, b ∈ arL vs os ↔ xCs vs os b
 | [], os, b => by
  constructor
  ·intro h; cases os <;> simp [arL] at h
  ·rintro ⟨m, v, o, h, _⟩; simp at h
 | v :: vs, [], b => by
  constructor
  ·intro h; simp [arL] at h
  ·rintro ⟨m, u, o, _, h, _⟩; simp at h
 | v :: vs, o :: os, b => by
  have ih := xVP (vs := vs) (os := os) (b := b);have h0 : b ∈ obL v o ↔ xDg v o b := by cases o <;> simp [xDg, obL]
  rw [arL, List.mem_append, h0, ih];constructor
  ·rintro (h | ⟨m, u, q, h1, h2, h3⟩)
   ·exact ⟨0, v, o, rfl, rfl, h⟩
   ·exact ⟨m + 1, u, q, by simpa using h1, by simpa using h2, h3⟩
  ·rintro ⟨m, u, q, h1, h2, h3⟩
   cases m with
   | zero => simp only [List.getElem?_cons_zero, Option.some.injEq] at h1 h2; subst h1; subst h2; exact .inl h3
   | succ m => exact .inr ⟨m, u, q, by simpa using h1, by simpa using h2, h3⟩
theorem xPS {i : Info} {r : Root} {b : Nat} : b ∈ ownL i r ↔ own i r b := by
 cases r <;> first | exact xVP | simp [ownL, own]
theorem xVR : ∀ {vs : List Value} {os : List Ob} {b : Nat}, b ∈ arF vs os ↔ xKi vs os b
 | [], os, b => by
  constructor
  ·intro h; cases os <;> simp [arF] at h
  ·rintro ⟨m, v, o, h, _⟩; simp at h
 | v :: vs, [], b => by
  constructor
  ·intro h; simp [arF] at h
  ·rintro ⟨m, u, o, _, h, _⟩; simp at h
 | v :: vs, o :: os, b => by
  have ih := xVR (vs := vs) (os := os) (b := b);have h0 : b ∈ obF v o ↔ xMH v o b := by
   cases o with
   | rr U xs => cases xs <;> simp [xMH, obF]
   | _ => simp [xMH, obF]
  rw [arF, List.mem_append, h0, ih];constructor
  ·rintro (h | ⟨m, u, q, h1, h2, h3⟩)
   ·exact ⟨0, v, o, rfl, rfl, h⟩
   ·exact ⟨m + 1, u, q, by simpa using h1, by simpa using h2, h3⟩
  ·rintro ⟨m, u, q, h1, h2, h3⟩
   cases m with
   | zero => simp only [List.getElem?_cons_zero, Option.some.injEq] at h1 h2; subst h1; subst h2; exact .inl h3
   | succ m => exact .inr ⟨m, u, q, by simpa using h1, by simpa using h2, h3⟩
theorem xNb {i : Info} {r : Root} {b : Nat} : b ∈ xRI i r ↔ foot i r b := by
 cases r with
 | ro U xs => cases xs <;> simp [xRI, foot]
 | arr t U os => exact xVR
 | _ => simp only [xRI, foot]; exact xPS
theorem xAm {i : Info} {r : Root} {b : Nat} (h : own i r b) : foot i r b := by
 cases r <;> first | exact h | cases h
def Cln (i : Info) (r : Root) : Prop := r = .dead \/ ∀ t, r.tag ≠ some t -> i.objs t = []
structure HOk (S F : List Nat) (W0 : World) (O : List Info) (h : List Root) (w : World) : Prop where
 ext : Ex S W0 w
 len : O.length = h.length
 ok : ∀ (id : Nat) (r : Root) (i : Info), h[id]? = some r -> O[id]? = some i -> RootOk O w i r
 sep : ∀ (p q : Nat) (r s : Root) (i j : Info) (b : Nat), p ≠ q -> h[p]? = some r -> h[q]? = some s -> O[p]? = some i -> O[q]? = some j -> own i r b -> ¬ foot j s b
 mine : ∀ (p : Nat) (r : Root) (i : Info) (b : Nat), h[p]? = some r -> O[p]? = some i -> own i r b -> W0.heap.size <= b \/ b ∈ S
 near : ∀ (p : Nat) (r : Root) (i : Info) (b : Nat), h[p]? = some r -> O[p]? = some i -> foot i r b -> W0.heap.size <= b \/ b ∈ S \/ b ∈ F
 lay : gOk W0
 out : ∀ b ∈ xIJ, b < W0.heap.size /\ b ∉ S
 cov : ∀ (p t : Nat) (r : Root) (i : Info), h[p]? = some r -> O[p]? = some i -> r.tag = some t -> ∀ (id : Nat) (j : Info) (m : Nat) (v : Value), O[id]? = some j -> (j.objs t)[m]? = some v -> (i.objs t)[m]? = some v
 cln : ∀ (p : Nat) (r : Root) (i : Info), h[p]? = some r -> O[p]? = some i -> Cln i r
theorem ObOk.mono {O O' : List Info} {w : World} {v : Value} (hp : Pre O O') : ∀ {o : Ob}, ObOk O w v o -> ObOk O' w v o
 | .no, _ => trivial
 | .row _ _ _, ⟨a, c, h1, h2, vs, h3, h4⟩ => ⟨a, c, h1, h2, vs, h3.mono hp, h4⟩
 | .mp _ _ _ _, ⟨r, es, cl, h1, h2, h3⟩ => ⟨r, es, cl, h1, h2, h3.mono hp⟩
 | .rr _ _, ⟨a, c, h1, h2, h3, vs, h4, h5⟩ => ⟨a, c, h1, h2, h3, vs, h4.mono hp, h5⟩
theorem ArOk.mono {O O' : List Info} {w : World} {vs : List Value} {os : List Ob} (hp : Pre O O') (h : ArOk O w vs os) : ArOk O' w vs os :=
 ⟨h.1, fun m v o h1 h2 => (h.2.1 m v o h1 h2).mono hp, h.2.2⟩
theorem ownsAt.lt {w : World} {T k : Nat} {a : Option Addr} {c n : Nat} {vs : List Value} (h : ownsAt w T k a c n vs) {b : Nat} (hb : a.map (·.block) = some b) : b < w.heap.size := by
 obtain ⟨_, _, _, h4⟩ := h;rcases h4 with ⟨_, h4⟩ | ⟨g, o, cur, h4, h5, _⟩
 ·exact h4 b hb
 ·simp only [h4, Option.map_some, Option.some.injEq] at hb;subst hb; exact lt_of_block h5
theorem ownsAt.ex {S : List Nat} {w w' : World} {T k : Nat} {a : Option Addr} {c n : Nat} {vs : List Value} (h : ownsAt w T k a c n vs) (hE : Ex S w w') (hs : ∀ b, a.map (·.block) = some b -> b ∉ S) : ownsAt w' T k a c n vs := by
 obtain ⟨h1, h2, h3, h4⟩ := h;refine ⟨h1, h2, h3, ?_⟩;rcases h4 with h4 | ⟨g, o, cur, h4, h5, h6⟩
 ·exact .inl ⟨h4.1, fun b hb => Nat.lt_of_lt_of_le (h4.2 b hb) hE.size⟩
 ·exact .inr ⟨g, o, cur, h4, hE.heap (hs g (by simp [h4])) h5, h6⟩
theorem xLb {v : Value} {a : Option Addr} {n c : Nat} (h : hdr v = some (a, n, c)) : xHN v = a.map (·.block) := by
 unfold hdr at h;split at h <;> first | (cases h; rfl) | cases h
theorem ObOk.lt {O : List Info} {w : World} {v : Value} {o : Ob} (h : ObOk O w v o) {b : Nat} (hb : xDg v o b) : b < w.heap.size := by
 cases o with
 | no => cases hb
 | row T U xs =>
  obtain ⟨a, c, h1, _, vs, _, h2⟩ := h;exact h2.lt (by rw [<- xLb h1]; exact hb)
 | rr U xs => cases hb
 | mp V agg U ts =>
  obtain ⟨r, ents, cl, h1, h2, _⟩ := h;subst h1;have : r = b := by simpa [xDg, xHN] using hb
  subst this;exact lt_of_block h2
theorem ObOk.ex {O : List Info} {S : List Nat} {w w' : World} {v : Value} {o : Ob} (h : ObOk O w v o) (hE : Ex S w w') (hs : ∀ b, xDg v o b -> b ∉ S) (hf : ∀ b, xMH v o b -> b ∉ S) : ObOk O w' v o := by
 cases o with
 | no => trivial
 | row T U xs =>
  obtain ⟨a, c, h1, h0, vs, h2, h3⟩ := h;exact ⟨a, c, h1, h0, vs, h2, h3.ex hE (fun b hb => hs b (by show xHN v = some b; rw [xLb h1]; exact hb))⟩
 | mp V agg U ts =>
  obtain ⟨r, ents, cl, h1, h2, h3⟩ := h;exact ⟨r, ents, cl, h1, hE.heap (hs r (by subst h1; rfl)) h2, h3⟩
 | rr U xs =>
  obtain ⟨a, c, h1, h2, h3, vs, h4, h5⟩ := h;refine ⟨a, c, h1, h2, h3, vs, h4, fun hn => ?_⟩;obtain ⟨b, o, h6, h7, h8⟩ := h5 hn;have hb : b ∉ S := hf b ⟨by intro e; rw [e] at hn; simp at hn, by rw [h1, h6]; rfl⟩;exact ⟨b, o, h6, Nat.lt_of_lt_of_le h7 hE.size, fun j v hv => hE.cell hb (h8 j v hv)⟩
theorem ArOk.get {O : List Info} {w : World} {vs : List Value} {os : List Ob} (h : ArOk O w vs os) {b : Nat} (hb : xCs vs os b) : b < w.heap.size := by
 obtain ⟨m, v, o, h1, h2, h3⟩ := hb;exact (h.2.1 m v o h1 h2).lt h3
theorem ArOk.getF {O : List Info} {w : World} {vs : List Value} {os : List Ob} (h : ArOk O w vs os) {b : Nat} (hb : xKi vs os b) : b < w.heap.size := by
 obtain ⟨m, v, o, h1, h2, h3⟩ := hb
 cases o with
 | rr U xs =>
  obtain ⟨a, c, h4, _, _, us, _, h5⟩ := h.2.1 m v _ h1 h2;obtain ⟨h6, h7⟩ := h3;obtain ⟨b', o, h8, h9, _⟩ := h5 (by cases xs with | nil => exact absurd rfl h6 | cons => simp);rw [h4, h8] at h7;cases h7; exact h9
 | _ => cases h3
theorem ArOk.ex {O : List Info} {S : List Nat} {w w' : World} {vs : List Value} {os : List Ob} (h : ArOk O w vs os) (hE : Ex S w w') (hs : ∀ b, xCs vs os b -> b ∉ S) (hf : ∀ b, xKi vs os b -> b ∉ S) : ArOk O w' vs os :=
 ⟨h.1, fun m v o h1 h2 => (h.2.1 m v o h1 h2).ex hE (fun b hb => hs b ⟨m, v, o, h1, h2, hb⟩) (fun b hb => hf b ⟨m, v, o, h1, h2, hb⟩), h.2.2⟩
theorem xPU {vs : List Value} {os : List Ob} (h : ∀ o ∈ os, ∀ U xs, o ≠ Ob.rr U xs) {b : Nat} : ¬ xKi vs os b := by
 rintro ⟨m, v, o, _, h2, h3⟩
 cases o with
 | rr U xs => exact h _ (List.mem_of_getElem? h2) U xs rfl
 | _ => cases h3
theorem Root.obs_rr {r : Root} (h : ∀ t U os, r ≠ .arr t U os) : ∀ o ∈ r.obs, ∀ U xs, o ≠ Ob.rr U xs := by
 intro o ho U xs e;subst e
 cases r with
 | ars t T U os =>
  obtain ⟨x, _, h2⟩ := List.mem_map.1 ho;cases x <;> cases h2
 | aro t T U os =>
  obtain ⟨x, _, h2⟩ := List.mem_map.1 ho;cases h2
 | arm t V agg U os =>
  obtain ⟨x, _, h2⟩ := List.mem_map.1 ho;cases x <;> cases h2
 | arr t U os => exact h _ _ _ rfl
 | _ => simp [Root.obs] at ho
theorem RootOk.mono {O O' : List Info} {w : World} {i : Info} (hp : Pre O O') : ∀ {r : Root}, RootOk O w i r -> RootOk O' w i r
 | .dead, _ => trivial
 | .blk _ _, ⟨h0, b, vs, h1, h2, h3⟩ => ⟨h0, b, vs, h1, h2.mono hp, h3⟩
 | .rows _ _ _, ⟨h0, h9, vs, h1, h2⟩ => ⟨h0, h9, vs, h1.mono hp, h2⟩
 | .ro _ _, ⟨h0, vs, h1, h2⟩ => ⟨h0, vs, h1.mono hp, h2⟩
 | .clo _ _ _, ⟨fs, cs, h1, h2, h3⟩ => ⟨fs, cs, h1.mono hp, h2.mono hp, h3⟩
 | .mp _ _ _ _, ⟨r, es, c, h1, h2, h3, h4⟩ => ⟨r, es, c, h1, h2, h3, h4.mono hp⟩
 | .ars _ _ _ _, h => ArOk.mono hp h
 | .aro _ _ _ _, h => ArOk.mono hp h
 | .arm _ _ _ _ _, h => ArOk.mono hp h
 | .arr _ _ _, h => ArOk.mono hp h
 | .it _ _, h => h
theorem RootOk.lt {O : List Info} {w : World} {i : Info} {r : Root} (h : RootOk O w i r) {b : Nat} (hb : foot i r b) : b < w.heap.size := by
 cases r with
 | dead => cases hb
 | blk cs T =>
  obtain ⟨_, b', vs, h1, _, h3⟩ := h;simp only [foot, own, h1, Option.map_some, Option.some.injEq] at hb;subst hb; exact lt_of_block h3
 | rows T U xs =>
  obtain ⟨_, _, vs, _, _, _, _, h4⟩ := h;rcases h4 with ⟨_, h4⟩ | ⟨g, o, cur, h4, h5, _⟩
  ·exact h4 b hb
  ·simp only [foot, own, h4, Option.map_some, Option.some.injEq] at hb;subst hb; exact lt_of_block h5
 | ro U xs =>
  obtain ⟨_, vs, _, h3⟩ := h
  cases xs with
  | nil => cases hb
  | cons x xs =>
   obtain ⟨b', o, h4, h5, _⟩ := h3 (by simp);simp only [foot, h4, Option.map_some, Option.some.injEq] at hb;subst hb; exact h5
 | clo f a c => cases hb
 | mp V agg U es =>
  obtain ⟨r, ents, c, _, h2, h3, _⟩ := h;simp only [foot, own, h2, Option.map_some, Option.some.injEq] at hb;subst hb; exact lt_of_block h3
 | ars t T U os => exact ArOk.get h hb
 | aro t T U os => exact ArOk.get h hb
 | arm t k agg U os => exact ArOk.get h hb
 | arr t U os => exact ArOk.getF h hb
 | it s pos =>
  obtain ⟨_, b', h1, h3⟩ := h;simp only [foot, own, h1, Option.map_some, Option.some.injEq] at hb;subst hb; exact lt_of_block h3
theorem RootOk.ex {O : List Info} {S : List Nat} {w w' : World} {i : Info} {r : Root} (h : RootOk O w i r) (hE : Ex S w w') (hs : ∀ b, foot i r b -> b ∉ S) : RootOk O w' i r := by
 cases r with
 | dead => trivial
 | blk cs T =>
  obtain ⟨h0, b, vs, h1, h2, h3⟩ := h;exact ⟨h0, b, vs, h1, h2, hE.heap (hs b (by simp [foot, own, h1])) h3⟩
 | rows T U xs =>
  obtain ⟨h0, h9, vs, h1, h2, h3, h3', h4⟩ := h;refine ⟨h0, h9, vs, h1, h2, h3, h3', ?_⟩;rcases h4 with h4 | ⟨g, o, cur, h4, h5, h6⟩
  ·exact .inl ⟨h4.1, fun b hb => Nat.lt_of_lt_of_le (h4.2 b hb) hE.size⟩
  ·exact .inr ⟨g, o, cur, h4, hE.heap (hs g (by simp [foot, own, h4])) h5, h6⟩
 | ro U xs =>
  obtain ⟨h0, vs, h1, h2⟩ := h;refine ⟨h0, vs, h1, fun hn => ?_⟩;obtain ⟨b, o, h4, h5, h6⟩ := h2 hn;have hb : b ∉ S := hs b (by cases xs with | nil => simp at hn | cons x xs => simp [foot, h4]);exact ⟨b, o, h4, Nat.lt_of_lt_of_le h5 hE.size, fun j v hv => hE.cell hb (h6 j v hv)⟩
 | clo f a c => exact h
 | mp V agg U es =>
  obtain ⟨r, ents, c, h1, h2, h3, h4⟩ := h;exact ⟨r, ents, c, h1, h2, hE.heap (hs r (by simp [foot, own, h2])) h3, h4⟩
 | it s pos =>
  obtain ⟨h0, b, h1, h3⟩ := h;exact ⟨h0, b, h1, hE.heap (hs b (by simp [foot, own, h1])) h3⟩
 | ars t T U os => exact ArOk.ex h hE hs (fun b hb => absurd hb (xPU (Root.obs_rr (by intros; exact fun e => by cases e))))
 | aro t T U os => exact ArOk.ex h hE hs (fun b hb => absurd hb (xPU (Root.obs_rr (by intros; exact fun e => by cases e))))
 | arm t k agg U os => exact ArOk.ex h hE hs (fun b hb => absurd hb (xPU (Root.obs_rr (by intros; exact fun e => by cases e))))
 | arr t U os => exact ArOk.ex h hE (fun b hb => by
   obtain ⟨m, v, o, _, h2, h3⟩ := hb;simp only [Root.obs, List.getElem?_map] at h2
   cases hq : os[m]? with
   | none => rw [hq] at h2; cases h2
   | some x => rw [hq] at h2; cases h2; cases h3) hs
section
variable {S F : List Nat} {W0 : World} {O : List Info} {h : List Root} {w w' : World}
theorem HOk.info (hh : HOk S F W0 O h w) {id : Nat} {r : Root} (hr : h[id]? = some r) : ∃ i, O[id]? = some i := by
 have := (List.getElem?_eq_some_iff.1 hr).1;exact ⟨_, List.getElem?_eq_getElem (by rw [hh.len]; exact this)⟩
theorem HOk.drew (hh : HOk S F W0 O h w) : HOk S F W0 O h w.drew :=
 ⟨hh.ext.drew, hh.len, fun id r i a b => (hh.ok id r i a b).ex ((Ex.refl [] _).drew) (by simp), hh.sep, hh.mine, hh.near, hh.lay, hh.out, hh.cov, hh.cln⟩
theorem HOk.ext' (hh : HOk S F W0 O h w) (hE : Ext w w') : HOk S F W0 O h w' :=
 ⟨hh.ext.trans (hE.ex S), hh.len, fun id r i a b => (hh.ok id r i a b).ex hE (by simp), hh.sep, hh.mine, hh.near, hh.lay, hh.out, hh.cov, hh.cln⟩
theorem HOk.layW (hh : HOk S F W0 O h w) : gOk w := xQi (fun b hb => hh.ext.block b (hh.out b hb).1 (hh.out b hb).2) hh.lay
theorem HOk.own_gBlk (hh : HOk S F W0 O h w) {p : Nat} {r : Root} {i : Info} {b : Nat} (hr : h[p]? = some r) (hi : O[p]? = some i) (ho : own i r b) (hb : b ∈ xIJ) : False := by
 have h1 := hh.out b hb;rcases hh.mine p r i b hr hi ho with h2 | h2
 ·omega
 ·exact h1.2 h2
theorem HOk.outW (hh : HOk S F W0 O h w) {b : Nat} (hb : b ∈ xIJ) : b < w.heap.size := Nat.lt_of_lt_of_le (hh.out b hb).1 hh.ext.size
theorem HOk.notOwn (hh : HOk S F W0 O h w) {b : Nat} (hb : b ∈ xIJ) {p : Nat} {r : Root} {i : Info} (hr : h[p]? = some r) (hi : O[p]? = some i) : ¬ own i r b := fun e => by
 rcases hh.mine p r i b hr hi e with h1 | h1
 ·have := (hh.out b hb).1; omega
 ·exact (hh.out b hb).2 h1
def xTY (L : List Nat) (h : List Root) (p : Nat := 0) : List Root :=
 match h with
 | [] => []
 | r :: rs => (bif L.any (Nat.beq p) then r else .dead) :: xTY L rs (p + 1)
theorem xCe (L : List Nat) : ∀ (h : List Root) (p id : Nat) (r : Root), (xTY L h p)[id]? = some r -> (h[id]? = some r /\ L.any (Nat.beq (p + id)) = true) \/ (r = .dead /\ id < h.length)
 | [], _, _, _, e => by simp [xTY] at e
 | x :: h, p, 0, r, e => by
  simp only [xTY, List.getElem?_cons_zero, Option.some.injEq] at e
  cases hb : L.any (Nat.beq p) with
  | true => rw [hb] at e; exact .inl ⟨by simpa using e, by simp⟩
  | false => rw [hb] at e; exact .inr ⟨e.symm, by simp⟩
 | x :: h, p, id + 1, r, e => by
  simp only [xTY, List.getElem?_cons_succ] at e;rcases xCe L h (p + 1) id r e with ⟨h1, h2⟩ | ⟨h1, h2⟩
  ·exact .inl ⟨by simpa using h1, by rw [show p + (id + 1) = p + 1 + id by omega]; exact h2⟩
  ·exact .inr ⟨h1, by simp; omega⟩
theorem xPY (L : List Nat) : ∀ (h : List Root) (p : Nat), (xTY L h p).length = h.length
 | [], _ => rfl
 | x :: h, p => by simp [xTY, xPY L h (p + 1)]
end
end Go.Proofs.YtnomnijhlbalaaaGreatDoor
