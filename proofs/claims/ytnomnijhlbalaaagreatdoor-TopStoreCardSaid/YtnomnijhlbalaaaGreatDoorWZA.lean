/- A part of the proof of the theorem of the last file. No condition. By an AI agent. -/
import Derived.Test.YtnomnijhlbalaaaGreatDoorWZ9
namespace Go.Proofs.YtnomnijhlbalaaaGreatDoor
noncomputable section
open Go.RowKit
section
variable {P : Program} {N : Nat} {D : List Deferred} {S F : List Nat} {W0 : World} {O O' : List Info} {K : Slo} {h h' : List Root} {w w' : World} {a : Act} {o : Oper}
inductive Wh where
 | own
 | foot
@[reducible] def Wh.rel : Wh -> Info -> Root -> Nat -> Prop
 | .own => Go.Proofs.YtnomnijhlbalaaaGreatDoor.own
 | .foot => Go.Proofs.YtnomnijhlbalaaaGreatDoor.foot
def Wh.list : Wh -> Info -> Root -> List Nat
 | .own => ownL
 | .foot => xRI
theorem Wh.mem {f : Wh} {i : Info} {r : Root} {b : Nat} : b ∈ f.list i r ↔ f.rel i r b := by
 cases f with
 | own => exact xPS
 | foot => exact xNb
def xAk (f : Wh) (O : List Info) (h : List Root) (R : List Nat) : List Nat :=
 R.flatMap (fun p => match h[p]?, O[p]? with
  | some r, some i => f.list i r
  | _, _ => [])
theorem xAc {f : Wh} {R : List Nat} {b : Nat} : b ∈ xAk f O h R ↔ ∃ p ∈ R, ∃ r i, h[p]? = some r /\ O[p]? = some i /\ f.rel i r b := by
 unfold xAk;rw [List.mem_flatMap];constructor
 ·rintro ⟨p, hp, hm⟩
  split at hm
  ·rename_i r i hr hi; exact ⟨p, hp, r, i, hr, hi, Wh.mem.1 hm⟩
  ·cases hm
 ·rintro ⟨p, hp, r, i, hr, hi, hf⟩
  exact ⟨p, hp, by rw [hr, hi]; exact Wh.mem.2 hf⟩
theorem xDi {R : List Nat} {p : Nat} : R.any (Nat.beq p) = true ↔ p ∈ R := by
 rw [List.any_eq_true];constructor
 ·rintro ⟨x, hx, hb⟩; rw [nbT hb]; exact hx
 ·intro hp; exact ⟨p, hp, Nat.beq_refl p⟩
theorem HOk.enter (hh : HOk S F W0 O h w) (R : List Nat) : HOk (xAk .own O h R) (xAk .foot O h R) w O (xTY R h) w := by
 have hm := hh.masked R;refine ⟨Ex.refl _ _, hm.len, hm.ok, hm.sep, fun p r i b hr hi ho => ?_, fun p r i b hr hi ho => ?_, hh.layW, fun b hb => ⟨hh.outW hb, fun hm => (by obtain ⟨p, _, r, i, hr, hi, ho⟩ := xAc.1 hm; exact hh.notOwn hb hr hi ho)⟩, hm.cov, hm.cln⟩
 ·rcases xCe R h 0 p r hr with ⟨h1, h2⟩ | ⟨rfl, _⟩
  ·exact .inr (xAc.2 ⟨p, xDi.1 (by simpa using h2), r, i, h1, hi, ho⟩)
  ·cases ho
 ·rcases xCe R h 0 p r hr with ⟨h1, h2⟩ | ⟨rfl, _⟩
  ·exact .inr (.inr (xAc.2 ⟨p, xDi.1 (by simpa using h2), r, i, h1, hi, ho⟩))
  ·exact absurd ho xBa
theorem xA9 (R : List Nat) : ∀ (h h' : List Root) (p q : Nat) (r : Root), h.length <= h'.length -> (xEV R h h' p)[q]? = some r ->
  (h'[q]? = some r /\ (q < h.length -> R.any (Nat.beq (p + q)) = true)) \/ (h[q]? = some r /\ R.any (Nat.beq (p + q)) = false)
 | [], h', p, q, r, _, e => .inl ⟨e, fun hq => absurd hq (Nat.not_lt_zero _)⟩
 | x :: h, [], p, q, r, hl, e => by simp at hl
 | x :: h, y :: h', p, 0, r, hl, e => by
  simp only [xEV, List.getElem?_cons_zero, Option.some.injEq] at e
  cases hb : R.any (Nat.beq p) with
  | true => rw [hb] at e; exact .inl ⟨by simpa using e, fun _ => by simp⟩
  | false => rw [hb] at e; exact .inr ⟨by simpa using e, by simp⟩
 | x :: h, y :: h', p, q + 1, r, hl, e => by
  simp only [xEV, List.getElem?_cons_succ] at e;rcases xA9 R h h' (p + 1) q r (by simpa using hl) e with ⟨h1, h2⟩ | ⟨h1, h2⟩
  ·exact .inl ⟨by simpa using h1, fun hq => by rw [show p + (q + 1) = p + 1 + q by omega]; exact h2 (by simpa using hq)⟩
  ·exact .inr ⟨by simpa using h1, by rw [show p + (q + 1) = p + 1 + q by omega]; exact h2⟩
theorem xIq (R : List Nat) : ∀ (h h' : List Root) (p : Nat), h.length <= h'.length -> (xEV R h h' p).length = h'.length
 | [], _, _, _ => rfl
 | x :: h, [], p, hl => by simp at hl
 | x :: h, y :: h', p, hl => by simp only [xEV, List.length_cons, xIq R h h' (p + 1) (by simpa using hl)]
theorem xIr (R : List Nat) : ∀ (h h' : List Root) (p q : Nat), h.length <= h'.length -> R.any (Nat.beq (p + q)) = false -> q < h.length -> (xEV R h h' p)[q]? = h[q]?
 | [], _, _, _, _, _, hq => absurd hq (Nat.not_lt_zero _)
 | x :: h, [], p, _, hl, _, _ => by simp at hl
 | x :: h, y :: h', p, 0, hl, hb, _ => by simp only [xEV]; rw [show R.any (Nat.beq p) = false by simpa using hb]; simp
 | x :: h, y :: h', p, q + 1, hl, hb, hq => by
  simp only [xEV, List.getElem?_cons_succ];exact xIr R h h' (p + 1) q (by simpa using hl) (by rw [show p + 1 + q = p + (q + 1) by omega]; exact hb) (by simpa using hq)
theorem Pre.len (hp : Pre O O') : O.length <= O'.length := by
 rcases Nat.lt_or_ge O'.length O.length with hlt | hge
 ·have := hp O'.length _ (List.getElem?_eq_getElem hlt);have := (List.getElem?_eq_some_iff.1 this).1;omega
 ·exact hge
theorem HOk.merged (hh : HOk S F W0 O h w) (R : List Nat) (hR : ∀ (q : Nat) (r : Root), h[q]? = some r -> r.tag ≠ none -> q ∈ R) (hp : Pre O O') (hc : HOk (xAk .own O h R) (xAk .foot O h R) w O' h' w') : HOk S F W0 O' (xEV R h h' 0) w' := by
 have hl : h.length <= h'.length := by rw [<- hh.len, <- hc.len]; exact hp.len
 have hid : ∀ (q : Nat) (r : Root) (i : Info), h[q]? = some r -> O'[q]? = some i -> O[q]? = some i := by
  intro q r i h1 h2;obtain ⟨i0, h3⟩ := hh.info h1;have := hp _ _ h3;rw [h2] at this;rw [h3, this]
 have hS : ∀ (q : Nat) (r : Root) (i : Info) (b : Nat), R.any (Nat.beq (0 + q)) = false -> h[q]? = some r -> O[q]? = some i -> foot i r b -> b ∉ xAk .own O h R := by
  intro q r i b hb h1 h2 h3 hm;obtain ⟨p, hpR, r', i', g1, g2, g3⟩ := xAc.1 hm;refine hh.sep p q r' r i' i b (fun e => ?_) g1 h1 g2 h2 g3 h3;subst e;rw [Nat.zero_add] at hb;rw [xDi.2 hpR] at hb;cases hb
 refine ⟨?_, by rw [xIq R h h' 0 hl]; exact hc.len, ?_, ?_, ?_, ?_, hh.lay, hh.out, fun q t r i h1 h2 ht => ?_, fun q r i h1 h2 => ?_⟩
 rotate_right
 ·rcases xA9 R h h' 0 q r hl h1 with ⟨h3, _⟩ | ⟨h3, h4⟩
  ·exact hc.cln q r i h3 h2
  ·exact hh.cln q r i h3 (hid q r i h3 h2)
 rotate_right
 ·rcases xA9 R h h' 0 q r hl h1 with ⟨h3, _⟩ | ⟨h3, h4⟩
  ·exact hc.cov q t r i h3 h2 ht
  ·rw [Nat.zero_add, xDi.2 (hR q r h3 (by rw [ht]; simp))] at h4;cases h4
 ·refine ⟨hc.ext.os.trans hh.ext.os, hc.ext.tape.trans hh.ext.tape, hc.ext.output.trans hh.ext.output, Nat.le_trans hh.ext.size hc.ext.size, fun k hk hs => ?_⟩;have hkB : k ∉ xAk .own O h R := fun hm => by
   obtain ⟨p, _, r', i', g1, g2, g3⟩ := xAc.1 hm;rcases hh.mine p r' i' k g1 g2 g3 with g4 | g4
   ·omega
   ·exact hs g4
  rw [hc.ext.block k (Nat.lt_of_lt_of_le hk hh.ext.size) hkB];exact hh.ext.block k hk hs
 ·intro q r i h1 h2;rcases xA9 R h h' 0 q r hl h1 with ⟨h3, _⟩ | ⟨h3, h4⟩
  ·exact hc.ok q r i h3 h2
  ·have h5 := hid q r i h3 h2;exact ((hh.ok q r i h3 h5).ex hc.ext (fun b hb => hS q r i b h4 h3 h5 hb)).mono hp
 ·intro p q r s i j b hpq hr hs hi hj ho;rcases xA9 R h h' 0 p r hl hr with ⟨h3, _⟩ | ⟨h3, h4⟩
  ·rcases xA9 R h h' 0 q s hl hs with ⟨h5, _⟩ | ⟨h5, h6⟩
   ·exact hc.sep p q r s i j b hpq h3 h5 hi hj ho
   ·intro hf;have h7 := hid q s j h5 hj;rcases hc.mine p r i b h3 hi ho with g1 | g1
    ·have := (hh.ok q s j h5 h7).lt hf; omega
    ·exact hS q s j b h6 h5 h7 hf g1
  ·have h7 := hid p r i h3 hi;rcases xA9 R h h' 0 q s hl hs with ⟨h5, _⟩ | ⟨h5, h6⟩
   ·intro hf;rcases hc.near q s j b h5 hj hf with g1 | g1 | g1
    ·have := (hh.ok p r i h3 h7).lt (xAm ho); omega
    ·exact hS p r i b h4 h3 h7 (xAm ho) g1
    ·obtain ⟨p', hpR, r', i', g2, g3, g4⟩ := xAc.1 g1;refine hh.sep p p' r r' i i' b (fun e => ?_) h3 g2 h7 g3 ho g4;subst e;rw [Nat.zero_add] at h4;rw [xDi.2 hpR] at h4;cases h4
   ·exact hh.sep p q r s i j b hpq h3 h5 h7 (hid q s j h5 hj) ho
 ·intro p r i b hr hi ho;rcases xA9 R h h' 0 p r hl hr with ⟨h3, _⟩ | ⟨h3, _⟩
  ·rcases hc.mine p r i b h3 hi ho with g1 | g1
   ·exact .inl (Nat.le_trans hh.ext.size g1)
   ·obtain ⟨p', _, r', i', g2, g3, g4⟩ := xAc.1 g1;exact hh.mine p' r' i' b g2 g3 g4
  ·exact hh.mine p r i b h3 (hid p r i h3 hi) ho
 ·intro p r i b hr hi ho;rcases xA9 R h h' 0 p r hl hr with ⟨h3, _⟩ | ⟨h3, _⟩
  ·rcases hc.near p r i b h3 hi ho with g1 | g1 | g1
   ·exact .inl (Nat.le_trans hh.ext.size g1)
   ·obtain ⟨p', _, r', i', g2, g3, g4⟩ := xAc.1 g1;rcases hh.mine p' r' i' b g2 g3 g4 with g5 | g5
    ·exact .inl g5
    ·exact .inr (.inl g5)
   ·obtain ⟨p', _, r', i', g2, g3, g4⟩ := xAc.1 g1;exact hh.near p' r' i' b g2 g3 g4
  ·exact hh.near p r i b h3 (hid p r i h3 hi) ho
def xIe (tmps : Array Value) : ResultVar -> Sem Value
 | .tmp t => pure (tmps.getD t undef)
 | .cell a t => do loadVar t (<- asAddr (tmps.getD a undef))
def resL (tmps : Array Value) : List ResultVar -> Sem (List Value)
 | [] => pure []
 | r :: rs => do
  let x <- xIe tmps r
  let xs <- resL tmps rs
  pure (x :: xs)
def single : List Value -> Value
 | [v] => v
 | vs => .tuple vs.toArray
theorem xMK (tmps : Array Value) : ∀ l : List ResultVar, l.mapM (xIe tmps) = resL tmps l
 | [] => rfl
 | r :: l => by rw [List.mapM_cons, resL, xMK tmps l]
theorem xRk (fn : Func) (tmps : Array Value) : results fn tmps = (do let vs <- resL tmps fn.results.toList; pure (single vs)) := by
 have e : ∀ g : ResultVar -> Sem Value, (∀ r, g r = xIe tmps r) -> (do let vs <- fn.results.mapM g; pure (if h : vs.size = 1 then vs[0] else .tuple vs) : Sem Value) = (do let vs <- resL tmps fn.results.toList; pure (single vs)) := by
  intro g hg;rw [show g = xIe tmps from funext hg, Array.mapM_eq_mapM_toList, xMK];simp only [map_eq_pure_bind, bind_assoc, pure_bind];congr 1;funext vs
  match vs with
  | [] => rfl
  | [v] => rfl
  | v :: u :: vs => simp [single]
 exact e _ (fun r => by cases r <;> rfl)
def resP (P : Program) (K : Slo) (h : List Root) : ResultVar -> Option PV
 | .tmp t => match lkP K t with
  | some .un => none
  | r => r
 | .cell a t => match lkP K a with
  | some (.c (.pt _ _ _ _)) => match xW8 P K h t (.tmp a) with
   | .val [] v => some v
   | _ => none
  | _ => none
def xWF (P : Program) (K : Slo) (h : List Root) : List ResultVar -> Option (List (Bool × List CV))
 | [] => some []
 | r :: l => match (resP P K h r).bind compP, xWF P K h l with
  | some x, some xs => some (x :: xs)
  | _, _ => none
def xR2 (P : Program) (K : Slo) (h : List Root) (l : List ResultVar) : Option PV :=
 match l with
 | [r] => resP P K h r
 | _ => match xWF P K h l with
  | some xs => some (.tu xs)
  | none => none
theorem xTd (hK : KOk N D O K a) (hh : HOk S F W0 O h w) {r : ResultVar} {v : PV} (hv : resP P K h r = some v) : ∃ u, DenP O v u /\ (xIe a.tmps r).run P w = .ok u w := by
 cases r with
 | tmp t =>
  simp only [resP] at hv;split at hv
  ·cases hv
  ·obtain ⟨u, h1, h2⟩ := hK.2.2 t v hv;exact ⟨u, h1, by simp [xIe, h2]⟩
 | cell x t =>
  simp only [resP] at hv;split at hv
  ·rename_i id k row j hpt;split at hv
   ·rename_i v' hs;cases hv;have hl := xP1 (P := P) (o := ⟨none, .load t (.tmp x), t, "", #[], none⟩) hK hh (t := t) (x := .tmp x) (L := xGi K h ⟨none, .load t (.tmp x), t, "", #[], none⟩) rfl (fun c e id hid => by simpa only [xGi, e] using hid);rw [hs] at hl;obtain ⟨u, h1, h2⟩ := hl trivial;refine ⟨u, h1, ?_⟩;have h3 := h2 w (Agree.refl _ _ _ _);have h4 : ∃ ad, a.eval (.tmp x) = .pointer (some ad) := by
     obtain ⟨i, b, off, _, _, _, h8⟩ := xAa (x := .tmp x) hK hpt;exact ⟨_, h8⟩
    obtain ⟨ad, h5⟩ := h4;have h6 : a.tmps.getD x undef = .pointer (some ad) := h5;unfold execOp at h3;simp only [h5, Instr.loadAt, Instr.sureAddr, Sem.run_bind, Sem.run_pure, Result.andThen_ok] at h3;simp only [xIe, h6, asAddr, Sem.run_bind, Sem.run_pure, Result.andThen_ok]
    cases hq : (loadVar t ad).run P w with
    | ok x' w2 => rw [hq] at h3; simpa using h3
    | halt _ _ => rw [hq] at h3; cases h3
   ·cases hv
  ·cases hv
theorem xPD (hK : KOk N D O K a) (hh : HOk S F W0 O h w) : ∀ {l : List ResultVar} {xs : List (Bool × List CV)}, xWF P K h l = some xs -> ∃ us, DenT O xs us /\ (resL a.tmps l).run P w = .ok us w /\ us.length = l.length
 | [], xs, hx => by cases hx; exact ⟨[], rfl, rfl, rfl⟩
 | r :: l, xs, hx => by
  simp only [xWF] at hx;split at hx
  ·rename_i x q h1 h2;cases hx;obtain ⟨v, h3, h4⟩ := Option.bind_eq_some_iff.1 h1;obtain ⟨u, h5, h6⟩ := xTd hK hh h3;obtain ⟨us, h7, h8, h9⟩ := xPD hK hh h2;refine ⟨u :: us, ⟨u, us, rfl, ?_, h7⟩, by simp only [resL, Sem.run_bind, h6, Result.andThen_ok, h8, Sem.run_pure], by simp [h9]⟩
   cases v with
   | c y => cases h4; exact ⟨y, rfl, h5⟩
   | ag m => cases h4; exact h5
   | tu m => cases h4
   | un => cases h4
  ·cases hx
theorem xId {fn : Func} (hK : KOk N D O K a) (hh : HOk S F W0 O h w) {v : PV} (hv : xR2 P K h fn.results.toList = some v) : ∃ u, DenP O v u /\ (results fn a.tmps).run P w = .ok u w := by
 rw [xRk];generalize fn.results.toList = l at *;unfold xR2 at hv;split at hv
 ·rename_i r;obtain ⟨u, h1, h2⟩ := xTd hK hh hv;exact ⟨u, h1, by simp only [resL, Sem.run_bind, h2, Result.andThen_ok, Sem.run_pure, single]⟩
 ·rename_i hne;split at hv
  ·rename_i xs hx;cases hv;obtain ⟨us, h1, h2, h3⟩ := xPD hK hh hx;refine ⟨.tuple us.toArray, ⟨us, h1, rfl⟩, ?_⟩;have : single us = .tuple us.toArray := by
    match us, l, h3, hne with
    | [], _, _, _ => rfl
    | [u], [r], _, hne => exact absurd rfl (hne r)
    | _ :: _ :: _, _, _, _ => rfl
   simp only [Sem.run_bind, h2, Result.andThen_ok, Sem.run_pure, this]
  ·cases hv
end
end
noncomputable section
open Go.RowKit
inductive PT where
 | done
 | rd (i : Nat) (t : PT)
 | go (i : Nat) (A : List Nat) (t : PT)
 | both (r g : Nat) (a b : PT)
def rdKind : Op -> Bool
 | .move _ | .assign _ | .pick .. | .load .. | .nilCheck _ | .binOp .. | .unOp .. | .convert .. | .fieldAddr .. | .field .. | .indexAddr .. | .index .. | .extract .. | .slice .. | .build .. | .lookup .. => true
 | .call ⟨.builtin .len, _, _⟩ | .call ⟨.builtin .min, _, _⟩ | .call ⟨.builtin .max, _, _⟩ => true
 | _ => false
def xBV (o : Oper) : Bool :=
 match o.dst with
 | some _ => match o.op with
  | .alloc _ | .box _ _ | .buildSlice _ _ _ | .makeSlice _ _ _ => true
  | _ => false
 | none => false
def opAt (f : Oper -> Bool) (ops : Array Oper) (i : Nat) : Bool :=
 match ops[i]? with
 | some o => f o
 | none => false
def xGo (l : List Nat) (listed : Array Bool) : Array Bool := l.foldl (fun t i => t.setIfInBounds i true) listed
def only (md : Region.Mode) (ops : Array Oper) (listed : Array Bool) (A : List Nat) (i : Nat) : Bool :=
 match Region.ready md ops (xGo A listed) with
 | [j] => Nat.beq i j
 | _ => false
def without (i : Nat) : List Nat -> List Nat
 | [] => []
 | j :: l => bif Nat.beq i j then without i l else j :: without i l
def xLi (f : Nat -> Bool) : List Nat -> Option Nat
 | [] => none
 | i :: l => bif f i then some i else xLi f l
def xPM (ops : Array Oper) : Nat -> Array Bool -> Option PT
 | 0, _ => none
 | n + 1, listed => match Region.ready .any ops listed with
  | [] => some .done
  | R => match xLi (fun i => opAt (fun o => rdKind o.op) ops i && Region.free .any ops listed i) R with
   | some i => match xPM ops n (listed.setIfInBounds i true) with
    | some t => some (.rd i t)
    | none => none
   | none => match xLi (fun i => !opAt xBV ops i && only .any ops listed (R.filter (opAt xBV ops)) i) R with
    | some i => match xPM ops n (listed.setIfInBounds i true) with
     | some t => some (.go i (R.filter (opAt xBV ops)) t)
     | none => none
    | none => match xLi (fun i => only .any ops listed (without i R) i) R with
     | some i => match xPM ops n (listed.setIfInBounds i true) with
      | some t => some (.go i (without i R) t)
      | none => none
     | none => none
def planOf (ops : Array Oper) : Option PT := xPM ops (ops.size + 1) (Array.replicate ops.size false)
section
variable {β : Type}
def disj (l m : List Nat) : Bool := l.all (fun x => m.all (fun y => !Nat.beq x y))
abbrev Reads := List (Nat × Option (List Nat))
def calm (ops : Array Oper) (G : Reads) (i : Nat) (t : List Nat) : Bool :=
 G.all (fun p => (match p.2 with
  | some ids => disj ids t
  | none => false) || waits .any ops ops.size i p.1)
def xNK (t : List Nat) : Reads -> Reads
 | [] => []
 | (i, x) :: G => (i, match x with
  | some ids => bif disj ids t then some ids else none
  | none => none) :: xNK t G
def xTF (P : Program) (N : Nat) (call : xAK β) (ok : List Nat -> Bool) (K : Slo) (h : List Root) (o : Oper) (k : List Nat -> Slo -> List Root -> Option β) : Option β :=
 match xHd P K h o with
 | .val g v => gds g (xDf N K o v h (k []))
 | .pick b x y => bif b then xDf N K o x h (k []) else xDf N K o y h (k [])
 | .stuck => match stepM P K h o with
  | .mem g v h' t => bif ok t then gds g (xDf N K o v h' (k t)) else none
  | .call f args => call f args h (fun t v h' => bif ok t then xDf N K o v h' (k t) else none)
  | _ => none
 | _ => none
def opRd (P : Program) (N : Nat) (K : Slo) (h : List Root) (o : Oper) (k : Slo -> Option β) : Option β :=
 match xHd P K h o with
 | .val g v => gds g (match xHu N K o.dst v with
  | some K' => k K'
  | none => none)
 | .pick b x y => bif b then (match xHu N K o.dst x with
   | some K' => k K'
   | none => none) else (match xHu N K o.dst y with
   | some K' => k K'
   | none => none)
 | _ => none
def xJn (ops : Array Oper) (K : Slo) (o : Oper) (f g : Slo -> Option β) : Option β :=
 match xUE ops K o with
 | .go => f K
 | .no => g K
 | .test t b want => bif b then (bif want then f (xDF K t (.c (.sc (.bool true)))) else g (xDF K t (.c (.sc (.bool true)))))
   else (bif want then g (xDF K t (.c (.sc (.bool false)))) else f (xDF K t (.c (.sc (.bool false)))))
 | .bad => none
def gdSt (ops : Array Oper) (K : Slo) (o : Oper) : Option Bool :=
 match xUE ops K o with
 | .go => some true
 | .no => some false
 | .test _ b want => some (bif b then want else !want)
 | _ => none
def early (P : Program) (N : Nat) (K : Slo) (h : List Root) (ops : Array Oper) : List Nat -> Option β -> Option β
 | [], r => r
 | e :: A, r => match ops[e]? with
  | some o => match o.dst, gdSt ops K o with
   | some d, some b => bif Nat.ble (d + 1) N then (bif b then (match xHd P K h o, stepM P K h o with
    | .stuck, .mem g _ _ [] => gds g (early P N K h ops A r)
    | _, _ => none) else early P N K h ops A r) else none
   | _, _ => none
  | none => none
def xDA (P : Program) (N : Nat) (ops : Array Oper) (call : xAK β) : PT -> Reads -> Slo -> List Root -> (Slo -> List Root -> Option β) -> Option β
 | .done, _, K, h, k => k K h
 | .rd i t, G, K, h, k => match ops[i]? with
  | some o => xJn ops K o (fun K => opRd P N K h o (fun K' => xDA P N ops call t ((i, some (xGi K h o)) :: G) K' h k)) (fun K => xDf N K o .un h (fun K' h' => xDA P N ops call t G K' h' k))
  | none => none
 | .go i A t, G, K, h, k => match ops[i]? with
  | some o => early P N K h ops A (xJn ops K o (fun K => xTF P N call (calm ops G i) K h o (fun tt K' h' => xDA P N ops call t (xNK tt G) K' h' k)) (fun K => xDf N K o .un h (fun K' h' => xDA P N ops call t G K' h' k)))
  | none => none
 | .both _ _ _ _, _, _, _, _ => none
def xUV (l : List Nat) : Slo -> Slo
 | K => l.foldr (fun t K => delP K t) K
def xFl (P : Program) (N : Nat) (ops : Array Oper) (call : xAK β) (t : PT) (K : Slo) (h : List Root) (k : Slo -> List Root -> Option β) : Option β :=
 xDA P N ops call t [] (xUV ((ops.toList.filter xBV).filterMap (·.dst)) K) h k
def xV5 (r : Nat) : Nat -> List Oper -> List Oper
 | _, [] => []
 | 0, o :: l => { o with after := o.after.push ⟨r, .chain⟩ } :: l
 | i + 1, o :: l => o :: xV5 r i l
def xCt (ops : Array Oper) (g r : Nat) : Array Oper := ⟨xV5 r g ops.toList⟩
theorem bothX (x y : Option β) : ∃ r : Option β, r = @ite _ (x = y) (Classical.propDecidable _) x none := ⟨_, rfl⟩
def both (x y : Option β) : Option β := Classical.choose (bothX x y)
theorem xVw (x y : Option β) : both x y = @ite _ (x = y) (Classical.propDecidable _) x none := Classical.choose_spec (bothX x y)
theorem xNE (x : Option β) : both x x = x := by rw [xVw, if_pos rfl]
theorem xVv {x y : Option β} {r : β} (h : both x y = some r) : x = some r /\ y = some r := by
 rw [xVw] at h;split at h
 ·rename_i e; exact ⟨h, e ▸ h⟩
 ·cases h
def xJ7 (P : Program) (N : Nat) (ops : Array Oper) (call : xAK β) (t : PT) (K : Slo) (h : List Root) (k : Slo -> List Root -> Option β) : Option β :=
 match t with
 | .both r g a b => both (xFl P N (xCt ops g r) call a K h k) (xFl P N (xCt ops r g) call b K h k)
 | t => xFl P N ops call t K h k
def ptGo (ops : Array Oper) : PT -> Array Bool -> Bool
 | .both _ _ _ _, _ => false
 | .done, listed => (Region.ready .any ops listed).isEmpty
 | .rd i t, listed => (Region.ready .any ops listed).contains i && Region.free .any ops listed i && !opAt xBV ops i && ptGo ops t (listed.setIfInBounds i true)
 | .go i A t, listed => (Region.ready .any ops listed).contains i && Region.free .any ops listed i && only .any ops listed A i && A.all (fun e => (Region.ready .any ops listed).contains e && Region.free .any ops listed e && opAt xBV ops e && !Nat.beq i e) &&
   (Region.ready .any ops listed).all (fun j => Nat.beq i j || !opAt xBV ops j || A.any (Nat.beq j)) && ptGo ops t (listed.setIfInBounds i true)
def xG8 (ops : Array Oper) : Bool := (List.range ops.size).all fun j => !opAt xBV ops j || (match ops[j]? with
 | some oj => match oj.dst with
  | some d => !(oj.looksAt ops).contains d && (List.range ops.size).all (fun i => Nat.beq i j || (match ops[i]? with
   | some oi => match oi.dst with
    | some d' => !Nat.beq d d'
    | none => true
   | none => true))
  | none => false
 | none => false)
def xJh (ops : Array Oper) (t : PT) : Bool := Region.noSelect ops && xG8 ops && ptGo ops t (Array.replicate ops.size false)
def ptOk (ops : Array Oper) : PT -> Bool
 | .both r g a b => !Nat.beq r g && xJh (xCt ops g r) a && xJh (xCt ops r g) b
 | t => xJh ops t
inductive XT where
 | normal
 | exit (id : Nat)
 | ret
def XT.out : XT -> Exit
 | .normal => .normal
 | .exit id => .exit id
 | .ret => .ret
abbrev xFq (β : Type) := XT -> Slo -> List Root -> Option β
def xV1 : Nat -> List PV -> Slo
 | _, [] => .nil
 | i, v :: l => xDF (xV1 (i + 1) l) i v
def xNj (body : Slo -> List Root -> xFq β -> Option β) : Nat -> Slo -> List Root -> xFq β -> Option β
 | 0, _, _, _ => none
 | n + 1, K, h, k => body K h (fun e K' h' => match e with
  | .normal => xNj body n K' h' k
  | e => k e K' h')
def xD6 (P : Program) (Fu : Nat) (pl : Nat -> Option PT) (call : xAK β) : Nat -> Nat -> Code -> Slo -> List Root -> xFq β -> Option β
 | 0, _, _, _, _, _ => none
 | d + 1, N, c, K, h, k => match c with
  | .skip => k .normal K h
  | .exit id => k (.exit id) K h
  | .ret => k .ret K h
  | .region _ ops false => xFj P N ops call ops.toList K h (k .normal)
  | .region id ops true => match pl id with
   | some t => xJ7 P N ops call t K h (k .normal)
   | none => none
  | .seq x y => xD6 P Fu pl call d N x K h (fun e K' h' => match e with
   | .normal => xD6 P Fu pl call d N y K' h' k
   | e => k e K' h')
  | .cond c x y => match xAo K c with
   | some (.c (.sc (.bool b))) => bif b then xD6 P Fu pl call d N x K h k else xD6 P Fu pl call d N y K h k
   | _ => none
  | .block id x => xD6 P Fu pl call d N x K h (fun e K' h' => match e with
   | .exit id' => bif Nat.beq id' id then k .normal K' h' else k (.exit id') K' h'
   | e => k e K' h')
  | .loop x => xNj (fun K h k => xD6 P Fu pl call d N x K h k) Fu K h k
  | _ => none
def lkN {α : Type} : List (Nat × α) -> Nat -> Option α
 | [], _ => none
 | (i, x) :: l, n => bif Nat.beq i n then some x else lkN l n
abbrev xFo := List (Nat × List (Nat × PT))
def xFp (A : xFo) (f : Nat) : Nat -> Option PT :=
 match lkN A f with
 | some l => lkN l
 | none => fun _ => none
abbrev Sums := FuncId -> List PV -> List Root -> Option (Option (PV × List Root))
def noSums : Sums := fun _ _ _ => none
def xQw (P : Program) (Fu : Nat) (A : xFo) (Sm : Sums) : Nat -> xAK β
 | 0, _, _, _, _ => none
 | d + 1, f, args, h, k => match Sm f args h with
  | some r => match r with
   | some (v, news) => k [] v (h ++ news)
   | none => none
  | none => match P.funcs[f]? with
   | some fn => match fn.body with
    | some c => xD6 P Fu (xFp A f) (xQw P Fu A Sm d) 10000 (args.length + (fn.ntmps - args.length)) c (xV1 0 args) (xTY (xAY h args) h) (fun e K' h' => match e with
     | .exit _ => none
     | _ => match xR2 P K' h' fn.results.toList with
      | some v => k (xAY h args) v (xEV (xAY h args) h h' 0)
      | none => none)
    | none => none
   | none => none
def xAL (pl : Nat -> Option PT) : Code -> Bool
 | .region id ops true => match pl id with
  | some t => ptOk ops t
  | none => true
 | .seq x y => xAL pl x && xAL pl y
 | .cond _ x y => xAL pl x && xAL pl y
 | .block _ x => xAL pl x
 | .loop x => xAL pl x
 | _ => true
def xAQ (P : Program) (p : Nat × List (Nat × PT)) : Bool :=
 match P.funcs[p.1]? with
 | some fn => match fn.body with
  | some c => xAL (lkN p.2) c
  | none => true
 | none => true
def xEy (P : Program) (A : xFo) : Prop := ∀ p ∈ A, xAQ P p = true
end
end
noncomputable section
open Go.RowKit
section
variable {P : Program} {N : Nat} {D : List Deferred} {S F : List Nat} {W0 : World} {O : List Info} {K : Slo} {h : List Root} {w : World} {a : Act} {o : Oper}
def xKl (P : Program) (O : List Info) (h : List Root) (a : Act) (o : Oper) (v : PV) (h2 : List Root) : Prop :=
 ∃ (r : Root) (info : Nat -> Info) (mk : Nat -> Value) (obj : Obj), h2 = h ++ [r] /\ (∀ w : World, (execOp a.eval o).run P w = .ok (.value (mk w.heap.size)) (w.alloc obj)) /\
  ∀ (w1 : World) (b : Nat), w1.heap[b]? = some obj -> RootOk (O ++ [info b]) w1 (info b) r /\ DenP (O ++ [info b]) v (mk b) /\ (∀ c, foot (info b) r c -> c = b) /\ (∀ t, (info b).objs t = []) /\ r.tag = none
theorem xPV (hl : O.length = h.length) (i : Info) : (O ++ [i])[h.length]? = some i := by
 rw [List.getElem?_append_right (by omega), <- hl]; simp
theorem al_blk (hl : O.length = h.length) {cs : List CV} {T : TypeId} {arr : Array Value} (hd : DenL O cs arr.toList) (hrun : ∀ w : World, (execOp a.eval o).run P w = .ok (.value (.pointer (some ⟨w.heap.size, 0, none⟩))) (w.alloc (.cells arr T (0, 0)))) :
  xKl P O h a o (.c (.pt h.length 0 0 0)) (h ++ [.blk cs T]) := by
 refine ⟨_, fun b => ⟨some ⟨b, 0, none⟩, cs.length, none, .nilFunc⟩, fun b => .pointer (some ⟨b, 0, none⟩), .cells arr T (0, 0), rfl, hrun, fun w1 b hb => ⟨⟨⟨rfl, rfl⟩, b, arr.toList, rfl, hd.mono (Pre.app _ _), by simpa using hb⟩, ⟨_, b, 0, xPV hl _, rfl, ⟨fun m hm => (by cases hm), fun _ h0 => (by cases h0)⟩, rfl⟩, fun c hc => ?_, fun _ => rfl, rfl⟩⟩;simpa [foot, own, eq_comm] using hc
theorem xOW (hl : O.length = h.length) {T : TypeId} {U : TC} {xs : List U.ty} (hw : 0 < U.w) {us : List Value} (hd : DenL O (flat U xs) us) {arr : Array Value} {cap : Nat} (h1 : xs.length <= cap) (h2 : cap <= maxLen) (h3 : arr.size = cap * U.w) (h4 : arr.toList.take (xs.length * U.w) = us)
  (hrun : ∀ w : World, (execOp a.eval o).run P w = .ok (.value (.slice (some ⟨w.heap.size, 0, none⟩) xs.length cap)) (w.alloc (.cells arr T (0, 0)))) :
  xKl P O h a o (.c (.sl h.length U.w 0 none none)) (h ++ [.rows T U xs]) := by
 refine ⟨_, fun b => ⟨some ⟨b, 0, none⟩, cap, some xs.length, .nilFunc⟩, fun b => .slice (some ⟨b, 0, none⟩) xs.length cap, .cells arr T (0, 0), rfl, hrun, fun w1 b hb => ⟨⟨rfl, hw, us, hd.mono (Pre.app _ _), ?_, h1, h2, .inr ⟨b, 0, arr, rfl, hb, (by show 0 + cap * U.w <= arr.size; omega), by simpa using h4⟩⟩, ⟨_, _, cap, xs.length, xPV hl _, rfl, h1, h2, fun _ => ⟨b, 0, rfl⟩, ⟨_, rfl, (Nat.sub_zero _).symm⟩, ⟨_, rfl, by omega⟩, (Nat.sub_zero _).symm, rfl, fun _ => rfl, fun _ => ?_⟩, fun c hc => ?_, fun _ => rfl, rfl⟩⟩
 ·rw [hd.len, xDa]
 ·simp [Addr.add]
 ·simpa [foot, own, eq_comm] using hc
theorem xW6 (hK : KOk N D O K a) (hl : O.length = h.length) {t : TypeId} {l c : Operand} (ho : o.op = .makeSlice t l c) {g : List Bool} {v : PV} {h2 : List Root} {tt : List Nat} (hs : xRu P K h t l c = .mem g v h2 tt) (hg : AllB g) : xKl P O h a o v h2 := by
 have exec : ∀ {v : Value} {w w' : World}, (Instr.makeSlice t (a.eval l) (a.eval c)).run P w = .ok v w' -> (execOp a.eval o).run P w = .ok (.value v) w' := by
  intro v w w' hr;unfold execOp;simp only [ho];simp [Sem.run_bind, hr, Result.andThen]
 unfold xRu at hs;split at hs
 ·rename_i e hd;split at hs
  ·rename_i inf z hi hz;obtain ⟨zv, hzv, hzd⟩ := xCB (O := O) hz hi
   cases hc : (Nat.beq z.length inf.size && xJw inf.bytes && Nat.beq inf.size (xBs P 20 e).w && Nat.ble 1 inf.size) with
   | false => rw [hc] at hs; cases hs
   | true =>
    rw [hc] at hs;simp only [Bool.and_eq_true] at hc;obtain ⟨⟨⟨hc1, hc2⟩, hc3⟩, hc4⟩ := hc;have hzs : zv.cells.size = inf.size := by
     have h1 := hzd.len;have h2 := nbT hc1;simp at h1; omega
    have hsm : 1000000 * inf.bytes <= 140737488355328 := Nat.le_of_ble_eq_true hc2;have hsz := nbT hc3;have hpos := Nat.le_of_ble_eq_true hc4;have hbytes : ∀ q : Int, 0 <= q -> q <= 1000000 -> (inf.bytes : Int) * q <= 281474976710656 := fun q h0 hq => by
     have h1 := Nat.mul_le_mul_left inf.bytes (show q.toNat <= 1000000 by omega);have h2 : ((inf.bytes * q.toNat : Nat) : Int) <= 281474976710656 := by
      rw [Nat.mul_comm inf.bytes 1000000] at h1; omega
     rw [Int.natCast_mul] at h2;rwa [Int.toNat_of_nonneg h0] at h2
    simp only [cond_true] at hs;split at hs
    ·rename_i x y z0 hlx hcv hz0;have h5 : a.eval l = .int .i64 x := xAH (O := O) (xAa hK hlx);have h6 : a.eval c = .int .i64 y := xAH (O := O) (xAa hK hcv)
     cases hb : xRf l c with
     | true =>
      rw [hb] at hs;have hb' := xPw hb;subst hb';simp only [cond_true] at hs;rw [hlx] at hcv;cases hcv;cases hs;have hg1 : 0 <= x /\ x <= 1000000 := by simpa using hg.1
      have e2 := TC.dec1_enc hz0;have hn : (List.replicate x.toNat z0).length = x.toNat := List.length_replicate;have hdl : DenL O (flat (xBs P 20 e) (List.replicate x.toNat z0)) (madeCells zv.cells (x.toNat * inf.size)).toList := by
       rw [<- hzs, xBt, xHE, <- e2];exact xGh (xBi hzd) _
      rw [hsz];refine xOW hl (T := e) (by omega) hdl (arr := madeCells zv.cells (x.toNat * inf.size)) (cap := x.toNat) (by rw [hn]; exact Nat.le_refl _) (by unfold maxLen; omega) (by rw [size_madeCells, hsz]) (List.take_of_length_le (by rw [hn, <- hsz, Array.length_toList, size_madeCells]; exact Nat.le_refl _)) (fun w => exec (by rw [h5, hn]; exact run_make w t e inf zv hd hi hzv .i64 .i64 x x hg1.1 (Int.le_refl _) (hbytes x hg1.1 hg1.2) (by omega)))
     | false =>
      rw [hb] at hs;simp only [cond_false] at hs;split at hs
      ·cases hs;have hg1 : 0 <= y /\ y <= 1000000 := by simpa using hg.1
       rw [hsz];refine xOW hl (T := e) (U := xBs P 20 e) (xs := []) (by omega) (us := []) rfl (arr := madeCells zv.cells (y.toNat * inf.size)) (cap := y.toNat) (Nat.zero_le _) (by unfold maxLen; omega) (by rw [size_madeCells, hsz]) (by simp) (fun w => exec (by rw [h5, h6]; exact run_make w t e inf zv hd hi hzv .i64 .i64 0 y (Int.le_refl _) hg1.1 (hbytes y hg1.1 hg1.2) (by omega)))
      ·cases hs
    ·cases hs
  ·cases hs
 ·cases hs
theorem xJk (hK : KOk N D O K a) (hl : O.length = h.length) {t : TypeId} {n : Nat} {parts : Array (Nat × Operand)} (ho : o.op = .buildSlice t n parts) {g : List Bool} {v : PV} {h2 : List Root} {tt : List Nat} (hs : xB9 P K h t n parts = .mem g v h2 tt) : xKl P O h a o v h2 := by
 have hmap : (parts.map fun (i, x) => (i, a.eval x)).toList = parts.toList.map (fun p => (p.1, a.eval p.2)) := by simp
 unfold xB9 at hs;split at hs
 ·rename_i e hd;split at hs
  ·rename_i inf z ps hi hz hp;obtain ⟨zv, hzv, hzd⟩ := xCB (O := O) hz hi
   cases hc : (Nat.beq z.length inf.size && Nat.beq inf.size (xBs P 20 e).w && Nat.ble 1 inf.size && Nat.ble (n * inf.size) 16777216) with
   | false => rw [hc] at hs; cases hs
   | true =>
    rw [hc] at hs;simp only [Bool.and_eq_true] at hc;obtain ⟨⟨⟨hc1, hc3⟩, hc4⟩, hc5⟩ := hc;have hzs : zv.cells.size = inf.size := by
     have h1 := hzd.len;have h2 := nbT hc1;simp at h1; omega
    have hsz := nbT hc3;have hpos := Nat.le_of_ble_eq_true hc4;have hmax := Nat.le_of_ble_eq_true hc5;simp only [cond_true] at hs;split at hs
    ·rename_i cs hcs;have hz0 : DenL O (repL n z) (madeCells zv.cells (n * inf.size)).toList := by
      rw [<- hzs, xBt];exact xGh hzd _
     obtain ⟨out, h3, h4⟩ := xEl hK hp (fun i => some (i * inf.size, inf.size)) _ (madeCells zv.cells (n * inf.size)) cs hz0 hcs;have fin : ∀ (U : TC) (xs : List U.ty) (cs' : List CV), DenL O cs' out.toList -> xE3 U n cs' = some xs -> inf.size = U.w -> xKl P O h a o (.c (.sl h.length inf.size 0 none none)) (h ++ [.rows e U xs]) := by
      intro U xs cs' h3 hxs hsz;obtain ⟨e1, e2⟩ := xEv hxs;have hos : out.size = n * inf.size := by
       have h5 := h3.len;rw [e1, xDa, e2, <- hsz] at h5;simpa using h5
      have hm0 : ∀ zz : Array Value, n * inf.size = 0 -> (Array.range (n * inf.size)).map (fun x => zz[x % zz.size]!) = madeCells zv.cells (n * inf.size) := by
       intro zz h0; rw [h0]; simp [madeCells]
      have hrun : ∀ w : World, (execOp a.eval o).run P w = .ok (.value (.slice (some ⟨w.heap.size, 0, none⟩) n n)) (w.alloc (.cells out e (0, 0))) := by
       intro w;have hzv2 : (zeroValue e).run P w = .ok zv w := by simp [zeroValue, typeInfo, hi, hzv, Sem.run_bind, Result.andThen]
       unfold execOp;simp only [ho];have hlim : ¬ (n * inf.size > 2 ^ 24) := by omega
       have h4' : Instr.fill (fun i => some (i * inf.size, inf.size)) (madeCells zv.cells (n * inf.size)) (parts.map fun (i, x) => (i, a.eval x)).toList = some out := by rw [hmap]; exact h4
       by_cases h0 : n * inf.size = 0
       ·simp only [Instr.buildSlice, Sem.run_bind, run_underlying hd, Result.andThen_ok, xAh hi, if_neg hlim, Sem.run_pure, if_pos h0, hm0 _ h0, h4'];rfl
       ·have h4'' : Instr.fill (fun i => some (i * inf.size, inf.size)) ((Array.range (n * inf.size)).map (fun x => zv.cells[x % zv.cells.size]!)) (parts.map fun (i, x) => (i, a.eval x)).toList = some out := h4';simp only [Instr.buildSlice, Sem.run_bind, run_underlying hd, Result.andThen_ok, xAh hi, if_neg hlim, Sem.run_pure, if_neg h0, hzv2, h4''];rfl
      have hmax2 : n <= maxLen := by
       unfold maxLen;have := Nat.le_mul_of_pos_right n hpos;omega
      rw [hsz];exact xOW hl (T := e) (by omega) (us := out.toList) (by rw [<- e1]; exact h3) (arr := out) (cap := n) (by rw [e2]; exact Nat.le_refl _) hmax2 (by rw [hos, hsz]) (List.take_of_length_le (by rw [Array.length_toList, e2, <- hsz, hos]; exact Nat.le_refl _)) (fun w => by rw [e2]; exact hrun w)
     split at hs
     ·rename_i xs hxs;cases hs;exact fin _ xs _ (xBi h3) hxs hsz
     ·cases hrw : Nat.beq (xOb (xBs P 20 e)).w (xBs P 20 e).w with
      | false => rw [hrw] at hs; cases hs
      | true =>
       rw [hrw] at hs;simp only [cond_true] at hs;split at hs
       ·rename_i xs hxs;cases hs;exact fin _ xs _ h3 hxs (by rw [hsz, nbT hrw])
       ·cases hs
    ·cases hs
  ·cases hs
 ·cases hs
theorem xQN {P : Program} {K : Slo} {h : List Root} {o : Oper} (ha : xBV o = true) : stepM P K h o = xCO P K h o := by
 refine xNU ?_;unfold xBV at ha;unfold ghost;split at ha
 ·split at ha <;> first | (rename_i ho; rw [ho]; done) | (cases ha; done)
 ·cases ha
theorem al_ok (hK : KOk N D O K a) (hl : O.length = h.length) (ha : xBV o = true) {g : List Bool} {v : PV} {h2 : List Root} {t : List Nat} (hs : stepM P K h o = .mem g v h2 t) (hg : AllB g) : xKl P O h a o v h2 := by
 rw [xQN ha] at hs;unfold xBV at ha;split at ha
 ·split at ha
  ·rename_i T ho;unfold xCO at hs;rw [ho] at hs;simp only at hs;split at hs
   ·rename_i cs hz;cases hs;obtain ⟨x, h1, h2⟩ := xHl (O := O) hz;refine al_blk hl (arr := x.cells) h1 (fun w => ?_);unfold execOp;simp only [ho];simp only [Instr.alloc, Sem.run_bind, h2 w, Result.andThen_ok, Sem.run_pure];rfl
   ·cases hs
  ·rename_i T x ho;unfold xCO at hs;rw [ho] at hs;simp only at hs;split at hs
   ·rename_i cs hx;cases hs;obtain ⟨p, h1, h2⟩ := Option.bind_eq_some_iff.1 hx;refine al_blk hl (arr := (a.eval x).cells) (xF2 (xAa hK h1) h2) (fun w => ?_);unfold execOp;simp only [ho];rfl
   ·cases hs
  ·rename_i t n parts ho;unfold xCO at hs;rw [ho] at hs;exact xJk hK hl ho hs
  ·rename_i t l c ho;unfold xCO at hs;rw [ho] at hs;exact xW6 hK hl ho hs hg
  ·cases ha
 ·cases ha
end
end
end Go.Proofs.YtnomnijhlbalaaaGreatDoor
