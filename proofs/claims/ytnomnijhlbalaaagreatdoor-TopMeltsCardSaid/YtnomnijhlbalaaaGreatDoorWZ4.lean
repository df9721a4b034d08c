/- A part of the proof of the theorem of the last file. No condition. By an AI agent. -/
import Derived.Test.YtnomnijhlbalaaaGreatDoorWZ3
namespace Go.Proofs.YtnomnijhlbalaaaGreatDoor
open Go.RowKit
section
variable {P : Program} {N : Nat} {D : List Deferred} {S F : List Nat} {W0 : World} {ρ : List Info} {K : Slo} {h : List Root} {w : World} {a : Act} {o : Oper} {L : List Nat}
theorem AllB.two {x y : Bool} (h : AllB [x, y]) : x = true /\ y = true := ⟨h.1, h.2.1⟩
theorem xER {i : Int} {n : Nat} (h : inB i n = true) : 0 <= i /\ i < (n : Int) := by
 simpa only [inB, Bool.and_eq_true, decide_eq_true_eq] using h
theorem xCX {i : Int} {n : Nat} (h : inC i n = true) : 0 <= i /\ i <= (n : Int) := by
 simpa only [inC, Bool.and_eq_true, decide_eq_true_eq] using h
theorem xAL {k : IntKind} {i : Int} {v : Value} (h : Den ρ (.sc (.int k i)) v) : v = .int k i := h.1
theorem xMm (hK : KOk N D ρ K a) {s : TypeId} {x : Operand} {f : Nat} (ho : o.op = .fieldAddr s x f) : xBZ P ρ h w a o L (xGE P K s x f) := by
 unfold xGE;split
 ·rename_i id k row j fields hx hd;split
  ·rename_i fd hfd;split
   ·rename_i inf hi
    cases hz : (Nat.beq inf.size 0 || (Nat.beq k 1 && !Nat.beq fd.offset 0)) with
    | true => trivial
    | false =>
     rw [Bool.or_eq_false_iff] at hz;obtain ⟨hz, hz2⟩ := hz;have hz' := Nat.ne_of_beq_eq_false hz;obtain ⟨i, b, off, h1, h2, h3, h4⟩ := xAa hK hx;have h3' : i.has k row (j + fd.offset) := ⟨h3.1, fun hn hk => by
      subst hk;have : fd.offset = 0 := by simpa using hz2
      rw [this]; exact h3.2 hn rfl⟩
     refine xAl fun _ => ⟨_, ⟨i, b, off, h1, h2, h3', rfl⟩, fun w' _ => ?_⟩;unfold execOp;simp only [ho, h4];simp [Instr.fieldAt, Sem.run_bind, run_underlying hd, Result.andThen, hfd, Instr.sureAddr, fieldPlace, sizeOf, typeInfo, hi, hz', Addr.add_lit, Nat.add_assoc]
   ·trivial
  ·trivial
 ·rename_i c fields _ hx hd;split
  ·rename_i t' n k row j fd hc hfd;split
   ·rename_i inf hi
    cases hz : Nat.beq inf.size 0 with
    | true => trivial
    | false =>
     have hz' := Nat.ne_of_beq_eq_false hz;refine xAl fun hg => ?_;have hn : n ≠ 0 := fun e => by have := hg.1; rw [e] at this; cases this
     obtain ⟨m, id, i, u, b, off, len, h1, h2, h3, h4, h5, h6⟩ := xUq (xAa hK hx) hc hn;refine ⟨_, ⟨m, id, i, u, b, off, len, h1, h2, h3, h4, h5, rfl⟩, fun w' _ => ?_⟩;unfold execOp;simp only [ho, h6];simp [Instr.fieldAt, Sem.run_bind, run_underlying hd, Result.andThen, hfd, Instr.sureAddr, fieldPlace, sizeOf, typeInfo, hi, hz', Addr.add_lit, Nat.add_assoc]
   ·trivial
  ·trivial
 ·trivial
theorem xAm {t : TypeId} {inf : TypeInfo} (hi : P.info? t = some inf) (w : World) : (sizeOf t).run P w = .ok inf.size w := by
 simp [sizeOf, typeInfo, hi, Sem.run_bind, Result.andThen]
theorem xGy (hh : HOk S F W0 ρ h w) {id off n0 nn : Nat} {n : Option Nat} {i : Info} (hi : ρ[id]? = some i) (hc : i.cnt off n nn) (hn : lenP h id off n = some n0) : nn = n0 := by
 cases n with
 | some x => cases hn; exact hc
 | none =>
  obtain ⟨m, h1, h2⟩ := hc;simp only [lenP] at hn;split at hn
  ·rename_i T τ xs hr;cases hn;have := (hh.ok id _ i hr hi).1;rw [h1] at this;rw [h2, Option.some.inj this]
  ·rename_i τ xs hr;cases hn;have := (hh.ok id _ i hr hi).1;rw [h1] at this;rw [h2, Option.some.inj this]
  ·cases hn
theorem xMd (hK : KOk N D ρ K a) {t : TypeId} {x ix : Operand} (ho : o.op = .indexAddr t x ix) (hh : HOk S F W0 ρ h w) : xBZ P ρ h w a o L (xGA P K h t x ix) := by
 unfold xGA;split
 ·rename_i e id k off n c kk i hd hx hix;split
  ·rename_i inf n0 hi hn0
   cases hz : Nat.beq inf.size k with
   | false => trivial
   | true =>
    have hz' := nbT hz;refine xAl fun hg => ?_;obtain ⟨hi0, hin⟩ := xER hg.1;obtain ⟨i', a', c', nn, h1, h2, h3, h4, h4', hc, h5⟩ := xAa hK hx;have h6 := xAL (ρ := ρ) (xAa hK hix);have hnn := xGy hh h1 hc hn0;subst hnn;obtain ⟨b, off0, h7⟩ := h4' (by omega);have key : a' = some ⟨b, off0 + off * k, none⟩ /\ i'.has k (addN off i.toNat) 0 := by
     cases c with
     | none =>
      obtain ⟨⟨m, h8, h9⟩, h10, _, _, h12⟩ := h5;refine ⟨?_, fun m' hm' => ?_, fun hm' => ?_⟩
      ·rw [h12 (by omega), h7, Option.map_some, Addr.add_lit]
      ·rw [h8] at hm'; cases hm'; rw [xBo]; omega
      ·rw [h8] at hm'; cases hm'
     | some c0 =>
      obtain ⟨h8, _, h8', h9⟩ := h5;refine ⟨by rw [h9 (by omega), h7, Option.map_some, Addr.add_lit], fun m' hm' => ?_, fun _ hk => ?_⟩
      ·rw [h8] at hm'; cases hm'
      ·have := h8' hk; rw [xBo]; omega
    refine ⟨_, ⟨i', b, off0, h1, h7, key.2, rfl⟩, fun w' _ => ?_⟩;unfold execOp;simp only [ho, h2, h6, key.1];simp [Instr.indexAt, asIntOf, Sem.run_bind, run_underlying hd, Result.andThen, xAm hi, Addr.add_lit, Nat.add_assoc, xBo, hi0, hin, hz', Nat.add_mul]
  ·trivial
 ·rename_i n e id k row j kk i hd hx hix;split
  ·rename_i inf hi;have plain : xBZ P ρ h w a o L (bif Nat.beq k 1 then .stuck else .val [inB i n] (.c (.pt id k row (addN j (i.toNat * inf.size))))) := by
    cases hk1 : Nat.beq k 1 with
    | true => trivial
    | false =>
    have hk1 := Nat.ne_of_beq_eq_false hk1;refine xAl fun hg => ?_;obtain ⟨hi0, hin⟩ := xER hg.1;obtain ⟨i', b, off, h1, h2, h3, h4⟩ := xAa hK hx;have h6 := xAL (ρ := ρ) (xAa hK hix);refine ⟨_, ⟨i', b, off, h1, h2, ⟨h3.1, fun _ e => absurd e hk1⟩, rfl⟩, fun w' _ => ?_⟩;unfold execOp;simp only [ho, h4, h6];simp [Instr.indexAt, asIntOf, Sem.run_bind, run_underlying hd, Result.andThen, Instr.sureAddr, xAm hi, Addr.add_lit, Nat.add_assoc, xBo, hi0, hin]
   split
   ·rename_i cs T hr
    cases hz : (Nat.beq inf.size 1 && Nat.beq k 0 && Nat.ble (j + n) cs.length) with
    | false => exact plain
    | true =>
     simp only [Bool.and_eq_true] at hz;obtain ⟨⟨z1, z2⟩, z3⟩ := hz;have z1 := nbT z1;have z2 := nbT z2;have z3 := Nat.le_of_ble_eq_true z3;subst z2;refine xAl fun hg => ?_;obtain ⟨hi0, hin⟩ := xER hg.1;obtain ⟨i', b, off, h1, h2, h3, h4⟩ := xAa hK hx;have h6 := xAL (ρ := ρ) (xAa hK hix);obtain ⟨h7, h8⟩ := (hh.ok id _ i' hr h1).1;have hhas : i'.has 1 i.toNat j := ⟨fun m hm => (by rw [h7] at hm; cases hm), fun _ _ => (by rw [h8]; omega)⟩;refine ⟨_, ⟨i', b, off, h1, h2, hhas, rfl⟩, fun w' _ => ?_⟩;unfold execOp;simp only [ho, h4, h6];simp [Instr.indexAt, asIntOf, Sem.run_bind, run_underlying hd, Result.andThen, Instr.sureAddr, xAm hi, Addr.add_lit, Nat.add_assoc, xBo, hi0, hin, z1]
   ·exact plain
  ·trivial
 ·rename_i e t' n kk i hd hx hix;split
  ·rename_i inf p t2 T2 τ os hi hr;refine xAl fun hg => ?_;obtain ⟨hi0, hin⟩ := xER hg.1;have h6 := xAL (ρ := ρ) (xAa hK hix);have hlt : i.toNat < (rowAt os n).length := by omega
   obtain ⟨m, hm, hos⟩ := xIF hlt;obtain ⟨p', hp, hrr, ht⟩ := xAE hr;rw [Nat.zero_add] at hp; subst hp;rcases xAa hK hx with ⟨h0, _⟩ | ⟨m', id, i0, h1, h2, h3, a0, n0, c0, h4⟩
   ·omega
   ·obtain rfl : m = m' := by omega
    obtain ⟨ip, hip⟩ := hh.info hrr;have h7 := hh.cov p t' _ ip hrr hip ht id i0 m _ h2 h3;have hA : ArOk ρ w (ip.objs t') (Root.ars t2 T2 τ os).obs := by cases ht; exact hh.ok p _ ip hrr hip
    obtain ⟨a1, c1, g1, g2, vs, g3, g4⟩ := hA.2.1 m _ (.row T2 τ (rowAt os n)) h7 (by simp only [Root.obs, List.getElem?_map, hos, Option.map_some]);rw [h4] at g1;simp only [hdr, Option.some.injEq, Prod.mk.injEq] at g1;obtain ⟨rfl, rfl, rfl⟩ := g1;rcases g4.2.2.2 with ⟨g5, _⟩ | ⟨g, og, cur, g5, _⟩
    ·have := g4.2.1; omega
    ·subst g5;refine ⟨_, ⟨m, id, i0, _, g, og, (rowAt os n).length, hm, h2, h3, by rw [h4]; rfl, hlt, rfl⟩, fun w' _ => ?_⟩;unfold execOp;simp only [ho, h4, h6];simp [Instr.indexAt, asIntOf, Sem.run_bind, run_underlying hd, Result.andThen, xAm hi, Addr.add_lit, hi0, hin]
  ·rename_i inf p t2 τ os hi hr;refine xAl fun hg => ?_;obtain ⟨hi0, hin⟩ := xER hg.1;have h6 := xAL (ρ := ρ) (xAa hK hix);have hlt : i.toNat < (xJ9 os n).length := by omega
   obtain ⟨m, hm, hos⟩ := xQH hlt;obtain ⟨p', hp, hrr, ht⟩ := xAE hr;rw [Nat.zero_add] at hp; subst hp;rcases xAa hK hx with ⟨h0, _⟩ | ⟨m', id, i0, h1, h2, h3, a0, n0, c0, h4⟩
   ·omega
   ·obtain rfl : m = m' := by omega
    obtain ⟨ip, hip⟩ := hh.info hrr;have h7 := hh.cov p t' _ ip hrr hip ht id i0 m _ h2 h3;have hA : ArOk ρ w (ip.objs t') (Root.arr t2 τ os).obs := by cases ht; exact hh.ok p _ ip hrr hip
    obtain ⟨a1, c1, g1, _, _, vs, g3, g4⟩ := hA.2.1 m _ (.rr τ (xJ9 os n)) h7 (by simp only [Root.obs, List.getElem?_map, hos, Option.map_some]);rw [h4] at g1;simp only [Value.slice.injEq] at g1;obtain ⟨rfl, rfl, rfl⟩ := g1;obtain ⟨g, og, g5, _⟩ := g4 (by omega);subst g5;refine ⟨_, ⟨m, id, i0, _, g, og, (xJ9 os n).length, hm, h2, h3, by rw [h4]; rfl, hlt, rfl⟩, fun w' _ => ?_⟩;unfold execOp;simp only [ho, h4, h6];simp [Instr.indexAt, asIntOf, Sem.run_bind, run_underlying hd, Result.andThen, xAm hi, Addr.add_lit, hi0, hin]
  ·trivial
 ·rename_i m e t' n k row j kk i hd hx hix;split
  ·rename_i inf hi;refine xAl fun hg => ?_;obtain ⟨hi0, hin⟩ := xER hg.1;have h6 := xAL (ρ := ρ) (xAa hK hix);obtain ⟨mm, id, i', u, b, off, len, h1, h2, h3, h4, h5, h7⟩ := xAa hK hx;refine ⟨_, ⟨mm, id, i', u, b, off, len, h1, h2, h3, h4, h5, rfl⟩, fun w' _ => ?_⟩;unfold execOp;simp only [ho, h7, h6];simp [Instr.indexAt, asIntOf, Sem.run_bind, run_underlying hd, Result.andThen, Instr.sureAddr, xAm hi, Addr.add_lit, Nat.add_assoc, xBo, hi0, hin]
  ·trivial
 ·rename_i m e b o' kk i hd hx hix;split
  ·rename_i inf hi;refine xAl fun hg => ?_;obtain ⟨hi0, hin⟩ := xER hg.1;have h6 := xAL (ρ := ρ) (xAa hK hix);have h7 : a.eval x = .pointer (some ⟨b, o', none⟩) := (xAa hK hx).1;refine ⟨.pointer (some ⟨b, o' + i.toNat * inf.size, none⟩), ⟨rfl, rfl⟩, fun w' _ => ?_⟩;unfold execOp;simp only [ho, h7, h6];simp [Instr.indexAt, asIntOf, Sem.run_bind, run_underlying hd, Result.andThen, Instr.sureAddr, xAm hi, Addr.add_lit, hi0, hin]
  ·trivial
 ·trivial
theorem xN7 {t : TypeId} {d : TypeDesc} (hd : P.underlying t = some d) (w : World) : (isAgg t).run P w = .ok (xBD d) w := by
 unfold isAgg;cases d <;> simp [xBD, Sem.run_bind, run_underlying hd, Result.andThen]
theorem xLS {t : TypeId} {l : List CV} {off : Nat} {v : PV} (hp : xSE P t l off = some v) {vs : List Value} (hl : DenL ρ l vs) : ∃ u, DenP ρ v u /\ ∀ w, (part t vs.toArray off).run P w = .ok u w := by
 unfold xSE at hp;split at hp
 ·rename_i d i hd hi
  cases hag : xBD d with
  | true =>
   rw [hag] at hp;simp only [cond_true] at hp;split at hp
   ·rename_i cs hcs;cases hp;obtain ⟨h1, _⟩ := xD3 hl hcs;refine ⟨_, ⟨_, h1, rfl⟩, fun w => ?_⟩;unfold part;simp [Sem.run_bind, xN7 hd, hag, Result.andThen, xAm hi, List.take_drop]
   ·cases hp
  | false =>
   rw [hag] at hp;simp only [cond_false] at hp;split at hp
   ·rename_i x hx;cases hp;obtain ⟨u, h1, h2⟩ := hl.get hx;refine ⟨u, h2, fun w => ?_⟩;unfold part;simp [Sem.run_bind, xN7 hd, hag, Result.andThen, h1]
   ·cases hp
 ·cases hp
theorem xWI (hK : KOk N D ρ K a) {t : TypeId} {x : Operand} {f : Nat} (ho : o.op = .field t x f) : xBZ P ρ h w a o L (xWJ P K t x f) := by
 unfold xWJ;split
 ·rename_i fields l hd hx;split
  ·rename_i fd hfd;refine xLT fun {v} hv => ?_;obtain ⟨vs, h1, h2⟩ := xAa hK hx;obtain ⟨u, h3, h4⟩ := xLS hv h1;refine ⟨u, h3, fun w' _ => ?_⟩;unfold execOp;simp only [ho, h2];simp [Instr.field, asAgg, Sem.run_bind, run_underlying hd, Result.andThen, hfd, h4]
  ·trivial
 ·trivial
theorem xKq : ∀ {l : List CV} {ss : List ByteArray}, strsOf l = some ss -> ∀ {i : Nat}, i < ss.length -> l[i]? = some (.sc (.string (nth ss ByteArray.empty i)))
 | [], ss, h, i, hi => by
  simp only [strsOf, Option.some.injEq] at h;subst h;simp at hi
 | x :: l, ss, h, i, hi => by
  unfold strsOf at h;split at h
  ·rename_i e; cases e
  ·rename_i s l' e;cases e;split at h
   ·rename_i r hr;cases h
    cases i with
    | zero => rfl
    | succ i => exact xKq hr (by simpa using hi)
   ·cases h
  ·cases h
theorem xWe (hK : KOk N D ρ K a) {t : TypeId} {x ix : Operand} (ho : o.op = .index t x ix) : xBZ P ρ h w a o L (xWf P K t x ix) := by
 unfold xWf;split
 ·rename_i n e l kk i hd hx hix;split
  ·rename_i inf hi;split
   ·rename_i ss hss hstr
    cases hsz : Nat.beq inf.size 1 with
    | false => trivial
    | true =>
    simp only [cond_true];have hsz := nbT hsz;refine xAl fun hg => ?_;obtain ⟨hi0, hin⟩ := xER hg.1;have hle := Nat.le_of_ble_eq_true hg.2.1;have hlt : i.toNat < ss.length := by omega
    obtain ⟨vs, h1, h2⟩ := xAa hK hx;have h6 := xAL (ρ := ρ) (xAa hK hix);have hv : xSE P e l (i.toNat * inf.size) = some (.c (.sc (.string (nth ss ByteArray.empty i.toNat)))) := by
     unfold xSE;rw [hstr, hi];simp only [xBD, cond_false, hsz, Nat.mul_one];rw [xKq hss hlt]
    obtain ⟨u, h3, h4⟩ := xLS hv h1;refine ⟨u, h3, fun w' _ => ?_⟩;unfold execOp;simp only [ho, h2, h6];simp [Instr.index, asIntOf, Sem.run_bind, run_underlying hd, Result.andThen, xAm hi, hi0, hin, h4]
   split
   ·rename_i v hv;refine xAl fun hg => ?_;obtain ⟨hi0, hin⟩ := xER hg.1;obtain ⟨vs, h1, h2⟩ := xAa hK hx;have h6 := xAL (ρ := ρ) (xAa hK hix);obtain ⟨u, h3, h4⟩ := xLS hv h1;refine ⟨u, h3, fun w' _ => ?_⟩;unfold execOp;simp only [ho, h2, h6];simp [Instr.index, asIntOf, Sem.run_bind, run_underlying hd, Result.andThen, xAm hi, hi0, hin, h4]
   ·trivial
  ·trivial
 ·rename_i s kk i hd hx hix;refine xAl fun hg => ?_;obtain ⟨hi0, hin⟩ := xER hg.1;have h5 : a.eval x = .string s := (xAa hK hx).1;have h6 := xAL (ρ := ρ) (xAa hK hix);refine ⟨_, ⟨rfl, rfl⟩, fun w' _ => ?_⟩;have hlt : i.toNat < s.size := by omega
  unfold execOp;simp only [ho, h5, h6];simp [Instr.index, asIntOf, Sem.run_bind, run_underlying hd, Result.andThen, hi0, hlt, bAt]
 ·trivial
theorem xMb (hK : KOk N D ρ K a) {d : Int} {x : Operand} {i : Int} (h : intOf K d (some x) = some i) : ∃ k, a.eval x = .int k i := by
 simp only [intOf] at h;split at h
 ·rename_i k j hx; cases h; exact ⟨k, (xAa hK hx).1⟩
 ·cases h
theorem xCx {isS : Bool} {len rm cap : Nat} {lo hi : Option Operand} (hK : KOk N D ρ K a) {l m : Int} (hl : intOf K 0 lo = some l) (hm : intOf K len hi = some m) (hg : AllB [inC m rm, inC l m.toNat]) (hcap : rm <= cap) (w : World) :
  (Instr.sliceBounds isS len cap (lo.map a.eval) (hi.map a.eval) none).run P w = .ok (l.toNat, m.toNat, cap) w := by
 obtain ⟨hm0, hm1⟩ := xCX hg.1;obtain ⟨hl0, hl1⟩ := xCX hg.2.1;have hb : ∀ (v : Value) (y : Nat) (c : BoundsCode) (k : IntKind) (i : Int), v = .int k i -> 0 <= i -> i <= (y : Int) -> (Instr.sliceBound v y c).run P w = .ok i.toNat w := by
  intro v y c k i hv h0 h1;subst hv;simp [Instr.sliceBound, asIntOf, Sem.run_bind, Result.andThen, h0, h1]
 cases hi with
 | none =>
  simp only [intOf, Option.some.injEq] at hm;subst hm
  cases lo with
  | none =>
   simp only [intOf, Option.some.injEq] at hl;subst hl;simp [Instr.sliceBounds, Sem.run_bind, Result.andThen]
  | some x =>
   obtain ⟨k, hx⟩ := xMb hK hl;simp [Instr.sliceBounds, Sem.run_bind, Result.andThen, hb _ len .sliceB k l hx hl0 (by simpa using hl1)]
 | some y =>
  obtain ⟨k', hy⟩ := xMb hK hm
  cases lo with
  | none =>
   simp only [intOf, Option.some.injEq] at hl;subst hl;simp [Instr.sliceBounds, Sem.run_bind, Result.andThen, hb _ cap _ k' m hy hm0 (by omega)]
  | some x =>
   obtain ⟨k, hx⟩ := xMb hK hl;simp [Instr.sliceBounds, Sem.run_bind, Result.andThen, hb _ cap _ k' m hy hm0 (by omega), hb _ m.toNat .sliceB k l hx hl0 hl1]
theorem add_add (a : Addr) (x y : Nat) : (a.add x).add y = a.add (x + y) := by
 unfold Addr.add;by_cases hx : x = 0
 ·subst hx; simp
 ·by_cases hy : y = 0
  ·subst hy; simp [hx]
  ·simp [hx, hy, Nat.add_assoc]
theorem xUe (hK : KOk N D ρ K a) (hh : HOk S F W0 ρ h w) {t : TypeId} {x : Operand} {lo hi : Option Operand} (ho : o.op = .slice t x lo hi none) : xBZ P ρ h w a o L (xUf P K h t x lo hi) := by
 unfold xUf;split
 ·rename_i e id k off n c hd hx;split
  ·rename_i inf n0 l hi hn0 hl
   cases hz : Nat.beq inf.size k with
   | false => trivial
   | true =>
    have hz' := nbT hz;simp only [cond_true];obtain ⟨i', a', c', nn, h1, h2, h3, h4, h4', hc, ⟨q, h8, h9⟩, h10, h10', h11, h12⟩ := xAa hK hx;have hnn := xGy hh h1 hc hn0;subst hnn;have hroom : nn <= roomOf h id off nn /\ roomOf h id off nn <= c' /\ off + roomOf h id off nn <= q /\ (0 < roomOf h id off nn -> ∃ b o, i'.a = some ⟨b, o, none⟩) := by
     unfold roomOf;split
     ·rename_i T τ xs hr;obtain ⟨h20, _, vs, _, _, h21, _, h22⟩ := hh.ok id _ i' hr h1;rw [h8] at h20;have := Option.some.inj h20;refine ⟨by omega, by omega, by omega, fun hpos => ?_⟩;rcases h22 with ⟨h22, _⟩ | ⟨g, o', cur, h22, _⟩
      ·omega
      ·exact ⟨g, o', h22⟩
     ·exact ⟨Nat.le_refl _, h3, h9, h4'⟩
    have addr : ∀ {x : Nat}, x <= c' -> (if c' = x then a' else a'.map (·.add (x * inf.size))).map (·.block) = i'.a.map (·.block) /\ (addN off x = 0 -> (if c' = x then a' else a'.map (·.add (x * inf.size))) = i'.a) /\ (addN off x < i'.cap -> (if c' = x then a' else a'.map (·.add (x * inf.size))) = i'.a.map (·.add (addN off x * k))) := by
     intro x hx;refine ⟨?_, fun e0 => ?_, fun e1 => ?_⟩
     ·rw [<- h10'];split
      ·rfl
      ·cases a' <;> simp [Addr.add]; split <;> rfl
     ·rw [xBo] at e0;have e2 : x = 0 := by omega
      rw [h11 (by omega), e2];cases i'.a <;> simp [Addr.add]
     ·rw [xBo] at e1 ⊢;rw [if_neg (by omega), h12 (by omega), Option.map_map, hz'];congr 1;funext q;simp [add_add, Nat.add_mul]
    split
    ·refine xAl fun hg => ?_;obtain ⟨hl0, hl1⟩ := xCX hg.1;have hb := xCx (P := P) (isS := true) (len := nn) (rm := nn) (hi := none) hK hl (by rfl) ⟨by simp [inC], by simp only [AllB, and_true]; simpa [inC] using hg.1⟩ h3;refine ⟨.slice (if c' = l.toNat then a' else a'.map (·.add (l.toNat * inf.size))) (nn - l.toNat) (c' - l.toNat), ⟨i', _, _, _, h1, rfl, by omega, by omega, fun hn => h4' (by omega), ?_, ⟨q, h8, by rw [xBo]; omega⟩, by rw [xBo]; omega, addr (by omega)⟩, fun w' _ => ?_⟩
     ·cases n with
      | some x => simp only [Info.cnt] at hc; subst hc; rfl
      | none =>
       obtain ⟨m, h13, h14⟩ := hc;exact ⟨m, h13, by rw [xBo]; omega⟩
     ·unfold execOp;simp only [ho, h2];have hb2 := hb w';simp only [Int.toNat_natCast, Option.map_none] at hb2;simp [Instr.sliceAt, Instr.slice, Sem.run_bind, run_underlying hd, Result.andThen, xAm hi, hb2]
    ·rename_i y;split
     ·rename_i m hm;refine xAl fun hg => ?_;obtain ⟨hm0, hm1⟩ := xCX hg.1;obtain ⟨hl0, hl1⟩ := xCX hg.2.1;have hb := xCx (P := P) (isS := true) hK hl hm hg hroom.2.1;refine ⟨.slice (if c' = l.toNat then a' else a'.map (·.add (l.toNat * inf.size))) (m.toNat - l.toNat) (c' - l.toNat), ⟨i', _, _, _, h1, rfl, by omega, by omega, fun hn => hroom.2.2.2 (by omega), rfl, ⟨q, h8, by rw [xBo]; omega⟩, by rw [xBo]; omega, addr (by omega)⟩, fun w' _ => ?_⟩;have hb2 := hb w';simp only [Option.map_some] at hb2;unfold execOp;simp only [ho, h2];simp [Instr.sliceAt, Instr.slice, Sem.run_bind, run_underlying hd, Result.andThen, xAm hi, hb2]
     ·trivial
  ·rename_i inf n0 l c0 hi hn0 hl;split
   ·rename_i m hm
    cases hz : Nat.beq inf.size k with
    | false => trivial
    | true =>
     have hz' := nbT hz;refine xAl fun hg => ?_;obtain ⟨hm0, hm1⟩ := xCX hg.1;obtain ⟨hl0, hl1⟩ := xCX hg.2.1;obtain ⟨i', a', c', nn, h1, h2, h3, h4, h4', hc, h8, h9, h9c, h10⟩ := xAa hK hx;have hnn := xGy hh h1 hc hn0;subst hnn;have hb := xCx (P := P) (isS := true) hK hl hm hg h3;refine ⟨.slice (if c' = l.toNat then a' else a'.map (·.add (l.toNat * inf.size))) (m.toNat - l.toNat) (c' - l.toNat), ⟨i', _, _, _, h1, rfl, by omega, by omega, fun hn => h4' (by omega), rfl, ?_⟩, fun w' _ => ?_⟩
     ·refine ⟨h8, by simp [h9], fun hk => (by have := h9c hk; rw [xBo]; omega), fun hn => ?_⟩;rw [xBo, if_neg (by omega), h10 (by omega), Option.map_map, hz'];congr 1;funext q;simp [add_add, Nat.add_mul]
     ·unfold execOp;simp only [ho, h2];simp [Instr.sliceAt, Instr.slice, Sem.run_bind, run_underlying hd, Result.andThen, xAm hi, hb w']
   ·trivial
  ·trivial
 ·rename_i s hd hx;split
  ·rename_i l m hl hm;refine xAl fun hg => ?_;have h5 : a.eval x = .string s := (xAa hK hx).1;have hb := xCx (P := P) (isS := false) hK hl hm hg (Nat.le_refl _);refine ⟨_, ⟨rfl, rfl⟩, fun w' _ => ?_⟩;unfold execOp;simp only [ho, h5];simp [Instr.sliceAt, Instr.slice, Sem.run_bind, run_underlying hd, Result.andThen, hb w']
  ·trivial
 ·rename_i n e id k0 row j hd hx;split
  ·rename_i inf l m cs T hi hl hm hr
   cases hz : (Nat.ble ((row * k0 + j) + n * inf.size) cs.length && Nat.ble n 1000000 && Nat.beq ((row * k0 + j) / inf.size * inf.size) (row * k0 + j)) with
   | false =>
    simp only [cond_false]
    cases hy : (Nat.ble ((row * k0 + j) + n * inf.size) cs.length && Nat.ble n 1000000 && Nat.ble 1 inf.size) with
    | false => trivial
    | true =>
     simp only [Bool.and_eq_true] at hy;have hcl := Nat.le_of_ble_eq_true hy.1.1;have hz' := Nat.le_of_ble_eq_true hy.1.2;have hs1 := Nat.le_of_ble_eq_true hy.2;refine xAl fun hg => ?_;obtain ⟨hm0, hm1⟩ := xCX hg.1;obtain ⟨hl0, hl1⟩ := xCX hg.2.1;obtain ⟨i', b, o', h1, h2, h3, h4⟩ := xAa hK hx;have hb := xCx (P := P) (isS := false) hK hl hm hg (Nat.le_refl _);obtain ⟨hln, hlc⟩ := (hh.ok id _ i' hr h1).1;have e1 : l.toNat * inf.size + (m.toNat - l.toNat) <= n * inf.size := by
      have q1 : (m.toNat - l.toNat) * 1 <= (m.toNat - l.toNat) * inf.size := Nat.mul_le_mul (Nat.le_refl _) hs1;have q2 : m.toNat * inf.size <= n * inf.size := Nat.mul_le_mul (by omega) (Nat.le_refl _);have q3 : l.toNat * inf.size + (m.toNat - l.toNat) * inf.size = m.toNat * inf.size := by
       rw [<- Nat.add_mul]; congr 1; omega
      omega
     refine ⟨.slice (some (if n = l.toNat then ⟨b, o' + row * k0 + j, none⟩ else Addr.add ⟨b, o' + row * k0 + j, none⟩ (l.toNat * inf.size))) (m.toNat - l.toNat) (n - l.toNat), ⟨i', _, _, _, h1, rfl, by omega, by unfold maxLen; omega, fun _ => ⟨b, o', h2⟩, rfl, hln, rfl, fun _ => by rw [hlc]; omega, fun hn => ?_⟩, fun w' _ => ?_⟩
     ·rw [if_neg (by omega), h2, Option.map_some, Addr.add_lit, Addr.add_lit, Nat.mul_one];simp only [Nat.add_assoc]
     ·unfold execOp;simp only [ho, h4];simp [Instr.sliceAt, Instr.sureAddr, Sem.run_bind, run_underlying hd, Result.andThen, xAm hi, hb w']
   | true =>
    simp only [Bool.and_eq_true] at hz;have hcl := Nat.le_of_ble_eq_true hz.1.1;have hz' := Nat.le_of_ble_eq_true hz.1.2;have hq := nbT hz.2;generalize (row * k0 + j) / inf.size = q at *;refine xAl fun hg => ?_;obtain ⟨hm0, hm1⟩ := xCX hg.1;obtain ⟨hl0, hl1⟩ := xCX hg.2.1;obtain ⟨i', b, o', h1, h2, h3, h4⟩ := xAa hK hx;have hb := xCx (P := P) (isS := false) hK hl hm hg (Nat.le_refl _);obtain ⟨hln, hlc⟩ := (hh.ok id _ i' hr h1).1;refine ⟨.slice (some (if n = l.toNat then ⟨b, o' + row * k0 + j, none⟩ else Addr.add ⟨b, o' + row * k0 + j, none⟩ (l.toNat * inf.size))) (m.toNat - l.toNat) (n - l.toNat), ⟨i', _, _, _, h1, rfl, by omega, by unfold maxLen; omega, fun _ => ⟨b, o', h2⟩, rfl, hln, rfl, fun hk => ?_, fun hn => ?_⟩, fun w' _ => ?_⟩
    ·rw [hlc, xBo]; rw [hk] at hq hcl; omega
    ·rw [if_neg (by omega), h2, Option.map_some, Addr.add_lit, Addr.add_lit, xBo, Nat.add_mul, hq];simp only [Nat.add_assoc]
    ·unfold execOp;simp only [ho, h4];simp [Instr.sliceAt, Instr.sureAddr, Sem.run_bind, run_underlying hd, Result.andThen, xAm hi, hb w']
  ·trivial
 ·trivial
theorem xXH (hK : KOk N D ρ K a) {op : BinOp} {t t' : TypeId} {x y : Operand} (ho : o.op = .binOp op t x y t') : xBZ P ρ h w a o L (binP P K op x y o) := by
 unfold binP;split
 ·rename_i k p k' q hx hy
  cases hb : Nat.beq (kix k) (kix k') with
  | false => exact xB8 hK
  | true =>
   have := xDG hb;subst this;simp only [cond_true];split
   ·rename_i v hv;have h5 := xAL (ρ := ρ) (xAa hK hx);have h6 := xAL (ρ := ρ) (xAa hK hy);have hone : v.oneCell' = true := by
     cases op <;> simp only [xXR] at hv <;> first | (cases hv; rfl) | cases hv
    refine xAl fun _ => ⟨v, ⟨rfl, hone⟩, fun w' _ => ?_⟩;unfold execOp; simp only [ho, h5, h6];cases op <;> simp only [xXR] at hv <;> first | (cases hv; simp [eqGuard, binOp, Op.intArith, Op.intCmp, Sem.run_bind, Result.andThen]; done) | cases hv
   ·exact xB8 hK
 ·rename_i p q hx hy;split
  ·have h5 : a.eval x = .string p := (xAa hK hx).1;have h6 : a.eval y = .string q := (xAa hK hy).1;refine xAl fun hg => ⟨_, ⟨rfl, rfl⟩, fun w' _ => ?_⟩;have hsz : ¬ ((p.size + q.size : Nat) : Int) > IntKind.i64.max := by
    have := of_decide_eq_true hg.1;have e : IntKind.i64.max = 9223372036854775807 := rfl;rw [e]; omega
   unfold execOp; simp only [ho, h5, h6];simp only [eqGuard, binOp, Op.stringOp, if_neg hsz, Sem.run_bind, Result.andThen, Sem.run_pure, Bool.not_false, if_true]
  ·exact xB8 hK
 ·exact xB8 hK
theorem xOV {ρ : List Info} : ∀ {xs : List Int} {vs : List Value}, DenL ρ (flat (.int .u8) xs) vs -> vs = xs.map (Value.int .u8)
 | [], _, h => h
 | x :: xs, _, ⟨v, r, e, h1, h2⟩ => by
  rw [e, List.map_cons, <- xOV h2, h1.1]
theorem u8L_ok {τ : TC} {xs : List τ.ty} {ys : List Int} (h : u8L τ xs = some ys) : xs.length = ys.length /\ flat τ xs = flat (.int .u8) ys := by
 unfold u8L at h;split at h
 ·cases h; exact ⟨rfl, rfl⟩
 ·cases h
theorem xZ7 (hK : KOk N D ρ K a) (hh : HOk S F W0 ρ h w) {s d : TypeId} {x : Operand} (ho : o.op = .convert s d x) (hL : ∀ id k off n c, xAv K x = some (.c (.sl id k off n c)) -> id ∈ L) : xBZ P ρ h w a o L (convP P K h s d x o) := by
 unfold convP;split
 ·rename_i id k off n c hx;split
  ·rename_i e r hs hd hr;split
   ·rename_i xs he hu
    cases hb : ((Nat.beq k 1 && Nat.beq off 0) && (n.isNone && c.isNone)) with
    | false => trivial
    | true =>
     simp only [Bool.and_eq_true, Option.isNone_iff_eq_none] at hb;obtain ⟨⟨b1, b2⟩, rfl, rfl⟩ := hb;have b1 := nbT b1;have b2 := nbT b2;subst b1; subst b2;obtain ⟨i, a', c', nn, h1, h2, _, _, ha, hcnt, _, _, _, ha0, _⟩ := xAa hK hx;have ha0 := ha0 rfl;subst ha0;have hro := hh.ok id r i hr h1;have key : nn = xs.length /\ ∀ w', Agree L ρ h w w' -> ∀ q, i.a = some q -> ∀ (j : Nat) (v : Value), (xs.map (Value.int .u8))[j]? = some v -> w'.cell? (q.add j) = some v := by
      obtain ⟨m, hm, hn⟩ := hcnt
      cases r with
      | rows T τ zs =>
       obtain ⟨h0, _, vs, hv, how⟩ := hro;obtain ⟨l1, l2⟩ := u8L_ok (show u8L τ zs = some xs from hu);rw [h0] at hm; cases hm;rw [l2] at hv;have hvs := xOV hv;subst hvs;have hnx : nn = xs.length := by rw [hn, Nat.sub_zero]; exact l1
       refine ⟨hnx, fun w' hag q hq j v hj => ?_⟩;have hlt : 0 < nn := by
        have := (List.getElem?_eq_some_iff.1 hj).1;rw [List.length_map, <- hnx] at this;exact Nat.lt_of_le_of_lt (Nat.zero_le _) this
       obtain ⟨b, o', hia⟩ := ha hlt;rw [hia] at hq; cases hq;have hcell := xCI (hia ▸ how) hj;have := xEK (hL id _ _ _ _ hx) hag hr h1 (by simp [foot, own, hia]) hcell;unfold Addr.add;split
       ·rename_i e0; subst e0; exact this
       ·exact this
      | ro τ zs =>
       obtain ⟨h0, vs, hv, how⟩ := hro;obtain ⟨l1, l2⟩ := u8L_ok (show u8L τ zs = some xs from hu);rw [h0] at hm; cases hm;rw [l2] at hv;have hvs := xOV hv;subst hvs;have hnx : nn = xs.length := by rw [hn, Nat.sub_zero]; exact l1
       refine ⟨hnx, fun w' hag q hq j v hj => ?_⟩;have hlt : 0 < zs.length := by
        have := (List.getElem?_eq_some_iff.1 hj).1;rw [List.length_map, <- l1] at this;exact Nat.lt_of_le_of_lt (Nat.zero_le _) this
       obtain ⟨b, o', hia, _, hcl⟩ := how hlt;rw [hia] at hq; cases hq;have hcell := hcl j v hj;have := xEK (hL id _ _ _ _ hx) hag hr h1 (by cases zs with | nil => simp at hlt | cons z zs => simp [foot, hia]) hcell;unfold Addr.add;split
       ·rename_i e0; subst e0; exact this
       ·exact this
      | dead => cases hu
      | blk cs T => cases hu
      | clo f a c => cases hu
      | _ => cases hu
     obtain ⟨hn, hcells⟩ := key;subst hn;refine xAl fun _ => ⟨_, ⟨rfl, rfl⟩, fun w' hag => ?_⟩;unfold execOp; simp only [ho, h2, Sem.run_bind, run_convert_bytes_string w' s d e _ _ _ hs he hd]
     cases hia : i.a with
     | none =>
      have h0 : xs = [] := by
       cases xs with
       | nil => rfl
       | cons x xs => obtain ⟨b, o', hz⟩ := ha (by simp); rw [hia] at hz; cases hz
      subst h0;rfl
     | some q =>
      have hl := run_loadCells_list (P := P) w' q (xs.map (Value.int .u8)) (hcells w' hag q hia);rw [List.length_map] at hl;rw [run_bytesToString w' q xs.length c' xs hl];rfl
   ·trivial
  ·trivial
 ·exact xB8 hK
theorem xS2 {P : Program} (w : World) (t e : TypeId) (a : Option Addr) (l c : Nat) (h : P.underlying t = some (.slice e)) : (binOp .eql t (.slice a l c) (.slice none 0 0)).run P w = .ok (.bool a.isNone) w := by
 simp only [binOp];simp [run_equal_slice_nil w t e a l c h]
theorem xWL {n : Bool} (hK : KOk N D ρ K a) (hh : HOk S F W0 ρ h w) {t t' : TypeId} {x y : Operand} (ho : o.op = .binOp (bif n then .neq else .eql) t x y t') : xBZ P ρ h w a o L (eqlP P K h t x y n o) := by
 unfold eqlP;split
 ·rename_i t2 m hx hy;split
  ·rename_i e hd;have h5 : a.eval y = .pointer none := (xAa hK hy).1;refine xAl fun _ => ⟨_, ⟨rfl, rfl⟩, fun w' _ => ?_⟩;have hp : P.underlying t = some (.pointer (P.pointee t)) := by simp [Program.pointee, hd]
   rcases xAa hK hx with ⟨h0, h4⟩ | ⟨m', id, i, h1, _, _, b, o', h4⟩
   ·subst h0;unfold execOp; simp only [ho, h4, h5];have hg : ∀ q, (eqGuard q t x y (.pointer none) (.pointer none)).run P w' = .ok () w' := fun q => by cases q <;> rfl
    cases n with
    | true => simp only [nilQ, cond_true, Sem.run_bind, hg, Result.andThen_ok, run_neq_pointer_nil w' t _ hp, Sem.run_pure, Option.isNone_none, Nat.beq]
    | false => simp only [nilQ, cond_false, Sem.run_bind, hg, Result.andThen_ok, run_eql_pointer_nil w' t _ hp, Sem.run_pure, Option.isNone_none, Nat.beq]
   ·subst h1;unfold execOp; simp only [ho, h4, h5];have hg : ∀ q, (eqGuard q t x y (.pointer (some ⟨b, o', none⟩)) (.pointer none)).run P w' = .ok () w' := fun q => by cases q <;> rfl
    cases n with
    | true => simp only [cond_true, Sem.run_bind, hg, Result.andThen_ok, run_neq_pointer_nil w' t _ hp, Sem.run_pure, Option.isNone_some, Nat.beq]
    | false => simp only [cond_false, Sem.run_bind, hg, Result.andThen_ok, run_eql_pointer_nil w' t _ hp, Sem.run_pure, Option.isNone_some, Nat.beq]
  ·trivial
 ·rename_i id k row j hx hy;split
  ·rename_i e hd;obtain ⟨i', b, o', h1, h2, h3, h4⟩ := xAa hK hx;have h5 : a.eval y = .pointer none := (xAa hK hy).1;refine xAl fun _ => ⟨_, ⟨rfl, rfl⟩, fun w' _ => ?_⟩;unfold execOp; simp only [ho, h4, h5];have hp : P.underlying t = some (.pointer (P.pointee t)) := by simp [Program.pointee, hd]
   have hg : ∀ q, (eqGuard q t x y (.pointer (some ⟨b, o' + row * k + j, none⟩)) (.pointer none)).run P w' = .ok () w' := fun q => by cases q <;> rfl
   cases n with
   | true => simp only [cond_true, Sem.run_bind, hg, Result.andThen_ok, run_neq_pointer_nil w' t _ hp, Sem.run_pure, Option.isNone_some, Bool.not_false]
   | false => simp only [cond_false, Sem.run_bind, hg, Result.andThen_ok, run_eql_pointer_nil w' t _ hp, Sem.run_pure, Option.isNone_some]
  ·trivial
 ·rename_i id k off m c hx hy;split
  ·rename_i e n0 hd hn0;obtain ⟨i', a', c', nn, h1, h2, _, _, ha, hc, hrest⟩ := xAa hK hx;have hnn := xGy hh h1 hc hn0;subst hnn;have h5 : a.eval y = .slice none 0 0 := (xAa hK hy).1;refine xAl fun hg => ⟨_, ⟨rfl, rfl⟩, fun w' _ => ?_⟩;have hpos : 0 < nn := Nat.le_of_ble_eq_true hg.1;obtain ⟨b, o', hia⟩ := ha hpos;have hsome : ∃ q, a' = some q := by
    cases c with
    | none =>
     obtain ⟨_, _, hb, _⟩ := hrest;rw [hia] at hb
     cases a' with
     | none => cases hb
     | some q => exact ⟨q, rfl⟩
    | some c0 =>
     obtain ⟨_, _, _, hb⟩ := hrest;have := hb hpos;rw [hia] at this;exact ⟨_, this⟩
   obtain ⟨q, hq⟩ := hsome;subst hq;unfold execOp; simp only [ho, h2, h5];have hgd : ∀ r, (eqGuard r t x y (.slice (some q) nn c') (.slice none 0 0)).run P w' = .ok () w' := fun r => by cases r <;> rfl
   cases n with
   | true => simp only [cond_true, Sem.run_bind, hgd, Result.andThen_ok, run_neq_slice_nil w' t _ _ _ _ hd, Sem.run_pure, Option.isNone_some, Bool.not_false]
   | false => simp only [cond_false, Sem.run_bind, hgd, Result.andThen_ok, xS2 w' t _ _ _ _ hd, Sem.run_pure, Option.isNone_some]
  ·trivial
 ·rename_i b hx hy;split
  ·rename_i cy ms hd;have h4 := xAa hK hx;have h5 : a.eval (.const cy) = .nilIface := (xAa hK hy).1;have hp : P.underlying t = some (.interface (P.methodsAt t)) := by simp [Program.methodsAt, hd]
   refine xAl fun _ => ⟨_, ⟨rfl, rfl⟩, fun w' _ => ?_⟩;rcases h4 with ⟨rfl, h4⟩ | ⟨rfl, u, q, h4⟩
   ·unfold execOp; simp only [ho, h4, h5];have hgd : ∀ r, (eqGuard r t x (.const cy) .nilIface .nilIface).run P w' = .ok () w' := fun r => by cases r <;> cases x <;> rfl
    cases n with
    | true => simp only [cond_true, Sem.run_bind, hgd, Result.andThen_ok, run_neq_nil_nil w' t hp, Sem.run_pure, Bool.not_true]
    | false => simp only [cond_false, Sem.run_bind, hgd, Result.andThen_ok, run_eql_nil_nil w' t hp, Sem.run_pure]
   ·unfold execOp; simp only [ho, h4, h5];have hgd : ∀ r, (eqGuard r t x (.const cy) (.iface u q) .nilIface).run P w' = .ok () w' := fun r => by cases r <;> rfl
    cases n with
    | true => simp only [cond_true, Sem.run_bind, hgd, Result.andThen_ok, run_neq_held_nil w' t u q hp, Sem.run_pure, Bool.not_false]
    | false => simp only [cond_false, Sem.run_bind, hgd, Result.andThen_ok, run_eql_held_nil w' t u q hp, Sem.run_pure]
  ·trivial
 ·rename_i l m hx hy;split
  ·rename_i xs ys hxs hys
   cases hg : P.eqGuardType P.depth t with
   | true => trivial
   | false =>
    simp only [cond_false];split
    ·rename_i b hb;have h5 : a.eval x = .agg xs.toArray := by
      obtain ⟨vs, h1, h2⟩ := xAa hK hx;rw [h2, xLP hxs h1]
     have h6 : a.eval y = .agg ys.toArray := by
      obtain ⟨vs, h1, h2⟩ := xAa hK hy;rw [h2, xLP hys h1]
     refine xAl fun _ => ⟨_, ⟨rfl, rfl⟩, fun w' _ => ?_⟩;have he := xPN (P := P) 9980 20 t _ _ b hb w';unfold execOp
     cases n with
     | true => simp only [ho, h5, h6, cond_true, Sem.run_bind, run_eqGuard_agg w' .neq t x y xs.toArray ys.toArray hg, Result.andThen_ok, run_neq_struct, he, Sem.run_pure]
     | false => simp only [ho, h5, h6, cond_false, Sem.run_bind, run_eqGuard_agg w' .eql t x y xs.toArray ys.toArray hg, Result.andThen_ok, run_eql_struct, he, Sem.run_pure]
    ·trivial
  ·trivial
 ·exact xXH hK ho
theorem xNe {off : Nat} : ∀ {cs : List CV} {us : List Value} (_ : DenL ρ cs us) (j : Nat) {l : List CV} {arr : Array Value}, DenL ρ l arr.toList -> DenL ρ (xQB off j cs l) ((us.zipIdx j).foldl (fun (s : Array Value) (p : Value × Nat) => s.setIfInBounds (off + p.2) p.1) arr).toList
 | [], us, h, j, l, arr, hl => by rw [h]; exact hl
 | c :: cs, us, ⟨v, r, e, h1, h2⟩, j, l, arr, hl => by
  rw [e];simp only [List.zipIdx_cons, List.foldl_cons, xQB];exact xNe h2 (j + 1) (by rw [Array.toList_setIfInBounds]; exact hl.set h1)
theorem xD8 (hK : KOk N D ρ K a) : ∀ {l : List (Nat × Operand)} {r : List (Nat × List CV)}, xNz K l = some r -> ∀ (place : Nat -> Option (Nat × Nat)) (z : List CV) (arr : Array Value) (cs : List CV), DenL ρ z arr.toList -> xPF place z r = some cs ->
  ∃ out : Array Value, DenL ρ cs out.toList /\ Instr.fill place arr (l.map fun p => (p.1, a.eval p.2)) = some out
 | [], r, h, place, z, arr, cs, hz, hf => by
  cases h;simp only [xPF, Option.some.injEq] at hf;subst hf;exact ⟨arr, hz, rfl⟩
 | (i, x) :: l, r, h, place, z, arr, cs, hz, hf => by
  simp only [xNz] at h;split at h
  ·rename_i ds q hds hq;cases h;obtain ⟨p, hp, hc⟩ := Option.bind_eq_some_iff.1 hds;simp only [xPF] at hf;split at hf
   ·cases hf
   ·rename_i off size hpl
    cases hb : (Nat.beq ds.length size && Nat.ble (off + ds.length) z.length) with
    | false => rw [hb] at hf; cases hf
    | true =>
     rw [hb] at hf;simp only [Bool.and_eq_true] at hb;have hb1 := nbT hb.1;have hb2 := Nat.le_of_ble_eq_true hb.2;have hv : ∃ us : List Value, (a.eval x).cells = us.toArray /\ DenL ρ ds us := by
      have hd := xAa hK hp
      cases p with
      | c y =>
       cases hc;refine ⟨[a.eval x], ?_, ⟨_, _, rfl, hd, rfl⟩⟩;have := Den.one hd;generalize a.eval x = v at *;cases v <;> first | rfl | cases this
      | ag m =>
       cases hc;obtain ⟨vs, h1, h2⟩ := hd;exact ⟨vs, by rw [h2]; rfl, h1⟩
      | tu m => cases hc
      | un => cases hc
     obtain ⟨us, hus, hdu⟩ := hv;have hfold : ((a.eval x).cells.zipIdx.foldl (fun (s : Array Value) (p : Value × Nat) => s.setIfInBounds (off + p.2) p.1) arr) = ((us.zipIdx 0).foldl (fun (s : Array Value) (p : Value × Nat) => s.setIfInBounds (off + p.2) p.1) arr) := by
      rw [hus, <- Array.foldl_toList, Array.toList_zipIdx]
     have hnext := xNe (off := off) hdu 0 hz;rw [<- hfold] at hnext;obtain ⟨out, h3, h4⟩ := xD8 hK hq place _ _ cs hnext hf;refine ⟨out, h3, ?_⟩;have hsz : (a.eval x).cells.size = size := by rw [hus, List.size_toArray, hdu.len, hb1]
     have hza : arr.size = z.length := by rw [<- hz.len]; simp
     simp only [List.map_cons, Instr.fill, hpl, hsz, ne_eq, not_true_eq_false, false_or];rw [if_neg (by simp; omega)];exact h4
  ·cases h
theorem xHL {t : TypeId} {z : List CV} (hz : xKb P t = some z) : ∃ v : Value, DenL ρ z v.cells.toList /\ ∀ w, (zeroValue t).run P w = .ok v w := by
 unfold xKb at hz;split at hz
 ·rename_i i hi;split at hz
  ·rename_i v hv;exact ⟨v, xNh hz, fun w => by simp [zeroValue, typeInfo, hi, hv, Sem.run_bind, Result.andThen]⟩
  ·cases hz
 ·cases hz
theorem xKD : ∀ {l : List Field} {r : List (Nat × Nat)}, xLR P l = some r -> ∀ w, (l.mapM (fun f => do pure (f.offset, <- sizeOf f.type) : Field -> Sem (Nat × Nat))).run P w = .ok r w
 | [], r, h, w => by cases h; rfl
 | f :: l, r, h, w => by
  simp only [xLR] at h;split at h
  ·rename_i i q hi hq;cases h;have ih := xKD hq w;simp only [List.mapM_cons, Sem.run_bind, xAm hi, Result.andThen_ok, Sem.run_pure, ih]
  ·cases h
theorem xXC (hK : KOk N D ρ K a) {t : TypeId} {parts : Array (Nat × Operand)} (ho : o.op = .build t parts) : xBZ P ρ h w a o L (xXD P K t parts) := by
 have hmap : (parts.map fun (i, x) => (i, a.eval x)).toList = parts.toList.map (fun p => (p.1, a.eval p.2)) := by simp
 unfold xXD;split
 ·rename_i z fields ps hz hd hp;split
  ·rename_i pl hpl;split
   ·rename_i cs hcs;obtain ⟨v, h1, h2⟩ := xHL (ρ := ρ) hz;obtain ⟨out, h3, h4⟩ := xD8 hK hp _ z v.cells cs h1 hcs;refine xAl fun _ => ⟨.agg out, ⟨out.toList, h3, by simp⟩, fun w' _ => ?_⟩;have hmm := xKD hpl w';have hpl2 : (fields.mapM (fun f => do pure (f.offset, <- sizeOf f.type) : Field -> Sem (Nat × Nat))).run P w' = .ok pl.toArray w' := by
     rw [Array.mapM_eq_mapM_toList];simp only [map_eq_pure_bind, Sem.run_bind, hmm, Result.andThen_ok, Sem.run_pure]
    have h4' : Instr.fill (fun i => pl.toArray[i]?) v.cells (parts.map fun (i, x) => (i, a.eval x)).toList = some out := by
     rw [hmap]; simpa using h4
    unfold execOp; simp only [ho];simp only [Instr.build, Sem.run_bind, h2 w', Result.andThen_ok, run_underlying hd, hpl2, h4', Sem.run_pure]
   ·trivial
  ·trivial
 ·rename_i z n e ps hz hd hp;split
  ·rename_i inf hi;split
   ·rename_i cs hcs;obtain ⟨v, h1, h2⟩ := xHL (ρ := ρ) hz;obtain ⟨out, h3, h4⟩ := xD8 hK hp _ z v.cells cs h1 hcs;refine xAl fun _ => ⟨.agg out, ⟨out.toList, h3, by simp⟩, fun w' _ => ?_⟩;have h4' : Instr.fill (fun i => some (i * inf.size, inf.size)) v.cells (parts.map fun (i, x) => (i, a.eval x)).toList = some out := by
     rw [hmap]; exact h4
    unfold execOp; simp only [ho];simp only [Instr.build, Sem.run_bind, h2 w', Result.andThen_ok, run_underlying hd, xAm hi, h4', Sem.run_pure]
   ·trivial
  ·trivial
 ·trivial
theorem xOy {κ : KK} {agg : Bool} {τ : TC} : ∀ {us : List (κ.ty × Nat × τ.ty)} {l : List MapEntry}, EntOk ρ κ agg τ us l -> l.length = us.length
 | [], _, h => by rw [show _ = [] from h]; rfl
 | _ :: _, _, ⟨_, _, e1, _, _, e4⟩ => by rw [e1]; simp [xOy e4]
theorem xVj {κ : KK} {agg : Bool} {τ : TC} {ts : List (κ.ty × τ.ty)} {ents : Array MapEntry} {cl : Nat} (h : MapOk ρ κ agg τ ts ents cl) : ents.size = ts.length := by
 obtain ⟨us, h1, h2, _⟩ := h;rw [<- Array.length_toList, xOy h1, <- h2.length_eq];simp [strip]
theorem xYN {κ : KK} {d : TypeDesc} (hf : κ.fits d = true) (a b : κ.ty) : Instr.sameNow d (κ.val a) (κ.val b) = some (κ.eqb a b) := by
 cases κ with
 | i k => cases d <;> first | (cases hf; done) | simp [Instr.sameNow, KK.val, KK.eqb]
 | s => cases d <;> first | (cases hf; done) | rfl
def atU {κ : KK} {α : Type} (n : κ.ty) : List (κ.ty × Nat × α) -> Option Nat
 | [] => none
 | e :: r => bif κ.eqb n e.1 then some 0 else (atU n r).map (· + 1)
theorem xEE {κ : KK} {agg : Bool} {τ : TC} {d : TypeDesc} (hf : κ.fits d = true) (n : κ.ty) : ∀ {us : List (κ.ty × Nat × τ.ty)} {l : List MapEntry} (i0 : Nat), EntOk ρ κ agg τ us l ->
  match atU n us with
  | some j => ∃ e v, us[j]? = some e /\ e.1 = n /\ Instr.findNow d (κ.val n) l i0 = some (some (i0 + j, v)) /\ DenB ρ agg (τ.enc e.2.2) v /\ j < l.length
  | none => Instr.findNow d (κ.val n) l i0 = some none /\ n ∉ us.map (fun e => e.1)
 | [], l, i0, h => by rw [show l = [] from h]; exact ⟨rfl, by simp⟩
 | x :: us, l, i0, ⟨e, r, e1, e2, ⟨_, e3⟩, e4⟩ => by
  subst e1;simp only [atU, Instr.findNow, e2, xYN hf]
  cases hb : κ.eqb n x.1 with
  | true => exact ⟨x, e.val, rfl, ((κ.eqb_iff n x.1).1 hb).symm, rfl, e3, by simp⟩
  | false =>
   have ih := xEE hf n (i0 + 1) e4;simp only [cond_false]
   cases ha : atU n us with
   | none =>
    rw [ha] at ih;have : n ≠ x.1 := fun h => by rw [(κ.eqb_iff n x.1).2 h] at hb; cases hb
    exact ⟨ih.1, by simp only [List.map_cons, List.mem_cons, not_or]; exact ⟨this, ih.2⟩⟩
   | some j =>
    rw [ha] at ih;obtain ⟨e', v, h0, h1, h2, h3, h4⟩ := ih;exact ⟨e', v, by simpa using h0, h1, by rw [h2]; simp only [Option.some.injEq, Prod.mk.injEq, and_true]; omega, h3, by simpa using h4⟩
theorem xFB {α β : Type} (us : List (α × Nat × β)) : (strip us).map Prod.fst = us.map (fun e => e.1) := by simp [strip]
theorem xTY {α β : Type} {us : List (α × Nat × β)} {j : Nat} {e : α × Nat × β} (h : us[j]? = some e) : (e.1, e.2.2) ∈ strip us := List.mem_map.2 ⟨e, List.mem_of_getElem? h, rfl⟩
theorem xSH {κ : KK} {agg : Bool} {τ : TC} {ts : List (κ.ty × τ.ty)} {ents : Array MapEntry} {cl : Nat} (h : MapOk ρ κ agg τ ts ents cl) {d : TypeDesc} (hf : κ.fits d = true) (n : κ.ty) :
  match hasK κ n ts with
  | true => ∃ j v, Instr.findNow d (κ.val n) ents.toList 0 = some (some (j, v)) /\ (∀ z, DenB ρ agg (τ.enc (xAI κ z n ts)) v) /\ j < ents.size
  | false => Instr.findNow d (κ.val n) ents.toList 0 = some none := by
 obtain ⟨us, h1, h2, h3, _⟩ := h;have hk : ∀ m, m ∈ us.map (fun e => e.1) ↔ m ∈ ts.map Prod.fst := fun m => by
  rw [<- xFB]; exact (h2.map Prod.fst).mem_iff
 have := xEE hf n 0 h1
 cases ha : atU n us with
 | none =>
  rw [ha] at this;have hh : hasK κ n ts = false := by
   cases hq : hasK κ n ts with
   | false => rfl
   | true => exact absurd ((hk n).2 (xEA.1 hq)) this.2
  rw [hh]; exact this.1
 | some j =>
  rw [ha] at this;obtain ⟨e, v, g1, g2, g3, g4, g5⟩ := this;have hm : (n, e.2.2) ∈ ts := by
   have := h2.mem_iff.1 (xTY g1);rwa [g2] at this
  rw [show hasK κ n ts = true from xEA.2 (List.mem_map.2 ⟨_, hm, rfl⟩)];refine ⟨j, v, by rw [g3, Nat.zero_add], fun z => by rw [xWm h3 hm]; exact g4, by simpa using g5⟩
theorem xYd {t : TypeId} {b : Bool} {l : List CV} (hz : zeroB P t = some (b, l)) : ∃ v, DenB ρ b l v /\ ∀ w, (zeroValue t).run P w = .ok v w := by
 unfold zeroB at hz;split at hz
 ·rename_i i hi;split at hz
  ·rename_i cs hv;split at hz
   ·rename_i m hm;cases hz;exact ⟨_, ⟨_, xNh hm, rfl⟩, fun w => by simp [zeroValue, typeInfo, hi, hv, Sem.run_bind, Result.andThen]⟩
   ·cases hz
  ·rename_i v _ hv
   cases h1 : v.oneCell' with
   | false => rw [h1] at hz; cases hz
   | true =>
    rw [h1] at hz;cases hz;exact ⟨v, ⟨_, rfl, rfl, h1⟩, fun w => by simp [zeroValue, typeInfo, hi, hv, Sem.run_bind, Result.andThen]⟩
  ·cases hz
 ·cases hz
theorem xXg {b : Bool} {l : List CV} {v : Value} {p : PV} (hd : DenB ρ b l v) (hp : compOf b l = some p) : DenP ρ p v := by
 cases b with
 | true => cases hp; exact hd
 | false =>
  obtain ⟨x, rfl, h1⟩ := hd;cases hp; exact h1
theorem xBu {κ : KK} {kt : TypeId} {d : TypeDesc} (hk : P.underlying kt = some d) (hf : κ.fits d = true) (n : κ.ty) (e : Bool) (w : World) : (Instr.checkKey e 10000 kt (κ.val n)).run P w = .ok () w := by
 show (Instr.checkKey e (9999 + 1) kt (κ.val n)).run P w = .ok () w;unfold Instr.checkKey;simp only [Sem.run_bind, run_underlying hk, Result.andThen_ok]
 cases κ with
 | i k => cases d <;> first | (cases hf; done) | rfl
 | s => cases d <;> first | (cases hf; done) | rfl
theorem xYc {agg : Bool} {τ : TC} {t : TypeId} {z : τ.ty} (hz : zeroT P agg τ t = some z) : ∃ v, DenB ρ agg (τ.enc z) v /\ ∀ w, (zeroValue t).run P w = .ok v w := by
 unfold zeroT at hz;split at hz
 ·rename_i b l hb
  cases hba : (b == agg) with
  | false => rw [hba] at hz; cases hz
  | true =>
   rw [hba] at hz;have e : b = agg := by simpa using hba
   subst e;simp only [cond_true] at hz;have h1 := TC.dec1_enc hz;obtain ⟨v, h2, h3⟩ := xYd (ρ := ρ) hb;refine ⟨v, ?_, h3⟩;rw [<- h1]
   cases b with
   | true => obtain ⟨vs, h4, h5⟩ := h2; exact ⟨vs, xBp h4, h5⟩
   | false =>
    obtain ⟨c, h4, h5⟩ := h2;subst h4;have := xBp (ls := τ.leaves) (ρ := ρ) (cs := [c]) (vs := [v]) ⟨v, [], rfl, h5, rfl⟩;obtain ⟨hl⟩ : (xDX τ.leaves [c]).length = 1 /\ True := ⟨by rw [<- this.len]; rfl, trivial⟩
    match hq : xDX τ.leaves [c], this, hl with
    | [c'], ⟨u, r, e, h6, h7⟩, _ =>
     cases e;exact ⟨c', rfl, h6⟩
 ·cases hz
theorem xJ3 {i : Info} {r : Root} (h : RootOk ρ w i r) {t : Nat} (ht : r.tag = some t) : ArOk ρ w (i.objs t) r.obs /\ ∀ b, xCl (i.objs t) r.obs b -> own i r b := by
 cases r <;> first | (cases ht; exact ⟨h, fun _ h => h⟩) | (cases ht; exact ⟨h, fun _ h => absurd h xJZ⟩) | (cases ht; done)
theorem xLX (hh : HOk S F W0 ρ h w) {x : CV} {v : Value} (hd : Den ρ x v) {M : MpV} (hM : xLY h x = some M) (hg : AllB M.g) :
  (∃ q ents cl r i, v = .map (some q) /\ w.heap[q]? = some (.map ents cl) /\ MapOk ρ M.κ M.agg M.τ M.ts ents cl /\ h[M.pl.id]? = some r /\ ρ[M.pl.id]? = some i /\ own i r q) \/ (v = .map none /\ M.ts = [] /\ ∃ p, M.pl = .ar p 0) := by
 unfold xLY at hM;split at hM
 ·rename_i id;split at hM
  ·rename_i κ agg τ ts hr;cases hM;obtain ⟨i, h1, h2, _⟩ := hd;obtain ⟨q, ents, cl', h3, h4, h5, h6⟩ := hh.ok id _ i hr h1;exact .inl ⟨q, ents, cl', _, i, by rw [h2, h3], h5, h6, hr, h1, by simp [own, h4]⟩
  ·cases hM
 ·rename_i t n;split at hM
  ·rename_i p t2 κ agg τ os hr;cases hM;obtain ⟨p', hp, hrr, ht⟩ := xAE hr;rw [Nat.zero_add] at hp; subst hp;rcases hd with ⟨h0, h1⟩ | ⟨m, id, i0, h1, h2, h3, q, h4⟩
   ·subst h0; exact .inr ⟨h1, rfl, p, rfl⟩
   ·subst h1;obtain ⟨ip, hip⟩ := hh.info hrr;have h7 := hh.cov p t _ ip hrr hip ht id i0 m _ h2 h3;obtain ⟨hA, hO⟩ := xJ3 (hh.ok p _ ip hrr hip) ht;have hl : ∃ ts, os[m]? = some (some ts) := by
     have := hg.1;simp only [xA3] at this;split at this
     ·rename_i xs hx2; exact ⟨xs, hx2⟩
     ·cases this
    obtain ⟨ts, hos⟩ := hl;have hrow : rowAt os (m + 1) = ts := by simp only [rowAt, hos]
    have ho : (Root.arm t2 κ agg τ os).obs[m]? = some (.mp κ agg τ ts) := by
     simp only [Root.obs, List.getElem?_map, hos, Option.map_some]
    obtain ⟨q', ents, cl, g1, g2, g3⟩ := hA.2.1 m _ _ h7 ho;rw [h4] at g1;cases g1;refine .inl ⟨q, ents, cl, _, ip, h4, g2, ?_, hrr, hip, hO q ⟨m, _, _, h7, ho, ?_⟩⟩
    ·show MapOk ρ κ agg τ (rowAt os (m + 1)) ents cl;rw [hrow]; exact g3
    ·show xIb v = some q;rw [h4]; rfl
  ·cases hM
 ·cases hM
theorem xU8 {x : CV} {M : MpV} (hM : xLY h x = some M) : M.pl.id ∈ rdC h x := by
 unfold xLY at hM;split at hM
 ·split at hM
  ·cases hM; simp [rdC, MPl.id]
  ·cases hM
 ·split at hM
  ·rename_i hr; cases hM; simp [rdC, MPl.id, arId, hr]
  ·cases hM
 ·cases hM
theorem xSM (hK : KOk N D ρ K a) (hh : HOk S F W0 ρ h w) {t : TypeId} {x ix : Operand} {ok : Bool} (ho : o.op = .lookup t x ix ok) (hL : ∀ c, xAv K x = some (.c c) -> ∀ id ∈ rdC h c, id ∈ L) : xBZ P ρ h w a o L (xPu P K h t x ix ok) := by
 unfold xPu;split
 ·rename_i kt et mm kv hd hx hix;split
  ·rename_i d g pl κ agg τ ts hk hM
   cases hfit : κ.fits d with
   | false => trivial
   | true =>
    simp only [cond_true];split
    ·rename_i n z hn hz;have h7 : a.eval ix = κ.val n := by
      have := xL7 hn;subst this;exact (xAa hK hix).1
     have fin : AllB g -> ∃ v, DenB ρ agg (τ.enc (xAI κ z n ts)) v /\ ∀ w', Agree L ρ h w w' -> (execOp a.eval o).run P w' = .ok (.value (if ok then .tuple #[v, .bool (hasK κ n ts)] else v)) w' := by
      intro hg;have absent : ∀ ents : Array MapEntry, hasK κ n ts = false -> Instr.findNow d (κ.val n) ents.toList 0 = some none -> ((a.eval x = .map none /\ ents = #[]) \/ ∃ q cl, a.eval x = .map (some q) /\ ∀ w', Agree L ρ h w w' -> (getObj q).run P w' = .ok (.map ents cl) w') -> ∃ v, DenB ρ agg (τ.enc (xAI κ z n ts)) v /\ ∀ w', Agree L ρ h w w' -> (execOp a.eval o).run P w' = .ok (.value (if ok then .tuple #[v, .bool (hasK κ n ts)] else v)) w' := by
       intro ents hf hnow hget;obtain ⟨v, h8, h9⟩ := xYc (ρ := ρ) hz;refine ⟨v, by rw [xWn hf]; exact h8, fun w' ha => ?_⟩;unfold execOp;simp only [ho, h7, hf];have hfk : (Instr.findKey kt (κ.val n) ents.toList).run P w' = .ok none w' := by
        unfold Instr.findKey;simp only [Sem.run_bind, run_underlying hk, Result.andThen_ok, hnow, Sem.run_pure]
       rcases hget with ⟨h2, rfl⟩ | ⟨q, cl, h2, hget⟩
       ·simp only [Instr.lookup, h2, Sem.run_bind, run_underlying hd, Result.andThen_ok, Sem.run_pure, xBu hk hfit, hfk, h9 w']
       ·simp only [Instr.lookup, h2, Sem.run_bind, run_underlying hd, Result.andThen_ok, hget w' ha, Sem.run_pure, xBu hk hfit, hfk, h9 w']
      rcases xLX hh (xAa hK hx) hM hg with ⟨q, ents, cl0, r, i, h2, h5, h6, hr, h1, hown⟩ | ⟨h2, h3, _⟩
      ·dsimp only at h5 h6 hr h1;have hobj : ∀ w', Agree L ρ h w w' -> w'.heap[q]? = some (.map ents cl0) := fun w' ha => by
        rw [ha.1 _ (hL _ hx _ (xU8 hM)) r i q hr h1 (xAu hown)]; exact h5
       have hget : ∀ w', Agree L ρ h w w' -> (getObj q).run P w' = .ok (.map ents cl0) w' := fun w' ha => by
        simp only [getObj, Sem.run, hobj w' ha]
       have hnow := xSH h6 hfit n
       cases hf : hasK κ n ts with
       | true =>
        rw [hf] at hnow;obtain ⟨j, v, h8, h9, _⟩ := hnow;refine ⟨v, h9 z, fun w' ha => ?_⟩;unfold execOp;simp only [ho, h2, h7];have hfk : (Instr.findKey kt (κ.val n) ents.toList).run P w' = .ok (some (j, v)) w' := by
         unfold Instr.findKey;simp only [Sem.run_bind, run_underlying hk, Result.andThen_ok, h8, Sem.run_pure]
        simp only [Instr.lookup, Sem.run_bind, run_underlying hd, Result.andThen_ok, hget w' ha, Sem.run_pure, xBu hk hfit, hfk]
       | false =>
        rw [hf] at hnow;have := absent ents hf hnow (.inr ⟨q, cl0, h2, hget⟩);rw [hf] at this; exact this
      ·dsimp only at h3;subst h3;exact absent #[] rfl rfl (.inl ⟨h2, rfl⟩)
     cases ok with
     | true =>
      refine xAl fun hg => ?_;obtain ⟨v, hdv, hrun⟩ := fin hg;exact ⟨.tuple #[v, .bool (hasK κ n ts)], ⟨[v, .bool (hasK κ n ts)], ⟨v, _, rfl, hdv, .bool (hasK κ n ts), [], rfl, ⟨_, rfl, rfl, rfl⟩, rfl⟩, rfl⟩, hrun⟩
     | false =>
      simp only [cond_false];split
      ·rename_i p hp;refine xAl fun hg => ?_;obtain ⟨v, hdv, hrun⟩ := fin hg;exact ⟨v, xXg hdv hp, hrun⟩
      ·trivial
    ·trivial
  ·trivial
 ·trivial
theorem xNG (hK : KOk N D ρ K a) (hh : HOk S F W0 ρ h w) {x : Operand} {t kt et : TypeId} {ty : TypeId} (ho : o.op = .call ⟨.builtin .len, ⟨[x]⟩, ⟨[t]⟩⟩) (hd : P.underlying t = some (.map kt et)) {c : CV} (hx : xAv K x = some (.c c)) {M : MpV} (hM : xLY h c = some M) (hL : ∀ id ∈ rdC h c, id ∈ L) : xBZ P ρ h w a o L (.val M.g (.c (.sc (.int .i64 M.ts.length)))) := by
 refine xAl fun hg => ?_;rcases xLX hh (xAa hK hx) hM hg with ⟨q, ents, cl0, r, i, h2, h5, h6, hr, h1, hown⟩ | ⟨h2, h3, _⟩
 ·refine ⟨_, ⟨rfl, rfl⟩, fun w' ha => ?_⟩;have hobj : w'.heap[q]? = some (.map ents cl0) := by
   rw [ha.1 _ (hL _ (xU8 hM)) r i q hr h1 (xAu hown)]; exact h5
  have hget : (getObj q).run P w' = .ok (.map ents cl0) w' := by simp only [getObj, Sem.run, hobj]
  have hsz : (ents.size : Int) = M.ts.length := by rw [xVj h6]
  unfold execOp; simp only [ho];simp [resolve, invoke, builtin, h2, Builtin.len_, Sem.run_bind, run_underlying hd, Result.andThen, goInt, hget, hsz]
 ·refine ⟨_, ⟨rfl, rfl⟩, fun w' ha => ?_⟩;unfold execOp; simp only [ho];simp [resolve, invoke, builtin, h2, h3, Builtin.len_, Sem.run_bind, run_underlying hd, Result.andThen, goInt]
theorem xHQ (hK : KOk N D ρ K a) (hh : HOk S F W0 ρ h w) : xBZ P ρ h w a o (xGs K h o) (xHz P K h o) := by
 unfold xHz;split
 ·rename_i x ho;refine xLT fun {v} hv => ⟨_, xAa hK hv, fun w' _ => ?_⟩;unfold execOp; simp only [ho]; rfl
 ·rename_i x ho;refine xLT fun {v} hv => ?_;obtain ⟨v0, hv0, rfl⟩ := Option.map_eq_some_iff.1 hv;refine ⟨_, asT_ok (xAa hK hv0), fun w' _ => ?_⟩;unfold execOp; simp only [ho]; rfl
 ·rename_i c x y ho;split
  ·rename_i q u v hc hx hy;have h5 : a.eval c = .bool q := (xAa hK hc).1
   cases q with
   | true => exact ⟨_, xAa hK hx, fun w' _ => by unfold execOp; simp only [ho, h5]; simp [asBool, Sem.run_bind, Result.andThen]⟩
   | false => exact ⟨_, xAa hK hy, fun w' _ => by unfold execOp; simp only [ho, h5]; simp [asBool, Sem.run_bind, Result.andThen]⟩
  ·trivial
 ·rename_i t ix ho;split
  ·rename_i l ht;obtain ⟨vs, h1, h2⟩ := xAa hK ht;split
   ·rename_i cs hx;obtain ⟨u, h3, h4⟩ := h1.get hx;refine xAl fun _ => ⟨u, h4, fun w' _ => ?_⟩;unfold execOp; simp only [ho, h2]; simp [Instr.extract, Sem.run_bind, Result.andThen, h3]
   ·rename_i x hx;obtain ⟨u, h3, y, h4, h5⟩ := h1.get hx;cases h4;refine xAl fun _ => ⟨u, h5, fun w' _ => ?_⟩;unfold execOp; simp only [ho, h2]; simp [Instr.extract, Sem.run_bind, Result.andThen, h3]
   ·trivial
  ·trivial
 ·rename_i t x ho; exact xQ6 hK hh ho (fun c e id hid => by simpa only [xGs, ho, e] using hid)
 ·rename_i s x f ho; exact xMm hK ho
 ·rename_i t x ix ho; exact xMd hK ho hh
 ·rename_i t x f ho; exact xWI hK ho
 ·rename_i t x ix ho; exact xWe hK ho
 ·rename_i x ho;split
  ·rename_i id k row j hx;have hd := xAa hK hx;obtain ⟨i', b, o', h1, h2, h3, h4⟩ := hd;refine xAl fun _ => ⟨_, ⟨i', b, o', h1, h2, h3, rfl⟩, fun w' _ => ?_⟩;unfold execOp; simp only [ho, h4]; rfl
  ·rename_i t n hx;refine xAl fun hg => ?_;have hn : n ≠ 0 := fun e => by have := hg.1; rw [e] at this; cases this
   rcases xAa hK hx with ⟨h0, _⟩ | ⟨m, id, i, h1, h2, h3, b, o', h4⟩
   ·exact absurd h0 hn
   ·refine ⟨_, .inr ⟨m, id, i, h1, h2, h3, b, o', h4⟩, fun w' _ => ?_⟩;unfold execOp; simp only [ho, h4]; rfl
  ·rename_i t n k row j hx;refine xAl fun _ => ?_;obtain ⟨m, id, i, u, b, off, len, h1, h2, h3, h4, h5, h6⟩ := xAa hK hx;refine ⟨_, ⟨m, id, i, u, b, off, len, h1, h2, h3, h4, h5, h6⟩, fun w' _ => ?_⟩;unfold execOp; simp only [ho, h6]; rfl
  ·trivial
 ·rename_i t x lo hi ho; exact xUe hK hh ho
 ·rename_i t x ix ok ho; exact xSM hK hh ho (fun c e id hid => by simpa only [xGs, ho, e] using hid)
 ·rename_i x t ho;split
  ·rename_i id kt et hx hd;split
   ·rename_i g pl κ agg τ ts hM;exact xNG (ty := t) hK hh ho hd hx hM (fun id hid => by simpa only [xGs, ho, hx, rdC] using hid)
   ·trivial
  ·rename_i t' n kt et hx hd;split
   ·rename_i g pl κ agg τ ts hM;exact xNG (ty := t) hK hh ho hd hx hM (fun id hid => by simpa only [xGs, ho, hx, rdC, show Nat.beq 2 1 = false from rfl, cond_false] using hid)
   ·trivial
  ·rename_i t' n e hx hd;split
   ·rename_i p t2 T2 τ os hr;refine xAl fun hg => ?_;have hlen : ∃ a0 c0, a.eval x = .slice a0 (rowAt os n).length c0 := by
     obtain ⟨p', hp, hrr, ht⟩ := xAE hr;rw [Nat.zero_add] at hp; subst hp;rcases xAa hK hx with ⟨h0, h1⟩ | ⟨m, id, i0, h1, h2, h3, a0, n0, c0, h4⟩
     ·subst h0; exact ⟨none, 0, h1⟩
     ·obtain ⟨ip, hip⟩ := hh.info hrr;have h7 := hh.cov p t' _ ip hrr hip ht id i0 m _ h2 h3;obtain ⟨hA, _⟩ := xJ3 (hh.ok p _ ip hrr hip) ht;have hlive : ∃ xs, os[m]? = some (some xs) := by
       have := hg.1;rw [h1] at this;simp only [xA3] at this;split at this
       ·rename_i xs hx2; exact ⟨xs, hx2⟩
       ·cases this
      obtain ⟨xs, hos⟩ := hlive;obtain ⟨a1, c1, g1, g2, vs, g3, g4⟩ := hA.2.1 m _ (.row T2 τ xs) h7 (by simp only [Root.obs, List.getElem?_map, hos, Option.map_some]);rw [h4] at g1;simp only [hdr, Option.some.injEq, Prod.mk.injEq] at g1;obtain ⟨rfl, rfl, rfl⟩ := g1;exact ⟨a0, c0, by rw [h4, h1]; simp only [rowAt, hos]⟩
    obtain ⟨a0, c0, h2⟩ := hlen;refine ⟨_, ⟨rfl, rfl⟩, fun w' _ => ?_⟩;unfold execOp; simp only [ho];simp [resolve, invoke, builtin, h2, Builtin.len_, Sem.run_bind, run_underlying hd, Result.andThen, goInt]
   ·rename_i p t2 τ os hr;refine xAl fun _ => ?_;have hlen : ∃ a0 c0, a.eval x = .slice a0 (xJ9 os n).length c0 := by
     obtain ⟨p', hp, hrr, ht⟩ := xAE hr;rw [Nat.zero_add] at hp; subst hp;rcases xAa hK hx with ⟨h0, h1⟩ | ⟨m, id, i0, h1, h2, h3, a0, n0, c0, h4⟩
     ·subst h0; exact ⟨none, 0, h1⟩
     ·obtain ⟨ip, hip⟩ := hh.info hrr;have h7 := hh.cov p t' _ ip hrr hip ht id i0 m _ h2 h3;obtain ⟨hA, _⟩ : ArOk ρ w (ip.objs t') (Root.arr t2 τ os).obs /\ True := ⟨by cases ht; exact hh.ok p _ ip hrr hip, trivial⟩;have hlt : m < os.length := by
       have h8 := (List.getElem?_eq_some_iff.1 h7).1;have h9 := hA.1;simp only [Root.obs, List.length_map] at h9;omega
      obtain ⟨a1, c1, g1, _⟩ := hA.2.1 m _ (.rr τ os[m]) h7 (by simp only [Root.obs, List.getElem?_map, List.getElem?_eq_getElem hlt, Option.map_some]);have hrow : xJ9 os n = os[m] := by
       rw [h1]; simp [xJ9, nth, List.getD_eq_getElem?_getD, List.getElem?_eq_getElem hlt]
      exact ⟨a1, c1, by rw [hrow]; exact g1⟩
    obtain ⟨a0, c0, h2⟩ := hlen;refine ⟨_, ⟨rfl, rfl⟩, fun w' _ => ?_⟩;unfold execOp; simp only [ho];simp [resolve, invoke, builtin, h2, Builtin.len_, Sem.run_bind, run_underlying hd, Result.andThen, goInt]
   ·trivial
  ·rename_i id k off n c e hx hd;obtain ⟨i', a', c', nn, h1, h2, _, _, _, hc, _⟩ := xAa hK hx;split
   ·rename_i n0 hn0;have hnn := xGy hh h1 hc hn0;subst hnn;refine xAl fun _ => ⟨_, ⟨rfl, rfl⟩, fun w' _ => ?_⟩;unfold execOp; simp only [ho];simp [resolve, invoke, builtin, h2, Builtin.len_, Sem.run_bind, run_underlying hd, Result.andThen, goInt]
   ·trivial
  ·exact xB8 hK
 ·rename_i t x y t' ho;split
  ·rename_i k p k' q hx hy
   cases hkk : Nat.beq (kix k) (kix k') with
   | false => exact xB8 hK
   | true =>
    have := xDG hkk;subst this;refine xAl fun hg => ⟨_, ⟨rfl, rfl⟩, fun w' _ => ?_⟩;have h5 := xAL (ρ := ρ) (xAa hK hx);have h6 := xAL (ρ := ρ) (xAa hK hy);have hq : q ≠ 0 := by simpa using hg.1
    unfold execOp; simp only [ho, h5, h6];simp [eqGuard, binOp, Op.intDiv, hq, Sem.run_bind, Result.andThen]
  ·exact xB8 hK
 ·rename_i t x y t' ho;split
  ·rename_i k p k' q hx hy
   cases hkk : Nat.beq (kix k) (kix k') with
   | false => exact xB8 hK
   | true =>
    have := xDG hkk;subst this;refine xAl fun hg => ⟨_, ⟨rfl, rfl⟩, fun w' _ => ?_⟩;have h5 := xAL (ρ := ρ) (xAa hK hx);have h6 := xAL (ρ := ρ) (xAa hK hy);have hq : q ≠ 0 := by simpa using hg.1
    unfold execOp; simp only [ho, h5, h6];simp [eqGuard, binOp, Op.intDiv, hq, Sem.run_bind, Result.andThen]
  ·exact xB8 hK
 ·rename_i t x y t' ho;split
  ·rename_i k p k' q hx hy;refine xAl fun hg => ⟨_, ⟨rfl, rfl⟩, fun w' _ => ?_⟩;have h5 := xAL (ρ := ρ) (xAa hK hx);have h6 := xAL (ρ := ρ) (xAa hK hy);have hq : ¬ q < 0 := by have := of_decide_eq_true hg.1; omega
   unfold execOp; simp only [ho, h5, h6];simp [eqGuard, binOp, Op.shift, hq, Sem.run_bind, Result.andThen]
  ·exact xB8 hK
 ·rename_i t x y t' ho;split
  ·rename_i k p k' q hx hy;refine xAl fun hg => ⟨_, ⟨rfl, rfl⟩, fun w' _ => ?_⟩;have h5 := xAL (ρ := ρ) (xAa hK hx);have h6 := xAL (ρ := ρ) (xAa hK hy);have hq : ¬ q < 0 := by have := of_decide_eq_true hg.1; omega
   unfold execOp; simp only [ho, h5, h6];simp [eqGuard, binOp, Op.shift, hq, Sem.run_bind, Result.andThen]
  ·exact xB8 hK
 ·rename_i t x y t' ho; exact xWL (n := false) hK hh ho
 ·rename_i t x y t' ho; exact xWL (n := true) hK hh ho
 ·rename_i op t x y t' _ _ _ _ _ _ ho; exact xXH hK ho
 ·rename_i t parts ho; exact xXC hK ho
 ·rename_i s d x ho; exact xZ7 hK hh ho (fun id k off n c e => by simp [xGs, ho, e])
 all_goals first | trivial | exact xB8 hK
end
end Go.Proofs.YtnomnijhlbalaaaGreatDoor
