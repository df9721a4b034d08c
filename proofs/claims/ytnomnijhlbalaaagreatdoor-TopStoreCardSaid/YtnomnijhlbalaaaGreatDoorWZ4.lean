/- A part of the proof of the theorem of the last file. No condition. By an AI agent. -/
import Derived.Test.YtnomnijhlbalaaaGreatDoorWZ3
namespace Go.Proofs.YtnomnijhlbalaaaGreatDoor
open Go.RowKit
section
variable {P : Program} {N : Nat} {D : List Deferred} {S F : List Nat} {W0 : World} {O : List Info} {K : Slo} {h : List Root} {w : World} {a : Act} {o : Oper} {L : List Nat}
theorem xE0 {i : Int} {n : Nat} (h : inB i n = true) : 0 <= i /\ i < (n : Int) := by
 simpa only [inB, Bool.and_eq_true, decide_eq_true_eq] using h
theorem xC9 {i : Int} {n : Nat} (h : inC i n = true) : 0 <= i /\ i <= (n : Int) := by
 simpa only [inC, Bool.and_eq_true, decide_eq_true_eq] using h
theorem xAH {k : IntKind} {i : Int} {v : Value} (h : Den O (.sc (.int k i)) v) : v = .int k i := h.1
theorem xLp (hK : KOk N D O K a) {s : TypeId} {x : Operand} {f : Nat} (ho : o.op = .fieldAddr s x f) : xBX P O h w a o L (xGA P K s x f) := by
 unfold xGA;split
 ·rename_i id k row j fields hx hd;split
  ·rename_i fd hfd;split
   ·rename_i inf hi
    cases hz : (Nat.beq inf.size 0 || (Nat.beq k 1 && !Nat.beq fd.offset 0)) with
    | true => trivial
    | false =>
     rw [Bool.or_eq_false_iff] at hz;obtain ⟨hz, hz2⟩ := hz;have hz' := Nat.ne_of_beq_eq_false hz;obtain ⟨i, b, off, h1, h2, h3, h4⟩ := xAa hK hx;have h3' : i.has k row (j + fd.offset) := ⟨h3.1, fun hn hk => by
      subst hk;have : fd.offset = 0 := by simpa using hz2
      rw [this]; exact h3.2 hn rfl⟩
     refine xAg fun _ => ⟨_, ⟨i, b, off, h1, h2, h3', rfl⟩, fun w' _ => ?_⟩;unfold execOp;simp only [ho, h4];simp [Instr.fieldAt, Sem.run_bind, run_underlying hd, Result.andThen, hfd, Instr.sureAddr, fieldPlace, sizeOf, typeInfo, hi, hz', Addr.add_lit, Nat.add_assoc]
   ·trivial
  ·trivial
 ·rename_i c fields _ hx hd;split
  ·rename_i t' n k row j fd hc hfd;split
   ·rename_i inf hi
    cases hz : Nat.beq inf.size 0 with
    | true => trivial
    | false =>
     have hz' := Nat.ne_of_beq_eq_false hz;refine xAg fun hg => ?_;have hn : n ≠ 0 := fun e => by have := hg.1; rw [e] at this; cases this
     obtain ⟨m, id, i, u, b, off, len, h1, h2, h3, h4, h5, h6⟩ := xS4 (xAa hK hx) hc hn;refine ⟨_, ⟨m, id, i, u, b, off, len, h1, h2, h3, h4, h5, rfl⟩, fun w' _ => ?_⟩;unfold execOp;simp only [ho, h6];simp [Instr.fieldAt, Sem.run_bind, run_underlying hd, Result.andThen, hfd, Instr.sureAddr, fieldPlace, sizeOf, typeInfo, hi, hz', Addr.add_lit, Nat.add_assoc]
   ·trivial
  ·trivial
 ·trivial
theorem xAh {t : TypeId} {inf : TypeInfo} (hi : P.info? t = some inf) (w : World) : (sizeOf t).run P w = .ok inf.size w := by
 simp [sizeOf, typeInfo, hi, Sem.run_bind, Result.andThen]
theorem xGs (hh : HOk S F W0 O h w) {id off n0 nn : Nat} {n : Option Nat} {i : Info} (hi : O[id]? = some i) (hc : i.cnt off n nn) (hn : lenP h id off n = some n0) : nn = n0 := by
 cases n with
 | some x => cases hn; exact hc
 | none =>
  obtain ⟨m, h1, h2⟩ := hc;simp only [lenP] at hn;split at hn
  ·rename_i T U xs hr;cases hn;have := (hh.ok id _ i hr hi).1;rw [h1] at this;rw [h2, Option.some.inj this]
  ·rename_i U xs hr;cases hn;have := (hh.ok id _ i hr hi).1;rw [h1] at this;rw [h2, Option.some.inj this]
  ·cases hn
theorem xLa (hK : KOk N D O K a) {t : TypeId} {x ix : Operand} (ho : o.op = .indexAddr t x ix) (hh : HOk S F W0 O h w) : xBX P O h w a o L (xGv P K h t x ix) := by
 unfold xGv;split
 ·rename_i e id k off n c kk i hd hx hix;split
  ·rename_i inf n0 hi hn0
   cases hz : Nat.beq inf.size k with
   | false => trivial
   | true =>
    have hz' := nbT hz;refine xAg fun hg => ?_;obtain ⟨hi0, hin⟩ := xE0 hg.1;obtain ⟨i', a', c', nn, h1, h2, h3, h4, h4', hc, h5⟩ := xAa hK hx;have h6 := xAH (O := O) (xAa hK hix);have hnn := xGs hh h1 hc hn0;subst hnn;obtain ⟨b, off0, h7⟩ := h4' (by omega);have key : a' = some ⟨b, off0 + off * k, none⟩ /\ i'.has k (addN off i.toNat) 0 := by
     cases c with
     | none =>
      obtain ⟨⟨m, h8, h9⟩, h10, _, _, h12⟩ := h5;refine ⟨?_, fun m' hm' => ?_, fun hm' => ?_⟩
      ·rw [h12 (by omega), h7, Option.map_some, Addr.add_lit]
      ·rw [h8] at hm'; cases hm'; rw [xBg]; omega
      ·rw [h8] at hm'; cases hm'
     | some c0 =>
      obtain ⟨h8, _, h8', h9⟩ := h5;refine ⟨by rw [h9 (by omega), h7, Option.map_some, Addr.add_lit], fun m' hm' => ?_, fun _ hk => ?_⟩
      ·rw [h8] at hm'; cases hm'
      ·have := h8' hk; rw [xBg]; omega
    refine ⟨_, ⟨i', b, off0, h1, h7, key.2, rfl⟩, fun w' _ => ?_⟩;unfold execOp;simp only [ho, h2, h6, key.1];simp [Instr.indexAt, asIntOf, Sem.run_bind, run_underlying hd, Result.andThen, xAh hi, Addr.add_lit, Nat.add_assoc, xBg, hi0, hin, hz', Nat.add_mul]
  ·trivial
 ·rename_i n e id k row j kk i hd hx hix;split
  ·rename_i inf hi;have plain : xBX P O h w a o L (bif Nat.beq k 1 then .stuck else .val [inB i n] (.c (.pt id k row (addN j (i.toNat * inf.size))))) := by
    cases hk1 : Nat.beq k 1 with
    | true => trivial
    | false =>
    have hk1 := Nat.ne_of_beq_eq_false hk1;refine xAg fun hg => ?_;obtain ⟨hi0, hin⟩ := xE0 hg.1;obtain ⟨i', b, off, h1, h2, h3, h4⟩ := xAa hK hx;have h6 := xAH (O := O) (xAa hK hix);refine ⟨_, ⟨i', b, off, h1, h2, ⟨h3.1, fun _ e => absurd e hk1⟩, rfl⟩, fun w' _ => ?_⟩;unfold execOp;simp only [ho, h4, h6];simp [Instr.indexAt, asIntOf, Sem.run_bind, run_underlying hd, Result.andThen, Instr.sureAddr, xAh hi, Addr.add_lit, Nat.add_assoc, xBg, hi0, hin]
   split
   ·rename_i cs T hr
    cases hz : (Nat.beq inf.size 1 && Nat.beq k 0 && Nat.ble (j + n) cs.length) with
    | false => exact plain
    | true =>
     simp only [Bool.and_eq_true] at hz;obtain ⟨⟨z1, z2⟩, z3⟩ := hz;have z1 := nbT z1;have z2 := nbT z2;have z3 := Nat.le_of_ble_eq_true z3;subst z2;refine xAg fun hg => ?_;obtain ⟨hi0, hin⟩ := xE0 hg.1;obtain ⟨i', b, off, h1, h2, h3, h4⟩ := xAa hK hx;have h6 := xAH (O := O) (xAa hK hix);obtain ⟨h7, h8⟩ := (hh.ok id _ i' hr h1).1;have hhas : i'.has 1 i.toNat j := ⟨fun m hm => (by rw [h7] at hm; cases hm), fun _ _ => (by rw [h8]; omega)⟩;refine ⟨_, ⟨i', b, off, h1, h2, hhas, rfl⟩, fun w' _ => ?_⟩;unfold execOp;simp only [ho, h4, h6];simp [Instr.indexAt, asIntOf, Sem.run_bind, run_underlying hd, Result.andThen, Instr.sureAddr, xAh hi, Addr.add_lit, Nat.add_assoc, xBg, hi0, hin, z1]
   ·exact plain
  ·trivial
 ·rename_i e t' n kk i hd hx hix;split
  ·rename_i inf p t2 T2 U os hi hr;refine xAg fun hg => ?_;obtain ⟨hi0, hin⟩ := xE0 hg.1;have h6 := xAH (O := O) (xAa hK hix);have hlt : i.toNat < (rowAt os n).length := by omega
   obtain ⟨m, hm, hos⟩ := xIb hlt;obtain ⟨p', hp, hrr, ht⟩ := xAA hr;rw [Nat.zero_add] at hp; subst hp;rcases xAa hK hx with ⟨h0, _⟩ | ⟨m', id, i0, h1, h2, h3, a0, n0, c0, h4⟩
   ·omega
   ·obtain rfl : m = m' := by omega
    obtain ⟨ip, hip⟩ := hh.info hrr;have h7 := hh.cov p t' _ ip hrr hip ht id i0 m _ h2 h3;have hA : ArOk O w (ip.objs t') (Root.ars t2 T2 U os).obs := by cases ht; exact hh.ok p _ ip hrr hip
    obtain ⟨a1, c1, g1, g2, vs, g3, g4⟩ := hA.2.1 m _ (.row T2 U (rowAt os n)) h7 (by simp only [Root.obs, List.getElem?_map, hos, Option.map_some]);rw [h4] at g1;simp only [hdr, Option.some.injEq, Prod.mk.injEq] at g1;obtain ⟨rfl, rfl, rfl⟩ := g1;rcases g4.2.2.2 with ⟨g5, _⟩ | ⟨g, og, cur, g5, _⟩
    ·have := g4.2.1; omega
    ·subst g5;refine ⟨_, ⟨m, id, i0, _, g, og, (rowAt os n).length, hm, h2, h3, by rw [h4]; rfl, hlt, rfl⟩, fun w' _ => ?_⟩;unfold execOp;simp only [ho, h4, h6];simp [Instr.indexAt, asIntOf, Sem.run_bind, run_underlying hd, Result.andThen, xAh hi, Addr.add_lit, hi0, hin]
  ·rename_i inf p t2 U os hi hr;refine xAg fun hg => ?_;obtain ⟨hi0, hin⟩ := xE0 hg.1;have h6 := xAH (O := O) (xAa hK hix);have hlt : i.toNat < (xED os n).length := by omega
   obtain ⟨m, hm, hos⟩ := xPB hlt;obtain ⟨p', hp, hrr, ht⟩ := xAA hr;rw [Nat.zero_add] at hp; subst hp;rcases xAa hK hx with ⟨h0, _⟩ | ⟨m', id, i0, h1, h2, h3, a0, n0, c0, h4⟩
   ·omega
   ·obtain rfl : m = m' := by omega
    obtain ⟨ip, hip⟩ := hh.info hrr;have h7 := hh.cov p t' _ ip hrr hip ht id i0 m _ h2 h3;have hA : ArOk O w (ip.objs t') (Root.arr t2 U os).obs := by cases ht; exact hh.ok p _ ip hrr hip
    obtain ⟨a1, c1, g1, _, _, vs, g3, g4⟩ := hA.2.1 m _ (.rr U (xED os n)) h7 (by simp only [Root.obs, List.getElem?_map, hos, Option.map_some]);rw [h4] at g1;simp only [Value.slice.injEq] at g1;obtain ⟨rfl, rfl, rfl⟩ := g1;obtain ⟨g, og, g5, _⟩ := g4 (by omega);subst g5;refine ⟨_, ⟨m, id, i0, _, g, og, (xED os n).length, hm, h2, h3, by rw [h4]; rfl, hlt, rfl⟩, fun w' _ => ?_⟩;unfold execOp;simp only [ho, h4, h6];simp [Instr.indexAt, asIntOf, Sem.run_bind, run_underlying hd, Result.andThen, xAh hi, Addr.add_lit, hi0, hin]
  ·trivial
 ·rename_i m e t' n k row j kk i hd hx hix;split
  ·rename_i inf hi;refine xAg fun hg => ?_;obtain ⟨hi0, hin⟩ := xE0 hg.1;have h6 := xAH (O := O) (xAa hK hix);obtain ⟨mm, id, i', u, b, off, len, h1, h2, h3, h4, h5, h7⟩ := xAa hK hx;refine ⟨_, ⟨mm, id, i', u, b, off, len, h1, h2, h3, h4, h5, rfl⟩, fun w' _ => ?_⟩;unfold execOp;simp only [ho, h7, h6];simp [Instr.indexAt, asIntOf, Sem.run_bind, run_underlying hd, Result.andThen, Instr.sureAddr, xAh hi, Addr.add_lit, Nat.add_assoc, xBg, hi0, hin]
  ·trivial
 ·rename_i m e b o' kk i hd hx hix;split
  ·rename_i inf hi;refine xAg fun hg => ?_;obtain ⟨hi0, hin⟩ := xE0 hg.1;have h6 := xAH (O := O) (xAa hK hix);have h7 : a.eval x = .pointer (some ⟨b, o', none⟩) := (xAa hK hx).1;refine ⟨.pointer (some ⟨b, o' + i.toNat * inf.size, none⟩), ⟨rfl, rfl⟩, fun w' _ => ?_⟩;unfold execOp;simp only [ho, h7, h6];simp [Instr.indexAt, asIntOf, Sem.run_bind, run_underlying hd, Result.andThen, Instr.sureAddr, xAh hi, Addr.add_lit, hi0, hin]
  ·trivial
 ·trivial
theorem xM4 {t : TypeId} {d : TypeDesc} (hd : P.underlying t = some d) (w : World) : (isAgg t).run P w = .ok (xBK d) w := by
 unfold isAgg;cases d <;> simp [xBK, Sem.run_bind, run_underlying hd, Result.andThen]
theorem xKN {t : TypeId} {l : List CV} {off : Nat} {v : PV} (hp : xRo P t l off = some v) {vs : List Value} (hl : DenL O l vs) : ∃ u, DenP O v u /\ ∀ w, (part t vs.toArray off).run P w = .ok u w := by
 unfold xRo at hp;split at hp
 ·rename_i d i hd hi
  cases hag : xBK d with
  | true =>
   rw [hag] at hp;simp only [cond_true] at hp;split at hp
   ·rename_i cs hcs;cases hp;obtain ⟨h1, _⟩ := xEf hl hcs;refine ⟨_, ⟨_, h1, rfl⟩, fun w => ?_⟩;unfold part;simp [Sem.run_bind, xM4 hd, hag, Result.andThen, xAh hi, List.take_drop]
   ·cases hp
  | false =>
   rw [hag] at hp;simp only [cond_false] at hp;split at hp
   ·rename_i x hx;cases hp;obtain ⟨u, h1, h2⟩ := hl.get hx;refine ⟨u, h2, fun w => ?_⟩;unfold part;simp [Sem.run_bind, xM4 hd, hag, Result.andThen, h1]
   ·cases hp
 ·cases hp
theorem xUN (hK : KOk N D O K a) {t : TypeId} {x : Operand} {f : Nat} (ho : o.op = .field t x f) : xBX P O h w a o L (xUO P K t x f) := by
 unfold xUO;split
 ·rename_i fields l hd hx;split
  ·rename_i fd hfd;refine xKO fun {v} hv => ?_;obtain ⟨vs, h1, h2⟩ := xAa hK hx;obtain ⟨u, h3, h4⟩ := xKN hv h1;refine ⟨u, h3, fun w' _ => ?_⟩;unfold execOp;simp only [ho, h2];simp [Instr.field, asAgg, Sem.run_bind, run_underlying hd, Result.andThen, hfd, h4]
  ·trivial
 ·trivial
theorem xJs : ∀ {l : List CV} {ss : List ByteArray}, strsOf l = some ss -> ∀ {i : Nat}, i < ss.length -> l[i]? = some (.sc (.string (nth ss ByteArray.empty i)))
 | [], ss, h, i, hi => by
  simp only [strsOf, Option.some.injEq] at h;subst h;simp at hi
 | x :: l, ss, h, i, hi => by
  unfold strsOf at h;split at h
  ·rename_i e; cases e
  ·rename_i s l' e;cases e;split at h
   ·rename_i r hr;cases h
    cases i with
    | zero => rfl
    | succ i => exact xJs hr (by simpa using hi)
   ·cases h
  ·cases h
theorem xUw (hK : KOk N D O K a) {t : TypeId} {x ix : Operand} (ho : o.op = .index t x ix) : xBX P O h w a o L (xUx P K t x ix) := by
 unfold xUx;split
 ·rename_i n e l kk i hd hx hix;split
  ·rename_i inf hi;split
   ·rename_i ss hss hstr
    cases hsz : Nat.beq inf.size 1 with
    | false => trivial
    | true =>
    simp only [cond_true];have hsz := nbT hsz;refine xAg fun hg => ?_;obtain ⟨hi0, hin⟩ := xE0 hg.1;have hle := Nat.le_of_ble_eq_true hg.2.1;have hlt : i.toNat < ss.length := by omega
    obtain ⟨vs, h1, h2⟩ := xAa hK hx;have h6 := xAH (O := O) (xAa hK hix);have hv : xRo P e l (i.toNat * inf.size) = some (.c (.sc (.string (nth ss ByteArray.empty i.toNat)))) := by
     unfold xRo;rw [hstr, hi];simp only [xBK, cond_false, hsz, Nat.mul_one];rw [xJs hss hlt]
    obtain ⟨u, h3, h4⟩ := xKN hv h1;refine ⟨u, h3, fun w' _ => ?_⟩;unfold execOp;simp only [ho, h2, h6];simp [Instr.index, asIntOf, Sem.run_bind, run_underlying hd, Result.andThen, xAh hi, hi0, hin, h4]
   split
   ·rename_i v hv;refine xAg fun hg => ?_;obtain ⟨hi0, hin⟩ := xE0 hg.1;obtain ⟨vs, h1, h2⟩ := xAa hK hx;have h6 := xAH (O := O) (xAa hK hix);obtain ⟨u, h3, h4⟩ := xKN hv h1;refine ⟨u, h3, fun w' _ => ?_⟩;unfold execOp;simp only [ho, h2, h6];simp [Instr.index, asIntOf, Sem.run_bind, run_underlying hd, Result.andThen, xAh hi, hi0, hin, h4]
   ·trivial
  ·trivial
 ·rename_i s kk i hd hx hix;refine xAg fun hg => ?_;obtain ⟨hi0, hin⟩ := xE0 hg.1;have h5 : a.eval x = .string s := (xAa hK hx).1;have h6 := xAH (O := O) (xAa hK hix);refine ⟨_, ⟨rfl, rfl⟩, fun w' _ => ?_⟩;have hlt : i.toNat < s.size := by omega
  unfold execOp;simp only [ho, h5, h6];simp [Instr.index, asIntOf, Sem.run_bind, run_underlying hd, Result.andThen, hi0, hlt, bAt]
 ·trivial
theorem xK8 (hK : KOk N D O K a) {d : Int} {x : Operand} {i : Int} (h : intOf K d (some x) = some i) : ∃ k, a.eval x = .int k i := by
 simp only [intOf] at h;split at h
 ·rename_i k j hx; cases h; exact ⟨k, (xAa hK hx).1⟩
 ·cases h
theorem xCG {isS : Bool} {len rm cap : Nat} {lo hi : Option Operand} (hK : KOk N D O K a) {l m : Int} (hl : intOf K 0 lo = some l) (hm : intOf K len hi = some m) (hg : AllB [inC m rm, inC l m.toNat]) (hcap : rm <= cap) (w : World) :
  (Instr.sliceBounds isS len cap (lo.map a.eval) (hi.map a.eval) none).run P w = .ok (l.toNat, m.toNat, cap) w := by
 obtain ⟨hm0, hm1⟩ := xC9 hg.1;obtain ⟨hl0, hl1⟩ := xC9 hg.2.1;have hb : ∀ (v : Value) (y : Nat) (c : BoundsCode) (k : IntKind) (i : Int), v = .int k i -> 0 <= i -> i <= (y : Int) -> (Instr.sliceBound v y c).run P w = .ok i.toNat w := by
  intro v y c k i hv h0 h1;subst hv;simp [Instr.sliceBound, asIntOf, Sem.run_bind, Result.andThen, h0, h1]
 cases hi with
 | none =>
  simp only [intOf, Option.some.injEq] at hm;subst hm
  cases lo with
  | none =>
   simp only [intOf, Option.some.injEq] at hl;subst hl;simp [Instr.sliceBounds, Sem.run_bind, Result.andThen]
  | some x =>
   obtain ⟨k, hx⟩ := xK8 hK hl;simp [Instr.sliceBounds, Sem.run_bind, Result.andThen, hb _ len .sliceB k l hx hl0 (by simpa using hl1)]
 | some y =>
  obtain ⟨k', hy⟩ := xK8 hK hm
  cases lo with
  | none =>
   simp only [intOf, Option.some.injEq] at hl;subst hl;simp [Instr.sliceBounds, Sem.run_bind, Result.andThen, hb _ cap _ k' m hy hm0 (by omega)]
  | some x =>
   obtain ⟨k, hx⟩ := xK8 hK hl;simp [Instr.sliceBounds, Sem.run_bind, Result.andThen, hb _ cap _ k' m hy hm0 (by omega), hb _ m.toNat .sliceB k l hx hl0 hl1]
theorem add_add (a : Addr) (x y : Nat) : (a.add x).add y = a.add (x + y) := by
 unfold Addr.add;by_cases hx : x = 0
 ·subst hx; simp
 ·by_cases hy : y = 0
  ·subst hy; simp [hx]
  ·simp [hx, hy, Nat.add_assoc]
theorem xSU (hK : KOk N D O K a) (hh : HOk S F W0 O h w) {t : TypeId} {x : Operand} {lo hi : Option Operand} (ho : o.op = .slice t x lo hi none) : xBX P O h w a o L (xSV P K h t x lo hi) := by
 unfold xSV;split
 ·rename_i e id k off n c hd hx;split
  ·rename_i inf n0 l hi hn0 hl
   cases hz : Nat.beq inf.size k with
   | false => trivial
   | true =>
    have hz' := nbT hz;simp only [cond_true];obtain ⟨i', a', c', nn, h1, h2, h3, h4, h4', hc, ⟨q, h8, h9⟩, h10, h10', h11, h12⟩ := xAa hK hx;have hnn := xGs hh h1 hc hn0;subst hnn;have hroom : nn <= roomOf h id off nn /\ roomOf h id off nn <= c' /\ off + roomOf h id off nn <= q /\ (0 < roomOf h id off nn -> ∃ b o, i'.a = some ⟨b, o, none⟩) := by
     unfold roomOf;split
     ·rename_i T U xs hr;obtain ⟨h20, _, vs, _, _, h21, _, h22⟩ := hh.ok id _ i' hr h1;rw [h8] at h20;have := Option.some.inj h20;refine ⟨by omega, by omega, by omega, fun hpos => ?_⟩;rcases h22 with ⟨h22, _⟩ | ⟨g, o', cur, h22, _⟩
      ·omega
      ·exact ⟨g, o', h22⟩
     ·exact ⟨Nat.le_refl _, h3, h9, h4'⟩
    have addr : ∀ {x : Nat}, x <= c' -> (if c' = x then a' else a'.map (·.add (x * inf.size))).map (·.block) = i'.a.map (·.block) /\ (addN off x = 0 -> (if c' = x then a' else a'.map (·.add (x * inf.size))) = i'.a) /\ (addN off x < i'.cap -> (if c' = x then a' else a'.map (·.add (x * inf.size))) = i'.a.map (·.add (addN off x * k))) := by
     intro x hx;refine ⟨?_, fun e0 => ?_, fun e1 => ?_⟩
     ·rw [<- h10'];split
      ·rfl
      ·cases a' <;> simp [Addr.add]; split <;> rfl
     ·rw [xBg] at e0;have e2 : x = 0 := by omega
      rw [h11 (by omega), e2];cases i'.a <;> simp [Addr.add]
     ·rw [xBg] at e1 ⊢;rw [if_neg (by omega), h12 (by omega), Option.map_map, hz'];congr 1;funext q;simp [add_add, Nat.add_mul]
    split
    ·refine xAg fun hg => ?_;obtain ⟨hl0, hl1⟩ := xC9 hg.1;have hb := xCG (P := P) (isS := true) (len := nn) (rm := nn) (hi := none) hK hl (by rfl) ⟨by simp [inC], by simp only [AllB, and_true]; simpa [inC] using hg.1⟩ h3;refine ⟨.slice (if c' = l.toNat then a' else a'.map (·.add (l.toNat * inf.size))) (nn - l.toNat) (c' - l.toNat), ⟨i', _, _, _, h1, rfl, by omega, by omega, fun hn => h4' (by omega), ?_, ⟨q, h8, by rw [xBg]; omega⟩, by rw [xBg]; omega, addr (by omega)⟩, fun w' _ => ?_⟩
     ·cases n with
      | some x => simp only [Info.cnt] at hc; subst hc; rfl
      | none =>
       obtain ⟨m, h13, h14⟩ := hc;exact ⟨m, h13, by rw [xBg]; omega⟩
     ·unfold execOp;simp only [ho, h2];have hb2 := hb w';simp only [Int.toNat_natCast, Option.map_none] at hb2;simp [Instr.sliceAt, Instr.slice, Sem.run_bind, run_underlying hd, Result.andThen, xAh hi, hb2]
    ·rename_i y;split
     ·rename_i m hm;refine xAg fun hg => ?_;obtain ⟨hm0, hm1⟩ := xC9 hg.1;obtain ⟨hl0, hl1⟩ := xC9 hg.2.1;have hb := xCG (P := P) (isS := true) hK hl hm hg hroom.2.1;refine ⟨.slice (if c' = l.toNat then a' else a'.map (·.add (l.toNat * inf.size))) (m.toNat - l.toNat) (c' - l.toNat), ⟨i', _, _, _, h1, rfl, by omega, by omega, fun hn => hroom.2.2.2 (by omega), rfl, ⟨q, h8, by rw [xBg]; omega⟩, by rw [xBg]; omega, addr (by omega)⟩, fun w' _ => ?_⟩;have hb2 := hb w';simp only [Option.map_some] at hb2;unfold execOp;simp only [ho, h2];simp [Instr.sliceAt, Instr.slice, Sem.run_bind, run_underlying hd, Result.andThen, xAh hi, hb2]
     ·trivial
  ·rename_i inf n0 l c0 hi hn0 hl;split
   ·rename_i m hm
    cases hz : Nat.beq inf.size k with
    | false => trivial
    | true =>
     have hz' := nbT hz;refine xAg fun hg => ?_;obtain ⟨hm0, hm1⟩ := xC9 hg.1;obtain ⟨hl0, hl1⟩ := xC9 hg.2.1;obtain ⟨i', a', c', nn, h1, h2, h3, h4, h4', hc, h8, h9, h9c, h10⟩ := xAa hK hx;have hnn := xGs hh h1 hc hn0;subst hnn;have hb := xCG (P := P) (isS := true) hK hl hm hg h3;refine ⟨.slice (if c' = l.toNat then a' else a'.map (·.add (l.toNat * inf.size))) (m.toNat - l.toNat) (c' - l.toNat), ⟨i', _, _, _, h1, rfl, by omega, by omega, fun hn => h4' (by omega), rfl, ?_⟩, fun w' _ => ?_⟩
     ·refine ⟨h8, by simp [h9], fun hk => (by have := h9c hk; rw [xBg]; omega), fun hn => ?_⟩;rw [xBg, if_neg (by omega), h10 (by omega), Option.map_map, hz'];congr 1;funext q;simp [add_add, Nat.add_mul]
     ·unfold execOp;simp only [ho, h2];simp [Instr.sliceAt, Instr.slice, Sem.run_bind, run_underlying hd, Result.andThen, xAh hi, hb w']
   ·trivial
  ·trivial
 ·rename_i s hd hx;split
  ·rename_i l m hl hm;refine xAg fun hg => ?_;have h5 : a.eval x = .string s := (xAa hK hx).1;have hb := xCG (P := P) (isS := false) hK hl hm hg (Nat.le_refl _);refine ⟨_, ⟨rfl, rfl⟩, fun w' _ => ?_⟩;unfold execOp;simp only [ho, h5];simp [Instr.sliceAt, Instr.slice, Sem.run_bind, run_underlying hd, Result.andThen, hb w']
  ·trivial
 ·rename_i n e id k0 row j hd hx;split
  ·rename_i inf l m cs T hi hl hm hr
   cases hz : (Nat.ble ((row * k0 + j) + n * inf.size) cs.length && Nat.ble n 1000000 && Nat.beq ((row * k0 + j) / inf.size * inf.size) (row * k0 + j)) with
   | false =>
    simp only [cond_false]
    cases hy : (Nat.ble ((row * k0 + j) + n * inf.size) cs.length && Nat.ble n 1000000 && Nat.ble 1 inf.size) with
    | false => trivial
    | true =>
     simp only [Bool.and_eq_true] at hy;have hcl := Nat.le_of_ble_eq_true hy.1.1;have hz' := Nat.le_of_ble_eq_true hy.1.2;have hs1 := Nat.le_of_ble_eq_true hy.2;refine xAg fun hg => ?_;obtain ⟨hm0, hm1⟩ := xC9 hg.1;obtain ⟨hl0, hl1⟩ := xC9 hg.2.1;obtain ⟨i', b, o', h1, h2, h3, h4⟩ := xAa hK hx;have hb := xCG (P := P) (isS := false) hK hl hm hg (Nat.le_refl _);obtain ⟨hln, hlc⟩ := (hh.ok id _ i' hr h1).1;have e1 : l.toNat * inf.size + (m.toNat - l.toNat) <= n * inf.size := by
      have q1 : (m.toNat - l.toNat) * 1 <= (m.toNat - l.toNat) * inf.size := Nat.mul_le_mul (Nat.le_refl _) hs1;have q2 : m.toNat * inf.size <= n * inf.size := Nat.mul_le_mul (by omega) (Nat.le_refl _);have q3 : l.toNat * inf.size + (m.toNat - l.toNat) * inf.size = m.toNat * inf.size := by
       rw [<- Nat.add_mul]; congr 1; omega
      omega
     refine ⟨.slice (some (if n = l.toNat then ⟨b, o' + row * k0 + j, none⟩ else Addr.add ⟨b, o' + row * k0 + j, none⟩ (l.toNat * inf.size))) (m.toNat - l.toNat) (n - l.toNat), ⟨i', _, _, _, h1, rfl, by omega, by unfold maxLen; omega, fun _ => ⟨b, o', h2⟩, rfl, hln, rfl, fun _ => by rw [hlc]; omega, fun hn => ?_⟩, fun w' _ => ?_⟩
     ·rw [if_neg (by omega), h2, Option.map_some, Addr.add_lit, Addr.add_lit, Nat.mul_one];simp only [Nat.add_assoc]
     ·unfold execOp;simp only [ho, h4];simp [Instr.sliceAt, Instr.sureAddr, Sem.run_bind, run_underlying hd, Result.andThen, xAh hi, hb w']
   | true =>
    simp only [Bool.and_eq_true] at hz;have hcl := Nat.le_of_ble_eq_true hz.1.1;have hz' := Nat.le_of_ble_eq_true hz.1.2;have hq := nbT hz.2;generalize (row * k0 + j) / inf.size = q at *;refine xAg fun hg => ?_;obtain ⟨hm0, hm1⟩ := xC9 hg.1;obtain ⟨hl0, hl1⟩ := xC9 hg.2.1;obtain ⟨i', b, o', h1, h2, h3, h4⟩ := xAa hK hx;have hb := xCG (P := P) (isS := false) hK hl hm hg (Nat.le_refl _);obtain ⟨hln, hlc⟩ := (hh.ok id _ i' hr h1).1;refine ⟨.slice (some (if n = l.toNat then ⟨b, o' + row * k0 + j, none⟩ else Addr.add ⟨b, o' + row * k0 + j, none⟩ (l.toNat * inf.size))) (m.toNat - l.toNat) (n - l.toNat), ⟨i', _, _, _, h1, rfl, by omega, by unfold maxLen; omega, fun _ => ⟨b, o', h2⟩, rfl, hln, rfl, fun hk => ?_, fun hn => ?_⟩, fun w' _ => ?_⟩
    ·rw [hlc, xBg]; rw [hk] at hq hcl; omega
    ·rw [if_neg (by omega), h2, Option.map_some, Addr.add_lit, Addr.add_lit, xBg, Nat.add_mul, hq];simp only [Nat.add_assoc]
    ·unfold execOp;simp only [ho, h4];simp [Instr.sliceAt, Instr.sureAddr, Sem.run_bind, run_underlying hd, Result.andThen, xAh hi, hb w']
  ·trivial
 ·trivial
theorem xVy (hK : KOk N D O K a) {op : BinOp} {t t' : TypeId} {x y : Operand} (ho : o.op = .binOp op t x y t') : xBX P O h w a o L (binP P K op x y o) := by
 unfold binP;split
 ·rename_i k p k' q hx hy
  cases hb : Nat.beq (kix k) (kix k') with
  | false => exact xB8 hK
  | true =>
   have := xDU hb;subst this;simp only [cond_true];split
   ·rename_i v hv;have h5 := xAH (O := O) (xAa hK hx);have h6 := xAH (O := O) (xAa hK hy);have hone : v.oneCell' = true := by
     cases op <;> simp only [xVL] at hv <;> first | (cases hv; rfl) | cases hv
    refine xAg fun _ => ⟨v, ⟨rfl, hone⟩, fun w' _ => ?_⟩;unfold execOp; simp only [ho, h5, h6];cases op <;> simp only [xVL] at hv <;> first | (cases hv; simp [eqGuard, binOp, Op.intArith, Op.intCmp, Sem.run_bind, Result.andThen]; done) | cases hv
   ·exact xB8 hK
 ·rename_i p q hx hy;split
  ·have h5 : a.eval x = .string p := (xAa hK hx).1;have h6 : a.eval y = .string q := (xAa hK hy).1;refine xAg fun hg => ⟨_, ⟨rfl, rfl⟩, fun w' _ => ?_⟩;have hsz : ¬ ((p.size + q.size : Nat) : Int) > IntKind.i64.max := by
    have := of_decide_eq_true hg.1;have e : IntKind.i64.max = 9223372036854775807 := rfl;rw [e]; omega
   unfold execOp; simp only [ho, h5, h6];simp only [eqGuard, binOp, Op.stringOp, if_neg hsz, Sem.run_bind, Result.andThen, Sem.run_pure, Bool.not_false, if_true]
  ·exact xB8 hK
 ·exact xB8 hK
theorem xNN {O : List Info} : ∀ {xs : List Int} {vs : List Value}, DenL O (flat (.int .u8) xs) vs -> vs = xs.map (Value.int .u8)
 | [], _, h => h
 | x :: xs, _, ⟨v, r, e, h1, h2⟩ => by
  rw [e, List.map_cons, <- xNN h2, h1.1]
theorem u8L_ok {U : TC} {xs : List U.ty} {ys : List Int} (h : u8L U xs = some ys) : xs.length = ys.length /\ flat U xs = flat (.int .u8) ys := by
 unfold u8L at h;split at h
 ·cases h; exact ⟨rfl, rfl⟩
 ·cases h
theorem xXE (hK : KOk N D O K a) (hh : HOk S F W0 O h w) {s d : TypeId} {x : Operand} (ho : o.op = .convert s d x) (hL : ∀ id k off n c, xAo K x = some (.c (.sl id k off n c)) -> id ∈ L) : xBX P O h w a o L (convP P K h s d x o) := by
 unfold convP;split
 ·rename_i id k off n c hx;split
  ·rename_i e r hs hd hr;split
   ·rename_i xs he hu
    cases hb : ((Nat.beq k 1 && Nat.beq off 0) && (n.isNone && c.isNone)) with
    | false => trivial
    | true =>
     simp only [Bool.and_eq_true, Option.isNone_iff_eq_none] at hb;obtain ⟨⟨b1, b2⟩, rfl, rfl⟩ := hb;have b1 := nbT b1;have b2 := nbT b2;subst b1; subst b2;obtain ⟨i, a', c', nn, h1, h2, _, _, ha, hcnt, _, _, _, ha0, _⟩ := xAa hK hx;have ha0 := ha0 rfl;subst ha0;have hro := hh.ok id r i hr h1;have key : nn = xs.length /\ ∀ w', Agree L O h w w' -> ∀ q, i.a = some q -> ∀ (j : Nat) (v : Value), (xs.map (Value.int .u8))[j]? = some v -> w'.cell? (q.add j) = some v := by
      obtain ⟨m, hm, hn⟩ := hcnt
      cases r with
      | rows T U zs =>
       obtain ⟨h0, _, vs, hv, how⟩ := hro;obtain ⟨l1, l2⟩ := u8L_ok (show u8L U zs = some xs from hu);rw [h0] at hm; cases hm;rw [l2] at hv;have hvs := xNN hv;subst hvs;have hnx : nn = xs.length := by rw [hn, Nat.sub_zero]; exact l1
       refine ⟨hnx, fun w' hag q hq j v hj => ?_⟩;have hlt : 0 < nn := by
        have := (List.getElem?_eq_some_iff.1 hj).1;rw [List.length_map, <- hnx] at this;exact Nat.lt_of_le_of_lt (Nat.zero_le _) this
       obtain ⟨b, o', hia⟩ := ha hlt;rw [hia] at hq; cases hq;have hcell := xCR (hia ▸ how) hj;have := xET (hL id _ _ _ _ hx) hag hr h1 (by simp [foot, own, hia]) hcell;unfold Addr.add;split
       ·rename_i e0; subst e0; exact this
       ·exact this
      | ro U zs =>
       obtain ⟨h0, vs, hv, how⟩ := hro;obtain ⟨l1, l2⟩ := u8L_ok (show u8L U zs = some xs from hu);rw [h0] at hm; cases hm;rw [l2] at hv;have hvs := xNN hv;subst hvs;have hnx : nn = xs.length := by rw [hn, Nat.sub_zero]; exact l1
       refine ⟨hnx, fun w' hag q hq j v hj => ?_⟩;have hlt : 0 < zs.length := by
        have := (List.getElem?_eq_some_iff.1 hj).1;rw [List.length_map, <- l1] at this;exact Nat.lt_of_le_of_lt (Nat.zero_le _) this
       obtain ⟨b, o', hia, _, hcl⟩ := how hlt;rw [hia] at hq; cases hq;have hcell := hcl j v hj;have := xET (hL id _ _ _ _ hx) hag hr h1 (by cases zs with | nil => simp at hlt | cons z zs => simp [foot, hia]) hcell;unfold Addr.add;split
       ·rename_i e0; subst e0; exact this
       ·exact this
      | dead => cases hu
      | blk cs T => cases hu
      | clo f a c => cases hu
      | _ => cases hu
     obtain ⟨hn, hcells⟩ := key;subst hn;refine xAg fun _ => ⟨_, ⟨rfl, rfl⟩, fun w' hag => ?_⟩;unfold execOp; simp only [ho, h2, Sem.run_bind, run_convert_bytes_string w' s d e _ _ _ hs he hd]
     cases hia : i.a with
     | none =>
      have h0 : xs = [] := by
       cases xs with
       | nil => rfl
       | cons x xs => obtain ⟨b, o', hz⟩ := ha (by simp); rw [hia] at hz; cases hz
      subst h0;rfl
     | some q =>
      have hl := run_loadCells_list (P := P) w' q (xs.map (Value.int .u8)) (hcells w' hag q hia);rw [List.length_map] at hl;rw [run_bytesToString w' q xs.length c' xs hl];rfl
   ·trivial
  ·trivial
 ·exact xB8 hK
theorem xRL {P : Program} (w : World) (t e : TypeId) (a : Option Addr) (l c : Nat) (h : P.underlying t = some (.slice e)) : (binOp .eql t (.slice a l c) (.slice none 0 0)).run P w = .ok (.bool a.isNone) w := by
 simp only [binOp];simp [run_equal_slice_nil w t e a l c h]
theorem xUQ {n : Bool} (hK : KOk N D O K a) (hh : HOk S F W0 O h w) {t t' : TypeId} {x y : Operand} (ho : o.op = .binOp (bif n then .neq else .eql) t x y t') : xBX P O h w a o L (eqlP P K h t x y n o) := by
 unfold eqlP;split
 ·rename_i t2 m hx hy;split
  ·rename_i e hd;have h5 : a.eval y = .pointer none := (xAa hK hy).1;refine xAg fun _ => ⟨_, ⟨rfl, rfl⟩, fun w' _ => ?_⟩;have hp : P.underlying t = some (.pointer (P.pointee t)) := by simp [Program.pointee, hd]
   rcases xAa hK hx with ⟨h0, h4⟩ | ⟨m', id, i, h1, _, _, b, o', h4⟩
   ·subst h0;unfold execOp; simp only [ho, h4, h5];have hg : ∀ q, (eqGuard q t x y (.pointer none) (.pointer none)).run P w' = .ok () w' := fun q => by cases q <;> rfl
    cases n with
    | true => simp only [nilQ, cond_true, Sem.run_bind, hg, Result.andThen_ok, run_neq_pointer_nil w' t _ hp, Sem.run_pure, Option.isNone_none, Nat.beq]
    | false => simp only [nilQ, cond_false, Sem.run_bind, hg, Result.andThen_ok, run_eql_pointer_nil w' t _ hp, Sem.run_pure, Option.isNone_none, Nat.beq]
   ·subst h1;unfold execOp; simp only [ho, h4, h5];have hg : ∀ q, (eqGuard q t x y (.pointer (some ⟨b, o', none⟩)) (.pointer none)).run P w' = .ok () w' := fun q => by cases q <;> rfl
    cases n with
    | true => simp only [cond_true, Sem.run_bind, hg, Result.andThen_ok, run_neq_pointer_nil w' t _ hp, Sem.run_pure, Option.isNone_some, Nat.beq]
    | false => simp only [cond_false, Sem.run_bind, hg, Result.andThen_ok, run_eql_pointer_nil w' t _ hp, Sem.run_pure, Option.isNone_some, Nat.beq]
  ·trivial
 ·rename_i id k row j hx hy;split
  ·rename_i e hd;obtain ⟨i', b, o', h1, h2, h3, h4⟩ := xAa hK hx;have h5 : a.eval y = .pointer none := (xAa hK hy).1;refine xAg fun _ => ⟨_, ⟨rfl, rfl⟩, fun w' _ => ?_⟩;unfold execOp; simp only [ho, h4, h5];have hp : P.underlying t = some (.pointer (P.pointee t)) := by simp [Program.pointee, hd]
   have hg : ∀ q, (eqGuard q t x y (.pointer (some ⟨b, o' + row * k + j, none⟩)) (.pointer none)).run P w' = .ok () w' := fun q => by cases q <;> rfl
   cases n with
   | true => simp only [cond_true, Sem.run_bind, hg, Result.andThen_ok, run_neq_pointer_nil w' t _ hp, Sem.run_pure, Option.isNone_some, Bool.not_false]
   | false => simp only [cond_false, Sem.run_bind, hg, Result.andThen_ok, run_eql_pointer_nil w' t _ hp, Sem.run_pure, Option.isNone_some]
  ·trivial
 ·rename_i id k off m c hx hy;split
  ·rename_i e n0 hd hn0;obtain ⟨i', a', c', nn, h1, h2, _, _, ha, hc, hrest⟩ := xAa hK hx;have hnn := xGs hh h1 hc hn0;subst hnn;have h5 : a.eval y = .slice none 0 0 := (xAa hK hy).1;refine xAg fun hg => ⟨_, ⟨rfl, rfl⟩, fun w' _ => ?_⟩;have hpos : 0 < nn := Nat.le_of_ble_eq_true hg.1;obtain ⟨b, o', hia⟩ := ha hpos;have hsome : ∃ q, a' = some q := by
    cases c with
    | none =>
     obtain ⟨_, _, hb, _⟩ := hrest;rw [hia] at hb
     cases a' with
     | none => cases hb
     | some q => exact ⟨q, rfl⟩
    | some c0 =>
     obtain ⟨_, _, _, hb⟩ := hrest;have := hb hpos;rw [hia] at this;exact ⟨_, this⟩
   obtain ⟨q, hq⟩ := hsome;subst hq;unfold execOp; simp only [ho, h2, h5];have hgd : ∀ r, (eqGuard r t x y (.slice (some q) nn c') (.slice none 0 0)).run P w' = .ok () w' := fun r => by cases r <;> rfl
   cases n with
   | true => simp only [cond_true, Sem.run_bind, hgd, Result.andThen_ok, run_neq_slice_nil w' t _ _ _ _ hd, Sem.run_pure, Option.isNone_some, Bool.not_false]
   | false => simp only [cond_false, Sem.run_bind, hgd, Result.andThen_ok, xRL w' t _ _ _ _ hd, Sem.run_pure, Option.isNone_some]
  ·trivial
 ·rename_i b hx hy;split
  ·rename_i cy ms hd;have h4 := xAa hK hx;have h5 : a.eval (.const cy) = .nilIface := (xAa hK hy).1;have hp : P.underlying t = some (.interface (P.methodsAt t)) := by simp [Program.methodsAt, hd]
   refine xAg fun _ => ⟨_, ⟨rfl, rfl⟩, fun w' _ => ?_⟩;rcases h4 with ⟨rfl, h4⟩ | ⟨rfl, u, q, h4⟩
   ·unfold execOp; simp only [ho, h4, h5];have hgd : ∀ r, (eqGuard r t x (.const cy) .nilIface .nilIface).run P w' = .ok () w' := fun r => by cases r <;> cases x <;> rfl
    cases n with
    | true => simp only [cond_true, Sem.run_bind, hgd, Result.andThen_ok, run_neq_nil_nil w' t hp, Sem.run_pure, Bool.not_true]
    | false => simp only [cond_false, Sem.run_bind, hgd, Result.andThen_ok, run_eql_nil_nil w' t hp, Sem.run_pure]
   ·unfold execOp; simp only [ho, h4, h5];have hgd : ∀ r, (eqGuard r t x (.const cy) (.iface u q) .nilIface).run P w' = .ok () w' := fun r => by cases r <;> rfl
    cases n with
    | true => simp only [cond_true, Sem.run_bind, hgd, Result.andThen_ok, run_neq_held_nil w' t u q hp, Sem.run_pure, Bool.not_false]
    | false => simp only [cond_false, Sem.run_bind, hgd, Result.andThen_ok, run_eql_held_nil w' t u q hp, Sem.run_pure]
  ·trivial
 ·rename_i l m hx hy;split
  ·rename_i xs ys hxs hys
   cases hg : P.eqGuardType P.depth t with
   | true => trivial
   | false =>
    simp only [cond_false];split
    ·rename_i b hb;have h5 : a.eval x = .agg xs.toArray := by
      obtain ⟨vs, h1, h2⟩ := xAa hK hx;rw [h2, xKG hxs h1]
     have h6 : a.eval y = .agg ys.toArray := by
      obtain ⟨vs, h1, h2⟩ := xAa hK hy;rw [h2, xKG hys h1]
     refine xAg fun _ => ⟨_, ⟨rfl, rfl⟩, fun w' _ => ?_⟩;have he := xOF (P := P) 9980 20 t _ _ b hb w';unfold execOp
     cases n with
     | true => simp only [ho, h5, h6, cond_true, Sem.run_bind, run_eqGuard_agg w' .neq t x y xs.toArray ys.toArray hg, Result.andThen_ok, run_neq_struct, he, Sem.run_pure]
     | false => simp only [ho, h5, h6, cond_false, Sem.run_bind, run_eqGuard_agg w' .eql t x y xs.toArray ys.toArray hg, Result.andThen_ok, run_eql_struct, he, Sem.run_pure]
    ·trivial
  ·trivial
 ·exact xVy hK ho
theorem xMf {off : Nat} : ∀ {cs : List CV} {us : List Value} (_ : DenL O cs us) (j : Nat) {l : List CV} {arr : Array Value}, DenL O l arr.toList -> DenL O (xPt off j cs l) ((us.zipIdx j).foldl (fun (s : Array Value) (p : Value × Nat) => s.setIfInBounds (off + p.2) p.1) arr).toList
 | [], us, h, j, l, arr, hl => by rw [h]; exact hl
 | c :: cs, us, ⟨v, r, e, h1, h2⟩, j, l, arr, hl => by
  rw [e];simp only [List.zipIdx_cons, List.foldl_cons, xPt];exact xMf h2 (j + 1) (by rw [Array.toList_setIfInBounds]; exact hl.set h1)
theorem xEl (hK : KOk N D O K a) : ∀ {l : List (Nat × Operand)} {r : List (Nat × List CV)}, xME K l = some r -> ∀ (place : Nat -> Option (Nat × Nat)) (z : List CV) (arr : Array Value) (cs : List CV), DenL O z arr.toList -> xOD place z r = some cs ->
  ∃ out : Array Value, DenL O cs out.toList /\ Instr.fill place arr (l.map fun p => (p.1, a.eval p.2)) = some out
 | [], r, h, place, z, arr, cs, hz, hf => by
  cases h;simp only [xOD, Option.some.injEq] at hf;subst hf;exact ⟨arr, hz, rfl⟩
 | (i, x) :: l, r, h, place, z, arr, cs, hz, hf => by
  simp only [xME] at h;split at h
  ·rename_i ds q hds hq;cases h;obtain ⟨p, hp, hc⟩ := Option.bind_eq_some_iff.1 hds;simp only [xOD] at hf;split at hf
   ·cases hf
   ·rename_i off size hpl
    cases hb : (Nat.beq ds.length size && Nat.ble (off + ds.length) z.length) with
    | false => rw [hb] at hf; cases hf
    | true =>
     rw [hb] at hf;simp only [Bool.and_eq_true] at hb;have hb1 := nbT hb.1;have hb2 := Nat.le_of_ble_eq_true hb.2;have hv : ∃ us : List Value, (a.eval x).cells = us.toArray /\ DenL O ds us := by
      have hd := xAa hK hp
      cases p with
      | c y =>
       cases hc;refine ⟨[a.eval x], ?_, ⟨_, _, rfl, hd, rfl⟩⟩;have := Den.one hd;generalize a.eval x = v at *;cases v <;> first | rfl | cases this
      | ag m =>
       cases hc;obtain ⟨vs, h1, h2⟩ := hd;exact ⟨vs, by rw [h2]; rfl, h1⟩
      | tu m => cases hc
      | un => cases hc
     obtain ⟨us, hus, hdu⟩ := hv;have hfold : ((a.eval x).cells.zipIdx.foldl (fun (s : Array Value) (p : Value × Nat) => s.setIfInBounds (off + p.2) p.1) arr) = ((us.zipIdx 0).foldl (fun (s : Array Value) (p : Value × Nat) => s.setIfInBounds (off + p.2) p.1) arr) := by
      rw [hus, <- Array.foldl_toList, Array.toList_zipIdx]
     have hnext := xMf (off := off) hdu 0 hz;rw [<- hfold] at hnext;obtain ⟨out, h3, h4⟩ := xEl hK hq place _ _ cs hnext hf;refine ⟨out, h3, ?_⟩;have hsz : (a.eval x).cells.size = size := by rw [hus, List.size_toArray, hdu.len, hb1]
     have hza : arr.size = z.length := by rw [<- hz.len]; simp
     simp only [List.map_cons, Instr.fill, hpl, hsz, ne_eq, not_true_eq_false, false_or];rw [if_neg (by simp; omega)];exact h4
  ·cases h
theorem xHl {t : TypeId} {z : List CV} (hz : xJd P t = some z) : ∃ v : Value, DenL O z v.cells.toList /\ ∀ w, (zeroValue t).run P w = .ok v w := by
 unfold xJd at hz;split at hz
 ·rename_i i hi;split at hz
  ·rename_i v hv;exact ⟨v, xMi hz, fun w => by simp [zeroValue, typeInfo, hi, hv, Sem.run_bind, Result.andThen]⟩
  ·cases hz
 ·cases hz
theorem xJH : ∀ {l : List Field} {r : List (Nat × Nat)}, xKL P l = some r -> ∀ w, (l.mapM (fun f => do pure (f.offset, <- sizeOf f.type) : Field -> Sem (Nat × Nat))).run P w = .ok r w
 | [], r, h, w => by cases h; rfl
 | f :: l, r, h, w => by
  simp only [xKL] at h;split at h
  ·rename_i i q hi hq;cases h;have ih := xJH hq w;simp only [List.mapM_cons, Sem.run_bind, xAh hi, Result.andThen_ok, Sem.run_pure, ih]
  ·cases h
theorem xVs (hK : KOk N D O K a) {t : TypeId} {parts : Array (Nat × Operand)} (ho : o.op = .build t parts) : xBX P O h w a o L (xVt P K t parts) := by
 have hmap : (parts.map fun (i, x) => (i, a.eval x)).toList = parts.toList.map (fun p => (p.1, a.eval p.2)) := by simp
 unfold xVt;split
 ·rename_i z fields ps hz hd hp;split
  ·rename_i pl hpl;split
   ·rename_i cs hcs;obtain ⟨v, h1, h2⟩ := xHl (O := O) hz;obtain ⟨out, h3, h4⟩ := xEl hK hp _ z v.cells cs h1 hcs;refine xAg fun _ => ⟨.agg out, ⟨out.toList, h3, by simp⟩, fun w' _ => ?_⟩;have hmm := xJH hpl w';have hpl2 : (fields.mapM (fun f => do pure (f.offset, <- sizeOf f.type) : Field -> Sem (Nat × Nat))).run P w' = .ok pl.toArray w' := by
     rw [Array.mapM_eq_mapM_toList];simp only [map_eq_pure_bind, Sem.run_bind, hmm, Result.andThen_ok, Sem.run_pure]
    have h4' : Instr.fill (fun i => pl.toArray[i]?) v.cells (parts.map fun (i, x) => (i, a.eval x)).toList = some out := by
     rw [hmap]; simpa using h4
    unfold execOp; simp only [ho];simp only [Instr.build, Sem.run_bind, h2 w', Result.andThen_ok, run_underlying hd, hpl2, h4', Sem.run_pure]
   ·trivial
  ·trivial
 ·rename_i z n e ps hz hd hp;split
  ·rename_i inf hi;split
   ·rename_i cs hcs;obtain ⟨v, h1, h2⟩ := xHl (O := O) hz;obtain ⟨out, h3, h4⟩ := xEl hK hp _ z v.cells cs h1 hcs;refine xAg fun _ => ⟨.agg out, ⟨out.toList, h3, by simp⟩, fun w' _ => ?_⟩;have h4' : Instr.fill (fun i => some (i * inf.size, inf.size)) v.cells (parts.map fun (i, x) => (i, a.eval x)).toList = some out := by
     rw [hmap]; exact h4
    unfold execOp; simp only [ho];simp only [Instr.build, Sem.run_bind, h2 w', Result.andThen_ok, run_underlying hd, xAh hi, h4', Sem.run_pure]
   ·trivial
  ·trivial
 ·trivial
theorem xNl {V : KK} {agg : Bool} {U : TC} : ∀ {us : List (V.ty × Nat × U.ty)} {l : List MapEntry}, EntOk O V agg U us l -> l.length = us.length
 | [], _, h => by rw [show _ = [] from h]; rfl
 | _ :: _, _, ⟨_, _, e1, _, _, e4⟩ => by rw [e1]; simp [xNl e4]
theorem xIu {V : KK} {agg : Bool} {U : TC} {ts : List (V.ty × U.ty)} {ents : Array MapEntry} {cl : Nat} (h : MapOk O V agg U ts ents cl) : ents.size = ts.length := by
 obtain ⟨us, h1, h2, _⟩ := h;rw [<- Array.length_toList, xNl h1, <- h2.length_eq];simp [strip]
theorem xWz {V : KK} {d : TypeDesc} (hf : V.fits d = true) (a b : V.ty) : Instr.sameNow d (V.val a) (V.val b) = some (V.eqb a b) := by
 cases V with
 | i k => cases d <;> first | (cases hf; done) | simp [Instr.sameNow, KK.val, KK.eqb]
 | s => cases d <;> first | (cases hf; done) | rfl
def atU {V : KK} {α : Type} (n : V.ty) : List (V.ty × Nat × α) -> Option Nat
 | [] => none
 | e :: r => bif V.eqb n e.1 then some 0 else (atU n r).map (· + 1)
theorem xEQ {V : KK} {agg : Bool} {U : TC} {d : TypeDesc} (hf : V.fits d = true) (n : V.ty) : ∀ {us : List (V.ty × Nat × U.ty)} {l : List MapEntry} (i0 : Nat), EntOk O V agg U us l ->
  match atU n us with
  | some j => ∃ e v, us[j]? = some e /\ e.1 = n /\ Instr.findNow d (V.val n) l i0 = some (some (i0 + j, v)) /\ DenB O agg (U.enc e.2.2) v /\ j < l.length
  | none => Instr.findNow d (V.val n) l i0 = some none /\ n ∉ us.map (fun e => e.1)
 | [], l, i0, h => by rw [show l = [] from h]; exact ⟨rfl, by simp⟩
 | x :: us, l, i0, ⟨e, r, e1, e2, ⟨_, e3⟩, e4⟩ => by
  subst e1;simp only [atU, Instr.findNow, e2, xWz hf]
  cases hb : V.eqb n x.1 with
  | true => exact ⟨x, e.val, rfl, ((V.eqb_iff n x.1).1 hb).symm, rfl, e3, by simp⟩
  | false =>
   have ih := xEQ hf n (i0 + 1) e4;simp only [cond_false]
   cases ha : atU n us with
   | none =>
    rw [ha] at ih;have : n ≠ x.1 := fun h => by rw [(V.eqb_iff n x.1).2 h] at hb; cases hb
    exact ⟨ih.1, by simp only [List.map_cons, List.mem_cons, not_or]; exact ⟨this, ih.2⟩⟩
   | some j =>
    rw [ha] at ih;obtain ⟨e', v, h0, h1, h2, h3, h4⟩ := ih;exact ⟨e', v, by simpa using h0, h1, by rw [h2]; simp only [Option.some.injEq, Prod.mk.injEq, and_true]; omega, h3, by simpa using h4⟩
theorem xDo {α β : Type} (us : List (α × Nat × β)) : (strip us).map Prod.fst = us.map (fun e => e.1) := by simp [strip]
theorem xSz {α β : Type} {us : List (α × Nat × β)} {j : Nat} {e : α × Nat × β} (h : us[j]? = some e) : (e.1, e.2.2) ∈ strip us := List.mem_map.2 ⟨e, List.mem_of_getElem? h, rfl⟩
theorem xRs {V : KK} {agg : Bool} {U : TC} {ts : List (V.ty × U.ty)} {ents : Array MapEntry} {cl : Nat} (h : MapOk O V agg U ts ents cl) {d : TypeDesc} (hf : V.fits d = true) (n : V.ty) :
  match hasK V n ts with
  | true => ∃ j v, Instr.findNow d (V.val n) ents.toList 0 = some (some (j, v)) /\ (∀ z, DenB O agg (U.enc (xEW V z n ts)) v) /\ j < ents.size
  | false => Instr.findNow d (V.val n) ents.toList 0 = some none := by
 obtain ⟨us, h1, h2, h3, _⟩ := h;have hk : ∀ m, m ∈ us.map (fun e => e.1) ↔ m ∈ ts.map Prod.fst := fun m => by
  rw [<- xDo]; exact (h2.map Prod.fst).mem_iff
 have := xEQ hf n 0 h1
 cases ha : atU n us with
 | none =>
  rw [ha] at this;have hh : hasK V n ts = false := by
   cases hq : hasK V n ts with
   | false => rfl
   | true => exact absurd ((hk n).2 (xEM.1 hq)) this.2
  rw [hh]; exact this.1
 | some j =>
  rw [ha] at this;obtain ⟨e, v, g1, g2, g3, g4, g5⟩ := this;have hm : (n, e.2.2) ∈ ts := by
   have := h2.mem_iff.1 (xSz g1);rwa [g2] at this
  rw [show hasK V n ts = true from xEM.2 (List.mem_map.2 ⟨_, hm, rfl⟩)];refine ⟨j, v, by rw [g3, Nat.zero_add], fun z => by rw [xUB h3 hm]; exact g4, by simpa using g5⟩
theorem xV7 {t : TypeId} {b : Bool} {l : List CV} (hz : zeroB P t = some (b, l)) : ∃ v, DenB O b l v /\ ∀ w, (zeroValue t).run P w = .ok v w := by
 unfold zeroB at hz;split at hz
 ·rename_i i hi;split at hz
  ·rename_i cs hv;split at hz
   ·rename_i m hm;cases hz;exact ⟨_, ⟨_, xMi hm, rfl⟩, fun w => by simp [zeroValue, typeInfo, hi, hv, Sem.run_bind, Result.andThen]⟩
   ·cases hz
  ·rename_i v _ hv
   cases h1 : v.oneCell' with
   | false => rw [h1] at hz; cases hz
   | true =>
    rw [h1] at hz;cases hz;exact ⟨v, ⟨_, rfl, rfl, h1⟩, fun w => by simp [zeroValue, typeInfo, hi, hv, Sem.run_bind, Result.andThen]⟩
  ·cases hz
 ·cases hz
theorem xU7 {b : Bool} {l : List CV} {v : Value} {p : PV} (hd : DenB O b l v) (hp : compOf b l = some p) : DenP O p v := by
 cases b with
 | true => cases hp; exact hd
 | false =>
  obtain ⟨x, rfl, h1⟩ := hd;cases hp; exact h1
theorem xBq {V : KK} {kt : TypeId} {d : TypeDesc} (hk : P.underlying kt = some d) (hf : V.fits d = true) (n : V.ty) (e : Bool) (w : World) : (Instr.checkKey e 10000 kt (V.val n)).run P w = .ok () w := by
 show (Instr.checkKey e (9999 + 1) kt (V.val n)).run P w = .ok () w;unfold Instr.checkKey;simp only [Sem.run_bind, run_underlying hk, Result.andThen_ok]
 cases V with
 | i k => cases d <;> first | (cases hf; done) | rfl
 | s => cases d <;> first | (cases hf; done) | rfl
theorem xV6 {agg : Bool} {U : TC} {t : TypeId} {z : U.ty} (hz : zeroT P agg U t = some z) : ∃ v, DenB O agg (U.enc z) v /\ ∀ w, (zeroValue t).run P w = .ok v w := by
 unfold zeroT at hz;split at hz
 ·rename_i b l hb
  cases hba : (b == agg) with
  | false => rw [hba] at hz; cases hz
  | true =>
   rw [hba] at hz;have e : b = agg := by simpa using hba
   subst e;simp only [cond_true] at hz;have h1 := TC.dec1_enc hz;obtain ⟨v, h2, h3⟩ := xV7 (O := O) hb;refine ⟨v, ?_, h3⟩;rw [<- h1]
   cases b with
   | true => obtain ⟨vs, h4, h5⟩ := h2; exact ⟨vs, xBi h4, h5⟩
   | false =>
    obtain ⟨c, h4, h5⟩ := h2;subst h4;have := xBi (ls := U.leaves) (O := O) (cs := [c]) (vs := [v]) ⟨v, [], rfl, h5, rfl⟩;obtain ⟨hl⟩ : (xD9 U.leaves [c]).length = 1 /\ True := ⟨by rw [<- this.len]; rfl, trivial⟩
    match hq : xD9 U.leaves [c], this, hl with
    | [c'], ⟨u, r, e, h6, h7⟩, _ =>
     cases e;exact ⟨c', rfl, h6⟩
 ·cases hz
theorem xI6 {i : Info} {r : Root} (h : RootOk O w i r) {t : Nat} (ht : r.tag = some t) : ArOk O w (i.objs t) r.obs /\ ∀ b, xCs (i.objs t) r.obs b -> own i r b := by
 cases r <;> first | (cases ht; exact ⟨h, fun _ h => h⟩) | (cases ht; exact ⟨h, fun _ h => absurd h xI2⟩) | (cases ht; done)
theorem xKU (hh : HOk S F W0 O h w) {x : CV} {v : Value} (hd : Den O x v) {M : MpV} (hM : xKV h x = some M) (hg : AllB M.g) :
  (∃ q ents cl r i, v = .map (some q) /\ w.heap[q]? = some (.map ents cl) /\ MapOk O M.V M.agg M.U M.ts ents cl /\ h[M.pl.id]? = some r /\ O[M.pl.id]? = some i /\ own i r q) \/ (v = .map none /\ M.ts = [] /\ ∃ p, M.pl = .ar p 0) := by
 unfold xKV at hM;split at hM
 ·rename_i id;split at hM
  ·rename_i V agg U ts hr;cases hM;obtain ⟨i, h1, h2, _⟩ := hd;obtain ⟨q, ents, cl', h3, h4, h5, h6⟩ := hh.ok id _ i hr h1;exact .inl ⟨q, ents, cl', _, i, by rw [h2, h3], h5, h6, hr, h1, by simp [own, h4]⟩
  ·cases hM
 ·rename_i t n;split at hM
  ·rename_i p t2 V agg U os hr;cases hM;obtain ⟨p', hp, hrr, ht⟩ := xAA hr;rw [Nat.zero_add] at hp; subst hp;rcases hd with ⟨h0, h1⟩ | ⟨m, id, i0, h1, h2, h3, q, h4⟩
   ·subst h0; exact .inr ⟨h1, rfl, p, rfl⟩
   ·subst h1;obtain ⟨ip, hip⟩ := hh.info hrr;have h7 := hh.cov p t _ ip hrr hip ht id i0 m _ h2 h3;obtain ⟨hA, hO⟩ := xI6 (hh.ok p _ ip hrr hip) ht;have hl : ∃ ts, os[m]? = some (some ts) := by
     have := hg.1;simp only [xCv] at this;split at this
     ·rename_i xs hx2; exact ⟨xs, hx2⟩
     ·cases this
    obtain ⟨ts, hos⟩ := hl;have hrow : rowAt os (m + 1) = ts := by simp only [rowAt, hos]
    have ho : (Root.arm t2 V agg U os).obs[m]? = some (.mp V agg U ts) := by
     simp only [Root.obs, List.getElem?_map, hos, Option.map_some]
    obtain ⟨q', ents, cl, g1, g2, g3⟩ := hA.2.1 m _ _ h7 ho;rw [h4] at g1;cases g1;refine .inl ⟨q, ents, cl, _, ip, h4, g2, ?_, hrr, hip, hO q ⟨m, _, _, h7, ho, ?_⟩⟩
    ·show MapOk O V agg U (rowAt os (m + 1)) ents cl;rw [hrow]; exact g3
    ·show xHN v = some q;rw [h4]; rfl
  ·cases hM
 ·cases hM
theorem xTQ {x : CV} {M : MpV} (hM : xKV h x = some M) : M.pl.id ∈ rdC h x := by
 unfold xKV at hM;split at hM
 ·split at hM
  ·cases hM; simp [rdC, MPl.id]
  ·cases hM
 ·split at hM
  ·rename_i hr; cases hM; simp [rdC, MPl.id, arId, hr]
  ·cases hM
 ·cases hM
theorem xRv (hK : KOk N D O K a) (hh : HOk S F W0 O h w) {t : TypeId} {x ix : Operand} {ok : Bool} (ho : o.op = .lookup t x ix ok) (hL : ∀ c, xAo K x = some (.c c) -> ∀ id ∈ rdC h c, id ∈ L) : xBX P O h w a o L (xOq P K h t x ix ok) := by
 unfold xOq;split
 ·rename_i kt et mm kv hd hx hix;split
  ·rename_i d g pl V agg U ts hk hM
   cases hfit : V.fits d with
   | false => trivial
   | true =>
    simp only [cond_true];split
    ·rename_i n z hn hz;have h7 : a.eval ix = V.val n := by
      have := xK5 hn;subst this;exact (xAa hK hix).1
     have fin : AllB g -> ∃ v, DenB O agg (U.enc (xEW V z n ts)) v /\ ∀ w', Agree L O h w w' -> (execOp a.eval o).run P w' = .ok (.value (if ok then .tuple #[v, .bool (hasK V n ts)] else v)) w' := by
      intro hg;have absent : ∀ ents : Array MapEntry, hasK V n ts = false -> Instr.findNow d (V.val n) ents.toList 0 = some none -> ((a.eval x = .map none /\ ents = #[]) \/ ∃ q cl, a.eval x = .map (some q) /\ ∀ w', Agree L O h w w' -> (getObj q).run P w' = .ok (.map ents cl) w') -> ∃ v, DenB O agg (U.enc (xEW V z n ts)) v /\ ∀ w', Agree L O h w w' -> (execOp a.eval o).run P w' = .ok (.value (if ok then .tuple #[v, .bool (hasK V n ts)] else v)) w' := by
       intro ents hf hnow hget;obtain ⟨v, h8, h9⟩ := xV6 (O := O) hz;refine ⟨v, by rw [xUC hf]; exact h8, fun w' ha => ?_⟩;unfold execOp;simp only [ho, h7, hf];have hfk : (Instr.findKey kt (V.val n) ents.toList).run P w' = .ok none w' := by
        unfold Instr.findKey;simp only [Sem.run_bind, run_underlying hk, Result.andThen_ok, hnow, Sem.run_pure]
       rcases hget with ⟨h2, rfl⟩ | ⟨q, cl, h2, hget⟩
       ·simp only [Instr.lookup, h2, Sem.run_bind, run_underlying hd, Result.andThen_ok, Sem.run_pure, xBq hk hfit, hfk, h9 w']
       ·simp only [Instr.lookup, h2, Sem.run_bind, run_underlying hd, Result.andThen_ok, hget w' ha, Sem.run_pure, xBq hk hfit, hfk, h9 w']
      rcases xKU hh (xAa hK hx) hM hg with ⟨q, ents, cl0, r, i, h2, h5, h6, hr, h1, hown⟩ | ⟨h2, h3, _⟩
      ·dsimp only at h5 h6 hr h1;have hobj : ∀ w', Agree L O h w w' -> w'.heap[q]? = some (.map ents cl0) := fun w' ha => by
        rw [ha.1 _ (hL _ hx _ (xTQ hM)) r i q hr h1 (xAm hown)]; exact h5
       have hget : ∀ w', Agree L O h w w' -> (getObj q).run P w' = .ok (.map ents cl0) w' := fun w' ha => by
        simp only [getObj, Sem.run, hobj w' ha]
       have hnow := xRs h6 hfit n
       cases hf : hasK V n ts with
       | true =>
        rw [hf] at hnow;obtain ⟨j, v, h8, h9, _⟩ := hnow;refine ⟨v, h9 z, fun w' ha => ?_⟩;unfold execOp;simp only [ho, h2, h7];have hfk : (Instr.findKey kt (V.val n) ents.toList).run P w' = .ok (some (j, v)) w' := by
         unfold Instr.findKey;simp only [Sem.run_bind, run_underlying hk, Result.andThen_ok, h8, Sem.run_pure]
        simp only [Instr.lookup, Sem.run_bind, run_underlying hd, Result.andThen_ok, hget w' ha, Sem.run_pure, xBq hk hfit, hfk]
       | false =>
        rw [hf] at hnow;have := absent ents hf hnow (.inr ⟨q, cl0, h2, hget⟩);rw [hf] at this; exact this
      ·dsimp only at h3;subst h3;exact absent #[] rfl rfl (.inl ⟨h2, rfl⟩)
     cases ok with
     | true =>
      refine xAg fun hg => ?_;obtain ⟨v, hdv, hrun⟩ := fin hg;exact ⟨.tuple #[v, .bool (hasK V n ts)], ⟨[v, .bool (hasK V n ts)], ⟨v, _, rfl, hdv, .bool (hasK V n ts), [], rfl, ⟨_, rfl, rfl, rfl⟩, rfl⟩, rfl⟩, hrun⟩
     | false =>
      simp only [cond_false];split
      ·rename_i p hp;refine xAg fun hg => ?_;obtain ⟨v, hdv, hrun⟩ := fin hg;exact ⟨v, xU7 hdv hp, hrun⟩
      ·trivial
    ·trivial
  ·trivial
 ·trivial
theorem xML (hK : KOk N D O K a) (hh : HOk S F W0 O h w) {x : Operand} {t kt et : TypeId} {ty : TypeId} (ho : o.op = .call ⟨.builtin .len, ⟨[x]⟩, ⟨[t]⟩⟩) (hd : P.underlying t = some (.map kt et)) {c : CV} (hx : xAo K x = some (.c c)) {M : MpV} (hM : xKV h c = some M) (hL : ∀ id ∈ rdC h c, id ∈ L) : xBX P O h w a o L (.val M.g (.c (.sc (.int .i64 M.ts.length)))) := by
 refine xAg fun hg => ?_;rcases xKU hh (xAa hK hx) hM hg with ⟨q, ents, cl0, r, i, h2, h5, h6, hr, h1, hown⟩ | ⟨h2, h3, _⟩
 ·refine ⟨_, ⟨rfl, rfl⟩, fun w' ha => ?_⟩;have hobj : w'.heap[q]? = some (.map ents cl0) := by
   rw [ha.1 _ (hL _ (xTQ hM)) r i q hr h1 (xAm hown)]; exact h5
  have hget : (getObj q).run P w' = .ok (.map ents cl0) w' := by simp only [getObj, Sem.run, hobj]
  have hsz : (ents.size : Int) = M.ts.length := by rw [xIu h6]
  unfold execOp; simp only [ho];simp [resolve, invoke, builtin, h2, Builtin.len_, Sem.run_bind, run_underlying hd, Result.andThen, goInt, hget, hsz]
 ·refine ⟨_, ⟨rfl, rfl⟩, fun w' ha => ?_⟩;unfold execOp; simp only [ho];simp [resolve, invoke, builtin, h2, h3, Builtin.len_, Sem.run_bind, run_underlying hd, Result.andThen, goInt]
theorem xHt (hK : KOk N D O K a) (hh : HOk S F W0 O h w) : xBX P O h w a o (xGi K h o) (xHd P K h o) := by
 unfold xHd;split
 ·rename_i x ho;refine xKO fun {v} hv => ⟨_, xAa hK hv, fun w' _ => ?_⟩;unfold execOp; simp only [ho]; rfl
 ·rename_i x ho;refine xKO fun {v} hv => ?_;obtain ⟨v0, hv0, rfl⟩ := Option.map_eq_some_iff.1 hv;refine ⟨_, asT_ok (xAa hK hv0), fun w' _ => ?_⟩;unfold execOp; simp only [ho]; rfl
 ·rename_i c x y ho;split
  ·rename_i q u v hc hx hy;have h5 : a.eval c = .bool q := (xAa hK hc).1
   cases q with
   | true => exact ⟨_, xAa hK hx, fun w' _ => by unfold execOp; simp only [ho, h5]; simp [asBool, Sem.run_bind, Result.andThen]⟩
   | false => exact ⟨_, xAa hK hy, fun w' _ => by unfold execOp; simp only [ho, h5]; simp [asBool, Sem.run_bind, Result.andThen]⟩
  ·trivial
 ·rename_i t ix ho;split
  ·rename_i l ht;obtain ⟨vs, h1, h2⟩ := xAa hK ht;split
   ·rename_i cs hx;obtain ⟨u, h3, h4⟩ := h1.get hx;refine xAg fun _ => ⟨u, h4, fun w' _ => ?_⟩;unfold execOp; simp only [ho, h2]; simp [Instr.extract, Sem.run_bind, Result.andThen, h3]
   ·rename_i x hx;obtain ⟨u, h3, y, h4, h5⟩ := h1.get hx;cases h4;refine xAg fun _ => ⟨u, h5, fun w' _ => ?_⟩;unfold execOp; simp only [ho, h2]; simp [Instr.extract, Sem.run_bind, Result.andThen, h3]
   ·trivial
  ·trivial
 ·rename_i t x ho; exact xP1 hK hh ho (fun c e id hid => by simpa only [xGi, ho, e] using hid)
 ·rename_i s x f ho; exact xLp hK ho
 ·rename_i t x ix ho; exact xLa hK ho hh
 ·rename_i t x f ho; exact xUN hK ho
 ·rename_i t x ix ho; exact xUw hK ho
 ·rename_i x ho;split
  ·rename_i id k row j hx;have hd := xAa hK hx;obtain ⟨i', b, o', h1, h2, h3, h4⟩ := hd;refine xAg fun _ => ⟨_, ⟨i', b, o', h1, h2, h3, rfl⟩, fun w' _ => ?_⟩;unfold execOp; simp only [ho, h4]; rfl
  ·rename_i t n hx;refine xAg fun hg => ?_;have hn : n ≠ 0 := fun e => by have := hg.1; rw [e] at this; cases this
   rcases xAa hK hx with ⟨h0, _⟩ | ⟨m, id, i, h1, h2, h3, b, o', h4⟩
   ·exact absurd h0 hn
   ·refine ⟨_, .inr ⟨m, id, i, h1, h2, h3, b, o', h4⟩, fun w' _ => ?_⟩;unfold execOp; simp only [ho, h4]; rfl
  ·rename_i t n k row j hx;refine xAg fun _ => ?_;obtain ⟨m, id, i, u, b, off, len, h1, h2, h3, h4, h5, h6⟩ := xAa hK hx;refine ⟨_, ⟨m, id, i, u, b, off, len, h1, h2, h3, h4, h5, h6⟩, fun w' _ => ?_⟩;unfold execOp; simp only [ho, h6]; rfl
  ·trivial
 ·rename_i t x lo hi ho; exact xSU hK hh ho
 ·rename_i t x ix ok ho; exact xRv hK hh ho (fun c e id hid => by simpa only [xGi, ho, e] using hid)
 ·rename_i x t ho;split
  ·rename_i id kt et hx hd;split
   ·rename_i g pl V agg U ts hM;exact xML (ty := t) hK hh ho hd hx hM (fun id hid => by simpa only [xGi, ho, hx, rdC] using hid)
   ·trivial
  ·rename_i t' n kt et hx hd;split
   ·rename_i g pl V agg U ts hM;exact xML (ty := t) hK hh ho hd hx hM (fun id hid => by simpa only [xGi, ho, hx, rdC, show Nat.beq 2 1 = false from rfl, cond_false] using hid)
   ·trivial
  ·rename_i t' n e hx hd;split
   ·rename_i p t2 T2 U os hr;refine xAg fun hg => ?_;have hlen : ∃ a0 c0, a.eval x = .slice a0 (rowAt os n).length c0 := by
     obtain ⟨p', hp, hrr, ht⟩ := xAA hr;rw [Nat.zero_add] at hp; subst hp;rcases xAa hK hx with ⟨h0, h1⟩ | ⟨m, id, i0, h1, h2, h3, a0, n0, c0, h4⟩
     ·subst h0; exact ⟨none, 0, h1⟩
     ·obtain ⟨ip, hip⟩ := hh.info hrr;have h7 := hh.cov p t' _ ip hrr hip ht id i0 m _ h2 h3;obtain ⟨hA, _⟩ := xI6 (hh.ok p _ ip hrr hip) ht;have hlive : ∃ xs, os[m]? = some (some xs) := by
       have := hg.1;rw [h1] at this;simp only [xCv] at this;split at this
       ·rename_i xs hx2; exact ⟨xs, hx2⟩
       ·cases this
      obtain ⟨xs, hos⟩ := hlive;obtain ⟨a1, c1, g1, g2, vs, g3, g4⟩ := hA.2.1 m _ (.row T2 U xs) h7 (by simp only [Root.obs, List.getElem?_map, hos, Option.map_some]);rw [h4] at g1;simp only [hdr, Option.some.injEq, Prod.mk.injEq] at g1;obtain ⟨rfl, rfl, rfl⟩ := g1;exact ⟨a0, c0, by rw [h4, h1]; simp only [rowAt, hos]⟩
    obtain ⟨a0, c0, h2⟩ := hlen;refine ⟨_, ⟨rfl, rfl⟩, fun w' _ => ?_⟩;unfold execOp; simp only [ho];simp [resolve, invoke, builtin, h2, Builtin.len_, Sem.run_bind, run_underlying hd, Result.andThen, goInt]
   ·rename_i p t2 U os hr;refine xAg fun _ => ?_;have hlen : ∃ a0 c0, a.eval x = .slice a0 (xED os n).length c0 := by
     obtain ⟨p', hp, hrr, ht⟩ := xAA hr;rw [Nat.zero_add] at hp; subst hp;rcases xAa hK hx with ⟨h0, h1⟩ | ⟨m, id, i0, h1, h2, h3, a0, n0, c0, h4⟩
     ·subst h0; exact ⟨none, 0, h1⟩
     ·obtain ⟨ip, hip⟩ := hh.info hrr;have h7 := hh.cov p t' _ ip hrr hip ht id i0 m _ h2 h3;obtain ⟨hA, _⟩ : ArOk O w (ip.objs t') (Root.arr t2 U os).obs /\ True := ⟨by cases ht; exact hh.ok p _ ip hrr hip, trivial⟩;have hlt : m < os.length := by
       have h8 := (List.getElem?_eq_some_iff.1 h7).1;have h9 := hA.1;simp only [Root.obs, List.length_map] at h9;omega
      obtain ⟨a1, c1, g1, _⟩ := hA.2.1 m _ (.rr U os[m]) h7 (by simp only [Root.obs, List.getElem?_map, List.getElem?_eq_getElem hlt, Option.map_some]);have hrow : xED os n = os[m] := by
       rw [h1]; simp [xED, nth, List.getD_eq_getElem?_getD, List.getElem?_eq_getElem hlt]
      exact ⟨a1, c1, by rw [hrow]; exact g1⟩
    obtain ⟨a0, c0, h2⟩ := hlen;refine ⟨_, ⟨rfl, rfl⟩, fun w' _ => ?_⟩;unfold execOp; simp only [ho];simp [resolve, invoke, builtin, h2, Builtin.len_, Sem.run_bind, run_underlying hd, Result.andThen, goInt]
   ·trivial
  ·rename_i id k off n c e hx hd;obtain ⟨i', a', c', nn, h1, h2, _, _, _, hc, _⟩ := xAa hK hx;split
   ·rename_i n0 hn0;have hnn := xGs hh h1 hc hn0;subst hnn;refine xAg fun _ => ⟨_, ⟨rfl, rfl⟩, fun w' _ => ?_⟩;unfold execOp; simp only [ho];simp [resolve, invoke, builtin, h2, Builtin.len_, Sem.run_bind, run_underlying hd, Result.andThen, goInt]
   ·trivial
  ·exact xB8 hK
 ·rename_i t x y t' ho;split
  ·rename_i k p k' q hx hy
   cases hkk : Nat.beq (kix k) (kix k') with
   | false => exact xB8 hK
   | true =>
    have := xDU hkk;subst this;refine xAg fun hg => ⟨_, ⟨rfl, rfl⟩, fun w' _ => ?_⟩;have h5 := xAH (O := O) (xAa hK hx);have h6 := xAH (O := O) (xAa hK hy);have hq : q ≠ 0 := by simpa using hg.1
    unfold execOp; simp only [ho, h5, h6];simp [eqGuard, binOp, Op.intDiv, hq, Sem.run_bind, Result.andThen]
  ·exact xB8 hK
 ·rename_i t x y t' ho;split
  ·rename_i k p k' q hx hy
   cases hkk : Nat.beq (kix k) (kix k') with
   | false => exact xB8 hK
   | true =>
    have := xDU hkk;subst this;refine xAg fun hg => ⟨_, ⟨rfl, rfl⟩, fun w' _ => ?_⟩;have h5 := xAH (O := O) (xAa hK hx);have h6 := xAH (O := O) (xAa hK hy);have hq : q ≠ 0 := by simpa using hg.1
    unfold execOp; simp only [ho, h5, h6];simp [eqGuard, binOp, Op.intDiv, hq, Sem.run_bind, Result.andThen]
  ·exact xB8 hK
 ·rename_i t x y t' ho;split
  ·rename_i k p k' q hx hy;refine xAg fun hg => ⟨_, ⟨rfl, rfl⟩, fun w' _ => ?_⟩;have h5 := xAH (O := O) (xAa hK hx);have h6 := xAH (O := O) (xAa hK hy);have hq : ¬ q < 0 := by have := of_decide_eq_true hg.1; omega
   unfold execOp; simp only [ho, h5, h6];simp [eqGuard, binOp, Op.shift, hq, Sem.run_bind, Result.andThen]
  ·exact xB8 hK
 ·rename_i t x y t' ho;split
  ·rename_i k p k' q hx hy;refine xAg fun hg => ⟨_, ⟨rfl, rfl⟩, fun w' _ => ?_⟩;have h5 := xAH (O := O) (xAa hK hx);have h6 := xAH (O := O) (xAa hK hy);have hq : ¬ q < 0 := by have := of_decide_eq_true hg.1; omega
   unfold execOp; simp only [ho, h5, h6];simp [eqGuard, binOp, Op.shift, hq, Sem.run_bind, Result.andThen]
  ·exact xB8 hK
 ·rename_i t x y t' ho; exact xUQ (n := false) hK hh ho
 ·rename_i t x y t' ho; exact xUQ (n := true) hK hh ho
 ·rename_i op t x y t' _ _ _ _ _ _ ho; exact xVy hK ho
 ·rename_i t parts ho; exact xVs hK ho
 ·rename_i s d x ho; exact xXE hK hh ho (fun id k off n c e => by simp [xGi, ho, e])
 all_goals first | trivial | exact xB8 hK
end
end Go.Proofs.YtnomnijhlbalaaaGreatDoor
