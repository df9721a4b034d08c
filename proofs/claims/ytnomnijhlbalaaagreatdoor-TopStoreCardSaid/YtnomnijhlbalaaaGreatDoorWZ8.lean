/- A part of the proof of the theorem of the last file. No condition. By an AI agent. -/
import Derived.Test.YtnomnijhlbalaaaGreatDoorWZ7
import Derived.Laws.Externs
import Derived.Laws.IdiomCopy
namespace Go.Proofs.YtnomnijhlbalaaaGreatDoor
open Go.RowKit
section
variable {P : Program} {N : Nat} {D : List Deferred} {S F : List Nat} {W0 : World} {O : List Info} {K : Slo} {h : List Root} {w : World} {a : Act} {o : Oper}
theorem xW5 (hK : KOk N D O K a) (hh : HOk S F W0 O h w) {t : TypeId} {l c : Operand} (ho : o.op = .makeSlice t l c) : xEX P S F W0 O h w a o (xRu P K h t l c) := by
 have exec : ∀ {v : Value} {w' : World}, (Instr.makeSlice t (a.eval l) (a.eval c)).run P w = .ok v w' -> (execOp a.eval o).run P w = .ok (.value v) w' := by
  intro v w' hr;unfold execOp;simp only [ho];simp [Sem.run_bind, hr, Result.andThen]
 unfold xRu;split
 ·rename_i e hd;split
  ·rename_i inf z hi hz;obtain ⟨zv, hzv, hzd⟩ := xCB (O := O) hz hi
   cases hc : (Nat.beq z.length inf.size && xJw inf.bytes && Nat.beq inf.size (xBs P 20 e).w && Nat.ble 1 inf.size) with
   | false => trivial
   | true =>
    simp only [Bool.and_eq_true] at hc;obtain ⟨⟨⟨hc1, hc2⟩, hc3⟩, hc4⟩ := hc;have hzs : zv.cells.size = inf.size := by
     have h1 := hzd.len;have h2 := nbT hc1;simp at h1; omega
    have hsm : 1000000 * inf.bytes <= 140737488355328 := Nat.le_of_ble_eq_true hc2;have hsz := nbT hc3;have hpos := Nat.le_of_ble_eq_true hc4;have hbytes : ∀ q : Nat, q <= 1000000 -> inf.bytes * q <= 281474976710656 := fun q hq => by
     have := Nat.mul_le_mul_left inf.bytes hq;rw [Nat.mul_comm inf.bytes 1000000] at this; omega
    simp only [cond_true];split
    ·rename_i x y z0 hl hcv hz0;have h5 : a.eval l = .int .i64 x := xAH (O := O) (xAa hK hl);have h6 : a.eval c = .int .i64 y := xAH (O := O) (xAa hK hcv)
     cases hb : xRf l c with
     | true =>
      have hb' := xPw hb;subst hb';simp only [cond_true];rw [hl] at hcv;cases hcv;intro hg;have hg1 : 0 <= x /\ x <= 1000000 := by simpa using hg.1
      obtain ⟨w', r1, r2, r3⟩ := run_make_full (P := P) w w.heap.size t e inf zv inf.size hd hi hzv rfl .i64 .i64 x.toNat (hbytes _ (by omega)) (by unfold maxLen; omega) (Nat.le_refl _);have e1 : ((x.toNat : Nat) : Int) = x := by omega
      rw [e1] at r1;have e2 := TC.dec1_enc hz0;have hdl : DenL O (flat (xBs P 20 e) (List.replicate x.toNat z0)) (madeCells zv.cells (x.toNat * inf.size)).toList := by
       rw [<- hzs, xBt, xHE, <- e2];exact xGh (xBi hzd) _
      have hn : (List.replicate x.toNat z0).length = x.toNat := List.length_replicate;refine hsz ▸ ?_;refine xFL hh (by omega) hdl (exec (by rw [h5]; exact r1)) ?_ (Ex.of_grown r3);rw [hn, <- hsz];exact r2
     | false =>
      simp only [cond_false];split
      ·intro hg;have hg1 : 0 <= y /\ y <= 1000000 := by simpa using hg.1
       obtain ⟨w', r1, r2, r3⟩ := run_make_own (P := P) w w.heap.size t e inf zv inf.size hd hi hzv rfl .i64 .i64 y.toNat (hbytes _ (by omega)) (by unfold maxLen; omega) (Nat.le_refl _);have e1 : ((y.toNat : Nat) : Int) = y := by omega
       rw [e1] at r1;refine hsz ▸ ?_;exact xFL hh (T := e) (U := xBs P 20 e) (xs := []) (by omega) (us := []) rfl (exec (by rw [h5, h6]; exact r1)) (by rw [<- hsz]; exact r2) (Ex.of_grown r3)
      ·trivial
    ·trivial
  ·trivial
 ·trivial
theorem xJj (hK : KOk N D O K a) (hh : HOk S F W0 O h w) {t : TypeId} {n : Nat} {parts : Array (Nat × Operand)} (ho : o.op = .buildSlice t n parts) : xEX P S F W0 O h w a o (xB9 P K h t n parts) := by
 have hmap : (parts.map fun (i, x) => (i, a.eval x)).toList = parts.toList.map (fun p => (p.1, a.eval p.2)) := by simp
 unfold xB9;split
 ·rename_i e hd;split
  ·rename_i inf z ps hi hz hp;obtain ⟨zv, hzv, hzd⟩ := xCB (O := O) hz hi
   cases hc : (Nat.beq z.length inf.size && Nat.beq inf.size (xBs P 20 e).w && Nat.ble 1 inf.size && Nat.ble (n * inf.size) 16777216) with
   | false => trivial
   | true =>
    simp only [Bool.and_eq_true] at hc;obtain ⟨⟨⟨hc1, hc3⟩, hc4⟩, hc5⟩ := hc;have hzs : zv.cells.size = inf.size := by
     have h1 := hzd.len;have h2 := nbT hc1;simp at h1; omega
    have hsz := nbT hc3;have hpos := Nat.le_of_ble_eq_true hc4;have hmax := Nat.le_of_ble_eq_true hc5;simp only [cond_true];split
    ·rename_i cs hcs;have hz0 : DenL O (repL n z) (madeCells zv.cells (n * inf.size)).toList := by
      rw [<- hzs, xBt];exact xGh hzd _
     obtain ⟨out, h3, h4⟩ := xEl hK hp (fun i => some (i * inf.size, inf.size)) _ (madeCells zv.cells (n * inf.size)) cs hz0 hcs;have fin : ∀ (U : TC) (xs : List U.ty) (cs' : List CV), DenL O cs' out.toList -> xE3 U n cs' = some xs -> inf.size = U.w -> MemOk P S F W0 O h w a o (.c (.sl h.length inf.size 0 none none)) (h ++ [.rows e U xs]) [] := by
      intro U xs cs' h3 hxs hsz;obtain ⟨e1, e2⟩ := xEv hxs;have hos : out.size = n * inf.size := by
       have h5 := h3.len;rw [e1, xDa, e2, <- hsz] at h5;simpa using h5
      have hm0 : ∀ zz : Array Value, n * inf.size = 0 -> (Array.range (n * inf.size)).map (fun x => zz[x % zz.size]!) = madeCells zv.cells (n * inf.size) := by
       intro zz h0; rw [h0]; simp [madeCells]
      have hzv2 : (zeroValue e).run P w = .ok zv w := by simp [zeroValue, typeInfo, hi, hzv, Sem.run_bind, Result.andThen]
      have hrun : (execOp a.eval o).run P w = .ok (.value (.slice (some ⟨w.heap.size, 0, none⟩) n n)) (w.alloc (.cells out e (0, 0))) := by
       unfold execOp;simp only [ho];have hlim : ¬ (n * inf.size > 2 ^ 24) := by omega
       have h4' : Instr.fill (fun i => some (i * inf.size, inf.size)) (madeCells zv.cells (n * inf.size)) (parts.map fun (i, x) => (i, a.eval x)).toList = some out := by rw [hmap]; exact h4
       by_cases h0 : n * inf.size = 0
       ·simp only [Instr.buildSlice, Sem.run_bind, run_underlying hd, Result.andThen_ok, xAh hi, if_neg hlim, Sem.run_pure, if_pos h0, hm0 _ h0, h4'];rfl
       ·have h4'' : Instr.fill (fun i => some (i * inf.size, inf.size)) ((Array.range (n * inf.size)).map (fun x => zv.cells[x % zv.cells.size]!)) (parts.map fun (i, x) => (i, a.eval x)).toList = some out := h4';simp only [Instr.buildSlice, Sem.run_bind, run_underlying hd, Result.andThen_ok, xAh hi, if_neg hlim, Sem.run_pure, if_neg h0, hzv2, h4''];rfl
      refine hsz ▸ ?_;refine xFL hh (T := e) (by omega) (us := out.toList) (by rw [<- e1]; exact h3) hrun ?_ (Ex.allocs _ _);rw [e2, <- hsz];refine ⟨by simpa using hos, .inr ⟨w.heap.size, n, out, rfl, Nat.le_refl _, xAq _ _, Nat.le_refl _, ?_, hos, ?_⟩⟩
      ·unfold maxLen;have := Nat.le_mul_of_pos_right n hpos;omega
      ·exact List.take_of_length_le (by rw [Array.length_toList]; omega)
     split
     ·rename_i xs hxs;intro _;exact fin _ xs _ (xBi h3) hxs hsz
     ·cases hrw : Nat.beq (xOb (xBs P 20 e)).w (xBs P 20 e).w with
      | false => trivial
      | true =>
       simp only [cond_true];split
       ·rename_i xs hxs;intro _;exact fin _ xs _ h3 hxs (by rw [hsz, nbT hrw])
       ·trivial
    ·trivial
  ·trivial
 ·trivial
theorem xLy (hK : KOk N D O K a) : ∀ {l : List Operand} {r : List CV}, xVo K l = some r -> DenL O r (l.map a.eval)
 | [], r, h => by cases h; rfl
 | x :: l, r, h => by
  simp only [xVo] at h;split at h
  ·rename_i y q hy hq;cases h;exact ⟨_, _, rfl, xAa hK hy, xLy hK hq⟩
  ·cases h
theorem xF5 (hK : KOk N D O K a) : ∀ {l : List Operand} {r : List PV}, xRT K l = some r -> DenArgs O r (l.map a.eval)
 | [], r, h => by cases h; rfl
 | x :: l, r, h => by
  simp only [xRT] at h;split at h
  ·rename_i y q hy hq;cases h;exact ⟨_, _, rfl, xAa hK hy, xF5 hK hq⟩
  ·cases h
theorem DenArgs.app : ∀ {l m : List PV} {vs us : List Value}, DenArgs O l vs -> DenArgs O m us -> DenArgs O (l ++ m) (vs ++ us)
 | [], _, _, _, h, k => by rw [h]; exact k
 | _ :: _, _, _, _, ⟨v, r, e, h1, h2⟩, k => by rw [e]; exact ⟨v, _, rfl, h1, h2.app k⟩
theorem DenArgs.cvs : ∀ {l : List CV} {vs : List Value}, DenL O l vs -> DenArgs O (l.map .c) vs
 | [], _, h => h
 | _ :: _, _, ⟨v, r, e, h1, h2⟩ => ⟨v, r, e, h1, DenArgs.cvs h2⟩
theorem xEw {g : FuncId} (hc : xA3 P g = true) (args : Array Value) : (callFunc g args).run P w = .ok (.enter g args) w := by
 unfold xA3 at hc;split at hc
 ·rename_i fn hf;simp only [Bool.and_eq_true, bne_iff_ne, ne_eq] at hc;obtain ⟨h1, h2⟩ := hc;have h3 : fn.body.isNone = false := by cases hb : fn.body <;> simp [hb] at h1 ⊢
  have hp : (program).run P w = .ok P w := rfl;simp only [callFunc, Sem.run_bind, hp, Result.andThen_ok, hf];rw [if_neg (by simpa using h2), if_neg (by simp [h3])];rfl
 ·cases hc
def subE : Array Value -> Sem Value := ((Extern.MathBitsCarry.rows.lookup "math/bits.Sub64").getD (fun _ => pure undef))
theorem xWs (x y b : Nat) (hb : b <= 1) (w : World) : (subE #[.int .u64 x, .int .u64 y, .int .u64 b]).run P w =
  .ok (.tuple #[.int .u64 (((x + 18446744073709551616 - y - b) % 18446744073709551616 : Nat) : Int), .int .u64 ((if x < y + b then 1 else 0 : Nat) : Int)]) w := by
 have h : b = 0 \/ b = 1 := by omega
 rcases h with rfl | rfl <;> rfl
theorem xSy {g : FuncId} (hc : xIz P g = true) (x y b : Nat) (hb : b <= 1) (w : World) :
  (callFunc g #[.int .u64 x, .int .u64 y, .int .u64 b]).run P w = .ok (.value (.tuple #[.int .u64 (((x + 18446744073709551616 - y - b) % 18446744073709551616 : Nat) : Int), .int .u64 ((if x < y + b then 1 else 0 : Nat) : Int)])) w := by
 unfold xIz at hc;split at hc
 ·rename_i fn hf;simp only [Bool.and_eq_true, beq_iff_eq] at hc;obtain ⟨⟨h1, h2⟩, h3⟩ := hc;have e1 : Extern.findNext fn = none := by
   unfold Extern.findNext;rw [h2, h3];kernel_rfl
  have e2 : Extern.find fn = some subE := by
   unfold Extern.find;rw [h2, h3];kernel_rfl
  rw [run_callFunc_extern hf (by rw [h2]; kernel_rfl) h1 e1 e2, xWs x y b hb];rfl
 ·cases hc
theorem subP_ok (hK : KOk N D O K a) (hh : HOk S F W0 O h w) {f : Operand} {args : List Operand} {ts : Array TypeId} (ho : o.op = .call ⟨.value f, ⟨args⟩, ts⟩) {g : FuncId} (hc : xIz P g = true) (h5 : a.eval f = .func (.func g) #[] #[]) {l : List PV} (hl : xRT K args = some l) : xEX P S F W0 O h w a o (subP l h) := by
 have hd := xF5 hK hl;unfold subP;split
 ·rename_i x y b;intro hg;obtain ⟨g1, g2, g3, g4, _⟩ := hg;simp only [decide_eq_true_eq] at g1 g2 g3 g4;obtain ⟨x', rfl⟩ := Int.eq_ofNat_of_zero_le g1;obtain ⟨y', rfl⟩ := Int.eq_ofNat_of_zero_le g2;obtain ⟨b', rfl⟩ := Int.eq_ofNat_of_zero_le g3;obtain ⟨v1, r1, q1, d1, v2, r2, q2, d2, v3, r3, q3, d3, q4⟩ := hd;subst q4; subst q3; subst q2;have e1 : v1 = .int .u64 x' := d1.1;have e2 : v2 = .int .u64 y' := d2.1;have e3 : v3 = .int .u64 b' := d3.1;subst e1; subst e2; subst e3;have run := xSy hc x' y' b' (by omega) w;refine ⟨O, .tuple #[.int .u64 (((x' + 18446744073709551616 - y' - b') % 18446744073709551616 : Nat) : Int), .int .u64 ((if x' < y' + b' then 1 else 0 : Nat) : Int)], _, w, [], Pre.refl O, ?_, .inl rfl, ?_, hh, Ex.refl [] w, by simp, fun q _ _ => rfl, Feet.refl w⟩;rotate_left
  ·unfold execOp;simp only [ho];have hm : Array.map a.eval ⟨args⟩ = #[.int .u64 x', .int .u64 y', .int .u64 b'] := by
    apply Array.ext';simpa using q1
   simp [resolve, Deferred.ofValue, h5, invoke, Sem.run_bind, Result.andThen, hm, run]
  ·refine ⟨_, ?_, rfl⟩;simp only [Int.toNat_natCast];by_cases hlt : x' < y' + b'
   ·rw [decide_eq_true hlt, if_pos hlt];exact ⟨_, _, rfl, ⟨_, rfl, rfl, rfl⟩, _, _, rfl, ⟨_, rfl, rfl, rfl⟩, rfl⟩
   ·rw [decide_eq_false hlt, if_neg hlt];exact ⟨_, _, rfl, ⟨_, rfl, rfl, rfl⟩, _, _, rfl, ⟨_, rfl, rfl, rfl⟩, rfl⟩
 ·trivial
theorem xXK (hK : KOk N D O K a) (hh : HOk S F W0 O h w) {f : Operand} {args : List Operand} {ts : Array TypeId} (ho : o.op = .call ⟨.value f, ⟨args⟩, ts⟩) : xEX P S F W0 O h w a o (callP P K h f args) := by
 unfold callP;split
 ·rename_i l hl;split
  ·rename_i g hf;have h5 : a.eval f = .func (.func g) #[] #[] := (xAa hK hf).1
   cases hc : xA3 P g with
   | false =>
    cases hs : xIz P g with
    | false => trivial
    | true => exact subP_ok hK hh ho hs h5 hl
   | true =>
    refine ⟨args.map a.eval, ?_, hc, xF5 hK hl⟩;unfold execOp;simp only [ho];simp [resolve, Deferred.ofValue, h5, invoke, Sem.run_bind, Result.andThen, xEw hc]
  ·rename_i id hf;split
   ·rename_i g fs cs hr
    cases hc : xA3 P g with
    | false => trivial
    | true =>
     obtain ⟨i, h1, h2, _⟩ := xAa hK hf;obtain ⟨us, vs, h3, h4, h6⟩ := hh.ok id _ i hr h1;rw [h6] at h2;refine ⟨us ++ args.map a.eval ++ vs, ?_, hc, ((DenArgs.cvs h3).app (xF5 hK hl)).app (DenArgs.cvs h4)⟩;unfold execOp;simp only [ho];simp [resolve, Deferred.ofValue, h2, invoke, Sem.run_bind, Result.andThen, xEw hc]
   ·trivial
  ·trivial
 ·trivial
theorem ex_set (w : World) (b : Nat) (o : Obj) : Ex [b] w { w with heap := w.heap.setIfInBounds b o } :=
 ⟨rfl, rfl, rfl, by simp, fun k _ hk => by
  have hne : b ≠ k := fun e => hk (by simp [e]);show (w.heap.setIfInBounds b o)[k]? = w.heap[k]?;rw [Array.getElem?_setIfInBounds_ne hne]⟩
theorem xTg (hK : KOk N D O K a) (hh : HOk S F W0 O h w) {t : TypeId} {x : Operand} (ho : o.op = .range t x) : xEX P S F W0 O h w a o (xTh P K h t x) := by
 unfold xTh;split
 ·rename_i s hd hx;intro _;have hv : a.eval x = .string s := (xAa hK hx).1;have hrun : (execOp a.eval o).run P w = .ok (.value (.pointer (some ⟨w.heap.size, 0, none⟩))) (w.alloc (.stringIter s 0)) := by
   unfold execOp;simp only [ho, hv];simp only [Instr.range, Sem.run_bind, run_underlying hd, Result.andThen_ok];rfl
  have hnew : ∀ b, foot ⟨some ⟨w.heap.size, 0, none⟩, 1, none, .nilFunc⟩ (.it s 0) b -> w.heap.size <= b := fun b hb => by
   have hb' : some w.heap.size = some b := hb;simp only [Option.some.injEq] at hb';omega
  refine ⟨O ++ [⟨some ⟨w.heap.size, 0, none⟩, 1, none, .nilFunc⟩], _, _, _, [], Pre.app _ _, ⟨_, w.heap.size, 0, xEo hh _, rfl, ⟨fun m hm => (by cases hm), fun _ q => (by cases q)⟩, rfl⟩, .inl rfl, hrun, ?_, Ex.allocs _ _, by simp, fun q _ hq => List.getElem?_append_left hq, Feet.app hh.len rfl (fun _ _ h => .inr h) (fun b hb => .inl (hnew b hb))⟩;exact hh.add (Ex.allocs _ _) _ (.it s 0) ⟨rfl, w.heap.size, rfl, xAq _ _⟩ hnew
 ·trivial
theorem xW3 (hK : KOk N D O K a) (hh : HOk S F W0 O h w) {x : Operand} (ho : o.op = .next x true) : xEX P S F W0 O h w a o (nextP K h x) := by
 unfold nextP;split
 ·rename_i id k row j hx
  cases hc : (Nat.beq k 0 && Nat.beq row 0 && Nat.beq j 0) with
  | false => trivial
  | true =>
   simp only [cond_true];simp only [Bool.and_eq_true] at hc;obtain ⟨⟨c1, c2⟩, c3⟩ := hc;have c1 := nbT c1;have c2 := nbT c2;have c3 := nbT c3;subst c1; subst c2; subst c3;split
   ·rename_i s pos hr;obtain ⟨i, b, o1, h1, h2, h3, h4⟩ := xAa hK hx;obtain ⟨g1, b', g2, g3⟩ := hh.ok id _ i hr h1;rw [h2] at g2;cases g2;have hv : a.eval x = .pointer (some ⟨b, 0, none⟩) := h4;have ho1 : own i (.it s pos) b := by show i.a.map (·.block) = some b; rw [h2]; rfl
    cases hq : Nat.blt pos s.size with
    | true =>
     have hlt : pos < s.size := by simpa [Nat.blt_eq] using hq
     simp only [cond_true];intro _;have hrun : (execOp a.eval o).run P w = .ok (.value (.tuple #[.bool true, .int .i64 pos, .int .i32 (Utf8.decode s pos).1])) { w with heap := w.heap.setIfInBounds b (.stringIter s (pos + (Utf8.decode s pos).2)) } := by
      unfold execOp;simp only [ho, hv];simp only [Instr.next, getObj, setObj, Sem.run_bind, Sem.run, g3, Result.andThen_ok, if_pos hlt, if_pos (lt_of_block g3), lt_of_block g3]
      rfl
     refine ⟨O, _, _, _, [b], Pre.refl _, ⟨_, ⟨_, _, rfl, ⟨_, rfl, ⟨rfl, rfl⟩⟩, ⟨_, _, rfl, ⟨_, rfl, ⟨rfl, rfl⟩⟩, ⟨_, _, rfl, ⟨_, rfl, ⟨rfl, rfl⟩⟩, rfl⟩⟩⟩, rfl⟩, .inl rfl, hrun, ?_, ex_set w b _, fun c hc => ?_, fun q hq1 hq2 => ?_, Feet.set hr h1 (fun c hc => hc)⟩
     ·refine hh.setr hr h1 ho1 (ex_set w b _) (.it s (pos + (Utf8.decode s pos).2)) ⟨g1, b, h2, ?_⟩ (fun c hc => ?_) (fun c hc => ?_)
      ·have := lt_of_block g3;show (w.heap.setIfInBounds b _)[b]? = _;rw [Array.getElem?_setIfInBounds_self_of_lt this]
      ·have hc' : i.a.map (·.block) = some c := hc;rw [h2] at hc';exact (Option.some.inj hc').symm
      ·have hc' : i.a.map (·.block) = some c := hc;rw [h2] at hc';exact (Option.some.inj hc').symm
     ·rw [List.mem_singleton] at hc;subst hc;exact ⟨id, by simp, _, i, hr, h1, ho1⟩
     ·rw [List.getElem?_set_ne (fun e => hq1 (by simp [e]))]
    | false =>
     have hlt : ¬ pos < s.size := fun hl => by
      have : Nat.blt pos s.size = true := by simpa [Nat.blt_eq] using hl
      rw [this] at hq; cases hq
     simp only [cond_false];intro _;have hrun : (execOp a.eval o).run P w = .ok (.value (.tuple #[.bool false])) w := by
      unfold execOp;simp only [ho, hv];simp only [Instr.next, getObj, Sem.run_bind, Sem.run, g3, Result.andThen_ok, if_neg hlt]
      rfl
     exact ⟨O, _, _, w, [], Pre.refl _, ⟨_, ⟨_, _, rfl, ⟨_, rfl, ⟨rfl, rfl⟩⟩, rfl⟩, rfl⟩, .inl rfl, hrun, hh, Ex.refl _ _, by simp, fun q _ _ => rfl, Feet.refl w⟩
   ·trivial
 ·trivial
theorem xOo (hK : KOk N D O K a) (hh : HOk S F W0 O h w) {t : TypeId} {r : Option Operand} (ho : o.op = .makeMap t r) : xEX P S F W0 O h w a o (xKY P K h t r) := by
 unfold xKY;split
 ·rename_i kt et hd;split
  ·rename_i V d hk he;have fin : (execOp a.eval o).run P w = .ok (.value (.map (some w.heap.size))) (w.alloc (.map #[] 0)) -> MemOk P S F W0 O h w a o (.c (.hv h.length)) (h ++ [.mp V (xBK d) (xBs P 20 et) []]) [] := by
    intro hrun;refine ⟨O ++ [⟨some ⟨w.heap.size, 0, none⟩, 0, none, .map (some w.heap.size)⟩], _, _, _, [], Pre.app _ _, ⟨_, xEo hh _, rfl, rfl⟩, .inl rfl, hrun, ?_, Ex.allocs _ _, by simp, fun q _ hq => List.getElem?_append_left hq, Feet.app hh.len rfl (fun _ _ h => .inr h) (fun b hb => by simp only [foot, own, Option.map_some, Option.some.injEq] at hb; omega)⟩;refine hh.add (Ex.allocs _ _) _ _ ⟨w.heap.size, #[], 0, rfl, rfl, xAq _ _, [], rfl, List.Perm.refl _, List.nodup_nil, List.nodup_nil, by simp⟩ (fun b hb => ?_);simp only [foot, own, Option.map_some, Option.some.injEq] at hb;omega
   split
   ·intro _;refine fin ?_;unfold execOp;simp only [ho];rfl
   ·rename_i x;split
    ·rename_i kk n hx;intro _;refine fin ?_;have h5 := xAH (O := O) (xAa hK hx);unfold execOp;simp only [ho, Option.map_some, h5];simp only [Instr.makeMap, Sem.run_bind, run_underlying hd, Result.andThen_ok, asInt, asIntOf, Sem.run_pure];rfl
    ·trivial
  ·trivial
 ·trivial
def reU (V : KK) {α : Type} (n : V.ty) (x : α) (e : V.ty × Nat × α) : V.ty × Nat × α := bif V.eqb n e.1 then (e.1, e.2.1, x) else e
theorem reU_no {V : KK} {α : Type} {n : V.ty} {x : α} : ∀ {us : List (V.ty × Nat × α)}, n ∉ us.map (fun e => e.1) -> us.map (reU V n x) = us
 | [], _ => rfl
 | e :: us, h => by
  simp only [List.map_cons, List.mem_cons, not_or] at h;rw [List.map_cons, reU_no h.2];have : V.eqb n e.1 = false := by
   cases hq : V.eqb n e.1 with
   | false => rfl
   | true => exact absurd ((V.eqb_iff n e.1).1 hq) h.1
  simp only [reU, this, cond_false]
theorem xUG {V : KK} {α : Type} {n : V.ty} : ∀ {us : List (V.ty × Nat × α)}, n ∉ us.map (fun e => e.1) -> us.filter (fun e => !V.eqb n e.1) = us
 | [], _ => rfl
 | e :: us, h => by
  simp only [List.map_cons, List.mem_cons, not_or] at h;have : V.eqb n e.1 = false := by
   cases hq : V.eqb n e.1 with
   | false => rfl
   | true => exact absurd ((V.eqb_iff n e.1).1 hq) h.1
  rw [List.filter_cons_of_pos (by simp [this]), xUG h.2]
theorem xOG {V : KK} {agg : Bool} {U : TC} {n : V.ty} {x : U.ty} {v : Value} (hv : DenB O agg (U.enc x) v) : ∀ {us : List (V.ty × Nat × U.ty)} {l : List MapEntry} {j : Nat}, EntOk O V agg U us l -> (us.map (fun e => e.1)).Nodup -> atU n us = some j ->
  EntOk O V agg U (us.map (reU V n x)) (l.modify j (fun e => { e with key := V.val n, val := v })) /\ EntOk O V agg U (us.filter (fun e => !V.eqb n e.1)) (l.eraseIdx j) /\ ∃ e, l[j]? = some e /\ e.key = V.val n
 | [], l, j, h, _, ha => by cases ha
 | y :: us, l, j, ⟨e, r, e1, e2, e3, e4⟩, hn, ha => by
  subst e1;rw [List.map_cons, List.nodup_cons] at hn;simp only [atU] at ha
  cases hb : V.eqb n y.1 with
  | true =>
   rw [hb] at ha;cases ha;have hnm := (V.eqb_iff n y.1).1 hb;have hno : n ∉ us.map (fun e => e.1) := by rw [hnm]; exact hn.1
   refine ⟨?_, ?_, e, rfl, by rw [e2, hnm]⟩
   ·rw [List.map_cons, reU_no hno];refine ⟨_, _, rfl, ?_, ⟨?_, ?_⟩, e4⟩
    ·simp only [reU, hb, cond_true]; rw [hnm]
    ·simp only [reU, hb, cond_true]; exact e3.1
    ·simp only [reU, hb, cond_true]; exact hv
   ·rw [List.filter_cons_of_neg (by simp [hb]), xUG hno];exact e4
  | false =>
   rw [hb] at ha;simp only [cond_false] at ha
   cases hq : atU n us with
   | none => rw [hq] at ha; cases ha
   | some i =>
    rw [hq] at ha;cases ha;obtain ⟨g1, g2, e', g3, g4⟩ := xOG hv e4 hn.2 hq;refine ⟨?_, ?_, e', by simpa using g3, g4⟩
    ·rw [List.map_cons];refine ⟨e, _, by simp, ?_, ⟨?_, ?_⟩, g1⟩
     ·simp only [reU, hb, cond_false]; exact e2
     ·simp only [reU, hb, cond_false]; exact e3.1
     ·simp only [reU, hb, cond_false]; exact e3.2
    ·rw [List.filter_cons_of_pos (by simp [hb])];exact ⟨e, _, by simp, e2, e3, g2⟩
theorem xUU {V : KK} {agg : Bool} {U : TC} {n : V.ty} {x : U.ty} {v : Value} {b : Nat} (hv : DenB O agg (U.enc x) v) : ∀ {us : List (V.ty × Nat × U.ty)} {l : List MapEntry}, EntOk O V agg U us l -> EntOk O V agg U (us ++ [(n, b, x)]) (l ++ [{ key := V.val n, val := v, born := b }])
 | [], l, h => by
  rw [show l = [] from h];exact ⟨_, [], rfl, rfl, ⟨rfl, hv⟩, rfl⟩
 | y :: us, l, ⟨e, r, e1, e2, e3, e4⟩ => by
  subst e1;exact ⟨e, _, rfl, e2, e3, xUU hv e4⟩
theorem addK_perm {V : KK} {α : Type} {n : V.ty} {x : α} : ∀ {ts : List (V.ty × α)}, (xXU V n x ts).Perm ((n, x) :: ts)
 | [] => List.Perm.refl _
 | e :: r => by
  simp only [xXU]
  cases V.ltb n e.1 with
  | true => exact List.Perm.refl _
  | false => exact (List.Perm.cons e addK_perm).trans (List.Perm.swap _ _ _)
theorem xSX {V : KK} {α : Type} {n : V.ty} {x : α} {ts : List (V.ty × α)} : (setK V n x ts).map Prod.fst = ts.map Prod.fst := by
 rw [setK, List.map_map];refine List.map_congr_left fun e _ => ?_;show (bif V.eqb n e.1 then (e.1, x) else e).1 = e.1;cases V.eqb n e.1 <;> rfl
theorem xTZ {V : KK} {agg : Bool} {U : TC} {ts : List (V.ty × U.ty)} {ents : Array MapEntry} {cl : Nat} (h : MapOk O V agg U ts ents cl) {d : TypeDesc} (hf : V.fits d = true) (n : V.ty) {x : U.ty} {v : Value} (hv : DenB O agg (U.enc x) v) :
  (∃ j v0 e, Instr.findNow d (V.val n) ents.toList 0 = some (some (j, v0)) /\ ents[j]? = some e /\ e.key = V.val n /\ MapOk O V agg U (xHh V n x ts) (ents.modify j (fun e => { e with key := V.val n, val := v })) cl) \/
  (Instr.findNow d (V.val n) ents.toList 0 = some none /\ MapOk O V agg U (xHh V n x ts) (ents.push { key := V.val n, val := v, born := cl }) (cl + 1)) := by
 obtain ⟨us, h1, h2, h3, h4, h5⟩ := h;have hks : (us.map (fun e => e.1)).Nodup := by rw [<- xDo]; exact (h2.map Prod.fst).nodup_iff.2 h3
 have hk : ∀ m, m ∈ us.map (fun e => e.1) ↔ m ∈ ts.map Prod.fst := fun m => by
  rw [<- xDo]; exact (h2.map Prod.fst).mem_iff
 have := xEQ hf n 0 h1
 cases ha : atU n us with
 | some j =>
  rw [ha] at this;obtain ⟨e, v0, g1, g2, g3, _, _⟩ := this;have hhas : hasK V n ts = true := xEM.2 ((hk n).1 (List.mem_map.2 ⟨e, List.mem_of_getElem? g1, g2⟩));obtain ⟨q1, _, e', q2, q3⟩ := xOG hv h1 hks ha;refine .inl ⟨j, v0, e', by rw [g3, Nat.zero_add], by simpa using q2, q3, us.map (reU V n x), by rw [Array.toList_modify]; exact q1, ?_, ?_, ?_, ?_⟩
  ·rw [xHh, hhas, cond_true, setK];have : strip (us.map (reU V n x)) = (strip us).map (fun e => bif V.eqb n e.1 then (e.1, x) else e) := by
    simp only [strip, List.map_map];refine List.map_congr_left fun e _ => ?_;simp only [Function.comp_apply, reU];cases V.eqb n e.1 <;> rfl
   rw [this];exact h2.map _
  ·rw [xHh, hhas, cond_true, xSX]; exact h3
  ·rw [List.map_map];have : ((fun e : V.ty × Nat × U.ty => e.2.1) ∘ reU V n x) = fun e => e.2.1 := by
    funext e;simp only [Function.comp_apply, reU];cases V.eqb n e.1 <;> rfl
   rw [this]; exact h4
  ·intro e he;obtain ⟨e0, h0, rfl⟩ := List.mem_map.1 he;have := h5 e0 h0;simp only [reU];cases V.eqb n e0.1 <;> exact this
 | none =>
  rw [ha] at this;have hhas : hasK V n ts = false := by
   cases hq : hasK V n ts with
   | false => rfl
   | true => exact absurd ((hk n).2 (xEM.1 hq)) this.2
  refine .inr ⟨this.1, us ++ [(n, cl, x)], by rw [Array.toList_push]; exact xUU hv h1, ?_, ?_, ?_, ?_⟩
  ·rw [xHh, hhas, cond_false];refine List.Perm.trans ?_ addK_perm.symm;simp only [strip, List.map_append, List.map_cons, List.map_nil];exact (List.perm_append_comm).trans (List.Perm.cons _ h2)
  ·rw [xHh, hhas, cond_false];refine ((addK_perm (V := V) (n := n) (x := x) (ts := ts)).map Prod.fst).nodup_iff.2 ?_;rw [List.map_cons, List.nodup_cons];exact ⟨fun hm => (by rw [xEM.2 hm] at hhas; cases hhas), h3⟩
  ·rw [List.map_append, List.nodup_append];refine ⟨h4, by simp, fun b hb c hc => ?_⟩;simp only [List.map_cons, List.map_nil, List.mem_singleton] at hc;obtain ⟨e, he, rfl⟩ := List.mem_map.1 hb;have := h5 e he;omega
  ·intro e he;rcases List.mem_append.1 he with he | he
   ·have := h5 e he; omega
   ·simp only [List.mem_singleton] at he; subst he; simp
theorem xT0 {V : KK} {agg : Bool} {U : TC} {ts : List (V.ty × U.ty)} {ents : Array MapEntry} {cl : Nat} (h : MapOk O V agg U ts ents cl) {d : TypeDesc} (hf : V.fits d = true) (n : V.ty) :
  (∃ j v0, Instr.findNow d (V.val n) ents.toList 0 = some (some (j, v0)) /\ MapOk O V agg U (delK V n ts) (ents.eraseIdxIfInBounds j) cl) \/
  (Instr.findNow d (V.val n) ents.toList 0 = some none /\ MapOk O V agg U (delK V n ts) ents cl) := by
 obtain ⟨us, h1, h2, h3, h4, h5⟩ := h;have hks : (us.map (fun e => e.1)).Nodup := by rw [<- xDo]; exact (h2.map Prod.fst).nodup_iff.2 h3
 have fl : strip (us.filter (fun e => !V.eqb n e.1)) = (strip us).filter (fun e => !V.eqb n e.1) := by
  simp only [strip, List.filter_map]; rfl
 have hp : (strip (us.filter (fun e => !V.eqb n e.1))).Perm (delK V n ts) := by rw [fl, delK]; exact h2.filter _
 have hn : ((delK V n ts).map Prod.fst).Nodup := ((List.filter_sublist (l := ts)).map Prod.fst).nodup h3;have hb : ((us.filter (fun e => !V.eqb n e.1)).map (fun e => e.2.1)).Nodup := ((List.filter_sublist (l := us)).map _).nodup h4;have hc : ∀ e ∈ us.filter (fun e => !V.eqb n e.1), e.2.1 < cl := fun e he => h5 e (List.mem_filter.1 he).1;have := xEQ hf n 0 h1
 cases ha : atU n us with
 | some j =>
  rw [ha] at this;obtain ⟨e, v0, g1, g2, g3, g4, _⟩ := this;obtain ⟨_, q1, _⟩ := xOG g4 h1 hks ha;exact .inl ⟨j, v0, by rw [g3, Nat.zero_add], _, by rw [Array.toList_eraseIdxIfInBounds]; exact q1, hp, hn, hb, hc⟩
 | none =>
  rw [ha] at this;have e : us.filter (fun e => !V.eqb n e.1) = us := xUG this.2;rw [e] at hp hb hc;exact .inr ⟨this.1, us, h1, hp, hn, hb, hc⟩
theorem xPW (hh : HOk S F W0 O h w) {x : CV} {v : Value} (hd : Den O x v) {M : MpV} (hM : xKV h x = some M) (hg : AllB (wrG M.pl ++ M.g)) :
  ∃ q ents cl r i, v = .map (some q) /\ w.heap[q]? = some (.map ents cl) /\ MapOk O M.V M.agg M.U M.ts ents cl /\ h[M.pl.id]? = some r /\ O[M.pl.id]? = some i /\ own i r q /\
   ∀ (ents' : Array MapEntry) (cl' : Nat) (ts' : List (M.V.ty × M.U.ty)) (h' : List Root), xTP h M.pl M.V M.agg M.U ts' = some h' -> MapOk O M.V M.agg M.U ts' ents' cl' ->
    ∃ r', h' = h.set M.pl.id r' /\ RootOk O { w with heap := w.heap.setIfInBounds q (.map ents' cl') } i r' /\ (∀ c, foot i r' c -> own i r c) /\ r'.tag = r.tag := by
 have hE : ∀ (q : Nat) (ob : Obj), Ex [q] w { w with heap := w.heap.setIfInBounds q ob } := fun q ob => ⟨rfl, rfl, rfl, by simp, fun j _ hj => Array.getElem?_setIfInBounds_ne (by simpa [eq_comm] using hj)⟩;unfold xKV at hM;split at hM
 ·rename_i id;split at hM
  ·rename_i V agg U ts hr;cases hM;obtain ⟨i, h1, h2, _⟩ := hd;obtain ⟨q, ents, cl, h3, h4, h5, h6⟩ := hh.ok id _ i hr h1;have hqlt := lt_of_block h5;refine ⟨q, ents, cl, _, i, by rw [h2, h3], h5, h6, hr, h1, by simp [own, h4], fun ents' cl2 ts' h' hp he => ?_⟩;simp only [xTP, Option.some.injEq] at hp;subst hp;exact ⟨_, rfl, ⟨q, ents', cl2, h3, h4, by simp [hqlt], he⟩, fun c hc => hc, rfl⟩
  ·cases hM
 ·rename_i t n;split at hM
  ·rename_i p t2 V agg U os hr;cases hM;obtain ⟨hn0, hgl, _⟩ := hg;have hn0 : n ≠ 0 := by intro e; subst e; cases hn0
   obtain ⟨p', hp, hrr, ht⟩ := xAA hr;rw [Nat.zero_add] at hp; subst hp;rcases hd with ⟨h0, _⟩ | ⟨m, id, i0, h1, h2, h3, q, h4⟩
   ·exact absurd h0 hn0
   ·subst h1;obtain ⟨ip, hip⟩ := hh.info hrr;have h7 := hh.cov p t _ ip hrr hip ht id i0 m _ h2 h3;obtain ⟨hA, hO⟩ := xI6 (hh.ok p _ ip hrr hip) ht;have hl : ∃ ts, os[m]? = some (some ts) := by
     simp only [xCv] at hgl;split at hgl
     ·rename_i xs hx2; exact ⟨xs, hx2⟩
     ·cases hgl
    obtain ⟨ts, hos⟩ := hl;have hrow : rowAt os (m + 1) = ts := by simp only [rowAt, hos]
    have ho : (Root.arm t2 V agg U os).obs[m]? = some (.mp V agg U ts) := by
     simp only [Root.obs, List.getElem?_map, hos, Option.map_some]
    obtain ⟨q', ents, cl, g1, g2, g3⟩ := hA.2.1 m _ _ h7 ho;rw [h4] at g1;cases g1;have hqlt := lt_of_block g2;have hob : xDg v (.mp V agg U ts) q := by show xHN v = some q; rw [h4]; rfl
    refine ⟨q, ents, cl, _, ip, h4, g2, ?_, hrr, hip, hO q ⟨m, _, _, h7, ho, hob⟩, fun ents' cl2 ts' h' hp2 he2 => ?_⟩
    ·show MapOk O V agg U (rowAt os (m + 1)) ents cl;rw [hrow]; exact g3
    ·dsimp only at ts' he2 hp2;simp only [xTP, hrr] at hp2;split at hp2
     ·rename_i e1;split at hp2
      ·rename_i e;simp only [Option.some.injEq] at hp2;subst hp2;cases ht;have hset : (Root.arm t V agg U (xBh os (m + 1) ts')).obs = (Root.arm t V agg U os).obs.set m (.mp V agg U ts') := by
        simp only [Root.obs, xBh, Nat.add_sub_cancel, List.map_set]
       refine ⟨_, rfl, ?_, fun c hc => ?_, rfl⟩
       ·show ArOk O _ (ip.objs t) (Root.arm t V agg U (xBh os (m + 1) ts')).obs;rw [hset];exact ArOk.upd (o' := .mp V agg U ts') hA h7 ho (b := q) hob (hE q _) ⟨q, ents', cl2, h4, by simp [hqlt], he2⟩ (Root.obs_rr (by intros; exact fun e => by cases e))
       ·have : xCs (ip.objs t) (Root.arm t V agg U (xBh os (m + 1) ts')).obs c := hc;rw [hset] at this;exact hO c (xI7 h7 ho (b := q) hob this)
      ·cases hp2
     ·cases hp2
  ·cases hM
 ·cases hM
theorem xKW (hh : HOk S F W0 O h w) {p q cl' : Nat} {r r' : Root} {i : Info} {ents : Array MapEntry} {cl : Nat} {ents' : Array MapEntry} {v : PV} {u : Value} {nx : Next} (hr : h[p]? = some r) (h1 : O[p]? = some i) (h5 : w.heap[q]? = some (.map ents cl)) (hown : own i r q)
  (hr' : RootOk O { w with heap := w.heap.setIfInBounds q (.map ents' cl') } i r') (hf : ∀ c, foot i r' c -> own i r c) (htg : r'.tag = r.tag) (hd : DenP O v u) (hnx : nx = .value u \/ (nx = .skip /\ u = undef)) (hrun : (execOp a.eval o).run P w = .ok nx { w with heap := w.heap.setIfInBounds q (.map ents' cl') }) : MemOk P S F W0 O h w a o v (h.set p r') [p] := by
 have hE : Ex [q] w { w with heap := w.heap.setIfInBounds q (.map ents' cl') } := ⟨rfl, rfl, rfl, by simp, fun j _ hj => Array.getElem?_setIfInBounds_ne (by simpa [eq_comm] using hj)⟩;refine ⟨O, u, nx, _, [q], Pre.refl _, hd, hnx, hrun, hh.setg hr h1 hown hE _ hr' hf htg, hE, fun c hc => ?_, fun q' hq _ => List.getElem?_set_ne (by simpa [eq_comm] using hq), Feet.set hr h1 (fun c hc => xAm (hf c hc))⟩;rw [List.mem_singleton] at hc;subst hc;exact ⟨p, by simp, r, i, hr, h1, hown⟩
theorem valT_ok {agg : Bool} {U : TC} {p : PV} {v : Value} {z : U.ty} (hd : DenP O p v) (hc : valT agg U p = some z) : DenB O agg (U.enc z) v := by
 cases p with
 | c y =>
  simp only [valT] at hc
  cases agg with
  | true => cases hc
  | false =>
   have h1 := TC.dec1_enc hc;rw [<- h1];have h2 := xBi (ls := U.leaves) (O := O) (cs := [y]) (vs := [v]) ⟨v, [], rfl, hd, rfl⟩;have hl : (xD9 U.leaves [y]).length = 1 := by rw [<- h2.len]; rfl
   match hq : xD9 U.leaves [y], h2, hl with
   | [c'], ⟨u, r, e, h6, h7⟩, _ =>
    cases e;exact ⟨c', rfl, h6⟩
 | ag m =>
  simp only [valT] at hc
  cases agg with
  | false => cases hc
  | true =>
   have h1 := TC.dec1_enc hc;rw [<- h1];obtain ⟨vs, h2, h3⟩ := hd;exact ⟨vs, xBi h2, h3⟩
 | tu m => cases hc
 | un => cases hc
theorem xTS {g : List Bool} {v : PV} {t : List Nat} {e : Option (List Root)} (f : ∀ h', e = some h' -> AllB g -> MemOk P S F W0 O h w a o v h' t) : xEX P S F W0 O h w a o (memS g v t e) := by
 cases e with
 | none => trivial
 | some h' => exact f h' rfl
theorem xD0 {kt : TypeId} {d : TypeDesc} {k : Value} {l : List MapEntry} {rr : Option (Nat × Value)} (hk : P.underlying kt = some d) (h : Instr.findNow d k l 0 = some rr) (w : World) : (Instr.findKey kt k l).run P w = .ok rr w := by
 unfold Instr.findKey;simp only [Sem.run_bind, run_underlying hk, Result.andThen_ok, h, Sem.run_pure]
theorem xXh {V : KK} {n : V.ty} (w : World) : (Instr.keyThatStays (V.val n) (V.val n)).run P w = .ok (V.val n) w := by
 unfold Instr.keyThatStays;rw [if_pos (by cases V <;> simp [Instr.sameBits, KK.val, xVr])];rfl
theorem xJP (hK : KOk N D O K a) (hh : HOk S F W0 O h w) {t : TypeId} {m x y : Operand} (ho : o.op = .mapUpdate t m x y \/ o.op = .insert t m x y) : xEX P S F W0 O h w a o (xKX P K h t m x y) := by
 have exec : ∀ {w' : World}, (Instr.mapUpdate t (a.eval m) (a.eval x) (a.eval y)).run P w = .ok () w' -> (execOp a.eval o).run P w = .ok .skip w' := by
  intro w' hr;unfold execOp;rcases ho with ho | ho
  ·simp only [ho]; simp only [Sem.run_bind, hr, Result.andThen_ok, Sem.run_pure]
  ·simp only [ho]; simp only [Sem.run_bind, hr, Result.andThen_ok, Sem.run_pure]
 unfold xKX;split
 ·rename_i kt et c kv pv hd hm hx hy;split
  ·rename_i d g pl V agg U ts hk hM
   cases hfit : V.fits d with
   | false => trivial
   | true =>
    simp only [cond_true];split
    ·rename_i n z hn hz;refine xTS fun h' hput hg => ?_;obtain ⟨q, ents, cl, r, i, h2, h5, h6, hr, h1, hown, hall⟩ := xPW hh (x := c) (v := a.eval m) (xAa hK hm) hM hg;dsimp only at h5 h6 hr h1 hall;have h7 : a.eval x = V.val n := by
      have := xK5 hn;subst this;exact (xAa hK hx).1
     have hval := valT_ok (xAa hK hy) hz;have hget : (getObj q).run P w = .ok (.map ents cl) w := by simp only [getObj, Sem.run, h5]
     have hset : ∀ ob : Obj, (setObj q ob).run P w = .ok () { w with heap := w.heap.setIfInBounds q ob } := fun ob => by simp only [setObj, Sem.run, h5]
     rcases xTZ h6 hfit n hval with ⟨j, v0, e, g1, hej, g3, hent⟩ | ⟨g1, hent⟩
     ·obtain ⟨r', e1, e2, e3, e4⟩ := hall _ cl _ h' hput hent;subst e1;refine xKW hh hr h1 h5 hown e2 e3 e4 (v := .un) (u := undef) rfl (.inr ⟨rfl, rfl⟩) (exec ?_);rw [h2, h7];have hks' := xXh (P := P) (V := V) (n := n) w;simp only [Instr.mapUpdate, Sem.run_bind, run_underlying hd, Result.andThen_ok, hget, xBq hk hfit, xD0 hk g1, hej, Option.map_some, Option.getD_some, g3, hks', hset]
     ·obtain ⟨r', e1, e2, e3, e4⟩ := hall _ (cl + 1) _ h' hput hent;subst e1;refine xKW hh hr h1 h5 hown e2 e3 e4 (v := .un) (u := undef) rfl (.inr ⟨rfl, rfl⟩) (exec ?_);rw [h2, h7];simp only [Instr.mapUpdate, Sem.run_bind, run_underlying hd, Result.andThen_ok, hget, xBq hk hfit, xD0 hk g1, hset]
    ·trivial
  ·trivial
 ·trivial
theorem xRt (hK : KOk N D O K a) (hh : HOk S F W0 O h w) {t : TypeId} {ts : List TypeId} {m x : Operand} (ho : o.op = .call ⟨.builtin .delete, ⟨[m, x]⟩, ⟨t :: ts⟩⟩) : xEX P S F W0 O h w a o (xOn P K h t m x) := by
 unfold xOn;split
 ·rename_i kt et c kv hd hm hx;split
  ·rename_i d g pl V agg U es hk hM
   cases hfit : V.fits d with
   | false => trivial
   | true =>
    simp only [cond_true];split
    ·rename_i n hn;refine xTS fun h' hput hg => ?_;obtain ⟨q, ents, cl, r, i, h2, h5, h6, hr, h1, hown, hall⟩ := xPW hh (x := c) (v := a.eval m) (xAa hK hm) hM hg;dsimp only at h5 h6 hr h1 hall;have h7 : a.eval x = V.val n := by
      have := xK5 hn;subst this;exact (xAa hK hx).1
     have hget : (getObj q).run P w = .ok (.map ents cl) w := by simp only [getObj, Sem.run, h5]
     have hset : ∀ ob : Obj, (setObj q ob).run P w = .ok () { w with heap := w.heap.setIfInBounds q ob } := fun ob => by simp only [setObj, Sem.run, h5]
     have exec : ∀ {ents' : Array MapEntry}, (Builtin.delete_ ⟨t :: ts⟩ o.type #[.map (some q), V.val n]).run P w = .ok (.tuple #[]) { w with heap := w.heap.setIfInBounds q (.map ents' cl) } -> (execOp a.eval o).run P w = .ok (.value (.tuple #[])) { w with heap := w.heap.setIfInBounds q (.map ents' cl) } := by
      intro ents' hr;unfold execOp;simp only [ho];simp [resolve, invoke, builtin, Sem.run_bind, h2, h7, hr, Result.andThen]
     rcases xT0 h6 hfit n with ⟨j, v0, g1, hent⟩ | ⟨g1, hent⟩
     ·obtain ⟨r', e1, e2, e3, e4⟩ := hall _ cl _ h' hput hent;subst e1;refine xKW hh hr h1 h5 hown e2 e3 e4 (v := .tu []) (u := .tuple #[]) ⟨[], rfl, rfl⟩ (.inl rfl) (exec ?_);simp [Builtin.delete_, Sem.run_bind, run_underlying hd, Result.andThen_ok, hget, xBq hk hfit, xD0 hk g1, hset]
     ·obtain ⟨r', e1, e2, e3, e4⟩ := hall _ cl _ h' hput hent;subst e1;refine xKW hh hr h1 h5 hown e2 e3 e4 (v := .tu []) (u := .tuple #[]) ⟨[], rfl, rfl⟩ (.inl rfl) (exec ?_);simp [Builtin.delete_, Sem.run_bind, run_underlying hd, Result.andThen_ok, hget, xBq hk hfit, xD0 hk g1, hset]
    ·trivial
  ·trivial
 ·trivial
theorem xRc (hK : KOk N D O K a) (hh : HOk S F W0 O h w) {t : TypeId} {x lo hi mx : Operand} (ho : o.op = .slice t x (some lo) (some hi) (some mx)) : xEX P S F W0 O h w a o (xNY P K h t x lo hi mx) := by
 unfold xNY;split
 ·rename_i e id k off n c hd hx;split
  ·rename_i inf n0 hi' hn0;split
   ·rename_i k1 l k2 u k3 m hl hu hm;intro hg;obtain ⟨hg1, hg2, hg3, _⟩ := hg;obtain ⟨i', a', c', nn, h1, h2, h3, _, _, hc, _⟩ := xAa hK hx;have hnn := xGs hh h1 hc hn0;subst hnn;obtain ⟨hm0, hm1⟩ := xC9 hg1;obtain ⟨hu0, hu1⟩ := xC9 hg2;obtain ⟨hl0, hl1⟩ := xC9 hg3;have e1 := xAH (O := O) (xAa hK hl);have e2 := xAH (O := O) (xAa hK hu);have e3 := xAH (O := O) (xAa hK hm);refine ⟨O ++ [⟨none, 0, none, .slice (if m.toNat = l.toNat then a' else a'.map (·.add (l.toNat * inf.size))) (u.toNat - l.toNat) (m.toNat - l.toNat)⟩], _, _, w, [], Pre.app _ _, ⟨_, xEo hh _, rfl, rfl⟩, .inl rfl, ?_, ?_, Ex.refl _ _, by simp, fun q _ hq => List.getElem?_append_left hq, Feet.app hh.len rfl (fun _ _ h => .inr h) (fun b hb => by cases hb)⟩
    ·unfold execOp;simp only [ho, Option.map_some, h2, e1, e2, e3];have s1 : ∀ c w, (Instr.sliceBound (.int k3 m) c' c).run P w = .ok m.toNat w := fun c w => by
      simp [Instr.sliceBound, asIntOf, Sem.run_bind, Result.andThen, show 0 <= m /\ m <= (c' : Int) from ⟨hm0, by omega⟩]
     have s2 : ∀ c w, (Instr.sliceBound (.int k2 u) m.toNat c).run P w = .ok u.toNat w := fun c w => by
      unfold Instr.sliceBound;simp only [asIntOf, Sem.run_bind, Sem.run_pure, Result.andThen_ok];rw [if_pos ⟨hu0, by omega⟩]; rfl
     have s3 : ∀ c w, (Instr.sliceBound (.int k1 l) u.toNat c).run P w = .ok l.toNat w := fun c w => by
      unfold Instr.sliceBound;simp only [asIntOf, Sem.run_bind, Sem.run_pure, Result.andThen_ok];rw [if_pos ⟨hl0, by omega⟩]; rfl
     simp [s1, s2, s3, Instr.sliceAt, Instr.slice, Instr.sliceBounds, Sem.run_bind, run_underlying hd, Result.andThen, xAh hi']
    ·exact hh.add (Ex.refl _ _) _ _ trivial (fun b hb => by cases hb)
   ·trivial
  ·trivial
 ·trivial
theorem xJe (z : Array Value) (n : Nat) : Builtin.zeroCells z n = madeCells z (n * z.size) := rfl
theorem xRh {t ty e : TypeId} (hd : P.underlying t = some (.slice e)) (a' : Option Addr) (c' : Nat) : (Builtin.clear_ #[t] ty #[.slice a' 0 c']).run P w = .ok (.tuple #[]) w := by
 have hu := run_underlying (P := P) (w := w) hd
 cases a' with
 | none => show ((underlying t).bind _).run P w = _; rw [Sem.run_bind', hu]; rfl
 | some b => show ((underlying t).bind _).run P w = _; rw [Sem.run_bind', hu]; rfl
theorem xRg {t ty e : TypeId} {zv : Value} (hd : P.underlying t = some (.slice e)) (hz : (zeroValue e).run P w = .ok zv w) (b : Addr) (n c' : Nat) {w' : World} (hst : (storeCells b (Builtin.zeroCells zv.cells (n + 1)).toList).run P w = .ok () w') : (Builtin.clear_ #[t] ty #[.slice (some b) (n + 1) c']).run P w = .ok (.tuple #[]) w' := by
 have hu := run_underlying (P := P) (w := w) hd;show ((underlying t).bind _).run P w = _;rw [Sem.run_bind', hu];show ((zeroValue e).bind fun z => (storeCells b (Builtin.zeroCells z.cells (n + 1)).toList).bind fun _ => Sem.pure (Value.tuple #[])).run P w = _;rw [Sem.run_bind', hz];show ((storeCells b (Builtin.zeroCells zv.cells (n + 1)).toList).bind fun _ => Sem.pure (Value.tuple #[])).run P w = _;rw [Sem.run_bind', hst];rfl
theorem xVb (hK : KOk N D O K a) (hh : HOk S F W0 O h w) {t : TypeId} {x : Operand} (ho : o.op = .call ⟨.builtin .clear, ⟨[x]⟩, ⟨[t]⟩⟩) : xEX P S F W0 O h w a o (xVc P K h t x) := by
 have exec : ∀ {v : Value} {w' : World}, (Builtin.clear_ #[t] o.type #[a.eval x]).run P w = .ok v w' -> (execOp a.eval o).run P w = .ok (.value v) w' := by
  intro v w' hr;unfold execOp;simp only [ho];simp [resolve, invoke, builtin, Sem.run_bind, hr, Result.andThen]
 unfold xVc;split
 ·rename_i e hd;split
  ·rename_i inf z hi hz;obtain ⟨zv, hzv, hzd⟩ := xCB (O := O) hz hi;split
   ·rename_i id k off n hx;split
    ·rename_i T U xs hr
     cases hc1 : (Nat.beq z.length inf.size && Nat.beq k U.w && Nat.beq inf.size U.w) with
     | false => trivial
     | true =>
      simp only [Bool.and_eq_true] at hc1;obtain ⟨⟨hc0, hc3⟩, hc4⟩ := hc1;have hzs : zv.cells.size = inf.size := by
       have h1 := hzd.len;have h2 := nbT hc0;simp at h1; omega
      have hkw := nbT hc3;have hsz := nbT hc4;subst hkw;simp only [cond_true];split
      ·rename_i z0 hz0;intro hgd;have hb' := Nat.le_of_ble_eq_true hgd.1;have hz0e := TC.dec1_enc hz0;obtain ⟨i, a', c', nn, h1, h2, h3, h4, h5, h6, ⟨m0, h7, h8⟩, h9, h9', h10, h11⟩ := xAa hK hx;obtain ⟨g0, g1, vs, g2, g3⟩ := hh.ok id _ i hr h1;rw [g0] at h7; cases h7;simp only [Info.cnt] at h6;subst h6;have hnewlen : (xs.take off ++ List.replicate nn z0 ++ xs.drop (off + nn)).length = xs.length := by
        rw [List.length_append, List.length_append, List.length_take, List.length_drop, List.length_replicate]; omega
       have hzero : (zeroValue e).run P w = .ok zv w := by simp [zeroValue, typeInfo, hi, hzv, Sem.run_bind, Result.andThen]
       rcases Nat.eq_zero_or_pos nn with hm | hm
       ·subst hm;have e1 : xs.take off ++ List.replicate 0 z0 ++ xs.drop (off + 0) = xs := by simp
        refine ⟨O, .tuple #[], _, w, [], Pre.refl _, ⟨[], rfl, rfl⟩, .inl rfl, exec ?_, ?_, Ex.refl _ _, by simp, fun q hq _ => List.getElem?_set_ne (by simpa [eq_comm] using hq), ?_⟩
        ·rw [h2];exact xRh hd _ _
        ·rw [e1, xEB hr]; exact hh
        ·rw [e1, xEB hr]; exact Feet.refl w
       ·rcases g3.2.2.2 with ⟨k1, _⟩ | ⟨g, og, cur, k1, k2, k3, k4⟩
        ·have := g3.2.1; omega
        ·have hcap := g3.2.1;have ha' : a' = some ⟨g, og + off * U.w, none⟩ := by rw [h11 (by omega), k1, Option.map_some, Addr.add_lit]
         subst ha';have hxw : xs.length * U.w <= i.cap * U.w := Nat.mul_le_mul_right _ hcap;have hall : (off + nn) * U.w <= xs.length * U.w := Nat.mul_le_mul_right _ hb';have hsplit : (off + nn) * U.w = off * U.w + nn * U.w := Nat.add_mul _ _ _;have hus : DenL O (flat U (List.replicate nn z0)) (madeCells zv.cells (nn * zv.cells.size)).toList := by
          rw [xBt, xHE, <- hz0e];exact xGh (xBi hzd) _
         have hul : (madeCells zv.cells (nn * zv.cells.size)).toList.length = nn * U.w := by rw [Array.length_toList, size_madeCells, hzs, hsz]
         generalize hU : (madeCells zv.cells (nn * zv.cells.size)).toList = us at *;have hst := run_storeCells_at P g (og + off * U.w) T us 0 cur w k2 (by rw [hul]; omega) hus.ones;simp only [Nat.add_zero] at hst;have hown0 : own i (.rows T U xs) g := by simp [own, k1]
         refine ⟨O, .tuple #[], _, _, [g], Pre.refl _, ⟨[], rfl, rfl⟩, .inl rfl, exec ?_, ?_, Ex.setRow w g (cur.toList.take (og + off * U.w) ++ us ++ cur.toList.drop (og + off * U.w + us.length)).toArray, fun b hb => ?_, fun q hq _ => List.getElem?_set_ne (by simpa [eq_comm] using hq), Feet.set hr h1 (fun b hb => by simpa [foot, own] using hb)⟩
         ·rw [h2];obtain ⟨n', rfl⟩ : ∃ n', nn = n' + 1 := ⟨nn - 1, by omega⟩;exact xRg hd hzero _ _ _ (by rw [xJe, hU]; exact hst)
         ·refine hh.setr hr h1 hown0 (Ex.setRow w g _) _ ⟨by rw [g0, hnewlen], g1, vs.take (off * U.w) ++ us ++ vs.drop (off * U.w + us.length), ?_, ?_⟩ (fun c hc => by simpa [foot, own, k1, eq_comm] using hc) (fun c hc => by simpa [own, k1, eq_comm] using hc)
          ·rw [xDZ, xDZ, xDy, xDz];refine DenL.app (DenL.app (g2.take _) hus) ?_;rw [hul, <- Nat.add_mul];exact g2.drop _
          ·rw [hnewlen];refine ⟨?_, hcap, g3.2.2.1, .inr ⟨g, og, _, k1, setRow_heap _ _ _ _ _ _ k2, ?_, ?_⟩⟩
           ·rw [List.length_append, List.length_append, List.length_take, List.length_drop, g3.1, hul]; omega
           ·simp only [List.size_toArray, List.length_append, List.length_take, List.length_drop, Array.length_toList];rw [hul]; omega
           ·have hpl := xEF cur.toList us og (off * U.w) (xs.length * U.w) (by rw [hul, <- Nat.add_mul]; exact hall) (by simp only [Array.length_toList]; omega);rw [k4] at hpl;rw [<- hpl]
         ·rw [List.mem_singleton] at hb;subst hb;exact ⟨id, by simp, _, i, hr, h1, hown0⟩
      ·trivial
    ·trivial
   ·trivial
  ·trivial
 ·trivial
theorem xXD (hK : KOk N D O K a) (hh : HOk S F W0 O h w) {t t' : TypeId} {x y : Operand} (ho : o.op = .call ⟨.builtin .copy, ⟨[x, y]⟩, ⟨[t, t']⟩⟩) : xEX P S F W0 O h w a o (copyP P K h t x y) := by
 have exec : ∀ {v : Value} {w' : World}, (Builtin.copy_ #[t, t'] o.type #[a.eval x, a.eval y]).run P w = .ok v w' -> (execOp a.eval o).run P w = .ok (.value v) w' := by
  intro v w' hr;unfold execOp;simp only [ho];simp [resolve, invoke, builtin, Sem.run_bind, hr, Result.andThen]
 unfold copyP;split
 ·rename_i e hd;split
  ·rename_i inf q hi hy;split
   ·rename_i id k off n hx;split
    ·rename_i T U xs hr
     cases hc1 : (Nat.beq k U.w && Nat.beq inf.size U.w && Nat.beq inf.size 1) with
     | false => trivial
     | true =>
      simp only [Bool.and_eq_true] at hc1;obtain ⟨⟨hc3, hc4⟩, hc5⟩ := hc1;have hkw := nbT hc3;have hsz := nbT hc4;have hs1 := nbT hc5;have hw1 : U.w = 1 := by omega
      subst hkw;simp only [cond_true];split
      ·rename_i ys hys;intro _;obtain ⟨i, a', c', nn, h1, h2, h3, h4, h5, h6, ⟨m0, h7, h8⟩, h9, h9', h10, h11⟩ := xAa hK hx;obtain ⟨g0, g1, vs, g2, g3⟩ := hh.ok id _ i hr h1;rw [g0] at h7; cases h7;have hdl : xQz xs.length off n = nn := by
        cases n with
        | none =>
         obtain ⟨m1, e1, e2⟩ := h6;rw [g0] at e1; cases e1;exact e2.symm
        | some n0 =>
         simp only [Info.cnt] at h6;exact h6.symm
       rw [hdl];obtain ⟨a2, c2, us0, s1, s2, s3⟩ := xKy hh (xAa hK hy) hys;have hinf : (P.info? e).map (·.size) = some 1 := by rw [hi, Option.map_some, hs1]
       have hzl : (ys.take nn).length = Nat.min ys.length nn := by rw [List.length_take]; exact Nat.min_comm _ _
       have hus : DenL O (flat U (ys.take nn)) (us0.take (nn * U.w)) := by rw [xDy]; exact s2.take _
       have hul : (us0.take (nn * U.w)).length = (ys.take nn).length * U.w := by rw [hus.len, xDa]
       have hsrc : ∀ (j : Nat) (v : Value), (us0.take (nn * U.w))[j]? = some v -> us0[j]? = some v := fun j v hv => by
        rw [List.getElem?_take] at hv;split at hv
        ·exact hv
        ·cases hv
       generalize hZ : ys.take nn = zs at *;generalize hU : us0.take (nn * U.w) = us at *;have hzn : zs.length <= nn := by rw [hzl]; exact Nat.min_le_right _ _
       have hnewlen : (xs.take off ++ zs ++ xs.drop (off + zs.length)).length = xs.length := by
        rw [List.length_append, List.length_append, List.length_take, List.length_drop]; omega
       rcases Nat.eq_zero_or_pos zs.length with hm | hm
       ·have hz0 : zs = [] := List.length_eq_zero_iff.1 hm;have e1 : xs.take off ++ zs ++ xs.drop (off + zs.length) = xs := by rw [hz0]; simp
        refine ⟨O, goInt 0, _, w, [], Pre.refl _, ?_, .inl rfl, exec ?_, ?_, Ex.refl _ _, by simp, fun q hq _ => List.getElem?_set_ne (by simpa [eq_comm] using hq), ?_⟩
        ·rw [hm]; exact ⟨rfl, rfl⟩
        ·rw [h2, s1];exact run_copy_none w t t' o.type e a' a2 nn c' ys.length c2 hd hinf (by rw [<- hzl]; exact hm)
        ·rw [e1, xEB hr]; exact hh
        ·rw [e1, xEB hr]; exact Feet.refl w
       ·rcases g3.2.2.2 with ⟨k1, _⟩ | ⟨g, og, cur, k1, k2, k3, k4⟩
        ·have := g3.2.1; omega
        ·have hcap := g3.2.1;have ha' : a' = some ⟨g, og + off * U.w, none⟩ := by rw [h11 (by omega), k1, Option.map_some, Addr.add_lit]
         subst ha';have hyp : 0 < ys.length := by
          have h12 : zs.length <= ys.length := by rw [hzl]; exact Nat.min_le_left _ _
          omega
         obtain ⟨b2, o2, s4, s5⟩ := s3 hyp;subst s4;have hxw : xs.length * U.w <= i.cap * U.w := Nat.mul_le_mul_right _ hcap;have hall : (off + zs.length) * U.w <= xs.length * U.w := Nat.mul_le_mul_right _ (by omega);have hsplit : (off + zs.length) * U.w = off * U.w + zs.length * U.w := Nat.add_mul _ _ _;have hul1 : us.length = Nat.min ys.length nn := by rw [hul, hw1, Nat.mul_one, hzl]
         have hrun := run_copy_row (P := P) w t t' o.type e g (og + off * U.w) nn c' ⟨b2, o2, none⟩ ys.length c2 cur T us hd hinf k2 hul1 (fun j v hv => by rw [Addr.add_lit]; exact s5 j v (hsrc j v hv)) (by rw [hul]; omega) hus.ones;have hown0 : own i (.rows T U xs) g := by simp [own, k1]
         refine ⟨O, goInt us.length, _, _, [g], Pre.refl _, ?_, .inl rfl, exec ?_, ?_, Ex.setRow w g (cur.toList.take (og + off * U.w) ++ us ++ cur.toList.drop (og + off * U.w + us.length)).toArray, fun b hb => ?_, fun q hq _ => List.getElem?_set_ne (by simpa [eq_comm] using hq), Feet.set hr h1 (fun b hb => by simpa [foot, own] using hb)⟩
         ·rw [hul, hw1, Nat.mul_one]; exact ⟨rfl, rfl⟩
         ·rw [h2, s1]; exact hrun
         ·refine hh.setr hr h1 hown0 (Ex.setRow w g _) _ ⟨by rw [g0, hnewlen], g1, vs.take (off * U.w) ++ us ++ vs.drop (off * U.w + us.length), ?_, ?_⟩ (fun c hc => by simpa [foot, own, k1, eq_comm] using hc) (fun c hc => by simpa [own, k1, eq_comm] using hc)
          ·rw [xDZ, xDZ, xDy, xDz];refine DenL.app (DenL.app (g2.take _) hus) ?_;rw [hul, <- Nat.add_mul];exact g2.drop _
          ·rw [hnewlen];refine ⟨?_, hcap, g3.2.2.1, .inr ⟨g, og, _, k1, setRow_heap _ _ _ _ _ _ k2, ?_, ?_⟩⟩
           ·rw [List.length_append, List.length_append, List.length_take, List.length_drop, g3.1, hul]; omega
           ·simp only [List.size_toArray, List.length_append, List.length_take, List.length_drop, Array.length_toList];rw [hul]; omega
           ·have hpl := xEF cur.toList us og (off * U.w) (xs.length * U.w) (by rw [hul, <- Nat.add_mul]; exact hall) (by simp only [Array.length_toList]; omega);rw [k4] at hpl;rw [<- hpl]
         ·rw [List.mem_singleton] at hb;subst hb;exact ⟨id, by simp, _, i, hr, h1, hown0⟩
      ·trivial
    ·trivial
   ·trivial
  ·trivial
 ·trivial
theorem xL3 (hK : KOk N D O K a) (hh : HOk S F W0 O h w) : xEX P S F W0 O h w a o (xCO P K h o) := by
 unfold xCO;split
 ·rename_i T ho;split
  ·rename_i cs hz;obtain ⟨v, h1, h2⟩ := xHl (O := O) hz;intro _;refine xTN hh (arr := v.cells) h1 ?_;unfold execOp;simp only [ho];simp only [Instr.alloc, Sem.run_bind, h2 w, Result.andThen_ok, Sem.run_pure];rfl
  ·trivial
 ·rename_i T x ho;split
  ·rename_i cs hx;obtain ⟨p, h1, h2⟩ := Option.bind_eq_some_iff.1 hx;intro _;refine xTN hh (arr := (a.eval x).cells) (xF2 (xAa hK h1) h2) ?_;unfold execOp;simp only [ho];rfl
  ·trivial
 ·rename_i t x y ho;split
  ·rename_i id k row j cs inf hx hy hi
   cases hb : Nat.beq cs.length inf.size with
   | false => trivial
   | true =>
    have hb' := nbT hb;simp only [cond_true];split
    ·rename_i r hr;split
     ·rename_i r' hset;obtain ⟨p, h1, h2⟩ := Option.bind_eq_some_iff.1 hy;have hcs := xF2 (xAa hK h1) h2;obtain ⟨i, b, off, h3, h4, h5, h6⟩ := xAa hK hx;obtain ⟨w', q1, q2, q3, q4, q5, q6, q7⟩ := xRi (P := P) (hh.ok id r i hr h3) hset h5 h4 hcs;intro _;refine ⟨O, undef, .skip, w', [b], Pre.refl _, rfl, .inr ⟨rfl, rfl⟩, ?_, hh.setr hr h3 q4 q2 r' q3 q5 q6 q7, q2, fun c hc => ?_, fun q hq _ => List.getElem?_set_ne (by simpa [eq_comm] using hq), Feet.set hr h3 (fun c hc => by rw [q5 c hc]; exact xAm q4)⟩
      ·have hsz : (a.eval y).cells.size = inf.size := by
        have := hcs.len;simp at this; omega
       unfold execOp;simp only [ho, h6];simp only [Instr.storeAt, Instr.sureAddr, storeVar, Sem.run_bind, Sem.run_pure, Result.andThen_ok, xAh hi, hsz, ne_eq, not_true_eq_false, if_false, q1]
      ·rw [List.mem_singleton] at hc;subst hc;exact ⟨id, by simp, r, i, hr, h3, q4⟩
     ·trivial
    ·trivial
  ·rename_i c cs inf _ hx hy hi
   cases hb : Nat.beq cs.length inf.size with
   | false => trivial
   | true =>
    have hb' := nbT hb;simp only [cond_true];split
    ·rename_i t' n k row j hc;split
     ·rename_i p r hr;split
      ·rename_i g r' hset;intro hgg;obtain ⟨pv, h1, h2⟩ := Option.bind_eq_some_iff.1 hy;have hcs := xF2 (xAa hK h1) h2;obtain ⟨p', hp, hrr, ht⟩ := xAA hr;rw [Nat.zero_add] at hp; subst hp;have hn : n ≠ 0 := fun e => by
        subst e
        cases r with
        | ars t2 T U os =>
         simp only [xRU] at hset
         cases hk : Nat.beq k U.w with
         | false => rw [hk] at hset; cases hset
         | true =>
          rw [hk] at hset; simp only [cond_true] at hset;split at hset
          ·split at hset
           ·cases hset; have := of_decide_eq_true hgg.1; simp [rowAt] at this
           ·cases hset
          ·cases hset
        | aro t2 T U os =>
         simp only [xRU] at hset
         cases hk : Nat.beq row 0 with
         | false => rw [hk] at hset; cases hset
         | true =>
          rw [hk] at hset; simp only [cond_true] at hset;split at hset
          ·split at hset
           ·cases hset; obtain ⟨m, hm, _⟩ := xQf hgg.1; omega
           ·cases hset
          ·cases hset
        | _ => cases hset
       obtain ⟨m, id, i0, u, b, off, len, g1, g2, g3, g4, g5, g6⟩ := xS4 (xAa hK hx) hc hn;obtain ⟨i, hi2⟩ := hh.info hrr;have h7 := hh.cov p t' r i hrr hi2 ht id i0 m u g2 g3;obtain ⟨w', q1, q2, q3, q4, q5, q7⟩ := xXP (P := P) (hh.ok p r i hrr hi2) ht hset hgg.1 g1 h7 g4 g5 hcs;refine ⟨O, undef, .skip, w', [b], Pre.refl _, rfl, .inr ⟨rfl, rfl⟩, ?_, hh.setg hrr hi2 q4 q2 r' q3 q5 q7, q2, fun c hc => ?_, fun q hq _ => List.getElem?_set_ne (by simpa [eq_comm] using hq), Feet.set hrr hi2 (fun c hc => xAm (q5 c hc))⟩
       ·have hsz : (a.eval y).cells.size = inf.size := by
         have := hcs.len;simp at this; omega
        unfold execOp;simp only [ho, g6];simp only [Instr.storeAt, Instr.sureAddr, storeVar, Sem.run_bind, Sem.run_pure, Result.andThen_ok, xAh hi, hsz, ne_eq, not_true_eq_false, if_false, q1]
       ·rw [List.mem_singleton] at hc;subst hc;exact ⟨p, by simp, r, i, hrr, hi2, q4⟩
      ·trivial
     ·trivial
    ·trivial
  ·trivial
 ·rename_i f fs cs ho;split
  ·rename_i x y hx hy;intro _;refine ⟨O ++ [⟨none, 0, none, .func (.func f) (fs.map a.eval).toArray (cs.map a.eval).toArray⟩], _, _, w, [], Pre.app _ _, ⟨_, xEo hh _, rfl, rfl⟩, .inl rfl, ?_, ?_, Ex.refl _ _, by simp, fun q _ hq => List.getElem?_append_left hq, Feet.app hh.len rfl (fun _ _ h => .inr h) (fun b hb => by cases hb)⟩
   ·unfold execOp;simp only [ho];simp [Instr.makeFunc, Sem.run_bind, Result.andThen]
   ·exact hh.add (Ex.refl _ _) _ _ ⟨_, _, (xLy hK hx).mono (Pre.app _ _), (xLy hK hy).mono (Pre.app _ _), rfl⟩ (fun b hb => by cases hb)
  ·trivial
 ·rename_i t n parts ho; exact xJj hK hh ho
 ·rename_i t l c ho; exact xW5 hK hh ho
 ·rename_i s x t t' ho
  cases hb : Nat.beq t t' with
  | false => trivial
  | true =>
   have := nbT hb;subst this;exact xRW hK hh ho
 ·rename_i f args ts ho; exact xXK hK hh ho
 ·rename_i t r ho; exact xOo hK hh ho
 ·rename_i t x ho; exact xTg hK hh ho
 ·rename_i x ho; exact xW3 hK hh ho
 ·rename_i x t ho; exact xVb hK hh ho
 ·rename_i x y t t' ho; exact xXD hK hh ho
 ·rename_i t m x y ho; exact xJP hK hh (.inl ho)
 ·rename_i t m x y ho; exact xJP hK hh (.inr ho)
 ·rename_i t x lo hi mx ho; exact xRc hK hh ho
 ·rename_i m x t ts ho; exact xRt hK hh ho
 ·trivial
end
end Go.Proofs.YtnomnijhlbalaaaGreatDoor
