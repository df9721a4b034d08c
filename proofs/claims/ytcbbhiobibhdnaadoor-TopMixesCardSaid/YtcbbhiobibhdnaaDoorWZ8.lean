/- Operations that change memory, or call: soundness. No condition. -/
import Derived.Test.YtcbbhiobibhdnaaDoorWZ7
import Derived.Laws.Externs
import Derived.Laws.CopyRow
import Derived.Laws.IdiomCopy
namespace Go.Proofs.YtcbbhiobibhdnaaDoor
open Go.RowKit
section
variable {P : Program} {N : Nat} {D : List Deferred} {S F : List Nat} {W0 : World} {ρ : List Info} {K : Slo} {h : List Root} {w : World} {a : Act} {o : Oper}
theorem xSy (hK : KOk N D ρ K a) (hh : HOk S F W0 ρ h w) {t : TypeId} {l c : Operand} (ho : o.op = .makeSlice t l c) : xEj P S F W0 ρ h w a o (xOt P K h t l c) := by
 have exec : ∀ {v : Value} {w' : World}, (Instr.makeSlice t (a.eval l) (a.eval c)).run P w = .ok v w' → (execOp a.eval o).run P w = .ok (.value v) w' := by
  intro v w' hr
  unfold execOp
  simp only [ho]
  simp [Sem.run_bind, hr, Result.andThen]
 unfold xOt
 split
 ·rename_i e hd
  split
  ·rename_i inf z hi hz
   obtain ⟨zv, hzv, hzd⟩ := xCr (ρ := ρ) hz hi
   cases hc : (Nat.beq z.length inf.size && xIF inf.bytes && Nat.beq inf.size (xBE P 20 e).w && Nat.ble 1 inf.size) with
   | false => trivial
   | true =>
    simp only [Bool.and_eq_true] at hc
    obtain ⟨⟨⟨hc1, hc2⟩, hc3⟩, hc4⟩ := hc
    have hzs : zv.cells.size = inf.size := by
     have h1 := hzd.len
     have h2 := Nat.eq_of_beq_eq_true hc1
     simp at h1; omega
    have hsm : 1000000 * inf.bytes ≤ 140737488355328 := Nat.le_of_ble_eq_true hc2
    have hsz := Nat.eq_of_beq_eq_true hc3
    have hpos := Nat.le_of_ble_eq_true hc4
    have hbytes : ∀ q : Nat, q ≤ 1000000 → inf.bytes * q ≤ 281474976710656 := fun q hq => by
     have := Nat.mul_le_mul_left inf.bytes hq
     rw [Nat.mul_comm inf.bytes 1000000] at this; omega
    simp only [cond_true]
    split
    ·rename_i x y z0 hl hcv hz0
     have h5 : a.eval l = .int .i64 x := xAI (ρ := ρ) (xAb hK hl)
     have h6 : a.eval c = .int .i64 y := xAI (ρ := ρ) (xAb hK hcv)
     cases hb : xOi l c with
     | true =>
      have hb' := xNa hb
      subst hb'
      simp only [cond_true]
      rw [hl] at hcv
      cases hcv
      intro hg
      have hg1 : 0 ≤ x ∧ x ≤ 1000000 := by simpa using hg.1
      obtain ⟨w', r1, r2, r3⟩ := run_make_full (P := P) w w.heap.size t e inf zv inf.size hd hi hzv rfl .i64 .i64 x.toNat (hbytes _ (by omega)) (by unfold maxLen; omega) (Nat.le_refl _)
      have e1 : ((x.toNat : Nat) : Int) = x := by omega
      rw [e1] at r1
      have e2 := TC.dec1_enc hz0
      have hdl : DenL ρ (flat (xBE P 20 e) (List.replicate x.toNat z0)) (madeCells zv.cells (x.toNat * inf.size)).toList := by
       rw [← hzs, xBF, xGX, ← e2]
       exact xFI (xBq hzd) _
      have hn : (List.replicate x.toNat z0).length = x.toNat := List.length_replicate
      refine hsz ▸ ?_
      refine xFb hh (by omega) hdl (exec (by rw [h5]; exact r1)) ?_ (Ex.of_grown r3)
      rw [hn, ← hsz]
      exact r2
     | false =>
      simp only [cond_false]
      split
      ·intro hg
       have hg1 : 0 ≤ y ∧ y ≤ 1000000 := by simpa using hg.1
       obtain ⟨w', r1, r2, r3⟩ := run_make_own (P := P) w w.heap.size t e inf zv inf.size hd hi hzv rfl .i64 .i64 y.toNat (hbytes _ (by omega)) (by unfold maxLen; omega) (Nat.le_refl _)
       have e1 : ((y.toNat : Nat) : Int) = y := by omega
       rw [e1] at r1
       refine hsz ▸ ?_
       exact xFb hh (T := e) (τ := xBE P 20 e) (xs := []) (by omega) (us := []) rfl (exec (by rw [h5, h6]; exact r1)) (by rw [← hsz]; exact r2) (Ex.of_grown r3)
      ·trivial
    ·trivial
  ·trivial
 ·trivial
theorem xIw (hK : KOk N D ρ K a) (hh : HOk S F W0 ρ h w) {t : TypeId} {n : Nat} {parts : Array (Nat × Operand)} (ho : o.op = .buildSlice t n parts) : xEj P S F W0 ρ h w a o (xCa P K h t n parts) := by
 have hmap : (parts.map fun (i, x) => (i, a.eval x)).toList = parts.toList.map (fun p => (p.1, a.eval p.2)) := by simp
 unfold xCa
 split
 ·rename_i e hd
  split
  ·rename_i inf z ps hi hz hp
   obtain ⟨zv, hzv, hzd⟩ := xCr (ρ := ρ) hz hi
   cases hc : (Nat.beq z.length inf.size && Nat.beq inf.size (xBE P 20 e).w && Nat.ble 1 inf.size && Nat.ble (n * inf.size) 16777216) with
   | false => trivial
   | true =>
    simp only [Bool.and_eq_true] at hc
    obtain ⟨⟨⟨hc1, hc3⟩, hc4⟩, hc5⟩ := hc
    have hzs : zv.cells.size = inf.size := by
     have h1 := hzd.len
     have h2 := Nat.eq_of_beq_eq_true hc1
     simp at h1; omega
    have hsz := Nat.eq_of_beq_eq_true hc3
    have hpos := Nat.le_of_ble_eq_true hc4
    have hmax := Nat.le_of_ble_eq_true hc5
    simp only [cond_true]
    split
    ·rename_i cs hcs
     have hz0 : DenL ρ (repL n z) (madeCells zv.cells (n * inf.size)).toList := by
      rw [← hzs, xBF]
      exact xFI hzd _
     obtain ⟨out, h3, h4⟩ := xDP hK hp (fun i => some (i * inf.size, inf.size)) _ (madeCells zv.cells (n * inf.size)) cs hz0 hcs
     have fin : ∀ (τ : TC) (xs : List τ.ty) (cs' : List CV), DenL ρ cs' out.toList → xFp τ n cs' = some xs → inf.size = τ.w → MemOk P S F W0 ρ h w a o (.c (.sl h.length inf.size 0 none none)) (h ++ [.rows e τ xs]) [] := by
      intro τ xs cs' h3 hxs hsz
      obtain ⟨e1, e2⟩ := xFo hxs
      have hos : out.size = n * inf.size := by
       have h5 := h3.len
       rw [e1, xCR, e2, ← hsz] at h5
       simpa using h5
      have hm0 : ∀ zz : Array Value, n * inf.size = 0 → (Array.range (n * inf.size)).map (fun x => zz[x % zz.size]!) = madeCells zv.cells (n * inf.size) := by
       intro zz h0; rw [h0]; simp [madeCells]
      have hzv2 : (zeroValue e).run P w = .ok zv w := by simp [zeroValue, typeInfo, hi, hzv, Sem.run_bind, Result.andThen]
      have hrun : (execOp a.eval o).run P w = .ok (.value (.slice (some ⟨w.heap.size, 0, none⟩) n n)) (w.alloc (.cells out e (0, 0))) := by
       unfold execOp
       simp only [ho]
       have hlim : ¬ (n * inf.size > 2 ^ 24) := by omega
       have h4' : Instr.fill (fun i => some (i * inf.size, inf.size)) (madeCells zv.cells (n * inf.size)) (parts.map fun (i, x) => (i, a.eval x)).toList = some out := by rw [hmap]; exact h4
       by_cases h0 : n * inf.size = 0
       ·simp only [Instr.buildSlice, Sem.run_bind, run_underlying hd, Result.andThen_ok, xAn hi, if_neg hlim, Sem.run_pure, if_pos h0, hm0 _ h0, h4']
        rfl
       ·have h4'' : Instr.fill (fun i => some (i * inf.size, inf.size)) ((Array.range (n * inf.size)).map (fun x => zv.cells[x % zv.cells.size]!)) (parts.map fun (i, x) => (i, a.eval x)).toList = some out := h4'
        simp only [Instr.buildSlice, Sem.run_bind, run_underlying hd, Result.andThen_ok, xAn hi, if_neg hlim, Sem.run_pure, if_neg h0, hzv2, h4'']
        rfl
      refine hsz ▸ ?_
      refine xFb hh (T := e) (by omega) (us := out.toList) (by rw [← e1]; exact h3) hrun ?_ (Ex.allocs _ _)
      rw [e2, ← hsz]
      refine ⟨by simpa using hos, .inr ⟨w.heap.size, n, out, rfl, Nat.le_refl _, xAB _ _, Nat.le_refl _, ?_, hos, ?_⟩⟩
      ·unfold maxLen
       have := Nat.le_mul_of_pos_right n hpos
       omega
      ·exact List.take_of_length_le (by rw [Array.length_toList]; omega)
     split
     ·rename_i xs hxs
      intro _
      exact fin _ xs _ (xBq h3) hxs hsz
     ·cases hrw : Nat.beq (xL2 (xBE P 20 e)).w (xBE P 20 e).w with
      | false => trivial
      | true =>
       simp only [cond_true]
       split
       ·rename_i xs hxs
        intro _
        exact fin _ xs _ h3 hxs (by rw [hsz, Nat.eq_of_beq_eq_true hrw])
       ·trivial
    ·trivial
  ·trivial
 ·trivial
theorem xKj (hK : KOk N D ρ K a) : ∀ {l : List Operand} {r : List CV}, xRq K l = some r → DenL ρ r (l.map a.eval)
 | [], r, h => by cases h; rfl
 | x :: l, r, h => by
  simp only [xRq] at h
  split at h
  ·rename_i y q hy hq
   cases h
   exact ⟨_, _, rfl, xAb hK hy, xKj hK hq⟩
  ·cases h
theorem xFy (hK : KOk N D ρ K a) : ∀ {l : List Operand} {r : List PV}, xOO K l = some r → DenArgs ρ r (l.map a.eval)
 | [], r, h => by cases h; rfl
 | x :: l, r, h => by
  simp only [xOO] at h
  split at h
  ·rename_i y q hy hq
   cases h
   exact ⟨_, _, rfl, xAb hK hy, xFy hK hq⟩
  ·cases h
theorem DenArgs.app : ∀ {l m : List PV} {vs us : List Value}, DenArgs ρ l vs → DenArgs ρ m us → DenArgs ρ (l ++ m) (vs ++ us)
 | [], _, _, _, h, k => by rw [h]; exact k
 | _ :: _, _, _, _, ⟨v, r, e, h1, h2⟩, k => by rw [e]; exact ⟨v, _, rfl, h1, h2.app k⟩
theorem DenArgs.cvs : ∀ {l : List CV} {vs : List Value}, DenL ρ l vs → DenArgs ρ (l.map .c) vs
 | [], _, h => h
 | _ :: _, _, ⟨v, r, e, h1, h2⟩ => ⟨v, r, e, h1, DenArgs.cvs h2⟩
theorem xDX {g : FuncId} (hc : xBb P g = true) (args : Array Value) : (callFunc g args).run P w = .ok (.enter g args) w := by
 unfold xBb at hc
 split at hc
 ·rename_i fn hf
  simp only [Bool.and_eq_true, bne_iff_ne, ne_eq] at hc
  obtain ⟨h1, h2⟩ := hc
  have h3 : fn.body.isNone = false := by cases hb : fn.body <;> simp [hb] at h1 ⊢
  have hp : (program).run P w = .ok P w := rfl
  simp only [callFunc, Sem.run_bind, hp, Result.andThen_ok, hf]
  rw [if_neg (by simpa using h2), if_neg (by simp [h3])]
  rfl
 ·cases hc
/-- The model's row for Sub64. -/
def subE : Array Value → Sem Value := ((Extern.MathBitsCarry.rows.lookup "math/bits.Sub64").getD (fun _ => pure undef))
theorem xSd (x y b : Nat) (hb : b ≤ 1) (w : World) : (subE #[.int .u64 x, .int .u64 y, .int .u64 b]).run P w =
  .ok (.tuple #[.int .u64 (((x + 18446744073709551616 - y - b) % 18446744073709551616 : Nat) : Int), .int .u64 ((if x < y + b then 1 else 0 : Nat) : Int)]) w := by
 have h : b = 0 ∨ b = 1 := by omega
 rcases h with rfl | rfl <;> rfl
theorem xPe {g : FuncId} (hc : xHy P g = true) (x y b : Nat) (hb : b ≤ 1) (w : World) :
  (callFunc g #[.int .u64 x, .int .u64 y, .int .u64 b]).run P w = .ok (.value (.tuple #[.int .u64 (((x + 18446744073709551616 - y - b) % 18446744073709551616 : Nat) : Int), .int .u64 ((if x < y + b then 1 else 0 : Nat) : Int)])) w := by
 unfold xHy at hc
 split at hc
 ·rename_i fn hf
  simp only [Bool.and_eq_true, beq_iff_eq] at hc
  obtain ⟨⟨h1, h2⟩, h3⟩ := hc
  have e1 : Extern.findNext fn = none := by
   unfold Extern.findNext
   rw [h2, h3]
   kernel_rfl
  have e2 : Extern.find fn = some subE := by
   unfold Extern.find
   rw [h2, h3]
   kernel_rfl
  rw [run_callFunc_extern hf (by rw [h2]; kernel_rfl) h1 e1 e2, xSd x y b hb]
  rfl
 ·cases hc
theorem subP_ok (hK : KOk N D ρ K a) (hh : HOk S F W0 ρ h w) {f : Operand} {args : List Operand} {ts : Array TypeId} (ho : o.op = .call ⟨.value f, ⟨args⟩, ts⟩) {g : FuncId} (hc : xHy P g = true) (h5 : a.eval f = .func (.func g) #[] #[]) {l : List PV} (hl : xOO K args = some l) : xEj P S F W0 ρ h w a o (subP l h) := by
 have hd := xFy hK hl
 unfold subP
 split
 ·rename_i x y b
  intro hg
  obtain ⟨g1, g2, g3, g4, _⟩ := hg
  simp only [decide_eq_true_eq] at g1 g2 g3 g4
  obtain ⟨x', rfl⟩ := Int.eq_ofNat_of_zero_le g1
  obtain ⟨y', rfl⟩ := Int.eq_ofNat_of_zero_le g2
  obtain ⟨b', rfl⟩ := Int.eq_ofNat_of_zero_le g3
  obtain ⟨v1, r1, q1, d1, v2, r2, q2, d2, v3, r3, q3, d3, q4⟩ := hd
  subst q4; subst q3; subst q2
  have e1 : v1 = .int .u64 x' := d1.1
  have e2 : v2 = .int .u64 y' := d2.1
  have e3 : v3 = .int .u64 b' := d3.1
  subst e1; subst e2; subst e3
  have run := xPe hc x' y' b' (by omega) w
  refine ⟨ρ, .tuple #[.int .u64 (((x' + 18446744073709551616 - y' - b') % 18446744073709551616 : Nat) : Int), .int .u64 ((if x' < y' + b' then 1 else 0 : Nat) : Int)], _, w, [], Pre.refl ρ, ?_, .inl rfl, ?_, hh, Ex.refl [] w, by simp, fun q _ _ => rfl, Feet.refl w⟩
  rotate_left
  ·unfold execOp
   simp only [ho]
   have hm : Array.map a.eval ⟨args⟩ = #[.int .u64 x', .int .u64 y', .int .u64 b'] := by
    apply Array.ext'
    simpa using q1
   simp [resolve, Deferred.ofValue, h5, invoke, Sem.run_bind, Result.andThen, hm, run]
  ·refine ⟨_, ?_, rfl⟩
   simp only [Int.toNat_natCast]
   by_cases hlt : x' < y' + b'
   ·rw [decide_eq_true hlt, if_pos hlt]
    exact ⟨_, _, rfl, ⟨_, rfl, rfl, rfl⟩, _, _, rfl, ⟨_, rfl, rfl, rfl⟩, rfl⟩
   ·rw [decide_eq_false hlt, if_neg hlt]
    exact ⟨_, _, rfl, ⟨_, rfl, rfl, rfl⟩, _, _, rfl, ⟨_, rfl, rfl, rfl⟩, rfl⟩
 ·trivial
theorem xTc (hK : KOk N D ρ K a) (hh : HOk S F W0 ρ h w) {f : Operand} {args : List Operand} {ts : Array TypeId} (ho : o.op = .call ⟨.value f, ⟨args⟩, ts⟩) : xEj P S F W0 ρ h w a o (callP P K h f args) := by
 unfold callP
 split
 ·rename_i l hl
  split
  ·rename_i g hf
   have h5 : a.eval f = .func (.func g) #[] #[] := (xAb hK hf).1
   cases hc : xBb P g with
   | false =>
    cases hs : xHy P g with
    | false => trivial
    | true => exact subP_ok hK hh ho hs h5 hl
   | true =>
    refine ⟨args.map a.eval, ?_, hc, xFy hK hl⟩
    unfold execOp
    simp only [ho]
    simp [resolve, Deferred.ofValue, h5, invoke, Sem.run_bind, Result.andThen, xDX hc]
  ·rename_i id hf
   split
   ·rename_i g fs cs hr
    cases hc : xBb P g with
    | false => trivial
    | true =>
     obtain ⟨i, h1, h2, _⟩ := xAb hK hf
     obtain ⟨us, vs, h3, h4, h6⟩ := hh.ok id _ i hr h1
     rw [h6] at h2
     refine ⟨us ++ args.map a.eval ++ vs, ?_, hc, ((DenArgs.cvs h3).app (xFy hK hl)).app (DenArgs.cvs h4)⟩
     unfold execOp
     simp only [ho]
     simp [resolve, Deferred.ofValue, h2, invoke, Sem.run_bind, Result.andThen, xDX hc]
   ·trivial
  ·trivial
 ·trivial
theorem xMc (hK : KOk N D ρ K a) (hh : HOk S F W0 ρ h w) {t : TypeId} {r : Option Operand} (ho : o.op = .makeMap t r) : xEj P S F W0 ρ h w a o (xJQ P K h t r) := by
 unfold xJQ
 split
 ·rename_i kt et hd
  split
  ·rename_i k d hk he
   have fin : (execOp a.eval o).run P w = .ok (.value (.map (some w.heap.size))) (w.alloc (.map #[] 0)) → MemOk P S F W0 ρ h w a o (.c (.hv h.length)) (h ++ [.mp k (xBZ d) (xBE P 20 et) 0 []]) [] := by
    intro hrun
    refine ⟨ρ ++ [⟨some ⟨w.heap.size, 0, none⟩, 0, none, .map (some w.heap.size)⟩], _, _, _, [], Pre.app _ _, ⟨_, xFN hh _, rfl, rfl⟩, .inl rfl, hrun, ?_, Ex.allocs _ _, by simp, fun q _ hq => List.getElem?_append_left hq, Feet.app hh.len rfl (fun _ _ h => .inr h) (fun b hb => by simp only [foot, own, Option.map_some, Option.some.injEq] at hb; omega)⟩
    refine hh.add (Ex.allocs _ _) _ _ ⟨w.heap.size, #[], 0, rfl, rfl, xAB _ _, rfl, rfl⟩ (fun b hb => ?_)
    simp only [foot, own, Option.map_some, Option.some.injEq] at hb
    omega
   split
   ·intro _
    refine fin ?_
    unfold execOp
    simp only [ho]
    rfl
   ·rename_i x
    split
    ·rename_i kk n hx
     intro _
     refine fin ?_
     have h5 := xAI (ρ := ρ) (xAb hK hx)
     unfold execOp
     simp only [ho, Option.map_some, h5]
     simp only [Instr.makeMap, Sem.run_bind, run_underlying hd, Result.andThen_ok, asInt, asIntOf, Sem.run_pure]
     rfl
    ·trivial
  ·trivial
 ·trivial
theorem xJq {k kk : IntKind} {n : Int} : ∀ {es : List (Int × Nat × Bool × List CV)} {l : List MapEntry} (i0 : Nat), EntOk ρ k es l →
  (∃ j v0 e, Instr.findNow (.int kk) (.int k n) l i0 = some (some (i0 + j, v0)) ∧ l[j]? = some e ∧ e.key = .int k n ∧ e.val = v0 ∧ (∃ x, xHH es n = some x ∧ DenB ρ x.1 x.2 v0) ∧ xOM n es = some e.born ∧ EntOk ρ k (delE n es) (l.eraseIdx j) ∧ ∀ (v : Value) (b : Bool) (c : List CV) (cl : Nat), DenB ρ b c v → EntOk ρ k (updE n cl b c es) (l.modify j (fun e => { e with key := .int k n, val := v }))) ∨
  (Instr.findNow (.int kk) (.int k n) l i0 = some none ∧ xHH es n = none ∧ delE n es = es ∧ ∀ (v : Value) (b : Bool) (c : List CV) (born : Nat), DenB ρ b c v → EntOk ρ k (updE n born b c es) (l ++ [{ key := .int k n, val := v, born := born }]))
 | [], l, i0, h => by
  rw [show l = [] from h]
  exact .inr ⟨rfl, rfl, rfl, fun v b c born hd => ⟨_, [], rfl, rfl, ⟨rfl, hd⟩, rfl⟩⟩
 | (m, bn, b', c') :: es, l, i0, ⟨e, r, e1, e2, e3, e4⟩ => by
  subst e1
  have e2' : e.key = .int k m := e2
  cases hb : (n == m) with
  | true =>
   have hnm : n = m := by simpa using hb
   refine .inl ⟨0, e.val, e, ?_, rfl, by rw [e2', hnm], rfl, ⟨_, by simp only [xHH, hb, cond_true], e3.2⟩, by simp only [xOM, hb, cond_true, e3.1], by simp only [delE, hb, cond_true]; exact e4, fun v b c cl hd => ?_⟩
   ·simp only [Instr.findNow, e2', Instr.sameNow, if_true, hb]; rfl
   ·simp only [updE, hb, cond_true]
    exact ⟨{ e with key := .int k n, val := v }, r, by simp [List.modify], rfl, ⟨e3.1, hd⟩, e4⟩
  | false =>
   have hf : Instr.findNow (.int kk) (.int k n) (e :: r) i0 = Instr.findNow (.int kk) (.int k n) r (i0 + 1) := by
    simp only [Instr.findNow, e2', Instr.sameNow, if_true, hb]
   rcases xJq (n := n) (kk := kk) (i0 + 1) e4 with ⟨j, v0, e', g1, g2, g3, g4, g5, g6, g7, g8⟩ | ⟨g1, g2, g3, g4⟩
   ·refine .inl ⟨j + 1, v0, e', by rw [hf, g1]; congr 3; omega, by simpa using g2, g3, g4, by simpa only [xHH, hb, cond_false] using g5, by simpa only [xOM, hb, cond_false] using g6, ?_, fun v b c cl hd => ?_⟩
    ·simp only [delE, hb, cond_false]
     exact ⟨e, _, by simp, e2, e3, g7⟩
    ·simp only [updE, hb, cond_false]
     exact ⟨e, _, by simp, e2, e3, g8 v b c cl hd⟩
   ·refine .inr ⟨by rw [hf]; exact g1, by simpa only [xHH, hb, cond_false] using g2, by simp only [delE, hb, cond_false, g3], fun v b c born hd => ?_⟩
    simp only [updE, hb, cond_false]
    exact ⟨e, _, rfl, e2, e3, g4 v b c born hd⟩
theorem xKF {k : IntKind} {s : Int} {b : Bool} {c : List CV} {v : Value} (hd : DenB ρ b c v) : ∀ {es es' : List (Int × Nat × Bool × List CV)} {l : List MapEntry}, EntOk ρ k es l → xKG s b c es = some es' →
  ∃ j, l.findIdx? (fun e => (e.born : Int) == s) = some j ∧ EntOk ρ k es' (l.modify j (fun e => { e with val := v }))
 | [], es', l, h, hs => by cases hs
 | (m, bn, b', c') :: es, es', l, ⟨e, r, e1, e2, e3, e4⟩, hs => by
  subst e1
  simp only [xKG] at hs
  have hbn : e.born = bn := e3.1
  cases hb : ((bn : Int) == s) with
  | true =>
   rw [hb] at hs
   simp only [cond_true, Option.some.injEq] at hs
   subst hs
   refine ⟨0, by simp [List.findIdx?_cons, hbn, hb], ⟨{ e with val := v }, r, by simp [List.modify], e2, ⟨e3.1, hd⟩, e4⟩⟩
  | false =>
   rw [hb] at hs
   simp only [cond_false] at hs
   split at hs
   ·rename_i q hq
    cases hs
    obtain ⟨j, h1, h2⟩ := xKF hd e4 hq
    refine ⟨j + 1, by simp [List.findIdx?_cons, hbn, hb, h1], ⟨e, _, by simp, e2, e3, h2⟩⟩
   ·cases hs
/-- A map that is changed: what is left. -/
theorem xGS (hh : HOk S F W0 ρ h w) {x : CV} {v : Value} (hd : Den ρ x v) {M : MpV} (hM : xLK h x = some M) (hg : AllB M.g) :
  ∃ q ents r i, v = .map (some q) ∧ w.heap[q]? = some (.map ents M.cl) ∧ EntOk ρ M.k (xDf M.agg M.τ M.ts) ents.toList ∧ h[M.pl.id]? = some r ∧ ρ[M.pl.id]? = some i ∧ own i r q ∧
   ∀ (ents' : Array MapEntry) (cl' : Nat) (ts' : List (Int × Nat × M.τ.ty)) (h' : List Root), xL7 h M.pl M.k M.agg M.τ cl' ts' = some h' → EntOk ρ M.k (xDf M.agg M.τ ts') ents'.toList →
    ∃ r', h' = h.set M.pl.id r' ∧ RootOk ρ { w with heap := w.heap.setIfInBounds q (.map ents' cl') } i r' ∧ (∀ c, foot i r' c → own i r c) ∧ r'.tag = r.tag := by
 have hE : ∀ (q : Nat) (ob : Obj), Ex [q] w { w with heap := w.heap.setIfInBounds q ob } := fun q ob => ⟨rfl, rfl, rfl, by simp, fun j _ hj => Array.getElem?_setIfInBounds_ne (by simpa [eq_comm] using hj)⟩
 unfold xLK at hM
 split at hM
 ·rename_i id
  split at hM
  ·rename_i k agg τ cl ts hr
   cases hM
   obtain ⟨i, h1, h2, _⟩ := hd
   obtain ⟨q, ents, cl', h3, h4, h5, rfl, h6⟩ := hh.ok id _ i hr h1
   have hqlt := lt_of_block h5
   refine ⟨q, ents, _, i, by rw [h2, h3], h5, h6, hr, h1, by simp [own, h4], fun ents' cl2 ts' h' hp he => ?_⟩
   simp only [xL7, Option.some.injEq] at hp
   subst hp
   exact ⟨_, rfl, ⟨q, ents', cl2, h3, h4, by simp [hqlt], rfl, he⟩, fun c hc => hc, rfl⟩
  ·cases hM
 ·rename_i t n
  split at hM
  ·rename_i p t2 k agg τ os hr
   cases hM
   obtain ⟨m, hm, hlt⟩ := xIZ hg.1
   obtain ⟨p', hp, hrr, ht⟩ := xBh hr
   rw [Nat.zero_add] at hp; subst hp
   rcases hd with ⟨h0, _⟩ | ⟨m', id, i0, h1, h2, h3, q, h4⟩
   ·omega
   ·obtain rfl : m = m' := by omega
    obtain ⟨ip, hip⟩ := hh.info hrr
    have h7 := hh.cov p t _ ip hrr hip ht id i0 m _ h2 h3
    obtain ⟨hA, hO⟩ := xIf (hh.ok p _ ip hrr hip) ht
    have ho : (Root.arm t2 k agg τ os).obs[m]? = some (.mp k os[m].1 (xDf agg τ os[m].2)) := by
     simp only [Root.obs, List.getElem?_map, List.getElem?_eq_getElem hlt, Option.map_some]
    obtain ⟨q', ents, g1, g2, g3⟩ := hA.2.1 m _ _ h7 ho
    rw [h4] at g1
    cases g1
    have hqlt := lt_of_block g2
    have hob : xDQ v (.mp k os[m].1 (xDf agg τ os[m].2)) q := by show xKt v = some q; rw [h4]; rfl
    have he : nth os (0, []) (n - 1) = os[m] := by
     rw [hm, Nat.add_sub_cancel]; simp [nth, List.getD_eq_getElem?_getD, List.getElem?_eq_getElem hlt]
    refine ⟨q, ents, _, ip, h4, ?_, ?_, hrr, hip, hO q ⟨m, _, _, h7, ho, hob⟩, fun ents' cl2 ts' h' hp2 he2 => ?_⟩
    ·show w.heap[q]? = some (.map ents (nth os (0, []) (n - 1)).1)
     rw [he]; exact g2
    ·show EntOk ρ k (xDf agg τ (nth os (0, []) (n - 1)).2) ents.toList
     rw [he]; exact g3
    ·dsimp only at ts' he2 hp2
     simp only [xL7, hrr] at hp2
     split at hp2
     ·rename_i e
      simp only [Option.some.injEq] at hp2
      subst hp2
      cases ht
      have hset : (Root.arm t k agg τ (os.set (n - 1) (cl2, ts'))).obs = (Root.arm t k agg τ os).obs.set m (.mp k cl2 (xDf agg τ ts')) := by
       simp only [Root.obs, hm, Nat.add_sub_cancel, List.map_set]
      refine ⟨_, rfl, ?_, fun c hc => ?_, rfl⟩
      ·show ArOk ρ _ (ip.objs t) (Root.arm t k agg τ (os.set (n - 1) (cl2, ts'))).obs
       rw [hset]
       exact ArOk.upd hA h7 ho (b := q) hob (hE q _) ⟨q, ents', h4, by simp [hqlt], he2⟩
      ·have : xCX (ip.objs t) (Root.arm t k agg τ (os.set (n - 1) (cl2, ts'))).obs c := hc
       rw [hset] at this
       exact hO c (xIg h7 ho (b := q) hob this)
     ·cases hp2
  ·cases hM
 ·cases hM
theorem xEx (hh : HOk S F W0 ρ h w) {p q cl' : Nat} {r r' : Root} {i : Info} {ents : Array MapEntry} {cl : Nat} {ents' : Array MapEntry} {v : PV} {u : Value} {nx : Next} (hr : h[p]? = some r) (h1 : ρ[p]? = some i) (h5 : w.heap[q]? = some (.map ents cl)) (hown : own i r q)
  (hr' : RootOk ρ { w with heap := w.heap.setIfInBounds q (.map ents' cl') } i r') (hf : ∀ c, foot i r' c → own i r c) (htg : r'.tag = r.tag) (hd : DenP ρ v u) (hnx : nx = .value u ∨ (nx = .skip ∧ u = undef)) (hrun : (execOp a.eval o).run P w = .ok nx { w with heap := w.heap.setIfInBounds q (.map ents' cl') }) : MemOk P S F W0 ρ h w a o v (h.set p r') [p] := by
 have hE : Ex [q] w { w with heap := w.heap.setIfInBounds q (.map ents' cl') } := ⟨rfl, rfl, rfl, by simp, fun j _ hj => Array.getElem?_setIfInBounds_ne (by simpa [eq_comm] using hj)⟩
 refine ⟨ρ, u, nx, _, [q], Pre.refl _, hd, hnx, hrun, hh.setg hr h1 hown hE _ hr' hf htg, hE, fun c hc => ?_, fun q' hq _ => List.getElem?_set_ne (by simpa [eq_comm] using hq), Feet.set hr h1 (fun c hc => xAy (hf c hc))⟩
 rw [List.mem_singleton] at hc
 subst hc
 exact ⟨p, by simp, r, i, hr, h1, hown⟩
theorem xO0 {agg : Bool} {τ : TC} {p : PV} {v : Value} {z : τ.ty} (hd : DenP ρ p v) (hc : valT agg τ p = some z) : DenB ρ agg (τ.enc z) v := by
 cases p with
 | c y =>
  simp only [valT] at hc
  cases agg with
  | true => cases hc
  | false =>
   have h1 := TC.dec1_enc hc
   rw [← h1]
   have h2 := xBq (ls := τ.leaves) (ρ := ρ) (cs := [y]) (vs := [v]) ⟨v, [], rfl, hd, rfl⟩
   have hl : (xDA τ.leaves [y]).length = 1 := by rw [← h2.len]; rfl
   match hq : xDA τ.leaves [y], h2, hl with
   | [c'], ⟨u, r, e, h6, h7⟩, _ =>
    cases e
    exact ⟨c', rfl, h6⟩
 | ag m =>
  simp only [valT] at hc
  cases agg with
  | false => cases hc
  | true =>
   have h1 := TC.dec1_enc hc
   rw [← h1]
   obtain ⟨vs, h2, h3⟩ := hd
   exact ⟨vs, xBq h2, h3⟩
 | tu m => cases hc
 | un => cases hc
theorem xJO {g : List Bool} {v : PV} {t : List Nat} {e : Option (List Root)} (f : ∀ h', e = some h' → AllB g → MemOk P S F W0 ρ h w a o v h' t) : xEj P S F W0 ρ h w a o (memS g v t e) := by
 cases e with
 | none => trivial
 | some h' => exact f h' rfl
theorem xB9 {kt : TypeId} {kk k : IntKind} {n : Int} {l : List MapEntry} {rr : Option (Nat × Value)} (hk : P.underlying kt = some (.int kk)) (h : Instr.findNow (.int kk) (.int k n) l 0 = some rr) (w : World) : (Instr.findKey kt (.int k n) l).run P w = .ok rr w := by
 unfold Instr.findKey
 simp only [Sem.run_bind, run_underlying hk, Result.andThen_ok, h, Sem.run_pure]
theorem xNw {k : IntKind} {n : Int} (w : World) : (Instr.keyThatStays (.int k n) (.int k n)).run P w = .ok (.int k n) w := by
 unfold Instr.keyThatStays
 rw [if_pos (by simp [Instr.sameBits])]
 rfl
theorem xIP (hK : KOk N D ρ K a) (hh : HOk S F W0 ρ h w) {t : TypeId} {m x y : Operand} (ho : o.op = .mapUpdate t m x y ∨ o.op = .insert t m x y) : xEj P S F W0 ρ h w a o (xJP P K h t m x y) := by
 have exec : ∀ {w' : World}, (Instr.mapUpdate t (a.eval m) (a.eval x) (a.eval y)).run P w = .ok () w' → (execOp a.eval o).run P w = .ok .skip w' := by
  intro w' hr
  unfold execOp
  rcases ho with ho | ho
  ·simp only [ho]; simp only [Sem.run_bind, hr, Result.andThen_ok, Sem.run_pure]
  ·simp only [ho]; simp only [Sem.run_bind, hr, Result.andThen_ok, Sem.run_pure]
 unfold xJP
 split
 ·rename_i kt et c k n pv hd hm hx hy
  split
  ·rename_i kk g pl k' agg τ cl ts hk hM
   cases hb : Nat.beq (kix k) (kix k') with
   | false => trivial
   | true =>
    have := xBY hb
    subst this
    simp only [cond_true]
    split
    ·rename_i z hz
     refine xJO fun h' hput hg => ?_
     obtain ⟨q, ents, r, i, h2, h5, h6, hr, h1, hown, hall⟩ := xGS hh (x := c) (v := a.eval m) (xAb hK hm) hM hg
     dsimp only at h5 h6 hr h1 hall
     have h7 := xAI (ρ := ρ) (xAb hK hx)
     have hval := xO0 (xAb hK hy) hz
     have hget : (getObj q).run P w = .ok (.map ents cl) w := by simp only [getObj, Sem.run, h5]
     have hset : ∀ ob : Obj, (setObj q ob).run P w = .ok () { w with heap := w.heap.setIfInBounds q ob } := fun ob => by simp only [setObj, Sem.run, h5]
     rcases xJq (n := n) (kk := kk) 0 h6 with ⟨j, v0, e, g1, g2, g3, _, ⟨x0, g4, _⟩, _, _, g5⟩ | ⟨g1, g4, _, g2⟩
     ·rw [xDa z] at g4
      have hhas : xGV n ts = true := by cases hq : xGV n ts with
       | true => rfl
       | false => rw [hq] at g4; cases g4
      have hej : ents[0 + j]? = some e := by rw [Nat.zero_add]; simpa using g2
      rw [show xCI n cl ts = cl by simp only [xCI, hhas, cond_true]] at hput
      have hent : EntOk ρ k (xDf agg τ (xFB n cl z ts)) (ents.modify (0 + j) (fun e => { e with key := .int k n, val := a.eval y })).toList := by
       rw [Array.toList_modify, Nat.zero_add, ← xEO]; exact g5 _ agg _ _ hval
      obtain ⟨r', e1, e2, e3, e4⟩ := hall _ cl _ h' hput hent
      subst e1
      refine xEx hh hr h1 h5 hown e2 e3 e4 (v := .un) (u := undef) rfl (.inr ⟨rfl, rfl⟩) (exec ?_)
      rw [h2, h7]
      have hks' := xNw (P := P) (k := k) (n := n) w
      simp only [Instr.mapUpdate, Sem.run_bind, run_underlying hd, Result.andThen_ok, hget, xBC hk, xB9 hk g1, hej, Option.map_some, Option.getD_some, g3, hks', hset]
     ·rw [xDa z] at g4
      have hhas : xGV n ts = false := by cases hq : xGV n ts with
       | true => rw [hq] at g4; cases g4
       | false => rfl
      rw [show xCI n cl ts = cl + 1 by simp only [xCI, hhas, cond_false]] at hput
      have hent : EntOk ρ k (xDf agg τ (xFB n cl z ts)) (ents.push { key := .int k n, val := a.eval y, born := cl }).toList := by
       rw [Array.toList_push, ← xEO]; exact g2 _ agg _ cl hval
      obtain ⟨r', e1, e2, e3, e4⟩ := hall _ (cl + 1) _ h' hput hent
      subst e1
      refine xEx hh hr h1 h5 hown e2 e3 e4 (v := .un) (u := undef) rfl (.inr ⟨rfl, rfl⟩) (exec ?_)
      rw [h2, h7]
      simp only [Instr.mapUpdate, Sem.run_bind, run_underlying hd, Result.andThen_ok, hget, xBC hk, xB9 hk g1, hset]
    ·trivial
  ·trivial
 ·trivial
theorem xOr (hK : KOk N D ρ K a) (hh : HOk S F W0 ρ h w) {t : TypeId} {ts : List TypeId} {m x : Operand} (ho : o.op = .call ⟨.builtin .delete, ⟨[m, x]⟩, ⟨t :: ts⟩⟩) : xEj P S F W0 ρ h w a o (xMb P K h t m x) := by
 unfold xMb
 split
 ·rename_i kt et c k n hd hm hx
  split
  ·rename_i kk g pl k' agg τ cl es hk hM
   cases hb : Nat.beq (kix k) (kix k') with
   | false => trivial
   | true =>
    have := xBY hb
    subst this
    simp only [cond_true]
    refine xJO fun h' hput hg => ?_
    obtain ⟨q, ents, r, i, h2, h5, h6, hr, h1, hown, hall⟩ := xGS hh (x := c) (v := a.eval m) (xAb hK hm) hM hg
    dsimp only at h5 h6 hr h1 hall
    have h7 := xAI (ρ := ρ) (xAb hK hx)
    have hget : (getObj q).run P w = .ok (.map ents cl) w := by simp only [getObj, Sem.run, h5]
    have hset : ∀ ob : Obj, (setObj q ob).run P w = .ok () { w with heap := w.heap.setIfInBounds q ob } := fun ob => by simp only [setObj, Sem.run, h5]
    have exec : ∀ {ents' : Array MapEntry}, (Builtin.delete_ ⟨t :: ts⟩ o.type #[.map (some q), .int k n]).run P w = .ok (.tuple #[]) { w with heap := w.heap.setIfInBounds q (.map ents' cl) } → (execOp a.eval o).run P w = .ok (.value (.tuple #[])) { w with heap := w.heap.setIfInBounds q (.map ents' cl) } := by
     intro ents' hr
     unfold execOp
     simp only [ho]
     simp [resolve, invoke, builtin, Sem.run_bind, h2, h7, hr, Result.andThen]
    rcases xJq (n := n) (kk := kk) 0 h6 with ⟨j, v0, e, g1, g2, g3, _, _, _, g4, _⟩ | ⟨g1, _, g3, _⟩
    ·have hent : EntOk ρ k (xDf agg τ (delT n es)) (ents.eraseIdxIfInBounds (0 + j)).toList := by
      rw [Array.toList_eraseIdxIfInBounds, Nat.zero_add, ← xKi]; exact g4
     obtain ⟨r', e1, e2, e3, e4⟩ := hall _ cl _ h' hput hent
     subst e1
     refine xEx hh hr h1 h5 hown e2 e3 e4 (v := .tu []) (u := .tuple #[]) ⟨[], rfl, rfl⟩ (.inl rfl) (exec ?_)
     simp [Builtin.delete_, Sem.run_bind, run_underlying hd, Result.andThen_ok, hget, xBC hk, xB9 hk g1, hset]
    ·have hent : EntOk ρ k (xDf agg τ (delT n es)) ents.toList := by rw [← xKi, g3]; exact h6
     obtain ⟨r', e1, e2, e3, e4⟩ := hall _ cl _ h' hput hent
     subst e1
     refine xEx hh hr h1 h5 hown e2 e3 e4 (v := .tu []) (u := .tuple #[]) ⟨[], rfl, rfl⟩ (.inl rfl) (exec ?_)
     simp [Builtin.delete_, Sem.run_bind, run_underlying hd, Result.andThen_ok, hget, xBC hk, xB9 hk g1, hset]
  ·trivial
 ·trivial
theorem xK1 (hK : KOk N D ρ K a) (hh : HOk S F W0 ρ h w) {t : TypeId} {m x : Operand} (ho : o.op = .mapEntry t m x) : xEj P S F W0 ρ h w a o (xHr P K h t m x) := by
 have exec : ∀ {v : Value} {w' : World}, (Instr.mapEntry t (a.eval m) (a.eval x)).run P w = .ok v w' → (execOp a.eval o).run P w = .ok (.value v) w' := by
  intro v w' hr
  unfold execOp
  simp only [ho, Sem.run_bind, hr, Result.andThen_ok, Sem.run_pure]
 unfold xHr
 split
 ·rename_i kt et c k n hd hm hx
  split
  ·rename_i kk g pl k' agg τ cl ts hk hM
   cases hb : Nat.beq (kix k) (kix k') with
   | false => trivial
   | true =>
    have := xBY hb
    subst this
    simp only [cond_true]
    split
    ·rename_i z hz
     refine xJO fun h' hput hg => ?_
     obtain ⟨q, ents, r, i, h2, h5, h6, hr, h1, hown, hall⟩ := xGS hh (x := c) (v := a.eval m) (xAb hK hm) hM hg
     dsimp only at h5 h6 hr h1 hall
     have h7 := xAI (ρ := ρ) (xAb hK hx)
     have hget : (getObj q).run P w = .ok (.map ents cl) w := by simp only [getObj, Sem.run, h5]
     have hset : ∀ ob : Obj, (setObj q ob).run P w = .ok () { w with heap := w.heap.setIfInBounds q ob } := fun ob => by simp only [setObj, Sem.run, h5]
     have tup : ∀ {b : Bool} {l : List CV} {v : Value} (c : Nat), DenB ρ b l v → DenP ρ (.tu [(b, l), (false, [.sc (.int .i64 c)])]) (.tuple #[v, goInt c]) := fun c hd => ⟨[_, goInt c], ⟨_, _, rfl, hd, goInt c, [], rfl, ⟨_, rfl, rfl, rfl⟩, rfl⟩, rfl⟩
     rcases xJq (n := n) (kk := kk) 0 h6 with ⟨j, v0, e, g1, g2, g3, gv, ⟨x0, g4, g4'⟩, g6, _, g5⟩ | ⟨g1, g4, _, g2⟩
     ·rw [xDa z] at g4
      rw [xLF n cl] at g6
      have hhas : xGV n ts = true := by cases hq : xGV n ts with
       | true => rfl
       | false => rw [hq] at g4; cases g4
      rw [hhas] at g4 g6
      simp only [cond_true, Option.some.injEq] at g4 g6
      subst g4
      have hej : ents[0 + j]? = some e := by rw [Nat.zero_add]; simpa using g2
      rw [show xCI n cl ts = cl by simp only [xCI, hhas, cond_true]] at hput
      have hent : EntOk ρ k (xDf agg τ (xFB n cl (xAS z n ts) ts)) (ents.modify (0 + j) (fun e => { e with key := .int k n })).toList := by
       rw [Array.toList_modify, Nat.zero_add, ← xEO]
       have := g5 v0 agg _ cl g4'
       have hm : ents.toList.modify j (fun e => { e with key := .int k n, val := v0 }) = ents.toList.modify j (fun e => { e with key := .int k n }) := by
        apply List.ext_getElem?
        intro j'
        rw [List.getElem?_modify, List.getElem?_modify]
        by_cases hj : j = j'
        ·subst hj
         rw [g2, ← gv]
         simp
        ·simp only [hj, if_false]
       rw [hm] at this
       exact this
      obtain ⟨r', e1, e2, e3, e4⟩ := hall _ cl _ h' hput hent
      subst e1
      refine xEx hh hr h1 h5 hown e2 e3 e4 (tup (xML n cl ts) g4') (.inl rfl) (exec ?_)
      rw [h2, h7, g6]
      have hks' := xNw (P := P) (k := k) (n := n) w
      simp only [Instr.mapEntry, Sem.run_bind, run_underlying hd, Result.andThen_ok, hget, xBC hk, xB9 hk g1, hej, Option.map_some, Option.getD_some, g3, hks', hset, Sem.run_pure]
     ·rw [xDa z] at g4
      have hhas : xGV n ts = false := by cases hq : xGV n ts with
       | true => rw [hq] at g4; cases g4
       | false => rfl
      have hgz : ∀ ts : List (Int × Nat × τ.ty), xGV n ts = false → xAS z n ts = z ∧ xML n cl ts = cl := by
       intro ts
       induction ts with
       | nil => intro _; exact ⟨rfl, rfl⟩
       | cons e r ih =>
        intro hh
        simp only [xGV] at hh
        simp only [xAS, xML]
        cases hq : (n == e.1) with
        | true => rw [hq] at hh; cases hh
        | false => rw [hq] at hh; exact ih hh
      obtain ⟨hz1, hz2⟩ := hgz ts hhas
      rw [hz1, hz2]
      rw [hz1] at hput
      rw [show xCI n cl ts = cl + 1 by simp only [xCI, hhas, cond_false]] at hput
      obtain ⟨v, h8, h9⟩ := xMS (ρ := ρ) hz
      have hent : EntOk ρ k (xDf agg τ (xFB n cl z ts)) (ents.push { key := .int k n, val := v, born := cl }).toList := by
       rw [Array.toList_push, ← xEO]; exact g2 _ agg _ cl h8
      obtain ⟨r', e1, e2, e3, e4⟩ := hall _ (cl + 1) _ h' hput hent
      subst e1
      refine xEx hh hr h1 h5 hown e2 e3 e4 (tup cl h8) (.inl rfl) (exec ?_)
      rw [h2, h7]
      simp only [Instr.mapEntry, Sem.run_bind, run_underlying hd, Result.andThen_ok, hget, xBC hk, xB9 hk g1, h9, hset, Sem.run_pure]
    ·trivial
  ·trivial
 ·trivial
theorem xIu (hK : KOk N D ρ K a) (hh : HOk S F W0 ρ h w) {t : TypeId} {m x y : Operand} (ho : o.op = .entryStore t m x y) : xEj P S F W0 ρ h w a o (xEH P K h m x y) := by
 unfold xEH
 split
 ·rename_i c k s pv hm hx hy
  split
  ·rename_i g pl k' agg τ cl ts hM
   split
   ·rename_i z hz
    refine xJO fun h' hput hgg => ?_
    obtain ⟨hs, hg⟩ := hgg
    obtain ⟨q, ents, r, i, h2, h5, h6, hr, h1, hown, hall⟩ := xGS hh (x := c) (v := a.eval m) (xAb hK hm) hM hg
    dsimp only at h5 h6 hr h1 hall
    have h7 := xAI (ρ := ρ) (xAb hK hx)
    have hval := xO0 (xAb hK hy) hz
    have hget : (getObj q).run P w = .ok (.map ents cl) w := by simp only [getObj, Sem.run, h5]
    have hset : ∀ ob : Obj, (setObj q ob).run P w = .ok () { w with heap := w.heap.setIfInBounds q ob } := fun ob => by simp only [setObj, Sem.run, h5]
    obtain ⟨j, g1, g2⟩ := xKF hval h6 (xID s z ts hs)
    have hent : EntOk ρ k' (xDf agg τ (xKE s z ts)) (ents.modify j (fun e => { e with val := a.eval y })).toList := by
     rw [Array.toList_modify]; exact g2
    obtain ⟨r', e1, e2, e3, e4⟩ := hall _ cl _ h' hput hent
    subst e1
    refine xEx hh hr h1 h5 hown e2 e3 e4 (v := .un) (u := undef) rfl (.inr ⟨rfl, rfl⟩) ?_
    unfold execOp
    have hfi : ents.findIdx? (fun e => (e.born : Int) == s) = some j := by
     rw [show ents = ents.toList.toArray by simp, List.findIdx?_toArray]; exact g1
    simp only [ho, h2, h7, Instr.entryStore, Sem.run_bind, hget, Result.andThen_ok, asInt, asIntOf, Sem.run_pure, hfi, hset]
   ·trivial
  ·trivial
 ·trivial
theorem xOg (hK : KOk N D ρ K a) (hh : HOk S F W0 ρ h w) {t : TypeId} {x lo hi mx : Operand} (ho : o.op = .slice t x (some lo) (some hi) (some mx)) : xEj P S F W0 ρ h w a o (xLV P K h t x lo hi mx) := by
 unfold xLV
 split
 ·rename_i e id k off n c hd hx
  split
  ·rename_i inf n0 hi' hn0
   split
   ·rename_i k1 l k2 u k3 m hl hu hm
    intro hg
    obtain ⟨hg1, hg2, hg3, _⟩ := hg
    obtain ⟨i', a', c', nn, h1, h2, h3, _, _, hc, _⟩ := xAb hK hx
    have hnn := xFQ hh h1 hc hn0
    subst hnn
    obtain ⟨hm0, hm1⟩ := xDu hg1
    obtain ⟨hu0, hu1⟩ := xDu hg2
    obtain ⟨hl0, hl1⟩ := xDu hg3
    have e1 := xAI (ρ := ρ) (xAb hK hl)
    have e2 := xAI (ρ := ρ) (xAb hK hu)
    have e3 := xAI (ρ := ρ) (xAb hK hm)
    refine ⟨ρ ++ [⟨none, 0, none, .slice (if m.toNat = l.toNat then a' else a'.map (·.add (l.toNat * inf.size))) (u.toNat - l.toNat) (m.toNat - l.toNat)⟩], _, _, w, [], Pre.app _ _, ⟨_, xFN hh _, rfl, rfl⟩, .inl rfl, ?_, ?_, Ex.refl _ _, by simp, fun q _ hq => List.getElem?_append_left hq, Feet.app hh.len rfl (fun _ _ h => .inr h) (fun b hb => by cases hb)⟩
    ·unfold execOp
     simp only [ho, Option.map_some, h2, e1, e2, e3]
     have s1 : ∀ c w, (Instr.sliceBound (.int k3 m) c' c).run P w = .ok m.toNat w := fun c w => by
      simp [Instr.sliceBound, asIntOf, Sem.run_bind, Result.andThen, show 0 ≤ m ∧ m ≤ (c' : Int) from ⟨hm0, by omega⟩]
     have s2 : ∀ c w, (Instr.sliceBound (.int k2 u) m.toNat c).run P w = .ok u.toNat w := fun c w => by
      unfold Instr.sliceBound
      simp only [asIntOf, Sem.run_bind, Sem.run_pure, Result.andThen_ok]
      rw [if_pos ⟨hu0, by omega⟩]; rfl
     have s3 : ∀ c w, (Instr.sliceBound (.int k1 l) u.toNat c).run P w = .ok l.toNat w := fun c w => by
      unfold Instr.sliceBound
      simp only [asIntOf, Sem.run_bind, Sem.run_pure, Result.andThen_ok]
      rw [if_pos ⟨hl0, by omega⟩]; rfl
     simp [s1, s2, s3, Instr.sliceAt, Instr.slice, Instr.sliceBounds, Sem.run_bind, run_underlying hd, Result.andThen, xAn hi']
    ·exact hh.add (Ex.refl _ _) _ _ trivial (fun b hb => by cases hb)
   ·trivial
  ·trivial
 ·trivial
theorem xIn (z : Array Value) (n : Nat) : Builtin.zeroCells z n = madeCells z (n * z.size) := rfl
theorem xOk {t ty e : TypeId} (hd : P.underlying t = some (.slice e)) (a' : Option Addr) (c' : Nat) : (Builtin.clear_ #[t] ty #[.slice a' 0 c']).run P w = .ok (.tuple #[]) w := by
 have hu := run_underlying (P := P) (w := w) hd
 cases a' with
 | none => show ((underlying t).bind _).run P w = _; rw [Sem.run_bind', hu]; rfl
 | some b => show ((underlying t).bind _).run P w = _; rw [Sem.run_bind', hu]; rfl
theorem xOj {t ty e : TypeId} {zv : Value} (hd : P.underlying t = some (.slice e)) (hz : (zeroValue e).run P w = .ok zv w) (b : Addr) (n c' : Nat) {w' : World} (hst : (storeCells b (Builtin.zeroCells zv.cells (n + 1)).toList).run P w = .ok () w') : (Builtin.clear_ #[t] ty #[.slice (some b) (n + 1) c']).run P w = .ok (.tuple #[]) w' := by
 have hu := run_underlying (P := P) (w := w) hd
 show ((underlying t).bind _).run P w = _
 rw [Sem.run_bind', hu]
 show ((zeroValue e).bind fun z => (storeCells b (Builtin.zeroCells z.cells (n + 1)).toList).bind fun _ => Sem.pure (Value.tuple #[])).run P w = _
 rw [Sem.run_bind', hz]
 show ((storeCells b (Builtin.zeroCells zv.cells (n + 1)).toList).bind fun _ => Sem.pure (Value.tuple #[])).run P w = _
 rw [Sem.run_bind', hst]
 rfl
theorem xRb (hK : KOk N D ρ K a) (hh : HOk S F W0 ρ h w) {t : TypeId} {x : Operand} (ho : o.op = .call ⟨.builtin .clear, ⟨[x]⟩, ⟨[t]⟩⟩) : xEj P S F W0 ρ h w a o (xRc P K h t x) := by
 have exec : ∀ {v : Value} {w' : World}, (Builtin.clear_ #[t] o.type #[a.eval x]).run P w = .ok v w' → (execOp a.eval o).run P w = .ok (.value v) w' := by
  intro v w' hr
  unfold execOp
  simp only [ho]
  simp [resolve, invoke, builtin, Sem.run_bind, hr, Result.andThen]
 unfold xRc
 split
 ·rename_i e hd
  split
  ·rename_i inf z hi hz
   obtain ⟨zv, hzv, hzd⟩ := xCr (ρ := ρ) hz hi
   split
   ·rename_i id k off n hx
    split
    ·rename_i T τ xs hr
     cases hc1 : (Nat.beq z.length inf.size && Nat.beq k τ.w && Nat.beq inf.size τ.w) with
     | false => trivial
     | true =>
      simp only [Bool.and_eq_true] at hc1
      obtain ⟨⟨hc0, hc3⟩, hc4⟩ := hc1
      have hzs : zv.cells.size = inf.size := by
       have h1 := hzd.len
       have h2 := Nat.eq_of_beq_eq_true hc0
       simp at h1; omega
      have hkw := Nat.eq_of_beq_eq_true hc3
      have hsz := Nat.eq_of_beq_eq_true hc4
      subst hkw
      simp only [cond_true]
      split
      ·rename_i z0 hz0
       intro hgd
       have hb' := Nat.le_of_ble_eq_true hgd.1
       have hz0e := TC.dec1_enc hz0
       obtain ⟨i, a', c', nn, h1, h2, h3, h4, h5, h6, ⟨m0, h7, h8⟩, h9, h9', h10, h11⟩ := xAb hK hx
       obtain ⟨g0, g1, vs, g2, g3⟩ := hh.ok id _ i hr h1
       rw [g0] at h7; cases h7
       simp only [Info.cnt] at h6
       subst h6
       have hnewlen : (xs.take off ++ List.replicate nn z0 ++ xs.drop (off + nn)).length = xs.length := by
        rw [List.length_append, List.length_append, List.length_take, List.length_drop, List.length_replicate]; omega
       have hzero : (zeroValue e).run P w = .ok zv w := by simp [zeroValue, typeInfo, hi, hzv, Sem.run_bind, Result.andThen]
       rcases Nat.eq_zero_or_pos nn with hm | hm
       ·subst hm
        have e1 : xs.take off ++ List.replicate 0 z0 ++ xs.drop (off + 0) = xs := by simp
        refine ⟨ρ, .tuple #[], _, w, [], Pre.refl _, ⟨[], rfl, rfl⟩, .inl rfl, exec ?_, ?_, Ex.refl _ _, by simp, fun q hq _ => List.getElem?_set_ne (by simpa [eq_comm] using hq), ?_⟩
        ·rw [h2]
         exact xOk hd _ _
        ·rw [e1, xDZ hr]; exact hh
        ·rw [e1, xDZ hr]; exact Feet.refl w
       ·rcases g3.2.2.2 with ⟨k1, _⟩ | ⟨g, og, cur, k1, k2, k3, k4⟩
        ·have := g3.2.1; omega
        ·have hcap := g3.2.1
         have ha' : a' = some ⟨g, og + off * τ.w, none⟩ := by rw [h11 (by omega), k1, Option.map_some, Addr.add_lit]
         subst ha'
         have hxw : xs.length * τ.w ≤ i.cap * τ.w := Nat.mul_le_mul_right _ hcap
         have hall : (off + nn) * τ.w ≤ xs.length * τ.w := Nat.mul_le_mul_right _ hb'
         have hsplit : (off + nn) * τ.w = off * τ.w + nn * τ.w := Nat.add_mul _ _ _
         have hus : DenL ρ (flat τ (List.replicate nn z0)) (madeCells zv.cells (nn * zv.cells.size)).toList := by
          rw [xBF, xGX, ← hz0e]
          exact xFI (xBq hzd) _
         have hul : (madeCells zv.cells (nn * zv.cells.size)).toList.length = nn * τ.w := by rw [Array.length_toList, size_madeCells, hzs, hsz]
         generalize hU : (madeCells zv.cells (nn * zv.cells.size)).toList = us at *
         have hst := run_storeCells_at P g (og + off * τ.w) T us 0 cur w k2 (by rw [hul]; omega) hus.ones
         simp only [Nat.add_zero] at hst
         have hown0 : own i (.rows T τ xs) g := by simp [own, k1]
         refine ⟨ρ, .tuple #[], _, _, [g], Pre.refl _, ⟨[], rfl, rfl⟩, .inl rfl, exec ?_, ?_, Ex.setRow w g (cur.toList.take (og + off * τ.w) ++ us ++ cur.toList.drop (og + off * τ.w + us.length)).toArray, fun b hb => ?_, fun q hq _ => List.getElem?_set_ne (by simpa [eq_comm] using hq), Feet.set hr h1 (fun b hb => by simpa [foot, own] using hb)⟩
         ·rw [h2]
          obtain ⟨n', rfl⟩ : ∃ n', nn = n' + 1 := ⟨nn - 1, by omega⟩
          exact xOj hd hzero _ _ _ (by rw [xIn, hU]; exact hst)
         ·refine hh.setr hr h1 hown0 (Ex.setRow w g _) _ ⟨by rw [g0, hnewlen], g1, vs.take (off * τ.w) ++ us ++ vs.drop (off * τ.w + us.length), ?_, ?_⟩ (fun c hc => by simpa [foot, own, k1, eq_comm] using hc) (fun c hc => by simpa [own, k1, eq_comm] using hc)
          ·rw [xDq, xDq, xC8, xC9]
           refine DenL.app (DenL.app (g2.take _) hus) ?_
           rw [hul, ← Nat.add_mul]
           exact g2.drop _
          ·rw [hnewlen]
           refine ⟨?_, hcap, g3.2.2.1, .inr ⟨g, og, _, k1, setRow_heap _ _ _ _ _ _ k2, ?_, ?_⟩⟩
           ·rw [List.length_append, List.length_append, List.length_take, List.length_drop, g3.1, hul]; omega
           ·simp only [List.size_toArray, List.length_append, List.length_take, List.length_drop, Array.length_toList]
            rw [hul]; omega
           ·have hpl := xD2 cur.toList us og (off * τ.w) (xs.length * τ.w) (by rw [hul, ← Nat.add_mul]; exact hall) (by simp only [Array.length_toList]; omega)
            rw [k4] at hpl
            rw [← hpl]
         ·rw [List.mem_singleton] at hb
          subst hb
          exact ⟨id, by simp, _, i, hr, h1, hown0⟩
      ·trivial
    ·trivial
   ·trivial
  ·trivial
 ·trivial
theorem xS3 (hK : KOk N D ρ K a) (hh : HOk S F W0 ρ h w) {t t' : TypeId} {x y : Operand} (ho : o.op = .call ⟨.builtin .copy, ⟨[x, y]⟩, ⟨[t, t']⟩⟩) : xEj P S F W0 ρ h w a o (copyP P K h t x y) := by
 have exec : ∀ {v : Value} {w' : World}, (Builtin.copy_ #[t, t'] o.type #[a.eval x, a.eval y]).run P w = .ok v w' → (execOp a.eval o).run P w = .ok (.value v) w' := by
  intro v w' hr
  unfold execOp
  simp only [ho]
  simp [resolve, invoke, builtin, Sem.run_bind, hr, Result.andThen]
 unfold copyP
 split
 ·rename_i e hd
  split
  ·rename_i inf q hi hy
   split
   ·rename_i id k off n hx
    split
    ·rename_i T τ xs hr
     cases hc1 : (Nat.beq k τ.w && Nat.beq inf.size τ.w && Nat.beq inf.size 1) with
     | false => trivial
     | true =>
      simp only [Bool.and_eq_true] at hc1
      obtain ⟨⟨hc3, hc4⟩, hc5⟩ := hc1
      have hkw := Nat.eq_of_beq_eq_true hc3
      have hsz := Nat.eq_of_beq_eq_true hc4
      have hs1 := Nat.eq_of_beq_eq_true hc5
      have hw1 : τ.w = 1 := by omega
      subst hkw
      simp only [cond_true]
      split
      ·rename_i ys hys
       intro _
       obtain ⟨i, a', c', nn, h1, h2, h3, h4, h5, h6, ⟨m0, h7, h8⟩, h9, h9', h10, h11⟩ := xAb hK hx
       obtain ⟨g0, g1, vs, g2, g3⟩ := hh.ok id _ i hr h1
       rw [g0] at h7; cases h7
       have hdl : xN1 xs.length off n = nn := by
        cases n with
        | none =>
         obtain ⟨m1, e1, e2⟩ := h6
         rw [g0] at e1; cases e1
         exact e2.symm
        | some n0 =>
         simp only [Info.cnt] at h6
         exact h6.symm
       rw [hdl]
       obtain ⟨a2, c2, us0, s1, s2, s3⟩ := xJy hh (xAb hK hy) hys
       have hinf : (P.info? e).map (·.size) = some 1 := by rw [hi, Option.map_some, hs1]
       have hzl : (ys.take nn).length = Nat.min ys.length nn := by rw [List.length_take]; exact Nat.min_comm _ _
       have hus : DenL ρ (flat τ (ys.take nn)) (us0.take (nn * τ.w)) := by rw [xC8]; exact s2.take _
       have hul : (us0.take (nn * τ.w)).length = (ys.take nn).length * τ.w := by rw [hus.len, xCR]
       have hsrc : ∀ (j : Nat) (v : Value), (us0.take (nn * τ.w))[j]? = some v → us0[j]? = some v := fun j v hv => by
        rw [List.getElem?_take] at hv
        split at hv
        ·exact hv
        ·cases hv
       generalize hZ : ys.take nn = zs at *
       generalize hU : us0.take (nn * τ.w) = us at *
       have hzn : zs.length ≤ nn := by rw [hzl]; exact Nat.min_le_right _ _
       have hnewlen : (xs.take off ++ zs ++ xs.drop (off + zs.length)).length = xs.length := by
        rw [List.length_append, List.length_append, List.length_take, List.length_drop]; omega
       rcases Nat.eq_zero_or_pos zs.length with hm | hm
       ·have hz0 : zs = [] := List.length_eq_zero_iff.1 hm
        have e1 : xs.take off ++ zs ++ xs.drop (off + zs.length) = xs := by rw [hz0]; simp
        refine ⟨ρ, goInt 0, _, w, [], Pre.refl _, ?_, .inl rfl, exec ?_, ?_, Ex.refl _ _, by simp, fun q hq _ => List.getElem?_set_ne (by simpa [eq_comm] using hq), ?_⟩
        ·rw [hm]; exact ⟨rfl, rfl⟩
        ·rw [h2, s1]
         exact run_copy_none w t t' o.type e a' a2 nn c' ys.length c2 hd hinf (by rw [← hzl]; exact hm)
        ·rw [e1, xDZ hr]; exact hh
        ·rw [e1, xDZ hr]; exact Feet.refl w
       ·rcases g3.2.2.2 with ⟨k1, _⟩ | ⟨g, og, cur, k1, k2, k3, k4⟩
        ·have := g3.2.1; omega
        ·have hcap := g3.2.1
         have ha' : a' = some ⟨g, og + off * τ.w, none⟩ := by rw [h11 (by omega), k1, Option.map_some, Addr.add_lit]
         subst ha'
         have hyp : 0 < ys.length := by
          have h12 : zs.length ≤ ys.length := by rw [hzl]; exact Nat.min_le_left _ _
          omega
         obtain ⟨b2, o2, s4, s5⟩ := s3 hyp
         subst s4
         have hxw : xs.length * τ.w ≤ i.cap * τ.w := Nat.mul_le_mul_right _ hcap
         have hall : (off + zs.length) * τ.w ≤ xs.length * τ.w := Nat.mul_le_mul_right _ (by omega)
         have hsplit : (off + zs.length) * τ.w = off * τ.w + zs.length * τ.w := Nat.add_mul _ _ _
         have hul1 : us.length = Nat.min ys.length nn := by rw [hul, hw1, Nat.mul_one, hzl]
         have hrun := run_copy_row (P := P) w t t' o.type e g (og + off * τ.w) nn c' ⟨b2, o2, none⟩ ys.length c2 cur T us hd hinf k2 hul1 (fun j v hv => by rw [Addr.add_lit]; exact s5 j v (hsrc j v hv)) (by rw [hul]; omega) hus.ones
         have hown0 : own i (.rows T τ xs) g := by simp [own, k1]
         refine ⟨ρ, goInt us.length, _, _, [g], Pre.refl _, ?_, .inl rfl, exec ?_, ?_, Ex.setRow w g (cur.toList.take (og + off * τ.w) ++ us ++ cur.toList.drop (og + off * τ.w + us.length)).toArray, fun b hb => ?_, fun q hq _ => List.getElem?_set_ne (by simpa [eq_comm] using hq), Feet.set hr h1 (fun b hb => by simpa [foot, own] using hb)⟩
         ·rw [hul, hw1, Nat.mul_one]; exact ⟨rfl, rfl⟩
         ·rw [h2, s1]; exact hrun
         ·refine hh.setr hr h1 hown0 (Ex.setRow w g _) _ ⟨by rw [g0, hnewlen], g1, vs.take (off * τ.w) ++ us ++ vs.drop (off * τ.w + us.length), ?_, ?_⟩ (fun c hc => by simpa [foot, own, k1, eq_comm] using hc) (fun c hc => by simpa [own, k1, eq_comm] using hc)
          ·rw [xDq, xDq, xC8, xC9]
           refine DenL.app (DenL.app (g2.take _) hus) ?_
           rw [hul, ← Nat.add_mul]
           exact g2.drop _
          ·rw [hnewlen]
           refine ⟨?_, hcap, g3.2.2.1, .inr ⟨g, og, _, k1, setRow_heap _ _ _ _ _ _ k2, ?_, ?_⟩⟩
           ·rw [List.length_append, List.length_append, List.length_take, List.length_drop, g3.1, hul]; omega
           ·simp only [List.size_toArray, List.length_append, List.length_take, List.length_drop, Array.length_toList]
            rw [hul]; omega
           ·have hpl := xD2 cur.toList us og (off * τ.w) (xs.length * τ.w) (by rw [hul, ← Nat.add_mul]; exact hall) (by simp only [Array.length_toList]; omega)
            rw [k4] at hpl
            rw [← hpl]
         ·rw [List.mem_singleton] at hb
          subst hb
          exact ⟨id, by simp, _, i, hr, h1, hown0⟩
      ·trivial
    ·trivial
   ·trivial
  ·trivial
 ·trivial
/-- Operations that change memory, or call. -/
theorem xKD (hK : KOk N D ρ K a) (hh : HOk S F W0 ρ h w) : xEj P S F W0 ρ h w a o (xCA P K h o) := by
 unfold xCA
 split
 ·rename_i T ho
  split
  ·rename_i cs hz
   obtain ⟨v, h1, h2⟩ := xGD (ρ := ρ) hz
   intro _
   refine xPM hh (arr := v.cells) h1 ?_
   unfold execOp
   simp only [ho]
   simp only [Instr.alloc, Sem.run_bind, h2 w, Result.andThen_ok, Sem.run_pure]
   rfl
  ·trivial
 ·rename_i T x ho
  split
  ·rename_i cs hx
   obtain ⟨p, h1, h2⟩ := Option.bind_eq_some_iff.1 hx
   intro _
   refine xPM hh (arr := (a.eval x).cells) (xFu (xAb hK h1) h2) ?_
   unfold execOp
   simp only [ho]
   rfl
  ·trivial
 ·rename_i t x y ho
  split
  ·rename_i id k row j cs inf hx hy hi
   cases hb : Nat.beq cs.length inf.size with
   | false => trivial
   | true =>
    have hb' := Nat.eq_of_beq_eq_true hb
    simp only [cond_true]
    split
    ·rename_i r hr
     split
     ·rename_i r' hset
      obtain ⟨p, h1, h2⟩ := Option.bind_eq_some_iff.1 hy
      have hcs := xFu (xAb hK h1) h2
      obtain ⟨i, b, off, h3, h4, h5, h6⟩ := xAb hK hx
      obtain ⟨w', q1, q2, q3, q4, q5, q6, q7⟩ := xOl (P := P) (hh.ok id r i hr h3) hset h5 h4 hcs
      intro _
      refine ⟨ρ, undef, .skip, w', [b], Pre.refl _, rfl, .inr ⟨rfl, rfl⟩, ?_, hh.setr hr h3 q4 q2 r' q3 q5 q6 q7, q2, fun c hc => ?_, fun q hq _ => List.getElem?_set_ne (by simpa [eq_comm] using hq), Feet.set hr h3 (fun c hc => by rw [q5 c hc]; exact xAy q4)⟩
      ·have hsz : (a.eval y).cells.size = inf.size := by
        have := hcs.len
        simp at this; omega
       unfold execOp
       simp only [ho, h6]
       simp only [Instr.storeAt, Instr.sureAddr, storeVar, Sem.run_bind, Sem.run_pure, Result.andThen_ok, xAn hi, hsz, ne_eq, not_true_eq_false, if_false, q1]
      ·rw [List.mem_singleton] at hc
       subst hc
       exact ⟨id, by simp, r, i, hr, h3, q4⟩
     ·trivial
    ·trivial
  ·rename_i c cs inf _ hx hy hi
   cases hb : Nat.beq cs.length inf.size with
   | false => trivial
   | true =>
    have hb' := Nat.eq_of_beq_eq_true hb
    simp only [cond_true]
    split
    ·rename_i t' n k row j hc
     split
     ·rename_i p r hr
      split
      ·rename_i g r' hset
       intro hgg
       obtain ⟨pv, h1, h2⟩ := Option.bind_eq_some_iff.1 hy
       have hcs := xFu (xAb hK h1) h2
       obtain ⟨p', hp, hrr, ht⟩ := xBh hr
       rw [Nat.zero_add] at hp; subst hp
       have hn : n ≠ 0 := fun e => by
        subst e
        cases r with
        | ars t2 T τ os =>
         simp only [xOP] at hset
         cases hk : Nat.beq k τ.w with
         | false => rw [hk] at hset; cases hset
         | true =>
          rw [hk] at hset; simp only [cond_true] at hset
          split at hset
          ·split at hset
           ·cases hset; have := of_decide_eq_true hgg.1; simp [rowAt] at this
           ·cases hset
          ·cases hset
        | aro t2 T τ os =>
         simp only [xOP] at hset
         cases hk : Nat.beq row 0 with
         | false => rw [hk] at hset; cases hset
         | true =>
          rw [hk] at hset; simp only [cond_true] at hset
          split at hset
          ·split at hset
           ·cases hset; obtain ⟨m, hm, _⟩ := xIZ hgg.1; omega
           ·cases hset
          ·cases hset
        | _ => cases hset
       obtain ⟨m, id, i0, u, b, off, len, g1, g2, g3, g4, g5, g6⟩ := xPn (xAb hK hx) hc hn
       obtain ⟨i, hi2⟩ := hh.info hrr
       have h7 := hh.cov p t' r i hrr hi2 ht id i0 m u g2 g3
       obtain ⟨w', q1, q2, q3, q4, q5, q7⟩ := xTk (P := P) (hh.ok p r i hrr hi2) ht hset hgg.1 g1 h7 g4 g5 hcs
       refine ⟨ρ, undef, .skip, w', [b], Pre.refl _, rfl, .inr ⟨rfl, rfl⟩, ?_, hh.setg hrr hi2 q4 q2 r' q3 q5 q7, q2, fun c hc => ?_, fun q hq _ => List.getElem?_set_ne (by simpa [eq_comm] using hq), Feet.set hrr hi2 (fun c hc => xAy (q5 c hc))⟩
       ·have hsz : (a.eval y).cells.size = inf.size := by
         have := hcs.len
         simp at this; omega
        unfold execOp
        simp only [ho, g6]
        simp only [Instr.storeAt, Instr.sureAddr, storeVar, Sem.run_bind, Sem.run_pure, Result.andThen_ok, xAn hi, hsz, ne_eq, not_true_eq_false, if_false, q1]
       ·rw [List.mem_singleton] at hc
        subst hc
        exact ⟨p, by simp, r, i, hrr, hi2, q4⟩
      ·trivial
     ·trivial
    ·trivial
  ·trivial
 ·rename_i f fs cs ho
  split
  ·rename_i x y hx hy
   intro _
   refine ⟨ρ ++ [⟨none, 0, none, .func (.func f) (fs.map a.eval).toArray (cs.map a.eval).toArray⟩], _, _, w, [], Pre.app _ _, ⟨_, xFN hh _, rfl, rfl⟩, .inl rfl, ?_, ?_, Ex.refl _ _, by simp, fun q _ hq => List.getElem?_append_left hq, Feet.app hh.len rfl (fun _ _ h => .inr h) (fun b hb => by cases hb)⟩
   ·unfold execOp
    simp only [ho]
    simp [Instr.makeFunc, Sem.run_bind, Result.andThen]
   ·exact hh.add (Ex.refl _ _) _ _ ⟨_, _, (xKj hK hx).mono (Pre.app _ _), (xKj hK hy).mono (Pre.app _ _), rfl⟩ (fun b hb => by cases hb)
  ·trivial
 ·rename_i t n parts ho; exact xIw hK hh ho
 ·rename_i t l c ho; exact xSy hK hh ho
 ·rename_i s x t t' ho
  cases hb : Nat.beq t t' with
  | false => trivial
  | true =>
   have := Nat.eq_of_beq_eq_true hb
   subst this
   exact xOR hK hh ho
 ·rename_i f args ts ho; exact xTc hK hh ho
 ·rename_i t r ho; exact xMc hK hh ho
 ·rename_i x t ho; exact xRb hK hh ho
 ·rename_i x y t t' ho; exact xS3 hK hh ho
 ·rename_i t m x y ho; exact xIP hK hh (.inl ho)
 ·rename_i t m x y ho; exact xIP hK hh (.inr ho)
 ·rename_i t m x ho; exact xK1 hK hh ho
 ·rename_i t m x y ho; exact xIu hK hh ho
 ·rename_i t x lo hi mx ho; exact xOg hK hh ho
 ·rename_i m x t ts ho; exact xOr hK hh ho
 ·trivial
end
end Go.Proofs.YtcbbhiobibhdnaaDoor
