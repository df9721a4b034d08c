/- Operations that make something new: what they make does not hang on when. No condition. -/
import Derived.Test.YthmicafabimfkaaWZR
namespace Go.Proofs.Ythmicafabimfkaa
noncomputable section
open Go.RowKit
section
variable {P : Program} {N : Nat} {D : List Deferred} {S F : List Nat} {W0 : World} {ρ : List Info} {K : Slo} {h : List Root} {w : World} {a : Act} {o : Oper}
def AlSpec (P : Program) (ρ : List Info) (h : List Root) (a : Act) (o : Oper) (v : PV) (h2 : List Root) : Prop :=
  ∃ (r : Root) (info : Nat → Info) (mk : Nat → Value) (obj : Obj), h2 = h ++ [r] ∧ (∀ w : World, (execOp a.eval o).run P w = .ok (.value (mk w.heap.size)) (w.alloc obj)) ∧
    ∀ (w1 : World) (b : Nat), w1.heap[b]? = some obj → RootOk (ρ ++ [info b]) w1 (info b) r ∧ DenP (ρ ++ [info b]) v (mk b) ∧ (∀ c, foot (info b) r c → c = b) ∧ (∀ t, (info b).objs t = []) ∧ r.tag = none
theorem new_get' (hl : ρ.length = h.length) (i : Info) : (ρ ++ [i])[h.length]? = some i := by
  rw [List.getElem?_append_right (by omega), ← hl]; simp
theorem al_blk (hl : ρ.length = h.length) {cs : List CV} {T : TypeId} {arr : Array Value} (hd : DenL ρ cs arr.toList) (hrun : ∀ w : World, (execOp a.eval o).run P w = .ok (.value (.pointer (some ⟨w.heap.size, 0, none⟩))) (w.alloc (.cells arr T (0, 0)))) :
    AlSpec P ρ h a o (.c (.pt h.length 0 0 0)) (h ++ [.blk cs T]) := by
  refine ⟨_, fun b => ⟨some ⟨b, 0, none⟩, cs.length, none, .nilFunc⟩, fun b => .pointer (some ⟨b, 0, none⟩), .cells arr T (0, 0), rfl, hrun, fun w1 b hb => ⟨⟨⟨rfl, rfl⟩, b, arr.toList, rfl, hd.mono (Pre.app _ _), by simpa using hb⟩, ⟨_, b, 0, new_get' hl _, rfl, ⟨fun m hm => (by cases hm), fun _ h0 => (by cases h0)⟩, rfl⟩, fun c hc => ?_, fun _ => rfl, rfl⟩⟩
  simpa [foot, own, eq_comm] using hc
theorem al_rows (hl : ρ.length = h.length) {T : TypeId} {τ : TC} {xs : List τ.ty} (hw : 0 < τ.w) {us : List Value} (hd : DenL ρ (flat τ xs) us) {arr : Array Value} {cap : Nat} (h1 : xs.length ≤ cap) (h2 : cap ≤ maxLen) (h3 : arr.size = cap * τ.w) (h4 : arr.toList.take (xs.length * τ.w) = us)
    (hrun : ∀ w : World, (execOp a.eval o).run P w = .ok (.value (.slice (some ⟨w.heap.size, 0, none⟩) xs.length cap)) (w.alloc (.cells arr T (0, 0)))) :
    AlSpec P ρ h a o (.c (.sl h.length τ.w 0 none none)) (h ++ [.rows T τ xs]) := by
  refine ⟨_, fun b => ⟨some ⟨b, 0, none⟩, cap, some xs.length, .nilFunc⟩, fun b => .slice (some ⟨b, 0, none⟩) xs.length cap, .cells arr T (0, 0), rfl, hrun, fun w1 b hb => ⟨⟨rfl, hw, us, hd.mono (Pre.app _ _), ?_, h1, h2, .inr ⟨b, 0, arr, rfl, hb, (by show 0 + cap * τ.w ≤ arr.size; omega), by simpa using h4⟩⟩, ⟨_, _, cap, xs.length, new_get' hl _, rfl, h1, h2, fun _ => ⟨b, 0, rfl⟩, ⟨_, rfl, (Nat.sub_zero _).symm⟩, ⟨_, rfl, by omega⟩, (Nat.sub_zero _).symm, rfl, fun _ => rfl, fun _ => ?_⟩, fun c hc => ?_, fun _ => rfl, rfl⟩⟩
  · rw [hd.len, flat_len]
  · simp [Addr.add]
  · simpa [foot, own, eq_comm] using hc
theorem makeP_al (hK : KOk N D ρ K a) (hl : ρ.length = h.length) {t : TypeId} {l c : Operand} (ho : o.op = .makeSlice t l c) {g : List Bool} {v : PV} {h2 : List Root} {tt : List Nat} (hs : makeP P K h t l c = .mem g v h2 tt) (hg : AllB g) : AlSpec P ρ h a o v h2 := by
  have exec : ∀ {v : Value} {w w' : World}, (Instr.makeSlice t (a.eval l) (a.eval c)).run P w = .ok v w' → (execOp a.eval o).run P w = .ok (.value v) w' := by
    intro v w w' hr
    unfold execOp
    simp only [ho]
    simp [Sem.run_bind, hr, Result.andThen]
  unfold makeP at hs
  split at hs
  · rename_i e hd
    split at hs
    · rename_i inf z hi hz
      obtain ⟨zv, hzv, hzd⟩ := zeroL_info (ρ := ρ) hz hi
      cases hc : (Nat.beq z.length inf.size && smallB inf.bytes && Nat.beq inf.size (tcOf P 20 e).w && Nat.ble 1 inf.size) with
      | false => rw [hc] at hs; cases hs
      | true =>
        rw [hc] at hs
        simp only [Bool.and_eq_true] at hc
        obtain ⟨⟨⟨hc1, hc2⟩, hc3⟩, hc4⟩ := hc
        have hzs : zv.cells.size = inf.size := by
          have h1 := hzd.len
          have h2 := Nat.eq_of_beq_eq_true hc1
          simp at h1; omega
        have hsm : 1000000 * inf.bytes ≤ 140737488355328 := Nat.le_of_ble_eq_true hc2
        have hsz := Nat.eq_of_beq_eq_true hc3
        have hpos := Nat.le_of_ble_eq_true hc4
        have hbytes : ∀ q : Int, 0 ≤ q → q ≤ 1000000 → (inf.bytes : Int) * q ≤ 281474976710656 := fun q h0 hq => by
          have h1 := Nat.mul_le_mul_left inf.bytes (show q.toNat ≤ 1000000 by omega)
          have h2 : ((inf.bytes * q.toNat : Nat) : Int) ≤ 281474976710656 := by
            rw [Nat.mul_comm inf.bytes 1000000] at h1; omega
          rw [Int.natCast_mul] at h2
          rwa [Int.toNat_of_nonneg h0] at h2
        simp only [cond_true] at hs
        split at hs
        · rename_i x y z0 hlx hcv hz0
          have h5 : a.eval l = .int .i64 x := den_int (ρ := ρ) (evalP_ok hK hlx)
          have h6 : a.eval c = .int .i64 y := den_int (ρ := ρ) (evalP_ok hK hcv)
          cases hb : sameT l c with
          | true =>
            rw [hb] at hs
            have hb' := sameT_eq hb
            subst hb'
            simp only [cond_true] at hs
            rw [hlx] at hcv
            cases hcv
            cases hs
            have hg1 : 0 ≤ x ∧ x ≤ 1000000 := by simpa using hg.1
            have e2 := TC.dec1_enc hz0
            have hn : (List.replicate x.toNat z0).length = x.toNat := List.length_replicate
            have hdl : DenL ρ (flat (tcOf P 20 e) (List.replicate x.toNat z0)) (madeCells zv.cells (x.toNat * inf.size)).toList := by
              rw [← hzs, madeCells_rep, flat_rep, ← e2]
              exact repL_ok (nilCs_ok hzd) _
            rw [hsz]
            refine al_rows hl (T := e) (by omega) hdl (arr := madeCells zv.cells (x.toNat * inf.size)) (cap := x.toNat) (by rw [hn]; exact Nat.le_refl _) (by unfold maxLen; omega) (by rw [size_madeCells, hsz]) (List.take_of_length_le (by rw [hn, ← hsz, Array.length_toList, size_madeCells]; exact Nat.le_refl _)) (fun w => exec (by rw [h5, hn]; exact run_make w t e inf zv hd hi hzv .i64 .i64 x x hg1.1 (Int.le_refl _) (hbytes x hg1.1 hg1.2) (by omega)))
          | false =>
            rw [hb] at hs
            simp only [cond_false] at hs
            split at hs
            · cases hs
              have hg1 : 0 ≤ y ∧ y ≤ 1000000 := by simpa using hg.1
              rw [hsz]
              refine al_rows hl (T := e) (τ := tcOf P 20 e) (xs := []) (by omega) (us := []) rfl (arr := madeCells zv.cells (y.toNat * inf.size)) (cap := y.toNat) (Nat.zero_le _) (by unfold maxLen; omega) (by rw [size_madeCells, hsz]) (by simp) (fun w => exec (by rw [h5, h6]; exact run_make w t e inf zv hd hi hzv .i64 .i64 0 y (Int.le_refl _) hg1.1 (hbytes y hg1.1 hg1.2) (by omega)))
            · cases hs
        · cases hs
    · cases hs
  · cases hs
theorem buildSliceP_al (hK : KOk N D ρ K a) (hl : ρ.length = h.length) {t : TypeId} {n : Nat} {parts : Array (Nat × Operand)} (ho : o.op = .buildSlice t n parts) {g : List Bool} {v : PV} {h2 : List Root} {tt : List Nat} (hs : buildSliceP P K h t n parts = .mem g v h2 tt) : AlSpec P ρ h a o v h2 := by
  have hmap : (parts.map fun (i, x) => (i, a.eval x)).toList = parts.toList.map (fun p => (p.1, a.eval p.2)) := by simp
  unfold buildSliceP at hs
  split at hs
  · rename_i e hd
    split at hs
    · rename_i inf z ps hi hz hp
      obtain ⟨zv, hzv, hzd⟩ := zeroL_info (ρ := ρ) hz hi
      cases hc : (Nat.beq z.length inf.size && Nat.beq inf.size (tcOf P 20 e).w && Nat.ble 1 inf.size && Nat.ble (n * inf.size) 16777216) with
      | false => rw [hc] at hs; cases hs
      | true =>
        rw [hc] at hs
        simp only [Bool.and_eq_true] at hc
        obtain ⟨⟨⟨hc1, hc3⟩, hc4⟩, hc5⟩ := hc
        have hzs : zv.cells.size = inf.size := by
          have h1 := hzd.len
          have h2 := Nat.eq_of_beq_eq_true hc1
          simp at h1; omega
        have hsz := Nat.eq_of_beq_eq_true hc3
        have hpos := Nat.le_of_ble_eq_true hc4
        have hmax := Nat.le_of_ble_eq_true hc5
        simp only [cond_true] at hs
        split at hs
        · rename_i cs hcs
          have hz0 : DenL ρ (repL n z) (madeCells zv.cells (n * inf.size)).toList := by
            rw [← hzs, madeCells_rep]
            exact repL_ok hzd _
          obtain ⟨out, h3, h4⟩ := partsP_ok hK hp (fun i => some (i * inf.size, inf.size)) _ (madeCells zv.cells (n * inf.size)) cs hz0 hcs
          have fin : ∀ (τ : TC) (xs : List τ.ty) (cs' : List CV), DenL ρ cs' out.toList → decAll τ n cs' = some xs → inf.size = τ.w → AlSpec P ρ h a o (.c (.sl h.length inf.size 0 none none)) (h ++ [.rows e τ xs]) := by
            intro τ xs cs' h3 hxs hsz
            obtain ⟨e1, e2⟩ := decAll_ok hxs
            have hos : out.size = n * inf.size := by
              have h5 := h3.len
              rw [e1, flat_len, e2, ← hsz] at h5
              simpa using h5
            have hm0 : ∀ zz : Array Value, n * inf.size = 0 → (Array.range (n * inf.size)).map (fun x => zz[x % zz.size]!) = madeCells zv.cells (n * inf.size) := by
              intro zz h0; rw [h0]; simp [madeCells]
            have hrun : ∀ w : World, (execOp a.eval o).run P w = .ok (.value (.slice (some ⟨w.heap.size, 0, none⟩) n n)) (w.alloc (.cells out e (0, 0))) := by
              intro w
              have hzv2 : (zeroValue e).run P w = .ok zv w := by simp [zeroValue, typeInfo, hi, hzv, Sem.run_bind, Result.andThen]
              unfold execOp
              simp only [ho]
              have hlim : ¬ (n * inf.size > 2 ^ 24) := by omega
              have h4' : Instr.fill (fun i => some (i * inf.size, inf.size)) (madeCells zv.cells (n * inf.size)) (parts.map fun (i, x) => (i, a.eval x)).toList = some out := by rw [hmap]; exact h4
              by_cases h0 : n * inf.size = 0
              · simp only [Instr.buildSlice, Sem.run_bind, run_underlying hd, Result.andThen_ok, size_of_info hi, if_neg hlim, Sem.run_pure, if_pos h0, hm0 _ h0, h4']
                rfl
              · have h4'' : Instr.fill (fun i => some (i * inf.size, inf.size)) ((Array.range (n * inf.size)).map (fun x => zv.cells[x % zv.cells.size]!)) (parts.map fun (i, x) => (i, a.eval x)).toList = some out := h4'
                simp only [Instr.buildSlice, Sem.run_bind, run_underlying hd, Result.andThen_ok, size_of_info hi, if_neg hlim, Sem.run_pure, if_neg h0, hzv2, h4'']
                rfl
            have hmax2 : n ≤ maxLen := by
              unfold maxLen
              have := Nat.le_mul_of_pos_right n hpos
              omega
            rw [hsz]
            exact al_rows hl (T := e) (by omega) (us := out.toList) (by rw [← e1]; exact h3) (arr := out) (cap := n) (by rw [e2]; exact Nat.le_refl _) hmax2 (by rw [hos, hsz]) (List.take_of_length_le (by rw [Array.length_toList, e2, ← hsz, hos]; exact Nat.le_refl _)) (fun w => by rw [e2]; exact hrun w)
          split at hs
          · rename_i xs hxs
            cases hs
            exact fin _ xs _ (nilCs_ok h3) hxs hsz
          · cases hrw : Nat.beq (rawTC (tcOf P 20 e)).w (tcOf P 20 e).w with
            | false => rw [hrw] at hs; cases hs
            | true =>
              rw [hrw] at hs
              simp only [cond_true] at hs
              split at hs
              · rename_i xs hxs
                cases hs
                exact fin _ xs _ h3 hxs (by rw [hsz, Nat.eq_of_beq_eq_true hrw])
              · cases hs
        · cases hs
    · cases hs
  · cases hs
theorem al_plain {P : Program} {K : Slo} {h : List Root} {o : Oper} (ha : alKind o = true) : stepM P K h o = stepM0 P K h o := by
  refine stepM_plain ?_
  unfold alKind at ha
  unfold ghost
  split at ha
  · split at ha <;> first | (rename_i ho; rw [ho]; done) | (cases ha; done)
  · cases ha
theorem al_ok (hK : KOk N D ρ K a) (hl : ρ.length = h.length) (ha : alKind o = true) {g : List Bool} {v : PV} {h2 : List Root} {t : List Nat} (hs : stepM P K h o = .mem g v h2 t) (hg : AllB g) : AlSpec P ρ h a o v h2 := by
  rw [al_plain ha] at hs
  unfold alKind at ha
  split at ha
  · split at ha
    · rename_i T ho
      unfold stepM0 at hs
      rw [ho] at hs
      simp only at hs
      split at hs
      · rename_i cs hz
        cases hs
        obtain ⟨x, h1, h2⟩ := zeroL_ok (ρ := ρ) hz
        refine al_blk hl (arr := x.cells) h1 (fun w => ?_)
        unfold execOp
        simp only [ho]
        simp only [Instr.alloc, Sem.run_bind, h2 w, Result.andThen_ok, Sem.run_pure]
        rfl
      · cases hs
    · rename_i T x ho
      unfold stepM0 at hs
      rw [ho] at hs
      simp only at hs
      split at hs
      · rename_i cs hx
        cases hs
        obtain ⟨p, h1, h2⟩ := Option.bind_eq_some_iff.1 hx
        refine al_blk hl (arr := (a.eval x).cells) (cellsP_ok (evalP_ok hK h1) h2) (fun w => ?_)
        unfold execOp
        simp only [ho]
        rfl
      · cases hs
    · rename_i t n parts ho
      unfold stepM0 at hs
      rw [ho] at hs
      exact buildSliceP_al hK hl ho hs
    · rename_i t l c ho
      unfold stepM0 at hs
      rw [ho] at hs
      exact makeP_al hK hl ho hs hg
    · cases ha
  · cases ha
end
end
end Go.Proofs.Ythmicafabimfkaa
