/- A range over a function, run on data: the statement, and the function that it stands in. No condition. -/
import Derived.Test.YteimbckgldkcgaaGreatDoorWY9
namespace Go.Proofs.YteimbckgldkcgaaGreatDoor
noncomputable section
open Go.RowKit
section
variable {P : Program} {S F S0 F0 : List Nat} {W0 B : World} {ρ ρ' : List Info} {h h' : List Root} {w w' : World}
theorem HOk.start (hh : HOk S F w ρ h w) (hE : Ext w B) : HOk S F B ρ h B := by
  have h1 := hh.ext' hE
  refine ⟨Ex.refl _ _, h1.len, h1.ok, h1.sep, fun p r i b hr hi ho => ?_, fun p r i b hr hi ho => ?_, h1.layW, fun b hb => ⟨h1.outW hb, (hh.out b hb).2⟩⟩
  · have := (hh.ok p r i hr hi).lt (own_foot ho)
    rcases hh.mine p r i b hr hi ho with h2 | h2
    · omega
    · exact .inr h2
  · have := (hh.ok p r i hr hi).lt ho
    rcases hh.near p r i b hr hi ho with h2 | h2
    · omega
    · exact .inr h2
theorem own_lt (hh : HOk S0 F0 W0 ρ h w) {b : Nat} (hb : b ∈ blocksOf own ρ h (List.range h.length)) : b < w.heap.size := by
  obtain ⟨p, _, r, i, hr, hi, ho⟩ := blocksOf_mem.1 hb
  exact (hh.ok p r i hr hi).lt (own_foot ho)
theorem merge_all (hl : h.length ≤ h'.length) : merge (List.range h.length) h h' 0 = h' := by
  apply List.ext_getElem?
  intro q
  have hl2 := merge_len (List.range h.length) h h' 0 hl
  cases e : (merge (List.range h.length) h h' 0)[q]? with
  | none =>
    have := List.getElem?_eq_none_iff.1 e
    rw [hl2] at this
    exact (List.getElem?_eq_none_iff.2 this).symm
  | some r =>
    rcases merge_get (List.range h.length) h h' 0 q r hl e with ⟨h1, _⟩ | ⟨h1, h2⟩
    · exact h1.symm
    · have h3 := (List.getElem?_eq_some_iff.1 h1).1
      have : (List.range h.length).any (Nat.beq (0 + q)) = true := any_beq.2 (List.mem_range.2 (by omega))
      rw [h2] at this; cases this
/-- Back in the frame around. -/
theorem HOk.back (hh : HOk S0 F0 W0 ρ h w) (hp : Pre ρ ρ') (hE : Ext w B) (hc : HOk (blocksOf own ρ h (List.range h.length)) (blocksOf foot ρ h (List.range h.length)) B ρ' h' w') : HOk S0 F0 W0 ρ' h' w' := by
  have := hh.merged (List.range h.length) hp (hc.base hE hh.layW fun b hb => ⟨hh.outW hb, (hc.out b hb).2⟩)
  rwa [merge_all (by rw [← hh.len, ← hc.len]; exact hp.len)] at this
end
abbrev mark (b : Nat) : Deferred := { target := .collected b, args := #[] }
/-- The function that is ranged over, run. -/
def rfEv (P : Program) (pl : Nat → Nat → Option PT) (call : (β : Type) → CallF β) (N : Nat) (ysp : Nat → Option Nat) (LS : Sch) (oo : Outs) (LM : LS.ty → Option (OutTy oo)) (an : AY) (gf na : Nat) (ps : List Nat) (as bd : Code) (β : Type) (j : Nat) (K : Slo) (h : List Root) (kk : Option XT → List Root → Option β) : Option β :=
  match h[j]? with
  | some (.clo g fs cs) => bif Nat.beq g gf && callable P gf && Nat.beq (fs.length + 1 + cs.length) na then match P.funcs[gf]? with
    | some fn => match fn.body with
      | some c => evY P (pl gf) call (h.length + 1) (tmpsOf P gf na) h.length (fun γ args h' k => rnd P call N ps as bd K γ args h' k) ysp LS oo LM 300 an c β
          (parK 0 (fs.map .c ++ [.c (.hv h.length)] ++ cs.map .c)) (h ++ [.dead]) none (fun e K' h' p => match e with
            | .exit _ => none
            | _ => match retP P K' h' fn.results.toList with
              | some _ => kk p h'
              | none => none)
      | none => none
    | none => none
    else none
  | _ => none
section
variable {P : Program} {S0 F0 : List Nat} {W0 : World}
theorem DenArgs.one {ρ : List Info} {p : PV} {v : Value} (h : DenP ρ p v) : DenArgs ρ [p] [v] := ⟨v, [], rfl, h, rfl⟩
theorem range_ok {call : (β : Type) → CallF β} (hcall : ∀ β, CallOk P (call β)) (hmx : P.follows .mixedOrders = true) {A : Plans} (hA : PlansOk P A) {N na : Nat} {ysp : Nat → Option Nat} {LS : Sch} {oo : Outs} {LM : LS.ty → Option (OutTy oo)} {an : AY} {gf : Nat} {gop : Operand} {ps : List Nat} {as bd : Code} {K : Slo} {j : Nat} {h : List Root}
    (hL : ∀ (n l : Nat) (S F : List Nat) (B : Option XT → World) (ρ0 : List Info), ρ0.length = h.length + 1 → (∃ i, ρ0[h.length]? = some i ∧ i.val = .func (.yield l) #[] #[]) → YlOk P (n - 1) l S F B ρ0 (fun γ args h' k => rnd P call N ps as bd K γ args h' k) → AYok (LoopY P n (tmpsOf P gf na) S F B ρ0 LS oo LM) an (bodyOf P gf))
    {β : Type} {kk : Option XT → List Root → Option β} {x : β} {D : List Deferred} (hr : rfEv P (plOf A) call N ysp LS oo LM an gf na ps as bd β j K h kk = some x) {ρ : List Info} {a : Act} {w : World} (hK : KOk N D ρ K a) (hh : HOk S0 F0 W0 ρ h w) (hg : evalP K gop = some (.c (.hv j))) {Q : Exit → Act → World → Prop}
    (hn : ∀ (p : Option XT) (ρ' : List Info) (h' : List Root) (B w' : World) (a' : Act), Pre ρ ρ' → kk p h' = some x → Ext w B → B.heap[w.heap.size]? = some (.deferred (some [])) → HOk (blocksOf own ρ h (List.range h.length)) (blocksOf foot ρ h (List.range h.length)) B ρ' h' w' → KOk N (mark w.heap.size :: D) ρ' K a' → Q (p.getD .normal).out a' w') :
    (Code.rangeFunc gop ps.toArray as bd).wpIn (RFo none) 6 P Q a w := by
  unfold rfEv at hr
  split at hr
  · rename_i g fs cs hclo
    cases hb : (Nat.beq g gf && callable P gf && Nat.beq (fs.length + 1 + cs.length) na) with
    | false => rw [hb] at hr; cases hr
    | true =>
      rw [hb] at hr
      simp only [cond_true] at hr
      simp only [Bool.and_eq_true] at hb
      have hgf := Nat.eq_of_beq_eq_true hb.1.1
      have hna := Nat.eq_of_beq_eq_true hb.2
      subst hgf
      split at hr
      · rename_i fn hfn
        split at hr
        · rename_i c hc
          refine wpIn_rangeFunc ?_
          intro fid hfid
          obtain ⟨i0, hi0, hv0, _⟩ := evalP_ok hK hg
          obtain ⟨us, vs, hus, hvs, hval⟩ := hh.ok j _ i0 hclo hi0
          rw [hval] at hv0
          obtain ⟨rec, hrec⟩ : ∃ rec : Loop, rec = { state := .ready, pending := none, fn := fid, tmps := a.tmps, params := ps.toArray, assign := as, body := bd, defers := w.heap.size } := ⟨_, rfl⟩
          obtain ⟨W1, hW1⟩ : ∃ W1, (w.alloc (.deferred (some []))).alloc (.loop rec) = W1 := ⟨_, rfl⟩
          have hE1 : Ext w W1 := by rw [← hW1]; exact ((Ex.refl _ _).alloc _).alloc _
          have hs1 : W1.heap.size = w.heap.size + 2 := by rw [← hW1]; simp
          have hL1 : W1.heap[w.heap.size + 1]? = some (.loop rec) := by
            rw [← hW1]; have := World.alloc_heap_new (w.alloc (.deferred (some []))) (.loop rec); rwa [World.size_alloc] at this
          have hD1 : W1.heap[w.heap.size]? = some (.deferred (some [])) := by
            rw [← hW1]; exact blk_alloc (blk_new _ _)
          obtain ⟨S, hSd⟩ : ∃ S, S = blocksOf own ρ h (List.range h.length) := ⟨_, rfl⟩
          obtain ⟨F, hFd⟩ : ∃ F, F = blocksOf foot ρ h (List.range h.length) := ⟨_, rfl⟩
          have hSlt : ∀ b ∈ S, b < w.heap.size := fun b hb => own_lt hh (by rw [← hSd]; exact hb)
          have hh0 : HOk S F W1 ρ h W1 := by
            have := hh.enterAll
            rw [← hSd, ← hFd] at this
            exact this.start hE1
          have hlS : w.heap.size + 1 ∉ S := fun hm => by have := hSlt _ hm; omega
          have hdS : w.heap.size ∉ S := fun hm => by have := hSlt _ hm; omega
          obtain ⟨B, hB⟩ : ∃ B : Option XT → World, B = fun p => match p with
            | none => W1
            | some e => W1.putObj (w.heap.size + 1) (.loop (recOf rec (some e))) := ⟨_, rfl⟩
          have hl1 : w.heap.size + 1 < W1.heap.size := by omega
          have hR : Recs (w.heap.size + 1) rec B := by
            have hto : ∀ p, Ex [w.heap.size + 1] W1 (B p) := fun p => by
              rw [hB]
              cases p with
              | none => exact Ex.refl _ _
              | some e => exact ⟨rfl, rfl, rfl, by simp, fun k _ hk => World.putObj_heap_other (by simpa using hk)⟩
            have hsz : ∀ p, (B p).heap.size = W1.heap.size := fun p => by rw [hB]; cases p <;> simp
            refine ⟨by rw [hrec], by rw [hrec], fun p => ?_, fun p q => ?_, fun p q => by rw [hsz, hsz]⟩
            · rw [hB]
              cases p with
              | none => rw [recOf_none (by rw [hrec]) (by rw [hrec])]; exact hL1
              | some e => exact World.putObj_heap_same hl1
            · have h1 := hto p
              have h2 := hto q
              exact ⟨h2.os.trans h1.os.symm, h2.tape.trans h1.tape.symm, h2.output.trans h1.output.symm, by rw [hsz, hsz]; exact Nat.le_refl _, fun k hk hkl => by
                rw [h1.block k (by rw [← hsz p]; exact hk) hkl, h2.block k (by rw [← hsz p]; exact hk) hkl]⟩
          have hBn : B none = W1 := by rw [hB]
          obtain ⟨iy, hiy⟩ : ∃ iy : Info, iy = ⟨none, 0, none, .func (.yield (w.heap.size + 1)) #[] #[]⟩ := ⟨_, rfl⟩
          have hh1 : HOk S F (B none) (ρ ++ [iy]) (h ++ [.dead]) W1 := by
            rw [hBn]
            exact hh0.add (Ex.refl _ _) iy .dead trivial (fun b hb => by cases hb)
          have hlen : (ρ ++ [iy]).length = h.length + 1 := by simp [hh.len]
          have hyj : (ρ ++ [iy])[h.length]? = some iy := by rw [← hh.len]; simp
          have hyy : ∃ i, (ρ ++ [iy])[h.length]? = some i ∧ i.val = .func (.yield (w.heap.size + 1)) #[] #[] := ⟨iy, hyj, by rw [hiy]⟩
          have hK0 : KOk N [] (ρ ++ [iy]) K { tmps := rec.tmps, defers := [] } := by
            have : KOk N [] ρ K { tmps := rec.tmps, defers := [] } := ⟨by rw [hrec]; exact hK.1, rfl, fun t p e => by rw [hrec]; exact hK.2.2 t p e⟩
            exact this.mono (Pre.app _ _)
          have hY : ∀ n, YlOk P n (w.heap.size + 1) S F B (ρ ++ [iy]) (fun γ args h' k => rnd P call N ps as bd K γ args h' k) := fun n γ args h' k y hy ρ' vs' W hp ha hW =>
            rnd_ok hcall hmx hR hlS (by rw [hrec]) (by rw [hrec]) (by rw [hrec]) hK0 hy hp ha hW
          obtain ⟨yv, hyv⟩ : ∃ yv : Value, yv = .func (.yield (w.heap.size + 1)) #[] #[] := ⟨_, rfl⟩
          refine ⟨w.heap.size + 1, [mark w.heap.size], W1, { target := .fn (.func g) vs.toArray, args := us.toArray.push yv }, W1, g,
            us.toArray.push yv ++ vs.toArray, W1, ?_, ?_, fun _ _ => trivial, ?_, fun hd => by simp [RFo, Fence.wide] at hd, ?_⟩
          · rw [← hW1, hrec]; exact run_enterLoop_outer _ _ _ _ _
          · simp only [resolve, hv0]
            rw [hyv]
            simp [Deferred.ofValue, Act.eval]
          · simp [invoke, callFunc_run hb.1.2]
          · refine calls_in none ?_
            have hargs : us.toArray.push yv ++ vs.toArray = (us ++ [yv] ++ vs).toArray := by simp
            rw [hargs]
            have hden : DenArgs (ρ ++ [iy]) (fs.map .c ++ [.c (.hv h.length)] ++ cs.map .c) (us ++ [yv] ++ vs) := by
              refine DenArgs.app (DenArgs.app (DenArgs.cvs (hus.mono (Pre.app _ _))) (DenArgs.one ?_)) (DenArgs.cvs (hvs.mono (Pre.app _ _)))
              exact ⟨iy, hyj, by rw [hiy, hyv], by rw [hiy]; rfl⟩
            have hsz : (us ++ [yv] ++ vs).length = fs.length + 1 + cs.length := by
              have h1 := hus.len
              have h2 := hvs.len
              simp only [List.length_append, List.length_singleton]
              omega
            have hreg : regsOk (plOf A g) c = true := plOf_ok hA hfn hc
            have hbody : bodyOf P g = c := by simp [bodyOf, hfn, hc]
            have hNit : tmpsOf P g na = na + (fn.ntmps - na) := by simp [tmpsOf, hfn]
            have hAY := hL 6 (w.heap.size + 1) S F B (ρ ++ [iy]) hlen hyy (hY 5)
            rw [hbody] at hAY
            refine (calls_of_wp (R := fun e w' => ∃ v, e = .returned v ∧ ∃ p ρ' h', Pre (ρ ++ [iy]) ρ' ∧ HOk S F (B p) ρ' h' w' ∧ kk p h' = some x) hfn hc (wpIn_wide.1 (evY_ok (n := 6) (m := h.length + 1) (N := tmpsOf P g na) hcall hmx (hY 5) hyy (by rw [hlen]; exact Nat.le_refl _) 300 an c hAY hreg β _ _ none _ x hr (ρ ++ [iy]) _ W1 (Pre.refl _) ⟨by rw [hNit, ← hna, ← hsz]; simp, rfl, fun t p hp => ?_⟩ hh1 _ (fun e ρ' K' h' p' a' w' hp he hK' hh' => ?_)))).mono ?_
            · obtain ⟨_, h2⟩ := parK_get _ _ _ _ hp
              rw [Nat.sub_zero] at h2
              obtain ⟨v, h3, h4⟩ := hden.get h2
              refine ⟨v, h4, ?_⟩
              have hlt := (List.getElem?_eq_some_iff.1 h3).1
              show ((us ++ [yv] ++ vs).toArray ++ Array.replicate _ undef)[t]? = some v
              rw [Array.getElem?_append_left (by simpa using hlt)]
              simpa using h3
            · have fin : (match retP P K' h' fn.results.toList with
                | some _ => kk p' h'
                | none => none) = some x → a'.defers = [] ∧ ∃ v, (results fn a'.tmps).run P w' = .ok v w' ∧ ∃ v', Ending.returned v = .returned v' ∧ ∃ p ρ' h', Pre (ρ ++ [iy]) ρ' ∧ HOk S F (B p) ρ' h' w' ∧ kk p h' = some x := by
                intro hm2
                split at hm2
                · rename_i v hv
                  obtain ⟨u, _, h2⟩ := retP_ok hK' hh' hv
                  exact ⟨hK'.2.1, u, h2, u, rfl, p', ρ', h', hp, hh', hm2⟩
                · cases hm2
              cases e with
              | normal => exact fin he
              | exit id => cases he
              | ret => exact fin he
            · rintro e w' ⟨v, rfl, p, ρ', h', hp, hh', hk⟩
              have hl2 : w'.heap[w.heap.size + 1]? = some (.loop (recOf rec p)) := hh'.kept (hR.at' p) hlS
              have hnb : (recOf rec p).state ≠ .busy := by unfold recOf; cases p <;> simp
              have hpend : (recOf rec p).pending = p.map XT.code := rfl
              have hend := run_endLoop (P := P) hl2 hnb
              rw [hpend] at hend
              have hszB : (B p).heap.size = W1.heap.size := by rw [← hBn]; exact hR.size p none
              have hxB : Ex [w.heap.size + 1] W1 (B p) := by rw [← hBn]; exact hR.ex none p
              have hE4 : Ext w ((B p).putObj (w.heap.size + 1) (.loop { recOf rec p with state := .exhausted })) := by
                refine ⟨hxB.os.trans hE1.os, hxB.tape.trans hE1.tape, hxB.output.trans hE1.output, by simp; omega, fun k hk _ => ?_⟩
                rw [World.putObj_heap_other (by omega), hxB.block k (by omega) (by simp; omega), hE1.block k hk (by simp)]
              have hh4 : HOk S F ((B p).putObj (w.heap.size + 1) (.loop { recOf rec p with state := .exhausted })) ρ' h' (w'.putObj (w.heap.size + 1) (.loop { recOf rec p with state := .exhausted })) :=
                hh'.putObj hl2 rfl ⟨rfl, rfl, rfl, by simp, fun k _ hk => World.putObj_heap_other (by simpa using hk)⟩ (by simp) (World.putObj_heap_same (by omega))
              have hD4 : ((B p).putObj (w.heap.size + 1) (.loop { recOf rec p with state := .exhausted })).heap[w.heap.size]? = some (.deferred (some [])) := by
                rw [World.putObj_heap_other (by omega), hxB.block _ (by omega) (by simp)]
                exact hD1
              have hpp : Pre ρ ρ' := (Pre.app ρ [iy]).trans hp
              have hKa : KOk N (mark w.heap.size :: D) ρ' K { a with defers := [mark w.heap.size] ++ a.defers } := by
                have := hK.mono hpp
                exact ⟨this.1, by rw [this.2.1]; rfl, this.2.2⟩
              rw [hSd, hFd] at hh4
              have hQ := hn p ρ' h' _ _ _ hpp hk hE4 hD4 hh4 hKa
              refine ⟨p.map XT.code, _, hend, ?_⟩
              cases p with
              | none => exact hQ
              | some e =>
                cases e with
                | normal => exact wpIn_skip hQ
                | exit id => exact wpIn_exit hQ
                | ret => exact wpIn_ret hQ
        · cases hr
      · cases hr
  · cases hr
end
end
end Go.Proofs.YteimbckgldkcgaaGreatDoor
