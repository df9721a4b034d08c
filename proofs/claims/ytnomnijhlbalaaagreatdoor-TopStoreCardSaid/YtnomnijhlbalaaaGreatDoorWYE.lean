/- A part of the proof of the theorem of the last file. No condition. By an AI agent. -/
import Derived.Test.YtnomnijhlbalaaaGreatDoorWY9
namespace Go.Proofs.YtnomnijhlbalaaaGreatDoor
noncomputable section
open Go.RowKit
section
variable {P : Program} {S F S0 F0 : List Nat} {W0 B : World} {O O' : List Info} {h h' : List Root} {w w' : World}
theorem HOk.start (hh : HOk S F w O h w) (hE : Ext w B) : HOk S F B O h B := by
 have h1 := hh.ext' hE;refine ⟨Ex.refl _ _, h1.len, h1.ok, h1.sep, fun p r i b hr hi ho => ?_, fun p r i b hr hi ho => ?_, h1.layW, fun b hb => ⟨h1.outW hb, (hh.out b hb).2⟩, h1.cov, h1.cln⟩
 ·have := (hh.ok p r i hr hi).lt (xAm ho);rcases hh.mine p r i b hr hi ho with h2 | h2
  ·omega
  ·exact .inr h2
 ·have := (hh.ok p r i hr hi).lt ho;rcases hh.near p r i b hr hi ho with h2 | h2
  ·omega
  ·exact .inr h2
theorem own_lt (hh : HOk S0 F0 W0 O h w) {b : Nat} (hb : b ∈ xAk .own O h (List.range h.length)) : b < w.heap.size := by
 obtain ⟨p, _, r, i, hr, hi, ho⟩ := xAc.1 hb;exact (hh.ok p r i hr hi).lt (xAm ho)
end
abbrev mark (b : Nat) : Deferred := { target := .collected b, args := #[] }
def rfEv (P : Program) (pl : Nat -> Nat -> Option PT) (call : (β : Type) -> xAK β) (N : Nat) (ysp : Nat -> Option Nat) (LS : Sch) (oo : xBY) (LM : LS.ty -> Option (xAB oo)) (an : AY) (gf na : Nat) (ps : List Nat) (as1 bd : Code) (β : Type) (j : Nat) (K : Slo) (h : List Root) (kk : Option XT -> List Root -> Option β) : Option β :=
 match h[j]? with
 | some (.clo g fs cs) => bif Nat.beq g gf && xA3 P gf && Nat.beq (fs.length + 1 + cs.length) na then match P.funcs[gf]? with
  | some fn => match fn.body with
   | some c => evY P (pl gf) call (h.length + 1) (xAv P gf na) h.length (fun γ args h' k => rnd P call N ps as1 bd K γ args h' k) ysp LS oo LM 300 an c β
     (xV1 0 (fs.map .c ++ [.c (.hv h.length)] ++ cs.map .c)) (h ++ [.dead]) none (fun e K' h' p => match e with
      | .exit _ => none
      | _ => match xR2 P K' h' fn.results.toList with
       | some _ => kk p h'
       | none => none)
   | none => none
  | none => none
  else none
 | _ => none
section
variable {P : Program} {S0 F0 : List Nat} {W0 : World}
theorem DenArgs.one {O : List Info} {p : PV} {v : Value} (h : DenP O p v) : DenArgs O [p] [v] := ⟨v, [], rfl, h, rfl⟩
theorem xWG {call : (β : Type) -> xAK β} (hcall : ∀ β, xAJ P (call β)) (hmx : P.follows .mixedOrders = true) {A : xFo} (hA : xEy P A) {N na : Nat} {ysp : Nat -> Option Nat} {LS : Sch} {oo : xBY} {LM : LS.ty -> Option (xAB oo)} {an : AY} {gf : Nat} {gop : Operand} {ps : List Nat} {as1 bd : Code} {K : Slo} {j : Nat} {h : List Root}
  (hL : ∀ (n l : Nat) (S F : List Nat) (B : Option XT -> World) (O0 : List Info), O0.length = h.length + 1 -> (∃ i, O0[h.length]? = some i /\ i.val = .func (.yield l) #[] #[]) -> YlOk P (n - 1) l S F B O0 (fun γ args h' k => rnd P call N ps as1 bd K γ args h' k) -> AYok (xXV P n (xAv P gf na) S F B O0 LS oo LM) an (xAi P gf))
  {β : Type} {kk : Option XT -> List Root -> Option β} {x : β} {D : List Deferred} (hr : rfEv P (xFp A) call N ysp LS oo LM an gf na ps as1 bd β j K h kk = some x) {O : List Info} {a : Act} {w : World} (hK : KOk N D O K a) (hh : HOk S0 F0 W0 O h w) (hg : xAo K gop = some (.c (.hv j))) {Q : Exit -> Act -> World -> Prop}
  (hn : ∀ (p : Option XT) (O' : List Info) (h' : List Root) (B w' : World) (a' : Act), Pre O O' -> kk p h' = some x -> Ext w B -> B.heap[w.heap.size]? = some (.deferred (some [])) -> HOk (xAk .own O h (List.range h.length)) (xAk .foot O h (List.range h.length)) B O' h' w' -> KOk N (mark w.heap.size :: D) O' K a' -> Q (p.getD .normal).out a' w') :
  (Code.rangeFunc gop ps.toArray as1 bd).wpIn (RFo none) 6 P Q a w := by
 unfold rfEv at hr;split at hr
 ·rename_i g fs cs hclo
  cases hb : (Nat.beq g gf && xA3 P gf && Nat.beq (fs.length + 1 + cs.length) na) with
  | false => rw [hb] at hr; cases hr
  | true =>
   rw [hb] at hr;simp only [cond_true] at hr;simp only [Bool.and_eq_true] at hb;have hgf := nbT hb.1.1;have hna := nbT hb.2;subst hgf;split at hr
   ·rename_i fn hfn;split at hr
    ·rename_i c hc;refine wpIn_rangeFunc ?_;intro fid hfid;obtain ⟨i0, hi0, hv0, _⟩ := xAa hK hg;obtain ⟨us, vs, hus, hvs, hval⟩ := hh.ok j _ i0 hclo hi0;rw [hval] at hv0;obtain ⟨rec, hrec⟩ : ∃ rec : Loop, rec = { state := .ready, pending := none, fn := fid, tmps := a.tmps, params := ps.toArray, assign := as1, body := bd, defers := w.heap.size } := ⟨_, rfl⟩;obtain ⟨W1, hW1⟩ : ∃ W1, (w.alloc (.deferred (some []))).alloc (.loop rec) = W1 := ⟨_, rfl⟩;have hE1 : Ext w W1 := by rw [<- hW1]; exact ((Ex.refl _ _).alloc _).alloc _
     have hs1 : W1.heap.size = w.heap.size + 2 := by rw [<- hW1]; simp
     have hL1 : W1.heap[w.heap.size + 1]? = some (.loop rec) := by
      rw [<- hW1]; have := World.alloc_heap_new (w.alloc (.deferred (some []))) (.loop rec); rwa [World.size_alloc] at this
     have hD1 : W1.heap[w.heap.size]? = some (.deferred (some [])) := by
      rw [<- hW1]; exact xBB (xAq _ _)
     obtain ⟨S, hSd⟩ : ∃ S, S = xAk .own O h (List.range h.length) := ⟨_, rfl⟩;obtain ⟨F, hFd⟩ : ∃ F, F = xAk .foot O h (List.range h.length) := ⟨_, rfl⟩;have hSlt : ∀ b ∈ S, b < w.heap.size := fun b hb => own_lt hh (by rw [<- hSd]; exact hb);have hh0 : HOk S F W1 O h W1 := by
      have := hh.enterAll;rw [<- hSd, <- hFd] at this;exact this.start hE1
     have hlS : w.heap.size + 1 ∉ S := fun hm => by have := hSlt _ hm; omega
     have hdS : w.heap.size ∉ S := fun hm => by have := hSlt _ hm; omega
     obtain ⟨B, hB⟩ : ∃ B : Option XT -> World, B = fun p => match p with
      | none => W1
      | some e => W1.putObj (w.heap.size + 1) (.loop (xFa rec (some e))) := ⟨_, rfl⟩
     have hl1 : w.heap.size + 1 < W1.heap.size := by omega
     have hR : Recs (w.heap.size + 1) rec B := by
      have hto : ∀ p, Ex [w.heap.size + 1] W1 (B p) := fun p => by
       rw [hB]
       cases p with
       | none => exact Ex.refl _ _
       | some e => exact ⟨rfl, rfl, rfl, by simp, fun k _ hk => World.putObj_heap_other (by simpa using hk)⟩
      have hsz : ∀ p, (B p).heap.size = W1.heap.size := fun p => by rw [hB]; cases p <;> simp
      refine ⟨by rw [hrec], by rw [hrec], fun p => ?_, fun p q => ?_, fun p q => by rw [hsz, hsz]⟩
      ·rw [hB]
       cases p with
       | none => rw [xEE (by rw [hrec]) (by rw [hrec])]; exact hL1
       | some e => exact World.putObj_heap_same hl1
      ·have h1 := hto p;have h2 := hto q;exact ⟨h2.os.trans h1.os.symm, h2.tape.trans h1.tape.symm, h2.output.trans h1.output.symm, by rw [hsz, hsz]; exact Nat.le_refl _, fun k hk hkl => by
        rw [h1.block k (by rw [<- hsz p]; exact hk) hkl, h2.block k (by rw [<- hsz p]; exact hk) hkl]⟩
     have hBn : B none = W1 := by rw [hB]
     obtain ⟨iy, hiy⟩ : ∃ iy : Info, iy = ⟨none, 0, none, .func (.yield (w.heap.size + 1)) #[] #[]⟩ := ⟨_, rfl⟩;have hh1 : HOk S F (B none) (O ++ [iy]) (h ++ [.dead]) W1 := by
      rw [hBn];exact hh0.add (Ex.refl _ _) iy .dead trivial (fun b hb => by cases hb) (fun _ => by rw [hiy]; rfl) rfl
     have hlen : (O ++ [iy]).length = h.length + 1 := by simp [hh.len]
     have hyj : (O ++ [iy])[h.length]? = some iy := by rw [<- hh.len]; simp
     have hyy : ∃ i, (O ++ [iy])[h.length]? = some i /\ i.val = .func (.yield (w.heap.size + 1)) #[] #[] := ⟨iy, hyj, by rw [hiy]⟩;have hK0 : KOk N [] (O ++ [iy]) K { tmps := rec.tmps, defers := [] } := by
      have : KOk N [] O K { tmps := rec.tmps, defers := [] } := ⟨by rw [hrec]; exact hK.1, rfl, fun t p e => by rw [hrec]; exact hK.2.2 t p e⟩;exact this.mono (Pre.app _ _)
     have hY : ∀ n, YlOk P n (w.heap.size + 1) S F B (O ++ [iy]) (fun γ args h' k => rnd P call N ps as1 bd K γ args h' k) := fun n γ args h' k y hy O' vs' W hp ha hW =>
      rnd_ok hcall hmx hR hlS (by rw [hrec]) (by rw [hrec]) (by rw [hrec]) hK0 hy hp ha hW
     obtain ⟨yv, hyv⟩ : ∃ yv : Value, yv = .func (.yield (w.heap.size + 1)) #[] #[] := ⟨_, rfl⟩;refine ⟨w.heap.size + 1, [mark w.heap.size], W1, { target := .fn (.func g) vs.toArray, args := us.toArray.push yv }, W1, g,
      us.toArray.push yv ++ vs.toArray, W1, ?_, ?_, fun _ _ => trivial, ?_, fun hd => by simp [RFo, Fence.wide] at hd, ?_⟩
     ·rw [<- hW1, hrec]; exact run_enterLoop_outer _ _ _ _ _
     ·simp only [resolve, hv0];rw [hyv];simp [Deferred.ofValue, Act.eval]
     ·simp [invoke, xEw hb.1.2]
     ·refine xLz none ?_;have hargs : us.toArray.push yv ++ vs.toArray = (us ++ [yv] ++ vs).toArray := by simp
      rw [hargs];have hden : DenArgs (O ++ [iy]) (fs.map .c ++ [.c (.hv h.length)] ++ cs.map .c) (us ++ [yv] ++ vs) := by
       refine DenArgs.app (DenArgs.app (DenArgs.cvs (hus.mono (Pre.app _ _))) (DenArgs.one ?_)) (DenArgs.cvs (hvs.mono (Pre.app _ _)));exact ⟨iy, hyj, by rw [hiy, hyv], by rw [hiy]; rfl⟩
      have hsz : (us ++ [yv] ++ vs).length = fs.length + 1 + cs.length := by
       have h1 := hus.len;have h2 := hvs.len;simp only [List.length_append, List.length_singleton];omega
      have hreg : xAL (xFp A g) c = true := xOf hA hfn hc;have hbody : xAi P g = c := by simp [xAi, hfn, hc]
      have hNit : xAv P g na = na + (fn.ntmps - na) := by simp [xAv, hfn]
      have hAY := hL 6 (w.heap.size + 1) S F B (O ++ [iy]) hlen hyy (hY 5);rw [hbody] at hAY;refine (calls_of_wp (R := fun e w' => ∃ v, e = .returned v /\ ∃ p O' h', Pre (O ++ [iy]) O' /\ HOk S F (B p) O' h' w' /\ kk p h' = some x) hfn hc (wpIn_wide.1 (xG2 (n := 6) (m := h.length + 1) (N := xAv P g na) hcall hmx (hY 5) hyy (by rw [hlen]; exact Nat.le_refl _) 300 an c hAY hreg β _ _ none _ x hr (O ++ [iy]) _ W1 (Pre.refl _) ⟨by rw [hNit, <- hna, <- hsz]; simp, rfl, fun t p hp => ?_⟩ hh1 _ (fun e O' K' h' p' a' w' hp he hK' hh' => ?_)))).mono ?_
      ·obtain ⟨_, h2⟩ := xEG _ _ _ _ hp;rw [Nat.sub_zero] at h2;obtain ⟨v, h3, h4⟩ := hden.get h2;refine ⟨v, h4, ?_⟩;have hlt := (List.getElem?_eq_some_iff.1 h3).1;show ((us ++ [yv] ++ vs).toArray ++ Array.replicate _ undef)[t]? = some v;rw [Array.getElem?_append_left (by simpa using hlt)];simpa using h3
      ·have fin : (match xR2 P K' h' fn.results.toList with
        | some _ => kk p' h'
        | none => none) = some x -> a'.defers = [] /\ ∃ v, (results fn a'.tmps).run P w' = .ok v w' /\ ∃ v', Ending.returned v = .returned v' /\ ∃ p O' h', Pre (O ++ [iy]) O' /\ HOk S F (B p) O' h' w' /\ kk p h' = some x := by
        intro hm2;split at hm2
        ·rename_i v hv;obtain ⟨u, _, h2⟩ := xId hK' hh' hv;exact ⟨hK'.2.1, u, h2, u, rfl, p', O', h', hp, hh', hm2⟩
        ·cases hm2
       cases e with
       | normal => exact fin he
       | exit id => cases he
       | ret => exact fin he
      ·rintro e w' ⟨v, rfl, p, O', h', hp, hh', hk⟩
       have hl2 : w'.heap[w.heap.size + 1]? = some (.loop (xFa rec p)) := hh'.kept (hR.at' p) hlS;have hnb : (xFa rec p).state ≠ .busy := by unfold xFa; cases p <;> simp
       have hpend : (xFa rec p).pending = p.map XT.code := rfl;have hend := run_endLoop (P := P) hl2 hnb;rw [hpend] at hend;have hszB : (B p).heap.size = W1.heap.size := by rw [<- hBn]; exact hR.size p none
       have hxB : Ex [w.heap.size + 1] W1 (B p) := by rw [<- hBn]; exact hR.ex none p
       have hE4 : Ext w ((B p).putObj (w.heap.size + 1) (.loop { xFa rec p with state := .exhausted })) := by
        refine ⟨hxB.os.trans hE1.os, hxB.tape.trans hE1.tape, hxB.output.trans hE1.output, by simp; omega, fun k hk _ => ?_⟩;rw [World.putObj_heap_other (by omega), hxB.block k (by omega) (by simp; omega), hE1.block k hk (by simp)]
       have hh4 : HOk S F ((B p).putObj (w.heap.size + 1) (.loop { xFa rec p with state := .exhausted })) O' h' (w'.putObj (w.heap.size + 1) (.loop { xFa rec p with state := .exhausted })) :=
        hh'.putObj hl2 rfl ⟨rfl, rfl, rfl, by simp, fun k _ hk => World.putObj_heap_other (by simpa using hk)⟩ (by simp) (World.putObj_heap_same (by omega))
       have hD4 : ((B p).putObj (w.heap.size + 1) (.loop { xFa rec p with state := .exhausted })).heap[w.heap.size]? = some (.deferred (some [])) := by
        rw [World.putObj_heap_other (by omega), hxB.block _ (by omega) (by simp)];exact hD1
       have hpp : Pre O O' := (Pre.app O [iy]).trans hp;have hKa : KOk N (mark w.heap.size :: D) O' K { a with defers := [mark w.heap.size] ++ a.defers } := by
        have := hK.mono hpp;exact ⟨this.1, by rw [this.2.1]; rfl, this.2.2⟩
       rw [hSd, hFd] at hh4;have hQ := hn p O' h' _ _ _ hpp hk hE4 hD4 hh4 hKa;refine ⟨p.map XT.code, _, hend, ?_⟩
       cases p with
       | none => exact hQ
       | some e =>
        cases e with
        | normal => exact wpIn_skip hQ
        | exit id => exact wpIn_exit hQ
        | ret => exact wpIn_ret hQ
    ·cases hr
   ·cases hr
 ·cases hr
end
end
noncomputable section
open Go.RowKit
def rfPs : Code -> List Nat
 | .rangeFunc _ ps _ _ => ps.toList
 | _ => []
def rfAs : Code -> Code
 | .rangeFunc _ _ as1 _ => as1
 | _ => .skip
def rfBd : Code -> Code
 | .rangeFunc _ _ _ bd => bd
 | _ => .skip
structure RgA where
 (SC LS : Sch) (oo : xBY) (LM : SC.ty -> LS.ty -> Option (xAB oo)) (an : AY) (gf na : Nat) (ysp : Nat -> Option Nat)
section
variable {P : Program} {m N : Nat} {S0 F0 : List Nat} {W0 : World}
def LfOk (P : Program) (call : (β : Type) -> xAK β) (N : Nat) (R : RgA) (node : Code) : Prop :=
 ∀ (xc : R.SC.ty) (n l : Nat) (S F : List Nat) (B : Option XT -> World) (O0 : List Info), O0.length = (xAe same R.SC.roots (R.SC.b xc)).length + 1 -> (∃ i, O0[(xAe same R.SC.roots (R.SC.b xc)).length]? = some i /\ i.val = .func (.yield l) #[] #[]) ->
  YlOk P (n - 1) l S F B O0 (fun γ args h' k => rnd P call N (rfPs node) (rfAs node) (rfBd node) (xAM same R.SC.slots (R.SC.a xc)) γ args h' k) -> AYok (xXV P n (xAv P R.gf R.na) S F B O0 R.LS R.oo (R.LM xc)) R.an (xAi P R.gf)
end
end
noncomputable section
open Go.RowKit
inductive AW where
 | an (a : An)
 | two (a b : AW)
 | one (a : AW)
 | rf (R : RgA)
 | rnd (a b : AW)
 | join (o : xBY) (a : AW)
 | loop (S : Sch) (o : xBY) (M : S.ty -> Option (xAB o))
def AW.l : AW -> AW
 | .an a => .an a.l
 | .two a _ => a
 | .one a => a
 | _ => .an .no
def AW.r : AW -> AW
 | .an a => .an a.r
 | .two _ b => b
 | _ => .an .no
def AW.rd : AW -> Nat -> AW
 | .rnd a b, i => match i with
  | 0 => a
  | i + 1 => b.rd i
 | _, _ => .an .no
def evW (P : Program) (A : xFo) (Fu f : Nat) (call : (β : Type) -> xAK β) (m N : Nat) : Nat -> AW -> Code -> (β : Type) -> Slo -> List Root -> xFq β -> Option β
 | 0, _, _, _, _, _, _ => none
 | d + 1, an, c, β, K, h, k => match an with
  | .an a => evA P Fu (xFp A f) call m N 300 a c β K h k
  | .join o a => ob (evW P A Fu f call m N d a c (xAB o) K h (xBk m o)) (fun x => xV2 k o x)
  | .loop S o M => match c with
   | .loop _ => match S.dec m K h with
    | some s => ob (M s) (fun x => xV2 k o x)
    | none => none
   | _ => none
  | .rf R => match c with
   | .rangeFunc g ps as1 bd => match R.SC.dec m K h with
    | some xc => match xAo (xAM same R.SC.slots (R.SC.a xc)) g with
     | some (.c (.hv j)) => rfEv P (xFp A) call N R.ysp R.LS R.oo (R.LM xc) R.an R.gf R.na ps.toList as1 bd β j (xAM same R.SC.slots (R.SC.a xc)) (xAe same R.SC.roots (R.SC.b xc)) (fun p h' => k (p.getD .normal) (xAM same R.SC.slots (R.SC.a xc)) h')
     | _ => none
    | none => none
   | _ => none
  | an => match c with
   | .seq x y => evW P A Fu f call m N d an.l x β K h (fun e K' h' => match e with
    | .normal => evW P A Fu f call m N d an.r y β K' h' k
    | e => k e K' h')
   | .cond c x y => match xAo K c with
    | some (.c (.sc (.bool b))) => bif b then evW P A Fu f call m N d an.l x β K h k else evW P A Fu f call m N d an.r y β K h k
    | _ => none
   | .block id x => evW P A Fu f call m N d an.l x β K h (fun e K' h' => match e with
    | .exit id' => bif Nat.beq id' id then k .normal K' h' else k (.exit id') K' h'
    | e => k e K' h')
   | .loop x => xD1 (fun n K h k => evW P A Fu f call m N d (an.rd (Fu - 1 - n)) x β K h k) Fu K h k
   | _ => none
section
variable {P : Program} {m N : Nat} {S0 F0 S F : List Nat} {W0 B : World} {O O' : List Info} {h h' : List Root} {w w' : World}
theorem HOk.back2 (hh : HOk S0 F0 W0 O h w) (hE : Ext w B) (hc : HOk (xAk .own O h (List.range h.length)) (xAk .foot O h (List.range h.length)) B O' h' w') : HOk S0 F0 W0 O' h' w' := by
 have hsz : W0.heap.size <= B.heap.size := Nat.le_trans hh.ext.size hE.size;have ho : ∀ b ∈ xAk .own O h (List.range h.length), W0.heap.size <= b \/ b ∈ S0 := fun b hb => by
  obtain ⟨p, _, r, i, hr, hi, e⟩ := xAc.1 hb;exact hh.mine p r i b hr hi e
 have hf : ∀ b ∈ xAk .foot O h (List.range h.length), W0.heap.size <= b \/ b ∈ S0 \/ b ∈ F0 := fun b hb => by
  obtain ⟨p, _, r, i, hr, hi, e⟩ := xAc.1 hb;exact hh.near p r i b hr hi e
 refine ⟨?_, hc.len, hc.ok, hc.sep, fun p r i b hr hi e => ?_, fun p r i b hr hi e => ?_, hh.lay, hh.out, hc.cov, hc.cln⟩
 ·have h1 : Ex S0 W0 B := hh.ext.trans (hE.ex S0);exact h1.trans_fresh hc.ext (fun b hb => (ho b hb).symm)
 ·rcases hc.mine p r i b hr hi e with h1 | h1
  ·exact .inl (Nat.le_trans hsz h1)
  ·exact ho b h1
 ·rcases hc.near p r i b hr hi e with h1 | h1 | h1
  ·exact .inl (Nat.le_trans hsz h1)
  ·rcases ho b h1 with h2 | h2
   ·exact .inl h2
   ·exact .inr (.inl h2)
  ·exact hf b h1
def StM (S0 F0 : List Nat) (W0 : World) : List Nat -> List Info -> List Root -> World -> Prop
 | [], O, h, W => HOk S0 F0 W0 O h W
 | l :: Ls, O, h, W => ∃ O1 h1 w1 B, StM S0 F0 W0 Ls O1 h1 w1 /\ l = w1.heap.size /\ Ext w1 B /\ B.heap[l]? = some (.deferred (some [])) /\ HOk (xAk .own O1 h1 (List.range h1.length)) (xAk .foot O1 h1 (List.range h1.length)) B O h W
theorem xKx : ∀ {Ls : List Nat} {O : List Info} {h : List Root} {W : World}, StM S0 F0 W0 Ls O h W -> ∃ S F W1, HOk S F W1 O h W /\ ∀ O' h' W', HOk S F W1 O' h' W' -> StM S0 F0 W0 Ls O' h' W'
 | [], O, h, W, hs => ⟨S0, F0, W0, hs, fun _ _ _ h => h⟩
 | l :: Ls, O, h, W, ⟨O1, h1, w1, B, e1, e2, e3, e4, e5⟩ => ⟨_, _, B, e5, fun _ _ _ h => ⟨O1, h1, w1, B, e1, e2, e3, e4, h⟩⟩
theorem xUn {fn : Func} {tmps : Array Value} {R : Ending -> World -> Prop} : ∀ {Ls : List Nat} {O : List Info} {h : List Root} {W : World}, StM S0 F0 W0 Ls O h W -> (∀ W', HOk S0 F0 W0 O h W' -> LeavesInM (RFo none) 6 P fn tmps R [] .returning W') ->
  LeavesInM (RFo none) 6 P fn tmps R (Ls.map mark) .returning W
 | [], O, h, W, hs, hR => hR W hs
 | l :: Ls, O, h, W, ⟨O1, h1, w1, B, e1, e2, e3, e4, e5⟩, hR => by
  have hS : l ∉ xAk .own O1 h1 (List.range h1.length) := fun hm => by
   obtain ⟨S, F, W1, q1, _⟩ := xKx e1;have := own_lt q1 hm;omega
  have hk := e5.kept e4 hS;have hBl := lt_of_block e4;have hh5 : HOk (xAk .own O1 h1 (List.range h1.length)) (xAk .foot O1 h1 (List.range h1.length)) (B.putObj l (.deferred none)) O h (W.putObj l (.deferred none)) :=
   e5.putObj hk rfl ⟨rfl, rfl, rfl, by simp, fun k _ hk => World.putObj_heap_other (by simpa using hk)⟩ (by simp) (World.putObj_heap_same hBl)
  have hE5 : Ext w1 (B.putObj l (.deferred none)) := by
   refine ⟨e3.os, e3.tape, e3.output, by simp; exact e3.size, fun k hk _ => ?_⟩;rw [World.putObj_heap_other (by omega), e3.block k hk (by simp)]
  have h6 : StM S0 F0 W0 Ls O h (W.putObj l (.deferred none)) := by
   obtain ⟨S, F, W1, q1, q2⟩ := xKx e1;exact q2 _ _ _ (q1.back2 hE5 hh5)
  exact ⟨by simp, .inl ⟨l, _, rfl, run_takeDeferred hk, xUn h6 hR⟩⟩
def xLG (P : Program) (m N : Nat) (x : Code) (S : Sch) (o : xBY) (M : S.ty -> Option (xAB o)) : Prop :=
 ∀ (s : S.ty) (y : xAB o), M s = some y -> ∀ (S' F : List Nat) (W0 : World) (Ls : List Nat) (Z : List Info) (a : Act) (w : World), KOk N (Ls.map mark) Z (xAM same S.slots (S.a s)) a -> StM S' F W0 Ls Z (xAe same S.roots (S.b s)) w -> ∀ Q : Exit -> Act -> World -> Prop,
  (∀ (Ls' : List Nat) (Z' : List Info) (a' : Act) (w' : World), PreM m Z Z' -> KOk N (Ls'.map mark) Z' (xAN o y).2.1 a' -> StM S' F W0 Ls' Z' (xAN o y).2.2 w' -> Q (xAN o y).1.out a' w') -> ∃ n, Code.roundsIn (RFo none) 6 P x Q n a w
def AwOk (P : Program) (call : (β : Type) -> xAK β) (m N : Nat) : AW -> Code -> Prop
 | .an a, c => AnOk P m N a c
 | .two a b, c => match c with
  | .seq x y => AwOk P call m N a x /\ AwOk P call m N b y
  | .cond _ x y => AwOk P call m N a x /\ AwOk P call m N b y
  | .block _ x => AwOk P call m N a x
  | _ => True
 | .one a, c => match c with
  | .seq x _ => AwOk P call m N a x
  | .cond _ x _ => AwOk P call m N a x
  | .block _ x => AwOk P call m N a x
  | _ => True
 | .rf R, c => LfOk P call N R c
 | .rnd a b, c => match c with
  | .loop x => AwOk P call m N a x /\ AwOk P call m N b (.loop x)
  | _ => True
 | .join _ a, c => AwOk P call m N a c
 | .loop S o M, c => match c with
  | .loop x => xLG P m N x S o M
  | _ => True
variable {call : (β : Type) -> xAK β}
theorem AwOk.seq {an : AW} {x y : Code} (h : AwOk P call m N an (.seq x y)) : AwOk P call m N an.l x /\ AwOk P call m N an.r y := by
 cases an with
 | an a => exact AnOk.seq h
 | two a b => exact h
 | one a => exact ⟨h, trivial⟩
 | rf R => exact ⟨trivial, trivial⟩
 | rnd a b => exact ⟨trivial, trivial⟩
 | join o a => exact ⟨trivial, trivial⟩
 | loop S o M => exact ⟨trivial, trivial⟩
theorem AwOk.cond {an : AW} {c : Operand} {x y : Code} (h : AwOk P call m N an (.cond c x y)) : AwOk P call m N an.l x /\ AwOk P call m N an.r y := by
 cases an with
 | an a => exact AnOk.cond h
 | two a b => exact h
 | one a => exact ⟨h, trivial⟩
 | rf R => exact ⟨trivial, trivial⟩
 | rnd a b => exact ⟨trivial, trivial⟩
 | join o a => exact ⟨trivial, trivial⟩
 | loop S o M => exact ⟨trivial, trivial⟩
theorem AwOk.block {an : AW} {id : Nat} {x : Code} (h : AwOk P call m N an (.block id x)) : AwOk P call m N an.l x := by
 cases an with
 | an a => exact AnOk.block h
 | two a b => exact h
 | one a => exact h
 | rf R => trivial
 | rnd a b => trivial
 | join o a => trivial
 | loop S o M => trivial
theorem AwOk.loop {x : Code} : ∀ {an : AW}, AwOk P call m N an (.loop x) -> ∀ i, AwOk P call m N (an.rd i) x
 | .an a, _, _ => trivial
 | .two a b, _, _ => trivial
 | .one a, _, _ => trivial
 | .rf R, _, _ => trivial
 | .rnd a b, h, i => by
  cases i with
  | zero => exact h.1
  | succ i => exact AwOk.loop h.2 i
 | .join o a, _, _ => trivial
 | .loop S o M, _, _ => trivial
theorem xJ6 {β : Type} {x : Code} {body : Nat -> Slo -> List Root -> xFq β -> Option β} (hb : ∀ (n : Nat) (K : Slo) (h : List Root) (k : xFq β) (r : β), body n K h k = some r -> ∀ (Ls : List Nat) (O : List Info) (a : Act) (W : World), KOk N (Ls.map mark) O K a -> StM S0 F0 W0 Ls O h W -> ∀ Q : Exit -> Act -> World -> Prop,
  (∀ (e : XT) (Ls' : List Nat) (O' : List Info) (K' : Slo) (h' : List Root) (a' : Act) (W' : World), PreM m O O' -> k e K' h' = some r -> KOk N (Ls'.map mark) O' K' a' -> StM S0 F0 W0 Ls' O' h' W' -> Q e.out a' W') -> x.wpIn (RFo none) 6 P Q a W) : ∀ (n : Nat) (K : Slo) (h : List Root) (k : xFq β) (r : β), xD1 body n K h k = some r -> ∀ (Ls : List Nat) (O : List Info) (a : Act) (W : World), KOk N (Ls.map mark) O K a -> StM S0 F0 W0 Ls O h W -> ∀ Q : Exit -> Act -> World -> Prop,
  (∀ (e : XT) (Ls' : List Nat) (O' : List Info) (K' : Slo) (h' : List Root) (a' : Act) (W' : World), PreM m O O' -> k e K' h' = some r -> KOk N (Ls'.map mark) O' K' a' -> StM S0 F0 W0 Ls' O' h' W' -> Q e.out a' W') -> Code.roundsIn (RFo none) 6 P x Q n a W
 | 0, K, h, k, r, hr => by cases hr
 | n + 1, K, h, k, r, hr => fun Ls O a w hK hh Q hn => by
  refine hb n K h _ r hr Ls O a w hK hh _ (fun e Ls' O' K' h' a' w' hp he hK' hh' => ?_)
  cases e with
  | normal => exact xJ6 hb n K' h' k r he Ls' O' a' w' hK' hh' Q (fun e L2 O2 K2 h2 a2 w2 hp2 => hn e L2 O2 K2 h2 a2 w2 (hp.trans hp2))
  | exit id => exact hn _ Ls' O' K' h' a' w' hp he hK' hh'
  | ret => exact hn _ Ls' O' K' h' a' w' hp he hK' hh'
def AwP (P : Program) (call : (β : Type) -> xAK β) (m N : Nat) (c : Code) : AW -> List Nat -> Prop
 | .an a, p => AnP P m N c a p
 | .two a b, p => AwP P call m N c a (p ++ [0]) /\ AwP P call m N c b (p ++ [1])
 | .one a, p => AwP P call m N c a (p ++ [0])
 | .rf R, p => LfOk P call N R (xAt c p)
 | .rnd a b, p => AwP P call m N c a (p ++ [0]) /\ AwP P call m N c b p
 | .join _ a, p => AwP P call m N c a p
 | .loop S o M, p => xLG P m N (xAt c (p ++ [0])) S o M
theorem xG6 {c : Code} : ∀ {an : AW} {p : List Nat}, AwP P call m N c an p -> AwOk P call m N an (xAt c p)
 | .an a, p, h => xD8 h
 | .two a b, p, h => by
  have h1 := xG6 (an := a) h.1;have h2 := xG6 (an := b) h.2;rw [xA8] at h1 h2;cases hc : xAt c p <;> rw [hc] at h1 h2 <;> first | exact ⟨h1, h2⟩ | exact h1 | trivial
 | .one a, p, h => by
  have h1 := xG6 (an := a) (p := p ++ [0]) h;rw [xA8] at h1;cases hc : xAt c p <;> rw [hc] at h1 <;> first | exact h1 | trivial
 | .rf R, p, h => h
 | .rnd a b, p, h => by
  have h1 := xG6 (an := a) h.1;have h2 := xG6 (an := b) h.2;rw [xA8] at h1;cases hc : xAt c p <;> rw [hc] at h1 h2 <;> first | exact ⟨h1, h2⟩ | trivial
 | .join o a, p, h => xG6 (an := a) h
 | .loop S o M, p, h => by
  have h1 : xLG P m N (xAt c (p ++ [0])) S o M := h;rw [xA8] at h1;cases hc : xAt c p <;> rw [hc] at h1 <;> first | exact h1 | trivial
theorem xG3 (hcall : ∀ β, xAJ P (call β)) (hmx : P.follows .mixedOrders = true) {A : xFo} (hA : xEy P A) {Fu f : Nat} : ∀ (d : Nat) (an : AW) (c : Code), AwOk P call m N an c -> xAL (xFp A f) c = true -> ∀ (β : Type) (K : Slo) (h : List Root) (k : xFq β) (x : β), evW P A Fu f call m N d an c β K h k = some x ->
  ∀ (Ls : List Nat) (O : List Info) (a : Act) (W : World), KOk N (Ls.map mark) O K a -> StM S0 F0 W0 Ls O h W -> ∀ Q : Exit -> Act -> World -> Prop,
  (∀ (e : XT) (Ls' : List Nat) (O' : List Info) (K' : Slo) (h' : List Root) (a' : Act) (W' : World), PreM m O O' -> k e K' h' = some x -> KOk N (Ls'.map mark) O' K' a' -> StM S0 F0 W0 Ls' O' h' W' -> Q e.out a' W') -> c.wpIn (RFo none) 6 P Q a W
 | 0, _, _, _, _, _, _, _, _, _, hr => by cases hr
 | d + 1, an, c, hAn, hreg, β, K, h, k, x, hr => fun Ls O a W hK hst Q hn => by
  have plain : (match (generalizing := false) c with
   | .seq x y => evW P A Fu f call m N d an.l x β K h (fun e K' h' => match e with
    | .normal => evW P A Fu f call m N d an.r y β K' h' k
    | e => k e K' h')
   | .cond c x y => match xAo K c with
    | some (.c (.sc (.bool b))) => bif b then evW P A Fu f call m N d an.l x β K h k else evW P A Fu f call m N d an.r y β K h k
    | _ => none
   | .block id x => evW P A Fu f call m N d an.l x β K h (fun e K' h' => match e with
    | .exit id' => bif Nat.beq id' id then k .normal K' h' else k (.exit id') K' h'
    | e => k e K' h')
   | .loop x => xD1 (fun n K h k => evW P A Fu f call m N d (an.rd (Fu - 1 - n)) x β K h k) Fu K h k
   | _ => none) = some x -> c.wpIn (RFo none) 6 P Q a W := by
   intro hr
   cases c with
   | seq u v =>
    simp only [xAL, Bool.and_eq_true] at hreg;obtain ⟨hA1, hA2⟩ := hAn.seq;refine wpIn_seq (xG3 hcall hmx hA d an.l u hA1 hreg.1 β K h _ x hr Ls O a W hK hst _ (fun e Ls' O' K' h' a' W' hp he hK' hst' => ?_))
    cases e with
    | normal => exact xG3 hcall hmx hA d an.r v hA2 hreg.2 β K' h' k x he Ls' O' a' W' hK' hst' Q (fun e L2 O2 K2 h2 a2 w2 hp2 => hn e L2 O2 K2 h2 a2 w2 (hp.trans hp2))
    | exit id => exact hn _ Ls' O' K' h' a' W' hp he hK' hst'
    | ret => exact hn _ Ls' O' K' h' a' W' hp he hK' hst'
   | cond c u v =>
    simp only [xAL, Bool.and_eq_true] at hreg;obtain ⟨hA1, hA2⟩ := hAn.cond;dsimp only at hr;split at hr
    ·rename_i b hc;have hb : a.eval c = .bool b := (xAa hK hc).1
     cases b with
     | true => exact wpIn_cond_true hb (xG3 hcall hmx hA d an.l u hA1 hreg.1 β K h k x hr Ls O a W hK hst Q hn)
     | false => exact wpIn_cond_false hb (xG3 hcall hmx hA d an.r v hA2 hreg.2 β K h k x hr Ls O a W hK hst Q hn)
    ·cases hr
   | block id u =>
    refine wpIn_block (xG3 hcall hmx hA d an.l u hAn.block hreg β K h _ x hr Ls O a W hK hst _ (fun e Ls' O' K' h' a' W' hp he hK' hst' => ?_))
    cases e with
    | normal => exact hn .normal Ls' O' K' h' a' W' hp he hK' hst'
    | exit id' =>
     show Exit.inBlock id Q (.exit id') a' W';dsimp only at he
     cases hb : Nat.beq id' id with
     | true =>
      rw [hb] at he;have := nbT hb;subst this;show (if id' = id' then Q .normal a' W' else Q (.exit id') a' W');rw [if_pos rfl];exact hn .normal Ls' O' K' h' a' W' hp he hK' hst'
     | false =>
      rw [hb] at he;have hne := Nat.ne_of_beq_eq_false hb;show (if id' = id then Q .normal a' W' else Q (.exit id') a' W');rw [if_neg hne];exact hn (.exit id') Ls' O' K' h' a' W' hp he hK' hst'
    | ret => exact hn .ret Ls' O' K' h' a' W' hp he hK' hst'
   | loop u => exact wpIn_loop_rounds Fu (xJ6 (fun n K h k r hr => xG3 hcall hmx hA d (an.rd (Fu - 1 - n)) u (AwOk.loop hAn (Fu - 1 - n)) hreg β K h k r hr) Fu K h k x hr Ls O a W hK hst Q hn)
   | _ => cases hr
  obtain ⟨S, F, W1, hh, hre⟩ := xKx hst
  cases an with
  | an an =>
   simp only [evW] at hr;exact wpIn_wide.2 (xE1 (D := Ls.map mark) hcall hmx Fu (xFp A f) 300 an c hAn hreg β K h k x hr S F W1 O a W hK hh Q (fun e O' K' h' a' w' hp he hK' hh' => hn e Ls O' K' h' a' w' hp he hK' (hre _ _ _ hh')))
  | two u v =>
   simp only [evW] at hr;exact plain hr
  | one u =>
   simp only [evW] at hr;exact plain hr
  | rnd u v =>
   simp only [evW] at hr;exact plain hr
  | join o u =>
   simp only [evW] at hr;obtain ⟨y, hy, hk⟩ := xDt hr;rw [xEm] at hk;refine xG3 hcall hmx hA d u c hAn hreg (xAB o) K h (xBk m o) y hy Ls O a W hK hst Q (fun e Ls' O' K' h' a' W' hp he hK' hst' => ?_);obtain ⟨S2, F2, W2, hh2, hre2⟩ := xKx hst';obtain ⟨h1, Z, h2, h3, h4⟩ := xBz he hK' hh2;rw [<- h1];exact hn _ Ls' Z _ _ a' W' (hp.trans h2) hk h3 (hre2 _ _ _ h4)
  | loop T o M =>
   cases c with
   | loop u =>
    simp only [evW] at hr;split at hr
    ·rename_i s hs;obtain ⟨y, hy, hk⟩ := xDt hr;rw [xEm] at hk;obtain ⟨Z, h2, h3, h4⟩ := Sch.dec_ok hs hK hh;obtain ⟨n, h5⟩ := hAn s y hy S0 F0 W0 Ls Z a W h3 (hre _ _ _ h4) Q (fun Ls' Z' a' w' hp hK' hst' => hn _ Ls' Z' _ _ a' w' (h2.trans hp) hk hK' hst');exact wpIn_loop_rounds n h5
    ·cases hr
   | _ => cases hr
  | rf R =>
   cases c with
   | rangeFunc g ps as1 bd =>
    simp only [evW] at hr;split at hr
    ·rename_i xc hxc;split at hr
     ·rename_i j hj;obtain ⟨Z, h2, h3, h4⟩ := Sch.dec_ok hxc hK hh;have hL2 : LfOk P call N R (.rangeFunc g ps as1 bd) := hAn;have := xWG (N := N) (na := R.na) (gop := g) (ps := ps.toList) (as1 := as1) (bd := bd) hcall hmx hA (hL2 xc) hr h3 h4 hj (Q := Q) (fun p O' h' B w' a' e1 e2 e3 e4 e5 e6 =>
       hn _ (W.heap.size :: Ls) O' _ h' a' w' (h2.trans e1.m) e2 e6 ⟨Z, _, W, B, hre _ _ _ h4, rfl, e3, e4, e5⟩)
      simpa using this
     ·cases hr
    ·cases hr
   | _ => cases hr
def xXs (P : Program) (A : xFo) (Fu : Nat) (call : (β : Type) -> xAK β) (nargs : Nat) (an : AW) (f : Nat) (In : Sch) (Out : FSch) (s : In.ty) : Option Out.ty :=
 match P.funcs[f]? with
 | some fn => match fn.body with
  | some c => evW P A Fu f call In.roots.length (nargs + (fn.ntmps - nargs)) 300 an c Out.ty (xAM same In.slots (In.a s)) (mvArs (xAe same In.roots (In.b s))) (fun e K' h' => match e with
   | .exit _ => none
   | _ => match xR2 P K' h' fn.results.toList with
    | some v => Out.dec In.roots.length v h'
    | none => none)
  | none => none
 | none => none
theorem fnW_ok (hcall : ∀ β, xAJ P (call β)) (hmx : P.follows .mixedOrders = true) {A : xFo} (hA : xEy P A) {Fu nargs f : Nat} {an : AW} {In : Sch} {Out : FSch} {spec : In.ty -> Option Out.ty}
  (hreg : xAL (xFp A f) (xAi P f) = true) (hAn : AwOk P call In.roots.length (xAv P f nargs) an (xAi P f)) (hs : ∀ s, spec s = xXs P A Fu call nargs an f In Out s) : FnSem P f nargs In Out spec := by
 intro s t hst S F W0 Z w vs hlen hden hh hcl;rw [hs] at hst;unfold xXs at hst;split at hst
 ·rename_i fn hfn;split at hst
  ·rename_i c hc;have hb : xAi P f = c := by simp [xAi, hfn, hc]
   have ht : xAv P f nargs = nargs + (fn.ntmps - nargs) := by simp [xAv, hfn]
   rw [hb] at hreg hAn;rw [ht] at hAn;have hsz : vs.toArray.size = nargs := by simpa using hlen
   refine callsIn_wide.1 (callsIn_of_wp_marks (n := 6) hfn hc trivial ?_);obtain ⟨Z0, hp0, hh0⟩ := hh.mvArs;refine xG3 (S0 := S) (F0 := F) (W0 := W0) hcall hmx hA 300 an c hAn hreg Out.ty _ _ _ t hst [] Z0 _ w ⟨by simp [hsz], rfl, fun q p hp => ?_⟩ hh0 _ (fun e Ls O' K' h' a' w' hp he hK' hst' => ?_)
   ·obtain ⟨v, h3, h4⟩ := hden q p hp;refine ⟨v, h3.mono hp0, ?_⟩;have hlt := (List.getElem?_eq_some_iff.1 h4).1;show (vs.toArray ++ Array.replicate (fn.ntmps - vs.toArray.size) undef)[q]? = some v;rw [Array.getElem?_append_left (by simpa using hlt)];simpa using h4
   ·have fin : (match xR2 P K' h' fn.results.toList with
      | some v => Out.dec In.roots.length v h'
      | none => none) = some t -> LeavesInM (RFo none) 6 P fn a'.tmps (fun e w' => ∃ Z' u, e = .returned u /\ PreM In.roots.length Z Z' /\ DenP Z' (Out.res.enc same (Out.a t)) u /\ HOk S F W0 Z' (xAe same Out.roots (Out.b t)) w' /\ In.roots.length <= Out.roots.length) a'.defers .returning w' := by
     intro hm2;split at hm2
     ·rename_i v hv;rw [hK'.2.1];refine xUn hst' (fun W' hW' => ?_);obtain ⟨u, q1, q2⟩ := xId hK' hW' hv;obtain ⟨h3, Z', h4, h5, h6⟩ := FSch.dec_ok hm2 q1 hW';exact ⟨u, q2, Z', u, rfl, (fun j hj i e => (hp.trans h4) j hj i (hp0 j i e)), h5, h6, h3⟩
     ·cases hm2
    cases e with
    | normal => exact fin he
    | exit id => cases he
    | ret => exact fin he
  ·cases hst
 ·cases hst
end
end
open Go.RowKit Go.Proofs
noncomputable section
def lpM (P : Program) (pl : Nat -> Option PT) (call : (β : Type) -> xAK β) (m N jy : Nat) (yl : YlF) (ysp : Nat -> Option Nat) (c : Code) (LS : Sch) (oo : xBY) (n : Nat) : LS.ty -> Option (xAB oo) :=
 Nat.rec (motive := fun _ => LS.ty -> Option (xAB oo)) (fun _ => none) (fun _ M s => evY P pl call m N jy yl ysp sch0 [] lm0 300 .no c (xAB oo) (xAM same LS.slots (LS.a s)) (xAe same LS.roots (LS.b s)) none (fun e K h p => match p with
  | none => match e with
   | .normal => ob (LS.dec m K h) (fun s' => M s')
   | e => xBk m oo e K h
  | some _ => none)) n
end
end Go.Proofs.YtnomnijhlbalaaaGreatDoor
