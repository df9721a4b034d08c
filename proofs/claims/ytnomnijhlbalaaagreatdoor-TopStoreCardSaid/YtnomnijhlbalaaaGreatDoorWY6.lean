/- A part of the proof of the theorem of the last file. No condition. By an AI agent. -/
import Derived.Test.YtnomnijhlbalaaaGreatDoorWY5
import Derived.RangeFuncRecord
namespace Go.Proofs.YtnomnijhlbalaaaGreatDoor
noncomputable section
open Go.RowKit
def xKS : Obj -> Bool
 | .cells .. => false
 | .map .. => false
 | .stringIter .. => false
 | _ => true
section
variable {P : Program} {N n : Nat} {D : List Deferred} {S F : List Nat} {W0 B : World} {O O' : List Info} {K : Slo} {h h' : List Root} {w w' : World} {a : Act}
theorem ObOk.putObj {l : Nat} {o o0 : Obj} (hl : w.heap[l]? = some o0) (h0 : xKS o0 = true) {v : Value} {ob : Ob} (hr : ObOk O w v ob) : ObOk O (w.putObj l o) v ob := by
 cases ob with
 | no => trivial
 | row T U xs =>
  obtain ⟨a, c, h1, h2, vs, h3, h4, h5, h6, h7⟩ := hr;refine ⟨a, c, h1, h2, vs, h3, h4, h5, h6, ?_⟩;rcases h7 with h7 | ⟨g, o', cur, h8, h9, h10⟩
  ·exact .inl ⟨h7.1, fun b hb => by rw [World.putObj_size]; exact h7.2 b hb⟩
  ·refine .inr ⟨g, o', cur, h8, ?_, h10⟩;rw [World.putObj_heap_other (fun e => by subst e; rw [hl] at h9; cases h9; cases h0)];exact h9
 | mp V agg U ts =>
  obtain ⟨r, ents, cl, h1, h3, h4⟩ := hr;refine ⟨r, ents, cl, h1, ?_, h4⟩;rw [World.putObj_heap_other (fun e => by subst e; rw [hl] at h3; cases h3; cases h0)];exact h3
 | rr U xs =>
  obtain ⟨a, c, g1, g2, g3, vs, h2, h3⟩ := hr;refine ⟨a, c, g1, g2, g3, vs, h2, fun hn => ?_⟩;obtain ⟨b, o', h4, h5, h6⟩ := h3 hn;refine ⟨b, o', h4, by rw [World.putObj_size]; exact h5, fun j v hv => ?_⟩;have h7 := h6 j v hv;unfold World.cell? at h7 ⊢;have hne : b ≠ l := fun e => by
   subst e;dsimp only at h7;rw [hl] at h7;cases o0 <;> first | (cases h0; done) | (simp at h7; done)
  dsimp only at h7 ⊢;rw [World.putObj_heap_other hne];exact h7
theorem ArOk.putObj {l : Nat} {o o0 : Obj} (hl : w.heap[l]? = some o0) (h0 : xKS o0 = true) {vs : List Value} {os : List Ob} (hr : ArOk O w vs os) : ArOk O (w.putObj l o) vs os :=
 ⟨hr.1, fun m v ob h1 h2 => (hr.2.1 m v ob h1 h2).putObj hl h0, hr.2.2⟩
theorem RootOk.putObj {l : Nat} {o o0 : Obj} (hl : w.heap[l]? = some o0) (h0 : xKS o0 = true) {i : Info} {r : Root} (hr : RootOk O w i r) : RootOk O (w.putObj l o) i r := by
 cases r with
 | dead => trivial
 | blk cs T =>
  obtain ⟨h1, b, vs, h2, h3, h4⟩ := hr;refine ⟨h1, b, vs, h2, h3, ?_⟩;rw [World.putObj_heap_other (fun e => by subst e; rw [hl] at h4; cases h4; cases h0)];exact h4
 | rows T U xs =>
  obtain ⟨h1, h2, vs, h3, h4, h5, h6, h7⟩ := hr;refine ⟨h1, h2, vs, h3, h4, h5, h6, ?_⟩;rcases h7 with h7 | ⟨g, o', cur, h8, h9, h10⟩
  ·exact .inl ⟨h7.1, fun b hb => by rw [World.putObj_size]; exact h7.2 b hb⟩
  ·refine .inr ⟨g, o', cur, h8, ?_, h10⟩;rw [World.putObj_heap_other (fun e => by subst e; rw [hl] at h9; cases h9; cases h0)];exact h9
 | ro U xs =>
  obtain ⟨h1, vs, h2, h3⟩ := hr;refine ⟨h1, vs, h2, fun hn => ?_⟩;obtain ⟨b, o', h4, h5, h6⟩ := h3 hn;refine ⟨b, o', h4, by rw [World.putObj_size]; exact h5, fun j v hv => ?_⟩;have h7 := h6 j v hv;unfold World.cell? at h7 ⊢;have hne : b ≠ l := fun e => by
   subst e;dsimp only at h7;rw [hl] at h7;cases o0 <;> first | (cases h0; done) | (simp at h7; done)
  dsimp only at h7 ⊢;rw [World.putObj_heap_other hne];exact h7
 | clo f x c => exact hr
 | mp V agg U es =>
  obtain ⟨r, ents, c, h1, h2, h3, h4⟩ := hr;refine ⟨r, ents, c, h1, h2, ?_, h4⟩;rw [World.putObj_heap_other (fun e => by subst e; rw [hl] at h3; cases h3; cases h0)];exact h3
 | ars t T U os => exact ArOk.putObj hl h0 hr
 | aro t T U os => exact ArOk.putObj hl h0 hr
 | arm t k agg U os => exact ArOk.putObj hl h0 hr
 | arr t U os => exact ArOk.putObj hl h0 hr
 | it s pos =>
  obtain ⟨h1, b, h2, h3⟩ := hr;refine ⟨h1, b, h2, ?_⟩;rw [World.putObj_heap_other (fun e => by subst e; rw [hl] at h3; cases h3; cases h0)];exact h3
theorem HOk.putObj (hh : HOk S F W0 O h w) {l : Nat} {o o0 : Obj} (hl : w.heap[l]? = some o0) (h0 : xKS o0 = true) (hB : Ex [l] W0 B) (hs : B.heap.size = W0.heap.size) (hBl : B.heap[l]? = some o) : HOk S F B O h (w.putObj l o) := by
 have hG : ∀ b ∈ xIJ, b ≠ l := fun b hb e => by
  obtain ⟨c, T, f, hc⟩ := xNa hh.layW hb;rw [e, hl] at hc;cases hc;cases h0
 have hlt := lt_of_block hl;refine ⟨⟨hh.ext.os.trans hB.os.symm, hh.ext.tape.trans hB.tape.symm, hh.ext.output.trans hB.output.symm, by rw [World.putObj_size, hs]; exact hh.ext.size, fun k hk hks => ?_⟩, hh.len, fun id r i a b => (hh.ok id r i a b).putObj hl h0, hh.sep, fun p r i b x y z => by rw [hs]; exact hh.mine p r i b x y z, fun p r i b x y z => by rw [hs]; exact hh.near p r i b x y z, xQi (fun b hb => hB.block b (hh.out b hb).1 (by simp only [List.mem_singleton]; exact hG b hb)) hh.lay, fun b hb => ⟨by rw [hs]; exact (hh.out b hb).1, (hh.out b hb).2⟩, hh.cov, hh.cln⟩;by_cases e : k = l
 ·subst e; rw [World.putObj_heap_same hlt, hBl]
 ·rw [World.putObj_heap_other e, hh.ext.block k (by omega) hks, hB.block k (by omega) (by simpa using e)]
end
end
noncomputable section
open Go.RowKit
section
variable {β : Type}
def rndEv (P : Program) (Fu : Nat) (pl : Nat -> Option PT) (call : xAK β) (N : Nat) (R : RngC) (V : KK) (agg : Bool) (U : TC) (L : Nat) (K : Slo) (h : List Root) (e : V.ty × U.ty) (k : xFq β) : Option β :=
 xFj P N R.ops1 call R.rest1 (xDF K R.tn (.tu [(false, [.sc (.bool true)]), (false, [.sc (V.val e.1)]), (agg, U.enc e.2)])) h (fun K1 h1 => match xAo K1 R.tok, lkP K1 R.ti with
  | some (.c (.sc (.bool true))), some (.c (.hv id)) => bif Nat.beq id L then xFj P N R.ops2 call R.rest2 (xDF K1 R.te (.tu [(false, [.sc (V.val e.1)]), (agg, U.enc e.2)])) h1 (fun K2 h2 => xD6 P Fu pl call 10000 N R.y K2 h2 (fun x K3 h3 => match x with
   | .exit id => bif Nat.beq id R.b1 then k .normal K3 h3 else k (.exit id) K3 h3
   | x => k x K3 h3)) else none
  | _, _ => none)
def endEv (P : Program) (call : xAK β) (N : Nat) (R : RngC) (K : Slo) (h : List Root) (k : Slo -> List Root -> Option β) : Option β :=
 xFj P N R.ops1 call R.rest1 (xDF K R.tn (.tu [(false, [.sc (.bool false)])])) h (fun K1 h1 => match xAo K1 R.tok with
  | some (.c (.sc (.bool false))) => k K1 h1
  | _ => none)
end
def stK (S : Sch) (R : RngC) (s : S.ty) : Slo := xDF (xAM same S.slots (S.a s)) R.ti (.c (.hv S.roots.length))
def stH (S : Sch) (s : S.ty) : List Root := xAe same S.roots (S.b s) ++ [.dead]
def inlO {α β : Type} : Option α -> Option (α ⊕ β)
 | some x => some (.inl x)
 | none => none
def inrO {α β : Type} : Option β -> Option (α ⊕ β)
 | some x => some (.inr x)
 | none => none
def rndK (m : Nat) (R : RngC) (S : Sch) (o : xBY) : xFq (S.ty ⊕ xAB o) := fun x K h => match lkP K R.ti with
 | some (.c (.hv id)) => bif Nat.beq id S.roots.length then (match x with
  | .normal => inlO (S.dec m K h)
  | .exit id => bif Nat.beq id R.b0 then inrO (xBk m o .normal K h) else inrO (xBk m o (.exit id) K h)
  | .ret => inrO (xBk m o .ret K h)) else none
 | _ => none
section
variable {P : Program} {m N : Nat}
theorem xUT {O : List Info} {V : KK} {agg : Bool} {U : TC} : ∀ {us : List (V.ty × Nat × U.ty)} {l : List MapEntry} {e : MapEntry}, EntOk O V agg U us l -> e ∈ l -> ∃ u ∈ us, e.key = V.val u.1 /\ e.born = u.2.1 /\ DenB O agg (U.enc u.2.2) e.val
 | [], l, e, h, he => by rw [show l = [] from h] at he; cases he
 | u :: us, l, e, ⟨e', r, h1, h2, ⟨h3, h4⟩, h5⟩, he => by
  subst h1;rcases List.mem_cons.1 he with rfl | he
  ·exact ⟨u, by simp, h2, h3, h4⟩
  ·obtain ⟨u', g1, g2⟩ := xUT h5 he;exact ⟨u', by simp [g1], g2⟩
theorem xLs {O : List Info} {V : KK} {agg : Bool} {U : TC} : ∀ {us : List (V.ty × Nat × U.ty)} {l : List MapEntry}, EntOk O V agg U us l -> l.map (·.born) = us.map (fun e => e.2.1)
 | [], l, h => by rw [show l = [] from h]; rfl
 | u :: us, l, ⟨e', r, h1, h2, ⟨h3, h4⟩, h5⟩ => by
  subst h1;rw [List.map_cons, List.map_cons, xLs h5, h3]
theorem left_step {α β : Type} {us : List (α × Nat × β)} {u : α × Nat × β} (hu : u ∈ us) (hn : (us.map (fun e => e.2.1)).Nodup) {seen : Array Nat} (hs : seen.contains u.2.1 = false) :
  (strip (us.filter (fun e => !seen.contains e.2.1))).Perm ((u.1, u.2.2) :: strip (us.filter (fun e => !(seen.push u.2.1).contains e.2.1))) := by
 induction us with
 | nil => cases hu
 | cons v us ih =>
  rw [List.map_cons, List.nodup_cons] at hn;by_cases e : v = u
  ·subst e;have rest : us.filter (fun e => !(seen.push v.2.1).contains e.2.1) = us.filter (fun e => !seen.contains e.2.1) := by
    refine List.filter_congr fun x hx => ?_;rw [contains_push];have : (x.2.1 == v.2.1) = false := by
     cases hq : (x.2.1 == v.2.1) with
     | false => rfl
     | true => exact absurd (List.mem_map.2 ⟨x, hx, by simpa using hq⟩) hn.1
    rw [this, Bool.or_false]
   rw [List.filter_cons_of_pos (by show (!seen.contains v.2.1) = true; rw [hs]; rfl), List.filter_cons_of_neg (by show ¬ (!(seen.push v.2.1).contains v.2.1) = true; rw [contains_push]; simp), rest];exact List.Perm.refl _
  ·have hu' : u ∈ us := by
    rcases List.mem_cons.1 hu with h | h
    ·exact absurd h.symm e
    ·exact h
   have hne : (v.2.1 == u.2.1) = false := by
    cases hq : (v.2.1 == u.2.1) with
    | false => rfl
    | true => exact absurd (List.mem_map.2 ⟨u, hu', (beq_iff_eq.1 hq).symm⟩) hn.1
   have ih' := ih hu' hn.2
   cases hv : seen.contains v.2.1 with
   | true =>
    rw [List.filter_cons_of_neg (by show ¬ (!seen.contains v.2.1) = true; rw [hv]; decide), List.filter_cons_of_neg (by show ¬ (!(seen.push u.2.1).contains v.2.1) = true; rw [contains_push, hv]; simp)];exact ih'
   | false =>
    rw [List.filter_cons_of_pos (by show (!seen.contains v.2.1) = true; rw [hv]; rfl), List.filter_cons_of_pos (by show (!(seen.push u.2.1).contains v.2.1) = true; rw [contains_push, hv, hne]; rfl)];simp only [strip, List.map_cons] at ih' ⊢;exact (List.Perm.cons _ ih').trans (List.Perm.swap _ _ _)
theorem KOk.know {D : List Deferred} {O : List Info} {K : Slo} {a : Act} (hK : KOk N D O K a) {t : Nat} {p : PV} {v : Value} (hv : a.tmps[t]? = some v) (hd : DenP O p v) : KOk N D O (xDF K t p) a := by
 refine ⟨hK.1, hK.2.1, fun s q hq => ?_⟩;rw [xBj] at hq;split at hq
 ·rename_i e;cases hq;exact ⟨v, hd, by rw [e]; exact hv⟩
 ·exact hK.2.2 s q hq
theorem xLr {a : Act} {t : Nat} {v : Value} (h : a.tmps[t]? = some v) : a.eval (.tmp t) = v := by
 simp [Act.eval, h]
def itI (ib : Nat) : Info := ⟨none, 0, none, .pointer (some ⟨ib, 0, none⟩)⟩
theorem st_ok {D : List Deferred} {S F : List Nat} {W0 : World} {Z : List Info} {R : RngC} {Sc : Sch} {s : Sc.ty} {a : Act} {w : World} {ib : Nat} (hK : KOk N D Z (xAM same Sc.slots (Sc.a s)) a) (hti : a.tmps[R.ti]? = some (.pointer (some ⟨ib, 0, none⟩))) (hh : HOk S F W0 Z (xAe same Sc.roots (Sc.b s)) w) :
  KOk N D (Z ++ [itI ib]) (stK Sc R s) a /\ HOk S F W0 (Z ++ [itI ib]) (stH Sc s) w /\ (Z ++ [itI ib])[Sc.roots.length]? = some (itI ib) := by
 have hl : Z.length = Sc.roots.length := by rw [hh.len, xDr]
 have h3 : (Z ++ [itI ib])[Sc.roots.length]? = some (itI ib) := by
  rw [<- hl, List.getElem?_append_right (Nat.le_refl _), Nat.sub_self]; rfl
 exact ⟨(hK.mono (Pre.app _ _)).know hti ⟨itI ib, h3, rfl, rfl⟩, hh.addDead (fun _ => rfl), h3⟩
section
variable {call : (β : Type) -> xAK β} {R : RngC} {Sc : Sch} {o : xBY} {D : List Deferred} {S F : List Nat} {W0 : World}
theorem end_ok {c : Code} (hi : RngIs c R) (hcall : ∀ β, xAJ P (call β)) (hN1 : Nat.ble (R.tn + 1) N = true) {s : Sc.ty} {y : xAB o} (hy : endEv P (call _) N R (stK Sc R s) (stH Sc s) (fun K h => xBk m o .normal K h) = some y) {Z : List Info} {a : Act} {w : World} {ib : Nat} (hK : KOk N D Z (xAM same Sc.slots (Sc.a s)) a) (hti : a.tmps[R.ti]? = some (.pointer (some ⟨ib, 0, none⟩))) (hh : HOk S F W0 Z (xAe same Sc.roots (Sc.b s)) w)
  (hrun : ∀ ty, (Instr.next (.pointer (some ⟨ib, 0, none⟩)) false ty).run P w = .ok (.tuple #[.bool false]) w) {X : Act -> World -> Prop} {Q : Exit -> Act -> World -> Prop} (hn : ∀ (Z' : List Info) (a' : Act) (w' : World), PreM m Z Z' -> (xAN o y).1 = .normal -> (∀ ts, xAI ts (xGV o y).roots = true -> Covs Z Z' ts) -> KOk N D Z' (xAN o y).2.1 a' -> HOk S F W0 Z' (xAN o y).2.2 w' -> Q (.exit R.b0) a' w') : R.round.wp P (Exit.then X Q) a w := by
 obtain ⟨hK0, hh0, _⟩ := st_ok (R := R) hK hti hh;unfold endEv at hy;refine wp_seq (wp_region_list ?_);rw [hi.l1];have hr1 : (execOp a.eval R.o1).run P w = .ok (.value (.tuple #[.bool false])) w := by
  unfold execOp;simp only [hi.p1, xLr hti, Sem.run_bind, hrun, Result.andThen_ok, Sem.run_pure]
 refine xEz hi.d1.1 hr1 ?_;have hK1 : KOk N D (Z ++ [itI ib]) (xDF (stK Sc R s) R.tn (.tu [(false, [.sc (.bool false)])])) (a.put R.o1.dst (.tuple #[.bool false])) := by
  rw [hi.d1.2];exact xFG (d := some R.tn) (v := .tu [(false, [.sc (.bool false)])]) hK0 ⟨[.bool false], ⟨_, [], rfl, ⟨_, rfl, rfl, rfl⟩, rfl⟩, rfl⟩ (by simp only [xHu, hN1, cond_true])
 have := xD2 (P := P) (N := N) (D := D) (ops := R.ops1) (S := S) (F := F) (W0 := W0) (r := y) (hcall _) (Q := Exit.then ((Code.seq (.cond R.tok .skip (.exit R.b0)) (.block R.b1 (.seq (.region R.r2 R.ops2 false) R.y))).wp P (Exit.then X Q)) (Exit.then X Q)) [] R.rest1 (Z ++ [itI ib]) _ _ _ w _ hy hK1 hh0 (fun a' w' hb => by
  obtain ⟨O', K', h', h1, h2, h3, h4⟩ := hb;refine wpList_nil ?_;dsimp only at h4;split at h4
  rotate_right
  ·cases h4
  rename_i htok;have hev : a'.eval R.tok = .bool false := (xAa h2 htok).1;refine wp_seq (wp_cond_false hev (wp_exit ?_));obtain ⟨g1, Z', g2, g3, g4, g5, _⟩ := xGE h4 h2 h3;show Q (.exit R.b0) a' w';refine hn Z' a' w' (((Pre.app Z [itI ib]).trans h1).m.trans g2) g1 (fun ts ht => fun t htm id i mm v hid hv => g5 ts ht t htm id i mm v ((Pre.app Z [itI ib]).trans h1 id i hid) hv) g3 g4)
 simpa using this
theorem xMq {w : World} {ib x z : Nat} {seen : Array Nat} (h : w.heap[ib]? = some (.mapIter none x seen z)) (ty : TypeId) : (Instr.next (.pointer (some ⟨ib, 0, none⟩)) false ty).run P w = .ok (.tuple #[.bool false]) w := by
 simp only [Instr.next, getObj, Sem.run_bind, Sem.run, h, Result.andThen_ok]
 rfl
theorem xN7 {c : Code} (hp : xBC c = some R) (hcall : ∀ β, xAJ P (call β)) (hm : P.follows .mixedOrders = true) {Fu : Nat} {pl : Nat -> Option PT} (hreg : xAL pl R.y = true) (hN1 : Nat.ble (R.tn + 1) N = true) (hN2 : Nat.ble (R.te + 1) N = true) {V : KK} {agg : Bool} {U : TC} {B : Sc.ty -> V.ty × U.ty -> Option (Sc.ty ⊕ xAB o)} {E : Sc.ty -> Option (xAB o)} (htg : xAI U.tags Sc.roots = true)
  (hB : ∀ s e, B s e = rndEv P Fu pl (call _) N R V agg U Sc.roots.length (stK Sc R s) (stH Sc s) e (rndK m R Sc o))
  (hE : ∀ s, E s = endEv P (call _) N R (stK Sc R s) (stH Sc s) (fun K h => xBk m o .normal K h)) : xF7 P m N R Sc o V agg U B E := by
 have hi := xIc hp;refine ⟨htg, fun s y hy D S' F W0 Z a w ib hK hti hh hib Q hn => ?_, ?_⟩
 ·obtain ⟨x, seen, z, hib⟩ := hib;rw [hE] at hy;refine end_ok hi hcall hN1 hy hK hti hh (xMq hib) (fun Z' a' w' h1 h2 _ h4 h5 => ?_);have := hn Z' a' w' h1 (fun e => by rw [h2] at e; cases e) h4 h5;rw [h2] at this;exact this
 ·suffices H : ∀ (n : Nat) (π : List (V.ty × U.ty)), π.length = n -> ∀ (s : Sc.ty) (Good : xAB o -> Prop), (∀ π' : List (V.ty × U.ty), π'.Perm π -> ∃ y, xLH B E s π' = some y /\ Good y) -> ∀ (D : List Deferred) (S' F : List Nat) (W0 : World) (Z : List Info) (a : Act) (w : World) (ib q cl : Nat) (ents : Array MapEntry) (us : List (V.ty × Nat × U.ty)),
    KOk N D Z (xAM same Sc.slots (Sc.a s)) a -> a.tmps[R.ti]? = some (.pointer (some ⟨ib, 0, none⟩)) -> HOk S' F W0 Z (xAe same Sc.roots (Sc.b s)) w -> RngAt Z V agg U w ib q cl ents us π -> W0.heap.size <= ib -> Off Z (xAe same Sc.roots (Sc.b s)) ib -> Off Z (xAe same Sc.roots (Sc.b s)) q -> ib ≠ q -> xAy U = false ->
    ∀ Q : Exit -> Act -> World -> Prop, (∀ (y : xAB o) (Z' : List Info) (a' : Act) (w' : World), Good y -> PreM m Z Z' -> (xAN o y).1 ≠ .exit R.b0 -> (∀ ts, xAI ts Sc.roots = true -> xAI ts (xGV o y).roots = true -> Covs Z Z' ts) -> KOk N D Z' (xAN o y).2.1 a' -> HOk S' F W0 Z' (xAN o y).2.2 w' -> w'.heap[q]? = some (.map ents cl) -> Off Z' (xAN o y).2.2 q -> Q (xNh R.b0 (xAN o y).1).out a' w') ->
    Code.rounds P R.round Q (n + 1) a w from fun π => H π.length π rfl
  intro n
  induction n with
  | zero =>
   intro π hlen s Good hgood D S' F W0 Z a w ib q cl ents us hK hti hh hat hib hoi hoq hne hcv Q hn;obtain ⟨since, seen, last, a1, a2, a3, a4, a5, a6, a7, a8⟩ := hat;have hπ : π = [] := List.eq_nil_of_length_eq_zero hlen;subst hπ;have hnone : us.filter (fun e => !seen.contains e.2.1) = [] := by
    have := a8.length_eq;simp only [strip, List.length_map, List.length_nil] at this;exact List.eq_nil_of_length_eq_zero this
   have hrun : ∀ ty, (Instr.next (.pointer (some ⟨ib, 0, none⟩)) false ty).run P w = .ok (.tuple #[.bool false]) w := by
    intro ty;rcases run_next_at (P := P) w ty ib q since last seen ents cl a1 a2 a3 a4 with ⟨_, h⟩ | ⟨e, he, _⟩
    ·exact h
    ·obtain ⟨he1, he2⟩ := mem_left he;obtain ⟨u, hu, _, hb, _⟩ := xUT a6 he1;rw [hb] at he2;have : u ∈ us.filter (fun e => !seen.contains e.2.1) := List.mem_filter.2 ⟨hu, by show (!seen.contains u.2.1) = true; rw [he2]; rfl⟩;rw [hnone] at this; cases this
   obtain ⟨y, hy, hgy⟩ := hgood [] (List.Perm.refl _);have hy' : E s = some y := hy;rw [hE] at hy';show R.round.wp P (Exit.then (Code.rounds P R.round Q 0) Q) a w;refine end_ok hi hcall hN1 hy' hK hti hh.enterAll hrun (fun Z' a' w' h1 h2 h3 h4 h5 => ?_);have hqlt := lt_of_block a2;have := hn y Z' a' w' hgy h1 (fun e => by rw [h2] at e; cases e) (fun ts _ ht => h3 ts ht) h4 (hh.backR h5 hh.ext hh.ownB hh.footB) (h5.ext.heap (xBc hoq).1 a2) (fun p r i hp hi hf => by
    rcases h5.near p r i q hp hi hf with g | g | g
    ·omega
    ·exact (xBc hoq).1 g
    ·exact (xBc hoq).2 g)
   rw [h2] at this;exact this
  | succ n ih =>
   intro π hlen s Good hgood D S' F W0 Z a w ib q cl ents us hK hti hh hat hib hoi hoq hne hcv Q hn;obtain ⟨since, seen, last, a1, a2, a3, a4, a5, a6, a7, a8⟩ := hat;rcases run_next_at (P := P) w R.o1.type ib q since last seen ents cl a1 a2 a3 a4 with ⟨h0, _⟩ | ⟨e, he, w1, hw1, hrun⟩
   ·-- something is left
    exfalso;have hall := all_seen ents seen h0;have hnone : us.filter (fun e => !seen.contains e.2.1) = [] := by
     rw [List.filter_eq_nil_iff];intro u hu;have : u.2.1 ∈ ents.toList.map (·.born) := by rw [xLs a6]; exact List.mem_map.2 ⟨u, hu, rfl⟩
     obtain ⟨x, hx, hb⟩ := List.mem_map.1 this;rw [<- hb, hall x hx]; decide
    have := a8.length_eq;rw [hnone, hlen] at this;simp [strip] at this
   ·obtain ⟨he1, he2⟩ := mem_left he;obtain ⟨u, hu, hkey, hborn, hval⟩ := xUT a6 he1;rw [hborn] at he2;have hperm := left_step hu a7 he2;have hπ : ∀ π'' : List (V.ty × U.ty), π''.Perm (strip (us.filter (fun e => !(seen.push u.2.1).contains e.2.1))) -> ((u.1, u.2.2) :: π'').Perm π := fun π'' hp => ((List.Perm.cons _ hp).trans hperm.symm).trans a8;have hlen' : (strip (us.filter (fun e => !(seen.push u.2.1).contains e.2.1))).length = n := by
     have := (hperm.symm.trans a8).length_eq;simp only [List.length_cons] at this;omega
    obtain ⟨y0, hy0, _⟩ := hgood _ (hπ _ (List.Perm.refl _));obtain ⟨qv, hqv, _⟩ := xDt hy0;have hqv' := hqv;rw [hB] at hqv;have hqlt := lt_of_block a2;have hilt := lt_of_block a1
    have hw1h : w1.heap = w.heap := by rcases hw1 with rfl | rfl <;> rfl
    have hh1 : HOk S' F W0 Z (xAe same Sc.roots (Sc.b s)) w1 := by
     rcases hw1 with rfl | rfl
     ·exact hh
     ·exact hh.drew
    obtain ⟨it, hit⟩ : ∃ it : Obj, it = .mapIter (some q) since (seen.push e.born) cl := ⟨_, rfl⟩;have hwB : ChangeMaps.setBlock w1 ib it = w1.putObj ib it := rfl;obtain ⟨Bw, hBw⟩ : ∃ Bw : World, Bw = w1.putObj ib it := ⟨_, rfl⟩;have hilt1 : ib < w1.heap.size := by rw [hw1h]; exact hilt
    have hBi : Bw.heap[ib]? = some it := by rw [hBw, World.putObj_heap_same hilt1]
    have hBq : Bw.heap[q]? = some (.map ents cl) := by rw [hBw, World.putObj_heap_other (Ne.symm hne), hw1h]; exact a2
    have hBs : Bw.heap.size = w1.heap.size := by rw [hBw, World.putObj_size]
    have hBE : Ex [ib] w1 Bw := by
     rw [hBw];exact ⟨rfl, rfl, rfl, Nat.le_of_eq (World.putObj_size).symm, fun j _ hj => World.putObj_heap_other (by simpa using hj)⟩
    have hhB : HOk (xAk .own Z (xAe same Sc.roots (Sc.b s)) (List.range (xAe same Sc.roots (Sc.b s)).length)) (xAk .foot Z (xAe same Sc.roots (Sc.b s)) (List.range (xAe same Sc.roots (Sc.b s)).length)) Bw Z (xAe same Sc.roots (Sc.b s)) Bw := by
     have := hh1.enterAll.putObj (l := ib) (o := it) (o0 := .mapIter (some q) since seen last) (by rw [hw1h]; exact a1) rfl hBE hBs hBi;rw [<- hBw] at this;exact this
    have hEB : Ex S' W0 Bw := by
     refine ⟨hBE.os.trans hh1.ext.os, hBE.tape.trans hh1.ext.tape, hBE.output.trans hh1.ext.output, by rw [hBs]; exact hh1.ext.size, fun j hj hjs => ?_⟩;rw [hBE.block j (Nat.lt_of_lt_of_le hj hh1.ext.size) (by simp only [List.mem_singleton]; omega)];exact hh1.ext.block j hj hjs
    obtain ⟨hK0, hh0, hinf⟩ := st_ok (R := R) hK hti hhB;have offB : ∀ {Z' : List Info} {h' : List Root} {w' : World} {b : Nat}, HOk (xAk .own Z (xAe same Sc.roots (Sc.b s)) (List.range (xAe same Sc.roots (Sc.b s)).length)) (xAk .foot Z (xAe same Sc.roots (Sc.b s)) (List.range (xAe same Sc.roots (Sc.b s)).length)) Bw Z' h' w' -> Off Z (xAe same Sc.roots (Sc.b s)) b -> b < Bw.heap.size -> Off Z' h' b := by
     intro Z' h' w' b h5 ho hb p r i hp hi hf;rcases h5.near p r i b hp hi hf with g | g | g
     ·omega
     ·exact (xBc ho).1 g
     ·exact (xBc ho).2 g
    have hqB : q < Bw.heap.size := lt_of_block hBq;have hiB : ib < Bw.heap.size := lt_of_block hBi;have tup : ∀ {O : List Info}, Pre Z O -> DenT O [(false, [.sc (V.val u.1)]), (agg, U.enc u.2.2)] [e.key, e.val] := by
     intro O hpre;refine ⟨e.key, [e.val], rfl, ⟨_, rfl, hkey, ?_⟩, e.val, [], rfl, hval.mono hpre, rfl⟩;cases V <;> rfl
    show R.round.wp P (Exit.then (Code.rounds P R.round Q (n + 1)) Q) a w;unfold rndEv at hqv;refine wp_seq (wp_region_list ?_);rw [hi.l1];have hr1 : (execOp a.eval R.o1).run P w = .ok (.value (.tuple #[.bool true, e.key, e.val])) Bw := by
     unfold execOp;rw [<- hit, hwB, <- hBw] at hrun;simp only [hi.p1, xLr hti, Sem.run_bind, hrun, Result.andThen_ok, Sem.run_pure]
    refine xEz hi.d1.1 hr1 ?_;have hK1 : KOk N D (Z ++ [itI ib]) (xDF (stK Sc R s) R.tn (.tu [(false, [.sc (.bool true)]), (false, [.sc (V.val u.1)]), (agg, U.enc u.2.2)])) (a.put R.o1.dst (.tuple #[.bool true, e.key, e.val])) := by
     rw [hi.d1.2];exact xFG (d := some R.tn) (v := .tu [(false, [.sc (.bool true)]), (false, [.sc (V.val u.1)]), (agg, U.enc u.2.2)]) hK0 ⟨[.bool true, e.key, e.val], ⟨_, _, rfl, ⟨_, rfl, rfl, rfl⟩, tup (Pre.app _ _)⟩, rfl⟩ (by simp only [xHu, hN1, cond_true])
    have step := xD2 (P := P) (N := N) (D := D) (ops := R.ops1) (r := qv) (hcall _) (Q := Exit.then ((Code.seq (.cond R.tok .skip (.exit R.b0)) (.block R.b1 (.seq (.region R.r2 R.ops2 false) R.y))).wp P (Exit.then (Code.rounds P R.round Q (n + 1)) Q)) (Exit.then (Code.rounds P R.round Q (n + 1)) Q)) [] R.rest1 (Z ++ [itI ib]) _ _ _ Bw _ hqv hK1 hh0 (fun a' w' hb => by
     obtain ⟨O', K', h', h1, h2, h3, h4⟩ := hb;refine wpList_nil ?_;dsimp only at h4;split at h4
     rotate_right
     ·cases h4
     rename_i id htok hlk
     cases hid : Nat.beq id Sc.roots.length with
     | false => rw [hid] at h4; cases h4
     | true =>
     rw [hid] at h4;have hid := nbT hid;subst hid;have hev : a'.eval R.tok = .bool true := (xAa h2 htok).1;refine wp_seq (wp_cond_true hev (wp_skip ?_));refine wp_block (wp_seq (wp_region_list ?_));rw [hi.l2];have hti' : a'.tmps[R.ti]? = some (.pointer (some ⟨ib, 0, none⟩)) := by
      obtain ⟨v, ⟨i, g1, g2, _⟩, g4⟩ := h2.2.2 _ _ hlk;rw [h1 _ _ hinf] at g1;cases g1;rw [g4, g2]; rfl
     have hib' : w'.heap[ib]? = some (.mapIter (some q) since (seen.push e.born) cl) := by rw [<- hit]; exact h3.ext.heap (xBc hoi).1 hBi
     have hq' : w'.heap[q]? = some (.map ents cl) := h3.ext.heap (xBc hoq).1 hBq;have hr2 : (execOp a'.eval R.o2).run P w' = .ok (.value (.tuple #[e.key, e.val])) w' := by
      unfold execOp;have := run_entry_at (P := P) w' ib q since seen ents cl e hib' hq' he1 (by rw [xLs a6]; exact a7);simp only [hi.p2, xLr hti', Sem.run_bind, this, Result.andThen_ok, Sem.run_pure]
     refine xEz hi.d2.1 hr2 ?_;have hpre' := (Pre.app Z [itI ib]).trans h1;have hK2 : KOk N D O' (xDF K' R.te (.tu [(false, [.sc (V.val u.1)]), (agg, U.enc u.2.2)])) (a'.put R.o2.dst (.tuple #[e.key, e.val])) := by
      rw [hi.d2.2];exact xFG (d := some R.te) (v := .tu [(false, [.sc (V.val u.1)]), (agg, U.enc u.2.2)]) h2 ⟨[e.key, e.val], tup hpre', rfl⟩ (by simp only [xHu, hN2, cond_true])
     have step2 := xD2 (P := P) (N := N) (D := D) (ops := R.ops2) (r := qv) (hcall _) (Q := Exit.then (R.y.wp P (Exit.inBlock R.b1 (Exit.then (Code.rounds P R.round Q (n + 1)) Q))) (Exit.inBlock R.b1 (Exit.then (Code.rounds P R.round Q (n + 1)) Q))) [] R.rest2 O' _ _ _ w' _ h4 hK2 h3 (fun a2 w2 hb2 => by
      obtain ⟨O2, K2, h2', k1, k2, k3, k4⟩ := hb2;refine wpList_nil ?_;show R.y.wp P (Exit.inBlock R.b1 (Exit.then (Code.rounds P R.round Q (n + 1)) Q)) a2 w2;refine xBU (hcall _) hm Fu pl 10000 R.y hreg K2 h2' _ qv k4 _ _ Bw O2 a2 w2 k2 k3 _ (fun x O3 K3 h3' a3' w3 j1 j2 j3 j4 => ?_);have hpre3 := (hpre'.trans k1).trans j1;have hinf3 := j1 _ _ (k1 _ _ (h1 _ _ hinf));have fin : ∀ x : XT, rndK m R Sc o x K3 h3' = some qv -> Exit.then (Code.rounds P R.round Q (n + 1)) Q x.out a3' w3 := by
       intro x hx;unfold rndK at hx;split at hx
       rotate_right
       ·cases hx
       rename_i id3 hlk3
       cases hid3 : Nat.beq id3 Sc.roots.length with
       | false => rw [hid3] at hx; cases hx
       | true =>
       rw [hid3] at hx;have hid3 := nbT hid3;subst hid3;have hti3 : a3'.tmps[R.ti]? = some (.pointer (some ⟨ib, 0, none⟩)) := by
        obtain ⟨v, ⟨i, g1, g2, _⟩, g4⟩ := j3.2.2 _ _ hlk3;rw [hinf3] at g1;cases g1;rw [g4, g2]; rfl
       have out : ∀ (e' : XT) (yq : xAB o), qv = .inr yq -> xBk m o e' K3 h3' = some yq -> (xAN o yq).1 ≠ .exit R.b0 -> Q (xNh R.b0 (xAN o yq).1).out a3' w3 := by
        intro e' yq hq hd hne';obtain ⟨_, Z', g2, g3, g4, g5, _⟩ := xGE hd j3 j4;obtain ⟨y, hy, hgy⟩ := hgood _ (hπ _ (List.Perm.refl _));have : y = yq := by
         have hy' : ob (B s (u.1, u.2.2)) (fun q => su q (fun s' => xLH B E s' _) some) = some y := hy;rw [hqv', hq] at hy';have hy2 : some yq = some y := hy';exact (Option.some.inj hy2).symm
        subst this;exact hn y Z' a3' w3 hgy (hpre3.m.trans g2) hne' (fun ts _ ht => fun t htm id i mm v hid hv => g5 ts ht t htm id i mm v (hpre3 id i hid) hv) g3 (hh.backR g4 hEB hh.ownB hh.footB) (g4.ext.heap (xBc hoq).1 hBq) (offB g4 hoq hqB)
       simp only [cond_true] at hx
       cases x with
       | normal =>
        dsimp only at hx
        cases hd : Sc.dec m K3 h3' with
        | none => rw [hd] at hx; cases hx
        | some s' =>
         rw [hd] at hx;have hqs : qv = .inl s' := (Option.some.inj hx).symm;obtain ⟨Z', g2, g3, g4, g5, _⟩ := Sch.dec_cov hd j3 j4;have hpm : PreM m Z Z' := hpre3.m.trans g2;have hcov : ∀ ts, xAI ts Sc.roots = true -> Covs Z Z' ts := fun ts ht => fun t htm id i mm v hid hv => g5 ts ht t htm id i mm v (hpre3 id i hid) hv;show Code.rounds P R.round Q (n + 1) a3' w3;refine ih _ hlen' s' Good (fun π'' hp => ?_) D S' F W0 Z' a3' w3 ib q cl ents us g3 hti3 (hh.backR g4 hEB hh.ownB hh.footB) ⟨since, seen.push e.born, cl, ?_, g4.ext.heap (xBc hoq).1 hBq, a3, a5, a5, xF0 hcv (hcov _ htg) a6, a7, by rw [hborn]⟩ hib (offB g4 hoi hiB) (offB g4 hoq hqB) hne hcv Q (fun y Z2 a4 w4 hgy b1 b2 b3 b4 b5 b6 b7 => hn y Z2 a4 w4 hgy (hpm.trans b1) b2 (fun ts h1 h2 => fun t htm id i mm v hid hv => by
          obtain ⟨id', i', c1, c2⟩ := hcov ts h1 t htm id i mm v hid hv;exact b3 ts h1 h2 t htm id' i' mm v c1 c2) b4 b5 b6 b7)
         ·obtain ⟨y, hy, hgy⟩ := hgood _ (hπ π'' hp);refine ⟨y, ?_, hgy⟩;have hy' : ob (B s (u.1, u.2.2)) (fun q => su q (fun s' => xLH B E s' π'') some) = some y := hy;rw [hqv', hqs] at hy';exact hy'
         ·rw [<- hit]; exact g4.ext.heap (xBc hoi).1 hBi
       | exit id =>
        dsimp only at hx
        cases hb0 : Nat.beq id R.b0 with
        | true =>
         rw [hb0] at hx;simp only [cond_true] at hx;have hb0 := nbT hb0
         cases hd : xBk m o .normal K3 h3' with
         | none => rw [hd] at hx; cases hx
         | some yq =>
          rw [hd] at hx;have hxt := (xBz hd j3 j4).1;have := out .normal yq (Option.some.inj hx).symm hd (by rw [hxt]; exact fun e => by cases e);rw [hxt] at this;rw [hb0]; exact this
        | false =>
         rw [hb0] at hx;simp only [cond_false] at hx;have hb0 := Nat.ne_of_beq_eq_false hb0
         cases hd : xBk m o (.exit id) K3 h3' with
         | none => rw [hd] at hx; cases hx
         | some yq =>
          rw [hd] at hx;have hxt := (xBz hd j3 j4).1;have := out (.exit id) yq (Option.some.inj hx).symm hd (by rw [hxt]; exact fun e => by cases e; exact hb0 rfl);rw [hxt] at this;exact this
       | ret =>
        dsimp only at hx
        cases hd : xBk m o .ret K3 h3' with
        | none => rw [hd] at hx; cases hx
        | some yq =>
         rw [hd] at hx;have hxt := (xBz hd j3 j4).1;have := out .ret yq (Option.some.inj hx).symm hd (by rw [hxt]; exact fun e => by cases e);rw [hxt] at this;exact this
      cases x with
      | normal => exact fin .normal j2
      | exit id =>
       dsimp only at j2
       cases hb1 : Nat.beq id R.b1 with
       | true =>
        rw [hb1] at j2;have hb1 := nbT hb1;subst hb1;show (if R.b1 = R.b1 then Exit.then (Code.rounds P R.round Q (n + 1)) Q .normal a3' w3 else Exit.then (Code.rounds P R.round Q (n + 1)) Q (.exit R.b1) a3' w3);rw [if_pos rfl];exact fin .normal j2
       | false =>
        rw [hb1] at j2;have hb1 := Nat.ne_of_beq_eq_false hb1;show (if id = R.b1 then Exit.then (Code.rounds P R.round Q (n + 1)) Q .normal a3' w3 else Exit.then (Code.rounds P R.round Q (n + 1)) Q (.exit id) a3' w3);rw [if_neg hb1];exact fin (.exit id) j2
      | ret => exact fin .ret j2)
     simpa using step2)
    simpa using step
end
end
end
noncomputable section
open Go.RowKit
def xAt : Code -> List Nat -> Code
 | c, [] => c
 | c, i :: p => xAt (match c with
  | .seq x y => match i with
   | 0 => x
   | _ => y
  | .cond _ x y => match i with
   | 0 => x
   | _ => y
  | .block _ x => x
  | .loop x => x
  | c => c) p
theorem xA8 : ∀ (c : Code) (p q : List Nat), xAt c (p ++ q) = xAt (xAt c p) q
 | c, [], q => rfl
 | c, i :: p, q => by
  simp only [List.cons_append, xAt];exact xA8 _ p q
def AnP (P : Program) (m N : Nat) (c : Code) : An -> List Nat -> Prop
 | .no, _ => True
 | .two a b, p => AnP P m N c a (p ++ [0]) /\ AnP P m N c b (p ++ [1])
 | .one a, p => AnP P m N c a (p ++ [0])
 | .rnd a b, p => AnP P m N c a (p ++ [0]) /\ AnP P m N c b p
 | .join _ a, p => AnP P m N c a p
 | .loop S o M, p => xAS P m N (xAt c (p ++ [0])) S o M
 | .rng S o V agg U B E, p => match xBC (xAt c p) with
  | some R => xF7 P m N R S o V agg U B E
  | none => True
theorem xD8 {P : Program} {m N : Nat} {c : Code} : ∀ {an : An} {p : List Nat}, AnP P m N c an p -> AnOk P m N an (xAt c p)
 | .no, p, _ => trivial
 | .two a b, p, h => by
  have h1 := xD8 (an := a) h.1;have h2 := xD8 (an := b) h.2;rw [xA8] at h1 h2;cases hc : xAt c p <;> rw [hc] at h1 h2 <;> first | exact ⟨h1, h2⟩ | exact h1 | trivial
 | .one a, p, h => by
  have h1 := xD8 (an := a) (p := p ++ [0]) h;rw [xA8] at h1;cases hc : xAt c p <;> rw [hc] at h1 <;> first | exact h1 | trivial
 | .rnd a b, p, h => by
  have h1 := xD8 (an := a) h.1;have h2 := xD8 (an := b) h.2;rw [xA8] at h1;cases hc : xAt c p <;> rw [hc] at h1 h2 <;> first | exact ⟨h1, h2⟩ | trivial
 | .join _ a, p, h => xD8 (an := a) h
 | .loop S o M, p, h => by
  have h1 : xAS P m N (xAt c (p ++ [0])) S o M := h;rw [xA8] at h1;cases hc : xAt c p <;> rw [hc] at h1 <;> first | exact h1 | trivial
 | .rng S o V agg U B E, p, h => h
def xS8 : Option RngC -> RngC
 | some R => R
 | none => ⟨0, 0, 0, #[], #[], #[], [], ⟨none, .panic (.const undef), 0, "", #[], none⟩, ⟨none, .panic (.const undef), 0, "", #[], none⟩, ⟨none, .panic (.const undef), 0, "", #[], none⟩, 0, .const undef, 0, 0, 0, 0, 0, .const undef, [], [], .skip⟩
theorem xOV {P : Program} {m N : Nat} {c : Code} {p : List Nat} {R : RngC} {S : Sch} {o : xBY} {V : KK} {agg : Bool} {U : TC} {B : S.ty -> V.ty × U.ty -> Option (S.ty ⊕ xAB o)} {E : S.ty -> Option (xAB o)} (hR : xBC (xAt c p) = some R) (h : xF7 P m N R S o V agg U B E) : AnP P m N c (.rng S o V agg U B E) p := by
 show (match xBC (xAt c p) with
  | some R => xF7 P m N R S o V agg U B E
  | none => True)
 rw [hR]; exact h
def xUS (P : Program) (Fu : Nat) (A : xFo) (call : (β : Type) -> xAK β) (β : Type) : xAK β := fun f args h k =>
 match P.funcs[f]? with
 | some fn => match fn.body with
  | some c => xD6 P Fu (xFp A f) (call β) 10000 (args.length + (fn.ntmps - args.length)) c (xV1 0 args) (xTY (xAY h args) h) (fun e K' h' => match e with
   | .exit _ => none
   | _ => match xR2 P K' h' fn.results.toList with
    | some v => k (xAY h args) v (xEV (xAY h args) h h' 0)
    | none => none)
  | none => none
 | none => none
theorem xUR {P : Program} (hm : P.follows .mixedOrders = true) (Fu : Nat) {A : xFo} (hA : xEy P A) {call : (β : Type) -> xAK β} (hcall : ∀ β, xAJ P (call β)) (β : Type) : xAJ P (xUS P Fu A call β) :=
 fun f args h k r hr S F W0 O w vs hargs hh hcl => by
 simp only [xUS] at hr;split at hr
 ·rename_i fn hfn;split at hr
  ·rename_i c hc;have hsz : vs.toArray.size = args.length := by simpa using hargs.len
   refine calls_of_wp hfn hc (xBU (N := args.length + (fn.ntmps - args.length)) (hcall β) hm Fu (xFp A f) 10000 c (xOf hA hfn hc) _ _ _ r hr _ _ w O _ w ⟨by simp [hsz], rfl, fun t p hp => ?_⟩ (hh.enter (xAY h args)) _ (fun e O' K' h' a' w' hp he hK' hh' => ?_))
   ·obtain ⟨_, h2⟩ := xEG _ _ _ _ hp;rw [Nat.sub_zero] at h2;obtain ⟨v, h3, h4⟩ := hargs.get h2;refine ⟨v, h4, ?_⟩;have hlt := (List.getElem?_eq_some_iff.1 h3).1;show (vs.toArray ++ Array.replicate (fn.ntmps - vs.toArray.size) undef)[t]? = some v;rw [Array.getElem?_append_left (by simpa using hlt)];simpa using h3
   ·have fin : (match xR2 P K' h' fn.results.toList with
      | some v => k (xAY h args) v (xEV (xAY h args) h h' 0)
      | none => none) = some r -> a'.defers = [] /\ ∃ v, (results fn a'.tmps).run P w' = .ok v w' /\ ∃ O' h' v' u B t, Ending.returned v = .returned u /\ Pre O O' /\ DenP O' v' u /\ HOk S F W0 O' h' w' /\ k t v' h' = some r /\ Ex B w w' /\
      (∀ b ∈ B, ∃ p ∈ t, ∃ r i, h[p]? = some r /\ O[p]? = some i /\ own i r b) /\ (∀ q : Nat, q ∉ t -> q < h.length -> h'[q]? = h[q]?) /\ Feet O h w O' h' := by
     intro hm2;split at hm2
     ·rename_i v hv;obtain ⟨u, h1, h2⟩ := xId hK' hh' hv;have hl : h.length <= h'.length := by rw [<- hh.len, <- hh'.len]; exact hp.len
      refine ⟨hK'.2.1, u, h2, O', _, v, u, _, xAY h args, rfl, hp, h1, hh.merged _ (fun _ _ q1 q2 => xJD q1 q2) hp hh', hm2, hh'.ext, fun b hb => xAc.1 hb, fun q hq hlt => xIr _ h h' 0 q hl (by
       rw [Nat.zero_add]
       cases hb : (xAY h args).any (Nat.beq q) with
       | false => rfl
       | true => exact absurd (xDi.1 hb) hq) hlt, fun q s j b hs hj hb => ?_⟩
      rcases xA9 _ h h' 0 q s hl hs with ⟨g1, _⟩ | ⟨g1, _⟩
      ·rcases hh'.near q s j b g1 hj hb with g2 | g2 | g2
       ·exact .inl g2
       ·obtain ⟨p, _, r0, i0, g3, g4, g5⟩ := xAc.1 g2;exact .inr ⟨p, r0, i0, g3, g4, xAm g5⟩
       ·obtain ⟨p, _, r0, i0, g3, g4, g5⟩ := xAc.1 g2;exact .inr ⟨p, r0, i0, g3, g4, g5⟩
      ·obtain ⟨i0, g2⟩ := hh.info g1;have := hp _ _ g2;rw [hj] at this;cases this;exact .inr ⟨q, s, j, g1, g2, hb⟩
     ·cases hm2
    cases e with
    | normal => exact fin he
    | exit id => cases he
    | ret => exact fin he
  ·cases hr
 ·cases hr
def xCr (P : Program) (Fu : Nat) (A : xFo) (tab : List Ent) : Nat -> (β : Type) -> xAK β
 | 0, _ => fun _ _ _ _ => none
 | d + 1, β => xVp (xUS P Fu A (xCr P Fu A tab d)) tab β
theorem xA7 {P : Program} (hm : P.follows .mixedOrders = true) (Fu : Nat) {A : xFo} (hA : xEy P A) {tab : List Ent} (hT : xAj P tab) : ∀ (d : Nat) (β : Type), xAJ P (xCr P Fu A tab d β)
 | 0, β => fun f args h k r hr => by cases hr
 | d + 1, β => xLA (xUR hm Fu hA (xA7 hm Fu hA hT d)) hT β
end
end Go.Proofs.YtnomnijhlbalaaaGreatDoor
