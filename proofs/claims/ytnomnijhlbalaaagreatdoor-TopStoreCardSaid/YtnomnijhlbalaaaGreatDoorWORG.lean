/- A part of the proof of the theorem of the last file. No condition. By an AI agent. -/
import Derived.Test.YtnomnijhlbalaaaGreatDoorWOC25
import Derived.Laws.EntriesVeiled
namespace Go.Proofs.YtnomnijhlbalaaaGreatDoor
section
open Go.RowKit
attribute [local irreducible] xAO xBl
attribute [local go_sem] Oper.semAt_some
set_option maxRecDepth 100000 in
set_option maxHeartbeats 8000000 in
theorem xLq (p : Recipe) (a : Option Addr) (cap : Nat) (a2 : Option Addr) (cap2 : Nat) (ones : List Mar) (hcnt : ∀ k, k < p.lots.length -> 0 <= (nth p.lots .zero k).count /\ (nth p.lots .zero k).count <= 1000) (hlen : p.lots.length <= 1000) (hon : Hid (ones.length = p.lots.length)) (l g bt by_ be base : Nat) (SB SG : List Nat) (hgS : g ∈ SG) (hSB : ∀ x ∈ SB, x ∈ SG) (hgB : g ∉ SB) (hEnv : ∀ W W', Env p a cap a2 cap2 ones l bt by_ be W -> Ex SG W W' -> Env p a cap a2 cap2 ones l bt by_ be W') (J : List (List Int × Mar) -> World -> Prop) (hJE : ∀ pre W W', J pre W -> Ex [g] W W' -> J pre W')  (r : Nat) (ih : ∀ (k : Nat) (c : List Int) (m : Mar) (pre : List (List Int × Mar)) (w : World), (Hid (k + r = p.lots.length)) -> (Hid (c.length = k)) -> (k <= p.lots.length) -> (∀ x ∈ SG, x < w.heap.size) -> (Env p a cap a2 cap2 ones l bt by_ be w) -> (J pre w) -> (Own 3 1 intCells base w (.slice (some ⟨g, 0, none⟩) k p.lots.length) c) -> Calls Tryz.prog 111 #[.slice (some ⟨g, 0, none⟩) k p.lots.length, .agg #[.int .i64 m.m0, .int .i64 m.m1, .int .i64 m.m2, .int .i64 m.m3, .int .i64 m.m4, .int .i64 m.m5, .int .i64 m.m6, .int .i64 m.m7], .pointer (some ⟨bt, 0, none⟩), .pointer (some ⟨by_, 0, none⟩), .pointer (some ⟨be, 0, none⟩)] w (fun e w' => e = .returned (.bool true) /\ J (pre ++ xA2 p ones r c m) w' /\ Ex SG w w' /\ Own 3 1 intCells base w' (.slice (some ⟨g, 0, none⟩) k p.lots.length) c)) (k : Nat) (c : List Int) (m : Mar) (pre : List (List Int × Mar)) (w : World) (hkr : Hid (k + (r + 1) = p.lots.length)) (hck : Hid (c.length = k)) (hk : k <= p.lots.length) (hSw : ∀ x ∈ SG, x < w.heap.size) (hE : Env p a cap a2 cap2 ones l bt by_ be w) (hJ : J pre w) (hO : Own 3 1 intCells base w (.slice (some ⟨g, 0, none⟩) k p.lots.length) c) :
  Calls Tryz.prog 111 #[.slice (some ⟨g, 0, none⟩) k p.lots.length, .agg #[.int .i64 m.m0, .int .i64 m.m1, .int .i64 m.m2, .int .i64 m.m3, .int .i64 m.m4, .int .i64 m.m5, .int .i64 m.m6, .int .i64 m.m7], .pointer (some ⟨bt, 0, none⟩), .pointer (some ⟨by_, 0, none⟩), .pointer (some ⟨be, 0, none⟩)] w (fun e w' => e = .returned (.bool true) /\ J (pre ++ xA2 p ones (r + 1) c m) w' /\ Ex SG w w' /\ Own 3 1 intCells base w' (.slice (some ⟨g, 0, none⟩) k p.lots.length) c) := by
 have hlt : k < p.lots.length := by have := hkr.out; omega
 have hne : ((k : Int) == (p.lots.length : Int)) = false := by simp; omega
 have hcn := hcnt k hlt;obtain ⟨cn, hcn'⟩ : ∃ cn : Nat, (nth p.lots .zero k).count = (cn : Int) := ⟨(nth p.lots .zero k).count.toNat, by omega⟩;have hcm : cn <= 1000 := by omega
 have hspec : xA2 p ones (r + 1) c m = (List.range (cn + 1)).flatMap fun (j : Nat) => xA2 p ones r (c ++ [(j : Int)]) (xFb m (nth ones .zero k) j) := by
  rw [xA2, hck.out, hcn']; congr 1
 have hspec' := Lib.hid hspec; clear hspec;have hg := hO.lt rfl;have hgb : base <= g := hO.base_le rfl;have ih' := Lib.hid ih; clear ih
 go_enter Tryz.func111, Tryz.ntmps111
 go_upto_region 1 with (fail)
 refine xF9 (fun W => Ext w W /\ w.heap.size + 1 = W.heap.size /\ W.heap[w.heap.size]? = some (.cells #[.int .i64 m.m0, .int .i64 m.m1, .int .i64 m.m2, .int .i64 m.m3, .int .i64 m.m4, .int .i64 m.m5, .int .i64 m.m6, .int .i64 m.m7] 156 (0, 0))) ⟨by (exact exI), by simp, xAq _ _⟩ (fun W hW => ?_);obtain ⟨hr0, hsz, hB0⟩ := hW;have hr : Ex [] W W := Ex.refl _ _;have hsz' := Nat.le_of_eq hsz.symm; have hsz'' := Nat.le_of_eq hsz; clear hsz;have hEW := hEnv _ _ hE (hr0.ex SG);have hJW := hJE _ _ _ hJ (hr0.ex [g]);have hOW := hO.ext hr0;have hlx : k < ones.length := by have := hon.out; omega
 have hk0 : (0 : Int) <= (k : Int) := by omega
 have hk1 : (k : Int) < (p.lots.length : Int) := by omega
 have hk2 : (k : Int) < (ones.length : Int) := by omega
 have hwg : w.heap.size ≠ g := fun e => by have := hSw g hgS; omega
 have hrS : Ex SG W W := Ex.refl _ _;have e0 := fun w' (h : Ex SG W w') => xAb (hEnv W w' hEW h).t 0 rfl;have e1 := fun w' (h : Ex SG W w') => xAb (hEnv W w' hEW h).t 1 rfl;have e2 := fun w' (h : Ex SG W w') => xAb (hEnv W w' hEW h).t 2 rfl;have e3 := fun w' (h : Ex SG W w') => xAb (hEnv W w' hEW h).t 3 rfl;have e4 := fun w' (h : Ex SG W w') => xAb (hEnv W w' hEW h).t 4 rfl;have e5 := fun w' (h : Ex SG W w') => xAb (hEnv W w' hEW h).t 5 rfl;have e6 := fun w' (h : Ex SG W w') => xAb (hEnv W w' hEW h).t 6 rfl;have e7 := fun w' (h : Ex SG W w') => xAb (hEnv W w' hEW h).t 7 rfl;have e8 := fun w' (h : Ex SG W w') => xAb (hEnv W w' hEW h).t 8 rfl;have e9 := fun w' (h : Ex SG W w') => xAb (hEnv W w' hEW h).t 9 rfl;have ee := fun w' (h : Ex SG W w') => xAb (hEnv W w' hEW h).e 0 rfl;have elots := fun w' (h : Ex SG W w') => (hEnv W w' hEW h).lots;have eones := fun w' (h : Ex SG W w') => (hEnv W w' hEW h).ones_;have hlb := hEW.lots.le; have hlb' := hEW.lots.big;obtain ⟨b2, off2, rfl, hbw2, _⟩ := hEW.lots.cells (by omega);have l0 : ∀ w', Ex SG W w' -> w'.cell? ⟨b2, off2 + k * 9, none⟩ = some (.int .i64 cn) := fun w' h => by
  obtain ⟨b, off, hb, _, hcc⟩ := (elots w' h).cells (by omega);cases hb;have := hcc k hlt 0 _ rfl;rwa [Nat.add_zero, xAG p.lots .zero k hlt, hcn'] at this
 have hob := hEW.ones_.le; have hob' := hEW.ones_.big;obtain ⟨b3, off3, rfl, hbw3, _⟩ := hEW.ones_.cells (by omega);obtain ⟨mo, hmo⟩ : ∃ mo, mo = nth ones Mar.zero k := ⟨_, rfl⟩;have o0 : ∀ w', Ex SG W w' -> w'.cell? ⟨b3, off3 + k * 8, none⟩ = some (.int .i64 mo.m0) := fun w' h => by
  obtain ⟨b, off, hb, _, hcc⟩ := (eones w' h).cells (by omega);cases hb;have := hcc k hlx 0 _ rfl;rwa [Nat.add_zero, xAG ones .zero k hlx, <- hmo] at this
 have o1 : ∀ w', Ex SG W w' -> w'.cell? ⟨b3, off3 + k * 8 + 1, none⟩ = some (.int .i64 mo.m1) := fun w' h => by
  obtain ⟨b, off, hb, _, hcc⟩ := (eones w' h).cells (by omega);cases hb;have := hcc k hlx 1 _ rfl;rwa [xAG ones .zero k hlx, <- hmo] at this
 have o2 : ∀ w', Ex SG W w' -> w'.cell? ⟨b3, off3 + k * 8 + 2, none⟩ = some (.int .i64 mo.m2) := fun w' h => by
  obtain ⟨b, off, hb, _, hcc⟩ := (eones w' h).cells (by omega);cases hb;have := hcc k hlx 2 _ rfl;rwa [xAG ones .zero k hlx, <- hmo] at this
 have o3 : ∀ w', Ex SG W w' -> w'.cell? ⟨b3, off3 + k * 8 + 3, none⟩ = some (.int .i64 mo.m3) := fun w' h => by
  obtain ⟨b, off, hb, _, hcc⟩ := (eones w' h).cells (by omega);cases hb;have := hcc k hlx 3 _ rfl;rwa [xAG ones .zero k hlx, <- hmo] at this
 have o4 : ∀ w', Ex SG W w' -> w'.cell? ⟨b3, off3 + k * 8 + 4, none⟩ = some (.int .i64 mo.m4) := fun w' h => by
  obtain ⟨b, off, hb, _, hcc⟩ := (eones w' h).cells (by omega);cases hb;have := hcc k hlx 4 _ rfl;rwa [xAG ones .zero k hlx, <- hmo] at this
 have o5 : ∀ w', Ex SG W w' -> w'.cell? ⟨b3, off3 + k * 8 + 5, none⟩ = some (.int .i64 mo.m5) := fun w' h => by
  obtain ⟨b, off, hb, _, hcc⟩ := (eones w' h).cells (by omega);cases hb;have := hcc k hlx 5 _ rfl;rwa [xAG ones .zero k hlx, <- hmo] at this
 have o6 : ∀ w', Ex SG W w' -> w'.cell? ⟨b3, off3 + k * 8 + 6, none⟩ = some (.int .i64 mo.m6) := fun w' h => by
  obtain ⟨b, off, hb, _, hcc⟩ := (eones w' h).cells (by omega);cases hb;have := hcc k hlx 6 _ rfl;rwa [xAG ones .zero k hlx, <- hmo] at this
 have o7 : ∀ w', Ex SG W w' -> w'.cell? ⟨b3, off3 + k * 8 + 7, none⟩ = some (.int .i64 mo.m7) := fun w' h => by
  obtain ⟨b, off, hb, _, hcc⟩ := (eones w' h).cells (by omega);cases hb;have := hcc k hlx 7 _ rfl;rwa [xAG ones .zero k hlx, <- hmo] at this
 rw [<- hmo] at hspec';have hmo' := Lib.hid hmo; clear hmo;clear elots eones;have hB0' := Lib.hid hB0; clear hB0;have hsW := hr0.size;have f0 := xAp (S := SG) hB0'.out (fun hm => absurd (hSw _ hm) (Nat.lt_irrefl _)) 0 rfl;have f1 := xAp (S := SG) hB0'.out (fun hm => absurd (hSw _ hm) (Nat.lt_irrefl _)) 1 rfl;have f2 := xAp (S := SG) hB0'.out (fun hm => absurd (hSw _ hm) (Nat.lt_irrefl _)) 2 rfl;have f3 := xAp (S := SG) hB0'.out (fun hm => absurd (hSw _ hm) (Nat.lt_irrefl _)) 3 rfl;have f4 := xAp (S := SG) hB0'.out (fun hm => absurd (hSw _ hm) (Nat.lt_irrefl _)) 4 rfl;have f5 := xAp (S := SG) hB0'.out (fun hm => absurd (hSw _ hm) (Nat.lt_irrefl _)) 5 rfl;have f6 := xAp (S := SG) hB0'.out (fun hm => absurd (hSw _ hm) (Nat.lt_irrefl _)) 6 rfl;have f7 := xAp (S := SG) hB0'.out (fun hm => absurd (hSw _ hm) (Nat.lt_irrefl _)) 7 rfl
 go_wp2_with fail
 go_loopg [30] (cn + 1) (fun g' i wr => ∃ (j : Nat), g' = cn + 1 - j /\ j <= cn + 1 /\ i = .int .i64 j /\ Ex SG W wr /\ J (pre ++ (List.range j).flatMap fun (j : Nat) => xA2 p ones r (c ++ [(j : Int)]) (xFb m mo j)) wr /\ Own 3 1 intCells base wr (.slice (some ⟨g, 0, none⟩) k p.lots.length) c)
 case atStart => exact ⟨0, rfl, by omega, rfl, Ex.refl _ _, by simpa using hJW, hOW⟩
 case round =>
  obtain ⟨j, rfl, hj, rfl, hER, hJR, hOR⟩ := hrel;by_cases hjl : j < cn + 1
  ·have hJR' := Lib.hid hJR; clear hJR;have hwr := hER.size
   go_upto_region 7 with fail
   replace e0 := fun w' (h : Ex SG wr w') => e0 w' (hER.trans h);replace e1 := fun w' (h : Ex SG wr w') => e1 w' (hER.trans h);replace e2 := fun w' (h : Ex SG wr w') => e2 w' (hER.trans h);replace e3 := fun w' (h : Ex SG wr w') => e3 w' (hER.trans h);replace e4 := fun w' (h : Ex SG wr w') => e4 w' (hER.trans h);replace e5 := fun w' (h : Ex SG wr w') => e5 w' (hER.trans h);replace e6 := fun w' (h : Ex SG wr w') => e6 w' (hER.trans h);replace e7 := fun w' (h : Ex SG wr w') => e7 w' (hER.trans h);replace e8 := fun w' (h : Ex SG wr w') => e8 w' (hER.trans h);replace e9 := fun w' (h : Ex SG wr w') => e9 w' (hER.trans h);replace ee := fun w' (h : Ex SG wr w') => ee w' (hER.trans h);replace o0 := fun w' (h : Ex SG wr w') => o0 w' (hER.trans h);replace o1 := fun w' (h : Ex SG wr w') => o1 w' (hER.trans h);replace o2 := fun w' (h : Ex SG wr w') => o2 w' (hER.trans h);replace o3 := fun w' (h : Ex SG wr w') => o3 w' (hER.trans h);replace o4 := fun w' (h : Ex SG wr w') => o4 w' (hER.trans h);replace o5 := fun w' (h : Ex SG wr w') => o5 w' (hER.trans h);replace o6 := fun w' (h : Ex SG wr w') => o6 w' (hER.trans h);replace o7 := fun w' (h : Ex SG wr w') => o7 w' (hER.trans h);replace f0 := fun w' (h : Ex SG wr w') => f0 w' (hER.trans h);replace f1 := fun w' (h : Ex SG wr w') => f1 w' (hER.trans h);replace f2 := fun w' (h : Ex SG wr w') => f2 w' (hER.trans h);replace f3 := fun w' (h : Ex SG wr w') => f3 w' (hER.trans h);replace f4 := fun w' (h : Ex SG wr w') => f4 w' (hER.trans h);replace f5 := fun w' (h : Ex SG wr w') => f5 w' (hER.trans h);replace f6 := fun w' (h : Ex SG wr w') => f6 w' (hER.trans h);replace f7 := fun w' (h : Ex SG wr w') => f7 w' (hER.trans h);have hrr : Ex SG wr wr := Ex.refl _ _;have hEr := hEnv _ _ hEW hER;have hgL : ∀ x ∈ [g], x ∈ SG := fun x hx => by simp only [List.mem_singleton] at hx; subst hx; exact hgS
   have hk3 : k + 1 <= p.lots.length := by omega
   have hkr2 : Hid (k + 1 + r = p.lots.length) := Lib.hid (by have := hkr.out; omega);have hck2 : Hid ((c ++ [(j : Int)]).length = k + 1) := Lib.hid (by have := hck.out; simp; omega)
   go_wp2_with fail
   refine xE9 (fun w' => Ex SG wr w') [.pu [1, 2, 6, 8, 11], .st [0, 5, 7], .pu [9], .st [10], .mv 3, .mv 4, .mv 12, .mv 13, .pu [14]] (by kernel_rfl) (by kernel_rfl) (Ex.drew exI) ?_;refine xGj (fun K hK => ?_);simp only [pick, List.drop_succ_cons, List.drop_zero, List.take_succ_cons, List.take_zero, List.cons_append, List.nil_append]
   iterate 5 (first | (refine xAP ?_ (by rfl) (fun w' hS' => ?_) ?_; rotate_left; ((try dsimp only at hS'); go_simp; try with_reducible rfl); simp only [Act.put, List.setIfInBounds_toArray, List.set_cons_zero, List.set_cons_succ]) | (refine xA4 (by rfl) ?_; simp only [Act.put, List.setIfInBounds_toArray, List.set_cons_zero, List.set_cons_succ]))
   refine xAW (hK _ ?_);clear hK K;refine xKJ (fun K hK => ?_);simp only [pick, List.drop_succ_cons, List.drop_zero, List.take_succ_cons, List.take_zero, List.cons_append, List.nil_append]
   iterate 3 (first | (refine xAP ?_ (by rfl) (fun w' hS' => ?_) ?_; rotate_left; ((try dsimp only at hS'); go_simp; try with_reducible rfl); simp only [Act.put, List.setIfInBounds_toArray, List.set_cons_zero, List.set_cons_succ]) | (refine xA4 (by rfl) ?_; simp only [Act.put, List.setIfInBounds_toArray, List.set_cons_zero, List.set_cons_succ]))
   refine xAW (hK _ ?_);clear hK K;refine xGj (fun K hK => ?_);simp only [pick, List.drop_succ_cons, List.drop_zero, List.take_succ_cons, List.take_zero, List.cons_append, List.nil_append]
   iterate 1 (first | (refine xAP ?_ (by rfl) (fun w' hS' => ?_) ?_; rotate_left; ((try dsimp only at hS'); go_simp; try with_reducible rfl); simp only [Act.put, List.setIfInBounds_toArray, List.set_cons_zero, List.set_cons_succ]) | (refine xA4 (by rfl) ?_; simp only [Act.put, List.setIfInBounds_toArray, List.set_cons_zero, List.set_cons_succ]))
   refine xAW (hK _ ?_);clear hK K;refine xKJ (fun K hK => ?_);simp only [pick, List.drop_succ_cons, List.drop_zero, List.take_succ_cons, List.take_zero, List.cons_append, List.nil_append]
   iterate 1 (first | (refine xAP ?_ (by rfl) (fun w' hS' => ?_) ?_; rotate_left; ((try dsimp only at hS'); go_simp; try with_reducible rfl); simp only [Act.put, List.setIfInBounds_toArray, List.set_cons_zero, List.set_cons_succ]) | (refine xA4 (by rfl) ?_; simp only [Act.put, List.setIfInBounds_toArray, List.set_cons_zero, List.set_cons_succ]))
   refine xAW (hK _ ?_);clear hK K;refine xEj (fun K hK => ?_);simp only [pick, List.drop_succ_cons, List.drop_zero, List.take_succ_cons, List.take_zero, List.cons_append, List.nil_append]
   go_wp2_with (first | (at_builtin; refine xBO (base := base) eiInt xBL xCn rfl _ _ rfl g k p.lots.length c hck.out (by rfl) (hOR.ext ((Ex.refl _ _).drew.alloc _)) _ (j : Int) (by rfl) (fun j1 u hu => xAb (xAq _ _) j1 (by simpa [intCells] using hu)) hk3 ?_; intro w4 hO4 hx4; have hg4 : Ex [g] wr w4 := ((Ex.refl _ _).drew.alloc _).trans hx4; have hJ4 := hJE _ _ _ hJR'.out hg4; have h4 := hg4.mono hgL) | (go_at_call 112; refine (xPL m mo j _).mono ?_; rintro e w5 ⟨rfl, h5⟩; have hJ5 := hJE _ _ _ hJ4 (h5.ex [g]); have hO5 := hO4.ext h5; replace h5 : Ex SG wr w5 := h4.trans (h5.ex SG)) | (go_at_call 111; refine (ih'.out (k + 1) (c ++ [(j : Int)]) (xFb m mo j) _ _ hkr2 hck2 hk3 (fun x hx => by have := hSw x hx; have := h5.size; omega) (hEnv _ _ hEr h5) hJ5 hO5).mono ?_; rintro e w6 ⟨rfl, hJ6, h6, hO6⟩; replace h6 : Ex SG wr w6 := h5.trans h6))
   first | refine hK _ _ exI ?_ | refine ⟨rfl, hK _ _ exI ?_⟩
   clear hK K;refine xEj (fun K hK => ?_);simp only [pick, List.drop_succ_cons, List.drop_zero, List.take_succ_cons, List.take_zero, List.cons_append, List.nil_append]
   go_wp2_with (first | (at_builtin; refine xBO (base := base) eiInt xBL xCn rfl _ _ rfl g k p.lots.length c hck.out (by rfl) (hOR.ext ((Ex.refl _ _).drew.alloc _)) _ (j : Int) (by rfl) (fun j1 u hu => xAb (xAq _ _) j1 (by simpa [intCells] using hu)) hk3 ?_; intro w4 hO4 hx4; have hg4 : Ex [g] wr w4 := ((Ex.refl _ _).drew.alloc _).trans hx4; have hJ4 := hJE _ _ _ hJR'.out hg4; have h4 := hg4.mono hgL) | (go_at_call 112; refine (xPL m mo j _).mono ?_; rintro e w5 ⟨rfl, h5⟩; have hJ5 := hJE _ _ _ hJ4 (h5.ex [g]); have hO5 := hO4.ext h5; replace h5 : Ex SG wr w5 := h4.trans (h5.ex SG)) | (go_at_call 111; refine (ih'.out (k + 1) (c ++ [(j : Int)]) (xFb m mo j) _ _ hkr2 hck2 hk3 (fun x hx => by have := hSw x hx; have := h5.size; omega) (hEnv _ _ hEr h5) hJ5 hO5).mono ?_; rintro e w6 ⟨rfl, hJ6, h6, hO6⟩; replace h6 : Ex SG wr w6 := h5.trans h6))
   first | refine hK _ _ exI ?_ | refine ⟨rfl, hK _ _ exI ?_⟩
   clear hK K;refine xEj (fun K hK => ?_);simp only [pick, List.drop_succ_cons, List.drop_zero, List.take_succ_cons, List.take_zero, List.cons_append, List.nil_append]
   go_wp2_with (first | (at_builtin; refine xBO (base := base) eiInt xBL xCn rfl _ _ rfl g k p.lots.length c hck.out (by rfl) (hOR.ext ((Ex.refl _ _).drew.alloc _)) _ (j : Int) (by rfl) (fun j1 u hu => xAb (xAq _ _) j1 (by simpa [intCells] using hu)) hk3 ?_; intro w4 hO4 hx4; have hg4 : Ex [g] wr w4 := ((Ex.refl _ _).drew.alloc _).trans hx4; have hJ4 := hJE _ _ _ hJR'.out hg4; have h4 := hg4.mono hgL) | (go_at_call 112; refine (xPL m mo j _).mono ?_; rintro e w5 ⟨rfl, h5⟩; have hJ5 := hJE _ _ _ hJ4 (h5.ex [g]); have hO5 := hO4.ext h5; replace h5 : Ex SG wr w5 := h4.trans (h5.ex SG)) | (go_at_call 111; refine (ih'.out (k + 1) (c ++ [(j : Int)]) (xFb m mo j) _ _ hkr2 hck2 hk3 (fun x hx => by have := hSw x hx; have := h5.size; omega) (hEnv _ _ hEr h5) hJ5 hO5).mono ?_; rintro e w6 ⟨rfl, hJ6, h6, hO6⟩; replace h6 : Ex SG wr w6 := h5.trans h6))
   first | refine hK _ _ exI ?_ | refine ⟨rfl, hK _ _ exI ?_⟩
   clear hK K;refine xEj (fun K hK => ?_);simp only [pick, List.drop_succ_cons, List.drop_zero, List.take_succ_cons, List.take_zero, List.cons_append, List.nil_append]
   go_wp2_with (first | (at_builtin; refine xBO (base := base) eiInt xBL xCn rfl _ _ rfl g k p.lots.length c hck.out (by rfl) (hOR.ext ((Ex.refl _ _).drew.alloc _)) _ (j : Int) (by rfl) (fun j1 u hu => xAb (xAq _ _) j1 (by simpa [intCells] using hu)) hk3 ?_; intro w4 hO4 hx4; have hg4 : Ex [g] wr w4 := ((Ex.refl _ _).drew.alloc _).trans hx4; have hJ4 := hJE _ _ _ hJR'.out hg4; have h4 := hg4.mono hgL) | (go_at_call 112; refine (xPL m mo j _).mono ?_; rintro e w5 ⟨rfl, h5⟩; have hJ5 := hJE _ _ _ hJ4 (h5.ex [g]); have hO5 := hO4.ext h5; replace h5 : Ex SG wr w5 := h4.trans (h5.ex SG)) | (go_at_call 111; refine (ih'.out (k + 1) (c ++ [(j : Int)]) (xFb m mo j) _ _ hkr2 hck2 hk3 (fun x hx => by have := hSw x hx; have := h5.size; omega) (hEnv _ _ hEr h5) hJ5 hO5).mono ?_; rintro e w6 ⟨rfl, hJ6, h6, hO6⟩; replace h6 : Ex SG wr w6 := h5.trans h6))
   first | refine hK _ _ exI ?_ | refine ⟨rfl, hK _ _ exI ?_⟩
   clear hK K;refine xGj (fun K hK => ?_);simp only [pick, List.drop_succ_cons, List.drop_zero, List.take_succ_cons, List.take_zero, List.cons_append, List.nil_append]
   iterate 1 (first | (refine xAP ?_ (by rfl) (fun w' hS' => ?_) ?_; rotate_left; ((try dsimp only at hS'); go_simp; try with_reducible rfl); simp only [Act.put, List.setIfInBounds_toArray, List.set_cons_zero, List.set_cons_succ]) | (refine xA4 (by rfl) ?_; simp only [Act.put, List.setIfInBounds_toArray, List.set_cons_zero, List.set_cons_succ]))
   refine xAW (hK _ ?_);clear hK K;refine xKK ?_
   go_wp2_with fail
   go_roundg (cn + 1 - (j + 1))
   case rel => exact ⟨j + 1, rfl, by omega, by go_num, hER.trans h6, by rw [List.range_succ, List.flatMap_append]; simpa [List.append_assoc] using hJ6, hO6.before hck.out⟩
   case measure => omega
  ·go_wp2_with fail
   go_returns
   exact ⟨rfl, by rw [hspec'.out, show cn + 1 = j by omega]; exact hJR, (hr0.ex SG).trans hER, hOR⟩
end
section
open Go.RowKit
attribute [local irreducible] xAO xBl
attribute [local go_sem] Oper.semAt_some
theorem xXy (p : Recipe) (a : Option Addr) (cap : Nat) (a2 : Option Addr) (cap2 : Nat) (ones : List Mar) (hcnt : ∀ k, k < p.lots.length -> 0 <= (nth p.lots .zero k).count /\ (nth p.lots .zero k).count <= 1000) (hlen : p.lots.length <= 1000) (hon : Hid (ones.length = p.lots.length)) (l g bt by_ be base : Nat) (SB SG : List Nat) (hgS : g ∈ SG) (hSB : ∀ x ∈ SB, x ∈ SG) (hgB : g ∉ SB) (hEnv : ∀ W W', Env p a cap a2 cap2 ones l bt by_ be W -> Ex SG W W' -> Env p a cap a2 cap2 ones l bt by_ be W') (J : List (List Int × Mar) -> World -> Prop) (hJE : ∀ pre W W', J pre W -> Ex [g] W W' -> J pre W') (hY : ∀ pre c m W, J pre W -> c.length = p.lots.length /\ g < W.heap.size -> SlI W (some ⟨g, 0, none⟩) p.lots.length c -> YieldAt Fence.wide 4 Tryz.prog l #[.slice (some ⟨g, 0, none⟩) p.lots.length p.lots.length, .agg #[.int .i64 m.m0, .int .i64 m.m1, .int .i64 m.m2, .int .i64 m.m3, .int .i64 m.m4, .int .i64 m.m5, .int .i64 m.m6, .int .i64 m.m7]] W (fun e W' => e = .returned (.bool true) /\ J (pre ++ [(c, m)]) W' /\ Ex SB W W')) : ∀ (r : Nat) (k : Nat) (c : List Int) (m : Mar) (pre : List (List Int × Mar)) (w : World), (Hid (k + r = p.lots.length)) -> (Hid (c.length = k)) -> (k <= p.lots.length) -> (∀ x ∈ SG, x < w.heap.size) -> (Env p a cap a2 cap2 ones l bt by_ be w) -> (J pre w) -> (Own 3 1 intCells base w (.slice (some ⟨g, 0, none⟩) k p.lots.length) c) -> Calls Tryz.prog 111 #[.slice (some ⟨g, 0, none⟩) k p.lots.length, .agg #[.int .i64 m.m0, .int .i64 m.m1, .int .i64 m.m2, .int .i64 m.m3, .int .i64 m.m4, .int .i64 m.m5, .int .i64 m.m6, .int .i64 m.m7], .pointer (some ⟨bt, 0, none⟩), .pointer (some ⟨by_, 0, none⟩), .pointer (some ⟨be, 0, none⟩)] w (fun e w' => e = .returned (.bool true) /\ J (pre ++ xA2 p ones r c m) w' /\ Ex SG w w' /\ Own 3 1 intCells base w' (.slice (some ⟨g, 0, none⟩) k p.lots.length) c) := by
 intro r
 induction r with
 | zero =>
  intro k c m pre w h1 h2 h3 h4 h5 h6 h7;exact xJi p a cap a2 cap2 ones hcnt hlen hon l g bt by_ be base SB SG hgS hSB hgB hEnv J hJE hY k c m pre w h1 h2 h3 h4 h5 h6 h7
 | succ r ih =>
  intro k c m pre w h1 h2 h3 h4 h5 h6 h7;exact xLq p a cap a2 cap2 ones hcnt hlen hon l g bt by_ be base SB SG hgS hSB hgB hEnv J hJE r ih k c m pre w h1 h2 h3 h4 h5 h6 h7
set_option maxRecDepth 100000 in
set_option maxHeartbeats 8000000 in
theorem xRP (p : Recipe) (a : Option Addr) (cap : Nat) (a2 : Option Addr) (cap2 : Nat) (ones : List Mar) (hcnt : ∀ k, k < p.lots.length -> 0 <= (nth p.lots .zero k).count /\ (nth p.lots .zero k).count <= 1000) (hlen : p.lots.length <= 1000) (hon : Hid (ones.length = p.lots.length)) (l bt : Nat) (SB : List Nat) (J : Nat -> List (List Int × Mar) -> World -> Prop) (w : World)
  (hT : w.heap[bt]? = some (.cells #[.slice a p.lots.length cap, .int .i64 p.mass.lo, .int .i64 p.mass.hi, .int .i64 p.target.a.lo, .int .i64 p.target.a.hi, .int .i64 p.target.b.lo, .int .i64 p.target.b.hi, .int .i64 p.target.c.lo, .int .i64 p.target.c.hi, .slice a2 ones.length cap2] 151 (0, 0))) (hTB : bt ∉ SB) (hSBw : ∀ x ∈ SB, x < w.heap.size) (hs : SlL w a cap p.lots) (hs2 : Sl 8 Mar.cells w a2 cap2 ones) (hla : 0 < p.lots.length -> ∀ b, a = some b -> b.block ∉ SB /\ b.block < w.heap.size) (hla2 : 0 < ones.length -> ∀ b, a2 = some b -> b.block ∉ SB /\ b.block < w.heap.size)
  (hJ0 : ∀ g W, w.heap.size <= g -> Ext w W -> J g [] W) (hJE : ∀ g pre W W', J g pre W -> Ex [g] W W' -> J g pre W') (hY : ∀ g, w.heap.size <= g -> ∀ pre c m W, J g pre W -> c.length = p.lots.length /\ g < W.heap.size -> SlI W (some ⟨g, 0, none⟩) p.lots.length c -> YieldAt Fence.wide 4 Tryz.prog l #[.slice (some ⟨g, 0, none⟩) p.lots.length p.lots.length, .agg #[.int .i64 m.m0, .int .i64 m.m1, .int .i64 m.m2, .int .i64 m.m3, .int .i64 m.m4, .int .i64 m.m5, .int .i64 m.m6, .int .i64 m.m7]] W (fun e W' => e = .returned (.bool true) /\ J g (pre ++ [(c, m)]) W' /\ Ex SB W W')) :
  Calls Tryz.prog 110 #[.func (.yield l) #[] #[], .pointer (some ⟨bt, 0, none⟩)] w (fun e w' => (∃ v, e = .returned v) /\ ∃ g, w.heap.size <= g /\ J g (xA2 p ones p.lots.length [] (xDh p)) w') := by
 have hbt := lt_of_block hT
 go_enter Tryz.func110, Tryz.ntmps110
 go_upto_region 3 with fail
 refine xF9 (fun W => Ext w W /\ w.heap.size + 2 = W.heap.size /\ W.heap[w.heap.size]? = some (.cells #[.func (.yield l) #[] #[]] 195 (0, 0)) /\ W.heap[w.heap.size + 1]? = some (.cells #[.func (.func 111) #[] #[.pointer (some ⟨bt, 0, none⟩), .pointer (some ⟨w.heap.size, 0, none⟩), .pointer (some ⟨w.heap.size + 1, 0, none⟩)]] 195 (0, 0))) ?_ (fun W hW => ?_)
 ·exact ⟨by (exact exI), by simp, xBB (xAq _ _), blk_at _ _ (by simp)⟩
 obtain ⟨hr0, hsz, hBy, hBe⟩ := hW;have hsz' := Nat.le_of_eq hsz.symm; have hsz'' := Nat.le_of_eq hsz; clear hsz;have hTW := hr0.heap (by simp) hT;have hsW := hs.ext hr0;have hs2W := hs2.ext hr0;have hx : ∀ g w5, Ex [] W w5 -> W.heap.size <= g -> Own 3 1 intCells 0 w5 (.slice (some ⟨g, 0, none⟩) 0 p.lots.length) ([] : List Int) -> Calls Tryz.prog 111 #[.slice (some ⟨g, 0, none⟩) 0 p.lots.length, .agg #[.int .i64 ((xDh p).m0), .int .i64 ((xDh p).m1), .int .i64 ((xDh p).m2), .int .i64 ((xDh p).m3), .int .i64 ((xDh p).m4), .int .i64 ((xDh p).m5), .int .i64 ((xDh p).m6), .int .i64 ((xDh p).m7)], .pointer (some ⟨bt, 0, none⟩), .pointer (some ⟨w.heap.size, 0, none⟩), .pointer (some ⟨w.heap.size + 1, 0, none⟩)] w5 (fun e w' => e = .returned (.bool true) /\ w.heap.size <= g /\ J g (xA2 p ones p.lots.length [] (xDh p)) w' /\ Ex SB W w') := by
  intro g w5 h5 hg hO5;have h5s := h5.size;have hEnv : ∀ W1 W2, Env p a cap a2 cap2 ones l bt w.heap.size (w.heap.size + 1) W1 -> Ex (g :: SB) W1 W2 -> Env p a cap a2 cap2 ones l bt w.heap.size (w.heap.size + 1) W2 := fun W1 W2 hE hx =>
   ⟨hx.heap (by simp only [List.mem_cons, not_or]; exact ⟨by omega, hTB⟩) hE.t,
    hx.heap (by simp only [List.mem_cons, not_or]; exact ⟨by omega, fun hm => absurd (hSBw _ hm) (by omega)⟩) hE.y,
    hx.heap (by simp only [List.mem_cons, not_or]; exact ⟨by omega, fun hm => absurd (hSBw _ hm) (by omega)⟩) hE.e,
    hE.lots.ex0 hx (fun h0 b hb => by have := hla h0 b hb; simp only [List.mem_cons, not_or]; exact ⟨by omega, this.1⟩),
    hE.ones_.ex0 hx (fun h0 b hb => by have := hla2 h0 b hb; simp only [List.mem_cons, not_or]; exact ⟨by omega, this.1⟩)⟩
  refine (xXy p a cap a2 cap2 ones hcnt hlen hon l g bt w.heap.size (w.heap.size + 1) 0 SB (g :: SB) (by simp) (fun x hx => by simp [hx]) (fun hm => absurd (hSBw _ hm) (by omega)) hEnv (J g) (fun pre W1 W2 => hJE g pre W1 W2) (fun pre c m W1 => hY g (by omega) pre c m W1) p.lots.length 0 [] (xDh p) [] w5 (Lib.hid (by omega)) (Lib.hid rfl) (by omega)
   (fun x hx => by
    have hg5 := hO5.lt rfl;simp only [List.mem_cons] at hx;rcases hx with rfl | hx
    ·exact hg5
    ·have := hSBw x hx; omega)
   ⟨h5.heap (by simp) hTW, h5.heap (by simp) hBy, h5.heap (by simp) hBe, hsW.ext h5, hs2W.ext h5⟩ (hJ0 g w5 (by omega) (hr0.trans h5)) hO5).mono ?_
  rintro e w' ⟨he, hj, h6, _⟩
  exact ⟨he, by omega, by simpa using hj, (h5.ex SB).trans_fresh h6 (fun x hx => by simp only [List.mem_cons] at hx; rcases hx with rfl | hx; exact .inr hg; exact .inl hx)⟩
 obtain ⟨mk, hmk⟩ := Classical.axiomOfChoice (fun w' : World => (by
  obtain ⟨i, z, hi, hz, hsz, hby, hzs⟩ := eiInt.ex;obtain ⟨w2, hr, ho1, hg⟩ := run_make_own (P := Tryz.prog) w' 0 45 3 i z 1 eiInt.ht hi hz hsz .i64 .i64 p.lots.length (by rw [hby]; omega) (by unfold maxLen; omega) (Nat.zero_le _);exact ⟨w2, hr, ho1, Ex.of_grown hg⟩ : ∃ w2, (Instr.makeSlice 45 (.int .i64 ((0 : Nat) : Int)) (.int .i64 (p.lots.length : Int))).run Tryz.prog w' = .ok (.slice (some ⟨w'.heap.size, 0, none⟩) 0 p.lots.length) w2 /\ Own 3 1 intCells 0 w2 (.slice (some ⟨w'.heap.size, 0, none⟩) 0 p.lots.length) ([] : List Int) /\ Ex [] w' w2))
 have hmr : ∀ w', (Instr.makeSlice 45 (.int .i64 0) (.int .i64 (p.lots.length : Int))).run Tryz.prog w' = .ok (.slice (some ⟨w'.heap.size, 0, none⟩) 0 p.lots.length) (mk w') := fun w' => (hmk w').1;have hmO := fun w' => (hmk w').2.1;have hmO2 : ∀ w' g, g = w'.heap.size -> Own 3 1 intCells 0 (mk w') (.slice (some ⟨g, 0, none⟩) 0 p.lots.length) ([] : List Int) := fun w' g e => e ▸ hmO w';have hmE : ∀ w', Ex [] W w' -> Ex [] W (mk w') := fun w' h => h.trans (hmk w').2.2;clear hmk;have t0 := xAp (S := SB) hTW hTB 0 rfl;have t1 := xAp (S := SB) hTW hTB 1 rfl;have t2 := xAp (S := SB) hTW hTB 2 rfl;have t3 := xAp (S := SB) hTW hTB 3 rfl;have t4 := xAp (S := SB) hTW hTB 4 rfl;have t5 := xAp (S := SB) hTW hTB 5 rfl;have t6 := xAp (S := SB) hTW hTB 6 rfl;have t7 := xAp (S := SB) hTW hTB 7 rfl;have t8 := xAp (S := SB) hTW hTB 8 rfl;have t9 := xAp (S := SB) hTW hTB 9 rfl;have ee := xAp (S := SB) hBe (fun hm => absurd (hSBw _ hm) (by omega)) 0 rfl;have hrW : Ex [] W W := Ex.refl _ _;have hrS : Ex SB W W := Ex.refl _ _;have hlb := hs.le; have hlb' := hs.big;clear hTW hsW hs2W hT hs hs2 hBy hJ0 hJE hY hla hla2 hBe
 go_region_held3 (fun w' => Ex SB W w') (first | exact Ex.drew (by with_reducible assumption) | (with_reducible assumption) | exact (hmE _ (by first | (with_reducible assumption) | exact Ex.drew (by with_reducible assumption))).ex SB) (first | (go_at_call 113; refine (base_c p a cap _).mono ?_; rintro e w1 ⟨rfl, h1⟩; have hW1 : Ex [] W w1 := Ex.trans (by first | (with_reducible assumption) | exact Ex.drew hrW | exact hmE _ (by first | (with_reducible assumption) | exact Ex.drew hrW)) (h1.ex _); have hS1 : Ex SB W w1 := hW1.ex SB) | (go_at_call 111; refine (hx _ _ (by first | (with_reducible assumption) | exact Ex.drew hrW | exact hmE _ (by first | (with_reducible assumption) | exact Ex.drew hrW)) (Ex.size (S := []) (by first | (with_reducible assumption) | exact hrW)) (by first | exact hmO _ | exact (hmO2 W.drew _ (by simp)).ext (by assumption))).mono ?_; rintro e w6 ⟨rfl, hg6, hJ6, hS6⟩))
 all_goals go_wp2
 all_goals go_end0
 all_goals exact ⟨⟨_, rfl⟩, _, hg6, hJ6⟩
end
open Go.RowKit
theorem Ex.putObj {S : List Nat} {a w : World} (h : Ex S a w) {l : Nat} (hl : l ∈ S) (o : Obj) : Ex S a (w.putObj l o) :=
 ⟨h.os, h.tape, h.output, by have := h.size; simpa [World.putObj] using this, fun k hk hs => by
  rw [World.putObj_heap_other (by intro e; subst e; exact hs hl)]; exact h.block k hk hs⟩
theorem xTf {P : Program} {α : Type} {gop : Operand} {ps : Array Tmp} {assign body : Code} {Q : Exit -> Act -> World -> Prop} {a : Act} {w : World} {gf : Nat} {lb : Array Value}
  (hg : a.eval gop = .func (.func gf) #[] lb) (eg : ∀ args w, (callFunc gf args).run P w = .ok (.enter gf args) w)
  (encs : Nat -> α -> Array Value) (hps : ∀ γ x, (encs γ x).size = ps.size) (xs : List α) (SB : List Nat) (hSB : ∀ x ∈ SB, x < w.heap.size)
  (I : Nat -> List α -> World -> Prop) (C : Nat -> α -> World -> Prop) (A : Nat -> α -> Act -> World -> Prop)
  (hI : ∀ γ pre W W', I γ pre W -> Ex [w.heap.size + 1] W W' -> I γ pre W') (hC : ∀ γ x W W', w.heap.size + 2 <= γ -> C γ x W -> Ex [w.heap.size + 1] W W' -> C γ x W') (hA : ∀ γ x b W W', A γ x b W -> Ex [w.heap.size + 1] W W' -> A γ x b W')
  (hI0 : ∀ γ W, w.heap.size + 2 <= γ -> Ext w W -> I γ [] W) (hIg : ∀ γ pre W W', w.heap.size + 2 <= γ -> I γ pre W -> Ex [γ] W W' -> I γ pre W')
  (hseq : ∀ (W1 : World) (J : Nat -> List α -> World -> Prop), Ext w W1 -> W1.heap.size = w.heap.size + 2 ->
   (∀ γ W, W1.heap.size <= γ -> Ext W1 W -> J γ [] W) -> (∀ γ pre W W', J γ pre W -> Ex [γ] W W' -> J γ pre W') ->
   (∀ γ, W1.heap.size <= γ -> ∀ pre x W, J γ pre W -> C γ x W -> YieldAt Fence.wide 4 P (w.heap.size + 1) (encs γ x) W (fun e W' => e = .returned (.bool true) /\ J γ (pre ++ [x]) W' /\ Ex ((w.heap.size + 1) :: SB) W W')) ->
   Calls P gf (#[.func (.yield (w.heap.size + 1)) #[] #[]] ++ lb) W1 (fun e w' => (∃ v, e = .returned v) /\ ∃ γ, W1.heap.size <= γ /\ J γ xs w'))
  (hassign : ∀ γ pre x W, w.heap.size + 2 <= γ -> w.heap.size + 1 < W.heap.size -> I γ pre W -> C γ x W -> assign.wpIn (Fence.wide.inRound (w.heap.size + 1)) 4 P (Exit.then (fun a₁ w₁ => Ext W w₁ /\ A γ x a₁ w₁) (fun _ _ _ => False)) { tmps := (ps.zip (encs γ x)).foldl (fun t (p, v) => t.setIfInBounds p v) a.tmps, defers := [] } W)
  (hbody : ∀ γ pre x a₁ W, w.heap.size + 2 <= γ -> I γ pre W -> C γ x W -> A γ x a₁ W -> body.wpIn (Fence.wide.inRound (w.heap.size + 1)) 4 P (fun e _ W' => e = .normal /\ I γ (pre ++ [x]) W' /\ Ex SB W W') a₁ W)
  (hdone : ∀ γ W, w.heap.size + 2 <= γ -> I γ xs W -> W.heap[w.heap.size]? = some (.deferred (some [])) -> Q .normal { a with defers := { target := .collected w.heap.size, args := #[] } :: a.defers } W) :
  (Code.rangeFunc gop ps assign body).wp P Q a w := by
 refine (wpIn_wide (n := 5)).1 ?_;refine wpIn_rangeFunc ?_;intro fn hfn;obtain ⟨rec, hrec⟩ : ∃ rec : LoopState -> Loop, rec = fun st => { state := st, pending := none, fn, tmps := a.tmps, params := ps, assign, body, defers := w.heap.size } := ⟨_, rfl⟩;obtain ⟨W1, hW1⟩ : ∃ W1, (w.alloc (.deferred (some []))).alloc (.loop (rec .ready)) = W1 := ⟨_, rfl⟩;have hE1 : Ext w W1 := by rw [<- hW1]; exact ((Ex.refl _ _).alloc _).alloc _
 have hs1 : W1.heap.size = w.heap.size + 2 := by rw [<- hW1]; simp
 have hL1 : W1.heap[w.heap.size + 1]? = some (.loop (rec .ready)) := by
  rw [<- hW1]; have := World.alloc_heap_new (w.alloc (.deferred (some []))) (.loop (rec .ready)); rwa [World.size_alloc] at this
 have hK1 : W1.heap[w.heap.size]? = some (.deferred (some [])) := by
  rw [<- hW1]; exact xBB (xAq _ _)
 refine ⟨w.heap.size + 1, [{ target := .collected w.heap.size, args := #[] }], W1, { target := .fn (.func gf) lb, args := #[.func (.yield (w.heap.size + 1)) #[] #[]] }, W1, gf,
  #[.func (.yield (w.heap.size + 1)) #[] #[]] ++ lb, W1, ?_, ?_, ?_, ?_, fun h => (by cases h), ?_⟩
 ·rw [<- hW1, hrec]; exact run_enterLoop_outer _ _ _ _ _
 ·simp only [resolve, hg];simp [go_sem]
 ·intro f' hf'; trivial
 ·simp [invoke, go_sem, eg]
 ·refine callsIn_wide.2 ((hseq W1 (fun γ pre W => (w.heap.size + 2 <= γ -> I γ pre W) /\ (w.heap.size + 2 <= γ -> W.heap[w.heap.size + 1]? = some (.loop (rec .ready))) /\ (w.heap.size + 2 <= γ -> W.heap[w.heap.size]? = some (.deferred (some [])))) hE1 hs1 ?_ ?_ ?_).mono ?_)
  ·intro γ W hγ hW;exact ⟨fun h => hI0 γ W h (hE1.trans hW), fun _ => hW.heap (by simp) hL1, fun _ => hW.heap (by simp) hK1⟩
  ·intro γ pre W W' ⟨h1, h2, h3⟩ hx;exact ⟨fun h => hIg γ pre W W' h (h1 h) hx, fun h => hx.heap (by simp; omega) (h2 h), fun h => hx.heap (by simp; omega) (h3 h)⟩
  ·intro γ hγ pre x W ⟨h1, h2, h3⟩ hc;have hγ' : w.heap.size + 2 <= γ := by omega
   have hi := h1 hγ'; have hl := h2 hγ'; have hk := h3 hγ';have hy := run_yield (P := P) (args := encs γ x) hl (by rw [hrec]; exact hps γ x);rw [hrec] at hy;refine ⟨fn, _, assign, body, hy, roundIn_of_wpIn hfn (wpIn_mono (hassign γ pre x W hγ' (lt_of_block hl) hi hc) ?_)⟩
   rintro e a1 w1 hp
   cases e with
   | normal =>
    obtain ⟨hx1, hA1⟩ := hp;have hl1 := hx1.heap (by simp) hl;have hlt := lt_of_block hl1;refine ⟨_, run_beginRound hl1 (by rw [hrec]), ?_⟩;have hx2 : Ex [w.heap.size + 1] w1 (w1.putObj (w.heap.size + 1) (.loop { rec .ready with state := .busy })) := (Ex.refl _ _).putObj (by simp) _;have hl2 : (w1.putObj (w.heap.size + 1) (.loop { rec .ready with state := .busy })).heap[w.heap.size + 1]? = some (.loop { rec .ready with state := .busy }) := World.putObj_heap_same hlt;have hx1' : Ex [w.heap.size + 1] W w1 := hx1.ex _;have hx12 := hx1'.trans hx2;refine wpIn_mono (hbody γ pre x a1 _ hγ' (hI _ _ _ _ hi hx12) (hC _ _ _ _ hγ' hc hx12) (hA _ _ _ _ _ hA1 hx2)) ?_
    rintro e a3 W3 ⟨rfl, hi3, hx3⟩
    have hl3 := hx3.heap (fun hm => absurd (hSB _ hm) (by omega)) hl2;have hk3 := hx3.heap (fun hm => absurd (hSB _ hm) (by omega)) (hx12.heap (by simp) hk);have hlt3 := lt_of_block hl3;have hr := run_endRound (P := P) none hl3;have hx4 : Ex [w.heap.size + 1] W3 (W3.putObj (w.heap.size + 1) (.loop { rec .ready with state := .ready, pending := none })) := (Ex.refl _ _).putObj (by simp) _;refine ⟨_, _, hr, rfl, ⟨fun _ => hI _ _ _ _ hi3 hx4, fun _ => ?_, fun _ => hx4.heap (by simp) hk3⟩, ?_⟩
    ·have h9 := World.putObj_heap_same (o := .loop { rec .ready with state := .ready, pending := none }) hlt3;rw [hrec] at h9 ⊢;exact h9
    ·refine Ex.trans (hx12.mono (by simp)) (Ex.trans (hx3.mono (fun x hx => by simp [hx])) ?_);exact hx4.mono (by simp)
   | ret => exact hp.elim
   | exit id => exact hp.elim
   | goto t => exact hp.elim
   | panic ch => exact hp.elim
   | outgrown => exact hp.elim
  ·rintro e W2 ⟨⟨v, rfl⟩, γ, hγ, h1, h2, h3⟩
   have hγ' : w.heap.size + 2 <= γ := by omega
   have hl := h2 hγ';have hx4 : ∀ o, Ex [w.heap.size + 1] W2 (W2.putObj (w.heap.size + 1) o) := fun o => (Ex.refl _ _).putObj (by simp) _;have hend := run_endLoop (P := P) hl (by rw [hrec]; simp);have hp : (rec .ready).pending = none := by rw [hrec]
   rw [hp] at hend;exact ⟨none, _, hend, hdone γ _ hγ' (hI _ _ _ _ (h1 hγ') (hx4 _)) ((hx4 _).heap (by simp) (h3 hγ'))⟩
theorem xMB {F : Fence} {n : Nat} {P : Program} {fn : Func} {R : Ending -> World -> Prop} {a : Act} {w : World} {v : Value}
  (hr : (results fn a.tmps).run P w = .ok v w) (hd : a.defers = []) (hR : R (.returned v) w) : bodyPostM F n P fn R .ret a w := by
 change LeavesInM F n P fn a.tmps R a.defers .returning w;rw [hd];exact ⟨v, hr, hR⟩
theorem xJG {F : Fence} {n : Nat} {P : Program} {fn : Func} {R : Ending -> World -> Prop} {a : Act} {w : World} {v : Value} {D : Nat}
  (hd : a.defers = [{ target := .collected D, args := #[] }]) (hk : w.heap[D]? = some (.deferred (some [])))
  (hr : ∀ w', Ex [D] w w' -> (results fn a.tmps).run P w' = .ok v w') (hR : ∀ w', Ex [D] w w' -> R (.returned v) w') : bodyPostM F n P fn R .ret a w := by
 change LeavesInM F n P fn a.tmps R a.defers .returning w;rw [hd];have hx : Ex [D] w (w.putObj D (.deferred none)) := (Ex.refl _ _).putObj (by simp) _;exact ⟨by simp, .inl ⟨D, _, rfl, run_takeDeferred hk, v, hr _ hx, hR _ hx⟩⟩
theorem xN9 {Fe : Fence} {n : Nat} {P : Program} {fn : Func} {R : Ending -> World -> Prop} {a : Act} {X : World} (F : World -> Prop) (h : F X) (k : ∀ W, F W -> bodyPostM Fe n P fn R .ret a W) : bodyPostM Fe n P fn R .ret a X := k X h
theorem xNA {P : Program} {f : FuncId} {fn : Func} {c : Code} {args : Array Value} {w : World} {R : Ending -> World -> Prop}
  (hf : P.funcs[f]? = some fn) (hb : fn.body = some c) (h : c.wp P (bodyPostM Fence.wide 5 P fn R) { tmps := args ++ Array.replicate (fn.ntmps - args.size) undef, defers := [] } w) : Calls P f args w R :=
 callsIn_wide.1 (callsIn_of_wp_marks (n := 5) hf hb trivial (wpIn_wide.2 h))
end Go.Proofs.YtnomnijhlbalaaaGreatDoor
