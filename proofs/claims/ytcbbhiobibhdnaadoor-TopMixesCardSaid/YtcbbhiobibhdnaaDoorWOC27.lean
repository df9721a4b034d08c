/- All charges, one after another: the inner function. No condition. -/
import Derived.Test.YtcbbhiobibhdnaaDoorWORG
import Derived.Test.YtcbbhiobibhdnaaDoorWOC9
import Derived.RangeFuncNested
import Derived.RangeFuncBound
import Derived.RangeFuncCalls
import Derived.RangeFuncLeaves
import Derived.Shelf.Abstract
import Derived.Shelf.RegionOpen
import Derived.OwnWalkIn
import Derived.TacticsInMore
import Derived.LoopNIn
import Derived.LoopIn
import Derived.Laws.EntriesVeiled

namespace Go.Proofs.YtcbbhiobibhdnaaDoor
open Go.RowKit
attribute [local irreducible] xAQ xBs
attribute [local go_sem] Oper.semAt_some
/-- All charges from a beginning on, with their margins. -/
def xBa (p : Recipe) (ones : List Mar) : Nat → List Int → Mar → List (List Int × Mar)
 | 0, c, m => [(c, m)]
 | r + 1, c, m => (List.range ((nth p.lots .zero c.length).count + 1).toNat).flatMap fun (j : Nat) => xBa p ones r (c ++ [(j : Int)]) (xDM m (nth ones .zero c.length) j)
theorem xDn (c : List Int) : (c.flatMap intCells).length = c.length := by
 induction c with
 | nil => rfl
 | cons x c ih => simp only [List.flatMap_cons, List.length_append, ih, List.length_cons, xBU]; omega
theorem Own.toSl {α : Type} {T k : Nat} {f : α → List Value} {base : Nat} {w : World} {a : Option Addr} {n cap : Nat} {xs : List α} (h : Own T k f base w (.slice a n cap) xs) (hf : ∀ x : α, (f x).length = k) : Sl k f w a cap xs := by
 obtain ⟨a', c', e, h2, _⟩ := h.sl hf
 simp only [Value.slice.injEq] at e
 obtain ⟨rfl, _, rfl⟩ := e
 exact h2
theorem Sl.ex0 {α : Type} {k : Nat} {f : α → List Value} {S : List Nat} {w w' : World} {a : Option Addr} {cap : Nat} {xs : List α} (h : Sl k f w a cap xs) (hE : Ex S w w') (hs : 0 < xs.length → ∀ b, a = some b → b.block ∉ S) : Sl k f w' a cap xs :=
 ⟨h.le, h.big, fun h0 => by
  obtain ⟨b, off, ha, hb, hc⟩ := h.cells h0
  exact ⟨b, off, ha, Nat.lt_of_lt_of_le hb hE.size, fun i hi j v hv => hE.cell (hs h0 _ ha) (hc i hi j v hv)⟩⟩
theorem Own.before {base g k cap : Nat} {w : World} {c : List Int} {x : Int} (h : Own 3 1 intCells base w (.slice (some ⟨g, 0, none⟩) (k + 1) cap) (c ++ [x])) (hk : c.length = k) : Own 3 1 intCells base w (.slice (some ⟨g, 0, none⟩) k cap) c := by
 obtain ⟨h1, h2⟩ := h
 rcases h2 with ⟨h2, _⟩ | ⟨g', cap', cur, e, hb, hg, hn, hc, hs, ht⟩
 ·cases h2
 ·simp only [Value.slice.injEq, Option.some.injEq, Addr.mk.injEq] at e
  obtain ⟨⟨rfl, _⟩, _, rfl⟩ := e
  refine ⟨by rw [xDn]; omega, .inr ⟨g, cap, cur, by rw [hk], hb, hg, by simp at hn; omega, hc, hs, ?_⟩⟩
  have h3 : (cur.toList.take ((c ++ [x]).length * 1)).take (c.length * 1) = ((c ++ [x]).flatMap intCells).take (c.length * 1) := by rw [ht]
  rw [List.take_take, show min (c.length * 1) ((c ++ [x]).length * 1) = c.length * 1 by simp] at h3
  rw [h3, List.flatMap_append, List.take_append_of_le_length (by rw [xDn]; omega)]
  exact List.take_of_length_le (by rw [xDn]; omega)
/-- What the inner function finds in memory. -/
structure Env (p : Recipe) (a : Option Addr) (cap : Nat) (a2 : Option Addr) (cap2 : Nat) (ones : List Mar) (l bt by_ be : Nat) (w : World) : Prop where
 t : w.heap[bt]? = some (.cells #[.slice a p.lots.length cap, .int .i64 p.mass.lo, .int .i64 p.mass.hi, .int .i64 p.target.a.lo, .int .i64 p.target.a.hi, .int .i64 p.target.b.lo, .int .i64 p.target.b.hi, .int .i64 p.target.c.lo, .int .i64 p.target.c.hi, .slice a2 ones.length cap2] 119 (0, 0))
 y : w.heap[by_]? = some (.cells #[.func (.yield l) #[] #[]] 165 (0, 0))
 e : w.heap[be]? = some (.cells #[.func (.func 78) #[] #[.pointer (some ⟨bt, 0, none⟩), .pointer (some ⟨by_, 0, none⟩), .pointer (some ⟨be, 0, none⟩)]] 165 (0, 0))
 lots : SlL w a cap p.lots
 ones_ : Sl 8 Mar.cells w a2 cap2 ones
end Go.Proofs.YtcbbhiobibhdnaaDoor


namespace Go.Proofs.YtcbbhiobibhdnaaDoor
open Go.RowKit
attribute [local irreducible] xAQ xBs
attribute [local go_sem] Oper.semAt_some
set_option maxRecDepth 100000 in
set_option maxHeartbeats 8000000 in
theorem xIs (p : Recipe) (a : Option Addr) (cap : Nat) (a2 : Option Addr) (cap2 : Nat) (ones : List Mar) (hcnt : ∀ k, k < p.lots.length → 0 ≤ (nth p.lots .zero k).count ∧ (nth p.lots .zero k).count ≤ 1000) (hlen : p.lots.length ≤ 1000) (hon : Hid (ones.length = p.lots.length)) (l g bt by_ be base : Nat) (SB SG : List Nat) (hgS : g ∈ SG) (hSB : ∀ x ∈ SB, x ∈ SG) (hgB : g ∉ SB) (hEnv : ∀ W W', Env p a cap a2 cap2 ones l bt by_ be W → Ex SG W W' → Env p a cap a2 cap2 ones l bt by_ be W') (J : List (List Int × Mar) → World → Prop) (hJE : ∀ pre W W', J pre W → Ex [g] W W' → J pre W') (hY : ∀ pre c m W, J pre W → c.length = p.lots.length ∧ g < W.heap.size → SlI W (some ⟨g, 0, none⟩) p.lots.length c → YieldAt Fence.wide 4 Tryd.prog l #[.slice (some ⟨g, 0, none⟩) p.lots.length p.lots.length, .agg #[.int .i64 m.m0, .int .i64 m.m1, .int .i64 m.m2, .int .i64 m.m3, .int .i64 m.m4, .int .i64 m.m5, .int .i64 m.m6, .int .i64 m.m7]] W (fun e W' => e = .returned (.bool true) ∧ J (pre ++ [(c, m)]) W' ∧ Ex SB W W')) (k : Nat) (c : List Int) (m : Mar) (pre : List (List Int × Mar)) (w : World) (hkr : Hid (k + 0 = p.lots.length)) (hck : Hid (c.length = k)) (hk : k ≤ p.lots.length) (hSw : ∀ x ∈ SG, x < w.heap.size) (hE : Env p a cap a2 cap2 ones l bt by_ be w) (hJ : J pre w) (hO : Own 3 1 intCells base w (.slice (some ⟨g, 0, none⟩) k p.lots.length) c) :
  Calls Tryd.prog 78 #[.slice (some ⟨g, 0, none⟩) k p.lots.length, .agg #[.int .i64 m.m0, .int .i64 m.m1, .int .i64 m.m2, .int .i64 m.m3, .int .i64 m.m4, .int .i64 m.m5, .int .i64 m.m6, .int .i64 m.m7], .pointer (some ⟨bt, 0, none⟩), .pointer (some ⟨by_, 0, none⟩), .pointer (some ⟨be, 0, none⟩)] w (fun e w' => e = .returned (.bool true) ∧ J (pre ++ xBa p ones 0 c m) w' ∧ Ex SG w w' ∧ Own 3 1 intCells base w' (.slice (some ⟨g, 0, none⟩) k p.lots.length) c) := by
 obtain rfl : k = p.lots.length := by have := hkr.out; omega
 have hg := hO.lt rfl
 have hgb : base ≤ g := hO.base_le rfl
 go_enter Tryd.func78, Tryd.ntmps78
 go_upto_region 1 with (fail)
 refine xFC (fun W => Ext w W ∧ w.heap.size + 1 = W.heap.size ∧ W.heap[w.heap.size]? = some (.cells #[.int .i64 m.m0, .int .i64 m.m1, .int .i64 m.m2, .int .i64 m.m3, .int .i64 m.m4, .int .i64 m.m5, .int .i64 m.m6, .int .i64 m.m7] 124 (0, 0))) ⟨by (repeat (with_reducible first | exact Ex.refl _ _ | assumption | exact Ex.mono (by assumption) (by simp; done) | refine Ex.alloc ?_ _ | refine Ex.drew ?_ | refine Ex.drewN ?_ _ | refine Ex.setCell ?_ (by first | (left; simp; done) | (right; simp; done) | (right; simp; omega)) _ | refine Ex.trans ?_ (by assumption))), by simp, xAB _ _⟩ (fun W hW => ?_)
 obtain ⟨hr0, hsz, hB0⟩ := hW
 have hr : Ex [] W W := Ex.refl _ _
 have f0_0 := xAh (S := []) hB0 (by first | (simp; done) | (simp; omega)) 0 rfl
 have f0_1 := xAh (S := []) hB0 (by first | (simp; done) | (simp; omega)) 1 rfl
 have f0_2 := xAh (S := []) hB0 (by first | (simp; done) | (simp; omega)) 2 rfl
 have f0_3 := xAh (S := []) hB0 (by first | (simp; done) | (simp; omega)) 3 rfl
 have f0_4 := xAh (S := []) hB0 (by first | (simp; done) | (simp; omega)) 4 rfl
 have f0_5 := xAh (S := []) hB0 (by first | (simp; done) | (simp; omega)) 5 rfl
 have f0_6 := xAh (S := []) hB0 (by first | (simp; done) | (simp; omega)) 6 rfl
 have f0_7 := xAh (S := []) hB0 (by first | (simp; done) | (simp; omega)) 7 rfl
 clear hB0
 have hsz' := Nat.le_of_eq hsz.symm; have hsz'' := Nat.le_of_eq hsz; clear hsz
 have hEW := hEnv _ _ hE (hr0.ex SG)
 have e0 := xAh (S := []) hEW.t (by simp) 0 rfl
 have e1 := xAh (S := []) hEW.y (by simp) 0 rfl
 have hJW := hJE _ _ _ hJ (hr0.ex [g])
 have hOW := hO.ext hr0
 go_upto_region 3 with fail
 obtain ⟨fn, tm, assign, body, hy, hR⟩ := hY pre c m W hJW ⟨hck.out, hOW.lt rfl⟩ (hck.out ▸ (hOW.cong rfl).toSl (fun _ => rfl))
 have hR' := Lib.hid hR; clear hR
 refine (wpIn_wide (n := 5)).1 ?_
 gi_wp2
 refine hR'.out.mono ?_
 rintro e w1 ⟨rfl, hJ1, h1⟩
 gi_wp2
 go_wp2
 go_returns
 exact ⟨rfl, hJ1, (hr0.ex SG).trans (h1.mono hSB), hOW.ex h1 (fun g' hg' => by simp only [Value.ownBlock, Option.some.injEq] at hg'; subst hg'; exact hgB)⟩
end Go.Proofs.YtcbbhiobibhdnaaDoor


namespace Go.Proofs.YtcbbhiobibhdnaaDoor
open Go.RowKit
attribute [local irreducible] xAQ xBs
attribute [local go_sem] Oper.semAt_some
set_option maxRecDepth 100000 in
set_option maxHeartbeats 8000000 in
theorem xKd (p : Recipe) (a : Option Addr) (cap : Nat) (a2 : Option Addr) (cap2 : Nat) (ones : List Mar) (hcnt : ∀ k, k < p.lots.length → 0 ≤ (nth p.lots .zero k).count ∧ (nth p.lots .zero k).count ≤ 1000) (hlen : p.lots.length ≤ 1000) (hon : Hid (ones.length = p.lots.length)) (l g bt by_ be base : Nat) (SB SG : List Nat) (hgS : g ∈ SG) (hSB : ∀ x ∈ SB, x ∈ SG) (hgB : g ∉ SB) (hEnv : ∀ W W', Env p a cap a2 cap2 ones l bt by_ be W → Ex SG W W' → Env p a cap a2 cap2 ones l bt by_ be W') (J : List (List Int × Mar) → World → Prop) (hJE : ∀ pre W W', J pre W → Ex [g] W W' → J pre W')  (r : Nat) (ih : ∀ (k : Nat) (c : List Int) (m : Mar) (pre : List (List Int × Mar)) (w : World), (Hid (k + r = p.lots.length)) → (Hid (c.length = k)) → (k ≤ p.lots.length) → (∀ x ∈ SG, x < w.heap.size) → (Env p a cap a2 cap2 ones l bt by_ be w) → (J pre w) → (Own 3 1 intCells base w (.slice (some ⟨g, 0, none⟩) k p.lots.length) c) → Calls Tryd.prog 78 #[.slice (some ⟨g, 0, none⟩) k p.lots.length, .agg #[.int .i64 m.m0, .int .i64 m.m1, .int .i64 m.m2, .int .i64 m.m3, .int .i64 m.m4, .int .i64 m.m5, .int .i64 m.m6, .int .i64 m.m7], .pointer (some ⟨bt, 0, none⟩), .pointer (some ⟨by_, 0, none⟩), .pointer (some ⟨be, 0, none⟩)] w (fun e w' => e = .returned (.bool true) ∧ J (pre ++ xBa p ones r c m) w' ∧ Ex SG w w' ∧ Own 3 1 intCells base w' (.slice (some ⟨g, 0, none⟩) k p.lots.length) c)) (k : Nat) (c : List Int) (m : Mar) (pre : List (List Int × Mar)) (w : World) (hkr : Hid (k + (r + 1) = p.lots.length)) (hck : Hid (c.length = k)) (hk : k ≤ p.lots.length) (hSw : ∀ x ∈ SG, x < w.heap.size) (hE : Env p a cap a2 cap2 ones l bt by_ be w) (hJ : J pre w) (hO : Own 3 1 intCells base w (.slice (some ⟨g, 0, none⟩) k p.lots.length) c) :
  Calls Tryd.prog 78 #[.slice (some ⟨g, 0, none⟩) k p.lots.length, .agg #[.int .i64 m.m0, .int .i64 m.m1, .int .i64 m.m2, .int .i64 m.m3, .int .i64 m.m4, .int .i64 m.m5, .int .i64 m.m6, .int .i64 m.m7], .pointer (some ⟨bt, 0, none⟩), .pointer (some ⟨by_, 0, none⟩), .pointer (some ⟨be, 0, none⟩)] w (fun e w' => e = .returned (.bool true) ∧ J (pre ++ xBa p ones (r + 1) c m) w' ∧ Ex SG w w' ∧ Own 3 1 intCells base w' (.slice (some ⟨g, 0, none⟩) k p.lots.length) c) := by
 have hlt : k < p.lots.length := by have := hkr.out; omega
 have hne : ((k : Int) == (p.lots.length : Int)) = false := by simp; omega
 have hcn := hcnt k hlt
 obtain ⟨cn, hcn'⟩ : ∃ cn : Nat, (nth p.lots .zero k).count = (cn : Int) := ⟨(nth p.lots .zero k).count.toNat, by omega⟩
 have hcm : cn ≤ 1000 := by omega
 have hspec : xBa p ones (r + 1) c m = (List.range (cn + 1)).flatMap fun (j : Nat) => xBa p ones r (c ++ [(j : Int)]) (xDM m (nth ones .zero k) j) := by
  rw [xBa, hck.out, hcn']; congr 1
 have hspec' := Lib.hid hspec; clear hspec
 have hg := hO.lt rfl
 have hgb : base ≤ g := hO.base_le rfl
 have ih' := Lib.hid ih; clear ih
 go_enter Tryd.func78, Tryd.ntmps78
 go_upto_region 1 with (fail)
 refine xFC (fun W => Ext w W ∧ w.heap.size + 1 = W.heap.size ∧ W.heap[w.heap.size]? = some (.cells #[.int .i64 m.m0, .int .i64 m.m1, .int .i64 m.m2, .int .i64 m.m3, .int .i64 m.m4, .int .i64 m.m5, .int .i64 m.m6, .int .i64 m.m7] 124 (0, 0))) ⟨by (repeat (with_reducible first | exact Ex.refl _ _ | assumption | exact Ex.mono (by assumption) (by simp; done) | refine Ex.alloc ?_ _ | refine Ex.drew ?_ | refine Ex.drewN ?_ _ | refine Ex.setCell ?_ (by first | (left; simp; done) | (right; simp; done) | (right; simp; omega)) _ | refine Ex.trans ?_ (by assumption))), by simp, xAB _ _⟩ (fun W hW => ?_)
 obtain ⟨hr0, hsz, hB0⟩ := hW
 have hr : Ex [] W W := Ex.refl _ _
 have hsz' := Nat.le_of_eq hsz.symm; have hsz'' := Nat.le_of_eq hsz; clear hsz
 have hEW := hEnv _ _ hE (hr0.ex SG)
 have hJW := hJE _ _ _ hJ (hr0.ex [g])
 have hOW := hO.ext hr0
 have hlx : k < ones.length := by have := hon.out; omega
 have hk0 : (0 : Int) ≤ (k : Int) := by omega
 have hk1 : (k : Int) < (p.lots.length : Int) := by omega
 have hk2 : (k : Int) < (ones.length : Int) := by omega
 have hwg : w.heap.size ≠ g := fun e => by have := hSw g hgS; omega
 have hrS : Ex SG W W := Ex.refl _ _
 have e0 := fun w' (h : Ex SG W w') => xAf (hEnv W w' hEW h).t 0 rfl
 have e1 := fun w' (h : Ex SG W w') => xAf (hEnv W w' hEW h).t 1 rfl
 have e2 := fun w' (h : Ex SG W w') => xAf (hEnv W w' hEW h).t 2 rfl
 have e3 := fun w' (h : Ex SG W w') => xAf (hEnv W w' hEW h).t 3 rfl
 have e4 := fun w' (h : Ex SG W w') => xAf (hEnv W w' hEW h).t 4 rfl
 have e5 := fun w' (h : Ex SG W w') => xAf (hEnv W w' hEW h).t 5 rfl
 have e6 := fun w' (h : Ex SG W w') => xAf (hEnv W w' hEW h).t 6 rfl
 have e7 := fun w' (h : Ex SG W w') => xAf (hEnv W w' hEW h).t 7 rfl
 have e8 := fun w' (h : Ex SG W w') => xAf (hEnv W w' hEW h).t 8 rfl
 have e9 := fun w' (h : Ex SG W w') => xAf (hEnv W w' hEW h).t 9 rfl
 have ee := fun w' (h : Ex SG W w') => xAf (hEnv W w' hEW h).e 0 rfl
 have elots := fun w' (h : Ex SG W w') => (hEnv W w' hEW h).lots
 have eones := fun w' (h : Ex SG W w') => (hEnv W w' hEW h).ones_
 have hlb := hEW.lots.le; have hlb' := hEW.lots.big
 obtain ⟨b2, off2, rfl, hbw2, _⟩ := hEW.lots.cells (by omega)
 have l0 : ∀ w', Ex SG W w' → w'.cell? ⟨b2, off2 + k * 9, none⟩ = some (.int .i64 cn) := fun w' h => by
  obtain ⟨b, off, hb, _, hcc⟩ := (elots w' h).cells (by omega)
  cases hb
  have := hcc k hlt 0 _ rfl
  rwa [Nat.add_zero, xAG p.lots .zero k hlt, hcn'] at this
 have hob := hEW.ones_.le; have hob' := hEW.ones_.big
 obtain ⟨b3, off3, rfl, hbw3, _⟩ := hEW.ones_.cells (by omega)
 obtain ⟨mo, hmo⟩ : ∃ mo, mo = nth ones Mar.zero k := ⟨_, rfl⟩
 have o0 : ∀ w', Ex SG W w' → w'.cell? ⟨b3, off3 + k * 8, none⟩ = some (.int .i64 mo.m0) := fun w' h => by
  obtain ⟨b, off, hb, _, hcc⟩ := (eones w' h).cells (by omega)
  cases hb
  have := hcc k hlx 0 _ rfl
  rwa [Nat.add_zero, xAG ones .zero k hlx, ← hmo] at this
 have o1 : ∀ w', Ex SG W w' → w'.cell? ⟨b3, off3 + k * 8 + 1, none⟩ = some (.int .i64 mo.m1) := fun w' h => by
  obtain ⟨b, off, hb, _, hcc⟩ := (eones w' h).cells (by omega)
  cases hb
  have := hcc k hlx 1 _ rfl
  rwa [xAG ones .zero k hlx, ← hmo] at this
 have o2 : ∀ w', Ex SG W w' → w'.cell? ⟨b3, off3 + k * 8 + 2, none⟩ = some (.int .i64 mo.m2) := fun w' h => by
  obtain ⟨b, off, hb, _, hcc⟩ := (eones w' h).cells (by omega)
  cases hb
  have := hcc k hlx 2 _ rfl
  rwa [xAG ones .zero k hlx, ← hmo] at this
 have o3 : ∀ w', Ex SG W w' → w'.cell? ⟨b3, off3 + k * 8 + 3, none⟩ = some (.int .i64 mo.m3) := fun w' h => by
  obtain ⟨b, off, hb, _, hcc⟩ := (eones w' h).cells (by omega)
  cases hb
  have := hcc k hlx 3 _ rfl
  rwa [xAG ones .zero k hlx, ← hmo] at this
 have o4 : ∀ w', Ex SG W w' → w'.cell? ⟨b3, off3 + k * 8 + 4, none⟩ = some (.int .i64 mo.m4) := fun w' h => by
  obtain ⟨b, off, hb, _, hcc⟩ := (eones w' h).cells (by omega)
  cases hb
  have := hcc k hlx 4 _ rfl
  rwa [xAG ones .zero k hlx, ← hmo] at this
 have o5 : ∀ w', Ex SG W w' → w'.cell? ⟨b3, off3 + k * 8 + 5, none⟩ = some (.int .i64 mo.m5) := fun w' h => by
  obtain ⟨b, off, hb, _, hcc⟩ := (eones w' h).cells (by omega)
  cases hb
  have := hcc k hlx 5 _ rfl
  rwa [xAG ones .zero k hlx, ← hmo] at this
 have o6 : ∀ w', Ex SG W w' → w'.cell? ⟨b3, off3 + k * 8 + 6, none⟩ = some (.int .i64 mo.m6) := fun w' h => by
  obtain ⟨b, off, hb, _, hcc⟩ := (eones w' h).cells (by omega)
  cases hb
  have := hcc k hlx 6 _ rfl
  rwa [xAG ones .zero k hlx, ← hmo] at this
 have o7 : ∀ w', Ex SG W w' → w'.cell? ⟨b3, off3 + k * 8 + 7, none⟩ = some (.int .i64 mo.m7) := fun w' h => by
  obtain ⟨b, off, hb, _, hcc⟩ := (eones w' h).cells (by omega)
  cases hb
  have := hcc k hlx 7 _ rfl
  rwa [xAG ones .zero k hlx, ← hmo] at this
 rw [← hmo] at hspec'
 have hmo' := Lib.hid hmo; clear hmo
 clear elots eones
 have hB0' := Lib.hid hB0; clear hB0
 have hsW := hr0.size
 have f0 := xAh (S := SG) hB0'.out (fun hm => absurd (hSw _ hm) (Nat.lt_irrefl _)) 0 rfl
 have f1 := xAh (S := SG) hB0'.out (fun hm => absurd (hSw _ hm) (Nat.lt_irrefl _)) 1 rfl
 have f2 := xAh (S := SG) hB0'.out (fun hm => absurd (hSw _ hm) (Nat.lt_irrefl _)) 2 rfl
 have f3 := xAh (S := SG) hB0'.out (fun hm => absurd (hSw _ hm) (Nat.lt_irrefl _)) 3 rfl
 have f4 := xAh (S := SG) hB0'.out (fun hm => absurd (hSw _ hm) (Nat.lt_irrefl _)) 4 rfl
 have f5 := xAh (S := SG) hB0'.out (fun hm => absurd (hSw _ hm) (Nat.lt_irrefl _)) 5 rfl
 have f6 := xAh (S := SG) hB0'.out (fun hm => absurd (hSw _ hm) (Nat.lt_irrefl _)) 6 rfl
 have f7 := xAh (S := SG) hB0'.out (fun hm => absurd (hSw _ hm) (Nat.lt_irrefl _)) 7 rfl
 go_wp2_with fail
 go_loopg [30] (cn + 1) (fun g' i wr => ∃ (j : Nat), g' = cn + 1 - j ∧ j ≤ cn + 1 ∧ i = .int .i64 j ∧ Ex SG W wr ∧ J (pre ++ (List.range j).flatMap fun (j : Nat) => xBa p ones r (c ++ [(j : Int)]) (xDM m mo j)) wr ∧ Own 3 1 intCells base wr (.slice (some ⟨g, 0, none⟩) k p.lots.length) c)
 case atStart => exact ⟨0, rfl, by omega, rfl, Ex.refl _ _, by simpa using hJW, hOW⟩
 case round =>
  obtain ⟨j, rfl, hj, rfl, hER, hJR, hOR⟩ := hrel
  by_cases hjl : j < cn + 1
  ·have hJR' := Lib.hid hJR; clear hJR
   have hwr := hER.size
   go_upto_region 7 with fail
   replace e0 := fun w' (h : Ex SG wr w') => e0 w' (hER.trans h)
   replace e1 := fun w' (h : Ex SG wr w') => e1 w' (hER.trans h)
   replace e2 := fun w' (h : Ex SG wr w') => e2 w' (hER.trans h)
   replace e3 := fun w' (h : Ex SG wr w') => e3 w' (hER.trans h)
   replace e4 := fun w' (h : Ex SG wr w') => e4 w' (hER.trans h)
   replace e5 := fun w' (h : Ex SG wr w') => e5 w' (hER.trans h)
   replace e6 := fun w' (h : Ex SG wr w') => e6 w' (hER.trans h)
   replace e7 := fun w' (h : Ex SG wr w') => e7 w' (hER.trans h)
   replace e8 := fun w' (h : Ex SG wr w') => e8 w' (hER.trans h)
   replace e9 := fun w' (h : Ex SG wr w') => e9 w' (hER.trans h)
   replace ee := fun w' (h : Ex SG wr w') => ee w' (hER.trans h)
   replace o0 := fun w' (h : Ex SG wr w') => o0 w' (hER.trans h)
   replace o1 := fun w' (h : Ex SG wr w') => o1 w' (hER.trans h)
   replace o2 := fun w' (h : Ex SG wr w') => o2 w' (hER.trans h)
   replace o3 := fun w' (h : Ex SG wr w') => o3 w' (hER.trans h)
   replace o4 := fun w' (h : Ex SG wr w') => o4 w' (hER.trans h)
   replace o5 := fun w' (h : Ex SG wr w') => o5 w' (hER.trans h)
   replace o6 := fun w' (h : Ex SG wr w') => o6 w' (hER.trans h)
   replace o7 := fun w' (h : Ex SG wr w') => o7 w' (hER.trans h)
   replace f0 := fun w' (h : Ex SG wr w') => f0 w' (hER.trans h)
   replace f1 := fun w' (h : Ex SG wr w') => f1 w' (hER.trans h)
   replace f2 := fun w' (h : Ex SG wr w') => f2 w' (hER.trans h)
   replace f3 := fun w' (h : Ex SG wr w') => f3 w' (hER.trans h)
   replace f4 := fun w' (h : Ex SG wr w') => f4 w' (hER.trans h)
   replace f5 := fun w' (h : Ex SG wr w') => f5 w' (hER.trans h)
   replace f6 := fun w' (h : Ex SG wr w') => f6 w' (hER.trans h)
   replace f7 := fun w' (h : Ex SG wr w') => f7 w' (hER.trans h)
   have hrr : Ex SG wr wr := Ex.refl _ _
   have hEr := hEnv _ _ hEW hER
   have hgL : ∀ x ∈ [g], x ∈ SG := fun x hx => by simp only [List.mem_singleton] at hx; subst hx; exact hgS
   have hk3 : k + 1 ≤ p.lots.length := by omega
   have hkr2 : Hid (k + 1 + r = p.lots.length) := Lib.hid (by have := hkr.out; omega)
   have hck2 : Hid ((c ++ [(j : Int)]).length = k + 1) := Lib.hid (by have := hck.out; simp; omega)
   go_wp2_with fail
   refine xEu (fun w' => Ex SG wr w') [.pu [1, 2, 6, 8, 11], .st [0, 5, 7], .pu [9], .st [10], .mv 3, .mv 4, .mv 12, .mv 13, .pu [14]] (by kernel_rfl) (by kernel_rfl) (Ex.drew (by first | (with_reducible assumption) | (repeat (with_reducible first | exact Ex.refl _ _ | assumption | exact Ex.mono (by assumption) (by simp; done) | refine Ex.alloc ?_ _ | refine Ex.drew ?_ | refine Ex.drewN ?_ _ | refine Ex.setCell ?_ (by first | (left; simp; done) | (right; simp; done) | (right; simp; omega)) _ | refine Ex.trans ?_ (by assumption))))) ?_
   refine xFK (fun K hK => ?_)
   simp only [pick, List.drop_succ_cons, List.drop_zero, List.take_succ_cons, List.take_zero, List.cons_append, List.nil_append]
   iterate 5 (first | (refine xAR ?_ (by rfl) (fun w' hS' => ?_) ?_; rotate_left; ((try dsimp only at hS'); go_simp; try with_reducible rfl); simp only [Act.put, List.setIfInBounds_toArray, List.set_cons_zero, List.set_cons_succ]) | (refine xA5 (by rfl) ?_; simp only [Act.put, List.setIfInBounds_toArray, List.set_cons_zero, List.set_cons_succ]))
   refine xAX (hK _ ?_)
   clear hK K
   refine xJH (fun K hK => ?_)
   simp only [pick, List.drop_succ_cons, List.drop_zero, List.take_succ_cons, List.take_zero, List.cons_append, List.nil_append]
   iterate 3 (first | (refine xAR ?_ (by rfl) (fun w' hS' => ?_) ?_; rotate_left; ((try dsimp only at hS'); go_simp; try with_reducible rfl); simp only [Act.put, List.setIfInBounds_toArray, List.set_cons_zero, List.set_cons_succ]) | (refine xA5 (by rfl) ?_; simp only [Act.put, List.setIfInBounds_toArray, List.set_cons_zero, List.set_cons_succ]))
   refine xAX (hK _ ?_)
   clear hK K
   refine xFK (fun K hK => ?_)
   simp only [pick, List.drop_succ_cons, List.drop_zero, List.take_succ_cons, List.take_zero, List.cons_append, List.nil_append]
   iterate 1 (first | (refine xAR ?_ (by rfl) (fun w' hS' => ?_) ?_; rotate_left; ((try dsimp only at hS'); go_simp; try with_reducible rfl); simp only [Act.put, List.setIfInBounds_toArray, List.set_cons_zero, List.set_cons_succ]) | (refine xA5 (by rfl) ?_; simp only [Act.put, List.setIfInBounds_toArray, List.set_cons_zero, List.set_cons_succ]))
   refine xAX (hK _ ?_)
   clear hK K
   refine xJH (fun K hK => ?_)
   simp only [pick, List.drop_succ_cons, List.drop_zero, List.take_succ_cons, List.take_zero, List.cons_append, List.nil_append]
   iterate 1 (first | (refine xAR ?_ (by rfl) (fun w' hS' => ?_) ?_; rotate_left; ((try dsimp only at hS'); go_simp; try with_reducible rfl); simp only [Act.put, List.setIfInBounds_toArray, List.set_cons_zero, List.set_cons_succ]) | (refine xA5 (by rfl) ?_; simp only [Act.put, List.setIfInBounds_toArray, List.set_cons_zero, List.set_cons_succ]))
   refine xAX (hK _ ?_)
   clear hK K
   refine xDN (fun K hK => ?_)
   simp only [pick, List.drop_succ_cons, List.drop_zero, List.take_succ_cons, List.take_zero, List.cons_append, List.nil_append]
   go_wp2_with (first | (at_builtin; refine xBW (base := base) eiInt xBU xCh rfl _ _ rfl g k p.lots.length c hck.out (by rfl) (hOR.ext ((Ex.refl _ _).drew.alloc _)) _ (j : Int) (by rfl) (fun j1 u hu => xAf (xAB _ _) j1 (by simpa [intCells] using hu)) hk3 ?_; intro w4 hO4 hx4; have hg4 : Ex [g] wr w4 := ((Ex.refl _ _).drew.alloc _).trans hx4; have hJ4 := hJE _ _ _ hJR'.out hg4; have h4 := hg4.mono hgL) | (go_at_call 79; refine (xNh m mo j _).mono ?_; rintro e w5 ⟨rfl, h5⟩; have hJ5 := hJE _ _ _ hJ4 (h5.ex [g]); have hO5 := hO4.ext h5; replace h5 : Ex SG wr w5 := h4.trans (h5.ex SG)) | (go_at_call 78; refine (ih'.out (k + 1) (c ++ [(j : Int)]) (xDM m mo j) _ _ hkr2 hck2 hk3 (fun x hx => by have := hSw x hx; have := h5.size; omega) (hEnv _ _ hEr h5) hJ5 hO5).mono ?_; rintro e w6 ⟨rfl, hJ6, h6, hO6⟩; replace h6 : Ex SG wr w6 := h5.trans h6))
   first | refine hK _ _ (by first | (with_reducible assumption) | (repeat (with_reducible first | exact Ex.refl _ _ | assumption | exact Ex.mono (by assumption) (by simp; done) | refine Ex.alloc ?_ _ | refine Ex.drew ?_ | refine Ex.drewN ?_ _ | refine Ex.setCell ?_ (by first | (left; simp; done) | (right; simp; done) | (right; simp; omega)) _ | refine Ex.trans ?_ (by assumption)))) ?_ | refine ⟨rfl, hK _ _ (by first | (with_reducible assumption) | (repeat (with_reducible first | exact Ex.refl _ _ | assumption | exact Ex.mono (by assumption) (by simp; done) | refine Ex.alloc ?_ _ | refine Ex.drew ?_ | refine Ex.drewN ?_ _ | refine Ex.setCell ?_ (by first | (left; simp; done) | (right; simp; done) | (right; simp; omega)) _ | refine Ex.trans ?_ (by assumption)))) ?_⟩
   clear hK K
   refine xDN (fun K hK => ?_)
   simp only [pick, List.drop_succ_cons, List.drop_zero, List.take_succ_cons, List.take_zero, List.cons_append, List.nil_append]
   go_wp2_with (first | (at_builtin; refine xBW (base := base) eiInt xBU xCh rfl _ _ rfl g k p.lots.length c hck.out (by rfl) (hOR.ext ((Ex.refl _ _).drew.alloc _)) _ (j : Int) (by rfl) (fun j1 u hu => xAf (xAB _ _) j1 (by simpa [intCells] using hu)) hk3 ?_; intro w4 hO4 hx4; have hg4 : Ex [g] wr w4 := ((Ex.refl _ _).drew.alloc _).trans hx4; have hJ4 := hJE _ _ _ hJR'.out hg4; have h4 := hg4.mono hgL) | (go_at_call 79; refine (xNh m mo j _).mono ?_; rintro e w5 ⟨rfl, h5⟩; have hJ5 := hJE _ _ _ hJ4 (h5.ex [g]); have hO5 := hO4.ext h5; replace h5 : Ex SG wr w5 := h4.trans (h5.ex SG)) | (go_at_call 78; refine (ih'.out (k + 1) (c ++ [(j : Int)]) (xDM m mo j) _ _ hkr2 hck2 hk3 (fun x hx => by have := hSw x hx; have := h5.size; omega) (hEnv _ _ hEr h5) hJ5 hO5).mono ?_; rintro e w6 ⟨rfl, hJ6, h6, hO6⟩; replace h6 : Ex SG wr w6 := h5.trans h6))
   first | refine hK _ _ (by first | (with_reducible assumption) | (repeat (with_reducible first | exact Ex.refl _ _ | assumption | exact Ex.mono (by assumption) (by simp; done) | refine Ex.alloc ?_ _ | refine Ex.drew ?_ | refine Ex.drewN ?_ _ | refine Ex.setCell ?_ (by first | (left; simp; done) | (right; simp; done) | (right; simp; omega)) _ | refine Ex.trans ?_ (by assumption)))) ?_ | refine ⟨rfl, hK _ _ (by first | (with_reducible assumption) | (repeat (with_reducible first | exact Ex.refl _ _ | assumption | exact Ex.mono (by assumption) (by simp; done) | refine Ex.alloc ?_ _ | refine Ex.drew ?_ | refine Ex.drewN ?_ _ | refine Ex.setCell ?_ (by first | (left; simp; done) | (right; simp; done) | (right; simp; omega)) _ | refine Ex.trans ?_ (by assumption)))) ?_⟩
   clear hK K
   refine xDN (fun K hK => ?_)
   simp only [pick, List.drop_succ_cons, List.drop_zero, List.take_succ_cons, List.take_zero, List.cons_append, List.nil_append]
   go_wp2_with (first | (at_builtin; refine xBW (base := base) eiInt xBU xCh rfl _ _ rfl g k p.lots.length c hck.out (by rfl) (hOR.ext ((Ex.refl _ _).drew.alloc _)) _ (j : Int) (by rfl) (fun j1 u hu => xAf (xAB _ _) j1 (by simpa [intCells] using hu)) hk3 ?_; intro w4 hO4 hx4; have hg4 : Ex [g] wr w4 := ((Ex.refl _ _).drew.alloc _).trans hx4; have hJ4 := hJE _ _ _ hJR'.out hg4; have h4 := hg4.mono hgL) | (go_at_call 79; refine (xNh m mo j _).mono ?_; rintro e w5 ⟨rfl, h5⟩; have hJ5 := hJE _ _ _ hJ4 (h5.ex [g]); have hO5 := hO4.ext h5; replace h5 : Ex SG wr w5 := h4.trans (h5.ex SG)) | (go_at_call 78; refine (ih'.out (k + 1) (c ++ [(j : Int)]) (xDM m mo j) _ _ hkr2 hck2 hk3 (fun x hx => by have := hSw x hx; have := h5.size; omega) (hEnv _ _ hEr h5) hJ5 hO5).mono ?_; rintro e w6 ⟨rfl, hJ6, h6, hO6⟩; replace h6 : Ex SG wr w6 := h5.trans h6))
   first | refine hK _ _ (by first | (with_reducible assumption) | (repeat (with_reducible first | exact Ex.refl _ _ | assumption | exact Ex.mono (by assumption) (by simp; done) | refine Ex.alloc ?_ _ | refine Ex.drew ?_ | refine Ex.drewN ?_ _ | refine Ex.setCell ?_ (by first | (left; simp; done) | (right; simp; done) | (right; simp; omega)) _ | refine Ex.trans ?_ (by assumption)))) ?_ | refine ⟨rfl, hK _ _ (by first | (with_reducible assumption) | (repeat (with_reducible first | exact Ex.refl _ _ | assumption | exact Ex.mono (by assumption) (by simp; done) | refine Ex.alloc ?_ _ | refine Ex.drew ?_ | refine Ex.drewN ?_ _ | refine Ex.setCell ?_ (by first | (left; simp; done) | (right; simp; done) | (right; simp; omega)) _ | refine Ex.trans ?_ (by assumption)))) ?_⟩
   clear hK K
   refine xDN (fun K hK => ?_)
   simp only [pick, List.drop_succ_cons, List.drop_zero, List.take_succ_cons, List.take_zero, List.cons_append, List.nil_append]
   go_wp2_with (first | (at_builtin; refine xBW (base := base) eiInt xBU xCh rfl _ _ rfl g k p.lots.length c hck.out (by rfl) (hOR.ext ((Ex.refl _ _).drew.alloc _)) _ (j : Int) (by rfl) (fun j1 u hu => xAf (xAB _ _) j1 (by simpa [intCells] using hu)) hk3 ?_; intro w4 hO4 hx4; have hg4 : Ex [g] wr w4 := ((Ex.refl _ _).drew.alloc _).trans hx4; have hJ4 := hJE _ _ _ hJR'.out hg4; have h4 := hg4.mono hgL) | (go_at_call 79; refine (xNh m mo j _).mono ?_; rintro e w5 ⟨rfl, h5⟩; have hJ5 := hJE _ _ _ hJ4 (h5.ex [g]); have hO5 := hO4.ext h5; replace h5 : Ex SG wr w5 := h4.trans (h5.ex SG)) | (go_at_call 78; refine (ih'.out (k + 1) (c ++ [(j : Int)]) (xDM m mo j) _ _ hkr2 hck2 hk3 (fun x hx => by have := hSw x hx; have := h5.size; omega) (hEnv _ _ hEr h5) hJ5 hO5).mono ?_; rintro e w6 ⟨rfl, hJ6, h6, hO6⟩; replace h6 : Ex SG wr w6 := h5.trans h6))
   first | refine hK _ _ (by first | (with_reducible assumption) | (repeat (with_reducible first | exact Ex.refl _ _ | assumption | exact Ex.mono (by assumption) (by simp; done) | refine Ex.alloc ?_ _ | refine Ex.drew ?_ | refine Ex.drewN ?_ _ | refine Ex.setCell ?_ (by first | (left; simp; done) | (right; simp; done) | (right; simp; omega)) _ | refine Ex.trans ?_ (by assumption)))) ?_ | refine ⟨rfl, hK _ _ (by first | (with_reducible assumption) | (repeat (with_reducible first | exact Ex.refl _ _ | assumption | exact Ex.mono (by assumption) (by simp; done) | refine Ex.alloc ?_ _ | refine Ex.drew ?_ | refine Ex.drewN ?_ _ | refine Ex.setCell ?_ (by first | (left; simp; done) | (right; simp; done) | (right; simp; omega)) _ | refine Ex.trans ?_ (by assumption)))) ?_⟩
   clear hK K
   refine xFK (fun K hK => ?_)
   simp only [pick, List.drop_succ_cons, List.drop_zero, List.take_succ_cons, List.take_zero, List.cons_append, List.nil_append]
   iterate 1 (first | (refine xAR ?_ (by rfl) (fun w' hS' => ?_) ?_; rotate_left; ((try dsimp only at hS'); go_simp; try with_reducible rfl); simp only [Act.put, List.setIfInBounds_toArray, List.set_cons_zero, List.set_cons_succ]) | (refine xA5 (by rfl) ?_; simp only [Act.put, List.setIfInBounds_toArray, List.set_cons_zero, List.set_cons_succ]))
   refine xAX (hK _ ?_)
   clear hK K
   refine xJI ?_
   go_wp2_with fail
   go_roundg (cn + 1 - (j + 1))
   case rel => exact ⟨j + 1, rfl, by omega, by go_num, hER.trans h6, by rw [List.range_succ, List.flatMap_append]; simpa [List.append_assoc] using hJ6, hO6.before hck.out⟩
   case measure => omega
  ·go_wp2_with fail
   go_returns
   exact ⟨rfl, by rw [hspec'.out, show cn + 1 = j by omega]; exact hJR, (hr0.ex SG).trans hER, hOR⟩
end Go.Proofs.YtcbbhiobibhdnaaDoor


namespace Go.Proofs.YtcbbhiobibhdnaaDoor
open Go.RowKit
attribute [local irreducible] xAQ xBs
attribute [local go_sem] Oper.semAt_some
theorem xS1 (p : Recipe) (a : Option Addr) (cap : Nat) (a2 : Option Addr) (cap2 : Nat) (ones : List Mar) (hcnt : ∀ k, k < p.lots.length → 0 ≤ (nth p.lots .zero k).count ∧ (nth p.lots .zero k).count ≤ 1000) (hlen : p.lots.length ≤ 1000) (hon : Hid (ones.length = p.lots.length)) (l g bt by_ be base : Nat) (SB SG : List Nat) (hgS : g ∈ SG) (hSB : ∀ x ∈ SB, x ∈ SG) (hgB : g ∉ SB) (hEnv : ∀ W W', Env p a cap a2 cap2 ones l bt by_ be W → Ex SG W W' → Env p a cap a2 cap2 ones l bt by_ be W') (J : List (List Int × Mar) → World → Prop) (hJE : ∀ pre W W', J pre W → Ex [g] W W' → J pre W') (hY : ∀ pre c m W, J pre W → c.length = p.lots.length ∧ g < W.heap.size → SlI W (some ⟨g, 0, none⟩) p.lots.length c → YieldAt Fence.wide 4 Tryd.prog l #[.slice (some ⟨g, 0, none⟩) p.lots.length p.lots.length, .agg #[.int .i64 m.m0, .int .i64 m.m1, .int .i64 m.m2, .int .i64 m.m3, .int .i64 m.m4, .int .i64 m.m5, .int .i64 m.m6, .int .i64 m.m7]] W (fun e W' => e = .returned (.bool true) ∧ J (pre ++ [(c, m)]) W' ∧ Ex SB W W')) : ∀ (r : Nat) (k : Nat) (c : List Int) (m : Mar) (pre : List (List Int × Mar)) (w : World), (Hid (k + r = p.lots.length)) → (Hid (c.length = k)) → (k ≤ p.lots.length) → (∀ x ∈ SG, x < w.heap.size) → (Env p a cap a2 cap2 ones l bt by_ be w) → (J pre w) → (Own 3 1 intCells base w (.slice (some ⟨g, 0, none⟩) k p.lots.length) c) → Calls Tryd.prog 78 #[.slice (some ⟨g, 0, none⟩) k p.lots.length, .agg #[.int .i64 m.m0, .int .i64 m.m1, .int .i64 m.m2, .int .i64 m.m3, .int .i64 m.m4, .int .i64 m.m5, .int .i64 m.m6, .int .i64 m.m7], .pointer (some ⟨bt, 0, none⟩), .pointer (some ⟨by_, 0, none⟩), .pointer (some ⟨be, 0, none⟩)] w (fun e w' => e = .returned (.bool true) ∧ J (pre ++ xBa p ones r c m) w' ∧ Ex SG w w' ∧ Own 3 1 intCells base w' (.slice (some ⟨g, 0, none⟩) k p.lots.length) c) := by
 intro r
 induction r with
 | zero =>
  intro k c m pre w h1 h2 h3 h4 h5 h6 h7
  exact xIs p a cap a2 cap2 ones hcnt hlen hon l g bt by_ be base SB SG hgS hSB hgB hEnv J hJE hY k c m pre w h1 h2 h3 h4 h5 h6 h7
 | succ r ih =>
  intro k c m pre w h1 h2 h3 h4 h5 h6 h7
  exact xKd p a cap a2 cap2 ones hcnt hlen hon l g bt by_ be base SB SG hgS hSB hgB hEnv J hJE r ih k c m pre w h1 h2 h3 h4 h5 h6 h7
set_option maxRecDepth 100000 in
set_option maxHeartbeats 8000000 in
theorem xOI (p : Recipe) (a : Option Addr) (cap : Nat) (a2 : Option Addr) (cap2 : Nat) (ones : List Mar) (hcnt : ∀ k, k < p.lots.length → 0 ≤ (nth p.lots .zero k).count ∧ (nth p.lots .zero k).count ≤ 1000) (hlen : p.lots.length ≤ 1000) (hon : Hid (ones.length = p.lots.length)) (l bt : Nat) (SB : List Nat) (J : Nat → List (List Int × Mar) → World → Prop) (w : World)
  (hT : w.heap[bt]? = some (.cells #[.slice a p.lots.length cap, .int .i64 p.mass.lo, .int .i64 p.mass.hi, .int .i64 p.target.a.lo, .int .i64 p.target.a.hi, .int .i64 p.target.b.lo, .int .i64 p.target.b.hi, .int .i64 p.target.c.lo, .int .i64 p.target.c.hi, .slice a2 ones.length cap2] 119 (0, 0))) (hTB : bt ∉ SB) (hSBw : ∀ x ∈ SB, x < w.heap.size) (hs : SlL w a cap p.lots) (hs2 : Sl 8 Mar.cells w a2 cap2 ones) (hla : 0 < p.lots.length → ∀ b, a = some b → b.block ∉ SB ∧ b.block < w.heap.size) (hla2 : 0 < ones.length → ∀ b, a2 = some b → b.block ∉ SB ∧ b.block < w.heap.size)
  (hJ0 : ∀ g W, w.heap.size ≤ g → Ext w W → J g [] W) (hJE : ∀ g pre W W', J g pre W → Ex [g] W W' → J g pre W') (hY : ∀ g, w.heap.size ≤ g → ∀ pre c m W, J g pre W → c.length = p.lots.length ∧ g < W.heap.size → SlI W (some ⟨g, 0, none⟩) p.lots.length c → YieldAt Fence.wide 4 Tryd.prog l #[.slice (some ⟨g, 0, none⟩) p.lots.length p.lots.length, .agg #[.int .i64 m.m0, .int .i64 m.m1, .int .i64 m.m2, .int .i64 m.m3, .int .i64 m.m4, .int .i64 m.m5, .int .i64 m.m6, .int .i64 m.m7]] W (fun e W' => e = .returned (.bool true) ∧ J g (pre ++ [(c, m)]) W' ∧ Ex SB W W')) :
  Calls Tryd.prog 77 #[.func (.yield l) #[] #[], .pointer (some ⟨bt, 0, none⟩)] w (fun e w' => (∃ v, e = .returned v) ∧ ∃ g, w.heap.size ≤ g ∧ J g (xBa p ones p.lots.length [] (xCK p)) w') := by
 have hbt := lt_of_block hT
 go_enter Tryd.func77, Tryd.ntmps77
 go_upto_region 3 with fail
 refine xFC (fun W => Ext w W ∧ w.heap.size + 2 = W.heap.size ∧ W.heap[w.heap.size]? = some (.cells #[.func (.yield l) #[] #[]] 165 (0, 0)) ∧ W.heap[w.heap.size + 1]? = some (.cells #[.func (.func 78) #[] #[.pointer (some ⟨bt, 0, none⟩), .pointer (some ⟨w.heap.size, 0, none⟩), .pointer (some ⟨w.heap.size + 1, 0, none⟩)]] 165 (0, 0))) ?_ (fun W hW => ?_)
 ·exact ⟨by (repeat (with_reducible first | exact Ex.refl _ _ | assumption | exact Ex.mono (by assumption) (by simp; done) | refine Ex.alloc ?_ _ | refine Ex.drew ?_ | refine Ex.drewN ?_ _ | refine Ex.setCell ?_ (by first | (left; simp; done) | (right; simp; done) | (right; simp; omega)) _ | refine Ex.trans ?_ (by assumption))), by simp, xBN (xAB _ _), blk_at _ _ (by simp)⟩
 obtain ⟨hr0, hsz, hBy, hBe⟩ := hW
 have hsz' := Nat.le_of_eq hsz.symm; have hsz'' := Nat.le_of_eq hsz; clear hsz
 have hTW := hr0.heap (by simp) hT
 have hsW := hs.ext hr0
 have hs2W := hs2.ext hr0
 have hx : ∀ g w5, Ex [] W w5 → W.heap.size ≤ g → Own 3 1 intCells 0 w5 (.slice (some ⟨g, 0, none⟩) 0 p.lots.length) ([] : List Int) → Calls Tryd.prog 78 #[.slice (some ⟨g, 0, none⟩) 0 p.lots.length, .agg #[.int .i64 ((xCK p).m0), .int .i64 ((xCK p).m1), .int .i64 ((xCK p).m2), .int .i64 ((xCK p).m3), .int .i64 ((xCK p).m4), .int .i64 ((xCK p).m5), .int .i64 ((xCK p).m6), .int .i64 ((xCK p).m7)], .pointer (some ⟨bt, 0, none⟩), .pointer (some ⟨w.heap.size, 0, none⟩), .pointer (some ⟨w.heap.size + 1, 0, none⟩)] w5 (fun e w' => e = .returned (.bool true) ∧ w.heap.size ≤ g ∧ J g (xBa p ones p.lots.length [] (xCK p)) w' ∧ Ex SB W w') := by
  intro g w5 h5 hg hO5
  have h5s := h5.size
  have hEnv : ∀ W1 W2, Env p a cap a2 cap2 ones l bt w.heap.size (w.heap.size + 1) W1 → Ex (g :: SB) W1 W2 → Env p a cap a2 cap2 ones l bt w.heap.size (w.heap.size + 1) W2 := fun W1 W2 hE hx =>
   ⟨hx.heap (by simp only [List.mem_cons, not_or]; exact ⟨by omega, hTB⟩) hE.t,
    hx.heap (by simp only [List.mem_cons, not_or]; exact ⟨by omega, fun hm => absurd (hSBw _ hm) (by omega)⟩) hE.y,
    hx.heap (by simp only [List.mem_cons, not_or]; exact ⟨by omega, fun hm => absurd (hSBw _ hm) (by omega)⟩) hE.e,
    hE.lots.ex0 hx (fun h0 b hb => by have := hla h0 b hb; simp only [List.mem_cons, not_or]; exact ⟨by omega, this.1⟩),
    hE.ones_.ex0 hx (fun h0 b hb => by have := hla2 h0 b hb; simp only [List.mem_cons, not_or]; exact ⟨by omega, this.1⟩)⟩
  refine (xS1 p a cap a2 cap2 ones hcnt hlen hon l g bt w.heap.size (w.heap.size + 1) 0 SB (g :: SB) (by simp) (fun x hx => by simp [hx]) (fun hm => absurd (hSBw _ hm) (by omega)) hEnv (J g) (fun pre W1 W2 => hJE g pre W1 W2) (fun pre c m W1 => hY g (by omega) pre c m W1) p.lots.length 0 [] (xCK p) [] w5 (Lib.hid (by omega)) (Lib.hid rfl) (by omega)
   (fun x hx => by
    have hg5 := hO5.lt rfl
    simp only [List.mem_cons] at hx
    rcases hx with rfl | hx
    ·exact hg5
    ·have := hSBw x hx; omega)
   ⟨h5.heap (by simp) hTW, h5.heap (by simp) hBy, h5.heap (by simp) hBe, hsW.ext h5, hs2W.ext h5⟩ (hJ0 g w5 (by omega) (hr0.trans h5)) hO5).mono ?_
  rintro e w' ⟨he, hj, h6, _⟩
  exact ⟨he, by omega, by simpa using hj, (h5.ex SB).trans_fresh h6 (fun x hx => by simp only [List.mem_cons] at hx; rcases hx with rfl | hx; exact .inr hg; exact .inl hx)⟩
 obtain ⟨mk, hmk⟩ := Classical.axiomOfChoice (fun w' : World => (by
  obtain ⟨i, z, hi, hz, hsz, hby, hzs⟩ := eiInt.ex
  obtain ⟨w2, hr, ho1, hg⟩ := run_make_own (P := Tryd.prog) w' 0 64 3 i z 1 eiInt.ht hi hz hsz .i64 .i64 p.lots.length (by rw [hby]; omega) (by unfold maxLen; omega) (Nat.zero_le _)
  exact ⟨w2, hr, ho1, Ex.of_grown hg⟩ : ∃ w2, (Instr.makeSlice 64 (.int .i64 ((0 : Nat) : Int)) (.int .i64 (p.lots.length : Int))).run Tryd.prog w' = .ok (.slice (some ⟨w'.heap.size, 0, none⟩) 0 p.lots.length) w2 ∧ Own 3 1 intCells 0 w2 (.slice (some ⟨w'.heap.size, 0, none⟩) 0 p.lots.length) ([] : List Int) ∧ Ex [] w' w2))
 have hmr : ∀ w', (Instr.makeSlice 64 (.int .i64 0) (.int .i64 (p.lots.length : Int))).run Tryd.prog w' = .ok (.slice (some ⟨w'.heap.size, 0, none⟩) 0 p.lots.length) (mk w') := fun w' => (hmk w').1
 have hmO := fun w' => (hmk w').2.1
 have hmO2 : ∀ w' g, g = w'.heap.size → Own 3 1 intCells 0 (mk w') (.slice (some ⟨g, 0, none⟩) 0 p.lots.length) ([] : List Int) := fun w' g e => e ▸ hmO w'
 have hmE : ∀ w', Ex [] W w' → Ex [] W (mk w') := fun w' h => h.trans (hmk w').2.2
 clear hmk
 have t0 := xAh (S := SB) hTW hTB 0 rfl
 have t1 := xAh (S := SB) hTW hTB 1 rfl
 have t2 := xAh (S := SB) hTW hTB 2 rfl
 have t3 := xAh (S := SB) hTW hTB 3 rfl
 have t4 := xAh (S := SB) hTW hTB 4 rfl
 have t5 := xAh (S := SB) hTW hTB 5 rfl
 have t6 := xAh (S := SB) hTW hTB 6 rfl
 have t7 := xAh (S := SB) hTW hTB 7 rfl
 have t8 := xAh (S := SB) hTW hTB 8 rfl
 have t9 := xAh (S := SB) hTW hTB 9 rfl
 have ee := xAh (S := SB) hBe (fun hm => absurd (hSBw _ hm) (by omega)) 0 rfl
 have hrW : Ex [] W W := Ex.refl _ _
 have hrS : Ex SB W W := Ex.refl _ _
 have hlb := hs.le; have hlb' := hs.big
 clear hTW hsW hs2W hT hs hs2 hBy hJ0 hJE hY hla hla2 hBe
 go_region_held3 (fun w' => Ex SB W w') (first | exact Ex.drew (by with_reducible assumption) | (with_reducible assumption) | exact (hmE _ (by first | (with_reducible assumption) | exact Ex.drew (by with_reducible assumption))).ex SB) (first | (go_at_call 80; refine (base_c p a cap _).mono ?_; rintro e w1 ⟨rfl, h1⟩; have hW1 : Ex [] W w1 := Ex.trans (by first | (with_reducible assumption) | exact Ex.drew hrW | exact hmE _ (by first | (with_reducible assumption) | exact Ex.drew hrW)) (h1.ex _); have hS1 : Ex SB W w1 := hW1.ex SB) | (go_at_call 78; refine (hx _ _ (by first | (with_reducible assumption) | exact Ex.drew hrW | exact hmE _ (by first | (with_reducible assumption) | exact Ex.drew hrW)) (Ex.size (S := []) (by first | (with_reducible assumption) | exact hrW)) (by first | exact hmO _ | exact (hmO2 W.drew _ (by simp)).ext (by assumption))).mono ?_; rintro e w6 ⟨rfl, hg6, hJ6, hS6⟩))
 all_goals go_wp2
 all_goals go_end0
 all_goals exact ⟨⟨_, rfl⟩, _, hg6, hJ6⟩
end Go.Proofs.YtcbbhiobibhdnaaDoor
