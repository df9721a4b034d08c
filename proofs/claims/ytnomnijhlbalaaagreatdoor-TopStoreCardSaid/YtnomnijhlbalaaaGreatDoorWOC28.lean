/- A part of the proof of the theorem of the last file. No condition. By an AI agent. -/
import Derived.Test.YtnomnijhlbalaaaGreatDoorWORG
namespace Go.Proofs.YtnomnijhlbalaaaGreatDoor
section
open Go.RowKit
attribute [local irreducible] xAO xBl
attribute [local go_sem] Oper.semAt_some
theorem xVh {p : Recipe} (h : xBM p = 0) : p.lots.length <= 6 := by
 unfold xBM at h;split at h
 ·cases h
 ·omega
theorem xOx {l : Lot} (h : xCY l = true) : 0 <= l.count /\ l.count <= 1000 := by
 unfold xCY xGb at h;simp only [Bool.and_eq_true, decide_eq_true_eq] at h;omega
theorem xTH (p : Recipe) : (xBG p).length = p.lots.length := by simp [xBG]
theorem xVg {p : Recipe} (h : xBM p = 0) : ∀ l ∈ p.lots, xCY l = true := by
 unfold xBM at h;split at h
 ·cases h
 ·split at h
  ·cases h
  ·rename_i h1;intro l hl;cases h2 : xCY l
   ·exfalso; apply h1;have : (p.lots.any (fun l => !xCY l)) = true := List.any_eq_true.2 ⟨l, hl, by simp [h2]⟩;simp [this]
   ·rfl
theorem ownB {a : Option Addr} {n c g : Nat} (h : (Value.slice a n c).ownBlock = some g) : ∃ b, a = some b /\ b.block = g := by
 cases a with
 | none => cases h
 | some b => exact ⟨b, rfl, Option.some.inj h⟩
def xAT (lots : List Lot) (st : Option (List Int × Int)) (x : List Int × Mar) : Option (List Int × Int) :=
 match st with
 | none => if xIY x.2 < 0 then some (x.1, xGF lots x.1) else none
 | some s => if xIY x.2 < 0 then if xGF lots x.1 < s.2 then some (x.1, xGF lots x.1) else some s else some s
def xA5 (lots : List Lot) (l : List (List Int × Mar)) : Option (List Int × Int) := l.foldl (xAT lots) none
theorem xOO (lots : List Lot) (l : List (List Int × Mar)) (x : List Int × Mar) : xA5 lots (l ++ [x]) = xAT lots (xA5 lots l) x := by simp [xA5]
def stL (st : Option (List Int × Int)) : List Int := match st with | none => [] | some s => s.1
def stC (st : Option (List Int × Int)) : Int := match st with | none => 0 | some s => s.2
def xCb (p : Recipe) : List (List Int × Mar) := xA2 p (xBG p) p.lots.length [] (xDh p)
theorem Sl.not_one {w : World} {a : Option Addr} {cap : Nat} {xs : List Mar} (h : Sl 8 Mar.cells w a cap xs) (h0 : 0 < xs.length) {b : Addr} (hb : a = some b) {B : Nat} {v : Value} {T : TypeId} {z : Nat × Nat} (hB : w.heap[B]? = some (.cells #[v] T z)) : b.block ≠ B := fun e => by
 obtain ⟨b', off, ha, _, hc⟩ := h.cells h0;rw [hb] at ha; cases ha;have h1 := hc 0 h0 7 _ rfl;simp only at e;subst e;simp [World.cell?, hB] at h1
def xEa (p : Recipe) : Option (List Int × Int) := if xBM p = 0 then if xT1 p then none else xA5 p.lots (xCb p) else none
def xOP (p : Recipe) : Int := if xBM p = 0 then if xT1 p then 8 else if (xA5 p.lots (xCb p)).isSome then 0 else 20 else xBM p
def xQU (p : Recipe) (w : World) (e : Ending) (w' : World) : Prop :=
 ∃ a' c', e = .returned (.tuple #[.slice a' (stL (xEa p)).length c', .int .i64 (stC (xEa p)), .int .i64 (xOP p)]) /\ Own 3 1 intCells w.heap.size w' (.slice a' (stL (xEa p)).length c') (stL (xEa p)) /\ Ext w w'
set_option maxRecDepth 100000 in
set_option maxHeartbeats 4000000 in
theorem xVj (a2 : Option Addr) (p : Recipe) (a : Option Addr) (cap cap2 : Nat) (ones : List Mar) (w : World) :
  Calls Tryz.prog 43 #[.agg #[.slice a p.lots.length cap, .int .i64 p.mass.lo, .int .i64 p.mass.hi, .int .i64 p.target.a.lo, .int .i64 p.target.a.hi, .int .i64 p.target.b.lo, .int .i64 p.target.b.hi, .int .i64 p.target.c.lo, .int .i64 p.target.c.hi, .slice a2 ones.length cap2]] w (fun e w' => e = .returned (.func (.func 110) #[] #[.pointer (some ⟨w.heap.size, 0, none⟩)]) /\ Ext w w' /\ w'.heap[w.heap.size]? = some (.cells #[.slice a p.lots.length cap, .int .i64 p.mass.lo, .int .i64 p.mass.hi, .int .i64 p.target.a.lo, .int .i64 p.target.a.hi, .int .i64 p.target.b.lo, .int .i64 p.target.b.hi, .int .i64 p.target.c.lo, .int .i64 p.target.c.hi, .slice a2 ones.length cap2] 151 (0, 0))) := by
 go_enter Tryz.func43, Tryz.ntmps43
 go_wp2_with fail
 go_returns
 exact ⟨rfl, (Ex.refl _ _).alloc _, xAq _ _⟩
set_option maxRecDepth 100000 in
set_option maxHeartbeats 8000000 in
theorem best_c (p : Recipe) (a : Option Addr) (cap : Nat) (w : World) (hs : SlL w a cap p.lots) :
  Calls Tryz.prog 18 #[.agg #[.slice a p.lots.length cap, .int .i64 p.mass.lo, .int .i64 p.mass.hi, .int .i64 p.target.a.lo, .int .i64 p.target.a.hi, .int .i64 p.target.b.lo, .int .i64 p.target.b.hi, .int .i64 p.target.c.lo, .int .i64 p.target.c.hi]] w (xQU p w) := by
 refine xNA Tryz.func18 rfl ?_;simp only [Tryz.ntmps18, List.size_toArray, List.length_cons, List.length_nil, Nat.reduceAdd, Nat.reduceSub, Array.replicate_succ, Array.replicate_zero, List.push_toArray, List.append_toArray, List.nil_append, List.cons_append]
 go_upto_region 1 with (fail)
 refine xF9 (fun W => Ext w W /\ w.heap.size + 3 = W.heap.size /\ W.heap[w.heap.size]? = some (.cells #[.slice a p.lots.length cap, .int .i64 p.mass.lo, .int .i64 p.mass.hi, .int .i64 p.target.a.lo, .int .i64 p.target.a.hi, .int .i64 p.target.b.lo, .int .i64 p.target.b.hi, .int .i64 p.target.c.lo, .int .i64 p.target.c.hi] 32 (0, 0)) /\ W.heap[w.heap.size + 1]? = some (.cells #[.slice none 0 0] 45 (0, 0)) /\ W.heap[w.heap.size + 1 + 1]? = some (.cells #[.int .i64 0] 3 (0, 0))) ⟨by (exact exI), by simp, xBB (xBB (xAq _ _)), xBB (by have h := xAq ((w).alloc (.cells #[.slice a p.lots.length cap, .int .i64 p.mass.lo, .int .i64 p.mass.hi, .int .i64 p.target.a.lo, .int .i64 p.target.a.hi, .int .i64 p.target.b.lo, .int .i64 p.target.b.hi, .int .i64 p.target.c.lo, .int .i64 p.target.c.hi] 32 (0, 0))) (.cells #[.slice none 0 0] 45 (0, 0)); simpa using h), by have h := xAq (((w).alloc (.cells #[.slice a p.lots.length cap, .int .i64 p.mass.lo, .int .i64 p.mass.hi, .int .i64 p.target.a.lo, .int .i64 p.target.a.hi, .int .i64 p.target.b.lo, .int .i64 p.target.b.hi, .int .i64 p.target.c.lo, .int .i64 p.target.c.hi] 32 (0, 0))).alloc (.cells #[.slice none 0 0] 45 (0, 0))) (.cells #[.int .i64 0] 3 (0, 0)); simpa using h⟩ (fun W hW => ?_);obtain ⟨hr0, hsz, hB0, hB1, hB2⟩ := hW;have hr : Ex [] W W := Ex.refl _ _;have f0_0 := cE (S := []) hB0 0 rfl;have f0_1 := cE (S := []) hB0 1 rfl;have f0_2 := cE (S := []) hB0 2 rfl;have f0_3 := cE (S := []) hB0 3 rfl;have f0_4 := cE (S := []) hB0 4 rfl;have f0_5 := cE (S := []) hB0 5 rfl;have f0_6 := cE (S := []) hB0 6 rfl;have f0_7 := cE (S := []) hB0 7 rfl;have f0_8 := cE (S := []) hB0 8 rfl;have f1_0 := cE (S := []) hB1 0 rfl;have f2_0 := cE (S := []) hB2 0 rfl;have z1_0 := xDY (S := []) hB1 (by first | (simp; done) | (simp; omega)) 0
 have z2_0 := xDY (S := []) hB2 (by first | (simp; done) | (simp; omega)) 0
 clear hB0;have hsz' := Nat.le_of_eq hsz.symm; have hsz'' := Nat.le_of_eq hsz; clear hsz;have hB1' := Lib.hid hB1; have hB2' := Lib.hid hB2; clear hB1 hB2;cases hb0 : (xBM p != 0)
 case true =>
  have hq : ¬ xBM p = 0 := by simpa using hb0
  go_wp2_with (go_at_call 40; refine (xVi p a cap _ (hs.ext (hr0.trans exI))).mono ?_; rintro e w1 ⟨rfl, h1⟩; replace h1 : Ex [] W w1 := Ex.trans exI (h1.ex _))
  (try simp only [Exit.inBlock, Exit.then])
  refine xN9 (fun X => Ext w X /\ X.heap[w.heap.size + 1]? = some (.cells #[.slice none 0 0] 45 (0, 0)) /\ X.heap[w.heap.size + 1 + 1]? = some (.cells #[.int .i64 0] 3 (0, 0))) ⟨by (repeat (with_reducible first | exact Ex.refl _ _ | assumption | exact Ex.trans hr0 (by assumption) | exact Ex.mono (by assumption) (by simp; done) | refine Ex.alloc ?_ _ | refine Ex.drew ?_ | refine Ex.drewN ?_ _ | refine Ex.setCell ?_ (by first | (left; simp; done) | (right; simp; done) | (right; simp; omega)) _ | refine Ex.trans ?_ (by assumption))), xAu (xAF (h1.heap (by simp) hB1'.out) 0 _) (by omega), xAF (xAu (h1.heap (by simp) hB2'.out) (by omega)) 0 _⟩ (fun X hX => ?_)
  obtain ⟨hX1, hX2, hX3⟩ := hX;have x2 := xAb hX2 0 rfl;have x3 := xAb hX3 0 rfl;refine xMB (v := .tuple #[.slice none 0 0, .int .i64 0, .int .i64 (xBM p)]) (by simp [results, Tryz.results18, go_sem, x2, x3]) rfl ⟨none, 0, by simp [xEa, xOP, stL, stC, hq], by rw [show stL (xEa p) = [] from by simp [xEa, stL, hq]]; exact Own.nil _, hX1⟩
 case false =>
  have hq : xBM p = 0 := by simpa using hb0
  have hlen := xVh hq;have hcnt : ∀ k, k < p.lots.length -> 0 <= (nth p.lots .zero k).count /\ (nth p.lots .zero k).count <= 1000 := fun k hk => by
   rw [<- xAG p.lots .zero k hk]; exact xOx (xVg hq _ (List.getElem_mem hk))
  have hq' := Lib.hid hq; clear hq
  go_upto_region 4 with (go_at_call 40; refine (xVi p a cap _ (hs.ext (hr0.trans exI))).mono ?_; rintro e w1 ⟨rfl, h1⟩; replace h1 : Ex [] W w1 := Ex.trans exI (h1.ex _))
  go_upto_region 5 with (go_at_call 41; refine (xRq p a cap _ (hs.ext (hr0.trans exI)) (by omega)).mono ?_; rintro e w2 ⟨a2, cap2, rfl, hS2, h2⟩; replace h2 : Ex [] W w2 := Ex.trans exI (h2.ex _))
  refine xF9 (fun X => Ex [] w2 X /\ X.heap[w2.heap.size]? = some (.cells #[.slice a p.lots.length cap, .int .i64 p.mass.lo, .int .i64 p.mass.hi, .int .i64 p.target.a.lo, .int .i64 p.target.a.hi, .int .i64 p.target.b.lo, .int .i64 p.target.b.hi, .int .i64 p.target.c.lo, .int .i64 p.target.c.hi, .slice a2 (xBG p).length cap2] 151 (0, 0))) ⟨by (exact exI), xAq _ _⟩ (fun X hX => ?_);obtain ⟨hX, hT⟩ := hX;obtain ⟨bt, hbt⟩ : ∃ b, b = w2.heap.size := ⟨_, rfl⟩;rw [<- hbt] at hT ⊢;have h2s := h2.size;have hbt0 : W.heap.size <= bt := by omega
  clear hbt;have hWX : Ex [] W X := h2.trans hX;have hwX : Ex [] w X := hr0.trans hWX;have hrX : Ex [] X X := Ex.refl _ _;have t0 := xAp (S := []) hT (by simp) 0 rfl;have t1 := xAp (S := []) hT (by simp) 1 rfl;have t2 := xAp (S := []) hT (by simp) 2 rfl;have t3 := xAp (S := []) hT (by simp) 3 rfl;have t4 := xAp (S := []) hT (by simp) 4 rfl;have t5 := xAp (S := []) hT (by simp) 5 rfl;have t6 := xAp (S := []) hT (by simp) 6 rfl;have t7 := xAp (S := []) hT (by simp) 7 rfl;have t8 := xAp (S := []) hT (by simp) 8 rfl;have t9 := xAp (S := []) hT (by simp) 9 rfl;replace f1_0 := fun w' (h : Ex [] X w') => f1_0 w' (hWX.trans h);replace z1_0 := fun w' (h : Ex [] X w') => z1_0 w' (hWX.trans h);replace f2_0 := fun w' (h : Ex [] X w') => f2_0 w' (hWX.trans h);replace z2_0 := fun w' (h : Ex [] X w') => z2_0 w' (hWX.trans h);have hsX := hs.ext hwX;have hSX := hS2.ext hX;clear hS2 h1 h2 hX f0_0 f0_1 f0_2 f0_3 f0_4 f0_5 f0_6 f0_7 f0_8;cases hm : xT1 p
  case true =>
   go_wp2_with (go_at_call 42; refine (many_c p a cap a2 (xBG p).length cap2 _ hsX).mono ?_; rintro e w1 ⟨rfl, h1⟩; replace h1 : Ex [] X w1 := Ex.trans exI (h1.ex _))
   (try simp only [Exit.inBlock, Exit.then])
   refine xN9 (fun X => Ext w X /\ X.heap[w.heap.size + 1]? = some (.cells #[.slice none 0 0] 45 (0, 0)) /\ X.heap[w.heap.size + 1 + 1]? = some (.cells #[.int .i64 0] 3 (0, 0))) ⟨by (repeat (with_reducible first | exact Ex.refl _ _ | assumption | exact Ex.trans hwX (by assumption) | exact Ex.mono (by assumption) (by simp; done) | refine Ex.alloc ?_ _ | refine Ex.drew ?_ | refine Ex.drewN ?_ _ | refine Ex.setCell ?_ (by first | (left; simp; done) | (right; simp; done) | (right; simp; omega)) _ | refine Ex.trans ?_ (by assumption))), xAu (xAF (h1.heap (by simp) (hWX.heap (by simp) hB1'.out)) 0 _) (by omega), xAF (xAu (h1.heap (by simp) (hWX.heap (by simp) hB2'.out)) (by omega)) 0 _⟩ (fun X hX => ?_)
   obtain ⟨hX1, hX2, hX3⟩ := hX;have x2 := xAb hX2 0 rfl;have x3 := xAb hX3 0 rfl;refine xMB (v := .tuple #[.slice none 0 0, .int .i64 0, .int .i64 8]) (by simp [results, Tryz.results18, go_sem, x2, x3]) rfl ⟨none, 0, by simp [xEa, xOP, stL, stC, hq'.out, hm], by rw [show stL (xEa p) = [] from by simp [xEa, stL, hq'.out, hm]]; exact Own.nil _, hX1⟩
  case false =>
   have hon := Lib.hid (xTH p)
   go_upto_region 8 with (go_at_call 42; refine (many_c p a cap a2 (xBG p).length cap2 _ hsX).mono ?_; rintro e w1 ⟨rfl, h1⟩; replace h1 : Ex [] X w1 := Ex.trans exI (h1.ex _))
   refine xF9 (fun Y => Ex [] X Y /\ ∃ bf, bf = w1.heap.size /\ Y.heap[bf]? = some (.cells #[.bool false] 4 (0, 0))) ⟨by (exact exI), _, rfl, xAq _ _⟩ (fun Y hY => ?_);obtain ⟨hXY, bf, hbf, hF⟩ := hY;rw [<- hbf];have h1s := h1.size;have hbf0 : X.heap.size <= bf := by omega
   clear hbf h1
   go_wp2_with (go_at_call 43; refine (xVj a2 p a cap cap2 (xBG p) _).mono ?_; rintro e w4 ⟨rfl, h4, hT4⟩; have h4s := h4.size)
   have hXs := hwX.size;have hYs := hXY.size;have hYf := lt_of_block hF;have hT4' := lt_of_block hT4;have hwV : Ex [] w w4 := hwX.trans (hXY.trans h4);have hXV : Ex [] X w4 := hXY.trans h4;have hB1X := hWX.heap (by simp) hB1'.out;have hB2X := hWX.heap (by simp) hB2'.out;have hB1V := hXV.heap (by simp) hB1X;have hB2V := hXV.heap (by simp) hB2X;have hFV := h4.heap (by simp) hF;have hTV := hXV.heap (by simp) hT;have hsV := hs.ext hwV;have hSV := hSX.ext hXV;have hlotb : 0 < p.lots.length -> ∀ b, a = some b -> b.block < w.heap.size := fun h0 b hb => by
    obtain ⟨b', off, hb', hlt, _⟩ := hs.cells h0; rw [hb] at hb'; cases hb'; exact hlt
   have honeb : 0 < (xBG p).length -> ∀ b, a2 = some b -> b.block < X.heap.size /\ b.block ≠ w.heap.size + 1 /\ b.block ≠ w.heap.size + 1 + 1 := fun h0 b hb =>
    ⟨by obtain ⟨b', off, hb', hlt, _⟩ := hSX.cells h0; rw [hb] at hb'; cases hb'; exact hlt, hSX.not_one h0 hb hB1X, hSX.not_one h0 hb hB2X⟩
   have hV1 := lt_of_block hB1V;have hV2 := lt_of_block hB2V;have hVf := lt_of_block hFV;have hVt := lt_of_block hTV;have hbtX := lt_of_block hT;have hSBv : ∀ x ∈ [w.heap.size + 1, w.heap.size + 1 + 1, bf], x < w4.heap.size := fun x hx => by
    simp only [List.mem_cons, List.not_mem_nil, or_false] at hx; omega
   clear hr0 hr hWX hwX hrX hXY h4 f1_0 f2_0 z1_0 z2_0 hB1X hB2X hB1' hB2' hF hT t0 t1 t2 t3 t4 t5 t6 t7 t8 t9;refine xTf (α := List Int × Mar) (gf := 110) (lb := #[.pointer (some ⟨Y.heap.size, 0, none⟩)]) rfl (fun _ _ => rfl) (fun γ x => #[.slice (some ⟨γ, 0, none⟩) p.lots.length p.lots.length, .agg #[.int .i64 x.2.m0, .int .i64 x.2.m1, .int .i64 x.2.m2, .int .i64 x.2.m3, .int .i64 x.2.m4, .int .i64 x.2.m5, .int .i64 x.2.m6, .int .i64 x.2.m7]]) (fun _ _ => rfl) (xCb p) [w.heap.size + 1, w.heap.size + 1 + 1, bf] hSBv
    (fun γ pre W => Ex [w.heap.size + 1, w.heap.size + 1 + 1, bf] w4 W /\ (∃ ac cc, W.heap[w.heap.size + 1]? = some (.cells #[.slice ac (stL (xA5 p.lots pre)).length cc] 45 (0, 0)) /\ Own 3 1 intCells (w4.heap.size + 2) W (.slice ac (stL (xA5 p.lots pre)).length cc) (stL (xA5 p.lots pre)) /\ (∀ b, ac = some b -> w4.heap.size + 2 <= b.block /\ b.block ≠ γ)) /\ W.heap[w.heap.size + 1 + 1]? = some (.cells #[.int .i64 (stC (xA5 p.lots pre))] 3 (0, 0)) /\ W.heap[bf]? = some (.cells #[.bool (xA5 p.lots pre).isSome] 4 (0, 0)))
    (fun γ x W => (x.1.length = p.lots.length /\ γ < W.heap.size) /\ SlI W (some ⟨γ, 0, none⟩) p.lots.length x.1)
    (fun γ x b W => ∃ bm, b = { tmps := #[.agg #[.slice a p.lots.length cap, .int .i64 p.mass.lo, .int .i64 p.mass.hi, .int .i64 p.target.a.lo, .int .i64 p.target.a.hi, .int .i64 p.target.b.lo, .int .i64 p.target.b.hi, .int .i64 p.target.c.lo, .int .i64 p.target.c.hi], .pointer (some ⟨w.heap.size, 0, none⟩), .pointer (some ⟨w.heap.size + 1, 0, none⟩), .pointer (some ⟨w.heap.size + 1 + 1, 0, none⟩), .int .i64 0, .int .i64 ((xBM p)), .pointer (some ⟨bt, 0, none⟩), .pointer (some ⟨bf, 0, none⟩), .slice (some ⟨γ, 0, none⟩) p.lots.length p.lots.length, .pointer (some ⟨bm, 0, none⟩), undef, .agg #[.slice a p.lots.length cap, .int .i64 p.mass.lo, .int .i64 p.mass.hi, .int .i64 p.target.a.lo, .int .i64 p.target.a.hi, .int .i64 p.target.b.lo, .int .i64 p.target.b.hi, .int .i64 p.target.c.lo, .int .i64 p.target.c.hi], .int .i64 ((xBM p)), .int .i64 ((xBM p)), .bool false, undef, .agg #[.slice a p.lots.length cap, .int .i64 p.mass.lo, .int .i64 p.mass.hi, .int .i64 p.target.a.lo, .int .i64 p.target.a.hi, .int .i64 p.target.b.lo, .int .i64 p.target.b.hi, .int .i64 p.target.c.lo, .int .i64 p.target.c.hi], .agg #[.slice a p.lots.length cap, .int .i64 p.mass.lo, .int .i64 p.mass.hi, .int .i64 p.target.a.lo, .int .i64 p.target.a.hi, .int .i64 p.target.b.lo, .int .i64 p.target.b.hi, .int .i64 p.target.c.lo, .int .i64 p.target.c.hi, .slice a2 (xBG p).length cap2], .agg #[.slice a p.lots.length cap, .int .i64 p.mass.lo, .int .i64 p.mass.hi, .int .i64 p.target.a.lo, .int .i64 p.target.a.hi, .int .i64 p.target.b.lo, .int .i64 p.target.b.hi, .int .i64 p.target.c.lo, .int .i64 p.target.c.hi, .slice a2 (xBG p).length cap2], .bool false, .agg #[.slice a p.lots.length cap, .int .i64 p.mass.lo, .int .i64 p.mass.hi, .int .i64 p.target.a.lo, .int .i64 p.target.a.hi, .int .i64 p.target.b.lo, .int .i64 p.target.b.hi, .int .i64 p.target.c.lo, .int .i64 p.target.c.hi, .slice a2 (xBG p).length cap2], .func (.func 110) #[] #[.pointer (some ⟨Y.heap.size, 0, none⟩)], .slice (some ⟨γ, 0, none⟩) p.lots.length p.lots.length, .agg #[.int .i64 x.2.m0, .int .i64 x.2.m1, .int .i64 x.2.m2, .int .i64 x.2.m3, .int .i64 x.2.m4, .int .i64 x.2.m5, .int .i64 x.2.m6, .int .i64 x.2.m7], undef, undef, undef, undef, undef, undef, undef, undef, undef, undef, undef, undef, undef, undef, undef, undef, undef, undef, undef, undef, undef, undef], defers := [] } /\ W.heap[bm]? = some (.cells #[.int .i64 x.2.m0, .int .i64 x.2.m1, .int .i64 x.2.m2, .int .i64 x.2.m3, .int .i64 x.2.m4, .int .i64 x.2.m5, .int .i64 x.2.m6, .int .i64 x.2.m7] 156 (0, 0)) /\ w4.heap.size + 2 <= bm)
    ?_ ?_ ?_ ?_ ?_ ?_ ?_ ?_ ?_
   ·rintro γ pre W W' ⟨h1, ⟨ac, cc, h2, h3, h4⟩, h5, h6⟩ hx
    exact ⟨h1.trans_fresh hx (by simp), ⟨ac, cc, hx.heap (by simp; omega) h2, h3.ex hx (fun gg hgg => by obtain ⟨b, hb, rfl⟩ := ownB hgg; have := h4 b hb; simp; omega), h4⟩, hx.heap (by simp; omega) h5, hx.heap (by simp; omega) h6⟩
   ·rintro γ x W W' hγ ⟨h1, h2⟩ hx
    exact ⟨⟨h1.1, Nat.lt_of_lt_of_le h1.2 hx.size⟩, h2.ex0 hx (fun h0 b hb => by cases hb; simp; omega)⟩
   ·rintro γ x b W W' ⟨bm, h1, h2, h3⟩ hx
    exact ⟨bm, h1, hx.heap (by simp; omega) h2, h3⟩
   ·intro γ W hγ hx;exact ⟨hx.ex _, ⟨none, 0, hx.heap (by simp) hB1V, Own.nil _, fun b hb => by cases hb⟩, hx.heap (by simp) hB2V, hx.heap (by simp) hFV⟩
   ·rintro γ pre W W' hγ ⟨h1, ⟨ac, cc, h2, h3, h4⟩, h5, h6⟩ hx
    exact ⟨h1.trans_fresh hx (by simp; omega), ⟨ac, cc, hx.heap (by simp; omega) h2, h3.ex hx (fun gg hgg => by obtain ⟨b, hb, rfl⟩ := ownB hgg; have := h4 b hb; simp; exact this.2), h4⟩, hx.heap (by simp; omega) h5, hx.heap (by simp; omega) h6⟩
   ·intro W1 J hx1 hs1 hJ0 hJE hY;exact xRP p a cap a2 cap2 (xBG p) hcnt (by omega) hon (w4.heap.size + 1) Y.heap.size ((w4.heap.size + 1) :: [w.heap.size + 1, w.heap.size + 1 + 1, bf]) J W1 (hx1.heap (by simp) hT4)
     (by simp; omega) (fun x hx => by simp only [List.mem_cons, List.not_mem_nil, or_false] at hx; omega) (hsV.ext hx1) (hSV.ext hx1)
     (fun h0 b hb => by have := hlotb h0 b hb; simp; omega) (fun h0 b hb => by have := honeb h0 b hb; simp; omega) hJ0 hJE
     (fun g hg pre c m W hj hc hsl => hY g hg pre (c, m) W hj ⟨hc, hsl⟩)
   ·rintro γ pre x W hγ hWs hi hc
    gi_wp2
    exact ⟨(Ex.refl _ _).alloc _, W.heap.size, rfl, xAq _ _, by omega⟩
   ·rintro γ pre x b W hγ ⟨h1, ⟨ac, cc, h2, h3, h4⟩, h5, h6⟩ ⟨⟨hxl, hγlt⟩, hxs⟩ ⟨bm, rfl, hbm, hbm2⟩
    obtain ⟨xc, xm⟩ := x;simp only at hxl hxs hbm hγlt;have hrW : Ex [] W W := Ex.refl _ _;have hTW := h1.heap (by simp; omega) hTV;have t0 := xAp (S := []) hTW (by simp) 0 rfl;have t1 := xAp (S := []) hTW (by simp) 1 rfl;have t2 := xAp (S := []) hTW (by simp) 2 rfl;have t3 := xAp (S := []) hTW (by simp) 3 rfl;have t4 := xAp (S := []) hTW (by simp) 4 rfl;have t5 := xAp (S := []) hTW (by simp) 5 rfl;have t6 := xAp (S := []) hTW (by simp) 6 rfl;have t7 := xAp (S := []) hTW (by simp) 7 rfl;have t8 := xAp (S := []) hTW (by simp) 8 rfl;have t9 := xAp (S := []) hTW (by simp) 9 rfl;have m0 := xAp (S := []) hbm (by simp) 0 rfl;have m1 := xAp (S := []) hbm (by simp) 1 rfl;have m2 := xAp (S := []) hbm (by simp) 2 rfl;have m3 := xAp (S := []) hbm (by simp) 3 rfl;have m4 := xAp (S := []) hbm (by simp) 4 rfl;have m5 := xAp (S := []) hbm (by simp) 5 rfl;have m6 := xAp (S := []) hbm (by simp) 6 rfl;have m7 := xAp (S := []) hbm (by simp) 7 rfl;have g1 := xAp (S := []) h2 (by simp) 0 rfl;have g2 := xAp (S := []) h5 (by simp) 0 rfl;have g3 := xAp (S := []) h6 (by simp) 0 rfl;have q1 := xDY (S := []) h2 (by simp) 0;have q2 := xDY (S := []) h5 (by simp) 0;have q3 := xDY (S := []) h6 (by simp) 0;have hsW := hsV.ex0 h1 (fun h0 b hb => by have := hlotb h0 b hb; simp; omega);have hcost : ∀ w', Ex [] W w' -> Calls Tryz.prog 44 #[.agg #[.slice a p.lots.length cap, .int .i64 p.mass.lo, .int .i64 p.mass.hi, .int .i64 p.target.a.lo, .int .i64 p.target.a.hi, .int .i64 p.target.b.lo, .int .i64 p.target.b.hi, .int .i64 p.target.c.lo, .int .i64 p.target.c.hi, .slice a2 (xBG p).length cap2], .slice (some ⟨γ, 0, none⟩) p.lots.length p.lots.length] w' (Ret (.int .i64 (xGF p.lots xc)) w') := fun w' h => by
     have h0 := cost_c p a cap a2 (xBG p).length cap2 xc (some ⟨γ, 0, none⟩) p.lots.length w' (hsW.ext h) (hxs.ext h) (by omega);rw [hxl] at h0; exact h0
    have hclone : ∀ w', Ex [] W w' -> Calls Tryz.prog 46 #[.slice (some ⟨γ, 0, none⟩) p.lots.length p.lots.length] w' (fun e w'' => ∃ a' c', e = .returned (.slice a' p.lots.length c') /\ Own 3 1 intCells w'.heap.size w'' (.slice a' p.lots.length c') xc /\ Ext w' w'') := fun w' h => by
     have h0 := xXG (some ⟨γ, 0, none⟩) p.lots.length xc w' (hxs.ext h) (by omega);rw [hxl] at h0; exact h0
    have hbmW := lt_of_block hbm;have hxl' := Lib.hid hxl; clear hxl;have hTW' := Lib.hid hTW; clear hTW hbm;have hsn := xOO p.lots pre (xc, xm);obtain ⟨st, hst⟩ : ∃ st, st = xA5 p.lots pre := ⟨_, rfl⟩;rw [<- hst] at h2 h3 h5 h6 g1 g2 g3 hsn;have hsn' := Lib.hid hsn; clear hsn hst;have h2' := Lib.hid h2; have h5' := Lib.hid h5; have h6' := Lib.hid h6; clear h2 h5 h6;have same : ∀ W', Ex [] W W' -> xAT p.lots st (xc, xm) = st -> Exit.normal = Exit.normal /\ (Ex [w.heap.size + 1, w.heap.size + 1 + 1, bf] w4 W' /\ (∃ ac cc, W'.heap[w.heap.size + 1]? = some (.cells #[.slice ac (stL (xA5 p.lots (pre ++ [(xc, xm)]))).length cc] 45 (0, 0)) /\ Own 3 1 intCells (w4.heap.size + 2) W' (.slice ac (stL (xA5 p.lots (pre ++ [(xc, xm)]))).length cc) (stL (xA5 p.lots (pre ++ [(xc, xm)]))) /\ (∀ b, ac = some b -> w4.heap.size + 2 <= b.block /\ b.block ≠ γ)) /\ W'.heap[w.heap.size + 1 + 1]? = some (.cells #[.int .i64 (stC (xA5 p.lots (pre ++ [(xc, xm)])))] 3 (0, 0)) /\ W'.heap[bf]? = some (.cells #[.bool (xA5 p.lots (pre ++ [(xc, xm)])).isSome] 4 (0, 0))) /\ Ex [w.heap.size + 1, w.heap.size + 1 + 1, bf] W W' := fun W' hx he => by
     rw [hsn'.out, he];exact ⟨rfl, ⟨h1.trans (hx.ex _), ⟨ac, cc, hx.heap (by simp) h2'.out, h3.ext hx, h4⟩, hx.heap (by simp) h5'.out, hx.heap (by simp) h6'.out⟩, hx.ex _⟩
    have done : ∀ w7 a' c', Ex [] W w7 -> Own 3 1 intCells W.heap.size w7 (.slice a' p.lots.length c') xc -> xAT p.lots st (xc, xm) = some (xc, xGF p.lots xc) -> ∀ W', W' = ((w7.setCell ⟨w.heap.size + 1, 0, none⟩ (.slice a' p.lots.length c')).setCell ⟨w.heap.size + 1 + 1, 0, none⟩ (.int .i64 (xGF p.lots xc))).setCell ⟨bf, 0, none⟩ (.bool true) -> Exit.normal = Exit.normal /\ (Ex [w.heap.size + 1, w.heap.size + 1 + 1, bf] w4 W' /\ (∃ ac cc, W'.heap[w.heap.size + 1]? = some (.cells #[.slice ac (stL (xA5 p.lots (pre ++ [(xc, xm)]))).length cc] 45 (0, 0)) /\ Own 3 1 intCells (w4.heap.size + 2) W' (.slice ac (stL (xA5 p.lots (pre ++ [(xc, xm)]))).length cc) (stL (xA5 p.lots (pre ++ [(xc, xm)]))) /\ (∀ b, ac = some b -> w4.heap.size + 2 <= b.block /\ b.block ≠ γ)) /\ W'.heap[w.heap.size + 1 + 1]? = some (.cells #[.int .i64 (stC (xA5 p.lots (pre ++ [(xc, xm)])))] 3 (0, 0)) /\ W'.heap[bf]? = some (.cells #[.bool (xA5 p.lots (pre ++ [(xc, xm)])).isSome] 4 (0, 0))) /\ Ex [w.heap.size + 1, w.heap.size + 1 + 1, bf] W W' := fun w7 a' c' hx hO he W' hW' => by
     have hx7 : Ex [w.heap.size + 1, w.heap.size + 1 + 1, bf] w7 W' := by
      rw [hW'];exact (((Ex.refl _ _).setCell (.inl (by simp)) _).setCell (.inl (by simp)) _).setCell (.inl (by simp)) _
     have e2 := hx.heap (by simp) h2'.out;have e5 := hx.heap (by simp) h5'.out;have e6 := hx.heap (by simp) h6'.out;rw [hsn'.out, he];have hbs : ∀ b, a' = some b -> W.heap.size <= b.block := fun b hb => hO.base_le (by rw [hb]; rfl);have hz4 := h1.size;refine ⟨rfl, ⟨h1.trans ((hx.ex _).trans hx7), ⟨a', c', ?_, ?_, ?_⟩, ?_, ?_⟩, (hx.ex _).trans hx7⟩
     ·rw [hW']; simp only [stL]; rw [hxl'.out]; exact xAu (xAu (xAF e2 0 _) (by omega)) (by omega)
     ·have hO2 := (hO.mono (b' := w4.heap.size + 2) (by omega)).ex hx7 (fun gg hgg => by obtain ⟨b, hb, rfl⟩ := ownB hgg; have := hbs b hb; simp; omega);rw [<- hxl'.out] at hO2;exact hO2
     ·intro b hb;have := hbs b hb; omega
     ·rw [hW']; exact xAu (xAF (xAu e5 (by omega)) 0 _) (by omega)
     ·rw [hW']; exact xAF (xAu (xAu e6 (by omega)) (by omega)) 0 _
    have hsz4 := h1.size;clear h2' h5' h6'
    cases st with
    | none =>
     simp only [stL, stC, Option.isSome_none, List.length_nil] at g1 g2 g3;by_cases hb1 : xIY xm < 0
     ·have he : xAT p.lots none (xc, xm) = some (xc, xGF p.lots xc) := by simp [xAT, hb1]
      have done' := Lib.hid (done · · · · · he); clear done same he
      gi_wp2_with (first | (refine ⟨trivial, ?_⟩; gi_at_call 44; refine (CallsIn.inRound _ (callsIn_wide.2 (hcost _ exI))).mono ?_; rintro e w5 ⟨rfl, hx5⟩; replace hx5 : Ex [] W w5 := Ex.trans exI hx5) | (refine ⟨trivial, ?_⟩; gi_at_call 45; refine (CallsIn.inRound _ (callsIn_wide.2 (xF3 xm _))).mono ?_; rintro e w6 ⟨rfl, hx6⟩; replace hx6 : Ex [] W w6 := Ex.trans exI hx6) | (refine ⟨trivial, ?_⟩; gi_at_call 46; refine (CallsIn.inRound _ (callsIn_wide.2 (hclone _ exI))).mono ?_; rintro e w7 ⟨a7, c7, rfl, hO7, hx7⟩; replace hO7 := hO7.mono (Ex.size (S := []) (w := W) exI); replace hx7 : Ex [] W w7 := Ex.trans exI hx7))
      exact (done'.out _ _ _ hx7 hO7 _ rfl).2
     ·have he : xAT p.lots none (xc, xm) = none := by simp [xAT, hb1]
      have same' := Lib.hid (same · · he); clear same done he
      gi_wp2_with (first | (refine ⟨trivial, ?_⟩; gi_at_call 44; refine (CallsIn.inRound _ (callsIn_wide.2 (hcost _ exI))).mono ?_; rintro e w5 ⟨rfl, hx5⟩; replace hx5 : Ex [] W w5 := Ex.trans exI hx5) | (refine ⟨trivial, ?_⟩; gi_at_call 45; refine (CallsIn.inRound _ (callsIn_wide.2 (xF3 xm _))).mono ?_; rintro e w6 ⟨rfl, hx6⟩; replace hx6 : Ex [] W w6 := Ex.trans exI hx6) | (refine ⟨trivial, ?_⟩; gi_at_call 46; refine (CallsIn.inRound _ (callsIn_wide.2 (hclone _ exI))).mono ?_; rintro e w7 ⟨a7, c7, rfl, hO7, hx7⟩; replace hO7 := hO7.mono (Ex.size (S := []) (w := W) exI); replace hx7 : Ex [] W w7 := Ex.trans exI hx7))
      exact (same'.out _ hx6).2
    | some s =>
     simp only [stL, stC, Option.isSome_some] at g1 g2 g3;by_cases hb1 : xIY xm < 0
     ·by_cases hb2 : xGF p.lots xc < s.2
      ·have he : xAT p.lots (some s) (xc, xm) = some (xc, xGF p.lots xc) := by simp [xAT, hb1, hb2]
       have done' := Lib.hid (done · · · · · he); clear done same he
       gi_wp2_with (first | (refine ⟨trivial, ?_⟩; gi_at_call 44; refine (CallsIn.inRound _ (callsIn_wide.2 (hcost _ exI))).mono ?_; rintro e w5 ⟨rfl, hx5⟩; replace hx5 : Ex [] W w5 := Ex.trans exI hx5) | (refine ⟨trivial, ?_⟩; gi_at_call 45; refine (CallsIn.inRound _ (callsIn_wide.2 (xF3 xm _))).mono ?_; rintro e w6 ⟨rfl, hx6⟩; replace hx6 : Ex [] W w6 := Ex.trans exI hx6) | (refine ⟨trivial, ?_⟩; gi_at_call 46; refine (CallsIn.inRound _ (callsIn_wide.2 (hclone _ exI))).mono ?_; rintro e w7 ⟨a7, c7, rfl, hO7, hx7⟩; replace hO7 := hO7.mono (Ex.size (S := []) (w := W) exI); replace hx7 : Ex [] W w7 := Ex.trans exI hx7))
       exact (done'.out _ _ _ hx7 hO7 _ rfl).2
      ·have he : xAT p.lots (some s) (xc, xm) = some s := by simp [xAT, hb1, hb2]
       have same' := Lib.hid (same · · he); clear same done he
       gi_wp2_with (first | (refine ⟨trivial, ?_⟩; gi_at_call 44; refine (CallsIn.inRound _ (callsIn_wide.2 (hcost _ exI))).mono ?_; rintro e w5 ⟨rfl, hx5⟩; replace hx5 : Ex [] W w5 := Ex.trans exI hx5) | (refine ⟨trivial, ?_⟩; gi_at_call 45; refine (CallsIn.inRound _ (callsIn_wide.2 (xF3 xm _))).mono ?_; rintro e w6 ⟨rfl, hx6⟩; replace hx6 : Ex [] W w6 := Ex.trans exI hx6) | (refine ⟨trivial, ?_⟩; gi_at_call 46; refine (CallsIn.inRound _ (callsIn_wide.2 (hclone _ exI))).mono ?_; rintro e w7 ⟨a7, c7, rfl, hO7, hx7⟩; replace hO7 := hO7.mono (Ex.size (S := []) (w := W) exI); replace hx7 : Ex [] W w7 := Ex.trans exI hx7))
       exact (same'.out _ hx6).2
     ·have he : xAT p.lots (some s) (xc, xm) = some s := by simp [xAT, hb1]
      have same' := Lib.hid (same · · he); clear same done he
      gi_wp2_with (first | (refine ⟨trivial, ?_⟩; gi_at_call 44; refine (CallsIn.inRound _ (callsIn_wide.2 (hcost _ exI))).mono ?_; rintro e w5 ⟨rfl, hx5⟩; replace hx5 : Ex [] W w5 := Ex.trans exI hx5) | (refine ⟨trivial, ?_⟩; gi_at_call 45; refine (CallsIn.inRound _ (callsIn_wide.2 (xF3 xm _))).mono ?_; rintro e w6 ⟨rfl, hx6⟩; replace hx6 : Ex [] W w6 := Ex.trans exI hx6) | (refine ⟨trivial, ?_⟩; gi_at_call 46; refine (CallsIn.inRound _ (callsIn_wide.2 (hclone _ exI))).mono ?_; rintro e w7 ⟨a7, c7, rfl, hO7, hx7⟩; replace hO7 := hO7.mono (Ex.size (S := []) (w := W) exI); replace hx7 : Ex [] W w7 := Ex.trans exI hx7))
      exact (same'.out _ hx6).2
   ·rintro γ W hγ ⟨h1, ⟨ac, cc, h2, h3, h4⟩, h5, h6⟩ hk
    have hwW : Ex [] w W := hwV.trans_fresh h1 (fun x hx => by simp only [List.mem_cons, List.not_mem_nil, or_false] at hx; right; omega);have hM : xEa p = xA5 p.lots (xCb p) := by simp only [xEa, hq'.out, if_true, hm, Bool.false_eq_true, if_false]
    have hE : xOP p = if (xA5 p.lots (xCb p)).isSome then 0 else 20 := by simp only [xOP, hq'.out, if_true, hm, Bool.false_eq_true, if_false]
    obtain ⟨st, hst⟩ : ∃ st, st = xA5 p.lots (xCb p) := ⟨_, rfl⟩;rw [<- hst] at h2 h3 h5 h6 hM hE;have hM' := Lib.hid hM; have hE' := Lib.hid hE; clear hM hE hst;have hrW : Ex [] W W := Ex.refl _ _;have g1 := xAp (S := []) h2 (by simp) 0 rfl;have g2 := xAp (S := []) h5 (by simp) 0 rfl;have g3 := xAp (S := []) h6 (by simp) 0 rfl;have q1 := xDY (S := []) h2 (by simp) 0;have q2 := xDY (S := []) h5 (by simp) 0;have q3 := xDY (S := []) h6 (by simp) 0;have h2' := Lib.hid h2; have h5' := Lib.hid h5; have hk' := Lib.hid hk; clear h2 h5 h6 hk
    cases st with
    | none =>
     simp only [stL, stC, Option.isSome_none, List.length_nil] at g1 g2 g3
     go_wp2
     (try simp only [Exit.inBlock, Exit.then])
     refine xN9 (fun X => Ex [w.heap.size + 1, w.heap.size + 1 + 1] W X /\ X.heap[w.heap.size + 1]? = some (.cells #[.slice none 0 0] 45 (0, 0)) /\ X.heap[w.heap.size + 1 + 1]? = some (.cells #[.int .i64 0] 3 (0, 0))) ⟨((Ex.refl _ _).setCell (.inl (by simp)) _).setCell (.inl (by simp)) _, xAu (xAF h2'.out 0 _) (by omega), xAF (xAu h5'.out (by omega)) 0 _⟩ (fun X hX => ?_);obtain ⟨hX1, hX2, hX3⟩ := hX;have hkX := hX1.heap (by simp; omega) hk'.out;have x2 := fun w' (h : Ex [w4.heap.size] X w') => h.cell (by simp; omega) (xAb hX2 0 rfl);have x3 := fun w' (h : Ex [w4.heap.size] X w') => h.cell (by simp; omega) (xAb hX3 0 rfl);refine xJG (v := .tuple #[.slice none 0 0, .int .i64 0, .int .i64 20]) rfl hkX (fun w' h => by simp [results, Tryz.results18, go_sem, x2 w' h, x3 w' h]) (fun w' h => ⟨none, 0, by rw [hM'.out, hE'.out]; rfl, by rw [hM'.out]; exact Own.nil _, ?_⟩);exact (hwW.trans_fresh hX1 (fun x hx => by simp only [List.mem_cons, List.not_mem_nil, or_false] at hx; right; omega)).trans_fresh h (fun x hx => by simp only [List.mem_singleton] at hx; right; omega)
    | some s =>
     simp only [stL, stC, Option.isSome_some] at g1 g2 g3
     go_upto_region 16 with fail
     have g1 := fun w' (h : Ex [w.heap.size + 1, w.heap.size + 1 + 1] W w' /\ w'.heap[w.heap.size + 1]? = some (.cells #[.slice ac s.1.length cc] 45 (0, 0)) /\ w'.heap[w.heap.size + 1 + 1]? = some (.cells #[.int .i64 s.2] 3 (0, 0))) => xAb h.2.1 0 rfl;have g2 := fun w' (h : Ex [w.heap.size + 1, w.heap.size + 1 + 1] W w' /\ w'.heap[w.heap.size + 1]? = some (.cells #[.slice ac s.1.length cc] 45 (0, 0)) /\ w'.heap[w.heap.size + 1 + 1]? = some (.cells #[.int .i64 s.2] 3 (0, 0))) => xAb h.2.2 0 rfl;have q1 := fun w' (h : Ex [w.heap.size + 1, w.heap.size + 1 + 1] W w' /\ w'.heap[w.heap.size + 1]? = some (.cells #[.slice ac s.1.length cc] 45 (0, 0)) /\ w'.heap[w.heap.size + 1 + 1]? = some (.cells #[.int .i64 s.2] 3 (0, 0))) => xBv h.2.1 0;have q2 := fun w' (h : Ex [w.heap.size + 1, w.heap.size + 1 + 1] W w' /\ w'.heap[w.heap.size + 1]? = some (.cells #[.slice ac s.1.length cc] 45 (0, 0)) /\ w'.heap[w.heap.size + 1 + 1]? = some (.cells #[.int .i64 s.2] 3 (0, 0))) => xBv h.2.2 0;have hSd : Ex [w.heap.size + 1, w.heap.size + 1 + 1] W W.drew /\ W.drew.heap[w.heap.size + 1]? = some (.cells #[.slice ac s.1.length cc] 45 (0, 0)) /\ W.drew.heap[w.heap.size + 1 + 1]? = some (.cells #[.int .i64 s.2] 3 (0, 0)) := ⟨(Ex.refl _ _).drew, xLC h2'.out, xLC h5'.out⟩;refine xE9 (fun w' => Ex [w.heap.size + 1, w.heap.size + 1 + 1] W w' /\ w'.heap[w.heap.size + 1]? = some (.cells #[.slice ac s.1.length cc] 45 (0, 0)) /\ w'.heap[w.heap.size + 1 + 1]? = some (.cells #[.int .i64 s.2] 3 (0, 0))) [.st [0, 1], .mv 2, .mv 3, .pu [4]] (by kernel_rfl) (by kernel_rfl) hSd ?_;generalize W.drew = W0 at hSd ⊢;refine xKJ (fun K hK => ?_);simp only [pick, List.drop_succ_cons, List.drop_zero, List.take_succ_cons, List.take_zero, List.cons_append, List.nil_append]
     iterate 2 (refine xAP ?_ (by rfl) (fun w' hS' => ?_) ?_; rotate_left; ((try dsimp only at hS'); go_simp; try with_reducible rfl); simp only [Act.put, List.setIfInBounds_toArray, List.set_cons_zero, List.set_cons_succ])
     refine xAW (hK _ ?_);clear hK K;refine xEj (fun K hK => ?_);simp only [pick, List.drop_succ_cons, List.drop_zero, List.take_succ_cons, List.take_zero, List.cons_append, List.nil_append]
     go_wp2_with fail
     have hS1 : Ex [w.heap.size + 1, w.heap.size + 1 + 1] W (W0.setCell ⟨w.heap.size + 1, 0, none⟩ (.slice ac s.1.length cc)) /\ (W0.setCell ⟨w.heap.size + 1, 0, none⟩ (.slice ac s.1.length cc)).heap[w.heap.size + 1]? = some (.cells #[.slice ac s.1.length cc] 45 (0, 0)) /\ (W0.setCell ⟨w.heap.size + 1, 0, none⟩ (.slice ac s.1.length cc)).heap[w.heap.size + 1 + 1]? = some (.cells #[.int .i64 s.2] 3 (0, 0)) := ⟨hSd.1.setCell (.inl (by simp)) _, xAF hSd.2.1 0 _, xAu hSd.2.2 (by omega)⟩;generalize W0.setCell _ _ = W3 at hS1 ⊢;clear hSd
     first | refine hK _ _ hS1 ?_ | refine ⟨rfl, hK _ _ hS1 ?_⟩
     clear hK K;refine xEj (fun K hK => ?_);simp only [pick, List.drop_succ_cons, List.drop_zero, List.take_succ_cons, List.take_zero, List.cons_append, List.nil_append]
     go_wp2_with fail
     have hS2 : Ex [w.heap.size + 1, w.heap.size + 1 + 1] W (W3.setCell ⟨w.heap.size + 1 + 1, 0, none⟩ (.int .i64 s.2)) /\ (W3.setCell ⟨w.heap.size + 1 + 1, 0, none⟩ (.int .i64 s.2)).heap[w.heap.size + 1]? = some (.cells #[.slice ac s.1.length cc] 45 (0, 0)) /\ (W3.setCell ⟨w.heap.size + 1 + 1, 0, none⟩ (.int .i64 s.2)).heap[w.heap.size + 1 + 1]? = some (.cells #[.int .i64 s.2] 3 (0, 0)) := ⟨hS1.1.setCell (.inl (by simp)) _, xAu hS1.2.1 (by omega), xAF hS1.2.2 0 _⟩;generalize W3.setCell _ _ = W5 at hS2 ⊢;clear hS1
     first | refine hK _ _ hS2 ?_ | refine ⟨rfl, hK _ _ hS2 ?_⟩
     clear hK K;refine xGj (fun K hK => ?_);simp only [pick, List.drop_succ_cons, List.drop_zero, List.take_succ_cons, List.take_zero, List.cons_append, List.nil_append]
     iterate 1 (refine xAP ?_ (by rfl) (fun w' hS' => ?_) ?_; rotate_left; ((try dsimp only at hS'); go_simp; try with_reducible rfl); simp only [Act.put, List.setIfInBounds_toArray, List.set_cons_zero, List.set_cons_succ])
     refine xAW (hK _ ?_);clear hK K;refine xKK ?_
     go_wp2
     (try simp only [Exit.inBlock, Exit.then])
     obtain ⟨hX1, hX2, hX3⟩ := hS2;have hkX := hX1.heap (by simp; omega) hk'.out;have x2 := fun w' (h : Ex [w4.heap.size] W5 w') => h.cell (by simp; omega) (xAb hX2 0 rfl);have x3 := fun w' (h : Ex [w4.heap.size] W5 w') => h.cell (by simp; omega) (xAb hX3 0 rfl);have h3' := (h3.mono (b' := w.heap.size) (by omega)).ex hX1 (fun gg hgg => by obtain ⟨b, hb, rfl⟩ := ownB hgg; have := h4 b hb; simp; omega);refine xJG (v := .tuple #[.slice ac s.1.length cc, .int .i64 s.2, .int .i64 0]) rfl hkX (fun w' h => by simp [results, Tryz.results18, go_sem, x2 w' h, x3 w' h]) (fun w' h => ⟨ac, cc, by rw [hM'.out, hE'.out]; rfl, by rw [hM'.out]; exact h3'.ex h (fun gg hgg => by obtain ⟨b, hb, rfl⟩ := ownB hgg; have := h4 b hb; simp; omega), ?_⟩);exact (hwW.trans_fresh hX1 (fun x hx => by simp only [List.mem_cons, List.not_mem_nil, or_false] at hx; right; omega)).trans_fresh h (fun x hx => by simp only [List.mem_singleton] at hx; right; omega)
end
end Go.Proofs.YtnomnijhlbalaaaGreatDoor
