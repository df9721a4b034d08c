/- What prove answers, in plain words. No condition. -/
import Derived.Test.YtojnpaenpaobcaaC17
namespace Go.Proofs.Ytojnpaenpaobcaa
open Go.RowKit

/-- The first lot from k on of which a box has more than one number. -/
def firstFrom (lows highs : List Int) : Nat → Nat → Option Nat
  | 0, _ => none
  | r + 1, k => if (nth lows 0 k == nth highs 0 k) = true then firstFrom lows highs r (k + 1) else some k
theorem firstFrom_step {lows highs : List Int} {k : Nat} (h : k < lows.length) : firstFrom lows highs (lows.length - k) k = if (nth lows 0 k == nth highs 0 k) = true then firstFrom lows highs (lows.length - (k + 1)) (k + 1) else some k := by
  rw [show lows.length - k = (lows.length - (k + 1)) + 1 by omega, firstFrom]
def firstD (lows highs : List Int) : Option Nat := firstFrom lows highs lows.length 0
theorem firstFrom_some {lows highs : List Int} : ∀ (r k i : Nat), firstFrom lows highs r k = some i → k ≤ i ∧ i < k + r ∧ nth lows 0 i ≠ nth highs 0 i
  | 0, _, _, h => by cases h
  | r + 1, k, i, h => by
    rw [firstFrom] at h
    split at h
    · have := firstFrom_some r (k + 1) i h; omega
    · rename_i hne
      cases h
      exact ⟨by omega, by omega, by simpa using hne⟩
def midOf (lows highs : List Int) (i : Nat) : Int := (nth lows 0 i + nth highs 0 i) / 2

/-- The nodes that prove adds for a box, and its answer. -/
def proveM (p : Recipe) (ones : List Mar) : Nat → List Int → List Int → List Split × Bool
  | 0, _, _ => ([], false)
  | n + 1, lows, highs =>
    if 0 ≤ brokenM (greatM p ones lows highs) then ([⟨-1, 0, brokenM (greatM p ones lows highs)⟩], true)
    else match firstD lows highs with
      | none => ([], false)
      | some i =>
        if (proveM p ones n lows (highs.set i (midOf lows highs i))).2 then
          (⟨i, midOf lows highs i, 0⟩ :: ((proveM p ones n lows (highs.set i (midOf lows highs i))).1 ++ (proveM p ones n (lows.set i (wrap64 (midOf lows highs i + 1))) highs).1), (proveM p ones n (lows.set i (wrap64 (midOf lows highs i + 1))) highs).2)
        else (⟨i, midOf lows highs i, 0⟩ :: (proveM p ones n lows (highs.set i (midOf lows highs i))).1, false)

/-- How many charges a box has. -/
def boxN : List Int → List Int → Nat
  | l :: ls, h :: hs => (h - l + 1).toNat * boxN ls hs
  | _, _ => 1
/-- The numbers of a box are in order, and small. -/
def BoxOk (lows highs : List Int) : Prop := ∀ i, i < lows.length → 0 ≤ nth lows 0 i ∧ nth lows 0 i ≤ nth highs 0 i ∧ nth highs 0 i ≤ 1000

theorem nth_zero {α : Type} (x d : α) (xs : List α) : nth (x :: xs) d 0 = x := rfl
theorem nth_succ {α : Type} (x d : α) (xs : List α) (i : Nat) : nth (x :: xs) d (i + 1) = nth xs d i := rfl
theorem BoxOk.tail {l h : Int} {ls hs : List Int} (hb : BoxOk (l :: ls) (h :: hs)) : BoxOk ls hs := fun i hi => by
  have := hb (i + 1) (by simpa using hi)
  simpa [nth_succ] using this
theorem boxN_pos : ∀ {lows highs : List Int}, BoxOk lows highs → 0 < boxN lows highs
  | [], _, _ => by simp [boxN]
  | _ :: _, [], _ => by simp [boxN]
  | l :: ls, h :: hs, hb => by
    have h0 := hb 0 (by simp)
    simp only [nth_zero] at h0
    rw [boxN]
    exact Nat.mul_pos (by omega) (boxN_pos hb.tail)
theorem boxN_cut : ∀ {lows highs : List Int} (i : Nat) (m : Int), lows.length = highs.length → i < lows.length → nth lows 0 i ≤ m → m < nth highs 0 i → boxN lows (highs.set i m) + boxN (lows.set i (m + 1)) highs = boxN lows highs
  | [], _, _, _, _, hi, _, _ => by simp at hi
  | _ :: _, [], _, _, hl, _, _, _ => by simp at hl
  | l :: ls, h :: hs, 0, m, _, _, h1, h2 => by
    simp only [nth_zero] at h1 h2
    simp only [List.set_cons_zero, boxN, ← Nat.add_mul]
    congr 1
    omega
  | l :: ls, h :: hs, i + 1, m, hl, hi, h1, h2 => by
    simp only [nth_succ] at h1 h2
    have := boxN_cut (lows := ls) (highs := hs) i m (by simpa using hl) (by simpa using hi) h1 h2
    simp only [List.set_cons_succ, boxN, ← Nat.mul_add, this]
theorem nth_set {α : Type} (d x : α) : ∀ (xs : List α) (i j : Nat), i < xs.length → nth (xs.set i x) d j = if j = i then x else nth xs d j
  | [], _, _, h => by simp at h
  | y :: ys, 0, 0, _ => rfl
  | y :: ys, 0, j + 1, _ => rfl
  | y :: ys, i + 1, 0, _ => rfl
  | y :: ys, i + 1, j + 1, h => by
    simp only [List.set_cons_succ, nth_succ]
    rw [nth_set d x ys i j (by simpa using h)]
    simp
theorem midOf_in {lows highs : List Int} {i : Nat} (hb : BoxOk lows highs) (hi : i < lows.length) (hne : nth lows 0 i ≠ nth highs 0 i) : nth lows 0 i ≤ midOf lows highs i ∧ midOf lows highs i < nth highs 0 i ∧ wrap64 (midOf lows highs i + 1) = midOf lows highs i + 1 := by
  have := hb i hi
  unfold midOf wrap64
  omega
theorem BoxOk.left {lows highs : List Int} {i : Nat} {m : Int} (hb : BoxOk lows highs) (hl : lows.length = highs.length) (hi : i < lows.length) (h1 : nth lows 0 i ≤ m) (h2 : m < nth highs 0 i) : BoxOk lows (highs.set i m) := fun j hj => by
  have hj' := hb j hj
  rw [nth_set 0 m highs i j (by omega)]
  split
  · rename_i e; subst e; omega
  · exact hj'
theorem BoxOk.right {lows highs : List Int} {i : Nat} {m : Int} (hb : BoxOk lows highs) (hi : i < lows.length) (h1 : nth lows 0 i ≤ m) (h2 : m < nth highs 0 i) : BoxOk (lows.set i (m + 1)) highs := fun j hj => by
  have hj' := hb j (by simpa using hj)
  rw [nth_set 0 (m + 1) lows i j hi]
  split
  · rename_i e; subst e; omega
  · exact hj'
theorem proveM_len (p : Recipe) (ones : List Mar) : ∀ (n : Nat) (lows highs : List Int), lows.length = highs.length → BoxOk lows highs → (proveM p ones n lows highs).1.length + 1 ≤ 2 * boxN lows highs := by
  intro n
  induction n with
  | zero => intro lows highs _ hb; have := boxN_pos hb; simp [proveM]; omega
  | succ n ih =>
    intro lows highs hl hb
    have hp := boxN_pos hb
    rw [proveM]
    split
    · simp; omega
    · split
      · simp; omega
      · rename_i i hi
        obtain ⟨_, h2, h3⟩ := firstFrom_some _ _ _ hi
        simp only [Nat.zero_add] at h2
        obtain ⟨m1, m2, m3⟩ := midOf_in hb h2 h3
        have e := boxN_cut i _ hl h2 m1 m2
        have a1 := ih lows (highs.set i (midOf lows highs i)) (by simpa using hl) (hb.left hl h2 m1 m2)
        have a2 := ih (lows.set i (midOf lows highs i + 1)) highs (by simpa using hl) (hb.right h2 m1 m2)
        rw [m3]
        split
        · simp only [List.length_cons, List.length_append]; omega
        · simp only [List.length_cons]; omega

/-- A slice lies apart from the proof. -/
def Apart (pb : Nat) (v : Value) (w : World) (x : Option Addr) (n : Nat) : Prop := 0 < n → ∀ b, x = some b → b.block < w.heap.size ∧ b.block ≠ pb ∧ v.ownBlock ≠ some b.block
theorem Apart.next {pb n : Nat} {v v' : Value} {w w' : World} {x : Option Addr} (h : Apart pb v w x n) (hs : w.heap.size ≤ w'.heap.size) (hv : ∀ g, v'.ownBlock = some g → v.ownBlock = some g ∨ w.heap.size ≤ g) : Apart pb v' w' x n := fun h0 b hb => by
  obtain ⟨h1, h2, h3⟩ := h h0 b hb
  refine ⟨by omega, h2, fun e => ?_⟩
  rcases hv _ e with h4 | h4
  · exact h3 h4
  · omega
/-- The blocks that are written. -/
def SP (pb : Nat) (v : Value) : List Nat := pb :: v.ownBlock.toList
theorem Apart.notin {pb n : Nat} {v : Value} {w : World} {x : Option Addr} (h : Apart pb v w x n) : 0 < n → ∀ b, x = some b → b.block ∉ SP pb v := fun h0 b hb => by
  obtain ⟨h1, h2, h3⟩ := h h0 b hb
  intro hm
  unfold SP at hm
  simp only [List.mem_cons, Option.mem_toList] at hm
  rcases hm with e | e
  · exact h2 e
  · exact h3 e
theorem Sl.ex0 {α : Type} {k : Nat} {f : α → List Value} {S : List Nat} {w w' : World} {a : Option Addr} {cap : Nat} {xs : List α} (h : Sl k f w a cap xs) (hE : Ex S w w') (hs : 0 < xs.length → ∀ b, a = some b → b.block ∉ S) : Sl k f w' a cap xs :=
  ⟨h.le, h.big, fun h0 => by
    obtain ⟨b, off, ha, hb, hc⟩ := h.cells h0
    exact ⟨b, off, ha, Nat.lt_of_lt_of_le hb hE.size, fun i hi j v hv => hE.cell (hs h0 _ ha) (hc i hi j v hv)⟩⟩
/-- Numbers lie apart from a new proof. -/
theorem Apart.of_int {α : Type} {k : Nat} {f : α → List Value} {w : World} {a : Option Addr} {cap pb : Nat} {xs : List α} (h : Sl k f w a cap xs) (hf : ∀ x : α, ∃ n, (f x)[0]? = some (.int .i64 n)) (hP : w.heap[pb]? = some (.cells #[.slice none 0 0] 53 (0, 0))) : Apart pb (.slice none 0 0) w a xs.length := fun h0 b hb => by
  obtain ⟨b', off, ha, hlt, hc⟩ := h.cells h0
  rw [hb, Option.some.injEq] at ha
  subst ha
  refine ⟨hlt, fun e => ?_, by simp [Value.ownBlock]⟩
  obtain ⟨n, hn⟩ := hf xs[0]
  have h1 := hc 0 h0 0 _ hn
  simp only at e
  subst e
  simp only [World.cell?, hP] at h1
  cases off with
  | zero => simp at h1
  | succ off => simp at h1
theorem SP_lt {pb : Nat} {v : Value} {w : World} (h1 : pb < w.heap.size) (h2 : ∀ g, v.ownBlock = some g → g < w.heap.size) : ∀ x ∈ SP pb v, x < w.heap.size := fun x hx => by
  unfold SP at hx
  simp only [List.mem_cons, Option.mem_toList] at hx
  rcases hx with rfl | e
  · exact h1
  · exact h2 _ e
/-- What prove leaves behind. -/
def ProvePost (p : Recipe) (ones : List Mar) (pb base : Nat) (v : Value) (xs : List Split) (n : Nat) (lows highs : List Int) (w : World) (e : Ending) (w' : World) : Prop :=
  e = .returned (.bool (proveM p ones n lows highs).2) ∧ ∃ v', w'.heap[pb]? = some (.cells #[v'] 53 (0, 0)) ∧ Own 55 3 Split.cells base w' v' (xs ++ (proveM p ones n lows highs).1) ∧ Ex (SP pb v) w w' ∧ (∀ g, v'.ownBlock = some g → v.ownBlock = some g ∨ w.heap.size ≤ g)
attribute [local irreducible] wpYield wpPlan

set_option maxRecDepth 100000 in
set_option maxHeartbeats 16000000 in
theorem prove_leaf_c (p : Recipe) (a : Option Addr) (cap : Nat) (a2 : Option Addr) (cap2 : Nat) (ones : List Mar) (pb : Nat) (hn : p.lots.length ≤ 1000) (ho : ones.length ≤ p.lots.length) (n : Nat) (la ha : Option Addr) (lc hc : Nat) (lows highs : List Int) (v : Value) (xs : List Split) (base : Nat) (w : World)  (hs : Sl 8 Mar.cells w a2 cap2 ones) (hl : SlI w la lc lows) (hh : SlI w ha hc highs) (hel : Hid (lows.length = p.lots.length)) (heh : Hid (highs.length = p.lots.length)) (hbox : BoxOk lows highs) (hP : w.heap[pb]? = some (.cells #[v] 53 (0, 0))) (hO : Own 55 3 Split.cells base w v xs) (hbase : base ≤ w.heap.size) (ha2 : Apart pb v w a2 ones.length) (hla : Apart pb v w la lows.length) (hha : Apart pb v w ha highs.length) (hvp : v.ownBlock ≠ some pb) (hlim : xs.length + 2 * boxN lows highs ≤ 1000000) (hb0 : 0 ≤ brokenM (greatM p ones lows highs)) :
    Calls Try.prog 73 #[.agg #[.slice a p.lots.length cap, .int .i64 p.mass.lo, .int .i64 p.mass.hi, .int .i64 p.target.a.lo, .int .i64 p.target.a.hi, .int .i64 p.target.b.lo, .int .i64 p.target.b.hi, .int .i64 p.target.c.lo, .int .i64 p.target.c.hi, .slice a2 ones.length cap2], .agg #[.slice la lows.length lc, .slice ha highs.length hc], .pointer (some ⟨pb, 0, none⟩)] w (ProvePost p ones pb base v xs (n + 1) lows highs w) := by
  have hgl := hl.big; have hgh := hh.big; have hle1 := hl.le; have hle2 := hh.le
  have hbp := boxN_pos hbox
  have hpb := lt_of_block hP
  obtain ⟨BN, hBN⟩ : ∃ k, k = boxN lows highs := ⟨_, rfl⟩
  rw [← hBN] at hlim hbp
  have hlim' : xs.length + 2 ≤ 1000000 := by omega
  have hBN' := Lib.hid hBN; clear hBN
  go_enter Try.func73, Try.ntmps73
  go_upto_region 1 with (fail)
  refine wp_at (fun W => Ext w W ∧ w.heap.size + 2 = W.heap.size ∧ W.heap[w.heap.size]? = some (.cells #[.slice a p.lots.length cap, .int .i64 p.mass.lo, .int .i64 p.mass.hi, .int .i64 p.target.a.lo, .int .i64 p.target.a.hi, .int .i64 p.target.b.lo, .int .i64 p.target.b.hi, .int .i64 p.target.c.lo, .int .i64 p.target.c.hi, .slice a2 ones.length cap2] 119 (0, 0)) ∧ W.heap[w.heap.size + 1]? = some (.cells #[.slice la lows.length lc, .slice ha highs.length hc] 128 (0, 0))) ⟨by (repeat (with_reducible first | exact Ex.refl _ _ | assumption | exact Ex.mono (by assumption) (by simp; done) | refine Ex.alloc ?_ _ | refine Ex.drew ?_ | refine Ex.drewN ?_ _ | refine Ex.setCell ?_ (by first | (left; simp; done) | (right; simp; done) | (right; simp; omega)) _ | refine Ex.trans ?_ (by assumption))), by simp, blk_alloc (blk_new _ _), by have h := blk_new ((w).alloc (.cells #[.slice a p.lots.length cap, .int .i64 p.mass.lo, .int .i64 p.mass.hi, .int .i64 p.target.a.lo, .int .i64 p.target.a.hi, .int .i64 p.target.b.lo, .int .i64 p.target.b.hi, .int .i64 p.target.c.lo, .int .i64 p.target.c.hi, .slice a2 ones.length cap2] 119 (0, 0))) (.cells #[.slice la lows.length lc, .slice ha highs.length hc] 128 (0, 0)); simpa using h⟩ (fun W hW => ?_)
  obtain ⟨hr0, hsz, hB0, hB1⟩ := hW
  have hr : Ex [] W W := Ex.refl _ _
  have f0_0 := cellE (S := []) hB0 (by first | (simp; done) | (simp; omega)) 0 rfl
  have f0_1 := cellE (S := []) hB0 (by first | (simp; done) | (simp; omega)) 1 rfl
  have f0_2 := cellE (S := []) hB0 (by first | (simp; done) | (simp; omega)) 2 rfl
  have f0_3 := cellE (S := []) hB0 (by first | (simp; done) | (simp; omega)) 3 rfl
  have f0_4 := cellE (S := []) hB0 (by first | (simp; done) | (simp; omega)) 4 rfl
  have f0_5 := cellE (S := []) hB0 (by first | (simp; done) | (simp; omega)) 5 rfl
  have f0_6 := cellE (S := []) hB0 (by first | (simp; done) | (simp; omega)) 6 rfl
  have f0_7 := cellE (S := []) hB0 (by first | (simp; done) | (simp; omega)) 7 rfl
  have f0_8 := cellE (S := []) hB0 (by first | (simp; done) | (simp; omega)) 8 rfl
  have f0_9 := cellE (S := []) hB0 (by first | (simp; done) | (simp; omega)) 9 rfl
  have f1_0 := cellE (S := []) hB1 (by first | (simp; done) | (simp; omega)) 0 rfl
  have f1_1 := cellE (S := []) hB1 (by first | (simp; done) | (simp; omega)) 1 rfl
  clear hB0 hB1
  have hsz' := Nat.le_of_eq hsz.symm; have hsz'' := Nat.le_of_eq hsz; clear hsz
  go_upto_region 3 with (first | (go_at_call 95; refine (greatest_c p a cap a2 cap2 ones la ha lc hc lows highs _ (hs.ext (hr0.trans (by first | (with_reducible assumption) | (repeat (with_reducible first | exact Ex.refl _ _ | assumption | exact Ex.mono (by assumption) (by simp; done) | refine Ex.alloc ?_ _ | refine Ex.drew ?_ | refine Ex.drewN ?_ _ | refine Ex.setCell ?_ (by first | (left; simp; done) | (right; simp; done) | (right; simp; omega)) _ | refine Ex.trans ?_ (by assumption)))))) (hl.ext (hr0.trans (by first | (with_reducible assumption) | (repeat (with_reducible first | exact Ex.refl _ _ | assumption | exact Ex.mono (by assumption) (by simp; done) | refine Ex.alloc ?_ _ | refine Ex.drew ?_ | refine Ex.drewN ?_ _ | refine Ex.setCell ?_ (by first | (left; simp; done) | (right; simp; done) | (right; simp; omega)) _ | refine Ex.trans ?_ (by assumption)))))) (hh.ext (hr0.trans (by first | (with_reducible assumption) | (repeat (with_reducible first | exact Ex.refl _ _ | assumption | exact Ex.mono (by assumption) (by simp; done) | refine Ex.alloc ?_ _ | refine Ex.drew ?_ | refine Ex.drewN ?_ _ | refine Ex.setCell ?_ (by first | (left; simp; done) | (right; simp; done) | (right; simp; omega)) _ | refine Ex.trans ?_ (by assumption)))))) (by have := hel.out; omega) (by have := heh.out; omega)).mono ?_; rintro e w1 ⟨rfl, h1⟩; replace h1 : Ex [] W w1 := Ex.trans (by first | (with_reducible assumption) | (repeat (with_reducible first | exact Ex.refl _ _ | assumption | exact Ex.mono (by assumption) (by simp; done) | refine Ex.alloc ?_ _ | refine Ex.drew ?_ | refine Ex.drewN ?_ _ | refine Ex.setCell ?_ (by first | (left; simp; done) | (right; simp; done) | (right; simp; omega)) _ | refine Ex.trans ?_ (by assumption)))) (h1.ex _)) | (go_at_call 61; refine (broken_c (greatM p ones lows highs) _).mono ?_; rintro e w1 ⟨rfl, h1⟩; replace h1 : Ex [] W w1 := Ex.trans (by first | (with_reducible assumption) | (repeat (with_reducible first | exact Ex.refl _ _ | assumption | exact Ex.mono (by assumption) (by simp; done) | refine Ex.alloc ?_ _ | refine Ex.drew ?_ | refine Ex.drewN ?_ _ | refine Ex.setCell ?_ (by first | (left; simp; done) | (right; simp; done) | (right; simp; omega)) _ | refine Ex.trans ?_ (by assumption)))) (h1.ex _)))
  refine wp_at (fun X => Ext w X ∧ X.heap[pb]? = some (.cells #[v] 53 (0, 0)) ∧ Own 55 3 Split.cells base X v xs) ⟨hr0.trans (by first | (with_reducible assumption) | (repeat (with_reducible first | exact Ex.refl _ _ | assumption | exact Ex.mono (by assumption) (by simp; done) | refine Ex.alloc ?_ _ | refine Ex.drew ?_ | refine Ex.drewN ?_ _ | refine Ex.setCell ?_ (by first | (left; simp; done) | (right; simp; done) | (right; simp; omega)) _ | refine Ex.trans ?_ (by assumption)))), (hr0.trans (by first | (with_reducible assumption) | (repeat (with_reducible first | exact Ex.refl _ _ | assumption | exact Ex.mono (by assumption) (by simp; done) | refine Ex.alloc ?_ _ | refine Ex.drew ?_ | refine Ex.drewN ?_ _ | refine Ex.setCell ?_ (by first | (left; simp; done) | (right; simp; done) | (right; simp; omega)) _ | refine Ex.trans ?_ (by assumption))))).heap (by simp) hP, hO.ext (hr0.trans (by first | (with_reducible assumption) | (repeat (with_reducible first | exact Ex.refl _ _ | assumption | exact Ex.mono (by assumption) (by simp; done) | refine Ex.alloc ?_ _ | refine Ex.drew ?_ | refine Ex.drewN ?_ _ | refine Ex.setCell ?_ (by first | (left; simp; done) | (right; simp; done) | (right; simp; omega)) _ | refine Ex.trans ?_ (by assumption)))))⟩ (fun X hX => ?_)
  obtain ⟨hX, hPX, hOX⟩ := hX
  have px := blk_cell hPX 0 rfl
  have pf := blk_free hPX 0
  have hXs := hX.size
  go_wp2_with (at_builtin; refine wpList_push (base := base) eiSplit Split.len Split.one rfl _ _ rfl v xs (by rfl) (hOX.ext ((Ex.refl _ _).alloc _)) _ ⟨-1, 0, brokenM (greatM p ones lows highs)⟩ (by rfl) (fun j u hu => blk_cell (blk_new _ _) j (by simpa [Split.cells] using hu)) (by omega) (by omega) (by simp; omega) ?_; intro g c2 w2 hO2 hx2 hg2 hgw; have hT2 := hx2.heap (fun hm => hvp (by simpa using hm)) (blk_alloc hPX); have zc := blk_cell hT2 0 rfl; have zf := blk_free hT2 0; have hgp : g ≠ pb := fun e => hg2.elim (fun h => hvp (e ▸ h)) (fun h => by simp at h; omega); clear px pf)
  go_returns
  refine ⟨by rw [proveM, if_pos hb0]; rfl, _, blk_set hT2 0 _, ?_, ?_, ?_⟩
  · rw [show (proveM p ones (n + 1) lows highs).1 = [⟨-1, 0, brokenM (greatM p ones lows highs)⟩] from by rw [proveM, if_pos hb0]]
    refine hO2.ex (S := [pb]) ((Ex.refl _ _).setCell (.inl (by simp)) _) ?_
    intro g' hg'
    simp only [Value.ownBlock, Option.some.injEq] at hg'
    subst hg'
    simp only [List.mem_singleton]
    exact hgp
  · refine Ex.setCell (Ex.trans ((hX.alloc _).mono (by simp)) (hx2.mono ?_)) (.inl (by simp [SP])) _
    intro x hx
    simp only [SP, List.mem_cons]
    exact .inr hx
  · intro g' hg'
    simp only [Value.ownBlock, Option.some.injEq] at hg'
    subst hg'
    rcases hg2 with h | h
    · exact .inl h
    · right; simp at h; omega

set_option maxRecDepth 100000 in
set_option maxHeartbeats 16000000 in
theorem prove_rest_c (p : Recipe) (a : Option Addr) (cap : Nat) (a2 : Option Addr) (cap2 : Nat) (ones : List Mar) (pb : Nat) (hn : p.lots.length ≤ 1000) (ho : ones.length ≤ p.lots.length) (n : Nat) (la ha : Option Addr) (lc hc : Nat) (lows highs : List Int) (v : Value) (xs : List Split) (base : Nat) (w : World)  (hs : Sl 8 Mar.cells w a2 cap2 ones) (hl : SlI w la lc lows) (hh : SlI w ha hc highs) (hel : Hid (lows.length = p.lots.length)) (heh : Hid (highs.length = p.lots.length)) (hbox : BoxOk lows highs) (hP : w.heap[pb]? = some (.cells #[v] 53 (0, 0))) (hO : Own 55 3 Split.cells base w v xs) (hbase : base ≤ w.heap.size) (ha2 : Apart pb v w a2 ones.length) (hla : Apart pb v w la lows.length) (hha : Apart pb v w ha highs.length) (hvp : v.ownBlock ≠ some pb) (hlim : xs.length + 2 * boxN lows highs ≤ 1000000) (hbn : boxN lows highs ≤ n + 1) (ih : ∀ (la ha : Option Addr) (lc hc : Nat) (lows highs : List Int) (v : Value) (xs : List Split) (base : Nat) (w : World) , Sl 8 Mar.cells w a2 cap2 ones → SlI w la lc lows → SlI w ha hc highs → Hid (lows.length = p.lots.length) → Hid (highs.length = p.lots.length) → BoxOk lows highs → w.heap[pb]? = some (.cells #[v] 53 (0, 0)) → Own 55 3 Split.cells base w v xs → base ≤ w.heap.size → Apart pb v w a2 ones.length → Apart pb v w la lows.length → Apart pb v w ha highs.length → v.ownBlock ≠ some pb → xs.length + 2 * boxN lows highs ≤ 1000000 → boxN lows highs ≤ n → Calls Try.prog 73 #[.agg #[.slice a p.lots.length cap, .int .i64 p.mass.lo, .int .i64 p.mass.hi, .int .i64 p.target.a.lo, .int .i64 p.target.a.hi, .int .i64 p.target.b.lo, .int .i64 p.target.b.hi, .int .i64 p.target.c.lo, .int .i64 p.target.c.hi, .slice a2 ones.length cap2], .agg #[.slice la lows.length lc, .slice ha highs.length hc], .pointer (some ⟨pb, 0, none⟩)] w (ProvePost p ones pb base v xs n lows highs w)) (hb0 : ¬ 0 ≤ brokenM (greatM p ones lows highs)) :
    Calls Try.prog 73 #[.agg #[.slice a p.lots.length cap, .int .i64 p.mass.lo, .int .i64 p.mass.hi, .int .i64 p.target.a.lo, .int .i64 p.target.a.hi, .int .i64 p.target.b.lo, .int .i64 p.target.b.hi, .int .i64 p.target.c.lo, .int .i64 p.target.c.hi, .slice a2 ones.length cap2], .agg #[.slice la lows.length lc, .slice ha highs.length hc], .pointer (some ⟨pb, 0, none⟩)] w (ProvePost p ones pb base v xs (n + 1) lows highs w) := by
  have ih' := Lib.hid ih; clear ih
  have hbn' := Lib.hid hbn; clear hbn
  have hb0' := Lib.hid hb0
  have hgl := hl.big; have hgh := hh.big; have hle1 := hl.le; have hle2 := hh.le
  have hbp := boxN_pos hbox
  have hpb := lt_of_block hP
  obtain ⟨BN, hBN⟩ : ∃ k, k = boxN lows highs := ⟨_, rfl⟩
  rw [← hBN] at hlim hbp
  have hlim' : xs.length + 2 ≤ 1000000 := by omega
  have hBN' := Lib.hid hBN; clear hBN
  go_enter Try.func73, Try.ntmps73
  go_upto_region 1 with (fail)
  refine wp_at (fun W => Ext w W ∧ w.heap.size + 2 = W.heap.size ∧ W.heap[w.heap.size]? = some (.cells #[.slice a p.lots.length cap, .int .i64 p.mass.lo, .int .i64 p.mass.hi, .int .i64 p.target.a.lo, .int .i64 p.target.a.hi, .int .i64 p.target.b.lo, .int .i64 p.target.b.hi, .int .i64 p.target.c.lo, .int .i64 p.target.c.hi, .slice a2 ones.length cap2] 119 (0, 0)) ∧ W.heap[w.heap.size + 1]? = some (.cells #[.slice la lows.length lc, .slice ha highs.length hc] 128 (0, 0))) ⟨by (repeat (with_reducible first | exact Ex.refl _ _ | assumption | exact Ex.mono (by assumption) (by simp; done) | refine Ex.alloc ?_ _ | refine Ex.drew ?_ | refine Ex.drewN ?_ _ | refine Ex.setCell ?_ (by first | (left; simp; done) | (right; simp; done) | (right; simp; omega)) _ | refine Ex.trans ?_ (by assumption))), by simp, blk_alloc (blk_new _ _), by have h := blk_new ((w).alloc (.cells #[.slice a p.lots.length cap, .int .i64 p.mass.lo, .int .i64 p.mass.hi, .int .i64 p.target.a.lo, .int .i64 p.target.a.hi, .int .i64 p.target.b.lo, .int .i64 p.target.b.hi, .int .i64 p.target.c.lo, .int .i64 p.target.c.hi, .slice a2 ones.length cap2] 119 (0, 0))) (.cells #[.slice la lows.length lc, .slice ha highs.length hc] 128 (0, 0)); simpa using h⟩ (fun W hW => ?_)
  obtain ⟨hr0, hsz, hB0, hB1⟩ := hW
  have hr : Ex [] W W := Ex.refl _ _
  have f0_0 := cellE (S := []) hB0 (by first | (simp; done) | (simp; omega)) 0 rfl
  have f0_1 := cellE (S := []) hB0 (by first | (simp; done) | (simp; omega)) 1 rfl
  have f0_2 := cellE (S := []) hB0 (by first | (simp; done) | (simp; omega)) 2 rfl
  have f0_3 := cellE (S := []) hB0 (by first | (simp; done) | (simp; omega)) 3 rfl
  have f0_4 := cellE (S := []) hB0 (by first | (simp; done) | (simp; omega)) 4 rfl
  have f0_5 := cellE (S := []) hB0 (by first | (simp; done) | (simp; omega)) 5 rfl
  have f0_6 := cellE (S := []) hB0 (by first | (simp; done) | (simp; omega)) 6 rfl
  have f0_7 := cellE (S := []) hB0 (by first | (simp; done) | (simp; omega)) 7 rfl
  have f0_8 := cellE (S := []) hB0 (by first | (simp; done) | (simp; omega)) 8 rfl
  have f0_9 := cellE (S := []) hB0 (by first | (simp; done) | (simp; omega)) 9 rfl
  have f1_0 := cellE (S := []) hB1 (by first | (simp; done) | (simp; omega)) 0 rfl
  have f1_1 := cellE (S := []) hB1 (by first | (simp; done) | (simp; omega)) 1 rfl
  have hsz' := Nat.le_of_eq hsz.symm; have hsz'' := Nat.le_of_eq hsz; clear hsz
  have hB0' := Lib.hid hB0; have hB1' := Lib.hid hB1; clear hB0 hB1
  go_upto_region 6 with (first | (go_at_call 95; refine (greatest_c p a cap a2 cap2 ones la ha lc hc lows highs _ (hs.ext (hr0.trans (by first | (with_reducible assumption) | (repeat (with_reducible first | exact Ex.refl _ _ | assumption | exact Ex.mono (by assumption) (by simp; done) | refine Ex.alloc ?_ _ | refine Ex.drew ?_ | refine Ex.drewN ?_ _ | refine Ex.setCell ?_ (by first | (left; simp; done) | (right; simp; done) | (right; simp; omega)) _ | refine Ex.trans ?_ (by assumption)))))) (hl.ext (hr0.trans (by first | (with_reducible assumption) | (repeat (with_reducible first | exact Ex.refl _ _ | assumption | exact Ex.mono (by assumption) (by simp; done) | refine Ex.alloc ?_ _ | refine Ex.drew ?_ | refine Ex.drewN ?_ _ | refine Ex.setCell ?_ (by first | (left; simp; done) | (right; simp; done) | (right; simp; omega)) _ | refine Ex.trans ?_ (by assumption)))))) (hh.ext (hr0.trans (by first | (with_reducible assumption) | (repeat (with_reducible first | exact Ex.refl _ _ | assumption | exact Ex.mono (by assumption) (by simp; done) | refine Ex.alloc ?_ _ | refine Ex.drew ?_ | refine Ex.drewN ?_ _ | refine Ex.setCell ?_ (by first | (left; simp; done) | (right; simp; done) | (right; simp; omega)) _ | refine Ex.trans ?_ (by assumption)))))) (by have := hel.out; omega) (by have := heh.out; omega)).mono ?_; rintro e w1 ⟨rfl, h1⟩; replace h1 : Ex [] W w1 := Ex.trans (by first | (with_reducible assumption) | (repeat (with_reducible first | exact Ex.refl _ _ | assumption | exact Ex.mono (by assumption) (by simp; done) | refine Ex.alloc ?_ _ | refine Ex.drew ?_ | refine Ex.drewN ?_ _ | refine Ex.setCell ?_ (by first | (left; simp; done) | (right; simp; done) | (right; simp; omega)) _ | refine Ex.trans ?_ (by assumption)))) (h1.ex _)) | (go_at_call 61; refine (broken_c (greatM p ones lows highs) _).mono ?_; rintro e w1 ⟨rfl, h1⟩; replace h1 : Ex [] W w1 := Ex.trans (by first | (with_reducible assumption) | (repeat (with_reducible first | exact Ex.refl _ _ | assumption | exact Ex.mono (by assumption) (by simp; done) | refine Ex.alloc ?_ _ | refine Ex.drew ?_ | refine Ex.drewN ?_ _ | refine Ex.setCell ?_ (by first | (left; simp; done) | (right; simp; done) | (right; simp; omega)) _ | refine Ex.trans ?_ (by assumption)))) (h1.ex _)))
  go_wp2_with fail
  go_loopg [30] (lows.length) (fun g i wr => ∃ (k : Nat), g = lows.length - k ∧ k ≤ lows.length ∧ i = .int .i64 k ∧ Ex [] W wr ∧ firstD lows highs = firstFrom lows highs (lows.length - k) k)
  case atStart => exact ⟨0, rfl, by omega, rfl, by first | (with_reducible assumption) | (repeat (with_reducible first | exact Ex.refl _ _ | assumption | exact Ex.mono (by assumption) (by simp; done) | refine Ex.alloc ?_ _ | refine Ex.drew ?_ | refine Ex.drewN ?_ _ | refine Ex.setCell ?_ (by first | (left; simp; done) | (right; simp; done) | (right; simp; omega)) _ | refine Ex.trans ?_ (by assumption))), rfl⟩
  case round =>
    clear h1
    obtain ⟨k, rfl, hk, rfl, hE, hi⟩ := hrel
    have hi' := Lib.hid hi; clear hi
    by_cases hlt : k < lows.length
    · have hlt2 : k < highs.length := by have := hel.out; have := heh.out; omega
      have hk0 : (0 : Int) ≤ (k : Int) := by omega
      have hk1 : (k : Int) < (lows.length : Int) := by omega
      have hk2 : (k : Int) < (highs.length : Int) := by omega
      obtain ⟨bl, offl, rfl, hbl', hll⟩ := hl.cells (by omega)
      have hlx : ∀ w', Ex [] W w' → w'.cell? ⟨bl, offl + k, none⟩ = some (.int .i64 (nth lows 0 k)) := fun w' h => by
        have c0 := (hr0.trans h).cell (by simp) (hll k (by omega) 0 _ rfl)
        rwa [Nat.add_zero, Nat.mul_one, nth_eq lows 0] at c0
      clear hll
      obtain ⟨bh, offh, rfl, hbh', hhh⟩ := hh.cells (by omega)
      have hhx : ∀ w', Ex [] W w' → w'.cell? ⟨bh, offh + k, none⟩ = some (.int .i64 (nth highs 0 k)) := fun w' h => by
        have c0 := (hr0.trans h).cell (by simp) (hhh k (by omega) 0 _ rfl)
        rwa [Nat.add_zero, Nat.mul_one, nth_eq highs 0] at c0
      clear hhh
      have hbk := hbox k hlt
      obtain ⟨hbk1, hbk2, hbk3⟩ := hbk
      cases he : (nth lows 0 k == nth highs 0 k)
      case true =>
        go_upto_region 8 with fail
        refine region_plan (fun w' => Ex [] W w') [.pu [0, 2, 5, 7], .st [1, 6], .pu [3, 8], .st [4, 9], .pu [10]] (by kernel_rfl) (by kernel_rfl) (Ex.drew (by first | (with_reducible assumption) | (repeat (with_reducible first | exact Ex.refl _ _ | assumption | exact Ex.mono (by assumption) (by simp; done) | refine Ex.alloc ?_ _ | refine Ex.drew ?_ | refine Ex.drewN ?_ _ | refine Ex.setCell ?_ (by first | (left; simp; done) | (right; simp; done) | (right; simp; omega)) _ | refine Ex.trans ?_ (by assumption))))) ?_
        refine plan_pu (fun K hK => ?_)
        simp only [pick, List.drop_succ_cons, List.drop_zero, List.take_succ_cons, List.take_zero, List.cons_append, List.nil_append]
        iterate 4 (first | (refine wpYield_want ?_ (by rfl) (fun w' hS' => ?_) ?_; rotate_left; ((try dsimp only at hS'); go_simp; try with_reducible rfl); simp only [Act.put, List.setIfInBounds_toArray, List.set_cons_zero, List.set_cons_succ]) | (refine wpYield_skip (by rfl) ?_; simp only [Act.put, List.setIfInBounds_toArray, List.set_cons_zero, List.set_cons_succ]))
        refine wpYield_nil (hK _ ?_)
        clear hK K
        refine plan_st (fun K hK => ?_)
        simp only [pick, List.drop_succ_cons, List.drop_zero, List.take_succ_cons, List.take_zero, List.cons_append, List.nil_append]
        iterate 2 (first | (refine wpYield_want ?_ (by rfl) (fun w' hS' => ?_) ?_; rotate_left; ((try dsimp only at hS'); go_simp; try with_reducible rfl); simp only [Act.put, List.setIfInBounds_toArray, List.set_cons_zero, List.set_cons_succ]) | (refine wpYield_skip (by rfl) ?_; simp only [Act.put, List.setIfInBounds_toArray, List.set_cons_zero, List.set_cons_succ]))
        refine wpYield_nil (hK _ ?_)
        clear hK K
        refine plan_pu (fun K hK => ?_)
        simp only [pick, List.drop_succ_cons, List.drop_zero, List.take_succ_cons, List.take_zero, List.cons_append, List.nil_append]
        iterate 2 (first | (refine wpYield_want ?_ (by rfl) (fun w' hS' => ?_) ?_; rotate_left; ((try dsimp only at hS'); go_simp; try with_reducible rfl); simp only [Act.put, List.setIfInBounds_toArray, List.set_cons_zero, List.set_cons_succ]) | (refine wpYield_skip (by rfl) ?_; simp only [Act.put, List.setIfInBounds_toArray, List.set_cons_zero, List.set_cons_succ]))
        refine wpYield_nil (hK _ ?_)
        clear hK K
        refine plan_st (fun K hK => ?_)
        simp only [pick, List.drop_succ_cons, List.drop_zero, List.take_succ_cons, List.take_zero, List.cons_append, List.nil_append]
        iterate 2 (first | (refine wpYield_want ?_ (by rfl) (fun w' hS' => ?_) ?_; rotate_left; ((try dsimp only at hS'); go_simp; try with_reducible rfl); simp only [Act.put, List.setIfInBounds_toArray, List.set_cons_zero, List.set_cons_succ]) | (refine wpYield_skip (by rfl) ?_; simp only [Act.put, List.setIfInBounds_toArray, List.set_cons_zero, List.set_cons_succ]))
        refine wpYield_nil (hK _ ?_)
        clear hK K
        refine plan_pu (fun K hK => ?_)
        simp only [pick, List.drop_succ_cons, List.drop_zero, List.take_succ_cons, List.take_zero, List.cons_append, List.nil_append]
        iterate 1 (first | (refine wpYield_want ?_ (by rfl) (fun w' hS' => ?_) ?_; rotate_left; ((try dsimp only at hS'); go_simp; try with_reducible rfl); simp only [Act.put, List.setIfInBounds_toArray, List.set_cons_zero, List.set_cons_succ]) | (refine wpYield_skip (by rfl) ?_; simp only [Act.put, List.setIfInBounds_toArray, List.set_cons_zero, List.set_cons_succ]))
        refine wpYield_nil (hK _ ?_)
        clear hK K
        refine plan_nil ?_
        go_wp2_with fail
        go_roundg (lows.length - (k + 1))
        case rel => exact ⟨k + 1, rfl, by omega, by go_num, hE.drew, by rw [hi'.out, firstFrom_step hlt, if_pos he]⟩
        case measure => omega
      case false =>
        go_upto_region 8 with fail
        refine region_plan (fun w' => Ex [] W w') [.pu [0, 2, 5, 7], .st [1, 6], .pu [3, 8], .st [4, 9], .pu [10]] (by kernel_rfl) (by kernel_rfl) (Ex.drew (by first | (with_reducible assumption) | (repeat (with_reducible first | exact Ex.refl _ _ | assumption | exact Ex.mono (by assumption) (by simp; done) | refine Ex.alloc ?_ _ | refine Ex.drew ?_ | refine Ex.drewN ?_ _ | refine Ex.setCell ?_ (by first | (left; simp; done) | (right; simp; done) | (right; simp; omega)) _ | refine Ex.trans ?_ (by assumption))))) ?_
        refine plan_pu (fun K hK => ?_)
        simp only [pick, List.drop_succ_cons, List.drop_zero, List.take_succ_cons, List.take_zero, List.cons_append, List.nil_append]
        iterate 4 (first | (refine wpYield_want ?_ (by rfl) (fun w' hS' => ?_) ?_; rotate_left; ((try dsimp only at hS'); go_simp; try with_reducible rfl); simp only [Act.put, List.setIfInBounds_toArray, List.set_cons_zero, List.set_cons_succ]) | (refine wpYield_skip (by rfl) ?_; simp only [Act.put, List.setIfInBounds_toArray, List.set_cons_zero, List.set_cons_succ]))
        refine wpYield_nil (hK _ ?_)
        clear hK K
        refine plan_st (fun K hK => ?_)
        simp only [pick, List.drop_succ_cons, List.drop_zero, List.take_succ_cons, List.take_zero, List.cons_append, List.nil_append]
        iterate 2 (first | (refine wpYield_want ?_ (by rfl) (fun w' hS' => ?_) ?_; rotate_left; ((try dsimp only at hS'); go_simp; try with_reducible rfl); simp only [Act.put, List.setIfInBounds_toArray, List.set_cons_zero, List.set_cons_succ]) | (refine wpYield_skip (by rfl) ?_; simp only [Act.put, List.setIfInBounds_toArray, List.set_cons_zero, List.set_cons_succ]))
        refine wpYield_nil (hK _ ?_)
        clear hK K
        refine plan_pu (fun K hK => ?_)
        simp only [pick, List.drop_succ_cons, List.drop_zero, List.take_succ_cons, List.take_zero, List.cons_append, List.nil_append]
        iterate 2 (first | (refine wpYield_want ?_ (by rfl) (fun w' hS' => ?_) ?_; rotate_left; ((try dsimp only at hS'); go_simp; try with_reducible rfl); simp only [Act.put, List.setIfInBounds_toArray, List.set_cons_zero, List.set_cons_succ]) | (refine wpYield_skip (by rfl) ?_; simp only [Act.put, List.setIfInBounds_toArray, List.set_cons_zero, List.set_cons_succ]))
        refine wpYield_nil (hK _ ?_)
        clear hK K
        refine plan_st (fun K hK => ?_)
        simp only [pick, List.drop_succ_cons, List.drop_zero, List.take_succ_cons, List.take_zero, List.cons_append, List.nil_append]
        iterate 2 (first | (refine wpYield_want ?_ (by rfl) (fun w' hS' => ?_) ?_; rotate_left; ((try dsimp only at hS'); go_simp; try with_reducible rfl); simp only [Act.put, List.setIfInBounds_toArray, List.set_cons_zero, List.set_cons_succ]) | (refine wpYield_skip (by rfl) ?_; simp only [Act.put, List.setIfInBounds_toArray, List.set_cons_zero, List.set_cons_succ]))
        refine wpYield_nil (hK _ ?_)
        clear hK K
        refine plan_pu (fun K hK => ?_)
        simp only [pick, List.drop_succ_cons, List.drop_zero, List.take_succ_cons, List.take_zero, List.cons_append, List.nil_append]
        iterate 1 (first | (refine wpYield_want ?_ (by rfl) (fun w' hS' => ?_) ?_; rotate_left; ((try dsimp only at hS'); go_simp; try with_reducible rfl); simp only [Act.put, List.setIfInBounds_toArray, List.set_cons_zero, List.set_cons_succ]) | (refine wpYield_skip (by rfl) ?_; simp only [Act.put, List.setIfInBounds_toArray, List.set_cons_zero, List.set_cons_succ]))
        refine wpYield_nil (hK _ ?_)
        clear hK K
        refine plan_nil ?_
        go_upto_region 9 with fail
        refine region_plan (fun w' => Ex [] W w') [.pu [0, 2, 5, 7], .st [1, 6], .pu [3, 8], .st [4, 9], .pu [10, 11, 12]] (by kernel_rfl) (by kernel_rfl) (Ex.drew (by first | (with_reducible assumption) | (repeat (with_reducible first | exact Ex.refl _ _ | assumption | exact Ex.mono (by assumption) (by simp; done) | refine Ex.alloc ?_ _ | refine Ex.drew ?_ | refine Ex.drewN ?_ _ | refine Ex.setCell ?_ (by first | (left; simp; done) | (right; simp; done) | (right; simp; omega)) _ | refine Ex.trans ?_ (by assumption))))) ?_
        refine plan_pu (fun K hK => ?_)
        simp only [pick, List.drop_succ_cons, List.drop_zero, List.take_succ_cons, List.take_zero, List.cons_append, List.nil_append]
        iterate 4 (first | (refine wpYield_want ?_ (by rfl) (fun w' hS' => ?_) ?_; rotate_left; ((try dsimp only at hS'); go_simp; try with_reducible rfl); simp only [Act.put, List.setIfInBounds_toArray, List.set_cons_zero, List.set_cons_succ]) | (refine wpYield_skip (by rfl) ?_; simp only [Act.put, List.setIfInBounds_toArray, List.set_cons_zero, List.set_cons_succ]))
        refine wpYield_nil (hK _ ?_)
        clear hK K
        refine plan_st (fun K hK => ?_)
        simp only [pick, List.drop_succ_cons, List.drop_zero, List.take_succ_cons, List.take_zero, List.cons_append, List.nil_append]
        iterate 2 (first | (refine wpYield_want ?_ (by rfl) (fun w' hS' => ?_) ?_; rotate_left; ((try dsimp only at hS'); go_simp; try with_reducible rfl); simp only [Act.put, List.setIfInBounds_toArray, List.set_cons_zero, List.set_cons_succ]) | (refine wpYield_skip (by rfl) ?_; simp only [Act.put, List.setIfInBounds_toArray, List.set_cons_zero, List.set_cons_succ]))
        refine wpYield_nil (hK _ ?_)
        clear hK K
        refine plan_pu (fun K hK => ?_)
        simp only [pick, List.drop_succ_cons, List.drop_zero, List.take_succ_cons, List.take_zero, List.cons_append, List.nil_append]
        iterate 2 (first | (refine wpYield_want ?_ (by rfl) (fun w' hS' => ?_) ?_; rotate_left; ((try dsimp only at hS'); go_simp; try with_reducible rfl); simp only [Act.put, List.setIfInBounds_toArray, List.set_cons_zero, List.set_cons_succ]) | (refine wpYield_skip (by rfl) ?_; simp only [Act.put, List.setIfInBounds_toArray, List.set_cons_zero, List.set_cons_succ]))
        refine wpYield_nil (hK _ ?_)
        clear hK K
        refine plan_st (fun K hK => ?_)
        simp only [pick, List.drop_succ_cons, List.drop_zero, List.take_succ_cons, List.take_zero, List.cons_append, List.nil_append]
        iterate 2 (first | (refine wpYield_want ?_ (by rfl) (fun w' hS' => ?_) ?_; rotate_left; ((try dsimp only at hS'); go_simp; try with_reducible rfl); simp only [Act.put, List.setIfInBounds_toArray, List.set_cons_zero, List.set_cons_succ]) | (refine wpYield_skip (by rfl) ?_; simp only [Act.put, List.setIfInBounds_toArray, List.set_cons_zero, List.set_cons_succ]))
        refine wpYield_nil (hK _ ?_)
        clear hK K
        refine plan_pu (fun K hK => ?_)
        simp only [pick, List.drop_succ_cons, List.drop_zero, List.take_succ_cons, List.take_zero, List.cons_append, List.nil_append]
        iterate 3 (first | (refine wpYield_want ?_ (by rfl) (fun w' hS' => ?_) ?_; rotate_left; ((try dsimp only at hS'); go_simp; try with_reducible rfl); simp only [Act.put, List.setIfInBounds_toArray, List.set_cons_zero, List.set_cons_succ]) | (refine wpYield_skip (by rfl) ?_; simp only [Act.put, List.setIfInBounds_toArray, List.set_cons_zero, List.set_cons_succ]))
        refine wpYield_nil (hK _ ?_)
        clear hK K
        refine plan_nil ?_
        go_upto_region 10 with fail
        have hne : nth lows 0 k ≠ nth highs 0 k := by simpa using he
        obtain ⟨m1, m2, m3⟩ := midOf_in hbox hlt hne
        have hmid : IntKind.i64.wrap ((IntKind.i64.wrap (nth lows 0 k + nth highs 0 k)).tdiv 2) = midOf lows highs k := by
          have e1 : IntKind.i64.wrap (nth lows 0 k + nth highs 0 k) = nth lows 0 k + nth highs 0 k := by rw [IntKind.wrap_i64]; omega
          rw [e1, Int.tdiv_eq_ediv_of_nonneg (by omega), IntKind.wrap_i64]; unfold midOf; omega
        rw [hmid]
        have hll0 : lows.length = highs.length := by have := hel.out; have := heh.out; omega
        have hcut := boxN_cut k (midOf lows highs k) hll0 hlt m1 m2
        have hbL := hbox.left hll0 hlt m1 m2
        have hbR := hbox.right hlt m1 m2
        have hD : firstD lows highs = some k := by rw [hi'.out, firstFrom_step hlt, if_neg (by simp [hne])]
        have hM : proveM p ones (n + 1) lows highs = if (proveM p ones n lows (highs.set k (midOf lows highs k))).2 then
            (⟨k, midOf lows highs k, 0⟩ :: ((proveM p ones n lows (highs.set k (midOf lows highs k))).1 ++ (proveM p ones n (lows.set k (wrap64 (midOf lows highs k + 1))) highs).1), (proveM p ones n (lows.set k (wrap64 (midOf lows highs k + 1))) highs).2)
            else (⟨k, midOf lows highs k, 0⟩ :: (proveM p ones n lows (highs.set k (midOf lows highs k))).1, false) := by rw [proveM, if_neg (by have := hb0'.out; omega), hD]
        have hlenL := proveM_len p ones n lows (highs.set k (midOf lows highs k)) (by simpa using hll0) hbL
        have hposL := boxN_pos hbL
        have hposR := boxN_pos hbR
        have eH : (highs.set k (midOf lows highs k)).length = p.lots.length := by rw [List.length_set]; exact heh.out
        have eL : (lows.set k (wrap64 (midOf lows highs k + 1))).length = p.lots.length := by rw [List.length_set]; exact hel.out
        rw [← m3] at hcut hbR hposR
        rw [← hBN'.out] at hcut
        generalize midOf lows highs k = m at *
        generalize hH : highs.set k m = H at *
        generalize hLw : lows.set k (wrap64 (m + 1)) = Lw at *
        have hH' := Lib.hid hH; have hLw' := Lib.hid hLw; have eH' := Lib.hid eH; have eL' := Lib.hid eL; have hM' := Lib.hid hM; have hcut' := Lib.hid hcut
        clear hH hLw eH eL hM hcut hmid hD hi' hne he hll0
        have hlimL : xs.length + 1 + 2 * boxN lows H ≤ 1000000 := by have := hcut'.out; omega
        have hbnL : boxN lows H ≤ n := by have := hcut'.out; have := hBN'.out; have := hbn'.out; omega
        have hbnR : boxN Lw highs ≤ n := by have := hcut'.out; have := hBN'.out; have := hbn'.out; omega
        have hW : Ext w W := hr0
        refine wp_at (fun X => Ext w X ∧ X.heap[pb]? = some (.cells #[v] 53 (0, 0)) ∧ Own 55 3 Split.cells base X v xs ∧ W.heap.size ≤ X.heap.size ∧ X.heap[w.heap.size]? = some (.cells #[.slice a p.lots.length cap, .int .i64 p.mass.lo, .int .i64 p.mass.hi, .int .i64 p.target.a.lo, .int .i64 p.target.a.hi, .int .i64 p.target.b.lo, .int .i64 p.target.b.hi, .int .i64 p.target.c.lo, .int .i64 p.target.c.hi, .slice a2 ones.length cap2] 119 (0, 0)) ∧ X.heap[w.heap.size + 1]? = some (.cells #[.slice (some ⟨bl, offl, none⟩) lows.length lc, .slice (some ⟨bh, offh, none⟩) highs.length hc] 128 (0, 0))) ⟨hr0.trans (by first | (with_reducible assumption) | (repeat (with_reducible first | exact Ex.refl _ _ | assumption | exact Ex.mono (by assumption) (by simp; done) | refine Ex.alloc ?_ _ | refine Ex.drew ?_ | refine Ex.drewN ?_ _ | refine Ex.setCell ?_ (by first | (left; simp; done) | (right; simp; done) | (right; simp; omega)) _ | refine Ex.trans ?_ (by assumption)))), (hr0.trans (by first | (with_reducible assumption) | (repeat (with_reducible first | exact Ex.refl _ _ | assumption | exact Ex.mono (by assumption) (by simp; done) | refine Ex.alloc ?_ _ | refine Ex.drew ?_ | refine Ex.drewN ?_ _ | refine Ex.setCell ?_ (by first | (left; simp; done) | (right; simp; done) | (right; simp; omega)) _ | refine Ex.trans ?_ (by assumption))))).heap (by simp) hP, hO.ext (hr0.trans (by first | (with_reducible assumption) | (repeat (with_reducible first | exact Ex.refl _ _ | assumption | exact Ex.mono (by assumption) (by simp; done) | refine Ex.alloc ?_ _ | refine Ex.drew ?_ | refine Ex.drewN ?_ _ | refine Ex.setCell ?_ (by first | (left; simp; done) | (right; simp; done) | (right; simp; omega)) _ | refine Ex.trans ?_ (by assumption))))), Ex.size (S := []) (by first | (with_reducible assumption) | (repeat (with_reducible first | exact Ex.refl _ _ | assumption | exact Ex.mono (by assumption) (by simp; done) | refine Ex.alloc ?_ _ | refine Ex.drew ?_ | refine Ex.drewN ?_ _ | refine Ex.setCell ?_ (by first | (left; simp; done) | (right; simp; done) | (right; simp; omega)) _ | refine Ex.trans ?_ (by assumption)))), Ex.heap (S := []) (w := W) (by first | (with_reducible assumption) | (repeat (with_reducible first | exact Ex.refl _ _ | assumption | exact Ex.mono (by assumption) (by simp; done) | refine Ex.alloc ?_ _ | refine Ex.drew ?_ | refine Ex.drewN ?_ _ | refine Ex.setCell ?_ (by first | (left; simp; done) | (right; simp; done) | (right; simp; omega)) _ | refine Ex.trans ?_ (by assumption)))) (by simp) hB0'.out, Ex.heap (S := []) (w := W) (by first | (with_reducible assumption) | (repeat (with_reducible first | exact Ex.refl _ _ | assumption | exact Ex.mono (by assumption) (by simp; done) | refine Ex.alloc ?_ _ | refine Ex.drew ?_ | refine Ex.drewN ?_ _ | refine Ex.setCell ?_ (by first | (left; simp; done) | (right; simp; done) | (right; simp; omega)) _ | refine Ex.trans ?_ (by assumption)))) (by simp) hB1'.out⟩ (fun X hX => ?_)
        obtain ⟨hX, hPX, hOX, hWX, hTX, hBX⟩ := hX
        clear hB0' hB1' hlx hhx
        have px := blk_cell hPX 0 rfl
        have pf := blk_free hPX 0
        have hXs := hX.size
        go_upto_region 11 with (at_builtin; refine wpList_push (base := base) eiSplit Split.len Split.one rfl _ _ rfl v xs (by rfl) (hOX.ext ((Ex.refl _ _).alloc _)) _ ⟨k, m, 0⟩ (by rfl) (fun j u hu => blk_cell (blk_new _ _) j (by simpa [Split.cells] using hu)) (by omega) (by omega) (by simp; omega) ?_; intro g c2 w2 hO2 hx2 hg2 hgw; have hT2 := hx2.heap (fun hm => hvp (by simpa using hm)) (blk_alloc hPX); have zc := blk_cell hT2 0 rfl; have zf := blk_free hT2 0; have hgp : g ≠ pb := fun e => hg2.elim (fun h => hvp (e ▸ h)) (fun h => by simp at h; omega); clear px pf)
        have hx2' : Ex (SP pb v) (X.alloc (.cells #[.int .i64 k, .int .i64 m, .int .i64 0] 55 (0, 0))) w2 := hx2.mono (fun x hx => by simp only [SP, List.mem_cons]; exact .inr hx)
        have hown : ∀ g', v.ownBlock = some g' → g' < w.heap.size := fun g' h => hO.lt h
        have hv1 : ∀ g', (Value.slice (some ⟨g, 0, none⟩) (xs.length + 1) c2).ownBlock = some g' → v.ownBlock = some g' ∨ w.heap.size ≤ g' := by
          intro g' hg'
          simp only [Value.ownBlock, Option.some.injEq] at hg'
          subst hg'
          rcases hg2 with h | h
          · exact .inl h
          · right; simp at h; omega
        have hgT : g ≠ w.heap.size ∧ g ≠ w.heap.size + 1 := by
          rcases hg2 with h | h
          · have := hown _ h; omega
          · simp at h; omega
        refine wp_at (fun Z => Ex (SP pb v) w Z ∧ Z.heap[pb]? = some (.cells #[Value.slice (some ⟨g, 0, none⟩) (xs.length + 1) c2] 53 (0, 0)) ∧ Own 55 3 Split.cells base Z (.slice (some ⟨g, 0, none⟩) (xs.length + 1) c2) (xs ++ [⟨k, m, 0⟩]) ∧ g < Z.heap.size ∧ w.heap.size + 2 ≤ Z.heap.size ∧ Z.heap[w.heap.size]? = some (.cells #[.slice a p.lots.length cap, .int .i64 p.mass.lo, .int .i64 p.mass.hi, .int .i64 p.target.a.lo, .int .i64 p.target.a.hi, .int .i64 p.target.b.lo, .int .i64 p.target.b.hi, .int .i64 p.target.c.lo, .int .i64 p.target.c.hi, .slice a2 ones.length cap2] 119 (0, 0)) ∧ Z.heap[w.heap.size + 1]? = some (.cells #[.slice (some ⟨bl, offl, none⟩) lows.length lc, .slice (some ⟨bh, offh, none⟩) highs.length hc] 128 (0, 0)))
          ⟨Ex.setCell (Ex.trans ((hX.alloc _).mono (by simp)) hx2') (.inl (by simp [SP])) _, blk_set hT2 0 _, hO2.ex (S := [pb]) ((Ex.refl _ _).setCell (.inl (by simp)) _) (fun g' hg' => by simp only [Value.ownBlock, Option.some.injEq] at hg'; subst hg'; simpa using hgp), by simpa [World.setCell] using hgw, by have := hx2.size; simp [World.setCell] at this ⊢; omega,
           blk_set_other (hx2.heap (fun hm => by have := hown _ (by simpa using hm); omega) (blk_alloc hTX)) (by omega), blk_set_other (hx2.heap (fun hm => by have := hown _ (by simpa using hm); omega) (blk_alloc hBX)) (by omega)⟩ (fun Z hZ => ?_)
        obtain ⟨hZ, hPZ, hOZ, hgZ, hwZ, hTZ, hBZ⟩ := hZ
        clear hT2 zc zf hx2 hx2' hO2 hOX hTX hBX hPX
        have hlZ := hl.ex0 hZ hla.notin
        have hhZ := hh.ex0 hZ hha.notin
        have hsZ := hs.ex0 hZ ha2.notin
        have ha2Z := ha2.next hZ.size hv1
        have hlaZ := hla.next hZ.size hv1
        have hhaZ := hha.next hZ.size hv1
        have hrZ : Ex [] Z Z := Ex.refl _ _
        have b0 := cellE (S := []) hBZ (by simp) 0 rfl
        have b1 := cellE (S := []) hBZ (by simp) 1 rfl
        have hn1 : lows.length ≤ 1000 := by have := hel.out; omega
        have hn2 : highs.length ≤ 1000 := by have := heh.out; omega
        go_upto_region 12 with (go_at_call 96; refine (cut_c _ _ lc hc lows highs k m _ (hlZ.ext (by first | (with_reducible assumption) | (repeat (with_reducible first | exact Ex.refl _ _ | assumption | exact Ex.mono (by assumption) (by simp; done) | refine Ex.alloc ?_ _ | refine Ex.drew ?_ | refine Ex.drewN ?_ _ | refine Ex.setCell ?_ (by first | (left; simp; done) | (right; simp; done) | (right; simp; omega)) _ | refine Ex.trans ?_ (by assumption))))) (hhZ.ext (by first | (with_reducible assumption) | (repeat (with_reducible first | exact Ex.refl _ _ | assumption | exact Ex.mono (by assumption) (by simp; done) | refine Ex.alloc ?_ _ | refine Ex.drew ?_ | refine Ex.drewN ?_ _ | refine Ex.setCell ?_ (by first | (left; simp; done) | (right; simp; done) | (right; simp; omega)) _ | refine Ex.trans ?_ (by assumption))))) hlt hlt2 hn1 hn2).mono ?_; rintro e w3 ⟨g1, c1, g3, c3, rfl, hO1, hO3, h3⟩; replace h3 : Ex [] Z w3 := Ex.trans (by first | (with_reducible assumption) | (repeat (with_reducible first | exact Ex.refl _ _ | assumption | exact Ex.mono (by assumption) (by simp; done) | refine Ex.alloc ?_ _ | refine Ex.drew ?_ | refine Ex.drewN ?_ _ | refine Ex.setCell ?_ (by first | (left; simp; done) | (right; simp; done) | (right; simp; omega)) _ | refine Ex.trans ?_ (by assumption)))) (h3.ex _); have h3s := h3.size; rw [hH'.out] at hO1 ⊢; rw [hLw'.out] at hO3 ⊢)
        refine wp_at (fun Y => Ex [] w3 Y ∧ Y.heap[w3.heap.size]? = some (.cells #[.slice (some ⟨bl, offl, none⟩) lows.length lc, .slice (some ⟨g1, 0, none⟩) H.length c1] 128 (0, 0)) ∧ Y.heap[w3.heap.size + 1]? = some (.cells #[.slice (some ⟨g3, 0, none⟩) Lw.length c3, .slice (some ⟨bh, offh, none⟩) highs.length hc] 128 (0, 0)) ∧ Y.heap.size = w3.heap.size + 2) ⟨by (repeat (with_reducible first | exact Ex.refl _ _ | assumption | exact Ex.mono (by assumption) (by simp; done) | refine Ex.alloc ?_ _ | refine Ex.drew ?_ | refine Ex.drewN ?_ _ | refine Ex.setCell ?_ (by first | (left; simp; done) | (right; simp; done) | (right; simp; omega)) _ | refine Ex.trans ?_ (by assumption))), blk_alloc (blk_new _ _), blk_at _ _ (by simp), by simp⟩ (fun Y hY => ?_)
        obtain ⟨hY, hL1, hR1, hYs⟩ := hY
        have hZY : Ex [] Z Y := h3.trans hY
        have hZYs := hZY.size
        obtain ⟨S1, hS1⟩ : ∃ S, S = SP pb (Value.slice (some ⟨g, 0, none⟩) (xs.length + 1) c2) := ⟨_, rfl⟩
        have hpbw : pb < w.heap.size := hpb
        have hS1' : ∀ x, x ∈ S1 → (x = pb ∨ x = g) := by
          intro x hx; rw [hS1] at hx; simp only [SP, Value.ownBlock, Option.toList_some, List.mem_cons, List.not_mem_nil, or_false] at hx; exact hx
        have hn0 : w.heap.size ∉ S1 := fun hm => (hS1' _ hm).elim (fun h => by omega) (fun h => hgT.1 h.symm)
        have hn3 : ∀ x, w3.heap.size ≤ x → x ∉ S1 := fun x hx hm => by rcases hS1' _ hm with h | h <;> omega
        have hTY := hZY.heap (by simp) hTZ
        have hrY : Ex S1 Y Y := Ex.refl _ _
        have y0 := cellE (S := S1) hTY hn0 0 rfl
        have y1 := cellE (S := S1) hTY hn0 1 rfl
        have y2 := cellE (S := S1) hTY hn0 2 rfl
        have y3 := cellE (S := S1) hTY hn0 3 rfl
        have y4 := cellE (S := S1) hTY hn0 4 rfl
        have y5 := cellE (S := S1) hTY hn0 5 rfl
        have y6 := cellE (S := S1) hTY hn0 6 rfl
        have y7 := cellE (S := S1) hTY hn0 7 rfl
        have y8 := cellE (S := S1) hTY hn0 8 rfl
        have y9 := cellE (S := S1) hTY hn0 9 rfl
        have l0 := cellE (S := S1) hL1 (hn3 _ (by omega)) 0 rfl
        have r0 := cellE (S := S1) hR1 (hn3 _ (by omega)) 0 rfl
        have l1 := cellE (S := S1) hL1 (hn3 _ (by omega)) 1 rfl
        have r1 := cellE (S := S1) hR1 (hn3 _ (by omega)) 1 rfl
        have hPY := hZY.heap (by simp) hPZ
        have hOY := hOZ.ext hZY
        have hsY := hsZ.ext hZY
        have hlY := hlZ.ext hZY
        have hhY := hhZ.ext hZY
        have hSH := (hO1.toSl (fun _ => rfl)).ext hY
        have hSL := (hO3.toSl (fun _ => rfl)).ext hY
        have hsame : ∀ g', (Value.slice (some ⟨g, 0, none⟩) (xs.length + 1) c2).ownBlock = some g' → (Value.slice (some ⟨g, 0, none⟩) (xs.length + 1) c2).ownBlock = some g' ∨ Z.heap.size ≤ g' := fun g' h => .inl h
        have ha2Y := ha2Z.next hZYs hsame
        have hlaY := hlaZ.next hZYs hsame
        have hhaY := hhaZ.next hZYs hsame
        have hg1 : Z.heap.size ≤ g1 := hO1.base_le rfl
        have hg3 : Z.heap.size ≤ g3 := hO3.base_le rfl
        have hg1' : g1 < w3.heap.size := hO1.lt rfl
        have hg3' : g3 < w3.heap.size := hO3.lt rfl
        have hHA : Apart pb (Value.slice (some ⟨g, 0, none⟩) (xs.length + 1) c2) Y (some ⟨g1, 0, none⟩) H.length := fun _ b hb => by
          cases hb
          exact ⟨by simp; omega, by simp; omega, by simp [Value.ownBlock]; omega⟩
        have hLA : Apart pb (Value.slice (some ⟨g, 0, none⟩) (xs.length + 1) c2) Y (some ⟨g3, 0, none⟩) Lw.length := fun _ b hb => by
          cases hb
          exact ⟨by simp; omega, by simp; omega, by simp [Value.ownBlock]; omega⟩
        have hwY : Ex (SP pb v) w Y := hZ.trans (hZY.ex _)
        have hS1w : ∀ x ∈ S1, x ∈ SP pb v ∨ w.heap.size ≤ x := fun x hx => by
          rcases hS1' x hx with h | h
          · left; simp [SP, h]
          · rcases hv1 g rfl with h4 | h4
            · left; simp [SP, h, h4]
            · right; omega
        have hbaseY : base ≤ Y.heap.size := by have := hwY.size; omega
        have hv1p : (Value.slice (some ⟨g, 0, none⟩) (xs.length + 1) c2).ownBlock ≠ some pb := by simpa [Value.ownBlock] using hgp
        obtain ⟨⟨R1, ok1⟩, hP1⟩ : ∃ r, proveM p ones n lows H = r := ⟨_, rfl⟩
        obtain ⟨⟨R2, ok2⟩, hP2⟩ : ∃ r, proveM p ones n Lw highs = r := ⟨_, rfl⟩
        have hi1 : Calls Try.prog 73 #[.agg #[.slice a p.lots.length cap, .int .i64 p.mass.lo, .int .i64 p.mass.hi, .int .i64 p.target.a.lo, .int .i64 p.target.a.hi, .int .i64 p.target.b.lo, .int .i64 p.target.b.hi, .int .i64 p.target.c.lo, .int .i64 p.target.c.hi, .slice a2 ones.length cap2], .agg #[.slice (some ⟨bl, offl, none⟩) lows.length lc, .slice (some ⟨g1, 0, none⟩) H.length c1], .pointer (some ⟨pb, 0, none⟩)] Y (fun e w'' => e = .returned (.bool ok1) ∧ ∃ v2, w''.heap[pb]? = some (.cells #[v2] 53 (0, 0)) ∧ Own 55 3 Split.cells base w'' v2 (xs ++ [⟨k, m, 0⟩] ++ R1) ∧ Ex S1 Y w'' ∧ (∀ g', v2.ownBlock = some g' → g' = g ∨ Y.heap.size ≤ g')) := by
          have h0 := ih'.out (some ⟨bl, offl, none⟩) (some ⟨g1, 0, none⟩) lc c1 lows H (Value.slice (some ⟨g, 0, none⟩) (xs.length + 1) c2) (xs ++ [⟨k, m, 0⟩]) base Y hsY hlY hSH hel eH' hbL hPY hOY hbaseY ha2Y hlaY hHA hv1p (by simp only [List.length_append, List.length_cons, List.length_nil]; omega) hbnL
          refine h0.mono ?_
          rintro e w'' ⟨he, v2, q1, q2, q3, q4⟩
          rw [hP1] at he q2
          refine ⟨he, v2, q1, q2, hS1 ▸ q3, fun g' hg' => ?_⟩
          rcases q4 g' hg' with h | h
          · left; simp only [Value.ownBlock, Option.some.injEq] at h; exact h.symm
          · exact .inr h
        have hi2 : ∀ v2 w', w'.heap[pb]? = some (.cells #[v2] 53 (0, 0)) → Own 55 3 Split.cells base w' v2 (xs ++ [⟨k, m, 0⟩] ++ R1) → Ex S1 Y w' → (∀ g', v2.ownBlock = some g' → g' = g ∨ Y.heap.size ≤ g') → Calls Try.prog 73 #[.agg #[.slice a p.lots.length cap, .int .i64 p.mass.lo, .int .i64 p.mass.hi, .int .i64 p.target.a.lo, .int .i64 p.target.a.hi, .int .i64 p.target.b.lo, .int .i64 p.target.b.hi, .int .i64 p.target.c.lo, .int .i64 p.target.c.hi, .slice a2 ones.length cap2], .agg #[.slice (some ⟨g3, 0, none⟩) Lw.length c3, .slice (some ⟨bh, offh, none⟩) highs.length hc], .pointer (some ⟨pb, 0, none⟩)] w' (fun e w'' => e = .returned (.bool ok2) ∧ ∃ v3, w''.heap[pb]? = some (.cells #[v3] 53 (0, 0)) ∧ Own 55 3 Split.cells base w'' v3 (xs ++ [⟨k, m, 0⟩] ++ R1 ++ R2) ∧ Ex S1 Y w'' ∧ (∀ g', v3.ownBlock = some g' → g' = g ∨ Y.heap.size ≤ g')) := by
          intro v2 w' q1 q2 q3 q4
          have q3s := q3.size
          have hv2 : ∀ g', v2.ownBlock = some g' → (Value.slice (some ⟨g, 0, none⟩) (xs.length + 1) c2).ownBlock = some g' ∨ Y.heap.size ≤ g' := fun g' h => by
            rcases q4 g' h with h | h
            · left; simp [Value.ownBlock, h]
            · exact .inr h
          have hni : ∀ x n, Apart pb (Value.slice (some ⟨g, 0, none⟩) (xs.length + 1) c2) Y x n → 0 < n → ∀ b, x = some b → b.block ∉ S1 := fun x n hx => hS1 ▸ hx.notin
          have h0 := ih'.out (some ⟨g3, 0, none⟩) (some ⟨bh, offh, none⟩) c3 hc Lw highs v2 (xs ++ [⟨k, m, 0⟩] ++ R1) base w' (hsY.ex0 q3 (hni _ _ ha2Y)) (hSL.ex0 q3 (hni _ _ hLA)) (hhY.ex0 q3 (hni _ _ hhaY)) eL' heh hbR q1 q2 (by omega) (ha2Y.next q3s hv2) (hLA.next q3s hv2) (hhaY.next q3s hv2) (fun h => by
              rcases q4 _ h with h | h
              · exact hgp h.symm
              · omega) (by rw [hP1] at hlenL; have := hcut'.out; simp only [List.length_append, List.length_cons, List.length_nil]; simp only at hlenL; omega) hbnR
          refine h0.mono ?_
          rintro e w'' ⟨he, v3, r1, r2, r3, r4⟩
          rw [hP2] at he r2
          refine ⟨he, v3, r1, r2, q3.trans_fresh r3 (fun x hx => ?_), fun g' hg' => ?_⟩
          · simp only [SP, List.mem_cons, Option.mem_toList] at hx
            rcases hx with rfl | hx
            · left; rw [hS1]; simp [SP]
            · rcases q4 x hx with h | h
              · left; rw [hS1]; simp [SP, Value.ownBlock, h]
              · exact .inr h
          · rcases r4 g' hg' with h | h
            · exact q4 g' h
            · right; omega
        have hM := hM'.out
        rw [hP1, hP2] at hM
        have hM2 := Lib.hid hM
        clear hS1 hS1' hn3 hM hM' hP1 hP2 hlenL ih' hlY hhY hsY hSH hSL hlZ hhZ hsZ hO1 hO3 hOY hPY hOZ hPZ hTY hTZ hBZ hL1 hR1 ha2Y hlaY hhaY ha2Z hlaZ hhaZ hHA hLA hsame b0 b1 hX hrZ h3 hY hZY hZ hO hP hs hl hh
        cases ok1
        · go_wp2_with (go_at_call 73; refine hi1.mono ?_; rintro e w4 ⟨rfl, v2, q1, q2, q3, q4⟩)
          go_returns
          rw [show xs ++ [⟨k, m, 0⟩] ++ R1 = xs ++ (⟨k, m, 0⟩ :: R1) from by simp] at q2
          refine ⟨by rw [hM2.out]; rfl, v2, q1, by rw [hM2.out]; exact q2, hwY.trans_fresh q3 hS1w, fun g' hg' => ?_⟩
          rcases q4 g' hg' with h | h
          · subst h; exact hv1 _ rfl
          · right; have := hwY.size; omega
        · go_wp2_with (first | (go_at_call 73; refine hi1.mono ?_; clear hi1; rintro e w4 ⟨rfl, v2, q1, q2, q3, q4⟩) | (go_at_call 73; refine (hi2 _ _ q1 q2 q3 q4).mono ?_; clear hi2 q1 q2 q4; rintro e w5 ⟨rfl, v3, r1, r2, r3, r4⟩))
          go_returns
          rw [show xs ++ [⟨k, m, 0⟩] ++ R1 ++ R2 = xs ++ (⟨k, m, 0⟩ :: (R1 ++ R2)) from by simp] at r2
          refine ⟨by rw [hM2.out]; rfl, v3, r1, by rw [hM2.out]; exact r2, hwY.trans_fresh r3 hS1w, fun g' hg' => ?_⟩
          rcases r4 g' hg' with h | h
          · subst h; exact hv1 _ rfl
          · right; have := hwY.size; omega
    · go_wp2_with fail
      go_returns
      have hm : proveM p ones (n + 1) lows highs = ([], false) := by rw [proveM, if_neg (by have := hb0'.out; omega), hi'.out, show lows.length - k = 0 by omega]; rfl
      refine ⟨by rw [hm]; rfl, v, (hr0.trans hE).heap (by simp) hP, ?_, (hr0.trans hE).ex _, fun g h => .inl h⟩
      rw [hm]
      exact (hO.ext (hr0.trans hE)).cong (by simp)

theorem prove_c (p : Recipe) (a : Option Addr) (cap : Nat) (a2 : Option Addr) (cap2 : Nat) (ones : List Mar) (pb : Nat) (hn : p.lots.length ≤ 1000) (ho : ones.length ≤ p.lots.length) : ∀ (n : Nat), ∀ (la ha : Option Addr) (lc hc : Nat) (lows highs : List Int) (v : Value) (xs : List Split) (base : Nat) (w : World) , Sl 8 Mar.cells w a2 cap2 ones → SlI w la lc lows → SlI w ha hc highs → Hid (lows.length = p.lots.length) → Hid (highs.length = p.lots.length) → BoxOk lows highs → w.heap[pb]? = some (.cells #[v] 53 (0, 0)) → Own 55 3 Split.cells base w v xs → base ≤ w.heap.size → Apart pb v w a2 ones.length → Apart pb v w la lows.length → Apart pb v w ha highs.length → v.ownBlock ≠ some pb → xs.length + 2 * boxN lows highs ≤ 1000000 → boxN lows highs ≤ n → Calls Try.prog 73 #[.agg #[.slice a p.lots.length cap, .int .i64 p.mass.lo, .int .i64 p.mass.hi, .int .i64 p.target.a.lo, .int .i64 p.target.a.hi, .int .i64 p.target.b.lo, .int .i64 p.target.b.hi, .int .i64 p.target.c.lo, .int .i64 p.target.c.hi, .slice a2 ones.length cap2], .agg #[.slice la lows.length lc, .slice ha highs.length hc], .pointer (some ⟨pb, 0, none⟩)] w (ProvePost p ones pb base v xs n lows highs w) := by
  intro n
  induction n with
  | zero =>
    intro la ha lc hc lows highs v xs base w h1 h2 h3 h4 h5 hbox h6 h7 h8 h9 h10 h11 h12 h13 hbn
    exact absurd hbn (by have := boxN_pos hbox; omega)
  | succ n ih =>
    intro la ha lc hc lows highs v xs base w h1 h2 h3 h4 h5 hbox h6 h7 h8 h9 h10 h11 h12 h13 hbn
    by_cases hb0 : 0 ≤ brokenM (greatM p ones lows highs)
    · exact prove_leaf_c p a cap a2 cap2 ones pb hn ho n la ha lc hc lows highs v xs base w h1 h2 h3 h4 h5 hbox h6 h7 h8 h9 h10 h11 h12 h13 hb0
    · exact prove_rest_c p a cap a2 cap2 ones pb hn ho n la ha lc hc lows highs v xs base w h1 h2 h3 h4 h5 hbox h6 h7 h8 h9 h10 h11 h12 h13 hbn ih hb0
end Go.Proofs.Ytojnpaenpaobcaa
