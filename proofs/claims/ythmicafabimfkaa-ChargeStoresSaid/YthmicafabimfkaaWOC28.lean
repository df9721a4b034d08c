/- All charges, one after another. No condition. -/
import Derived.Test.YthmicafabimfkaaWOC26
import Derived.Laws.EntriesVeiled
import Derived.Test.YthmicafabimfkaaWORG
import Derived.Test.YthmicafabimfkaaWOC12

namespace Go.Proofs.Ythmicafabimfkaa
open Go.RowKit
attribute [local irreducible] wpYield wpPlan
attribute [local go_sem] Oper.semAt_some
theorem extend_c (p : Recipe) (a : Option Addr) (cap : Nat) (a2 : Option Addr) (cap2 : Nat) (ones : List Mar) (hcnt : ∀ k, k < p.lots.length → 0 ≤ (nth p.lots .zero k).count ∧ (nth p.lots .zero k).count ≤ 1000) (hlen : p.lots.length ≤ 1000) (hon : Hid (ones.length = p.lots.length)) (l g bt by_ be base : Nat) (SB SG : List Nat) (hgS : g ∈ SG) (hSB : ∀ x ∈ SB, x ∈ SG) (hgB : g ∉ SB) (hEnv : ∀ W W', Env p a cap a2 cap2 ones l bt by_ be W → Ex SG W W' → Env p a cap a2 cap2 ones l bt by_ be W') (J : List (List Int × Mar) → World → Prop) (hJE : ∀ pre W W', J pre W → Ex [g] W W' → J pre W') (hY : ∀ pre c m W, J pre W → c.length = p.lots.length ∧ g < W.heap.size → SlI W (some ⟨g, 0, none⟩) p.lots.length c → YieldAt Fence.wide 4 Try.prog l #[.slice (some ⟨g, 0, none⟩) p.lots.length p.lots.length, .agg #[.int .i64 m.m0, .int .i64 m.m1, .int .i64 m.m2, .int .i64 m.m3, .int .i64 m.m4, .int .i64 m.m5, .int .i64 m.m6, .int .i64 m.m7]] W (fun e W' => e = .returned (.bool true) ∧ J (pre ++ [(c, m)]) W' ∧ Ex SB W W')) : ∀ (r : Nat) (k : Nat) (c : List Int) (m : Mar) (pre : List (List Int × Mar)) (w : World), (Hid (k + r = p.lots.length)) → (Hid (c.length = k)) → (k ≤ p.lots.length) → (∀ x ∈ SG, x < w.heap.size) → (Env p a cap a2 cap2 ones l bt by_ be w) → (J pre w) → (Own 3 1 intCells base w (.slice (some ⟨g, 0, none⟩) k p.lots.length) c) → Calls Try.prog 66 #[.slice (some ⟨g, 0, none⟩) k p.lots.length, .agg #[.int .i64 m.m0, .int .i64 m.m1, .int .i64 m.m2, .int .i64 m.m3, .int .i64 m.m4, .int .i64 m.m5, .int .i64 m.m6, .int .i64 m.m7], .pointer (some ⟨bt, 0, none⟩), .pointer (some ⟨by_, 0, none⟩), .pointer (some ⟨be, 0, none⟩)] w (fun e w' => e = .returned (.bool true) ∧ J (pre ++ chargesR p ones r c m) w' ∧ Ex SG w w' ∧ Own 3 1 intCells base w' (.slice (some ⟨g, 0, none⟩) k p.lots.length) c) := by
  intro r
  induction r with
  | zero =>
    intro k c m pre w h1 h2 h3 h4 h5 h6 h7
    exact extend_yield_c p a cap a2 cap2 ones hcnt hlen hon l g bt by_ be base SB SG hgS hSB hgB hEnv J hJE hY k c m pre w h1 h2 h3 h4 h5 h6 h7
  | succ r ih =>
    intro k c m pre w h1 h2 h3 h4 h5 h6 h7
    exact extend_more_c p a cap a2 cap2 ones hcnt hlen hon l g bt by_ be base SB SG hgS hSB hgB hEnv J hJE r ih k c m pre w h1 h2 h3 h4 h5 h6 h7
set_option maxRecDepth 100000 in
set_option maxHeartbeats 8000000 in
theorem charges1_c (p : Recipe) (a : Option Addr) (cap : Nat) (a2 : Option Addr) (cap2 : Nat) (ones : List Mar) (hcnt : ∀ k, k < p.lots.length → 0 ≤ (nth p.lots .zero k).count ∧ (nth p.lots .zero k).count ≤ 1000) (hlen : p.lots.length ≤ 1000) (hon : Hid (ones.length = p.lots.length)) (l bt : Nat) (SB : List Nat) (J : Nat → List (List Int × Mar) → World → Prop) (w : World)
    (hT : w.heap[bt]? = some (.cells #[.slice a p.lots.length cap, .int .i64 p.mass.lo, .int .i64 p.mass.hi, .int .i64 p.target.a.lo, .int .i64 p.target.a.hi, .int .i64 p.target.b.lo, .int .i64 p.target.b.hi, .int .i64 p.target.c.lo, .int .i64 p.target.c.hi, .slice a2 ones.length cap2] 103 (0, 0))) (hTB : bt ∉ SB) (hSBw : ∀ x ∈ SB, x < w.heap.size) (hs : SlL w a cap p.lots) (hs2 : Sl 8 Mar.cells w a2 cap2 ones) (hla : 0 < p.lots.length → ∀ b, a = some b → b.block ∉ SB ∧ b.block < w.heap.size) (hla2 : 0 < ones.length → ∀ b, a2 = some b → b.block ∉ SB ∧ b.block < w.heap.size)
    (hJ0 : ∀ g W, w.heap.size ≤ g → Ext w W → J g [] W) (hJE : ∀ g pre W W', J g pre W → Ex [g] W W' → J g pre W') (hY : ∀ g, w.heap.size ≤ g → ∀ pre c m W, J g pre W → c.length = p.lots.length ∧ g < W.heap.size → SlI W (some ⟨g, 0, none⟩) p.lots.length c → YieldAt Fence.wide 4 Try.prog l #[.slice (some ⟨g, 0, none⟩) p.lots.length p.lots.length, .agg #[.int .i64 m.m0, .int .i64 m.m1, .int .i64 m.m2, .int .i64 m.m3, .int .i64 m.m4, .int .i64 m.m5, .int .i64 m.m6, .int .i64 m.m7]] W (fun e W' => e = .returned (.bool true) ∧ J g (pre ++ [(c, m)]) W' ∧ Ex SB W W')) :
    Calls Try.prog 65 #[.func (.yield l) #[] #[], .pointer (some ⟨bt, 0, none⟩)] w (fun e w' => (∃ v, e = .returned v) ∧ ∃ g, w.heap.size ≤ g ∧ J g (chargesR p ones p.lots.length [] (baseM p)) w') := by
  have hbt := lt_of_block hT
  go_enter Try.func65, Try.ntmps65
  go_upto_region 3 with fail
  refine wp_at (fun W => Ext w W ∧ w.heap.size + 2 = W.heap.size ∧ W.heap[w.heap.size]? = some (.cells #[.func (.yield l) #[] #[]] 131 (0, 0)) ∧ W.heap[w.heap.size + 1]? = some (.cells #[.func (.func 66) #[] #[.pointer (some ⟨bt, 0, none⟩), .pointer (some ⟨w.heap.size, 0, none⟩), .pointer (some ⟨w.heap.size + 1, 0, none⟩)]] 131 (0, 0))) ?_ (fun W hW => ?_)
  · exact ⟨by (repeat (with_reducible first | exact Ex.refl _ _ | assumption | exact Ex.mono (by assumption) (by simp; done) | refine Ex.alloc ?_ _ | refine Ex.drew ?_ | refine Ex.drewN ?_ _ | refine Ex.setCell ?_ (by first | (left; simp; done) | (right; simp; done) | (right; simp; omega)) _ | refine Ex.trans ?_ (by assumption))), by simp, blk_alloc (blk_new _ _), blk_at _ _ (by simp)⟩
  obtain ⟨hr0, hsz, hBy, hBe⟩ := hW
  have hsz' := Nat.le_of_eq hsz.symm; have hsz'' := Nat.le_of_eq hsz; clear hsz
  have hTW := hr0.heap (by simp) hT
  have hsW := hs.ext hr0
  have hs2W := hs2.ext hr0
  have hx : ∀ g w5, Ex [] W w5 → W.heap.size ≤ g → Own 3 1 intCells 0 w5 (.slice (some ⟨g, 0, none⟩) 0 p.lots.length) ([] : List Int) → Calls Try.prog 66 #[.slice (some ⟨g, 0, none⟩) 0 p.lots.length, .agg #[.int .i64 ((baseM p).m0), .int .i64 ((baseM p).m1), .int .i64 ((baseM p).m2), .int .i64 ((baseM p).m3), .int .i64 ((baseM p).m4), .int .i64 ((baseM p).m5), .int .i64 ((baseM p).m6), .int .i64 ((baseM p).m7)], .pointer (some ⟨bt, 0, none⟩), .pointer (some ⟨w.heap.size, 0, none⟩), .pointer (some ⟨w.heap.size + 1, 0, none⟩)] w5 (fun e w' => e = .returned (.bool true) ∧ w.heap.size ≤ g ∧ J g (chargesR p ones p.lots.length [] (baseM p)) w' ∧ Ex SB W w') := by
    intro g w5 h5 hg hO5
    have h5s := h5.size
    have hEnv : ∀ W1 W2, Env p a cap a2 cap2 ones l bt w.heap.size (w.heap.size + 1) W1 → Ex (g :: SB) W1 W2 → Env p a cap a2 cap2 ones l bt w.heap.size (w.heap.size + 1) W2 := fun W1 W2 hE hx =>
      ⟨hx.heap (by simp only [List.mem_cons, not_or]; exact ⟨by omega, hTB⟩) hE.t,
       hx.heap (by simp only [List.mem_cons, not_or]; exact ⟨by omega, fun hm => absurd (hSBw _ hm) (by omega)⟩) hE.y,
       hx.heap (by simp only [List.mem_cons, not_or]; exact ⟨by omega, fun hm => absurd (hSBw _ hm) (by omega)⟩) hE.e,
       hE.lots.ex0 hx (fun h0 b hb => by have := hla h0 b hb; simp only [List.mem_cons, not_or]; exact ⟨by omega, this.1⟩),
       hE.ones_.ex0 hx (fun h0 b hb => by have := hla2 h0 b hb; simp only [List.mem_cons, not_or]; exact ⟨by omega, this.1⟩)⟩
    refine (extend_c p a cap a2 cap2 ones hcnt hlen hon l g bt w.heap.size (w.heap.size + 1) 0 SB (g :: SB) (by simp) (fun x hx => by simp [hx]) (fun hm => absurd (hSBw _ hm) (by omega)) hEnv (J g) (fun pre W1 W2 => hJE g pre W1 W2) (fun pre c m W1 => hY g (by omega) pre c m W1) p.lots.length 0 [] (baseM p) [] w5 (Lib.hid (by omega)) (Lib.hid rfl) (by omega)
      (fun x hx => by
        have hg5 := hO5.lt rfl
        simp only [List.mem_cons] at hx
        rcases hx with rfl | hx
        · exact hg5
        · have := hSBw x hx; omega)
      ⟨h5.heap (by simp) hTW, h5.heap (by simp) hBy, h5.heap (by simp) hBe, hsW.ext h5, hs2W.ext h5⟩ (hJ0 g w5 (by omega) (hr0.trans h5)) hO5).mono ?_
    rintro e w' ⟨he, hj, h6, _⟩
    exact ⟨he, by omega, by simpa using hj, (h5.ex SB).trans_fresh h6 (fun x hx => by simp only [List.mem_cons] at hx; rcases hx with rfl | hx; exact .inr hg; exact .inl hx)⟩
  obtain ⟨mk, hmk⟩ := Classical.axiomOfChoice (fun w' : World => (by
    obtain ⟨i, z, hi, hz, hsz, hby, hzs⟩ := eiInt.ex
    obtain ⟨w2, hr, ho1, hg⟩ := run_make_own (P := Try.prog) w' 0 34 3 i z 1 eiInt.ht hi hz hsz .i64 .i64 p.lots.length (by rw [hby]; omega) (by unfold maxLen; omega) (Nat.zero_le _)
    exact ⟨w2, hr, ho1, Ex.of_grown hg⟩ : ∃ w2, (Instr.makeSlice 34 (.int .i64 ((0 : Nat) : Int)) (.int .i64 (p.lots.length : Int))).run Try.prog w' = .ok (.slice (some ⟨w'.heap.size, 0, none⟩) 0 p.lots.length) w2 ∧ Own 3 1 intCells 0 w2 (.slice (some ⟨w'.heap.size, 0, none⟩) 0 p.lots.length) ([] : List Int) ∧ Ex [] w' w2))
  have hmr : ∀ w', (Instr.makeSlice 34 (.int .i64 0) (.int .i64 (p.lots.length : Int))).run Try.prog w' = .ok (.slice (some ⟨w'.heap.size, 0, none⟩) 0 p.lots.length) (mk w') := fun w' => (hmk w').1
  have hmO := fun w' => (hmk w').2.1
  have hmO2 : ∀ w' g, g = w'.heap.size → Own 3 1 intCells 0 (mk w') (.slice (some ⟨g, 0, none⟩) 0 p.lots.length) ([] : List Int) := fun w' g e => e ▸ hmO w'
  have hmE : ∀ w', Ex [] W w' → Ex [] W (mk w') := fun w' h => h.trans (hmk w').2.2
  clear hmk
  have t0 := cellE (S := SB) hTW hTB 0 rfl
  have t1 := cellE (S := SB) hTW hTB 1 rfl
  have t2 := cellE (S := SB) hTW hTB 2 rfl
  have t3 := cellE (S := SB) hTW hTB 3 rfl
  have t4 := cellE (S := SB) hTW hTB 4 rfl
  have t5 := cellE (S := SB) hTW hTB 5 rfl
  have t6 := cellE (S := SB) hTW hTB 6 rfl
  have t7 := cellE (S := SB) hTW hTB 7 rfl
  have t8 := cellE (S := SB) hTW hTB 8 rfl
  have t9 := cellE (S := SB) hTW hTB 9 rfl
  have ee := cellE (S := SB) hBe (fun hm => absurd (hSBw _ hm) (by omega)) 0 rfl
  have hrW : Ex [] W W := Ex.refl _ _
  have hrS : Ex SB W W := Ex.refl _ _
  have hlb := hs.le; have hlb' := hs.big
  clear hTW hsW hs2W hT hs hs2 hBy hJ0 hJE hY hla hla2 hBe
  go_region_held3 (fun w' => Ex SB W w') (first | exact Ex.drew (by with_reducible assumption) | (with_reducible assumption) | exact (hmE _ (by first | (with_reducible assumption) | exact Ex.drew (by with_reducible assumption))).ex SB) (first | (go_at_call 48; refine (base_c p a cap _).mono ?_; rintro e w1 ⟨rfl, h1⟩; have hW1 : Ex [] W w1 := Ex.trans (by first | (with_reducible assumption) | exact Ex.drew hrW | exact hmE _ (by first | (with_reducible assumption) | exact Ex.drew hrW)) (h1.ex _); have hS1 : Ex SB W w1 := hW1.ex SB) | (go_at_call 66; refine (hx _ _ (by first | (with_reducible assumption) | exact Ex.drew hrW | exact hmE _ (by first | (with_reducible assumption) | exact Ex.drew hrW)) (Ex.size (S := []) (by first | (with_reducible assumption) | exact hrW)) (by first | exact hmO _ | exact (hmO2 W.drew _ (by simp)).ext (by assumption))).mono ?_; rintro e w6 ⟨rfl, hg6, hJ6, hS6⟩))
  all_goals go_wp2
  all_goals go_end0
  all_goals exact ⟨⟨_, rfl⟩, _, hg6, hJ6⟩
end Go.Proofs.Ythmicafabimfkaa


namespace Go.Proofs.Ythmicafabimfkaa
open Go.RowKit
attribute [local irreducible] wpYield wpPlan
attribute [local go_sem] Oper.semAt_some
theorem check_len {p : Recipe} (h : checkE p = 0) : p.lots.length ≤ 6 := by
  unfold checkE at h
  split at h
  · cases h
  · omega
theorem isLot_count {l : Lot} (h : isLotB l = true) : 0 ≤ l.count ∧ l.count ≤ 1000 := by
  unfold isLotB withinB at h
  simp only [Bool.and_eq_true, decide_eq_true_eq] at h
  omega
theorem onesM_len (p : Recipe) : (onesM p).length = p.lots.length := by simp [onesM]
theorem check_lot {p : Recipe} (h : checkE p = 0) : ∀ l ∈ p.lots, isLotB l = true := by
  unfold checkE at h
  split at h
  · cases h
  · split at h
    · cases h
    · rename_i h1
      intro l hl
      cases h2 : isLotB l
      · exfalso; apply h1
        have : (p.lots.any (fun l => !isLotB l)) = true := List.any_eq_true.2 ⟨l, hl, by simp [h2]⟩
        simp [this]
      · rfl
theorem ownB {a : Option Addr} {n c g : Nat} (h : (Value.slice a n c).ownBlock = some g) : ∃ b, a = some b ∧ b.block = g := by
  cases a with
  | none => cases h
  | some b => exact ⟨b, rfl, Option.some.inj h⟩
/-- The cheapest charge so far, and its cost. -/
def bestStep (lots : List Lot) (st : Option (List Int × Int)) (x : List Int × Mar) : Option (List Int × Int) :=
  match st with
  | none => if brokenM x.2 < 0 then some (x.1, costM lots x.1) else none
  | some s => if brokenM x.2 < 0 then if costM lots x.1 < s.2 then some (x.1, costM lots x.1) else some s else some s
def bestOf (lots : List Lot) (l : List (List Int × Mar)) : Option (List Int × Int) := l.foldl (bestStep lots) none
theorem bestOf_snoc (lots : List Lot) (l : List (List Int × Mar)) (x : List Int × Mar) : bestOf lots (l ++ [x]) = bestStep lots (bestOf lots l) x := by simp [bestOf]
def stL (st : Option (List Int × Int)) : List Int := match st with | none => [] | some s => s.1
def stC (st : Option (List Int × Int)) : Int := match st with | none => 0 | some s => s.2
def allCharges (p : Recipe) : List (List Int × Mar) := chargesR p (onesM p) p.lots.length [] (baseM p)
theorem Sl.not_one {w : World} {a : Option Addr} {cap : Nat} {xs : List Mar} (h : Sl 8 Mar.cells w a cap xs) (h0 : 0 < xs.length) {b : Addr} (hb : a = some b) {B : Nat} {v : Value} {T : TypeId} {z : Nat × Nat} (hB : w.heap[B]? = some (.cells #[v] T z)) : b.block ≠ B := fun e => by
  obtain ⟨b', off, ha, _, hc⟩ := h.cells h0
  rw [hb] at ha; cases ha
  have h1 := hc 0 h0 7 _ rfl
  simp only at e
  subst e
  simp [World.cell?, hB] at h1
def bestM (p : Recipe) : Option (List Int × Int) := if checkE p = 0 then if manyM p then none else bestOf p.lots (allCharges p) else none
def bestE (p : Recipe) : Int := if checkE p = 0 then if manyM p then 8 else if (bestOf p.lots (allCharges p)).isSome then 0 else 20 else checkE p
def BestPost (p : Recipe) (w : World) (e : Ending) (w' : World) : Prop :=
  ∃ a' c', e = .returned (.tuple #[.slice a' (stL (bestM p)).length c', .int .i64 (stC (bestM p)), .int .i64 (bestE p)]) ∧ Own 3 1 intCells w.heap.size w' (.slice a' (stL (bestM p)).length c') (stL (bestM p)) ∧ Ext w w'
set_option maxRecDepth 100000 in
set_option maxHeartbeats 4000000 in
theorem charges_c (a2 : Option Addr) (p : Recipe) (a : Option Addr) (cap cap2 : Nat) (ones : List Mar) (w : World) :
    Calls Try.prog 43 #[.agg #[.slice a p.lots.length cap, .int .i64 p.mass.lo, .int .i64 p.mass.hi, .int .i64 p.target.a.lo, .int .i64 p.target.a.hi, .int .i64 p.target.b.lo, .int .i64 p.target.b.hi, .int .i64 p.target.c.lo, .int .i64 p.target.c.hi, .slice a2 ones.length cap2]] w (fun e w' => e = .returned (.func (.func 65) #[] #[.pointer (some ⟨w.heap.size, 0, none⟩)]) ∧ Ext w w' ∧ w'.heap[w.heap.size]? = some (.cells #[.slice a p.lots.length cap, .int .i64 p.mass.lo, .int .i64 p.mass.hi, .int .i64 p.target.a.lo, .int .i64 p.target.a.hi, .int .i64 p.target.b.lo, .int .i64 p.target.b.hi, .int .i64 p.target.c.lo, .int .i64 p.target.c.hi, .slice a2 ones.length cap2] 103 (0, 0))) := by
  go_enter Try.func43, Try.ntmps43
  go_wp2_with fail
  go_returns
  exact ⟨rfl, (Ex.refl _ _).alloc _, blk_new _ _⟩
set_option maxRecDepth 100000 in
set_option maxHeartbeats 8000000 in
theorem best_c (p : Recipe) (a : Option Addr) (cap : Nat) (w : World) (hs : SlL w a cap p.lots) :
    Calls Try.prog 22 #[.agg #[.slice a p.lots.length cap, .int .i64 p.mass.lo, .int .i64 p.mass.hi, .int .i64 p.target.a.lo, .int .i64 p.target.a.hi, .int .i64 p.target.b.lo, .int .i64 p.target.b.hi, .int .i64 p.target.c.lo, .int .i64 p.target.c.hi]] w (BestPost p w) := by
  refine calls_of_wpM Try.func22 rfl ?_
  simp only [Try.ntmps22, List.size_toArray, List.length_cons, List.length_nil, Nat.reduceAdd, Nat.reduceSub, Array.replicate_succ, Array.replicate_zero, List.push_toArray, List.append_toArray, List.nil_append, List.cons_append]
  go_upto_region 1 with (fail)
  refine wp_at (fun W => Ext w W ∧ w.heap.size + 3 = W.heap.size ∧ W.heap[w.heap.size]? = some (.cells #[.slice a p.lots.length cap, .int .i64 p.mass.lo, .int .i64 p.mass.hi, .int .i64 p.target.a.lo, .int .i64 p.target.a.hi, .int .i64 p.target.b.lo, .int .i64 p.target.b.hi, .int .i64 p.target.c.lo, .int .i64 p.target.c.hi] 65 (0, 0)) ∧ W.heap[w.heap.size + 1]? = some (.cells #[.slice none 0 0] 34 (0, 0)) ∧ W.heap[w.heap.size + 1 + 1]? = some (.cells #[.int .i64 0] 3 (0, 0))) ⟨by (repeat (with_reducible first | exact Ex.refl _ _ | assumption | exact Ex.mono (by assumption) (by simp; done) | refine Ex.alloc ?_ _ | refine Ex.drew ?_ | refine Ex.drewN ?_ _ | refine Ex.setCell ?_ (by first | (left; simp; done) | (right; simp; done) | (right; simp; omega)) _ | refine Ex.trans ?_ (by assumption))), by simp, blk_alloc (blk_alloc (blk_new _ _)), blk_alloc (by have h := blk_new ((w).alloc (.cells #[.slice a p.lots.length cap, .int .i64 p.mass.lo, .int .i64 p.mass.hi, .int .i64 p.target.a.lo, .int .i64 p.target.a.hi, .int .i64 p.target.b.lo, .int .i64 p.target.b.hi, .int .i64 p.target.c.lo, .int .i64 p.target.c.hi] 65 (0, 0))) (.cells #[.slice none 0 0] 34 (0, 0)); simpa using h), by have h := blk_new (((w).alloc (.cells #[.slice a p.lots.length cap, .int .i64 p.mass.lo, .int .i64 p.mass.hi, .int .i64 p.target.a.lo, .int .i64 p.target.a.hi, .int .i64 p.target.b.lo, .int .i64 p.target.b.hi, .int .i64 p.target.c.lo, .int .i64 p.target.c.hi] 65 (0, 0))).alloc (.cells #[.slice none 0 0] 34 (0, 0))) (.cells #[.int .i64 0] 3 (0, 0)); simpa using h⟩ (fun W hW => ?_)
  obtain ⟨hr0, hsz, hB0, hB1, hB2⟩ := hW
  have hr : Ex [] W W := Ex.refl _ _
  have f0_0 := cellE (S := []) hB0 (by first | (simp; done) | (simp; omega)) 0 rfl
  have f0_1 := cellE (S := []) hB0 (by first | (simp; done) | (simp; omega)) 1 rfl
  have f0_2 := cellE (S := []) hB0 (by first | (simp; done) | (simp; omega)) 2 rfl
  have f0_3 := cellE (S := []) hB0 (by first | (simp; done) | (simp; omega)) 3 rfl
  have f0_4 := cellE (S := []) hB0 (by first | (simp; done) | (simp; omega)) 4 rfl
  have f0_5 := cellE (S := []) hB0 (by first | (simp; done) | (simp; omega)) 5 rfl
  have f0_6 := cellE (S := []) hB0 (by first | (simp; done) | (simp; omega)) 6 rfl
  have f0_7 := cellE (S := []) hB0 (by first | (simp; done) | (simp; omega)) 7 rfl
  have f0_8 := cellE (S := []) hB0 (by first | (simp; done) | (simp; omega)) 8 rfl
  have f1_0 := cellE (S := []) hB1 (by first | (simp; done) | (simp; omega)) 0 rfl
  have f2_0 := cellE (S := []) hB2 (by first | (simp; done) | (simp; omega)) 0 rfl
  have z1_0 := freeE (S := []) hB1 (by first | (simp; done) | (simp; omega)) 0
  have z2_0 := freeE (S := []) hB2 (by first | (simp; done) | (simp; omega)) 0
  clear hB0
  have hsz' := Nat.le_of_eq hsz.symm; have hsz'' := Nat.le_of_eq hsz; clear hsz
  have hB1' := Lib.hid hB1; have hB2' := Lib.hid hB2; clear hB1 hB2
  cases hb0 : (checkE p != 0)
  case true =>
    have hq : ¬ checkE p = 0 := by simpa using hb0
    go_wp2_with (go_at_call 40; refine (check_c p a cap _ (hs.ext (hr0.trans (by first | (with_reducible assumption) | (repeat (with_reducible first | exact Ex.refl _ _ | assumption | exact Ex.mono (by assumption) (by simp; done) | refine Ex.alloc ?_ _ | refine Ex.drew ?_ | refine Ex.drewN ?_ _ | refine Ex.setCell ?_ (by first | (left; simp; done) | (right; simp; done) | (right; simp; omega)) _ | refine Ex.trans ?_ (by assumption))))))).mono ?_; rintro e w1 ⟨rfl, h1⟩; replace h1 : Ex [] W w1 := Ex.trans (by first | (with_reducible assumption) | (repeat (with_reducible first | exact Ex.refl _ _ | assumption | exact Ex.mono (by assumption) (by simp; done) | refine Ex.alloc ?_ _ | refine Ex.drew ?_ | refine Ex.drewN ?_ _ | refine Ex.setCell ?_ (by first | (left; simp; done) | (right; simp; done) | (right; simp; omega)) _ | refine Ex.trans ?_ (by assumption)))) (h1.ex _))
    (try simp only [Exit.inBlock, Exit.then])
    refine retM_at (fun X => Ext w X ∧ X.heap[w.heap.size + 1]? = some (.cells #[.slice none 0 0] 34 (0, 0)) ∧ X.heap[w.heap.size + 1 + 1]? = some (.cells #[.int .i64 0] 3 (0, 0))) ⟨by (repeat (with_reducible first | exact Ex.refl _ _ | assumption | exact Ex.trans hr0 (by assumption) | exact Ex.mono (by assumption) (by simp; done) | refine Ex.alloc ?_ _ | refine Ex.drew ?_ | refine Ex.drewN ?_ _ | refine Ex.setCell ?_ (by first | (left; simp; done) | (right; simp; done) | (right; simp; omega)) _ | refine Ex.trans ?_ (by assumption))), blk_set_other (blk_set (h1.heap (by simp) hB1'.out) 0 _) (by omega), blk_set (blk_set_other (h1.heap (by simp) hB2'.out) (by omega)) 0 _⟩ (fun X hX => ?_)
    obtain ⟨hX1, hX2, hX3⟩ := hX
    have x2 := blk_cell hX2 0 rfl
    have x3 := blk_cell hX3 0 rfl
    refine postM_ret (v := .tuple #[.slice none 0 0, .int .i64 0, .int .i64 (checkE p)]) (by simp [results, Try.results22, go_sem, x2, x3]) rfl ⟨none, 0, by simp [bestM, bestE, stL, stC, hq], by rw [show stL (bestM p) = [] from by simp [bestM, stL, hq]]; exact Own.nil _, hX1⟩
  case false =>
    have hq : checkE p = 0 := by simpa using hb0
    have hlen := check_len hq
    have hcnt : ∀ k, k < p.lots.length → 0 ≤ (nth p.lots .zero k).count ∧ (nth p.lots .zero k).count ≤ 1000 := fun k hk => by
      rw [← nth_eq p.lots .zero k hk]; exact isLot_count (check_lot hq _ (List.getElem_mem hk))
    have hq' := Lib.hid hq; clear hq
    go_upto_region 4 with (go_at_call 40; refine (check_c p a cap _ (hs.ext (hr0.trans (by first | (with_reducible assumption) | (repeat (with_reducible first | exact Ex.refl _ _ | assumption | exact Ex.mono (by assumption) (by simp; done) | refine Ex.alloc ?_ _ | refine Ex.drew ?_ | refine Ex.drewN ?_ _ | refine Ex.setCell ?_ (by first | (left; simp; done) | (right; simp; done) | (right; simp; omega)) _ | refine Ex.trans ?_ (by assumption))))))).mono ?_; rintro e w1 ⟨rfl, h1⟩; replace h1 : Ex [] W w1 := Ex.trans (by first | (with_reducible assumption) | (repeat (with_reducible first | exact Ex.refl _ _ | assumption | exact Ex.mono (by assumption) (by simp; done) | refine Ex.alloc ?_ _ | refine Ex.drew ?_ | refine Ex.drewN ?_ _ | refine Ex.setCell ?_ (by first | (left; simp; done) | (right; simp; done) | (right; simp; omega)) _ | refine Ex.trans ?_ (by assumption)))) (h1.ex _))
    go_upto_region 5 with (go_at_call 41; refine (newTable_c p a cap _ (hs.ext (hr0.trans (by first | (with_reducible assumption) | (repeat (with_reducible first | exact Ex.refl _ _ | assumption | exact Ex.mono (by assumption) (by simp; done) | refine Ex.alloc ?_ _ | refine Ex.drew ?_ | refine Ex.drewN ?_ _ | refine Ex.setCell ?_ (by first | (left; simp; done) | (right; simp; done) | (right; simp; omega)) _ | refine Ex.trans ?_ (by assumption)))))) (by omega)).mono ?_; rintro e w2 ⟨a2, cap2, rfl, hS2, h2⟩; replace h2 : Ex [] W w2 := Ex.trans (by first | (with_reducible assumption) | (repeat (with_reducible first | exact Ex.refl _ _ | assumption | exact Ex.mono (by assumption) (by simp; done) | refine Ex.alloc ?_ _ | refine Ex.drew ?_ | refine Ex.drewN ?_ _ | refine Ex.setCell ?_ (by first | (left; simp; done) | (right; simp; done) | (right; simp; omega)) _ | refine Ex.trans ?_ (by assumption)))) (h2.ex _))
    refine wp_at (fun X => Ex [] w2 X ∧ X.heap[w2.heap.size]? = some (.cells #[.slice a p.lots.length cap, .int .i64 p.mass.lo, .int .i64 p.mass.hi, .int .i64 p.target.a.lo, .int .i64 p.target.a.hi, .int .i64 p.target.b.lo, .int .i64 p.target.b.hi, .int .i64 p.target.c.lo, .int .i64 p.target.c.hi, .slice a2 (onesM p).length cap2] 103 (0, 0))) ⟨by (repeat (with_reducible first | exact Ex.refl _ _ | assumption | exact Ex.mono (by assumption) (by simp; done) | refine Ex.alloc ?_ _ | refine Ex.drew ?_ | refine Ex.drewN ?_ _ | refine Ex.setCell ?_ (by first | (left; simp; done) | (right; simp; done) | (right; simp; omega)) _ | refine Ex.trans ?_ (by assumption))), blk_new _ _⟩ (fun X hX => ?_)
    obtain ⟨hX, hT⟩ := hX
    obtain ⟨bt, hbt⟩ : ∃ b, b = w2.heap.size := ⟨_, rfl⟩
    rw [← hbt] at hT ⊢
    have h2s := h2.size
    have hbt0 : W.heap.size ≤ bt := by omega
    clear hbt
    have hWX : Ex [] W X := h2.trans hX
    have hwX : Ex [] w X := hr0.trans hWX
    have hrX : Ex [] X X := Ex.refl _ _
    have t0 := cellE (S := []) hT (by simp) 0 rfl
    have t1 := cellE (S := []) hT (by simp) 1 rfl
    have t2 := cellE (S := []) hT (by simp) 2 rfl
    have t3 := cellE (S := []) hT (by simp) 3 rfl
    have t4 := cellE (S := []) hT (by simp) 4 rfl
    have t5 := cellE (S := []) hT (by simp) 5 rfl
    have t6 := cellE (S := []) hT (by simp) 6 rfl
    have t7 := cellE (S := []) hT (by simp) 7 rfl
    have t8 := cellE (S := []) hT (by simp) 8 rfl
    have t9 := cellE (S := []) hT (by simp) 9 rfl
    replace f1_0 := fun w' (h : Ex [] X w') => f1_0 w' (hWX.trans h)
    replace z1_0 := fun w' (h : Ex [] X w') => z1_0 w' (hWX.trans h)
    replace f2_0 := fun w' (h : Ex [] X w') => f2_0 w' (hWX.trans h)
    replace z2_0 := fun w' (h : Ex [] X w') => z2_0 w' (hWX.trans h)
    have hsX := hs.ext hwX
    have hSX := hS2.ext hX
    clear hS2 h1 h2 hX f0_0 f0_1 f0_2 f0_3 f0_4 f0_5 f0_6 f0_7 f0_8
    cases hm : manyM p
    case true =>
      go_wp2_with (go_at_call 42; refine (many_c p a cap a2 (onesM p).length cap2 _ hsX).mono ?_; rintro e w1 ⟨rfl, h1⟩; replace h1 : Ex [] X w1 := Ex.trans (by first | (with_reducible assumption) | (repeat (with_reducible first | exact Ex.refl _ _ | assumption | exact Ex.mono (by assumption) (by simp; done) | refine Ex.alloc ?_ _ | refine Ex.drew ?_ | refine Ex.drewN ?_ _ | refine Ex.setCell ?_ (by first | (left; simp; done) | (right; simp; done) | (right; simp; omega)) _ | refine Ex.trans ?_ (by assumption)))) (h1.ex _))
      (try simp only [Exit.inBlock, Exit.then])
      refine retM_at (fun X => Ext w X ∧ X.heap[w.heap.size + 1]? = some (.cells #[.slice none 0 0] 34 (0, 0)) ∧ X.heap[w.heap.size + 1 + 1]? = some (.cells #[.int .i64 0] 3 (0, 0))) ⟨by (repeat (with_reducible first | exact Ex.refl _ _ | assumption | exact Ex.trans hwX (by assumption) | exact Ex.mono (by assumption) (by simp; done) | refine Ex.alloc ?_ _ | refine Ex.drew ?_ | refine Ex.drewN ?_ _ | refine Ex.setCell ?_ (by first | (left; simp; done) | (right; simp; done) | (right; simp; omega)) _ | refine Ex.trans ?_ (by assumption))), blk_set_other (blk_set (h1.heap (by simp) (hWX.heap (by simp) hB1'.out)) 0 _) (by omega), blk_set (blk_set_other (h1.heap (by simp) (hWX.heap (by simp) hB2'.out)) (by omega)) 0 _⟩ (fun X hX => ?_)
      obtain ⟨hX1, hX2, hX3⟩ := hX
      have x2 := blk_cell hX2 0 rfl
      have x3 := blk_cell hX3 0 rfl
      refine postM_ret (v := .tuple #[.slice none 0 0, .int .i64 0, .int .i64 8]) (by simp [results, Try.results22, go_sem, x2, x3]) rfl ⟨none, 0, by simp [bestM, bestE, stL, stC, hq'.out, hm], by rw [show stL (bestM p) = [] from by simp [bestM, stL, hq'.out, hm]]; exact Own.nil _, hX1⟩
    case false =>
      have hon := Lib.hid (onesM_len p)
      go_upto_region 8 with (go_at_call 42; refine (many_c p a cap a2 (onesM p).length cap2 _ hsX).mono ?_; rintro e w1 ⟨rfl, h1⟩; replace h1 : Ex [] X w1 := Ex.trans (by first | (with_reducible assumption) | (repeat (with_reducible first | exact Ex.refl _ _ | assumption | exact Ex.mono (by assumption) (by simp; done) | refine Ex.alloc ?_ _ | refine Ex.drew ?_ | refine Ex.drewN ?_ _ | refine Ex.setCell ?_ (by first | (left; simp; done) | (right; simp; done) | (right; simp; omega)) _ | refine Ex.trans ?_ (by assumption)))) (h1.ex _))
      refine wp_at (fun Y => Ex [] X Y ∧ ∃ bf, bf = w1.heap.size ∧ Y.heap[bf]? = some (.cells #[.bool false] 4 (0, 0))) ⟨by (repeat (with_reducible first | exact Ex.refl _ _ | assumption | exact Ex.mono (by assumption) (by simp; done) | refine Ex.alloc ?_ _ | refine Ex.drew ?_ | refine Ex.drewN ?_ _ | refine Ex.setCell ?_ (by first | (left; simp; done) | (right; simp; done) | (right; simp; omega)) _ | refine Ex.trans ?_ (by assumption))), _, rfl, blk_new _ _⟩ (fun Y hY => ?_)
      obtain ⟨hXY, bf, hbf, hF⟩ := hY
      rw [← hbf]
      have h1s := h1.size
      have hbf0 : X.heap.size ≤ bf := by omega
      clear hbf h1
      go_wp2_with (go_at_call 43; refine (charges_c a2 p a cap cap2 (onesM p) _).mono ?_; rintro e w4 ⟨rfl, h4, hT4⟩; have h4s := h4.size)
      have hXs := hwX.size
      have hYs := hXY.size
      have hYf := lt_of_block hF
      have hT4' := lt_of_block hT4
      have hwV : Ex [] w w4 := hwX.trans (hXY.trans h4)
      have hXV : Ex [] X w4 := hXY.trans h4
      have hB1X := hWX.heap (by simp) hB1'.out
      have hB2X := hWX.heap (by simp) hB2'.out
      have hB1V := hXV.heap (by simp) hB1X
      have hB2V := hXV.heap (by simp) hB2X
      have hFV := h4.heap (by simp) hF
      have hTV := hXV.heap (by simp) hT
      have hsV := hs.ext hwV
      have hSV := hSX.ext hXV
      have hlotb : 0 < p.lots.length → ∀ b, a = some b → b.block < w.heap.size := fun h0 b hb => by
        obtain ⟨b', off, hb', hlt, _⟩ := hs.cells h0; rw [hb] at hb'; cases hb'; exact hlt
      have honeb : 0 < (onesM p).length → ∀ b, a2 = some b → b.block < X.heap.size ∧ b.block ≠ w.heap.size + 1 ∧ b.block ≠ w.heap.size + 1 + 1 := fun h0 b hb =>
        ⟨by obtain ⟨b', off, hb', hlt, _⟩ := hSX.cells h0; rw [hb] at hb'; cases hb'; exact hlt, hSX.not_one h0 hb hB1X, hSX.not_one h0 hb hB2X⟩
      have hV1 := lt_of_block hB1V
      have hV2 := lt_of_block hB2V
      have hVf := lt_of_block hFV
      have hVt := lt_of_block hTV
      have hbtX := lt_of_block hT
      have hSBv : ∀ x ∈ [w.heap.size + 1, w.heap.size + 1 + 1, bf], x < w4.heap.size := fun x hx => by
        simp only [List.mem_cons, List.not_mem_nil, or_false] at hx; omega
      clear hr0 hr hWX hwX hrX hXY h4 f1_0 f2_0 z1_0 z2_0 hB1X hB2X hB1' hB2' hF hT t0 t1 t2 t3 t4 t5 t6 t7 t8 t9
      refine range_all (α := List Int × Mar) (gf := 65) (lb := #[.pointer (some ⟨Y.heap.size, 0, none⟩)]) rfl (fun _ _ => rfl) (fun γ x => #[.slice (some ⟨γ, 0, none⟩) p.lots.length p.lots.length, .agg #[.int .i64 x.2.m0, .int .i64 x.2.m1, .int .i64 x.2.m2, .int .i64 x.2.m3, .int .i64 x.2.m4, .int .i64 x.2.m5, .int .i64 x.2.m6, .int .i64 x.2.m7]]) (fun _ _ => rfl) (allCharges p) [w.heap.size + 1, w.heap.size + 1 + 1, bf] hSBv
        (fun γ pre W => Ex [w.heap.size + 1, w.heap.size + 1 + 1, bf] w4 W ∧ (∃ ac cc, W.heap[w.heap.size + 1]? = some (.cells #[.slice ac (stL (bestOf p.lots pre)).length cc] 34 (0, 0)) ∧ Own 3 1 intCells (w4.heap.size + 2) W (.slice ac (stL (bestOf p.lots pre)).length cc) (stL (bestOf p.lots pre)) ∧ (∀ b, ac = some b → w4.heap.size + 2 ≤ b.block ∧ b.block ≠ γ)) ∧ W.heap[w.heap.size + 1 + 1]? = some (.cells #[.int .i64 (stC (bestOf p.lots pre))] 3 (0, 0)) ∧ W.heap[bf]? = some (.cells #[.bool (bestOf p.lots pre).isSome] 4 (0, 0)))
        (fun γ x W => (x.1.length = p.lots.length ∧ γ < W.heap.size) ∧ SlI W (some ⟨γ, 0, none⟩) p.lots.length x.1)
        (fun γ x b W => ∃ bm, b = { tmps := #[.agg #[.slice a p.lots.length cap, .int .i64 p.mass.lo, .int .i64 p.mass.hi, .int .i64 p.target.a.lo, .int .i64 p.target.a.hi, .int .i64 p.target.b.lo, .int .i64 p.target.b.hi, .int .i64 p.target.c.lo, .int .i64 p.target.c.hi], .pointer (some ⟨w.heap.size, 0, none⟩), .pointer (some ⟨w.heap.size + 1, 0, none⟩), .pointer (some ⟨w.heap.size + 1 + 1, 0, none⟩), .int .i64 0, .int .i64 ((checkE p)), .pointer (some ⟨bt, 0, none⟩), .pointer (some ⟨bf, 0, none⟩), .slice (some ⟨γ, 0, none⟩) p.lots.length p.lots.length, .pointer (some ⟨bm, 0, none⟩), undef, .agg #[.slice a p.lots.length cap, .int .i64 p.mass.lo, .int .i64 p.mass.hi, .int .i64 p.target.a.lo, .int .i64 p.target.a.hi, .int .i64 p.target.b.lo, .int .i64 p.target.b.hi, .int .i64 p.target.c.lo, .int .i64 p.target.c.hi], .int .i64 ((checkE p)), .int .i64 ((checkE p)), .bool false, undef, .agg #[.slice a p.lots.length cap, .int .i64 p.mass.lo, .int .i64 p.mass.hi, .int .i64 p.target.a.lo, .int .i64 p.target.a.hi, .int .i64 p.target.b.lo, .int .i64 p.target.b.hi, .int .i64 p.target.c.lo, .int .i64 p.target.c.hi], .agg #[.slice a p.lots.length cap, .int .i64 p.mass.lo, .int .i64 p.mass.hi, .int .i64 p.target.a.lo, .int .i64 p.target.a.hi, .int .i64 p.target.b.lo, .int .i64 p.target.b.hi, .int .i64 p.target.c.lo, .int .i64 p.target.c.hi, .slice a2 (onesM p).length cap2], .agg #[.slice a p.lots.length cap, .int .i64 p.mass.lo, .int .i64 p.mass.hi, .int .i64 p.target.a.lo, .int .i64 p.target.a.hi, .int .i64 p.target.b.lo, .int .i64 p.target.b.hi, .int .i64 p.target.c.lo, .int .i64 p.target.c.hi, .slice a2 (onesM p).length cap2], .bool false, .agg #[.slice a p.lots.length cap, .int .i64 p.mass.lo, .int .i64 p.mass.hi, .int .i64 p.target.a.lo, .int .i64 p.target.a.hi, .int .i64 p.target.b.lo, .int .i64 p.target.b.hi, .int .i64 p.target.c.lo, .int .i64 p.target.c.hi, .slice a2 (onesM p).length cap2], .func (.func 65) #[] #[.pointer (some ⟨Y.heap.size, 0, none⟩)], .slice (some ⟨γ, 0, none⟩) p.lots.length p.lots.length, .agg #[.int .i64 x.2.m0, .int .i64 x.2.m1, .int .i64 x.2.m2, .int .i64 x.2.m3, .int .i64 x.2.m4, .int .i64 x.2.m5, .int .i64 x.2.m6, .int .i64 x.2.m7], undef, undef, undef, undef, undef, undef, undef, undef, undef, undef, undef, undef, undef, undef, undef, undef, undef, undef, undef, undef, undef, undef], defers := [] } ∧ W.heap[bm]? = some (.cells #[.int .i64 x.2.m0, .int .i64 x.2.m1, .int .i64 x.2.m2, .int .i64 x.2.m3, .int .i64 x.2.m4, .int .i64 x.2.m5, .int .i64 x.2.m6, .int .i64 x.2.m7] 108 (0, 0)) ∧ w4.heap.size + 2 ≤ bm)
        ?_ ?_ ?_ ?_ ?_ ?_ ?_ ?_ ?_
      · rintro γ pre W W' ⟨h1, ⟨ac, cc, h2, h3, h4⟩, h5, h6⟩ hx
        exact ⟨h1.trans_fresh hx (by simp), ⟨ac, cc, hx.heap (by simp; omega) h2, h3.ex hx (fun gg hgg => by obtain ⟨b, hb, rfl⟩ := ownB hgg; have := h4 b hb; simp; omega), h4⟩, hx.heap (by simp; omega) h5, hx.heap (by simp; omega) h6⟩
      · rintro γ x W W' hγ ⟨h1, h2⟩ hx
        exact ⟨⟨h1.1, Nat.lt_of_lt_of_le h1.2 hx.size⟩, h2.ex0 hx (fun h0 b hb => by cases hb; simp; omega)⟩
      · rintro γ x b W W' ⟨bm, h1, h2, h3⟩ hx
        exact ⟨bm, h1, hx.heap (by simp; omega) h2, h3⟩
      · intro γ W hγ hx
        exact ⟨hx.ex _, ⟨none, 0, hx.heap (by simp) hB1V, Own.nil _, fun b hb => by cases hb⟩, hx.heap (by simp) hB2V, hx.heap (by simp) hFV⟩
      · rintro γ pre W W' hγ ⟨h1, ⟨ac, cc, h2, h3, h4⟩, h5, h6⟩ hx
        exact ⟨h1.trans_fresh hx (by simp; omega), ⟨ac, cc, hx.heap (by simp; omega) h2, h3.ex hx (fun gg hgg => by obtain ⟨b, hb, rfl⟩ := ownB hgg; have := h4 b hb; simp; exact this.2), h4⟩, hx.heap (by simp; omega) h5, hx.heap (by simp; omega) h6⟩
      · intro W1 J hx1 hs1 hJ0 hJE hY
        exact charges1_c p a cap a2 cap2 (onesM p) hcnt (by omega) hon (w4.heap.size + 1) Y.heap.size ((w4.heap.size + 1) :: [w.heap.size + 1, w.heap.size + 1 + 1, bf]) J W1 (hx1.heap (by simp) hT4)
          (by simp; omega) (fun x hx => by simp only [List.mem_cons, List.not_mem_nil, or_false] at hx; omega) (hsV.ext hx1) (hSV.ext hx1)
          (fun h0 b hb => by have := hlotb h0 b hb; simp; omega) (fun h0 b hb => by have := honeb h0 b hb; simp; omega) hJ0 hJE
          (fun g hg pre c m W hj hc hsl => hY g hg pre (c, m) W hj ⟨hc, hsl⟩)
      · rintro γ pre x W hγ hWs hi hc
        gi_wp2
        exact ⟨(Ex.refl _ _).alloc _, W.heap.size, rfl, blk_new _ _, by omega⟩
      · rintro γ pre x b W hγ ⟨h1, ⟨ac, cc, h2, h3, h4⟩, h5, h6⟩ ⟨⟨hxl, hγlt⟩, hxs⟩ ⟨bm, rfl, hbm, hbm2⟩
        obtain ⟨xc, xm⟩ := x
        simp only at hxl hxs hbm hγlt
        have hrW : Ex [] W W := Ex.refl _ _
        have hTW := h1.heap (by simp; omega) hTV
        have t0 := cellE (S := []) hTW (by simp) 0 rfl
        have t1 := cellE (S := []) hTW (by simp) 1 rfl
        have t2 := cellE (S := []) hTW (by simp) 2 rfl
        have t3 := cellE (S := []) hTW (by simp) 3 rfl
        have t4 := cellE (S := []) hTW (by simp) 4 rfl
        have t5 := cellE (S := []) hTW (by simp) 5 rfl
        have t6 := cellE (S := []) hTW (by simp) 6 rfl
        have t7 := cellE (S := []) hTW (by simp) 7 rfl
        have t8 := cellE (S := []) hTW (by simp) 8 rfl
        have t9 := cellE (S := []) hTW (by simp) 9 rfl
        have m0 := cellE (S := []) hbm (by simp) 0 rfl
        have m1 := cellE (S := []) hbm (by simp) 1 rfl
        have m2 := cellE (S := []) hbm (by simp) 2 rfl
        have m3 := cellE (S := []) hbm (by simp) 3 rfl
        have m4 := cellE (S := []) hbm (by simp) 4 rfl
        have m5 := cellE (S := []) hbm (by simp) 5 rfl
        have m6 := cellE (S := []) hbm (by simp) 6 rfl
        have m7 := cellE (S := []) hbm (by simp) 7 rfl
        have g1 := cellE (S := []) h2 (by simp) 0 rfl
        have g2 := cellE (S := []) h5 (by simp) 0 rfl
        have g3 := cellE (S := []) h6 (by simp) 0 rfl
        have q1 := freeE (S := []) h2 (by simp) 0
        have q2 := freeE (S := []) h5 (by simp) 0
        have q3 := freeE (S := []) h6 (by simp) 0
        have hsW := hsV.ex0 h1 (fun h0 b hb => by have := hlotb h0 b hb; simp; omega)
        have hcost : ∀ w', Ex [] W w' → Calls Try.prog 44 #[.agg #[.slice a p.lots.length cap, .int .i64 p.mass.lo, .int .i64 p.mass.hi, .int .i64 p.target.a.lo, .int .i64 p.target.a.hi, .int .i64 p.target.b.lo, .int .i64 p.target.b.hi, .int .i64 p.target.c.lo, .int .i64 p.target.c.hi, .slice a2 (onesM p).length cap2], .slice (some ⟨γ, 0, none⟩) p.lots.length p.lots.length] w' (Ret (.int .i64 (costM p.lots xc)) w') := fun w' h => by
          have h0 := cost_c p a cap a2 (onesM p).length cap2 xc (some ⟨γ, 0, none⟩) p.lots.length w' (hsW.ext h) (hxs.ext h) (by omega)
          rw [hxl] at h0; exact h0
        have hclone : ∀ w', Ex [] W w' → Calls Try.prog 46 #[.slice (some ⟨γ, 0, none⟩) p.lots.length p.lots.length] w' (fun e w'' => ∃ a' c', e = .returned (.slice a' p.lots.length c') ∧ Own 3 1 intCells w'.heap.size w'' (.slice a' p.lots.length c') xc ∧ Ext w' w'') := fun w' h => by
          have h0 := cloneI_c (some ⟨γ, 0, none⟩) p.lots.length xc w' (hxs.ext h) (by omega)
          rw [hxl] at h0; exact h0
        have hbmW := lt_of_block hbm
        have hxl' := Lib.hid hxl; clear hxl
        have hTW' := Lib.hid hTW; clear hTW hbm
        have hsn := bestOf_snoc p.lots pre (xc, xm)
        obtain ⟨st, hst⟩ : ∃ st, st = bestOf p.lots pre := ⟨_, rfl⟩
        rw [← hst] at h2 h3 h5 h6 g1 g2 g3 hsn
        have hsn' := Lib.hid hsn; clear hsn hst
        have h2' := Lib.hid h2; have h5' := Lib.hid h5; have h6' := Lib.hid h6; clear h2 h5 h6
        have same : ∀ W', Ex [] W W' → bestStep p.lots st (xc, xm) = st → Exit.normal = Exit.normal ∧ (Ex [w.heap.size + 1, w.heap.size + 1 + 1, bf] w4 W' ∧ (∃ ac cc, W'.heap[w.heap.size + 1]? = some (.cells #[.slice ac (stL (bestOf p.lots (pre ++ [(xc, xm)]))).length cc] 34 (0, 0)) ∧ Own 3 1 intCells (w4.heap.size + 2) W' (.slice ac (stL (bestOf p.lots (pre ++ [(xc, xm)]))).length cc) (stL (bestOf p.lots (pre ++ [(xc, xm)]))) ∧ (∀ b, ac = some b → w4.heap.size + 2 ≤ b.block ∧ b.block ≠ γ)) ∧ W'.heap[w.heap.size + 1 + 1]? = some (.cells #[.int .i64 (stC (bestOf p.lots (pre ++ [(xc, xm)])))] 3 (0, 0)) ∧ W'.heap[bf]? = some (.cells #[.bool (bestOf p.lots (pre ++ [(xc, xm)])).isSome] 4 (0, 0))) ∧ Ex [w.heap.size + 1, w.heap.size + 1 + 1, bf] W W' := fun W' hx he => by
          rw [hsn'.out, he]
          exact ⟨rfl, ⟨h1.trans (hx.ex _), ⟨ac, cc, hx.heap (by simp) h2'.out, h3.ext hx, h4⟩, hx.heap (by simp) h5'.out, hx.heap (by simp) h6'.out⟩, hx.ex _⟩
        have done : ∀ w7 a' c', Ex [] W w7 → Own 3 1 intCells W.heap.size w7 (.slice a' p.lots.length c') xc → bestStep p.lots st (xc, xm) = some (xc, costM p.lots xc) → ∀ W', W' = ((w7.setCell ⟨w.heap.size + 1, 0, none⟩ (.slice a' p.lots.length c')).setCell ⟨w.heap.size + 1 + 1, 0, none⟩ (.int .i64 (costM p.lots xc))).setCell ⟨bf, 0, none⟩ (.bool true) → Exit.normal = Exit.normal ∧ (Ex [w.heap.size + 1, w.heap.size + 1 + 1, bf] w4 W' ∧ (∃ ac cc, W'.heap[w.heap.size + 1]? = some (.cells #[.slice ac (stL (bestOf p.lots (pre ++ [(xc, xm)]))).length cc] 34 (0, 0)) ∧ Own 3 1 intCells (w4.heap.size + 2) W' (.slice ac (stL (bestOf p.lots (pre ++ [(xc, xm)]))).length cc) (stL (bestOf p.lots (pre ++ [(xc, xm)]))) ∧ (∀ b, ac = some b → w4.heap.size + 2 ≤ b.block ∧ b.block ≠ γ)) ∧ W'.heap[w.heap.size + 1 + 1]? = some (.cells #[.int .i64 (stC (bestOf p.lots (pre ++ [(xc, xm)])))] 3 (0, 0)) ∧ W'.heap[bf]? = some (.cells #[.bool (bestOf p.lots (pre ++ [(xc, xm)])).isSome] 4 (0, 0))) ∧ Ex [w.heap.size + 1, w.heap.size + 1 + 1, bf] W W' := fun w7 a' c' hx hO he W' hW' => by
          have hx7 : Ex [w.heap.size + 1, w.heap.size + 1 + 1, bf] w7 W' := by
            rw [hW']
            exact (((Ex.refl _ _).setCell (.inl (by simp)) _).setCell (.inl (by simp)) _).setCell (.inl (by simp)) _
          have e2 := hx.heap (by simp) h2'.out
          have e5 := hx.heap (by simp) h5'.out
          have e6 := hx.heap (by simp) h6'.out
          rw [hsn'.out, he]
          have hbs : ∀ b, a' = some b → W.heap.size ≤ b.block := fun b hb => hO.base_le (by rw [hb]; rfl)
          have hz4 := h1.size
          refine ⟨rfl, ⟨h1.trans ((hx.ex _).trans hx7), ⟨a', c', ?_, ?_, ?_⟩, ?_, ?_⟩, (hx.ex _).trans hx7⟩
          · rw [hW']; simp only [stL]; rw [hxl'.out]; exact blk_set_other (blk_set_other (blk_set e2 0 _) (by omega)) (by omega)
          · have hO2 := (hO.mono (b' := w4.heap.size + 2) (by omega)).ex hx7 (fun gg hgg => by obtain ⟨b, hb, rfl⟩ := ownB hgg; have := hbs b hb; simp; omega)
            rw [← hxl'.out] at hO2
            exact hO2
          · intro b hb
            have := hbs b hb; omega
          · rw [hW']; exact blk_set_other (blk_set (blk_set_other e5 (by omega)) 0 _) (by omega)
          · rw [hW']; exact blk_set (blk_set_other (blk_set_other e6 (by omega)) (by omega)) 0 _
        have hsz4 := h1.size
        clear h2' h5' h6'
        cases st with
        | none =>
          simp only [stL, stC, Option.isSome_none, List.length_nil] at g1 g2 g3
          by_cases hb1 : brokenM xm < 0
          · have he : bestStep p.lots none (xc, xm) = some (xc, costM p.lots xc) := by simp [bestStep, hb1]
            have done' := Lib.hid (done · · · · · he); clear done same he
            gi_wp2_with (first | (refine ⟨trivial, ?_⟩; gi_at_call 44; refine (CallsIn.inRound _ (callsIn_wide.2 (hcost _ (by first | (with_reducible assumption) | (repeat (with_reducible first | exact Ex.refl _ _ | assumption | exact Ex.mono (by assumption) (by simp; done) | refine Ex.alloc ?_ _ | refine Ex.drew ?_ | refine Ex.drewN ?_ _ | refine Ex.setCell ?_ (by first | (left; simp; done) | (right; simp; done) | (right; simp; omega)) _ | refine Ex.trans ?_ (by assumption))))))).mono ?_; rintro e w5 ⟨rfl, hx5⟩; replace hx5 : Ex [] W w5 := Ex.trans (by first | (with_reducible assumption) | (repeat (with_reducible first | exact Ex.refl _ _ | assumption | exact Ex.mono (by assumption) (by simp; done) | refine Ex.alloc ?_ _ | refine Ex.drew ?_ | refine Ex.drewN ?_ _ | refine Ex.setCell ?_ (by first | (left; simp; done) | (right; simp; done) | (right; simp; omega)) _ | refine Ex.trans ?_ (by assumption)))) hx5) | (refine ⟨trivial, ?_⟩; gi_at_call 45; refine (CallsIn.inRound _ (callsIn_wide.2 (broken_c xm _))).mono ?_; rintro e w6 ⟨rfl, hx6⟩; replace hx6 : Ex [] W w6 := Ex.trans (by first | (with_reducible assumption) | (repeat (with_reducible first | exact Ex.refl _ _ | assumption | exact Ex.mono (by assumption) (by simp; done) | refine Ex.alloc ?_ _ | refine Ex.drew ?_ | refine Ex.drewN ?_ _ | refine Ex.setCell ?_ (by first | (left; simp; done) | (right; simp; done) | (right; simp; omega)) _ | refine Ex.trans ?_ (by assumption)))) hx6) | (refine ⟨trivial, ?_⟩; gi_at_call 46; refine (CallsIn.inRound _ (callsIn_wide.2 (hclone _ (by first | (with_reducible assumption) | (repeat (with_reducible first | exact Ex.refl _ _ | assumption | exact Ex.mono (by assumption) (by simp; done) | refine Ex.alloc ?_ _ | refine Ex.drew ?_ | refine Ex.drewN ?_ _ | refine Ex.setCell ?_ (by first | (left; simp; done) | (right; simp; done) | (right; simp; omega)) _ | refine Ex.trans ?_ (by assumption))))))).mono ?_; rintro e w7 ⟨a7, c7, rfl, hO7, hx7⟩; replace hO7 := hO7.mono (Ex.size (S := []) (w := W) (by first | (with_reducible assumption) | (repeat (with_reducible first | exact Ex.refl _ _ | assumption | exact Ex.mono (by assumption) (by simp; done) | refine Ex.alloc ?_ _ | refine Ex.drew ?_ | refine Ex.drewN ?_ _ | refine Ex.setCell ?_ (by first | (left; simp; done) | (right; simp; done) | (right; simp; omega)) _ | refine Ex.trans ?_ (by assumption))))); replace hx7 : Ex [] W w7 := Ex.trans (by first | (with_reducible assumption) | (repeat (with_reducible first | exact Ex.refl _ _ | assumption | exact Ex.mono (by assumption) (by simp; done) | refine Ex.alloc ?_ _ | refine Ex.drew ?_ | refine Ex.drewN ?_ _ | refine Ex.setCell ?_ (by first | (left; simp; done) | (right; simp; done) | (right; simp; omega)) _ | refine Ex.trans ?_ (by assumption)))) hx7))
            exact (done'.out _ _ _ hx7 hO7 _ rfl).2
          · have he : bestStep p.lots none (xc, xm) = none := by simp [bestStep, hb1]
            have same' := Lib.hid (same · · he); clear same done he
            gi_wp2_with (first | (refine ⟨trivial, ?_⟩; gi_at_call 44; refine (CallsIn.inRound _ (callsIn_wide.2 (hcost _ (by first | (with_reducible assumption) | (repeat (with_reducible first | exact Ex.refl _ _ | assumption | exact Ex.mono (by assumption) (by simp; done) | refine Ex.alloc ?_ _ | refine Ex.drew ?_ | refine Ex.drewN ?_ _ | refine Ex.setCell ?_ (by first | (left; simp; done) | (right; simp; done) | (right; simp; omega)) _ | refine Ex.trans ?_ (by assumption))))))).mono ?_; rintro e w5 ⟨rfl, hx5⟩; replace hx5 : Ex [] W w5 := Ex.trans (by first | (with_reducible assumption) | (repeat (with_reducible first | exact Ex.refl _ _ | assumption | exact Ex.mono (by assumption) (by simp; done) | refine Ex.alloc ?_ _ | refine Ex.drew ?_ | refine Ex.drewN ?_ _ | refine Ex.setCell ?_ (by first | (left; simp; done) | (right; simp; done) | (right; simp; omega)) _ | refine Ex.trans ?_ (by assumption)))) hx5) | (refine ⟨trivial, ?_⟩; gi_at_call 45; refine (CallsIn.inRound _ (callsIn_wide.2 (broken_c xm _))).mono ?_; rintro e w6 ⟨rfl, hx6⟩; replace hx6 : Ex [] W w6 := Ex.trans (by first | (with_reducible assumption) | (repeat (with_reducible first | exact Ex.refl _ _ | assumption | exact Ex.mono (by assumption) (by simp; done) | refine Ex.alloc ?_ _ | refine Ex.drew ?_ | refine Ex.drewN ?_ _ | refine Ex.setCell ?_ (by first | (left; simp; done) | (right; simp; done) | (right; simp; omega)) _ | refine Ex.trans ?_ (by assumption)))) hx6) | (refine ⟨trivial, ?_⟩; gi_at_call 46; refine (CallsIn.inRound _ (callsIn_wide.2 (hclone _ (by first | (with_reducible assumption) | (repeat (with_reducible first | exact Ex.refl _ _ | assumption | exact Ex.mono (by assumption) (by simp; done) | refine Ex.alloc ?_ _ | refine Ex.drew ?_ | refine Ex.drewN ?_ _ | refine Ex.setCell ?_ (by first | (left; simp; done) | (right; simp; done) | (right; simp; omega)) _ | refine Ex.trans ?_ (by assumption))))))).mono ?_; rintro e w7 ⟨a7, c7, rfl, hO7, hx7⟩; replace hO7 := hO7.mono (Ex.size (S := []) (w := W) (by first | (with_reducible assumption) | (repeat (with_reducible first | exact Ex.refl _ _ | assumption | exact Ex.mono (by assumption) (by simp; done) | refine Ex.alloc ?_ _ | refine Ex.drew ?_ | refine Ex.drewN ?_ _ | refine Ex.setCell ?_ (by first | (left; simp; done) | (right; simp; done) | (right; simp; omega)) _ | refine Ex.trans ?_ (by assumption))))); replace hx7 : Ex [] W w7 := Ex.trans (by first | (with_reducible assumption) | (repeat (with_reducible first | exact Ex.refl _ _ | assumption | exact Ex.mono (by assumption) (by simp; done) | refine Ex.alloc ?_ _ | refine Ex.drew ?_ | refine Ex.drewN ?_ _ | refine Ex.setCell ?_ (by first | (left; simp; done) | (right; simp; done) | (right; simp; omega)) _ | refine Ex.trans ?_ (by assumption)))) hx7))
            exact (same'.out _ hx6).2
        | some s =>
          simp only [stL, stC, Option.isSome_some] at g1 g2 g3
          by_cases hb1 : brokenM xm < 0
          · by_cases hb2 : costM p.lots xc < s.2
            · have he : bestStep p.lots (some s) (xc, xm) = some (xc, costM p.lots xc) := by simp [bestStep, hb1, hb2]
              have done' := Lib.hid (done · · · · · he); clear done same he
              gi_wp2_with (first | (refine ⟨trivial, ?_⟩; gi_at_call 44; refine (CallsIn.inRound _ (callsIn_wide.2 (hcost _ (by first | (with_reducible assumption) | (repeat (with_reducible first | exact Ex.refl _ _ | assumption | exact Ex.mono (by assumption) (by simp; done) | refine Ex.alloc ?_ _ | refine Ex.drew ?_ | refine Ex.drewN ?_ _ | refine Ex.setCell ?_ (by first | (left; simp; done) | (right; simp; done) | (right; simp; omega)) _ | refine Ex.trans ?_ (by assumption))))))).mono ?_; rintro e w5 ⟨rfl, hx5⟩; replace hx5 : Ex [] W w5 := Ex.trans (by first | (with_reducible assumption) | (repeat (with_reducible first | exact Ex.refl _ _ | assumption | exact Ex.mono (by assumption) (by simp; done) | refine Ex.alloc ?_ _ | refine Ex.drew ?_ | refine Ex.drewN ?_ _ | refine Ex.setCell ?_ (by first | (left; simp; done) | (right; simp; done) | (right; simp; omega)) _ | refine Ex.trans ?_ (by assumption)))) hx5) | (refine ⟨trivial, ?_⟩; gi_at_call 45; refine (CallsIn.inRound _ (callsIn_wide.2 (broken_c xm _))).mono ?_; rintro e w6 ⟨rfl, hx6⟩; replace hx6 : Ex [] W w6 := Ex.trans (by first | (with_reducible assumption) | (repeat (with_reducible first | exact Ex.refl _ _ | assumption | exact Ex.mono (by assumption) (by simp; done) | refine Ex.alloc ?_ _ | refine Ex.drew ?_ | refine Ex.drewN ?_ _ | refine Ex.setCell ?_ (by first | (left; simp; done) | (right; simp; done) | (right; simp; omega)) _ | refine Ex.trans ?_ (by assumption)))) hx6) | (refine ⟨trivial, ?_⟩; gi_at_call 46; refine (CallsIn.inRound _ (callsIn_wide.2 (hclone _ (by first | (with_reducible assumption) | (repeat (with_reducible first | exact Ex.refl _ _ | assumption | exact Ex.mono (by assumption) (by simp; done) | refine Ex.alloc ?_ _ | refine Ex.drew ?_ | refine Ex.drewN ?_ _ | refine Ex.setCell ?_ (by first | (left; simp; done) | (right; simp; done) | (right; simp; omega)) _ | refine Ex.trans ?_ (by assumption))))))).mono ?_; rintro e w7 ⟨a7, c7, rfl, hO7, hx7⟩; replace hO7 := hO7.mono (Ex.size (S := []) (w := W) (by first | (with_reducible assumption) | (repeat (with_reducible first | exact Ex.refl _ _ | assumption | exact Ex.mono (by assumption) (by simp; done) | refine Ex.alloc ?_ _ | refine Ex.drew ?_ | refine Ex.drewN ?_ _ | refine Ex.setCell ?_ (by first | (left; simp; done) | (right; simp; done) | (right; simp; omega)) _ | refine Ex.trans ?_ (by assumption))))); replace hx7 : Ex [] W w7 := Ex.trans (by first | (with_reducible assumption) | (repeat (with_reducible first | exact Ex.refl _ _ | assumption | exact Ex.mono (by assumption) (by simp; done) | refine Ex.alloc ?_ _ | refine Ex.drew ?_ | refine Ex.drewN ?_ _ | refine Ex.setCell ?_ (by first | (left; simp; done) | (right; simp; done) | (right; simp; omega)) _ | refine Ex.trans ?_ (by assumption)))) hx7))
              exact (done'.out _ _ _ hx7 hO7 _ rfl).2
            · have he : bestStep p.lots (some s) (xc, xm) = some s := by simp [bestStep, hb1, hb2]
              have same' := Lib.hid (same · · he); clear same done he
              gi_wp2_with (first | (refine ⟨trivial, ?_⟩; gi_at_call 44; refine (CallsIn.inRound _ (callsIn_wide.2 (hcost _ (by first | (with_reducible assumption) | (repeat (with_reducible first | exact Ex.refl _ _ | assumption | exact Ex.mono (by assumption) (by simp; done) | refine Ex.alloc ?_ _ | refine Ex.drew ?_ | refine Ex.drewN ?_ _ | refine Ex.setCell ?_ (by first | (left; simp; done) | (right; simp; done) | (right; simp; omega)) _ | refine Ex.trans ?_ (by assumption))))))).mono ?_; rintro e w5 ⟨rfl, hx5⟩; replace hx5 : Ex [] W w5 := Ex.trans (by first | (with_reducible assumption) | (repeat (with_reducible first | exact Ex.refl _ _ | assumption | exact Ex.mono (by assumption) (by simp; done) | refine Ex.alloc ?_ _ | refine Ex.drew ?_ | refine Ex.drewN ?_ _ | refine Ex.setCell ?_ (by first | (left; simp; done) | (right; simp; done) | (right; simp; omega)) _ | refine Ex.trans ?_ (by assumption)))) hx5) | (refine ⟨trivial, ?_⟩; gi_at_call 45; refine (CallsIn.inRound _ (callsIn_wide.2 (broken_c xm _))).mono ?_; rintro e w6 ⟨rfl, hx6⟩; replace hx6 : Ex [] W w6 := Ex.trans (by first | (with_reducible assumption) | (repeat (with_reducible first | exact Ex.refl _ _ | assumption | exact Ex.mono (by assumption) (by simp; done) | refine Ex.alloc ?_ _ | refine Ex.drew ?_ | refine Ex.drewN ?_ _ | refine Ex.setCell ?_ (by first | (left; simp; done) | (right; simp; done) | (right; simp; omega)) _ | refine Ex.trans ?_ (by assumption)))) hx6) | (refine ⟨trivial, ?_⟩; gi_at_call 46; refine (CallsIn.inRound _ (callsIn_wide.2 (hclone _ (by first | (with_reducible assumption) | (repeat (with_reducible first | exact Ex.refl _ _ | assumption | exact Ex.mono (by assumption) (by simp; done) | refine Ex.alloc ?_ _ | refine Ex.drew ?_ | refine Ex.drewN ?_ _ | refine Ex.setCell ?_ (by first | (left; simp; done) | (right; simp; done) | (right; simp; omega)) _ | refine Ex.trans ?_ (by assumption))))))).mono ?_; rintro e w7 ⟨a7, c7, rfl, hO7, hx7⟩; replace hO7 := hO7.mono (Ex.size (S := []) (w := W) (by first | (with_reducible assumption) | (repeat (with_reducible first | exact Ex.refl _ _ | assumption | exact Ex.mono (by assumption) (by simp; done) | refine Ex.alloc ?_ _ | refine Ex.drew ?_ | refine Ex.drewN ?_ _ | refine Ex.setCell ?_ (by first | (left; simp; done) | (right; simp; done) | (right; simp; omega)) _ | refine Ex.trans ?_ (by assumption))))); replace hx7 : Ex [] W w7 := Ex.trans (by first | (with_reducible assumption) | (repeat (with_reducible first | exact Ex.refl _ _ | assumption | exact Ex.mono (by assumption) (by simp; done) | refine Ex.alloc ?_ _ | refine Ex.drew ?_ | refine Ex.drewN ?_ _ | refine Ex.setCell ?_ (by first | (left; simp; done) | (right; simp; done) | (right; simp; omega)) _ | refine Ex.trans ?_ (by assumption)))) hx7))
              exact (same'.out _ hx6).2
          · have he : bestStep p.lots (some s) (xc, xm) = some s := by simp [bestStep, hb1]
            have same' := Lib.hid (same · · he); clear same done he
            gi_wp2_with (first | (refine ⟨trivial, ?_⟩; gi_at_call 44; refine (CallsIn.inRound _ (callsIn_wide.2 (hcost _ (by first | (with_reducible assumption) | (repeat (with_reducible first | exact Ex.refl _ _ | assumption | exact Ex.mono (by assumption) (by simp; done) | refine Ex.alloc ?_ _ | refine Ex.drew ?_ | refine Ex.drewN ?_ _ | refine Ex.setCell ?_ (by first | (left; simp; done) | (right; simp; done) | (right; simp; omega)) _ | refine Ex.trans ?_ (by assumption))))))).mono ?_; rintro e w5 ⟨rfl, hx5⟩; replace hx5 : Ex [] W w5 := Ex.trans (by first | (with_reducible assumption) | (repeat (with_reducible first | exact Ex.refl _ _ | assumption | exact Ex.mono (by assumption) (by simp; done) | refine Ex.alloc ?_ _ | refine Ex.drew ?_ | refine Ex.drewN ?_ _ | refine Ex.setCell ?_ (by first | (left; simp; done) | (right; simp; done) | (right; simp; omega)) _ | refine Ex.trans ?_ (by assumption)))) hx5) | (refine ⟨trivial, ?_⟩; gi_at_call 45; refine (CallsIn.inRound _ (callsIn_wide.2 (broken_c xm _))).mono ?_; rintro e w6 ⟨rfl, hx6⟩; replace hx6 : Ex [] W w6 := Ex.trans (by first | (with_reducible assumption) | (repeat (with_reducible first | exact Ex.refl _ _ | assumption | exact Ex.mono (by assumption) (by simp; done) | refine Ex.alloc ?_ _ | refine Ex.drew ?_ | refine Ex.drewN ?_ _ | refine Ex.setCell ?_ (by first | (left; simp; done) | (right; simp; done) | (right; simp; omega)) _ | refine Ex.trans ?_ (by assumption)))) hx6) | (refine ⟨trivial, ?_⟩; gi_at_call 46; refine (CallsIn.inRound _ (callsIn_wide.2 (hclone _ (by first | (with_reducible assumption) | (repeat (with_reducible first | exact Ex.refl _ _ | assumption | exact Ex.mono (by assumption) (by simp; done) | refine Ex.alloc ?_ _ | refine Ex.drew ?_ | refine Ex.drewN ?_ _ | refine Ex.setCell ?_ (by first | (left; simp; done) | (right; simp; done) | (right; simp; omega)) _ | refine Ex.trans ?_ (by assumption))))))).mono ?_; rintro e w7 ⟨a7, c7, rfl, hO7, hx7⟩; replace hO7 := hO7.mono (Ex.size (S := []) (w := W) (by first | (with_reducible assumption) | (repeat (with_reducible first | exact Ex.refl _ _ | assumption | exact Ex.mono (by assumption) (by simp; done) | refine Ex.alloc ?_ _ | refine Ex.drew ?_ | refine Ex.drewN ?_ _ | refine Ex.setCell ?_ (by first | (left; simp; done) | (right; simp; done) | (right; simp; omega)) _ | refine Ex.trans ?_ (by assumption))))); replace hx7 : Ex [] W w7 := Ex.trans (by first | (with_reducible assumption) | (repeat (with_reducible first | exact Ex.refl _ _ | assumption | exact Ex.mono (by assumption) (by simp; done) | refine Ex.alloc ?_ _ | refine Ex.drew ?_ | refine Ex.drewN ?_ _ | refine Ex.setCell ?_ (by first | (left; simp; done) | (right; simp; done) | (right; simp; omega)) _ | refine Ex.trans ?_ (by assumption)))) hx7))
            exact (same'.out _ hx6).2
      · rintro γ W hγ ⟨h1, ⟨ac, cc, h2, h3, h4⟩, h5, h6⟩ hk
        have hwW : Ex [] w W := hwV.trans_fresh h1 (fun x hx => by simp only [List.mem_cons, List.not_mem_nil, or_false] at hx; right; omega)
        have hM : bestM p = bestOf p.lots (allCharges p) := by simp only [bestM, hq'.out, if_true, hm, Bool.false_eq_true, if_false]
        have hE : bestE p = if (bestOf p.lots (allCharges p)).isSome then 0 else 20 := by simp only [bestE, hq'.out, if_true, hm, Bool.false_eq_true, if_false]
        obtain ⟨st, hst⟩ : ∃ st, st = bestOf p.lots (allCharges p) := ⟨_, rfl⟩
        rw [← hst] at h2 h3 h5 h6 hM hE
        have hM' := Lib.hid hM; have hE' := Lib.hid hE; clear hM hE hst
        have hrW : Ex [] W W := Ex.refl _ _
        have g1 := cellE (S := []) h2 (by simp) 0 rfl
        have g2 := cellE (S := []) h5 (by simp) 0 rfl
        have g3 := cellE (S := []) h6 (by simp) 0 rfl
        have q1 := freeE (S := []) h2 (by simp) 0
        have q2 := freeE (S := []) h5 (by simp) 0
        have q3 := freeE (S := []) h6 (by simp) 0
        have h2' := Lib.hid h2; have h5' := Lib.hid h5; have hk' := Lib.hid hk; clear h2 h5 h6 hk
        cases st with
        | none =>
          simp only [stL, stC, Option.isSome_none, List.length_nil] at g1 g2 g3
          go_wp2
          (try simp only [Exit.inBlock, Exit.then])
          refine retM_at (fun X => Ex [w.heap.size + 1, w.heap.size + 1 + 1] W X ∧ X.heap[w.heap.size + 1]? = some (.cells #[.slice none 0 0] 34 (0, 0)) ∧ X.heap[w.heap.size + 1 + 1]? = some (.cells #[.int .i64 0] 3 (0, 0))) ⟨((Ex.refl _ _).setCell (.inl (by simp)) _).setCell (.inl (by simp)) _, blk_set_other (blk_set h2'.out 0 _) (by omega), blk_set (blk_set_other h5'.out (by omega)) 0 _⟩ (fun X hX => ?_)
          obtain ⟨hX1, hX2, hX3⟩ := hX
          have hkX := hX1.heap (by simp; omega) hk'.out
          have x2 := fun w' (h : Ex [w4.heap.size] X w') => h.cell (by simp; omega) (blk_cell hX2 0 rfl)
          have x3 := fun w' (h : Ex [w4.heap.size] X w') => h.cell (by simp; omega) (blk_cell hX3 0 rfl)
          refine postM_mark (v := .tuple #[.slice none 0 0, .int .i64 0, .int .i64 20]) rfl hkX (fun w' h => by simp [results, Try.results22, go_sem, x2 w' h, x3 w' h]) (fun w' h => ⟨none, 0, by rw [hM'.out, hE'.out]; rfl, by rw [hM'.out]; exact Own.nil _, ?_⟩)
          exact (hwW.trans_fresh hX1 (fun x hx => by simp only [List.mem_cons, List.not_mem_nil, or_false] at hx; right; omega)).trans_fresh h (fun x hx => by simp only [List.mem_singleton] at hx; right; omega)
        | some s =>
          simp only [stL, stC, Option.isSome_some] at g1 g2 g3
          go_upto_region 16 with fail
          have g1 := fun w' (h : Ex [w.heap.size + 1, w.heap.size + 1 + 1] W w' ∧ w'.heap[w.heap.size + 1]? = some (.cells #[.slice ac s.1.length cc] 34 (0, 0)) ∧ w'.heap[w.heap.size + 1 + 1]? = some (.cells #[.int .i64 s.2] 3 (0, 0))) => blk_cell h.2.1 0 rfl
          have g2 := fun w' (h : Ex [w.heap.size + 1, w.heap.size + 1 + 1] W w' ∧ w'.heap[w.heap.size + 1]? = some (.cells #[.slice ac s.1.length cc] 34 (0, 0)) ∧ w'.heap[w.heap.size + 1 + 1]? = some (.cells #[.int .i64 s.2] 3 (0, 0))) => blk_cell h.2.2 0 rfl
          have q1 := fun w' (h : Ex [w.heap.size + 1, w.heap.size + 1 + 1] W w' ∧ w'.heap[w.heap.size + 1]? = some (.cells #[.slice ac s.1.length cc] 34 (0, 0)) ∧ w'.heap[w.heap.size + 1 + 1]? = some (.cells #[.int .i64 s.2] 3 (0, 0))) => blk_free h.2.1 0
          have q2 := fun w' (h : Ex [w.heap.size + 1, w.heap.size + 1 + 1] W w' ∧ w'.heap[w.heap.size + 1]? = some (.cells #[.slice ac s.1.length cc] 34 (0, 0)) ∧ w'.heap[w.heap.size + 1 + 1]? = some (.cells #[.int .i64 s.2] 3 (0, 0))) => blk_free h.2.2 0
          have hSd : Ex [w.heap.size + 1, w.heap.size + 1 + 1] W W.drew ∧ W.drew.heap[w.heap.size + 1]? = some (.cells #[.slice ac s.1.length cc] 34 (0, 0)) ∧ W.drew.heap[w.heap.size + 1 + 1]? = some (.cells #[.int .i64 s.2] 3 (0, 0)) := ⟨(Ex.refl _ _).drew, blk_drew h2'.out, blk_drew h5'.out⟩
          refine region_plan (fun w' => Ex [w.heap.size + 1, w.heap.size + 1 + 1] W w' ∧ w'.heap[w.heap.size + 1]? = some (.cells #[.slice ac s.1.length cc] 34 (0, 0)) ∧ w'.heap[w.heap.size + 1 + 1]? = some (.cells #[.int .i64 s.2] 3 (0, 0))) [.st [0, 1], .mv 2, .mv 3, .pu [4]] (by kernel_rfl) (by kernel_rfl) hSd ?_
          generalize W.drew = W0 at hSd ⊢
          refine plan_st (fun K hK => ?_)
          simp only [pick, List.drop_succ_cons, List.drop_zero, List.take_succ_cons, List.take_zero, List.cons_append, List.nil_append]
          iterate 2 (refine wpYield_want ?_ (by rfl) (fun w' hS' => ?_) ?_; rotate_left; ((try dsimp only at hS'); go_simp; try with_reducible rfl); simp only [Act.put, List.setIfInBounds_toArray, List.set_cons_zero, List.set_cons_succ])
          refine wpYield_nil (hK _ ?_)
          clear hK K
          refine plan_mv (fun K hK => ?_)
          simp only [pick, List.drop_succ_cons, List.drop_zero, List.take_succ_cons, List.take_zero, List.cons_append, List.nil_append]
          go_wp2_with fail
          have hS1 : Ex [w.heap.size + 1, w.heap.size + 1 + 1] W (W0.setCell ⟨w.heap.size + 1, 0, none⟩ (.slice ac s.1.length cc)) ∧ (W0.setCell ⟨w.heap.size + 1, 0, none⟩ (.slice ac s.1.length cc)).heap[w.heap.size + 1]? = some (.cells #[.slice ac s.1.length cc] 34 (0, 0)) ∧ (W0.setCell ⟨w.heap.size + 1, 0, none⟩ (.slice ac s.1.length cc)).heap[w.heap.size + 1 + 1]? = some (.cells #[.int .i64 s.2] 3 (0, 0)) := ⟨hSd.1.setCell (.inl (by simp)) _, blk_set hSd.2.1 0 _, blk_set_other hSd.2.2 (by omega)⟩
          generalize W0.setCell _ _ = W3 at hS1 ⊢
          clear hSd
          first | refine hK _ _ hS1 ?_ | refine ⟨rfl, hK _ _ hS1 ?_⟩
          clear hK K
          refine plan_mv (fun K hK => ?_)
          simp only [pick, List.drop_succ_cons, List.drop_zero, List.take_succ_cons, List.take_zero, List.cons_append, List.nil_append]
          go_wp2_with fail
          have hS2 : Ex [w.heap.size + 1, w.heap.size + 1 + 1] W (W3.setCell ⟨w.heap.size + 1 + 1, 0, none⟩ (.int .i64 s.2)) ∧ (W3.setCell ⟨w.heap.size + 1 + 1, 0, none⟩ (.int .i64 s.2)).heap[w.heap.size + 1]? = some (.cells #[.slice ac s.1.length cc] 34 (0, 0)) ∧ (W3.setCell ⟨w.heap.size + 1 + 1, 0, none⟩ (.int .i64 s.2)).heap[w.heap.size + 1 + 1]? = some (.cells #[.int .i64 s.2] 3 (0, 0)) := ⟨hS1.1.setCell (.inl (by simp)) _, blk_set_other hS1.2.1 (by omega), blk_set hS1.2.2 0 _⟩
          generalize W3.setCell _ _ = W5 at hS2 ⊢
          clear hS1
          first | refine hK _ _ hS2 ?_ | refine ⟨rfl, hK _ _ hS2 ?_⟩
          clear hK K
          refine plan_pu (fun K hK => ?_)
          simp only [pick, List.drop_succ_cons, List.drop_zero, List.take_succ_cons, List.take_zero, List.cons_append, List.nil_append]
          iterate 1 (refine wpYield_want ?_ (by rfl) (fun w' hS' => ?_) ?_; rotate_left; ((try dsimp only at hS'); go_simp; try with_reducible rfl); simp only [Act.put, List.setIfInBounds_toArray, List.set_cons_zero, List.set_cons_succ])
          refine wpYield_nil (hK _ ?_)
          clear hK K
          refine plan_nil ?_
          go_wp2
          (try simp only [Exit.inBlock, Exit.then])
          obtain ⟨hX1, hX2, hX3⟩ := hS2
          have hkX := hX1.heap (by simp; omega) hk'.out
          have x2 := fun w' (h : Ex [w4.heap.size] W5 w') => h.cell (by simp; omega) (blk_cell hX2 0 rfl)
          have x3 := fun w' (h : Ex [w4.heap.size] W5 w') => h.cell (by simp; omega) (blk_cell hX3 0 rfl)
          have h3' := (h3.mono (b' := w.heap.size) (by omega)).ex hX1 (fun gg hgg => by obtain ⟨b, hb, rfl⟩ := ownB hgg; have := h4 b hb; simp; omega)
          refine postM_mark (v := .tuple #[.slice ac s.1.length cc, .int .i64 s.2, .int .i64 0]) rfl hkX (fun w' h => by simp [results, Try.results22, go_sem, x2 w' h, x3 w' h]) (fun w' h => ⟨ac, cc, by rw [hM'.out, hE'.out]; rfl, by rw [hM'.out]; exact h3'.ex h (fun gg hgg => by obtain ⟨b, hb, rfl⟩ := ownB hgg; have := h4 b hb; simp; omega), ?_⟩)
          exact (hwW.trans_fresh hX1 (fun x hx => by simp only [List.mem_cons, List.not_mem_nil, or_false] at hx; right; omega)).trans_fresh h (fun x hx => by simp only [List.mem_singleton] at hx; right; omega)
end Go.Proofs.Ythmicafabimfkaa
