/- ChargeRefutes' meaning is true. No condition. -/
import Derived.Test.YtojnpaenpaobcaaS9
import Derived.Test.YtojnpaenpaobcaaF2
import Derived.Test.YtojnpaenpaobcaaS11
namespace Go.Proofs.Ytojnpaenpaobcaa
open Go.RowKit
theorem wrap_w (n : Int) : IntKind.i64.wrap n = wrap64 n := by unfold wrap64; exact IntKind.wrap_i64 n
theorem W64 {n : Int} (h : -9223372036854775808 ≤ n ∧ n ≤ 9223372036854775807) : IntKind.i64.wrap n = n := wrapK_id h
theorem suc_w {i : Nat} (h : i ≤ 1000000000) : IntKind.i64.wrap ((i : Int) + 1) = ((i + 1 : Nat) : Int) := by rw [wrapK_id (by omega)]; omega
theorem inB_nat {i n : Nat} (h : i < n) : inB (i : Int) n = true := by simp [inB]; omega
theorem lenOk_of {a b : Nat} (h : a + b ≤ 1000000) : lenOk a b = true := by simp [lenOk, h]
/-! All whole numbers of a range, in order -/
def rng (a b : Int) : List Int := (List.range (b - a + 1).toNat).map (fun j : Nat => a + (j : Int))
theorem rng_len (a b : Int) : (rng a b).length = (b - a + 1).toNat := by simp [rng]
theorem rng_nil {a b : Int} (h : b < a) : rng a b = [] := by
 have : (b - a + 1).toNat = 0 := by omega
 simp [rng, this]
theorem rng_cons {a b : Int} (h : a ≤ b) : rng a b = a :: rng (a + 1) b := by
 have : (b - a + 1).toNat = (b - (a + 1) + 1).toNat + 1 := by omega
 unfold rng
 rw [this, List.range_succ_eq_map, List.map_cons, List.map_map]
 congr 1
 ·simp
 ·apply List.map_congr_left
  intro j _
  simp only [Function.comp_apply, Nat.succ_eq_add_one]
  omega
theorem rng_mem {a b n : Int} (h : n ∈ rng a b) : a ≤ n ∧ n ≤ b := by
 simp only [rng, List.mem_map, List.mem_range] at h
 obtain ⟨j, hj, rfl⟩ := h
 omega
/-! All lists of a box -/
def boxTo (lo hi : List Int) : Nat → List (List Int)
 | 0 => [[]]
 | k + 1 => (boxTo lo hi k).flatMap (fun c => (rng (nth lo 0 k) (nth hi 0 k)).map (fun n => c ++ [n]))
theorem box_len (lo hi : List Int) : ∀ k, ∀ c ∈ boxTo lo hi k, c.length = k
 | 0, c, h => by simp only [boxTo, List.mem_singleton] at h; subst h; rfl
 | k + 1, c, h => by
  simp only [boxTo, List.mem_flatMap, List.mem_map] at h
  obtain ⟨c', h1, n, _, rfl⟩ := h
  simp [box_len lo hi k c' h1]
theorem flatMap_len {α β : Type} (f : α → List β) (m : Nat) (hf : ∀ x, (f x).length = m) : ∀ l : List α, (l.flatMap f).length = l.length * m
 | [] => by simp
 | x :: l => by simp only [List.flatMap_cons, List.length_append, hf, flatMap_len f m hf l, List.length_cons, Nat.add_mul, Nat.one_mul]; omega
theorem box_size (lo hi : List Int) (k : Nat) : (boxTo lo hi (k + 1)).length = (boxTo lo hi k).length * (rng (nth lo 0 k) (nth hi 0 k)).length := by
 rw [boxTo]
 exact flatMap_len _ _ (fun c => by simp) _
theorem box_in {F : Nat} {high : List Int} {out : List (List Int)} {i k : Nat} (hi : i < high.length) (hk : k < out.length) (hb : nth high 0 i ≤ 1000) (hc : (nth out [] k).length ≤ 1000) :
  ∀ (d f : Nat) (next : List (List Int)) (n : Int), 0 ≤ n → (nth high 0 i - n + 1).toNat = d → d < f → next.length + d ≤ 1000000 →
   rBox_l41 F high out (i : Int) (k : Int) f next n = some (next ++ (rng n (nth high 0 i)).map (fun m => nth out [] k ++ [m]))
 | 0, f, next, n, hn, hd, hf, hl => by
  obtain ⟨f, rfl⟩ : ∃ g, f = g + 1 := ⟨f - 1, by omega⟩
  have e0 : decide (n ≤ nth high 0 i) = false := by rw [decide_eq_false_iff_not]; omega
  rw [rBox_l41, inB_nat hi, cond_true, Int.toNat_natCast, e0, cond_false, rng_nil (by omega)]
  simp
 | d + 1, f, next, n, hn, hd, hf, hl => by
  obtain ⟨f, rfl⟩ : ∃ g, f = g + 1 := ⟨f - 1, by omega⟩
  have e0 : decide (n ≤ nth high 0 i) = true := by rw [decide_eq_true_eq]; omega
  have e1 : IntKind.i64.wrap (n + 1) = n + 1 := wrapK_id (by omega)
  have ih := box_in (F := F) hi hk hb hc d f (next ++ [nth out [] k ++ [n]]) (n + 1) (by omega) (by omega) (by omega) (by simp; omega)
  rw [rBox_l41, inB_nat hi, cond_true, Int.toNat_natCast, e0, cond_true, inB_nat hk, cond_true, Int.toNat_natCast, lenOk_of (by simp; omega), cond_true, lenOk_of (by simp; omega), cond_true, lenOk_of (by omega), cond_true, e1]
  simp only [List.nil_append]
  rw [ih, rng_cons (by omega : n ≤ nth high 0 i)]
  simp
theorem drop_nth {α : Type} (l : List α) (d : α) {k : Nat} (h : k < l.length) : l.drop k = nth l d k :: l.drop (k + 1) := by
 rw [List.drop_eq_getElem_cons h, nth_eq l d k h]
theorem box_mid {F : Nat} {low high : List Int} {out : List (List Int)} {i : Nat} (h1 : i < low.length) (h2 : i < high.length) (hlo : 0 ≤ nth low 0 i) (hb : nth high 0 i ≤ 1000) (hc : ∀ c ∈ out, c.length ≤ 1000) (hF : 1001 < F) (ho : out.length ≤ 1000000) :
  ∀ (d f k : Nat) (next : List (List Int)), k + d = out.length → d < f → next.length + d * (rng (nth low 0 i) (nth high 0 i)).length ≤ 1000000 →
   rBox_l15 F low high out (i : Int) f next (k : Int) = some (next ++ (out.drop k).flatMap (fun c => (rng (nth low 0 i) (nth high 0 i)).map (fun m => c ++ [m])))
 | 0, f, k, next, hk, hf, hl => by
  obtain ⟨f, rfl⟩ : ∃ g, f = g + 1 := ⟨f - 1, by omega⟩
  have e0 : decide ((k : Int) < (out.length : Int)) = false := by rw [decide_eq_false_iff_not]; omega
  rw [rBox_l15, e0, cond_false, List.drop_of_length_le (by omega)]
  simp
 | d + 1, f, k, next, hk, hf, hl => by
  obtain ⟨f, rfl⟩ : ∃ g, f = g + 1 := ⟨f - 1, by omega⟩
  have e0 : decide ((k : Int) < (out.length : Int)) = true := by rw [decide_eq_true_eq]; omega
  have hkl : k < out.length := by omega
  have hck : (nth out [] k).length ≤ 1000 := by rw [← nth_eq out [] k hkl]; exact hc _ (List.getElem_mem hkl)
  have hr := rng_len (nth low 0 i) (nth high 0 i)
  rw [Nat.add_mul, Nat.one_mul] at hl
  have a := box_in (F := F) h2 hkl hb hck _ F next (nth low 0 i) hlo rfl (by omega) (by omega)
  have ih := box_mid (F := F) h1 h2 hlo hb hc hF ho d f (k + 1) (next ++ (rng (nth low 0 i) (nth high 0 i)).map (fun m => nth out [] k ++ [m])) (by omega) (by omega) (by simp; omega)
  rw [rBox_l15, e0, cond_true, inB_nat h1, cond_true, Int.toNat_natCast, a]
  simp only [Option.bind_some]
  rw [suc_w (by omega), ih, drop_nth out [] hkl]
  simp
theorem box_l {F : Nat} {low high : List Int} (hl : low.length = high.length) (hb : BoxOk low high) (hn : low.length ≤ 1000) (hsz : ∀ k, k ≤ low.length → (boxTo low high k).length ≤ 20000) (hF : 20001 < F) :
  ∀ (d f i : Nat), i + d = low.length → d < f → rBox_l7 F low high f (boxTo low high i) (i : Int) = some (boxTo low high low.length)
 | 0, f, i, hi, hf => by
  obtain ⟨f, rfl⟩ : ∃ g, f = g + 1 := ⟨f - 1, by omega⟩
  obtain rfl : i = low.length := by omega
  have e0 : decide ((low.length : Int) < (low.length : Int)) = false := by rw [decide_eq_false_iff_not]; omega
  rw [rBox_l7, e0, cond_false]
 | d + 1, f, i, hi, hf => by
  obtain ⟨f, rfl⟩ : ∃ g, f = g + 1 := ⟨f - 1, by omega⟩
  have e0 : decide ((i : Int) < (low.length : Int)) = true := by rw [decide_eq_true_eq]; omega
  have hlt : i < low.length := by omega
  obtain ⟨b1, b2, b3⟩ := hb i hlt
  have s0 := hsz i (by omega)
  have s1 := hsz (i + 1) (by omega)
  have hs := box_size low high i
  have a := box_mid (F := F) (low := low) (high := high) (out := boxTo low high i) hlt (by omega) b1 b3 (fun c hc => by rw [box_len low high i c hc]; omega) (by omega) (by omega) _ F 0 [] (Nat.zero_add _) (by omega) (by simp; omega)
  have ih := box_l (F := F) hl hb hn hsz hF d f (i + 1) (by omega) (by omega)
  rw [rBox_l7, e0, cond_true]
  have a' : rBox_l15 F low high (boxTo low high i) (i : Int) F ([] : List (List Int)) (0 : Int) = some (boxTo low high (i + 1)) := a
  rw [a']
  simp only [Option.bind_some]
  rw [suc_w (by omega)]
  exact ih
theorem box_S {F : Nat} {low high : List Int} (hl : low.length = high.length) (hb : BoxOk low high) (hn : low.length ≤ 1000) (hsz : ∀ k, k ≤ low.length → (boxTo low high k).length ≤ 20000) (hF : 20001 < F) : rBox_S F low high = some (boxTo low high low.length) := by
 have a : rBox_l7 F low high F [([] : List Int)] (0 : Int) = some (boxTo low high low.length) := box_l hl hb hn hsz hF low.length F 0 (by omega) (by omega)
 rw [rBox_S, a]; rfl
/-! The whole box -/
theorem lows_nth (p : Recipe) (k : Nat) : nth (lowsM p) 0 k = 0 := by
 simp only [nth, lowsM, List.getD]
 by_cases h : k < p.lots.length
 ·simp [h]
 ·simp [h]
theorem highs_nth (p : Recipe) {k : Nat} (h : k < p.lots.length) : nth (highsM p) 0 k = (nth p.lots .zero k).count := by
 simp [nth, highsM, List.getD, h]
theorem whole_l {F : Nat} {p : Recipe} (hl : p.lots.length ≤ 100000) : ∀ (d f i : Nat), i + d = p.lots.length → d < f →
  rWhole_l8 F p f (List.replicate i 0) ((p.lots.take i).map (fun l => l.count)) (i : Int) = some (lowsM p, highsM p)
 | 0, f, i, hi, hf => by
  obtain ⟨f, rfl⟩ : ∃ g, f = g + 1 := ⟨f - 1, by omega⟩
  obtain rfl : i = p.lots.length := by omega
  have e0 : decide ((p.lots.length : Int) < (p.lots.length : Int)) = false := by rw [decide_eq_false_iff_not]; omega
  rw [rWhole_l8, e0, cond_false, List.take_length]; rfl
 | d + 1, f, i, hi, hf => by
  obtain ⟨f, rfl⟩ : ∃ g, f = g + 1 := ⟨f - 1, by omega⟩
  have hlt : i < p.lots.length := by omega
  have e0 : decide ((i : Int) < (p.lots.length : Int)) = true := by rw [decide_eq_true_eq]; omega
  have ih := whole_l (F := F) hl d f (i + 1) (by omega) (by omega)
  rw [rWhole_l8, e0, cond_true, inB_nat hlt, cond_true, lenOk_of (by simp; omega), cond_true, lenOk_of (by simp; omega), cond_true, suc_w (by omega), Int.toNat_natCast]
  rw [← ih]
  congr 1
  ·rw [List.replicate_succ']
  ·rw [List.take_succ_eq_append_getElem hlt, List.map_append, nth_eq p.lots .zero i hlt]; rfl
theorem whole_S {F : Nat} {p : Recipe} (hl : p.lots.length ≤ 100000) (hF : p.lots.length < F) : rWhole_S F p = some (lowsM p, highsM p) := by
 have a : rWhole_l8 F p F ([] : List Int) ([] : List Int) (0 : Int) = some (lowsM p, highsM p) := whole_l hl p.lots.length F 0 (by omega) hF
 rw [rWhole_S, a]; rfl
/-! All charges are the whole box -/
def extB (p : Recipe) : Nat → List Int → List (List Int)
 | 0, c => [c]
 | r + 1, c => (rng 0 (nth p.lots .zero c.length).count).flatMap (fun n => extB p r (c ++ [n]))
theorem ch_map (p : Recipe) (ones : List Mar) : ∀ (r : Nat) (c : List Int) (m : Mar), (chargesR p ones r c m).map Prod.fst = extB p r c
 | 0, c, m => rfl
 | r + 1, c, m => by
  rw [chargesR, extB, List.map_flatMap, rng, List.flatMap_map]
  have e : ((nth p.lots Lot.zero c.length).count - 0 + 1).toNat = ((nth p.lots Lot.zero c.length).count + 1).toNat := by rw [Int.sub_zero]
  rw [e]
  congr 1
  funext j
  rw [ch_map p ones r]
  rw [Int.zero_add]
theorem flatMap_congr' {α β : Type} {f g : α → List β} : ∀ {l : List α}, (∀ x ∈ l, f x = g x) → l.flatMap f = l.flatMap g
 | [], _ => rfl
 | x :: l, h => by
  rw [List.flatMap_cons, List.flatMap_cons, h x (by simp), flatMap_congr' (fun y hy => h y (by simp [hy]))]
theorem ext_box (p : Recipe) : ∀ (r k : Nat), k + r = p.lots.length → boxTo (lowsM p) (highsM p) (k + r) = (boxTo (lowsM p) (highsM p) k).flatMap (extB p r)
 | 0, k, h => by
  have : extB p 0 = fun c => [c] := by funext c; rfl
  rw [this, Nat.add_zero]
  simp
 | r + 1, k, h => by
  have ih := ext_box p r (k + 1) (by omega)
  rw [show k + (r + 1) = k + 1 + r by omega, ih, boxTo, List.flatMap_assoc]
  refine flatMap_congr' (fun c hc => ?_)
  have hk : c.length = k := box_len _ _ k c hc
  rw [extB, hk, lows_nth, highs_nth p (by omega), List.flatMap_map]
theorem all_box (p : Recipe) : (allCharges p).map Prod.fst = boxTo (lowsM p) (highsM p) p.lots.length := by
 have := ext_box p p.lots.length 0 (by omega)
 rw [Nat.zero_add] at this
 rw [this, allCharges, ch_map]
 simp [boxTo]
/-! How many there are -/
theorem box_mono {lo hi : List Int} {k : Nat} (h : nth lo 0 k ≤ nth hi 0 k) : (boxTo lo hi k).length ≤ (boxTo lo hi (k + 1)).length := by
 rw [box_size, rng_len]
 have : 1 ≤ (nth hi 0 k - nth lo 0 k + 1).toNat := by omega
 exact Nat.le_mul_of_pos_right _ this
theorem box_mono' {lo hi : List Int} {n : Nat} (h : ∀ i, i < n → nth lo 0 i ≤ nth hi 0 i) : ∀ d k, k + d = n → (boxTo lo hi k).length ≤ (boxTo lo hi n).length
 | 0, k, hk => by
  obtain rfl : k = n := by omega
  exact Nat.le_refl _
 | d + 1, k, hk => Nat.le_trans (box_mono (h k (by omega))) (box_mono' h d (k + 1) (by omega))
theorem mn_min (a b : Int) : mn a b = min a b := by unfold mn; split <;> omega
theorem many_l {F : Nat} {p : Recipe} (h : checkE p = 0) : ∀ (d f i : Nat) (n : Int), i + d = p.lots.length → d < f → 1 ≤ n → n ≤ 20001 →
  ∃ r, rMany_l3 F p f n (i : Int) = some r ∧ 1 ≤ r ∧ r ≤ 20001 ∧ (n = 20001 → r = 20001) ∧ (n ≤ 20000 → (20000 < r ↔ manyFrom (p.lots.drop i) n = true)) ∧ (n = (boxTo (lowsM p) (highsM p) i).length → r ≤ 20000 → r = (boxTo (lowsM p) (highsM p) p.lots.length).length)
 | 0, f, i, n, hi, hf, h1, h2 => by
  obtain ⟨f, rfl⟩ : ∃ g, f = g + 1 := ⟨f - 1, by omega⟩
  obtain rfl : i = p.lots.length := by omega
  have e0 : decide ((p.lots.length : Int) < (p.lots.length : Int)) = false := by rw [decide_eq_false_iff_not]; omega
  rw [rMany_l3, e0, cond_false]
  refine ⟨n, rfl, h1, h2, id, fun h3 => ?_, fun h3 _ => h3⟩
  rw [List.drop_length]
  simp [manyFrom]; omega
 | d + 1, f, i, n, hi, hf, h1, h2 => by
  obtain ⟨f, rfl⟩ : ∃ g, f = g + 1 := ⟨f - 1, by omega⟩
  have hlt : i < p.lots.length := by omega
  have hl6 := check_len h
  have e0 : decide ((i : Int) < (p.lots.length : Int)) = true := by rw [decide_eq_true_eq]; omega
  have hc := count_le h hlt
  obtain ⟨c, hcc⟩ : ∃ c, c = (nth p.lots Lot.zero i).count := ⟨_, rfl⟩
  rw [← hcc] at hc
  have ew : IntKind.i64.wrap (c + 1) = c + 1 := wrapK_id (by omega)
  have hb : 0 ≤ n * (c + 1) ∧ n * (c + 1) ≤ 20001 * 1001 := ⟨Int.mul_nonneg (by omega) (by omega), Int.mul_le_mul h2 (by omega) (by omega) (by omega)⟩
  have hb2 : n ≤ n * (c + 1) := by
   have := Int.mul_le_mul_of_nonneg_left (show 1 ≤ c + 1 by omega) (show 0 ≤ n by omega)
   rwa [Int.mul_one] at this
  have ew2 : IntKind.i64.wrap (n * (c + 1)) = n * (c + 1) := wrapK_id (by omega)
  obtain ⟨r, r1, r2, r3, r4, r5, r6⟩ := many_l (F := F) h d f (i + 1) (min (n * (c + 1)) 20001) (by omega) (by omega) (by omega) (by omega)
  refine ⟨r, ?_, r2, r3, fun hn => r4 (by omega), fun hn => ?_, fun hn hr => ?_⟩
  ·rw [rMany_l3, e0, cond_true, inB_nat hlt, cond_true, Int.toNat_natCast, ← hcc, ew, ew2, mn_min, suc_w (by omega)]
   exact r1
  ·rw [manyFrom_drop p.lots i n hlt, ← hcc, ← wrap_w (c + 1), ew, ← wrap_w (n * (c + 1)), ew2]
   by_cases hx : 20000 < n * (c + 1)
   ·rw [if_pos hx]
    have := r4 (by omega)
    simp; omega
   ·rw [if_neg hx]
    have e : min (n * (c + 1)) 20001 = n * (c + 1) := by omega
    rw [e] at r5
    exact r5 (by omega)
  ·have hx : ¬ 20000 < n * (c + 1) := fun hx => by have := r4 (by omega); omega
   have e : min (n * (c + 1)) 20001 = n * (c + 1) := by omega
   refine r6 ?_ hr
   rw [e, box_size, rng_len, lows_nth, highs_nth p hlt, ← hcc]
   rw [Int.natCast_mul, ← hn, show (((c - 0 + 1).toNat : Nat) : Int) = c + 1 by omega]
theorem many_S {F : Nat} {p : Recipe} (h : checkE p = 0) (hF : 6 < F) : ∃ r, rMany_S F p = some r ∧ (20000 < r ↔ manyM p = true) ∧ (r ≤ 20000 → ∀ k, k ≤ p.lots.length → (boxTo (lowsM p) (highsM p) k).length ≤ 20000) := by
 have hl := check_len h
 obtain ⟨r, r1, r2, r3, r4, r5, r6⟩ := many_l (F := F) h p.lots.length F 0 1 (by omega) (by omega) (by omega) (by omega)
 refine ⟨r, ?_, by simpa [manyM] using r5 (by omega), fun hr k hk => ?_⟩
 ·have r1' : rMany_l3 F p F 1 (0 : Int) = some r := r1
  rw [rMany_S, r1']; rfl
 ·have e := r6 rfl hr
  have := box_mono' (lo := lowsM p) (hi := highsM p) (n := p.lots.length) (fun i hi => by rw [lows_nth, highs_nth p hi]; exact (count_le h hi).1) (p.lots.length - k) k (by omega)
  omega
theorem whole_ok {p : Recipe} (h : checkE p = 0) : BoxOk (lowsM p) (highsM p) := fun i hi => by
 have hi' : i < p.lots.length := by simpa [lowsM] using hi
 rw [lows_nth, highs_nth p hi']
 have := count_le h hi'
 omega
theorem own_S {F : Nat} {p : Recipe} (h : p.lots.length ≤ 1000000) : lown_S F p = some p := by
 simp [lown_S, lenOk, h]

/-! What is in a box -/
theorem take_snoc (c : List Int) {k : Nat} (h : c.length = k + 1) : c = c.take k ++ [nth c 0 k] := by
 have hk : k < c.length := by omega
 rw [← nth_eq c 0 k hk, ← List.take_succ_eq_append_getElem hk, ← h, List.take_length]
theorem nth_take (c : List Int) {k i : Nat} (h : i < k) : nth (c.take k) 0 i = nth c 0 i := by simp [nth, List.getD, h]
theorem box_mem {lo hi : List Int} : ∀ (k : Nat) (c : List Int), c ∈ boxTo lo hi k ↔ c.length = k ∧ InBox k lo hi c
 | 0, c => by
  simp only [boxTo, List.mem_singleton]
  constructor
  ·rintro rfl; exact ⟨rfl, fun i hi => by omega⟩
  ·rintro ⟨h, _⟩; exact List.length_eq_zero_iff.1 h
 | k + 1, c => by
  simp only [boxTo, List.mem_flatMap, List.mem_map]
  constructor
  ·rintro ⟨c', h1, n, h2, rfl⟩
   obtain ⟨e1, e2⟩ := (box_mem k c').1 h1
   refine ⟨by simp [e1], fun i hi => ?_⟩
   by_cases hik : i = k
   ·subst hik
    rw [← e1, nth_app_r]
    rw [← e1] at h2
    exact rng_mem h2
   ·rw [nth_app_l c' n 0 (by omega)]
    exact e2 i (by omega)
  ·rintro ⟨h1, h2⟩
   refine ⟨c.take k, (box_mem k _).2 ⟨by simp; omega, fun i hi => ?_⟩, nth c 0 k, ?_, (take_snoc c h1).symm⟩
   ·rw [nth_take c hi]; exact h2 i (by omega)
   ·have := h2 k (by omega)
    simp only [rng, List.mem_map, List.mem_range]
    exact ⟨(nth c 0 k - nth lo 0 k).toNat, by omega, by omega⟩
theorem box_sub {lo hi lo' hi' : List Int} : ∀ k, (∀ i, i < k → nth lo 0 i ≤ nth lo' 0 i ∧ nth hi' 0 i ≤ nth hi 0 i) → (boxTo lo' hi' k).length ≤ (boxTo lo hi k).length
 | 0, _ => Nat.le_refl _
 | k + 1, h => by
  have ih := box_sub k (fun i hi => h i (by omega))
  have hk := h k (by omega)
  rw [box_size, box_size, rng_len, rng_len]
  exact Nat.mul_le_mul ih (by omega)
/-- A corner of the box where a margin is greatest. -/
def cornerTo (p : Recipe) (j : Nat) (lo hi : List Int) : Nat → List Int
 | 0 => []
 | k + 1 => cornerTo p j lo hi k ++ [if (nth (onesM p) .zero k).get j * nth lo 0 k < (nth (onesM p) .zero k).get j * nth hi 0 k then nth hi 0 k else nth lo 0 k]
theorem corner_len (p : Recipe) (j : Nat) (lo hi : List Int) : ∀ k, (cornerTo p j lo hi k).length = k
 | 0 => rfl
 | k + 1 => by simp [cornerTo, corner_len p j lo hi k]
theorem corner_is {p : Recipe} {j : Nat} {lo hi : List Int} : ∀ k, (∀ i, i < k → nth lo 0 i ≤ nth hi 0 i) → InBox k lo hi (cornerTo p j lo hi k) ∧ exM p j (cornerTo p j lo hi k) k = exG p j lo hi k
 | 0, _ => ⟨fun i hi => by omega, rfl⟩
 | k + 1, h => by
  obtain ⟨i1, i2⟩ := corner_is (p := p) (j := j) k (fun i hi => h i (by omega))
  have hl := corner_len p j lo hi k
  have hk := h k (by omega)
  obtain ⟨v, hv⟩ : ∃ v, v = (if (nth (onesM p) .zero k).get j * nth lo 0 k < (nth (onesM p) .zero k).get j * nth hi 0 k then nth hi 0 k else nth lo 0 k) := ⟨_, rfl⟩
  have e1 : nth (cornerTo p j lo hi k ++ [v]) 0 k = v := by
   have := nth_app_r (cornerTo p j lo hi k) v 0
   rwa [hl] at this
  refine ⟨fun i hi => ?_, ?_⟩
  ·rw [cornerTo, ← hv]
   by_cases hik : i = k
   ·subst hik
    rw [e1, hv]
    split <;> omega
   ·rw [nth_app_l _ _ 0 (by omega)]
    exact i1 i (by omega)
  ·rw [exM, exG, cornerTo, ← hv, e1, exM_congr k (c' := cornerTo p j lo hi k) (fun i hi => nth_app_l _ _ 0 (by omega)), i2, hv]
   unfold mx
   split
   ·rw [Int.mul_comm]
   ·rw [Int.mul_comm]
/-- A box within the whole one. -/
structure Sub (p : Recipe) (low high : List Int) : Prop where
 l1 : low.length = p.lots.length
 l2 : high.length = p.lots.length
 b : ∀ i, i < p.lots.length → 0 ≤ nth low 0 i ∧ nth low 0 i ≤ nth high 0 i ∧ nth high 0 i ≤ (nth p.lots .zero i).count
theorem Sub.ok {p : Recipe} (h : checkE p = 0) {low high : List Int} (s : Sub p low high) : BoxOk low high := fun i hi => by
 have := s.b i (by rw [← s.l1]; exact hi)
 have := count_le h (show i < p.lots.length by rw [← s.l1]; exact hi)
 omega
theorem Sub.size {p : Recipe} {low high : List Int} (s : Sub p low high) (hsz : ∀ k, k ≤ p.lots.length → (boxTo (lowsM p) (highsM p) k).length ≤ 20000) : ∀ k, k ≤ p.lots.length → (boxTo low high k).length ≤ 20000 := fun k hk => by
 refine Nat.le_trans (box_sub k (fun i hi => ?_)) (hsz k hk)
 rw [lows_nth, highs_nth p (by omega)]
 have := s.b i (by omega)
 omega
theorem Sub.ch {p : Recipe} {low high : List Int} (s : Sub p low high) {c : List Int} (hc : c ∈ boxTo low high p.lots.length) : isChargeB p.lots c = true := by
 obtain ⟨h1, h2⟩ := (box_mem _ c).1 hc
 refine isCharge_of h1 (fun i hi => ?_)
 have := h2 i hi
 have := s.b i hi
 omega
/-- Whether a condition is true of a charge. -/
theorem trueB_ex {p : Recipe} {c : List Int} (h : checkE p = 0) (hc : isChargeB p.lots c = true) {j : Nat} (hj : j < 8) : trueB p (weighM p.lots c) j = decide (0 ≤ exM p j c p.lots.length) := by
 have hl := isCharge_len hc
 rw [ex_pile h hj _ (Nat.le_refl _) (by rw [← hl]; exact isCharge_ok hc), ← hl]
 have b := weigh_bd h hc
 show _ = decide (0 ≤ (marEx p (weighM p.lots c)).get j)
 generalize weighM p.lots c = x at *
 obtain ⟨hm, ht⟩ := check_rest h
 obtain ⟨⟨a1, a2, a3⟩, ⟨b1, b2, b3⟩, ⟨c1, c2, c3⟩⟩ := bounds_are ht
 obtain ⟨bm, bal, bah, bbl, bbh, bcl, bch⟩ := b
 have W : ∀ t c : Int, 0 ≤ t → t ≤ 100000000 → 0 ≤ c → c ≤ 600000000000 → IntKind.i64.wrap (1000000 * c) = 1000000 * c ∧ IntKind.i64.wrap (t * x.mass) = t * x.mass := fun t c g1 g2 g3 g4 => by
  have := mul_bd g1 g2 bm.1 bm.2
  exact ⟨wrapK_id (by omega), wrapK_id (by omega)⟩
 have q0 := (W p.target.a.hi x.con.a.hi (by omega) (by omega) (by omega) (by omega))
 have q1 := (W p.target.a.lo x.con.a.lo (by omega) (by omega) (by omega) (by omega))
 have q2 := (W p.target.b.hi x.con.b.hi (by omega) (by omega) (by omega) (by omega))
 have q3 := (W p.target.b.lo x.con.b.lo (by omega) (by omega) (by omega) (by omega))
 have q4 := (W p.target.c.hi x.con.c.hi (by omega) (by omega) (by omega) (by omega))
 have q5 := (W p.target.c.lo x.con.c.lo (by omega) (by omega) (by omega) (by omega))
 rcases j8 hj with rfl | rfl | rfl | rfl | rfl | rfl | rfl | rfl <;> simp only [trueB, trueL, List.getD_cons_zero, List.getD_cons_succ, q0, q1, q2, q3, q4, q5, Mar.get, Mar.list, marEx] <;> (rw [decide_eq_decide]; omega)
theorem never_l {F : Nat} {p : Recipe} {rows : List (List Int)} {j : Nat} (h : checkE p = 0) (hj : j < 8) (hr : ∀ c ∈ rows, isChargeB p.lots c = true) (hb : rows.length ≤ 1000000) : ∀ (d f k : Nat), k + d = rows.length → d < f →
  rNever_l2 F p (j : Int) rows f (k : Int) = some (if (rows.drop k).any (fun c => decide (0 ≤ exM p j c p.lots.length)) then .inl false else .inr ())
 | 0, f, k, hk, hf => by
  obtain ⟨f, rfl⟩ : ∃ g, f = g + 1 := ⟨f - 1, by omega⟩
  have e0 : decide ((k : Int) < (rows.length : Int)) = false := by rw [decide_eq_false_iff_not]; omega
  rw [rNever_l2, e0, cond_false, List.drop_of_length_le (by omega)]
  rfl
 | d + 1, f, k, hk, hf => by
  obtain ⟨f, rfl⟩ : ∃ g, f = g + 1 := ⟨f - 1, by omega⟩
  have e0 : decide ((k : Int) < (rows.length : Int)) = true := by rw [decide_eq_true_eq]; omega
  have hlt : k < rows.length := by omega
  obtain ⟨c, hc⟩ : ∃ c, c = nth rows [] k := ⟨_, rfl⟩
  have hm : c ∈ rows := by rw [hc, ← nth_eq rows [] k hlt]; exact List.getElem_mem hlt
  have hch := hr c hm
  have hlen := isCharge_len hch
  have ht : trueB p (⟨(weighM p.lots c).mass, (⟨(((weighM p.lots c).con).a), (((weighM p.lots c).con).b), (((weighM p.lots c).con).c)⟩ : Bnds)⟩ : Pile) j = decide (0 ≤ exM p j c p.lots.length) := trueB_ex h hch hj
  have ih := never_l (F := F) h hj hr hb d f (k + 1) (by omega) (by omega)
  have ej : inB (j : Int) 8 = true := by simp [inB]; omega
  rw [rNever_l2, e0, cond_true, inB_nat hlt, cond_true, Int.toNat_natCast, ← hc, decide_eq_true (show c.length ≤ p.lots.length by omega), cond_true, ej, cond_true, Int.toNat_natCast, ht, suc_w (by omega), ih, drop_nth rows [] hlt, ← hc, List.any_cons]
  cases hd : decide (0 ≤ exM p j c p.lots.length) <;> simp
theorem never_S {F : Nat} {p : Recipe} {low high : List Int} (h : checkE p = 0) (s : Sub p low high) (hsz : ∀ k, k ≤ p.lots.length → (boxTo (lowsM p) (highsM p) k).length ≤ 20000) (hF : 20001 < F) {j : Nat} (hj : j < 8) : rNever_S F p low high (j : Int) = some (decide (exG p j low high p.lots.length < 0)) := by
 have hl6 := check_len h
 have hs := s.size hsz
 have a := box_S (F := F) (low := low) (high := high) (by rw [s.l1, s.l2]) (s.ok h) (by rw [s.l1]; omega) (by rw [s.l1]; exact hs) hF
 rw [s.l1] at a
 have hle := hs _ (Nat.le_refl _)
 have b : rNever_l2 F p (j : Int) (boxTo low high p.lots.length) F (0 : Int) = _ := never_l (F := F) h hj (fun c hc => s.ch hc) (by omega) (boxTo low high p.lots.length).length F 0 (by omega) (by omega)
 rw [rNever_S, a]
 simp only [Option.bind_some]
 rw [b, List.drop_zero]
 simp only [Option.bind_some]
 by_cases hg : exG p j low high p.lots.length < 0
 ·have : (boxTo low high p.lots.length).any (fun c => decide (0 ≤ exM p j c p.lots.length)) = false := by
   rw [List.any_eq_false]
   intro c hc hd
   obtain ⟨_, h2⟩ := (box_mem _ c).1 hc
   have := ex_le (p := p) (j := j) _ h2
   rw [decide_eq_true_eq] at hd
   omega
  rw [this, decide_eq_true hg]; rfl
 ·have : (boxTo low high p.lots.length).any (fun c => decide (0 ≤ exM p j c p.lots.length)) = true := by
   obtain ⟨h1, h2⟩ := corner_is (p := p) (j := j) (lo := low) (hi := high) p.lots.length (fun i hi => (s.b i hi).2.1)
   rw [List.any_eq_true]
   refine ⟨cornerTo p j low high p.lots.length, (box_mem _ _).2 ⟨corner_len _ _ _ _ _, h1⟩, ?_⟩
   rw [decide_eq_true_eq, h2]; omega
  rw [this, decide_eq_false hg]; rfl

theorem idxOf_le {α : Type} (q : α → Bool) (d : α) : ∀ (xs : List α) (i n : Nat), n < xs.length → q (xs.getD n d) = true → idxOf q xs i ≤ ((i + n : Nat) : Int)
 | [], i, n, h, _ => by simp at h
 | x :: xs, i, 0, _, h => by
  rw [idxOf, if_pos (by simpa using h)]; omega
 | x :: xs, i, n + 1, h1, h2 => by
  rw [idxOf]
  split
  ·omega
  ·have := idxOf_le q d xs (i + 1) n (by simpa using h1) (by simpa using h2)
   omega
theorem broken_first (m : Mar) : (brokenM m < 0 ∧ ∀ j, j < 8 → 0 ≤ m.get j) ∨ (∃ j : Nat, j < 8 ∧ brokenM m = (j : Int) ∧ m.get j < 0 ∧ ∀ i, i < j → 0 ≤ m.get i) := by
 rcases broken_get m with h | ⟨j, h1, h2, h3⟩
 ·exact .inl h
 ·refine .inr ⟨j, h2, h1, h3, fun i hi => ?_⟩
  rw [← Int.not_lt]
  intro hn
  have := idxOf_le (fun n => decide (n < 0)) 0 m.list 0 i (by show i < 8; omega) (by simpa [Mar.get] using hn)
  rw [brokenM] at h1
  omega
theorem Sub.left {p : Recipe} {low high : List Int} (s : Sub p low high) {i : Nat} {m : Int} (hi : i < p.lots.length) (h1 : nth low 0 i ≤ m) (h2 : m < nth high 0 i) : Sub p low (high.set i m) :=
 ⟨s.l1, by rw [List.length_set]; exact s.l2, fun j hj => by
  have := s.b j hj
  rw [nth_set 0 m high i j (by rw [s.l2]; exact hi)]
  split
  ·rename_i e; subst e; omega
  ·exact this⟩
theorem Sub.right {p : Recipe} {low high : List Int} (s : Sub p low high) {i : Nat} {m : Int} (hi : i < p.lots.length) (h1 : nth low 0 i ≤ m) (h2 : m < nth high 0 i) : Sub p (low.set i (m + 1)) high :=
 ⟨by rw [List.length_set]; exact s.l1, s.l2, fun j hj => by
  have := s.b j hj
  rw [nth_set 0 (m + 1) low i j (by rw [s.l1]; exact hi)]
  split
  ·rename_i e; subst e; omega
  ·exact this⟩
theorem put_S {F : Nat} {l : List Int} {i : Nat} {x : Int} (hi : i < l.length) (hl : l.length ≤ 1000) : rPut_S F l (i : Int) x = some (l.set i x) := by
 rw [rPut_S, lenOk_of (by simp; omega), cond_true, List.nil_append, inB_nat hi, cond_true, Int.toNat_natCast]
 rfl
theorem prove_find {F : Nat} {R : Recipe → List Int → List Int → Option (List Split × Bool)} {p : Recipe} {low high : List Int} (hl : low.length = high.length) (hle : ∀ i, i < low.length → nth low 0 i ≤ nth high 0 i) (hb : low.length ≤ 1000) : ∀ (d f k : Nat), k + d = low.length → d < f →
  (firstFrom low high d k = none → rProve_l3 F R p low high f (k : Int) = some (.inr ())) ∧ (∀ i, firstFrom low high d k = some i → ∃ f', rProve_l3 F R p low high f (k : Int) = rProve_l3 F R p low high (f' + 1) (i : Int))
 | 0, f, k, hk, hf => by
  obtain ⟨f, rfl⟩ : ∃ g, f = g + 1 := ⟨f - 1, by omega⟩
  have e0 : decide ((k : Int) < (low.length : Int)) = false := by rw [decide_eq_false_iff_not]; omega
  refine ⟨fun _ => by rw [rProve_l3, e0, cond_false], fun i hi => by cases hi⟩
 | d + 1, f, k, hk, hf => by
  obtain ⟨f, rfl⟩ : ∃ g, f = g + 1 := ⟨f - 1, by omega⟩
  have e0 : decide ((k : Int) < (low.length : Int)) = true := by rw [decide_eq_true_eq]; omega
  have ih := prove_find (F := F) (R := R) (p := p) hl hle hb d f (k + 1) (by omega) (by omega)
  have hk' := hle k (by omega)
  rw [firstFrom]
  by_cases he : nth low 0 k = nth high 0 k
  ·have e1 : (nth low 0 k == nth high 0 k) = true := by simp [he]
   have step : rProve_l3 F R p low high (f + 1) (k : Int) = rProve_l3 F R p low high f ((k + 1 : Nat) : Int) := by
    rw [rProve_l3, e0, cond_true, inB_nat (by omega), cond_true, inB_nat (by omega), cond_true, Int.toNat_natCast, decide_eq_false (by omega), cond_false, suc_w (by omega)]
   rw [if_pos e1, step]
   exact ih
  ·have e1 : ¬ (nth low 0 k == nth high 0 k) = true := by simpa using he
   rw [if_neg e1]
   refine ⟨fun h => (by cases h), fun i hi => ?_⟩
   simp only [Option.some.injEq] at hi
   subst hi
   exact ⟨f, rfl⟩
theorem prove_S {F : Nat} {p : Recipe} (h : checkE p = 0) (hsz : ∀ k, k ≤ p.lots.length → (boxTo (lowsM p) (highsM p) k).length ≤ 20000) (hF : 20001 < F) : ∀ (n rf : Nat) (low high : List Int), Sub p low high → boxN low high ≤ n → n ≤ 20000 → n < rf →
  ∃ r, rProve_S F rf p low high = some r ∧ r.2 = (proveM p (onesM p) n low high).2 ∧ (r.2 = true → r.1 = (proveM p (onesM p) n low high).1) ∧ r.1.length + 1 ≤ 2 * boxN low high := by
 intro n
 induction n with
 | zero => intro rf low high s hn; exact absurd hn (by have := boxN_pos (s.ok h); omega)
 | succ n ih =>
  intro rf low high s hn hn2 hrf
  obtain ⟨rf, rfl⟩ : ∃ g, rf = g + 1 := ⟨rf - 1, by omega⟩
  have ok := s.ok h
  have hl6 := check_len h
  have l1 := s.l1
  have l2 := s.l2
  have n0 : rNever_S F p low high 0 = some (decide (exG p 0 low high p.lots.length < 0)) := never_S h s hsz hF (j := 0) (by omega)
  have n1 : rNever_S F p low high 1 = some (decide (exG p 1 low high p.lots.length < 0)) := never_S h s hsz hF (j := 1) (by omega)
  have n2 : rNever_S F p low high 2 = some (decide (exG p 2 low high p.lots.length < 0)) := never_S h s hsz hF (j := 2) (by omega)
  have n3 : rNever_S F p low high 3 = some (decide (exG p 3 low high p.lots.length < 0)) := never_S h s hsz hF (j := 3) (by omega)
  have n4 : rNever_S F p low high 4 = some (decide (exG p 4 low high p.lots.length < 0)) := never_S h s hsz hF (j := 4) (by omega)
  have n5 : rNever_S F p low high 5 = some (decide (exG p 5 low high p.lots.length < 0)) := never_S h s hsz hF (j := 5) (by omega)
  have n6 : rNever_S F p low high 6 = some (decide (exG p 6 low high p.lots.length < 0)) := never_S h s hsz hF (j := 6) (by omega)
  have n7 : rNever_S F p low high 7 = some (decide (exG p 7 low high p.lots.length < 0)) := never_S h s hsz hF (j := 7) (by omega)
  rw [rProve_S, n0, n1, n2, n3, n4, n5, n6, n7]
  simp only [Option.bind_some]
  rcases broken_first (greatM p (onesM p) low high) with ⟨hb, hall⟩ | ⟨k, hk, hb, hneg, hbef⟩
  ·have d : ∀ j, j < 8 → decide (exG p j low high p.lots.length < 0) = false := fun j hj => by
    have := hall j hj
    rw [great_at h hj l1 ok] at this
    rw [decide_eq_false_iff_not]; omega
   rw [d 0 (by omega), d 1 (by omega), d 2 (by omega), d 3 (by omega), d 4 (by omega), d 5 (by omega), d 6 (by omega), d 7 (by omega)]
   simp only [cond_false, Option.bind_some, onSum]
   have hnb : ¬ 0 ≤ brokenM (greatM p (onesM p) low high) := by omega
   obtain ⟨f1, f2⟩ := prove_find (F := F) (R := rProve_S F rf) (p := p) (low := low) (high := high) (by omega) (fun i hi => (ok i hi).2.1) (by omega) low.length F 0 (by omega) (by omega)
   have e0 : rProve_l3 F (rProve_S F rf) p low high F (0 : Int) = rProve_l3 F (rProve_S F rf) p low high F ((0 : Nat) : Int) := rfl
   rw [e0]
   cases hf : firstD low high with
   | none =>
    rw [f1 hf]
    refine ⟨([], false), rfl, ?_, fun h => (by cases h), ?_⟩
    ·rw [proveM, if_neg hnb, hf]
    ·have := boxN_pos ok; simp; omega
   | some i =>
    obtain ⟨f', e1⟩ := f2 i hf
    rw [e1]
    obtain ⟨_, hi, hne⟩ := firstFrom_some _ _ _ hf
    simp only [Nat.zero_add] at hi
    obtain ⟨m1, m2, m3⟩ := midOf_in ok hi hne
    have bi := ok i hi
    have hm : IntKind.i64.wrap ((IntKind.i64.wrap (nth low 0 i + nth high 0 i)).tdiv 2) = midOf low high i := by
     rw [wrapK_id (n := nth low 0 i + nth high 0 i) (by omega), Int.tdiv_eq_ediv_of_nonneg (by omega)]
     exact wrapK_id (by omega)
    have hm1 : IntKind.i64.wrap (midOf low high i + 1) = midOf low high i + 1 := wrapK_id (by omega)
    have hlt : nth low 0 i < nth high 0 i := by omega
    have sl := s.left (show i < p.lots.length by omega) m1 m2
    have sr := s.right (show i < p.lots.length by omega) m1 m2
    have cut := boxN_cut i (midOf low high i) (by omega) hi m1 m2
    have pl := boxN_pos (sl.ok h)
    have pr := boxN_pos (sr.ok h)
    obtain ⟨r1, a1, a2, a3, a4⟩ := ih rf _ _ sl (by omega) (by omega) (by omega)
    obtain ⟨r2, b1, b2, b3, b4⟩ := ih rf _ _ sr (by omega) (by omega) (by omega)
    rw [rProve_l3, decide_eq_true (show (i : Int) < (low.length : Int) by omega), cond_true, inB_nat hi, cond_true, inB_nat (by omega), cond_true, Int.toNat_natCast, decide_eq_true hlt, cond_true, hm, hm1, put_S (by omega) (by omega)]
    simp only [Option.bind_some]
    rw [a1, put_S (by omega) (by omega)]
    simp only [Option.bind_some]
    rw [b1]
    simp only [Option.bind_some]
    rw [proveM, if_neg hnb, hf]
    simp only
    rw [m3]
    cases hr1 : r1.2 with
    | false =>
     rw [hr1] at a2
     refine ⟨([], false), ?_, ?_, fun h => (by cases h), ?_⟩
     ·simp only [Bool.not_false, cond_true, Option.bind_some, onSum]
     ·simp only
      rw [if_neg (by rw [← a2]; simp)]
     ·simp; omega
    | true =>
     rw [hr1] at a2 a3
     have a3' := a3 rfl
     rw [lenOk_of (by simp; omega), lenOk_of (by simp; omega)]
     refine ⟨([⟨i, midOf low high i, 0⟩] ++ r1.1 ++ r2.1, r2.2), ?_, ?_, fun hr2 => ?_, ?_⟩
     ·simp only [Bool.not_true, cond_false, cond_true, Option.bind_some, onSum]
     ·simp only
      rw [if_pos a2.symm, b2]
     ·simp only
      rw [if_pos a2.symm, a3', b3 hr2]
      simp
     ·simp; omega
  ·rcases j8 hk with rfl | rfl | rfl | rfl | rfl | rfl | rfl | rfl
   ·refine ⟨([⟨-1, 0, 0⟩], true), ?_, ?_, ?_, ?_⟩
    ·simp only [decide_eq_true (show exG p 0 low high p.lots.length < 0 by rw [great_at h (by omega) s.l1 ok] at hneg; exact hneg), cond_true, cond_false, Option.bind_some, onSum]
    ·rw [proveM, hb, if_pos (by decide)]
    ·intro _; rw [proveM, hb, if_pos (by decide)]; rfl
    ·have := boxN_pos ok; simp; omega
   ·refine ⟨([⟨-1, 0, 1⟩], true), ?_, ?_, ?_, ?_⟩
    ·simp only [decide_eq_false (show ¬ exG p 0 low high p.lots.length < 0 by have := hbef 0 (by omega); rw [great_at h (by omega) s.l1 ok] at this; omega), decide_eq_true (show exG p 1 low high p.lots.length < 0 by rw [great_at h (by omega) s.l1 ok] at hneg; exact hneg), cond_true, cond_false, Option.bind_some, onSum]
    ·rw [proveM, hb, if_pos (by decide)]
    ·intro _; rw [proveM, hb, if_pos (by decide)]; rfl
    ·have := boxN_pos ok; simp; omega
   ·refine ⟨([⟨-1, 0, 2⟩], true), ?_, ?_, ?_, ?_⟩
    ·simp only [decide_eq_false (show ¬ exG p 0 low high p.lots.length < 0 by have := hbef 0 (by omega); rw [great_at h (by omega) s.l1 ok] at this; omega), decide_eq_false (show ¬ exG p 1 low high p.lots.length < 0 by have := hbef 1 (by omega); rw [great_at h (by omega) s.l1 ok] at this; omega), decide_eq_true (show exG p 2 low high p.lots.length < 0 by rw [great_at h (by omega) s.l1 ok] at hneg; exact hneg), cond_true, cond_false, Option.bind_some, onSum]
    ·rw [proveM, hb, if_pos (by decide)]
    ·intro _; rw [proveM, hb, if_pos (by decide)]; rfl
    ·have := boxN_pos ok; simp; omega
   ·refine ⟨([⟨-1, 0, 3⟩], true), ?_, ?_, ?_, ?_⟩
    ·simp only [decide_eq_false (show ¬ exG p 0 low high p.lots.length < 0 by have := hbef 0 (by omega); rw [great_at h (by omega) s.l1 ok] at this; omega), decide_eq_false (show ¬ exG p 1 low high p.lots.length < 0 by have := hbef 1 (by omega); rw [great_at h (by omega) s.l1 ok] at this; omega), decide_eq_false (show ¬ exG p 2 low high p.lots.length < 0 by have := hbef 2 (by omega); rw [great_at h (by omega) s.l1 ok] at this; omega), decide_eq_true (show exG p 3 low high p.lots.length < 0 by rw [great_at h (by omega) s.l1 ok] at hneg; exact hneg), cond_true, cond_false, Option.bind_some, onSum]
    ·rw [proveM, hb, if_pos (by decide)]
    ·intro _; rw [proveM, hb, if_pos (by decide)]; rfl
    ·have := boxN_pos ok; simp; omega
   ·refine ⟨([⟨-1, 0, 4⟩], true), ?_, ?_, ?_, ?_⟩
    ·simp only [decide_eq_false (show ¬ exG p 0 low high p.lots.length < 0 by have := hbef 0 (by omega); rw [great_at h (by omega) s.l1 ok] at this; omega), decide_eq_false (show ¬ exG p 1 low high p.lots.length < 0 by have := hbef 1 (by omega); rw [great_at h (by omega) s.l1 ok] at this; omega), decide_eq_false (show ¬ exG p 2 low high p.lots.length < 0 by have := hbef 2 (by omega); rw [great_at h (by omega) s.l1 ok] at this; omega), decide_eq_false (show ¬ exG p 3 low high p.lots.length < 0 by have := hbef 3 (by omega); rw [great_at h (by omega) s.l1 ok] at this; omega), decide_eq_true (show exG p 4 low high p.lots.length < 0 by rw [great_at h (by omega) s.l1 ok] at hneg; exact hneg), cond_true, cond_false, Option.bind_some, onSum]
    ·rw [proveM, hb, if_pos (by decide)]
    ·intro _; rw [proveM, hb, if_pos (by decide)]; rfl
    ·have := boxN_pos ok; simp; omega
   ·refine ⟨([⟨-1, 0, 5⟩], true), ?_, ?_, ?_, ?_⟩
    ·simp only [decide_eq_false (show ¬ exG p 0 low high p.lots.length < 0 by have := hbef 0 (by omega); rw [great_at h (by omega) s.l1 ok] at this; omega), decide_eq_false (show ¬ exG p 1 low high p.lots.length < 0 by have := hbef 1 (by omega); rw [great_at h (by omega) s.l1 ok] at this; omega), decide_eq_false (show ¬ exG p 2 low high p.lots.length < 0 by have := hbef 2 (by omega); rw [great_at h (by omega) s.l1 ok] at this; omega), decide_eq_false (show ¬ exG p 3 low high p.lots.length < 0 by have := hbef 3 (by omega); rw [great_at h (by omega) s.l1 ok] at this; omega), decide_eq_false (show ¬ exG p 4 low high p.lots.length < 0 by have := hbef 4 (by omega); rw [great_at h (by omega) s.l1 ok] at this; omega), decide_eq_true (show exG p 5 low high p.lots.length < 0 by rw [great_at h (by omega) s.l1 ok] at hneg; exact hneg), cond_true, cond_false, Option.bind_some, onSum]
    ·rw [proveM, hb, if_pos (by decide)]
    ·intro _; rw [proveM, hb, if_pos (by decide)]; rfl
    ·have := boxN_pos ok; simp; omega
   ·refine ⟨([⟨-1, 0, 6⟩], true), ?_, ?_, ?_, ?_⟩
    ·simp only [decide_eq_false (show ¬ exG p 0 low high p.lots.length < 0 by have := hbef 0 (by omega); rw [great_at h (by omega) s.l1 ok] at this; omega), decide_eq_false (show ¬ exG p 1 low high p.lots.length < 0 by have := hbef 1 (by omega); rw [great_at h (by omega) s.l1 ok] at this; omega), decide_eq_false (show ¬ exG p 2 low high p.lots.length < 0 by have := hbef 2 (by omega); rw [great_at h (by omega) s.l1 ok] at this; omega), decide_eq_false (show ¬ exG p 3 low high p.lots.length < 0 by have := hbef 3 (by omega); rw [great_at h (by omega) s.l1 ok] at this; omega), decide_eq_false (show ¬ exG p 4 low high p.lots.length < 0 by have := hbef 4 (by omega); rw [great_at h (by omega) s.l1 ok] at this; omega), decide_eq_false (show ¬ exG p 5 low high p.lots.length < 0 by have := hbef 5 (by omega); rw [great_at h (by omega) s.l1 ok] at this; omega), decide_eq_true (show exG p 6 low high p.lots.length < 0 by rw [great_at h (by omega) s.l1 ok] at hneg; exact hneg), cond_true, cond_false, Option.bind_some, onSum]
    ·rw [proveM, hb, if_pos (by decide)]
    ·intro _; rw [proveM, hb, if_pos (by decide)]; rfl
    ·have := boxN_pos ok; simp; omega
   ·refine ⟨([⟨-1, 0, 7⟩], true), ?_, ?_, ?_, ?_⟩
    ·simp only [decide_eq_false (show ¬ exG p 0 low high p.lots.length < 0 by have := hbef 0 (by omega); rw [great_at h (by omega) s.l1 ok] at this; omega), decide_eq_false (show ¬ exG p 1 low high p.lots.length < 0 by have := hbef 1 (by omega); rw [great_at h (by omega) s.l1 ok] at this; omega), decide_eq_false (show ¬ exG p 2 low high p.lots.length < 0 by have := hbef 2 (by omega); rw [great_at h (by omega) s.l1 ok] at this; omega), decide_eq_false (show ¬ exG p 3 low high p.lots.length < 0 by have := hbef 3 (by omega); rw [great_at h (by omega) s.l1 ok] at this; omega), decide_eq_false (show ¬ exG p 4 low high p.lots.length < 0 by have := hbef 4 (by omega); rw [great_at h (by omega) s.l1 ok] at this; omega), decide_eq_false (show ¬ exG p 5 low high p.lots.length < 0 by have := hbef 5 (by omega); rw [great_at h (by omega) s.l1 ok] at this; omega), decide_eq_false (show ¬ exG p 6 low high p.lots.length < 0 by have := hbef 6 (by omega); rw [great_at h (by omega) s.l1 ok] at this; omega), decide_eq_true (show exG p 7 low high p.lots.length < 0 by rw [great_at h (by omega) s.l1 ok] at hneg; exact hneg), cond_true, cond_false, Option.bind_some, onSum]
    ·rw [proveM, hb, if_pos (by decide)]
    ·intro _; rw [proveM, hb, if_pos (by decide)]; rfl
    ·have := boxN_pos ok; simp; omega

theorem in_S {F : Nat} {n a b : Int} : rIn_S F n a b = some (withinB n a b) := by
 rw [rIn_S]
 by_cases h : n ≥ a
 ·rw [decide_eq_true h, cond_true]; simp [withinB, show a ≤ n from h]
 ·rw [decide_eq_false h, cond_false]; simp [withinB]; omega
theorem accept_S {F : Nat} {p : Recipe} (h : checkE p = 0) (hsz : ∀ k, k ≤ p.lots.length → (boxTo (lowsM p) (highsM p) k).length ≤ 20000) (hF : 20001 < F) : ∀ (n rf : Nat) (low high : List Int) (l : List Split), Sub p low high → l.length ≤ n → l.length ≤ 40000 → n < rf →
  ∃ r : Int, rAccept_S F rf p low high l = some r ∧ ((acceptM p (onesM p) n low high l).2 = true → 0 < r ∧ r ≤ l.length ∧ (acceptM p (onesM p) n low high l).1 = l.drop r.toNat) ∧ ((acceptM p (onesM p) n low high l).2 = false → r = -1) := by
 intro n
 induction n with
 | zero =>
  intro rf low high l s hn _ hrf
  obtain ⟨rf, rfl⟩ : ∃ g, rf = g + 1 := ⟨rf - 1, by omega⟩
  obtain rfl : l = [] := List.length_eq_zero_iff.1 (by omega)
  exact ⟨-1, by rw [rAccept_S]; rfl, fun h => (by cases h), fun _ => rfl⟩
 | succ n ih =>
  intro rf low high l s hn h40 hrf
  obtain ⟨rf, rfl⟩ : ∃ g, rf = g + 1 := ⟨rf - 1, by omega⟩
  have ok := s.ok h
  have hl6 := check_len h
  have l1 := s.l1
  have l2 := s.l2
  cases l with
  | nil => exact ⟨-1, by rw [rAccept_S]; rfl, fun h => (by simp [acceptM] at h), fun _ => rfl⟩
  | cons x rest =>
   have hx : nth (x :: rest) Split.zero (0 : Int).toNat = x := rfl
   have e0 : (((x :: rest).length : Int) == 0) = false := by rw [beq_eq_false_iff_ne]; simp; omega
   have e1 : inB 0 (x :: rest).length = true := by simp [inB]
   have hd1 : List.drop (1 : Int).toNat (x :: rest) = rest := rfl
   simp only [List.length_cons] at hn h40
   rw [rAccept_S, e0, cond_false, e1, cond_true, hx, acceptM]
   by_cases hlot : x.lot = -1
   ·have c1 : (x.lot == -1) = true := by rw [hlot]; rfl
    rw [c1, cond_true, if_pos rfl, in_S]
    by_cases hat : x.at_ = 0
    ·have c2 : (x.at_ != 0) = false := by rw [hat]; rfl
     have c3 : (x.at_ == 0) = true := by rw [hat]; rfl
     rw [c2, cond_false, c3]
     cases hw : withinB x.reason 0 7 with
     | false => exact ⟨-1, by simp, fun h => (by simp at h), fun _ => rfl⟩
     | true =>
      have hw' : 0 ≤ x.reason ∧ x.reason ≤ 7 := by simpa [withinB] using hw
      have hj : x.reason.toNat < 8 := by omega
      have er : x.reason = ((x.reason.toNat : Nat) : Int) := by omega
      have hne : rNever_S F p low high x.reason = some (decide (exG p x.reason.toNat low high p.lots.length < 0)) := by
       have := never_S h s hsz hF hj
       rwa [← er] at this
      have hg : (greatM p (onesM p) low high).at' x.reason = exG p x.reason.toNat low high p.lots.length := by
       have := great_at h hj l1 ok
       rw [← at_get, ← er] at this
       exact this
      simp only [Option.bind_some, Bool.not_true, cond_false]
      rw [hne, hg]
      by_cases hneg : exG p x.reason.toNat low high p.lots.length < 0
      ·refine ⟨1, by simp [hneg], fun _ => ⟨by omega, by rw [List.length_cons]; omega, rfl⟩, fun hf => ?_⟩
       simp [hneg] at hf
      ·refine ⟨-1, by simp [hneg], fun hf => ?_, fun _ => rfl⟩
       simp [hneg] at hf
    ·have c2 : (x.at_ != 0) = true := by rw [bne_iff_ne]; exact hat
     have c3 : (x.at_ == 0) = false := by rw [beq_eq_false_iff_ne]; exact hat
     rw [c2, cond_true, c3]
     exact ⟨-1, rfl, fun h => (by simp at h), fun _ => rfl⟩
   ·have c1 : (x.lot == -1) = false := by rw [beq_eq_false_iff_ne]; exact hlot
    have ew : IntKind.i64.wrap ((low.length : Int) - 1) = (p.lots.length : Int) - 1 := by rw [wrapK_id (by omega), l1]
    rw [c1, cond_false, if_neg (by simp), in_S, ew]
    simp only [Option.bind_some]
    cases hw : withinB x.lot 0 (p.lots.length - 1) with
    | false => exact ⟨-1, by simp, fun h => (by simp at h), fun _ => rfl⟩
    | true =>
     have hw' : 0 ≤ x.lot ∧ x.lot ≤ (p.lots.length : Int) - 1 := by simpa [withinB] using hw
     obtain ⟨i, hi⟩ : ∃ i : Nat, x.lot = (i : Int) := ⟨x.lot.toNat, by omega⟩
     have hil : i < p.lots.length := by omega
     have bi := ok i (by omega)
     have ewh : wrap64 (nth high 0 i - 1) = nth high 0 i - 1 := wrap_id (by omega)
     rw [hi, inB_nat (show i < low.length by omega), inB_nat (show i < high.length by omega), Int.toNat_natCast, ewh]
     by_cases hre : x.reason = 0
     ·have c2 : (x.reason != 0) = false := by rw [hre]; rfl
      have c3 : (x.reason == 0) = true := by rw [hre]; rfl
      rw [c2, c3]
      simp only [Bool.not_true, cond_false, cond_true, Bool.true_and]
      by_cases hat : nth low 0 i ≤ x.at_ ∧ x.at_ < nth high 0 i
      ·have d1 : decide (x.at_ < nth low 0 i) = false := by rw [decide_eq_false_iff_not]; omega
       have d2 : decide (x.at_ ≥ nth high 0 i) = false := by rw [decide_eq_false_iff_not]; omega
       have d3 : withinB x.at_ (nth low 0 i) (nth high 0 i - 1) = true := by simp [withinB]; omega
       have d4 : dropOk 1 (x :: rest).length = true := by simp [dropOk]; omega
       have hm1 : IntKind.i64.wrap (x.at_ + 1) = x.at_ + 1 := wrapK_id (by omega)
       have hm2 : wrap64 (x.at_ + 1) = x.at_ + 1 := wrap_id (by omega)
       have sl := s.left hil hat.1 hat.2
       have sr := s.right hil hat.1 hat.2
       obtain ⟨r1, a1, a2, a3⟩ := ih rf low (high.set i x.at_) rest sl (by omega) (by omega) (by omega)
       rw [d1, d2, d3]
       simp only [cond_false, Option.bind_some, if_true]
       rw [d4, cond_true, put_S (by omega) (by omega), hd1]
       simp only [Option.bind_some]
       rw [a1]
       simp only [Option.bind_some]
       cases hA : (acceptM p (onesM p) n low (high.set i x.at_) rest).2 with
       | false =>
        have := a3 hA
        subst this
        exact ⟨-1, rfl, fun h => (by simp at h), fun _ => rfl⟩
       | true =>
        obtain ⟨q1, q2, q3⟩ := a2 hA
        have w1 : IntKind.i64.wrap (1 + r1) = 1 + r1 := wrapK_id (by omega)
        have d5 : dropOk (1 + r1) (x :: rest).length = true := by simp [dropOk]; omega
        have hd2 : List.drop (1 + r1).toNat (x :: rest) = rest.drop r1.toNat := by
         rw [show (1 + r1).toNat = r1.toNat + 1 by omega, List.drop_succ_cons]
        have hlen : (rest.drop r1.toNat).length ≤ rest.length := by rw [List.length_drop]; omega
        obtain ⟨r2, b1, b2, b3⟩ := ih rf (low.set i (x.at_ + 1)) high (rest.drop r1.toNat) sr (by omega) (by omega) (by omega)
        rw [decide_eq_false (show ¬ r1 < 0 by omega), cond_false, w1, d5, cond_true, hm1, put_S (by omega) (by omega), hd2]
        simp only [Option.bind_some]
        rw [b1]
        simp only [Option.bind_some, if_true]
        rw [hm2, q3]
        cases hB : (acceptM p (onesM p) n (low.set i (x.at_ + 1)) high (rest.drop r1.toNat)).2 with
        | false =>
         have := b3 hB
         subst this
         exact ⟨-1, rfl, fun h => (by cases h), fun _ => rfl⟩
        | true =>
         obtain ⟨t1, t2, t3⟩ := b2 hB
         rw [List.length_drop] at t2
         have w2 : IntKind.i64.wrap (1 + r1 + r2) = 1 + r1 + r2 := wrapK_id (by omega)
         rw [decide_eq_false (show ¬ r2 < 0 by omega), cond_false, w2]
         refine ⟨1 + r1 + r2, rfl, fun _ => ⟨by omega, by simp; omega, ?_⟩, fun h => (by cases h)⟩
         rw [t3, List.drop_drop, show (1 + r1 + r2).toNat = r1.toNat + r2.toNat + 1 by omega, List.drop_succ_cons]
      ·have d3 : withinB x.at_ (nth low 0 i) (nth high 0 i - 1) = false := by
        rw [Bool.eq_false_iff]; intro hc; simp [withinB] at hc; omega
       rw [d3]
       by_cases h1 : x.at_ < nth low 0 i
       ·rw [decide_eq_true h1]
        exact ⟨-1, rfl, fun h => (by simp at h), fun _ => rfl⟩
       ·rw [decide_eq_false h1, decide_eq_true (show x.at_ ≥ nth high 0 i by omega)]
        exact ⟨-1, rfl, fun h => (by simp at h), fun _ => rfl⟩
     ·have c2 : (x.reason != 0) = true := by rw [bne_iff_ne]; exact hre
      have c3 : (x.reason == 0) = false := by rw [beq_eq_false_iff_ne]; exact hre
      rw [c2, c3]
      exact ⟨-1, rfl, fun h => (by simp at h), fun _ => rfl⟩
theorem whole_sub {p : Recipe} (h : checkE p = 0) : Sub p (lowsM p) (highsM p) := ⟨by simp [lowsM], by simp [highsM], fun i hi => by
 rw [lows_nth, highs_nth p hi]
 have := count_le h hi
 omega⟩
theorem refutes_S {F : Nat} {p : Recipe} (h : checkE p = 0) (hsz : ∀ k, k ≤ p.lots.length → (boxTo (lowsM p) (highsM p) k).length ≤ 20000) (hF : 40000 < F) (l : List Split) : rRefutes_S F p l = some (refutesB p l) := by
 have hl6 := check_len h
 rw [rRefutes_S, whole_S (by omega) (by omega)]
 simp only [Option.bind_some]
 unfold refutesB
 rw [if_pos h]
 by_cases hl : l.length ≤ 40000
 ·rw [if_neg (by omega), decide_eq_true (by omega), cond_true]
  obtain ⟨r, a1, a2, a3⟩ := accept_S (F := F) h hsz (by omega) l.length F (lowsM p) (highsM p) l (whole_sub h) (Nat.le_refl _) hl (by omega)
  rw [a1]
  simp only [Option.bind_some]
  cases hA : (acceptM p (onesM p) l.length (lowsM p) (highsM p) l).2 with
  | false =>
   have := a3 hA
   subst this
   have : ((-1 : Int) == (l.length : Int)) = false := by rw [beq_eq_false_iff_ne]; omega
   rw [this]; rfl
  | true =>
   obtain ⟨q1, q2, q3⟩ := a2 hA
   rw [q3, List.length_drop]
   by_cases hr : r = l.length
   ·have e1 : (r == (l.length : Int)) = true := by rw [hr]; simp
    have e2 : l.length - r.toNat = 0 := by omega
    have e3 : (l.length : Int) > 0 := by omega
    rw [e1, e2, decide_eq_true e3]; rfl
   ·have e1 : (r == (l.length : Int)) = false := by rw [beq_eq_false_iff_ne]; exact hr
    have e2 : (l.length - r.toNat == 0) = false := by rw [beq_eq_false_iff_ne]; omega
    rw [e1, e2]; rfl
 ·rw [if_pos (by omega), decide_eq_false (by omega)]; rfl
theorem refute_S {F : Nat} {p : Recipe} (h : checkE p = 0) (hm : manyM p = false) (hsz : ∀ k, k ≤ p.lots.length → (boxTo (lowsM p) (highsM p) k).length ≤ 20000) (hF : 20001 < F) : rRefute_S F p = some (if (proofM p).2 then ((proofM p).1, true) else ([], false)) := by
 have hl6 := check_len h
 rw [rRefute_S, whole_S (by omega) (by omega)]
 simp only [Option.bind_some]
 have hbn := boxN_whole h hm
 obtain ⟨r, a1, a2, a3, _⟩ := prove_S h hsz hF (boxN (lowsM p) (highsM p)) F (lowsM p) (highsM p) (whole_sub h) (Nat.le_refl _) hbn (by omega)
 rw [a1]
 simp only [Option.bind_some]
 have e : (proofM p) = proveM p (onesM p) (boxN (lowsM p) (highsM p)) (lowsM p) (highsM p) := rfl
 rw [e, ← a2]
 cases hr : r.2 with
 | false => simp
 | true =>
  rw [hr] at a3
  rw [← a3 rfl]
  simp
theorem bind_ok {α : Type} {o : Option α} {f : α → Option Bool} (P : α → Prop) (h : ∃ z, o = some z ∧ P z) (hf : ∀ z, P z → f z = some true) : o.bind f = some true := by
 obtain ⟨z, rfl, hz⟩ := h
 exact hf z hz
theorem refuteL_len (p : Recipe) : (refuteL p).length < 40000 := by
 unfold refuteL
 split
 ·rename_i h
  split
  ·simp
  ·rename_i hm
   split
   ·have hm' : manyM p = false := by simpa using hm
    have hbn := boxN_whole h hm'
    have := proveM_len p (onesM p) (boxN (lowsM p) (highsM p)) (lowsM p) (highsM p) (by simp [lowsM, highsM]) (whole_ok h)
    unfold proofM
    omega
   ·simp
 ·simp
theorem samep_l {F : Nat} {l : List Split} (hb : l.length ≤ 1000000) : ∀ (d f k : Nat), k + d = l.length → d < f → lsamep_l3 F l l f (k : Int) = some (.inr ())
 | 0, f, k, hk, hf => by
  obtain ⟨f, rfl⟩ : ∃ g, f = g + 1 := ⟨f - 1, by omega⟩
  have e0 : decide ((k : Int) < (l.length : Int)) = false := by rw [decide_eq_false_iff_not]; omega
  rw [lsamep_l3, e0, cond_false]
 | d + 1, f, k, hk, hf => by
  obtain ⟨f, rfl⟩ : ∃ g, f = g + 1 := ⟨f - 1, by omega⟩
  have e0 : decide ((k : Int) < (l.length : Int)) = true := by rw [decide_eq_true_eq]; omega
  rw [lsamep_l3, e0, cond_true, inB_nat (by omega), cond_true, cond_true]
  simp only [beq_self_eq_true, Bool.and_self, Bool.not_true, cond_false]
  rw [suc_w (by omega)]
  exact samep_l (F := F) hb d f (k + 1) (by omega) (by omega)
theorem samep_S {F : Nat} {l : List Split} (hb : l.length ≤ 1000000) (hF : l.length < F) : lsamep_S F l l = some true := by
 have a : lsamep_l3 F l l F (0 : Int) = some (.inr ()) := samep_l hb l.length F 0 (by omega) hF
 rw [lsamep_S, bne_self_eq_false, cond_false, a]; rfl
theorem chargeRefutes_S {F : Nat} {p : Recipe} {d : Doubt} (hF : 40001 < F) (hd : 0 ≤ d.at_ ∧ d.at_ ≤ 255) : lrefutes_S F p d = some true := by
 unfold lrefutes_S
 simp only [List.nil_append]
 refine bind_ok (fun b => b = true ∨ (p.lots.length ≤ 10 ∧ d.proof.length ≤ 60 ∧ (checkE p = 0 → manyM p = true → d.proof = []))) ?_ (fun b hb => ?_)
 ·by_cases l1 : p.lots.length ≤ 10
  ·rw [decide_eq_false (show ¬ (p.lots.length : Int) > 10 by omega), cond_false]
   by_cases hq : checkE p = 0
   ·obtain ⟨r, r1, r2, r3⟩ := many_S (F := F) hq (by omega)
    rw [show (checkE p == 0) = true by rw [hq]; rfl, cond_true, r1]
    simp only [Option.bind_some]
    by_cases h300 : r > 300
    ·rw [decide_eq_true h300, cond_true, lslow_S, r1]
     simp only [Option.bind_some]
     rw [decide_eq_true h300, cond_true]
     simp only [Option.bind_some]
     by_cases h2 : r ≤ 20000
     ·rw [decide_eq_true h2]; exact ⟨true, rfl, .inl rfl⟩
     ·rw [decide_eq_false h2, cond_false]
      by_cases hp : d.proof.length = 0
      ·rw [decide_eq_false (show ¬ (d.proof.length : Int) > 0 by omega), cond_false]
       refine ⟨_, rfl, .inr ⟨l1, by omega, fun _ _ => List.length_eq_zero_iff.1 hp⟩⟩
      ·rw [decide_eq_true (show (d.proof.length : Int) > 0 by omega), cond_true]
       exact ⟨true, rfl, .inl rfl⟩
    ·rw [decide_eq_false h300, cond_false]
     by_cases h60 : d.proof.length ≤ 60
     ·refine ⟨_, rfl, .inr ⟨l1, h60, fun _ hm => ?_⟩⟩
      have := r2.2 hm
      omega
     ·exact ⟨_, rfl, .inl (decide_eq_true (by omega))⟩
   ·rw [show (checkE p == 0) = false by rw [beq_eq_false_iff_ne]; exact hq, cond_false]
    by_cases h60 : d.proof.length ≤ 60
    ·exact ⟨_, rfl, .inr ⟨l1, h60, fun h => absurd h hq⟩⟩
    ·exact ⟨_, rfl, .inl (decide_eq_true (by omega))⟩
  ·rw [decide_eq_true (show (p.lots.length : Int) > 10 by omega), cond_true]
   exact ⟨true, rfl, .inl rfl⟩
 ·cases b with
  | true => rfl
  | false =>
   obtain ⟨l1, h60, hmany⟩ := hb.resolve_left (by simp)
   have hL := refuteL_len p
   rw [cond_false, own_S (by omega)]
   simp only [Option.bind_some]
   rw [lenOk_of (by simp; omega), cond_true]
   refine bind_ok (fun z => z.length ≤ 40000 ∧ (refuteL p = [] → d.proof = [] → z = [])) ?_ (fun z hz => ?_)
   ·cases d.own with
    | false => exact ⟨d.proof, rfl, by omega, fun _ h => h⟩
    | true =>
     rw [cond_true, lenOk_of (by simp; omega), cond_true]
     by_cases h0 : (refuteL p).length = 0
     ·rw [decide_eq_false (show ¬ ((refuteL p).length : Int) > 0 by omega), cond_false]
      exact ⟨_, rfl, by omega, fun h _ => h⟩
     ·rw [decide_eq_true (show ((refuteL p).length : Int) > 0 by omega), cond_true]
      have hne : (((refuteL p).length : Int) != 0) = true := by rw [bne_iff_ne]; omega
      obtain ⟨i, hi, hin⟩ : ∃ i : Nat, (IntKind.i64.wrap d.at_).tmod ((refuteL p).length : Int) = (i : Int) ∧ i < (refuteL p).length := by
       rw [wrapK_id (by omega)]
       have b1 := Int.tmod_nonneg ((refuteL p).length : Int) hd.1
       have b2 := Int.tmod_lt_of_pos d.at_ (show (0 : Int) < ((refuteL p).length : Int) by omega)
       exact ⟨(d.at_.tmod ((refuteL p).length : Int)).toNat, by omega, by omega⟩
      simp only [List.length_set, hne, hi, inB_nat hin, cond_true]
      refine ⟨_, rfl, by simp; omega, fun h => ?_⟩
      rw [h] at h0
      exact absurd rfl h0
   ·obtain ⟨z1, z2⟩ := hz
    rw [lenOk_of (by simp; omega), cond_true]
    by_cases hq : checkE p = 0
    ·rw [hq]
     simp only [bne_self_eq_false, cond_false, beq_self_eq_true, cond_true]
     obtain ⟨r, r1, r2, r3⟩ := many_S (F := F) hq (by omega)
     rw [r1]
     simp only [Option.bind_some]
     by_cases hm : 20000 < r
     ·have hmm := r2.1 hm
      obtain ⟨q1, q2, _⟩ := refute_full hq hmm
      have hz0 := z2 q2 (hmany hq hmm)
      subst hz0
      have q3 : refutesB p [] = false := by simp [refutesB, acceptM_nil]
      rw [decide_eq_true (show r > 20000 from hm), cond_true, q1, q2, q3]
      rfl
     ·have hmm : manyM p = false := by
       cases hx : manyM p with
       | true => exact absurd (r2.2 hx) hm
       | false => rfl
      have hsz := r3 (by omega)
      rw [decide_eq_false (show ¬ r > 20000 from hm), cond_false, refute_S hq hmm hsz (by omega), refutes_S hq hsz (by omega) z]
      simp only [Option.bind_some]
      have e1 : refuteE p = if (proofM p).2 then 0 else 21 := by simp [refuteE, hq, hmm]
      have e2 : refuteL p = if (proofM p).2 then (proofM p).1 else [] := by simp [refuteL, hq, hmm]
      cases hp : (proofM p).2 with
      | false =>
       rw [hp] at e1 e2
       rw [e1, e2]
       simp [onSum]
      | true =>
       rw [hp] at e1 e2
       simp only [if_true] at e1 e2
       have hs := samep_S (F := F) (l := (proofM p).1) (by rw [← e2]; omega) (by rw [← e2]; omega)
       rw [e1, e2]
       simp only [if_true, Bool.not_true, cond_false, bne_self_eq_false]
       rw [hs]
       simp [onSum]
    ·obtain ⟨q1, q2, _⟩ := refute_bad hq
     have q3 := refutes_bad hq z
     have en : (checkE p != 0) = true := by rw [bne_iff_ne]; exact hq
     rw [en, cond_true, q1, q2, q3]
     simp
end Go.Proofs.Ytojnpaenpaobcaa
