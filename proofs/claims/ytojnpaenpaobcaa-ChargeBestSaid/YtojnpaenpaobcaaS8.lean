/- ChargeBest's meaning is true. No condition. -/
import Derived.Test.YtojnpaenpaobcaaS7
import Derived.Test.YtojnpaenpaobcaaS1
namespace Go.Proofs.Ytojnpaenpaobcaa
open Go.RowKit
theorem wrap_w (n : Int) : IntKind.i64.wrap n = wrap64 n := by unfold wrap64; exact IntKind.wrap_i64 n
theorem W64 {n : Int} (h : -9223372036854775808 ≤ n ∧ n ≤ 9223372036854775807) : IntKind.i64.wrap n = n := wrapK_id h
theorem suc_w {i : Nat} (h : i ≤ 1000000000) : IntKind.i64.wrap ((i : Int) + 1) = ((i + 1 : Nat) : Int) := by rw [wrapK_id (by omega)]; omega
theorem inB_nat {i n : Nat} (h : i < n) : inB (i : Int) n = true := by simp [inB]; omega
theorem lenOk_of {a b : Nat} (h : a + b ≤ 1000000) : lenOk a b = true := by simp [lenOk, h]
/-! All whole numbers of a range, in order -/
def rng (a b : Int) : List Int := (List.range (b - a + 1).toNat).map (fun j : Nat => a + (j : Int))
theorem rng_len (a b : Int) : (rng a b).length = (b - a + 1).toNat := by simp [rng]
theorem rng_nil {a b : Int} (h : b < a) : rng a b = [] := by
  have : (b - a + 1).toNat = 0 := by omega
  simp [rng, this]
theorem rng_cons {a b : Int} (h : a ≤ b) : rng a b = a :: rng (a + 1) b := by
  have : (b - a + 1).toNat = (b - (a + 1) + 1).toNat + 1 := by omega
  unfold rng
  rw [this, List.range_succ_eq_map, List.map_cons, List.map_map]
  congr 1
  · simp
  · apply List.map_congr_left
    intro j _
    simp only [Function.comp_apply, Nat.succ_eq_add_one]
    omega
theorem rng_mem {a b n : Int} (h : n ∈ rng a b) : a ≤ n ∧ n ≤ b := by
  simp only [rng, List.mem_map, List.mem_range] at h
  obtain ⟨j, hj, rfl⟩ := h
  omega
/-! All lists of a box -/
def boxTo (lo hi : List Int) : Nat → List (List Int)
  | 0 => [[]]
  | k + 1 => (boxTo lo hi k).flatMap (fun c => (rng (nth lo 0 k) (nth hi 0 k)).map (fun n => c ++ [n]))
theorem box_len (lo hi : List Int) : ∀ k, ∀ c ∈ boxTo lo hi k, c.length = k
  | 0, c, h => by simp only [boxTo, List.mem_singleton] at h; subst h; rfl
  | k + 1, c, h => by
    simp only [boxTo, List.mem_flatMap, List.mem_map] at h
    obtain ⟨c', h1, n, _, rfl⟩ := h
    simp [box_len lo hi k c' h1]
theorem flatMap_len {α β : Type} (f : α → List β) (m : Nat) (hf : ∀ x, (f x).length = m) : ∀ l : List α, (l.flatMap f).length = l.length * m
  | [] => by simp
  | x :: l => by simp only [List.flatMap_cons, List.length_append, hf, flatMap_len f m hf l, List.length_cons, Nat.add_mul, Nat.one_mul]; omega
theorem box_size (lo hi : List Int) (k : Nat) : (boxTo lo hi (k + 1)).length = (boxTo lo hi k).length * (rng (nth lo 0 k) (nth hi 0 k)).length := by
  rw [boxTo]
  exact flatMap_len _ _ (fun c => by simp) _
theorem box_in {F : Nat} {high : List Int} {out : List (List Int)} {i k : Nat} (hi : i < high.length) (hk : k < out.length) (hb : nth high 0 i ≤ 1000) (hc : (nth out [] k).length ≤ 1000) :
    ∀ (d f : Nat) (next : List (List Int)) (n : Int), 0 ≤ n → (nth high 0 i - n + 1).toNat = d → d < f → next.length + d ≤ 1000000 →
      rBox_l41 F high out (i : Int) (k : Int) f next n = some (next ++ (rng n (nth high 0 i)).map (fun m => nth out [] k ++ [m]))
  | 0, f, next, n, hn, hd, hf, hl => by
    obtain ⟨f, rfl⟩ : ∃ g, f = g + 1 := ⟨f - 1, by omega⟩
    have e0 : decide (n ≤ nth high 0 i) = false := by rw [decide_eq_false_iff_not]; omega
    rw [rBox_l41, inB_nat hi, cond_true, Int.toNat_natCast, e0, cond_false, rng_nil (by omega)]
    simp
  | d + 1, f, next, n, hn, hd, hf, hl => by
    obtain ⟨f, rfl⟩ : ∃ g, f = g + 1 := ⟨f - 1, by omega⟩
    have e0 : decide (n ≤ nth high 0 i) = true := by rw [decide_eq_true_eq]; omega
    have e1 : IntKind.i64.wrap (n + 1) = n + 1 := wrapK_id (by omega)
    have ih := box_in (F := F) hi hk hb hc d f (next ++ [nth out [] k ++ [n]]) (n + 1) (by omega) (by omega) (by omega) (by simp; omega)
    rw [rBox_l41, inB_nat hi, cond_true, Int.toNat_natCast, e0, cond_true, inB_nat hk, cond_true, Int.toNat_natCast, lenOk_of (by simp; omega), cond_true, lenOk_of (by simp; omega), cond_true, lenOk_of (by omega), cond_true, e1]
    simp only [List.nil_append]
    rw [ih, rng_cons (by omega : n ≤ nth high 0 i)]
    simp
theorem drop_nth {α : Type} (l : List α) (d : α) {k : Nat} (h : k < l.length) : l.drop k = nth l d k :: l.drop (k + 1) := by
  rw [List.drop_eq_getElem_cons h, nth_eq l d k h]
theorem box_mid {F : Nat} {low high : List Int} {out : List (List Int)} {i : Nat} (h1 : i < low.length) (h2 : i < high.length) (hlo : 0 ≤ nth low 0 i) (hb : nth high 0 i ≤ 1000) (hc : ∀ c ∈ out, c.length ≤ 1000) (hF : 1001 < F) (ho : out.length ≤ 1000000) :
    ∀ (d f k : Nat) (next : List (List Int)), k + d = out.length → d < f → next.length + d * (rng (nth low 0 i) (nth high 0 i)).length ≤ 1000000 →
      rBox_l15 F low high out (i : Int) f next (k : Int) = some (next ++ (out.drop k).flatMap (fun c => (rng (nth low 0 i) (nth high 0 i)).map (fun m => c ++ [m])))
  | 0, f, k, next, hk, hf, hl => by
    obtain ⟨f, rfl⟩ : ∃ g, f = g + 1 := ⟨f - 1, by omega⟩
    have e0 : decide ((k : Int) < (out.length : Int)) = false := by rw [decide_eq_false_iff_not]; omega
    rw [rBox_l15, e0, cond_false, List.drop_of_length_le (by omega)]
    simp
  | d + 1, f, k, next, hk, hf, hl => by
    obtain ⟨f, rfl⟩ : ∃ g, f = g + 1 := ⟨f - 1, by omega⟩
    have e0 : decide ((k : Int) < (out.length : Int)) = true := by rw [decide_eq_true_eq]; omega
    have hkl : k < out.length := by omega
    have hck : (nth out [] k).length ≤ 1000 := by rw [← nth_eq out [] k hkl]; exact hc _ (List.getElem_mem hkl)
    have hr := rng_len (nth low 0 i) (nth high 0 i)
    rw [Nat.add_mul, Nat.one_mul] at hl
    have a := box_in (F := F) h2 hkl hb hck _ F next (nth low 0 i) hlo rfl (by omega) (by omega)
    have ih := box_mid (F := F) h1 h2 hlo hb hc hF ho d f (k + 1) (next ++ (rng (nth low 0 i) (nth high 0 i)).map (fun m => nth out [] k ++ [m])) (by omega) (by omega) (by simp; omega)
    rw [rBox_l15, e0, cond_true, inB_nat h1, cond_true, Int.toNat_natCast, a]
    simp only [Option.bind_some]
    rw [suc_w (by omega), ih, drop_nth out [] hkl]
    simp
theorem box_l {F : Nat} {low high : List Int} (hl : low.length = high.length) (hb : BoxOk low high) (hn : low.length ≤ 1000) (hsz : ∀ k, k ≤ low.length → (boxTo low high k).length ≤ 20000) (hF : 20001 < F) :
    ∀ (d f i : Nat), i + d = low.length → d < f → rBox_l7 F low high f (boxTo low high i) (i : Int) = some (boxTo low high low.length)
  | 0, f, i, hi, hf => by
    obtain ⟨f, rfl⟩ : ∃ g, f = g + 1 := ⟨f - 1, by omega⟩
    obtain rfl : i = low.length := by omega
    have e0 : decide ((low.length : Int) < (low.length : Int)) = false := by rw [decide_eq_false_iff_not]; omega
    rw [rBox_l7, e0, cond_false]
  | d + 1, f, i, hi, hf => by
    obtain ⟨f, rfl⟩ : ∃ g, f = g + 1 := ⟨f - 1, by omega⟩
    have e0 : decide ((i : Int) < (low.length : Int)) = true := by rw [decide_eq_true_eq]; omega
    have hlt : i < low.length := by omega
    obtain ⟨b1, b2, b3⟩ := hb i hlt
    have s0 := hsz i (by omega)
    have s1 := hsz (i + 1) (by omega)
    have hs := box_size low high i
    have a := box_mid (F := F) (low := low) (high := high) (out := boxTo low high i) hlt (by omega) b1 b3 (fun c hc => by rw [box_len low high i c hc]; omega) (by omega) (by omega) _ F 0 [] (Nat.zero_add _) (by omega) (by simp; omega)
    have ih := box_l (F := F) hl hb hn hsz hF d f (i + 1) (by omega) (by omega)
    rw [rBox_l7, e0, cond_true]
    have a' : rBox_l15 F low high (boxTo low high i) (i : Int) F ([] : List (List Int)) (0 : Int) = some (boxTo low high (i + 1)) := a
    rw [a']
    simp only [Option.bind_some]
    rw [suc_w (by omega)]
    exact ih
theorem box_S {F : Nat} {low high : List Int} (hl : low.length = high.length) (hb : BoxOk low high) (hn : low.length ≤ 1000) (hsz : ∀ k, k ≤ low.length → (boxTo low high k).length ≤ 20000) (hF : 20001 < F) : rBox_S F low high = some (boxTo low high low.length) := by
  have a : rBox_l7 F low high F [([] : List Int)] (0 : Int) = some (boxTo low high low.length) := box_l hl hb hn hsz hF low.length F 0 (by omega) (by omega)
  rw [rBox_S, a]; rfl
/-! The whole box -/
theorem lows_nth (p : Recipe) (k : Nat) : nth (lowsM p) 0 k = 0 := by
  simp only [nth, lowsM, List.getD]
  by_cases h : k < p.lots.length
  · simp [h]
  · simp [h]
theorem highs_nth (p : Recipe) {k : Nat} (h : k < p.lots.length) : nth (highsM p) 0 k = (nth p.lots .zero k).count := by
  simp [nth, highsM, List.getD, h]
theorem whole_l {F : Nat} {p : Recipe} (hl : p.lots.length ≤ 100000) : ∀ (d f i : Nat), i + d = p.lots.length → d < f →
    rWhole_l8 F p f (List.replicate i 0) ((p.lots.take i).map (fun l => l.count)) (i : Int) = some (lowsM p, highsM p)
  | 0, f, i, hi, hf => by
    obtain ⟨f, rfl⟩ : ∃ g, f = g + 1 := ⟨f - 1, by omega⟩
    obtain rfl : i = p.lots.length := by omega
    have e0 : decide ((p.lots.length : Int) < (p.lots.length : Int)) = false := by rw [decide_eq_false_iff_not]; omega
    rw [rWhole_l8, e0, cond_false, List.take_length]; rfl
  | d + 1, f, i, hi, hf => by
    obtain ⟨f, rfl⟩ : ∃ g, f = g + 1 := ⟨f - 1, by omega⟩
    have hlt : i < p.lots.length := by omega
    have e0 : decide ((i : Int) < (p.lots.length : Int)) = true := by rw [decide_eq_true_eq]; omega
    have ih := whole_l (F := F) hl d f (i + 1) (by omega) (by omega)
    rw [rWhole_l8, e0, cond_true, inB_nat hlt, cond_true, lenOk_of (by simp; omega), cond_true, lenOk_of (by simp; omega), cond_true, suc_w (by omega), Int.toNat_natCast]
    rw [← ih]
    congr 1
    · rw [List.replicate_succ']
    · rw [List.take_succ_eq_append_getElem hlt, List.map_append, nth_eq p.lots .zero i hlt]; rfl
theorem whole_S {F : Nat} {p : Recipe} (hl : p.lots.length ≤ 100000) (hF : p.lots.length < F) : rWhole_S F p = some (lowsM p, highsM p) := by
  have a : rWhole_l8 F p F ([] : List Int) ([] : List Int) (0 : Int) = some (lowsM p, highsM p) := whole_l hl p.lots.length F 0 (by omega) hF
  rw [rWhole_S, a]; rfl
/-! All charges are the whole box -/
def extB (p : Recipe) : Nat → List Int → List (List Int)
  | 0, c => [c]
  | r + 1, c => (rng 0 (nth p.lots .zero c.length).count).flatMap (fun n => extB p r (c ++ [n]))
theorem ch_map (p : Recipe) (ones : List Mar) : ∀ (r : Nat) (c : List Int) (m : Mar), (chargesR p ones r c m).map Prod.fst = extB p r c
  | 0, c, m => rfl
  | r + 1, c, m => by
    rw [chargesR, extB, List.map_flatMap, rng, List.flatMap_map]
    have e : ((nth p.lots Lot.zero c.length).count - 0 + 1).toNat = ((nth p.lots Lot.zero c.length).count + 1).toNat := by rw [Int.sub_zero]
    rw [e]
    congr 1
    funext j
    rw [ch_map p ones r]
    rw [Int.zero_add]
theorem flatMap_congr' {α β : Type} {f g : α → List β} : ∀ {l : List α}, (∀ x ∈ l, f x = g x) → l.flatMap f = l.flatMap g
  | [], _ => rfl
  | x :: l, h => by
    rw [List.flatMap_cons, List.flatMap_cons, h x (by simp), flatMap_congr' (fun y hy => h y (by simp [hy]))]
theorem ext_box (p : Recipe) : ∀ (r k : Nat), k + r = p.lots.length → boxTo (lowsM p) (highsM p) (k + r) = (boxTo (lowsM p) (highsM p) k).flatMap (extB p r)
  | 0, k, h => by
    have : extB p 0 = fun c => [c] := by funext c; rfl
    rw [this, Nat.add_zero]
    simp
  | r + 1, k, h => by
    have ih := ext_box p r (k + 1) (by omega)
    rw [show k + (r + 1) = k + 1 + r by omega, ih, boxTo, List.flatMap_assoc]
    refine flatMap_congr' (fun c hc => ?_)
    have hk : c.length = k := box_len _ _ k c hc
    rw [extB, hk, lows_nth, highs_nth p (by omega), List.flatMap_map]
theorem all_box (p : Recipe) : (allCharges p).map Prod.fst = boxTo (lowsM p) (highsM p) p.lots.length := by
  have := ext_box p p.lots.length 0 (by omega)
  rw [Nat.zero_add] at this
  rw [this, allCharges, ch_map]
  simp [boxTo]
/-! How many there are -/
theorem box_mono {lo hi : List Int} {k : Nat} (h : nth lo 0 k ≤ nth hi 0 k) : (boxTo lo hi k).length ≤ (boxTo lo hi (k + 1)).length := by
  rw [box_size, rng_len]
  have : 1 ≤ (nth hi 0 k - nth lo 0 k + 1).toNat := by omega
  exact Nat.le_mul_of_pos_right _ this
theorem box_mono' {lo hi : List Int} {n : Nat} (h : ∀ i, i < n → nth lo 0 i ≤ nth hi 0 i) : ∀ d k, k + d = n → (boxTo lo hi k).length ≤ (boxTo lo hi n).length
  | 0, k, hk => by
    obtain rfl : k = n := by omega
    exact Nat.le_refl _
  | d + 1, k, hk => Nat.le_trans (box_mono (h k (by omega))) (box_mono' h d (k + 1) (by omega))
theorem mn_min (a b : Int) : mn a b = min a b := by unfold mn; split <;> omega
theorem many_l {F : Nat} {p : Recipe} (h : checkE p = 0) : ∀ (d f i : Nat) (n : Int), i + d = p.lots.length → d < f → 1 ≤ n → n ≤ 20001 →
    ∃ r, rMany_l3 F p f n (i : Int) = some r ∧ 1 ≤ r ∧ r ≤ 20001 ∧ (n = 20001 → r = 20001) ∧ (n ≤ 20000 → (20000 < r ↔ manyFrom (p.lots.drop i) n = true)) ∧ (n = (boxTo (lowsM p) (highsM p) i).length → r ≤ 20000 → r = (boxTo (lowsM p) (highsM p) p.lots.length).length)
  | 0, f, i, n, hi, hf, h1, h2 => by
    obtain ⟨f, rfl⟩ : ∃ g, f = g + 1 := ⟨f - 1, by omega⟩
    obtain rfl : i = p.lots.length := by omega
    have e0 : decide ((p.lots.length : Int) < (p.lots.length : Int)) = false := by rw [decide_eq_false_iff_not]; omega
    rw [rMany_l3, e0, cond_false]
    refine ⟨n, rfl, h1, h2, id, fun h3 => ?_, fun h3 _ => h3⟩
    rw [List.drop_length]
    simp [manyFrom]; omega
  | d + 1, f, i, n, hi, hf, h1, h2 => by
    obtain ⟨f, rfl⟩ : ∃ g, f = g + 1 := ⟨f - 1, by omega⟩
    have hlt : i < p.lots.length := by omega
    have hl6 := check_len h
    have e0 : decide ((i : Int) < (p.lots.length : Int)) = true := by rw [decide_eq_true_eq]; omega
    have hc := count_le h hlt
    obtain ⟨c, hcc⟩ : ∃ c, c = (nth p.lots Lot.zero i).count := ⟨_, rfl⟩
    rw [← hcc] at hc
    have ew : IntKind.i64.wrap (c + 1) = c + 1 := wrapK_id (by omega)
    have hb : 0 ≤ n * (c + 1) ∧ n * (c + 1) ≤ 20001 * 1001 := ⟨Int.mul_nonneg (by omega) (by omega), Int.mul_le_mul h2 (by omega) (by omega) (by omega)⟩
    have hb2 : n ≤ n * (c + 1) := by
      have := Int.mul_le_mul_of_nonneg_left (show 1 ≤ c + 1 by omega) (show 0 ≤ n by omega)
      rwa [Int.mul_one] at this
    have ew2 : IntKind.i64.wrap (n * (c + 1)) = n * (c + 1) := wrapK_id (by omega)
    obtain ⟨r, r1, r2, r3, r4, r5, r6⟩ := many_l (F := F) h d f (i + 1) (min (n * (c + 1)) 20001) (by omega) (by omega) (by omega) (by omega)
    refine ⟨r, ?_, r2, r3, fun hn => r4 (by omega), fun hn => ?_, fun hn hr => ?_⟩
    · rw [rMany_l3, e0, cond_true, inB_nat hlt, cond_true, Int.toNat_natCast, ← hcc, ew, ew2, mn_min, suc_w (by omega)]
      exact r1
    · rw [manyFrom_drop p.lots i n hlt, ← hcc, ← wrap_w (c + 1), ew, ← wrap_w (n * (c + 1)), ew2]
      by_cases hx : 20000 < n * (c + 1)
      · rw [if_pos hx]
        have := r4 (by omega)
        simp; omega
      · rw [if_neg hx]
        have e : min (n * (c + 1)) 20001 = n * (c + 1) := by omega
        rw [e] at r5
        exact r5 (by omega)
    · have hx : ¬ 20000 < n * (c + 1) := fun hx => by have := r4 (by omega); omega
      have e : min (n * (c + 1)) 20001 = n * (c + 1) := by omega
      refine r6 ?_ hr
      rw [e, box_size, rng_len, lows_nth, highs_nth p hlt, ← hcc]
      rw [Int.natCast_mul, ← hn, show (((c - 0 + 1).toNat : Nat) : Int) = c + 1 by omega]
theorem many_S {F : Nat} {p : Recipe} (h : checkE p = 0) (hF : 6 < F) : ∃ r, rMany_S F p = some r ∧ (20000 < r ↔ manyM p = true) ∧ (r ≤ 20000 → ∀ k, k ≤ p.lots.length → (boxTo (lowsM p) (highsM p) k).length ≤ 20000) := by
  have hl := check_len h
  obtain ⟨r, r1, r2, r3, r4, r5, r6⟩ := many_l (F := F) h p.lots.length F 0 1 (by omega) (by omega) (by omega) (by omega)
  refine ⟨r, ?_, by simpa [manyM] using r5 (by omega), fun hr k hk => ?_⟩
  · have r1' : rMany_l3 F p F 1 (0 : Int) = some r := r1
    rw [rMany_S, r1']; rfl
  · have e := r6 rfl hr
    have := box_mono' (lo := lowsM p) (hi := highsM p) (n := p.lots.length) (fun i hi => by rw [lows_nth, highs_nth p hi]; exact (count_le h hi).1) (p.lots.length - k) k (by omega)
    omega
theorem whole_ok {p : Recipe} (h : checkE p = 0) : BoxOk (lowsM p) (highsM p) := fun i hi => by
  have hi' : i < p.lots.length := by simpa [lowsM] using hi
  rw [lows_nth, highs_nth p hi']
  have := count_le h hi'
  omega
/-! The cheapest one -/
theorem bcost_l {F : Nat} {p : Recipe} {rows : List (List Int)} {k : Nat} {c : List Int} (hk : k < rows.length) (hc : nth rows [] k = c) (hl : c.length = p.lots.length) (hb : c.length ≤ 1000) : ∀ (d f i : Nat), i + d = c.length → d < f → rBest_l39 F p rows (k : Int) f (costTo p.lots c i) (i : Int) = some (costTo p.lots c c.length)
  | 0, f, i, hi, hf => by
    obtain ⟨f, rfl⟩ : ∃ g, f = g + 1 := ⟨f - 1, by omega⟩
    obtain rfl : i = c.length := by omega
    have e0 : decide ((c.length : Int) < (c.length : Int)) = false := by rw [decide_eq_false_iff_not]; omega
    rw [rBest_l39, inB_nat hk, cond_true, Int.toNat_natCast, hc, e0, cond_false]
  | d + 1, f, i, hi, hf => by
    obtain ⟨f, rfl⟩ : ∃ g, f = g + 1 := ⟨f - 1, by omega⟩
    have ih := bcost_l (F := F) hk hc hl hb d f (i + 1) (by omega) (by omega)
    have e0 : decide ((i : Int) < (c.length : Int)) = true := by rw [decide_eq_true_eq]; omega
    rw [rBest_l39, inB_nat hk, cond_true, Int.toNat_natCast, hc, e0, cond_true, inB_nat (by omega), cond_true, inB_nat (by omega), cond_true, suc_w (by omega), Int.toNat_natCast]
    rw [costTo] at ih
    simp only [wrap_w]
    exact ih
theorem nth_map {α β : Type} (f : α → β) (l : List α) (d : α) (e : β) {k : Nat} (h : k < l.length) : nth (l.map f) e k = f (nth l d k) := by
  rw [← nth_eq (l.map f) e k (by simpa using h), ← nth_eq l d k h]; simp
theorem best_l {F : Nat} {p : Recipe} (h : checkE p = 0) (hF : 20001 < F) (hsz : (allCharges p).length ≤ 20000) : ∀ (d f k : Nat) (st : Option (List Int × Int)), k + d = (allCharges p).length → d < f →
    rBest_l12 F p ((allCharges p).map Prod.fst) f (stL st) (stC st) st.isSome (k : Int) = some (stL (((allCharges p).drop k).foldl (bestStep p.lots) st), stC (((allCharges p).drop k).foldl (bestStep p.lots) st), (((allCharges p).drop k).foldl (bestStep p.lots) st).isSome)
  | 0, f, k, st, hk, hf => by
    obtain ⟨f, rfl⟩ : ∃ g, f = g + 1 := ⟨f - 1, by omega⟩
    have e0 : decide ((k : Int) < (((allCharges p).map Prod.fst).length : Int)) = false := by rw [decide_eq_false_iff_not, List.length_map]; omega
    rw [rBest_l12, e0, cond_false, List.drop_of_length_le (by omega)]
    rfl
  | d + 1, f, k, st, hk, hf => by
    obtain ⟨f, rfl⟩ : ∃ g, f = g + 1 := ⟨f - 1, by omega⟩
    have hl6 := check_len h
    have hlt : k < (allCharges p).length := by omega
    have hlt' : k < ((allCharges p).map Prod.fst).length := by simpa using hlt
    have e0 : decide ((k : Int) < (((allCharges p).map Prod.fst).length : Int)) = true := by rw [decide_eq_true_eq, List.length_map]; omega
    obtain ⟨x, hx⟩ : ∃ x, x = nth (allCharges p) ([], Mar.zero) k := ⟨_, rfl⟩
    have hmem : x ∈ allCharges p := by rw [hx, ← nth_eq _ _ k hlt]; exact List.getElem_mem hlt
    obtain ⟨s1, s2, s3⟩ := all_sound h x hmem
    have hch := isCharge_of s1 s2
    have hn : nth ((allCharges p).map Prod.fst) [] k = x.1 := by rw [nth_map Prod.fst (allCharges p) ([], Mar.zero) [] hlt, ← hx]
    have ih := best_l (F := F) h hF hsz d f (k + 1) (bestStep p.lots st x) (by omega) (by omega)
    have hco : rBest_l39 F p ((allCharges p).map Prod.fst) (k : Int) F (0 : Int) (0 : Int) = some (costM p.lots x.1) := bcost_l hlt' hn s1 (by omega) x.1.length F 0 (by omega) (by omega)
    have hfit : fitsR p (⟨(weighM p.lots x.1).mass, (⟨(((weighM p.lots x.1).con).a), (((weighM p.lots x.1).con).b), (((weighM p.lots x.1).con).c)⟩ : Bnds)⟩ : Pile) = fitsK p x.1 := (fits_law h hch).symm
    have hbr : (fitsK p x.1 == -1) = decide (brokenM x.2 < 0) := by
      have h1 := fits_pile h hch
      have h2 := meets_pile h hch
      have h3 := meets_iff s3
      by_cases hb : brokenM x.2 < 0
      · rw [decide_eq_true hb, h1.2 (h2.1 (h3.1 hb))]; rfl
      · rw [decide_eq_false hb]
        rw [beq_eq_false_iff_ne]
        exact fun h4 => hb (h3.2 (h2.2 (h1.1 h4)))
    rw [rBest_l12, e0, cond_true, hco]
    simp only [Option.bind_some]
    rw [inB_nat hlt', cond_true, cond_true, Int.toNat_natCast, hn, s1, decide_eq_true (Nat.le_refl _), cond_true, hfit, hbr, suc_w (by omega), drop_nth (allCharges p) ([], Mar.zero) hlt, ← hx, List.foldl_cons, ← ih]
    by_cases hb : brokenM x.2 < 0
    · rw [decide_eq_true hb, cond_true]
      cases st with
      | none => simp [bestStep, hb, stL, stC]
      | some s =>
        by_cases hlt2 : costM p.lots x.1 < s.2
        · simp [bestStep, hb, stL, stC, hlt2]
        · simp [bestStep, hb, stL, stC, hlt2]
    · rw [decide_eq_false hb, cond_false]
      cases st with
      | none => simp [bestStep, hb, stL, stC]
      | some s => simp [bestStep, hb, stL, stC]
theorem best_S {F : Nat} {p : Recipe} (h : checkE p = 0) (hF : 20001 < F) (hsz : ∀ k, k ≤ p.lots.length → (boxTo (lowsM p) (highsM p) k).length ≤ 20000) : rBest_S F p = some (stL (bestOf p.lots (allCharges p)), stC (bestOf p.lots (allCharges p)), (bestOf p.lots (allCharges p)).isSome) := by
  have hl6 := check_len h
  have hlen : (lowsM p).length = p.lots.length := by simp [lowsM]
  have a := box_S (F := F) (low := lowsM p) (high := highsM p) (by simp [lowsM, highsM]) (whole_ok h) (by omega) (by rw [hlen]; exact hsz) hF
  rw [hlen, ← all_box] at a
  have hall : (allCharges p).length ≤ 20000 := by
    have := hsz p.lots.length (Nat.le_refl _)
    rwa [← all_box, List.length_map] at this
  have b := best_l (F := F) h hF hall (allCharges p).length F 0 none (by omega) (by omega)
  have b' : rBest_l12 F p ((allCharges p).map Prod.fst) F ([] : List Int) (0 : Int) false (0 : Int) = some (stL (bestOf p.lots (allCharges p)), stC (bestOf p.lots (allCharges p)), (bestOf p.lots (allCharges p)).isSome) := b
  rw [rBest_S, whole_S (by omega) (by omega)]
  simp only [Option.bind_some]
  rw [a]
  simp only [Option.bind_some]
  rw [b']
  rfl
theorem same_l {F : Nat} {l : List Int} (hb : l.length ≤ 1000000) : ∀ (d f k : Nat), k + d = l.length → d < f → lsame_l3 F l l f (k : Int) = some (.inr ())
  | 0, f, k, hk, hf => by
    obtain ⟨f, rfl⟩ : ∃ g, f = g + 1 := ⟨f - 1, by omega⟩
    have e0 : decide ((k : Int) < (l.length : Int)) = false := by rw [decide_eq_false_iff_not]; omega
    rw [lsame_l3, e0, cond_false]
  | d + 1, f, k, hk, hf => by
    obtain ⟨f, rfl⟩ : ∃ g, f = g + 1 := ⟨f - 1, by omega⟩
    have e0 : decide ((k : Int) < (l.length : Int)) = true := by rw [decide_eq_true_eq]; omega
    rw [lsame_l3, e0, cond_true, inB_nat (by omega), cond_true, cond_true, bne_self_eq_false, cond_false, suc_w (by omega)]
    exact same_l (F := F) hb d f (k + 1) (by omega) (by omega)
theorem same_S {F : Nat} {l : List Int} (hb : l.length ≤ 1000000) (hF : l.length < F) : lsame_S F l l = some true := by
  have a : lsame_l3 F l l F (0 : Int) = some (.inr ()) := same_l hb l.length F 0 (by omega) hF
  rw [lsame_S, bne_self_eq_false, cond_false, a]; rfl
theorem own_S {F : Nat} {p : Recipe} (h : p.lots.length ≤ 1000000) : lown_S F p = some p := by
  simp [lown_S, lenOk, h]
theorem bestM_none {p : Recipe} (h : bestE p ≠ 0) : bestM p = none := by
  unfold bestE at h
  unfold bestM
  split
  · rename_i h1
    rw [if_pos h1] at h
    split
    · rfl
    · rename_i h2
      rw [if_neg h2] at h
      split at h
      · exact absurd rfl h
      · rename_i h3; simpa using h3
  · rfl
theorem chargeBest_S {F : Nat} {p : Recipe} (hF : 20001 < F) : lbest_S F p = some true := by
  unfold lbest_S
  by_cases l1 : p.lots.length ≤ 10
  · have e0 : decide ((p.lots.length : Int) > 10) = false := by rw [decide_eq_false_iff_not]; omega
    rw [e0, cond_false, own_S (by omega)]
    by_cases hq : checkE p = 0
    · have eq : (checkE p == 0) = true := by rw [hq]; rfl
      obtain ⟨r, r1, r2, r3⟩ := many_S (F := F) hq (by omega)
      rw [eq, cond_true, cond_true, lslow_S, r1]
      simp only [Option.bind_some]
      by_cases hs : r > 300 ∧ r ≤ 20000
      · have e1 : decide (r > 300) = true := by rw [decide_eq_true_eq]; omega
        have e2 : decide (r ≤ 20000) = true := by rw [decide_eq_true_eq]; omega
        rw [e1, e2]; rfl
      · have e3 : (bif decide (r > 300) then some (decide (r ≤ 20000)) else some false) = some false := by
          by_cases h3 : r > 300
          · rw [decide_eq_true h3, cond_true, decide_eq_false (by omega)]
          · rw [decide_eq_false h3, cond_false]
        rw [e3]
        simp only [Option.bind_some, cond_false]
        by_cases hm : 20000 < r
        · have hmm := r2.1 hm
          have b1 : bestE p = 8 := by simp [bestE, hq, hmm]
          have b2 : bestM p = none := by simp [bestM, hq, hmm]
          rw [decide_eq_true (show r > 20000 from hm), b1, b2]
          rfl
        · have hmm : manyM p = false := by
            cases hx : manyM p with
            | true => exact absurd (r2.2 hx) hm
            | false => rfl
          have b2 : bestM p = bestOf p.lots (allCharges p) := by simp [bestM, hq, hmm]
          have b1 : bestE p = if (bestOf p.lots (allCharges p)).isSome then 0 else 20 := by simp [bestE, hq, hmm]
          rw [decide_eq_false (show ¬ r > 20000 from hm), hq]
          simp only [Option.bind_some, cond_false]
          rw [best_S hq hF (r3 (by omega)), b1, b2]
          cases hbo : bestOf p.lots (allCharges p) with
          | none => rfl
          | some s =>
            have hlen : s.1.length = p.lots.length := isCharge_len (best_is hq hbo).1
            have es : lsame_S F (stL (some s)) (stL (some s)) = some true := same_S (by show s.1.length ≤ _; omega) (by show s.1.length < F; omega)
            simp only [Option.bind_some, Option.isSome_some, if_true, Bool.not_true, cond_false, beq_self_eq_true, cond_true]
            rw [es]
            simp
    · have eq : (checkE p == 0) = false := by rw [beq_eq_false_iff_ne]; exact hq
      have b1 : bestE p = checkE p := by simp [bestE, hq]
      have en : (checkE p != 0) = true := by rw [bne_iff_ne]; exact hq
      rw [eq]
      simp only [Option.bind_some, cond_false]
      rw [bestM_none (by rw [b1]; exact hq), b1, en]
      simp only [cond_true, beq_self_eq_true]
      rfl
  · have e0 : decide ((p.lots.length : Int) > 10) = true := by rw [decide_eq_true_eq]; omega
    rw [e0]; rfl
end Go.Proofs.Ytojnpaenpaobcaa
