/- ChargeSure's meaning is true. No condition. -/
import Derived.Test.YtojnpaenpaobcaaS3
namespace Go.Proofs.Ytojnpaenpaobcaa
open Go.RowKit
theorem wrap_w (n : Int) : IntKind.i64.wrap n = wrap64 n := by unfold wrap64; exact IntKind.wrap_i64 n
theorem own_S {F : Nat} {p : Recipe} (h : p.lots.length ≤ 1000000) : lown_S F p = some p := by
  simp [lown_S, lenOk, h]
theorem ints_S {F : Nat} {l : List Int} (h : l.length ≤ 1000000) : lints_S F l = some l := by
  simp [lints_S, lenOk, h]
theorem listed_S {F : Nat} {p : Recipe} {g : Guess} : llisted_S F p g = some (decide (p.lots.length ≤ 10) && decide (g.counts.length ≤ 12) && decide (g.places.length ≤ 40)) := by
  unfold llisted_S
  by_cases h1 : p.lots.length ≤ 10
  · by_cases h2 : g.counts.length ≤ 12
    · have e1 : decide ((p.lots.length : Int) ≤ 10) = true := by simp; omega
      have e2 : decide ((g.counts.length : Int) ≤ 12) = true := by simp; omega
      rw [e1, e2]
      simp [h1, h2]; omega
    · have e1 : decide ((p.lots.length : Int) ≤ 10) = true := by simp; omega
      have e2 : decide ((g.counts.length : Int) ≤ 12) = false := by simp; omega
      rw [e1, e2]
      simp [h2]
  · have e1 : decide ((p.lots.length : Int) ≤ 10) = false := by simp; omega
    rw [e1]
    simp [h1]
theorem cost_l {F : Nat} {p : Recipe} {c : List Int} (hl : c.length = p.lots.length) (hb : c.length ≤ 1000) : ∀ (d f k : Nat), k + d = c.length → d < f → lcost_l3 F p c f (costTo p.lots c k) (k : Int) = some (costTo p.lots c c.length)
  | 0, f, k, hk, hf => by
    obtain ⟨f, rfl⟩ : ∃ g, f = g + 1 := ⟨f - 1, by omega⟩
    obtain rfl : k = c.length := by omega
    rw [lcost_l3]
    simp [hl]
  | d + 1, f, k, hk, hf => by
    obtain ⟨f, rfl⟩ : ∃ g, f = g + 1 := ⟨f - 1, by omega⟩
    have ih := cost_l (F := F) hl hb d f (k + 1) (by omega) (by omega)
    rw [lcost_l3]
    have e1 : decide ((k : Int) < (p.lots.length : Int)) = true := by simp; omega
    have e2 : decide ((k : Int) < (c.length : Int)) = true := by simp; omega
    have e3 : inB (k : Int) c.length = true := by simp [inB]; omega
    have e4 : inB (k : Int) p.lots.length = true := by simp [inB]; omega
    have e5 : IntKind.i64.wrap ((k : Int) + 1) = ((k + 1 : Nat) : Int) := by rw [wrapK_id (by omega)]; omega
    rw [e1, e2]
    simp only [cond_true, Option.bind_some, e3, e4, e5, Int.toNat_natCast]
    rw [costTo] at ih
    simp only [wrap_w]
    exact ih
theorem cost_S {F : Nat} {p : Recipe} {c : List Int} (hl : c.length = p.lots.length) (hb : c.length ≤ 1000) (hF : 1000 < F) : lcost_S F p c = some (costM p.lots c) := by
  have := cost_l (F := F) hl hb c.length F 0 (by omega) (by omega)
  unfold lcost_S
  have e : lcost_l3 F p c F 0 0 = some (costTo p.lots c c.length) := this
  rw [e]; rfl

theorem pc_bd (x : Int) : 0 ≤ mn (mx x 0) 1000 ∧ mn (mx x 0) 1000 ≤ 1000 := by
  unfold mn mx; split <;> split <;> omega
theorem pieces_l {F : Nat} {l : List Int} (hb : l.length ≤ 1000) : ∀ (d f k : Nat) (n : Int), k + d = l.length → d < f → 0 ≤ n ∧ n ≤ 1000 * k → ∃ r, lpieces_l3 F l f n (k : Int) = some r ∧ 0 ≤ r ∧ r ≤ 1000 * l.length
  | 0, f, k, n, hk, hf, hn => by
    obtain ⟨f, rfl⟩ : ∃ g, f = g + 1 := ⟨f - 1, by omega⟩
    obtain rfl : k = l.length := by omega
    rw [lpieces_l3]
    exact ⟨n, by simp, hn.1, hn.2⟩
  | d + 1, f, k, n, hk, hf, hn => by
    obtain ⟨f, rfl⟩ : ∃ g, f = g + 1 := ⟨f - 1, by omega⟩
    have b := pc_bd (nth l 0 k)
    obtain ⟨r, h1, h2⟩ := pieces_l (F := F) hb d f (k + 1) (n + mn (mx (nth l 0 k) 0) 1000) (by omega) (by omega) (by omega)
    refine ⟨r, ?_, h2⟩
    rw [lpieces_l3]
    have e2 : decide ((k : Int) < (l.length : Int)) = true := by simp; omega
    have e3 : inB (k : Int) l.length = true := by simp [inB]; omega
    have e5 : IntKind.i64.wrap ((k : Int) + 1) = ((k + 1 : Nat) : Int) := by rw [wrapK_id (by omega)]; omega
    have e6 : IntKind.i64.wrap (n + mn (mx (nth l 0 k) 0) 1000) = n + mn (mx (nth l 0 k) 0) 1000 := wrapK_id (by omega)
    simp only [e2, e3, e5, cond_true, Int.toNat_natCast, e6]
    exact h1
theorem pieces_S {F : Nat} {l : List Int} (hb : l.length ≤ 6) (hF : 1000 < F) : ∃ r, lpieces_S F l = some r ∧ 0 ≤ r ∧ r ≤ 6000 := by
  obtain ⟨r, h1, h2, h3⟩ := pieces_l (F := F) (l := l) (by omega) l.length F 0 0 (by omega) (by omega) (by omega)
  refine ⟨r, ?_, h2, by omega⟩
  have e : lpieces_l3 F l F 0 0 = some r := h1
  unfold lpieces_S
  rw [e]; rfl
/-- Where in its range a piece's contents lie. -/
def Plc3.ok (x : Plc3) : Prop := (0 ≤ x.a ∧ x.a ≤ 255) ∧ (0 ≤ x.b ∧ x.b ≤ 255) ∧ (0 ≤ x.c ∧ x.c ≤ 255)
theorem place_S {l : List Plc3} {f : Plc3 → Int} (hf : ∀ x ∈ l, 0 ≤ f x ∧ f x ≤ 255) {j : Int} (hj : 0 ≤ j) :
    ∃ q : Int, (0 ≤ q ∧ q ≤ 255) ∧ (bif decide ((l.length : Int) > 0) then (bif (l.length : Int) != 0 then (bif inB (j.tmod (l.length : Int)) l.length then (some (IntKind.i64.wrap (f (nth l Plc3.zero (j.tmod (l.length : Int)).toNat)))) else none) else none) else (some (0 : Int))) = some q := by
  by_cases h : 0 < l.length
  · have h0 : (0 : Int) < (l.length : Int) := by omega
    have e1 : decide ((l.length : Int) > 0) = true := by rw [decide_eq_true_eq]; omega
    have e2 : ((l.length : Int) != 0) = true := by rw [bne_iff_ne]; omega
    have b1 := Int.tmod_nonneg (l.length : Int) hj
    have b2 := Int.tmod_lt_of_pos j h0
    have e3 : inB (j.tmod (l.length : Int)) l.length = true := by simp [inB]; omega
    have hm : nth l Plc3.zero (j.tmod (l.length : Int)).toNat ∈ l := by
      have hlt : (j.tmod (l.length : Int)).toNat < l.length := by omega
      rw [← nth_eq l Plc3.zero _ hlt]; exact List.getElem_mem _
    have c1 := hf _ hm
    refine ⟨f (nth l Plc3.zero (j.tmod (l.length : Int)).toNat), c1, ?_⟩
    rw [e1, e2, e3, wrapK_id (by omega)]
    rfl
  · have e1 : decide ((l.length : Int) > 0) = false := by rw [decide_eq_false_iff_not]; omega
    exact ⟨0, by omega, by rw [e1]; rfl⟩
/-- One piece's content is in its range. -/
theorem share_S {x lo hi q : Int} (hx : 0 ≤ x ∧ x ≤ 1000000000000) (hl : 0 ≤ lo ∧ lo ≤ hi ∧ hi ≤ 100000000) (hq : 0 ≤ q ∧ q ≤ 255) :
    ∃ y, IntKind.i64.wrap (x + IntKind.i64.wrap (lo + IntKind.i64.wrap ((IntKind.i64.wrap (IntKind.i64.wrap (hi - lo) * q)).tdiv 255))) = x + y ∧ lo ≤ y ∧ y ≤ hi := by
  have e1 : IntKind.i64.wrap (hi - lo) = hi - lo := wrapK_id (by omega)
  have b := mul_bd (show 0 ≤ hi - lo by omega) (show hi - lo ≤ 100000000 by omega) hq.1 hq.2
  have b2 : (hi - lo) * q ≤ (hi - lo) * 255 := Int.mul_le_mul_of_nonneg_left hq.2 (by omega)
  have e2 : IntKind.i64.wrap ((hi - lo) * q) = (hi - lo) * q := wrapK_id (by omega)
  have e3 : ((hi - lo) * q).tdiv 255 = ((hi - lo) * q) / 255 := Int.tdiv_eq_ediv_of_nonneg b.1
  have d1 : 0 ≤ ((hi - lo) * q) / 255 := by omega
  have d2 : ((hi - lo) * q) / 255 ≤ hi - lo := by omega
  refine ⟨lo + ((hi - lo) * q) / 255, ?_, by omega, by omega⟩
  rw [e1, e2, e3, wrapK_id (n := ((hi - lo) * q) / 255) (by omega), wrapK_id (n := lo + ((hi - lo) * q) / 255) (by omega), wrapK_id (by omega)]
/-- What is known behind k lots and n pieces of the next one. -/
structure Inv (p : Recipe) (c : List Int) (k n : Nat) (m j : Int) (x : Con3) : Prop where
  m : m = (weighTo p.lots c k).mass + n * (nth p.lots .zero k).mass
  j : 0 ≤ j ∧ j ≤ 1000 * k + n
  a : (weighTo p.lots c k).con.a.lo + n * (nth p.lots .zero k).con.a.lo ≤ x.a ∧ x.a ≤ (weighTo p.lots c k).con.a.hi + n * (nth p.lots .zero k).con.a.hi
  b : (weighTo p.lots c k).con.b.lo + n * (nth p.lots .zero k).con.b.lo ≤ x.b ∧ x.b ≤ (weighTo p.lots c k).con.b.hi + n * (nth p.lots .zero k).con.b.hi
  c : (weighTo p.lots c k).con.c.lo + n * (nth p.lots .zero k).con.c.lo ≤ x.c ∧ x.c ≤ (weighTo p.lots c k).con.c.hi + n * (nth p.lots .zero k).con.c.hi
theorem succ_mul' (n : Nat) (a : Int) : ((n + 1 : Nat) : Int) * a = (n : Int) * a + a := by rw [Int.natCast_add]; simp [Int.add_mul]
theorem nmul_bd {n : Nat} {a : Int} (hn : n ≤ 1000) (ha : 0 ≤ a) {b : Int} (hb : a ≤ b) : 0 ≤ (n : Int) * a ∧ (n : Int) * a ≤ 1000 * b := mul_bd (by omega) (by omega) ha hb
theorem inner_l {F : Nat} {p : Recipe} {c : List Int} {g : Guess} (h : checkE p = 0) (hc : isChargeB p.lots c = true) (hg : ∀ x ∈ g.places, x.ok) {k : Nat} (hk : k < c.length) {cnt : Nat} (hcnt : nth c 0 k = (cnt : Int)) (hcn : cnt ≤ 1000) :
    ∀ (d f n : Nat) (m j : Int) (x : Con3), n + d = cnt → d < f → Inv p c k n m j x → ∃ m' j' x', ltruly_l36 F p c g (k : Int) f m j (n : Int) x = some (m', j', x') ∧ Inv p c k cnt m' j' x'
  | 0, f, n, m, j, x, hn, hf, hI => by
    obtain ⟨f, rfl⟩ : ∃ g, f = g + 1 := ⟨f - 1, by omega⟩
    obtain rfl : n = cnt := by omega
    refine ⟨m, j, x, ?_, hI⟩
    rw [ltruly_l36]
    have e1 : inB (k : Int) c.length = true := by simp [inB]; omega
    have e2 : decide ((n : Int) < nth c 0 (k : Int).toNat) = false := by simp [hcnt]
    rw [e1, e2]; rfl
  | d + 1, f, n, m, j, x, hn, hf, hI => by
    obtain ⟨f, rfl⟩ : ∃ g, f = g + 1 := ⟨f - 1, by omega⟩
    have hl := isCharge_len hc
    have hlot := lot_bd h (show k < p.lots.length by omega)
    have hl6 := check_len h
    have hw := weighTo_bd h k (by omega) (okTo_mono p.lots c (by omega) (isCharge_ok hc))
    obtain ⟨bm, bal, bah, bbl, bbh, bcl, bch⟩ := hw
    have hlm := hlot.m; have hla := hlot.a; have hlb := hlot.b; have hlk := hlot.k
    have hk6 : ((k : Nat) : Int) ≤ 6 := by omega
    obtain ⟨Im, Ij, Ia, Ib, Ic⟩ := hI
    have n1 := nmul_bd (show n ≤ 1000 by omega) (show 0 ≤ (nth p.lots .zero k).mass by omega) hlm.2
    have n2 := nmul_bd (show n ≤ 1000 by omega) (show 0 ≤ (nth p.lots .zero k).con.a.hi by omega) hla.2.2
    have n3 := nmul_bd (show n ≤ 1000 by omega) (show 0 ≤ (nth p.lots .zero k).con.b.hi by omega) hlb.2.2
    have n4 := nmul_bd (show n ≤ 1000 by omega) (show 0 ≤ (nth p.lots .zero k).con.c.hi by omega) hlk.2.2
    have n5 := nmul_bd (show n ≤ 1000 by omega) hla.1 (show (nth p.lots .zero k).con.a.lo ≤ 100000000 by omega)
    have n6 := nmul_bd (show n ≤ 1000 by omega) hlb.1 (show (nth p.lots .zero k).con.b.lo ≤ 100000000 by omega)
    have n7 := nmul_bd (show n ≤ 1000 by omega) hlk.1 (show (nth p.lots .zero k).con.c.lo ≤ 100000000 by omega)
    rw [ltruly_l36]
    have e1 : inB (k : Int) c.length = true := by simp [inB]; omega
    have e2 : decide ((n : Int) < nth c 0 (k : Int).toNat) = true := by simp [hcnt]; omega
    have e3 : inB (k : Int) p.lots.length = true := by simp [inB]; omega
    simp only [e1, e2, e3, cond_true]
    obtain ⟨q1, a1, E1⟩ := place_S (l := g.places) (f := Plc3.a) (fun x hx => (hg x hx).1) Ij.1
    obtain ⟨q2, b1, E2⟩ := place_S (l := g.places) (f := Plc3.b) (fun x hx => (hg x hx).2.1) Ij.1
    obtain ⟨q3, c1, E3⟩ := place_S (l := g.places) (f := Plc3.c) (fun x hx => (hg x hx).2.2) Ij.1
    rw [E1]
    simp only [Option.bind_some]
    rw [E2]
    simp only [Option.bind_some]
    rw [E3]
    simp only [Option.bind_some, Int.toNat_natCast]
    obtain ⟨y1, F1, g1, g2⟩ := share_S (x := x.a) (by omega) hla a1
    obtain ⟨y2, F2, g3, g4⟩ := share_S (x := x.b) (by omega) hlb b1
    obtain ⟨y3, F3, g5, g6⟩ := share_S (x := x.c) (by omega) hlk c1
    rw [F1, F2, F3, show IntKind.i64.wrap (m + (nth p.lots Lot.zero k).mass) = m + (nth p.lots Lot.zero k).mass from wrapK_id (by omega),
      show IntKind.i64.wrap (j + 1) = j + 1 from wrapK_id (by omega), show IntKind.i64.wrap ((n : Int) + 1) = ((n + 1 : Nat) : Int) by rw [wrapK_id (by omega)]; omega]
    refine inner_l h hc hg hk hcnt hcn d f (n + 1) _ _ _ (by omega) (by omega) ⟨?_, ?_, ?_, ?_, ?_⟩
    · rw [succ_mul', Im]; omega
    · omega
    · rw [succ_mul', succ_mul']; simp only; omega
    · rw [succ_mul', succ_mul']; simp only; omega
    · rw [succ_mul', succ_mul']; simp only; omega
theorem outer_l {F : Nat} {p : Recipe} {c : List Int} {g : Guess} (h : checkE p = 0) (hc : isChargeB p.lots c = true) (hg : ∀ x ∈ g.places, x.ok) (hF : 1001 < F) :
    ∀ (d f k : Nat) (m j : Int) (x : Con3), k + d = p.lots.length → d < f → Inv p c k 0 m j x → ∃ m' x' j', ltruly_l19 F p c g f m j (k : Int) x = some (m', x') ∧ Inv p c p.lots.length 0 m' j' x'
  | 0, f, k, m, j, x, hn, hf, hI => by
    obtain ⟨f, rfl⟩ : ∃ g, f = g + 1 := ⟨f - 1, by omega⟩
    obtain rfl : k = p.lots.length := by omega
    refine ⟨m, x, j, ?_, hI⟩
    rw [ltruly_l19]
    have e1 : decide ((p.lots.length : Int) < (p.lots.length : Int)) = false := by simp
    rw [e1]; rfl
  | d + 1, f, k, m, j, x, hn, hf, hI => by
    obtain ⟨f, rfl⟩ : ∃ g, f = g + 1 := ⟨f - 1, by omega⟩
    have hl := isCharge_len hc
    have hl6 := check_len h
    obtain ⟨h1, h2, h3⟩ := okTo_at (isCharge_ok hc) (show k < c.length by omega)
    have hcl := count_le h h1
    obtain ⟨cnt, hcnt⟩ : ∃ n : Nat, nth c 0 k = (n : Int) := ⟨(nth c 0 k).toNat, by omega⟩
    obtain ⟨m', j', x', E, hI'⟩ := inner_l (F := F) h hc hg (show k < c.length by omega) hcnt (by omega) cnt F 0 m j x (by omega) (by omega) hI
    have hx := weigh_ex h (show k < 6 by omega) (okTo_mono p.lots c (show k + 1 ≤ c.length by omega) (isCharge_ok hc))
    obtain ⟨xm, xal, xah, xbl, xbh, xcl, xch⟩ := hx
    obtain ⟨Im, Ij, Ia, Ib, Ic⟩ := hI'
    rw [hcnt] at xm xal xah xbl xbh xcl xch
    have hI2 : Inv p c (k + 1) 0 m' j' x' := by
      have z : ∀ a : Int, ((0 : Nat) : Int) * a = 0 := fun a => by simp
      refine ⟨?_, ?_, ?_, ?_, ?_⟩
      · rw [z, xm, Im]; omega
      · omega
      · rw [z, z, xal, xah]; omega
      · rw [z, z, xbl, xbh]; omega
      · rw [z, z, xcl, xch]; omega
    obtain ⟨m2, x2, j2, E2, hI3⟩ := outer_l h hc hg hF d f (k + 1) m' j' x' (by omega) (by omega) hI2
    refine ⟨m2, x2, j2, ?_, hI3⟩
    rw [ltruly_l19]
    have e1 : decide ((k : Int) < (p.lots.length : Int)) = true := by simp; omega
    have e2 : decide ((k : Int) < (c.length : Int)) = true := by simp; omega
    have e5 : IntKind.i64.wrap ((k : Int) + 1) = ((k + 1 : Nat) : Int) := by rw [wrapK_id (by omega)]; omega
    rw [e1, e2]
    simp only [cond_true, Option.bind_some]
    have E' : ltruly_l36 F p c g (k : Int) F m j 0 x = some (m', j', x') := E
    rw [E']
    simp only [Option.bind_some, e5]
    exact E2
theorem truly_S {F : Nat} {p : Recipe} {c : List Int} {g : Guess} (h : checkE p = 0) (hc : isChargeB p.lots c = true) (hg : ∀ x ∈ g.places, x.ok) (hF : 1001 < F) (ht : TruePile p (weighM p.lots c)) : ltruly_S F p c g = some true := by
  have hl := isCharge_len hc
  have hl6 := check_len h
  have hI0 : Inv p c 0 0 0 0 ⟨0, 0, 0⟩ := by
    refine ⟨?_, ?_, ?_, ?_, ?_⟩ <;> simp [weighTo, Pile.zero, Bnds.zero, Rng.zero]
  obtain ⟨m, x, j, E, hI⟩ := outer_l (F := F) h hc hg hF p.lots.length F 0 0 0 ⟨0, 0, 0⟩ (by omega) (by omega) hI0
  have E' : ltruly_l19 F p c g F 0 0 0 ⟨0, 0, 0⟩ = some (m, x) := E
  have bp := weigh_bd h hc
  obtain ⟨bm, bal, bah, bbl, bbh, bcl, bch⟩ := bp
  obtain ⟨t0, t1, t2, t3, t4, t5, t6, t7⟩ := ht
  obtain ⟨Im, _, Ia, Ib, Ic⟩ := hI
  have z : ∀ a : Int, ((0 : Nat) : Int) * a = 0 := fun a => by simp
  rw [z] at Im
  rw [z, z] at Ia Ib Ic
  have ew : weighTo p.lots c p.lots.length = weighM p.lots c := by rw [weighM, hl]
  rw [ew] at Im Ia Ib Ic
  generalize weighM p.lots c = P at *
  obtain rfl : m = P.mass := by omega
  obtain ⟨hm, htg⟩ := check_rest h
  obtain ⟨⟨a1, a2, a3⟩, ⟨b1, b2, b3⟩, ⟨c1, c2, c3⟩⟩ := bounds_are htg
  have W : ∀ t : Int, 0 ≤ t → t ≤ 100000000 → IntKind.i64.wrap (t * P.mass) = t * P.mass := fun t h1 h2 => by
    have := mul_bd h1 h2 bm.1 bm.2; exact wrapK_id (by omega)
  have V : ∀ y : Int, 0 ≤ y → y ≤ 600000000000 → IntKind.i64.wrap (y * 1000000) = y * 1000000 := fun y h1 h2 => wrapK_id (by omega)
  unfold ltruly_S
  rw [E']
  simp only [Option.bind_some]
  rw [W p.target.a.lo (by omega) (by omega), W p.target.a.hi (by omega) (by omega), W p.target.b.lo (by omega) (by omega), W p.target.b.hi (by omega) (by omega), W p.target.c.lo (by omega) (by omega), W p.target.c.hi (by omega) (by omega), V x.a (by omega) (by omega), V x.b (by omega) (by omega), V x.c (by omega) (by omega)]
  have d0 : decide (P.mass < p.mass.lo) = false := by simp; omega
  have d1 : decide (P.mass > p.mass.hi) = false := by simp; omega
  have d2 : decide (x.a * 1000000 < p.target.a.lo * P.mass) = false := by simp; omega
  have d3 : decide (x.a * 1000000 > p.target.a.hi * P.mass) = false := by simp; omega
  have d4 : decide (x.b * 1000000 < p.target.b.lo * P.mass) = false := by simp; omega
  have d5 : decide (x.b * 1000000 > p.target.b.hi * P.mass) = false := by simp; omega
  have d6 : decide (x.c * 1000000 < p.target.c.lo * P.mass) = false := by simp; omega
  have d7 : decide (x.c * 1000000 > p.target.c.hi * P.mass) = false := by simp; omega
  rw [d0, d1, d2, d3, d4, d5, d6, d7]
  rfl

theorem weighE_zero {p : Recipe} {c : List Int} (h : weighE p c = 0) : checkE p = 0 ∧ isChargeB p.lots c = true := by
  by_cases h1 : checkE p = 0
  · cases h2 : isChargeB p.lots c with
    | true => exact ⟨h1, rfl⟩
    | false => simp [weighE, h1, h2] at h
  · rw [show weighE p c = checkE p from by unfold weighE; rw [if_pos (by simpa using h1)]] at h
    exact absurd h h1
theorem weighE_ok {p : Recipe} {c : List Int} (h : checkE p = 0) (hc : isChargeB p.lots c = true) : weighE p c = 0 := by
  simp [weighE, h, hc]
theorem bestE_zero {p : Recipe} (h : bestE p = 0) : checkE p = 0 ∧ ∃ s, bestM p = some s ∧ bestOf p.lots (allCharges p) = some s := by
  unfold bestE at h
  split at h
  · rename_i h1
    split at h
    · cases h
    · rename_i h2
      split at h
      · rename_i h3
        obtain ⟨s, hs⟩ := Option.isSome_iff_exists.1 h3
        exact ⟨h1, s, by simp [bestM, h1, h2, hs], hs⟩
      · cases h
  · rename_i h1; exact absurd h h1
theorem bestM_none {p : Recipe} (h : bestE p ≠ 0) : bestM p = none := by
  unfold bestE at h
  unfold bestM
  split
  · rename_i h1
    rw [if_pos h1] at h
    split
    · rfl
    · rename_i h2
      rw [if_neg h2] at h
      split at h
      · exact absurd rfl h
      · rename_i h3; simpa using h3
  · rfl
theorem sure_S {F : Nat} {p : Recipe} {g : Guess} (hF : 1001 < F) (hg : ∀ x ∈ g.places, x.ok) : lsure_S F p g = some true := by
  unfold lsure_S
  rw [listed_S]
  by_cases hl : p.lots.length ≤ 10 ∧ g.counts.length ≤ 12 ∧ g.places.length ≤ 40
  · obtain ⟨l1, l2, l3⟩ := hl
    have e0 : (decide (p.lots.length ≤ 10) && decide (g.counts.length ≤ 12) && decide (g.places.length ≤ 40)) = true := by simp [l1, l2, l3]
    rw [e0]
    simp only [Option.bind_some, Bool.not_true, cond_false]
    rw [own_S (by omega), ints_S (by omega)]
    simp only [Option.bind_some]
    have key : ∀ c : List Int, weighE p c = 0 → fitsK p c = -1 → checkE p = 0 ∧ isChargeB p.lots c = true ∧ TruePile p (weighM p.lots c) ∧ Meets p c := fun c h1 h2 => by
      obtain ⟨a, b⟩ := weighE_zero h1
      have := (fits_pile a b).1 h2
      exact ⟨a, b, this, (meets_pile a b).2 this⟩
    have first : (bif (weighE p g.counts) == (0 : Int) then (bif (fitsK p g.counts) == ((-1) : Int) then ((ltruly_S F p g.counts g).bind (fun r => some (!r))) else (some false)) else (some false)) = some false := by
      by_cases h1 : weighE p g.counts = 0
      · by_cases h2 : fitsK p g.counts = -1
        · obtain ⟨a, b, c, _⟩ := key _ h1 h2
          rw [h1, h2, truly_S a b hg hF c]; rfl
        · rw [h1, show (fitsK p g.counts == -1) = false by simpa using h2]; rfl
      · rw [show (weighE p g.counts == 0) = false by simpa using h1]; rfl
    rw [first]
    simp only [Option.bind_some, cond_false]
    by_cases hb : bestE p = 0
    · obtain ⟨hq, s, hs1, hs2⟩ := bestE_zero hb
      obtain ⟨b1, b2, b3⟩ := best_is hq hs2
      have hlen := isCharge_len b1
      have hl6 := check_len hq
      rw [hb, hs1, show stL (some s) = s.1 from rfl, show stC (some s) = s.2 from rfl]
      obtain ⟨r, p1, p2, p3⟩ := pieces_S (F := F) (l := s.1) (by omega) (by omega)
      have tp := (meets_pile hq b1).1 b2
      rw [p1, cost_S hlen (by omega) (by omega), truly_S hq b1 hg hF tp, ints_S (by omega)]
      simp only [Option.bind_some]
      rw [weighE_ok hq b1, (fits_pile hq b1).2 tp]
      have e1 : ((s.1.length : Int) != (p.lots.length : Int)) = false := by rw [hlen]; simp
      have e2 : decide (r > 6000) = false := by simp; omega
      have e3 : (s.2 != costM p.lots s.1) = false := by rw [b3]; simp
      simp only [Option.bind_some, e1, e2, e3, bne_self_eq_false, cond_false, Bool.not_true]
      by_cases h1 : weighE p g.counts = 0
      · by_cases h2 : fitsK p g.counts = -1
        · obtain ⟨a, b, c, d⟩ := key _ h1 h2
          have := best_min hq hs2 b d
          rw [h1, h2, cost_S (isCharge_len b) (by omega) (by omega)]
          have e4 : decide (costM p.lots g.counts ≥ s.2) = true := by simp; omega
          simp [e4]
        · rw [h1, show (fitsK p g.counts != -1) = true by simpa using h2]; rfl
      · rw [show (weighE p g.counts != 0) = true by simpa using h1]; rfl
    · rw [bestM_none hb]
      have e1 : (bestE p != 0) = true := by simpa using hb
      rw [show stL none = [] from rfl, show stC none = 0 from rfl]
      simp only [e1, cond_true, List.length_nil]
      by_cases h20 : bestE p = 20
      · have hn : ¬ (weighE p g.counts = 0 ∧ fitsK p g.counts = -1) := fun ⟨h1, h2⟩ => by
          obtain ⟨a, b, c, d⟩ := key _ h1 h2
          have := best_of_meets a b d
          unfold bestE at h20
          rw [if_pos a] at h20
          split at h20
          · cases h20
          · simp at h20
        rw [h20]
        by_cases h1 : weighE p g.counts = 0
        · have h2 : ¬ fitsK p g.counts = -1 := fun h2 => hn ⟨h1, h2⟩
          rw [h1, show (fitsK p g.counts != -1) = true by simpa using h2]; rfl
        · rw [show (weighE p g.counts != 0) = true by simpa using h1]; rfl
      · rw [show (bestE p != 20) = true by simpa using h20]; rfl
  · have e0 : (decide (p.lots.length ≤ 10) && decide (g.counts.length ≤ 12) && decide (g.places.length ≤ 40)) = false := by
      rw [Bool.eq_false_iff]; intro h; apply hl; simpa [and_assoc] using h
    rw [e0]; rfl
end Go.Proofs.Ytojnpaenpaobcaa
