/- Plain laws of a cut in a true course. No condition. -/
import Derived.Test.YthmicafabimfkaaGreatDoorWKND
import Derived.Test.YthmicafabimfkaaGreatDoorWU5

namespace Go.Proofs.YthmicafabimfkaaGreatDoor
namespace S8
open Go.RowKit
set_option maxRecDepth 100000
abbrev RgT := Int × Int
abbrev WrT := RgT × (RgT × Int)
abbrev WbT := Int × (Int × (Int × RgT))
theorem w64 (n : Int) (h : -9223372036854775808 <= n /\ n <= 9223372036854775807) : jI.wrap n = n := by rw [IntKind.wrap_i64]; omega
def xVr (r : RgT) (a b : Int) : Bool := decide (a <= r.1) && (decide (r.1 <= r.2) && decide (r.2 <= b))
def xC1 (n a b : Int) : Bool := decide (a <= n) && decide (n <= b)
theorem xEI (F : Nat) (n a b : Int) : xAH F n a b = some (xC1 n a b) := by
 unfold xAH xC1;change (bif decide (a <= n) then _ else _) = _;cases decide (a <= n) <;> rfl
theorem isRg (F : Nat) (r : RgT) (a b : Int) : xB3 F r a b = some (xVr r a b) := by
 unfold xB3 xVr;cases decide (a <= r.1) <;> cases decide (r.1 <= r.2) <;> rfl
def wrOk (w : WrT) : Bool := xVr w.1 1 10000000 && (xVr w.2.1 0 10000000 && xC1 w.2.2 0 10000000)
theorem isWr (F : Nat) (w : WrT) : xFH F w = some (wrOk w) := by
 unfold xFH wrOk;rw [isRg, isRg, xEI];cases xVr w.1 1 10000000 <;> cases xVr w.2.1 0 10000000 <;> rfl
def wbOk (w : WrT) (b : WbT) : Bool := wrOk w && (xC1 b.1 1 10000000 && (xC1 b.2.1 1 2000 && (xC1 b.2.2.1 0 600000000 && (xVr b.2.2.2 0 10000000 && !decide (jI.wrap (w.1.2 + b.2.2.2.2) >= b.1)))))
def ckI (w : WrT) (b : WbT) (n : Int) : Int := bif wbOk w b then (bif xC1 n 1 600000000 then 0 else 3) else 2
theorem check_eq (F : Nat) (w : WrT) (b : WbT) (n : Int) : xEi F w b n = some (ckI w b n) := by
 unfold xEi ckI wbOk xFI;rw [isWr, xEI, xEI, xEI, isRg]
 cases wrOk w with
 | false => rfl
 | true =>
  cases xC1 b.1 1 10000000 with
  | false => rfl
  | true =>
   cases xC1 b.2.1 1 2000 with
   | false => rfl
   | true =>
    cases xC1 b.2.2.1 0 600000000 with
    | false => rfl
    | true =>
     cases xVr b.2.2.2 0 10000000 with
     | false => rfl
     | true =>
      change (ob (some (n, decide (jI.wrap (w.1.2 + b.2.2.2.2) >= b.1))) _) = _
      cases decide (jI.wrap (w.1.2 + b.2.2.2.2) >= b.1) with
      | true => rfl
      | false =>
       change ob (xAH F n 1 600000000) _ = _;rw [xEI];cases xC1 n 1 600000000 <;> rfl
structure Vld (w : WrT) (b : WbT) (n : Int) : Prop where
 d : 1 <= w.1.1 /\ w.1.1 <= w.1.2 /\ w.1.2 <= 10000000
 e : 0 <= w.2.1.1 /\ w.2.1.1 <= w.2.1.2 /\ w.2.1.2 <= 10000000
 l : 0 <= w.2.2 /\ w.2.2 <= 10000000
 p : 1 <= b.1 /\ b.1 <= 10000000
 g : 1 <= b.2.1 /\ b.2.1 <= 2000
 s : 0 <= b.2.2.1 /\ b.2.2.1 <= 600000000
 y : 0 <= b.2.2.2.1 /\ b.2.2.2.1 <= b.2.2.2.2 /\ b.2.2.2.2 <= 10000000
 t : w.1.2 + b.2.2.2.2 < b.1
 n : 1 <= n /\ n <= 600000000
theorem vld_of {w : WrT} {b : WbT} {n : Int} (h : ckI w b n = 0) : Vld w b n := by
 unfold ckI at h
 cases h1 : wbOk w b with
 | false => rw [h1] at h; cases h
 | true =>
  rw [h1] at h
  cases h2 : xC1 n 1 600000000 with
  | false => rw [h2] at h; cases h
  | true =>
   unfold wbOk wrOk xVr xC1 at h1;unfold xC1 at h2;simp only [Bool.and_eq_true, decide_eq_true_eq, Bool.not_eq_true', decide_eq_false_iff_not] at h1 h2;obtain ⟨⟨a1, a2, a3⟩, a4, a5, a6, a7, a8⟩ := h1;rw [w64 _ (by omega)] at a8;exact ⟨⟨a1.1, a1.2.1, a1.2.2⟩, ⟨a2.1, a2.2.1, a2.2.2⟩, a3, a4, a5, a6, ⟨a7.1, a7.2.1, a7.2.2⟩, by omega, h2⟩
def usN (b : WbT) (n : Int) : Int := if b.2.2.1 >= n then 0 else if (n - b.2.2.1 - 1) / b.1 + 1 < b.2.1 then (n - b.2.2.1 - 1) / b.1 + 1 else b.2.1
theorem used_eq (F : Nat) {w : WrT} {b : WbT} {n : Int} (h : Vld w b n) : xCO F (w, (b, n)) = some (usN b n) := by
 unfold xCO usN;obtain ⟨_, _, _, hp, hg, hs, _, _, hn⟩ := h;by_cases h1 : b.2.2.1 >= n
 ·rw [if_pos h1, show decide (b.2.2.1 >= n) = true from decide_eq_true h1]; rfl
 ·rw [if_neg h1];change (bif decide (b.2.2.1 >= n) then _ else (bif !(b.1 == 0) then _ else none)) = _;rw [show decide (b.2.2.1 >= n) = false from decide_eq_false h1, show (b.1 == 0) = false from beq_eq_false_iff_ne.2 (by omega)];change some (if _ < b.2.1 then _ else b.2.1) = _;rw [w64 (n - b.2.2.1) (by omega), w64 (n - b.2.2.1 - 1) (by omega), Int.tdiv_eq_ediv_of_nonneg (by omega)];have h2 : 0 <= (n - b.2.2.1 - 1) / b.1 := Int.ediv_nonneg (by omega) (by omega);have h3 : (n - b.2.2.1 - 1) / b.1 <= n - b.2.2.1 - 1 := Int.ediv_le_self _ (by omega);rw [w64 ((n - b.2.2.1 - 1) / b.1) (by omega), w64 ((n - b.2.2.1 - 1) / b.1 + 1) (by omega)]
theorem us_range {w : WrT} {b : WbT} {n : Int} (h : Vld w b n) : 0 <= usN b n /\ usN b n <= b.2.1 /\ (∀ i : Int, 0 <= i -> i < usN b n -> b.2.2.1 + i * b.1 < n) /\ (usN b n < b.2.1 -> n <= b.2.2.1 + usN b n * b.1) := by
 obtain ⟨_, _, _, hp, hg, hs, _, _, hn⟩ := h;have hE : ∀ i : Int, i < (n - b.2.2.1 - 1) / b.1 + 1 -> b.2.2.1 + i * b.1 < n := fun i hi => by
  have h1 : i <= (n - b.2.2.1 - 1) / b.1 := by omega
  have h2 : i * b.1 <= (n - b.2.2.1 - 1) / b.1 * b.1 := Int.mul_le_mul_of_nonneg_right h1 (by omega);have h3 : (n - b.2.2.1 - 1) / b.1 * b.1 <= n - b.2.2.1 - 1 := Int.ediv_mul_le _ (by omega);omega
 unfold usN;by_cases h1 : b.2.2.1 >= n
 ·rw [if_pos h1];refine ⟨Int.le_refl _, by omega, fun i h0 hi => by omega, fun _ => by omega⟩
 ·rw [if_neg h1];have h2 : 0 <= (n - b.2.2.1 - 1) / b.1 := Int.ediv_nonneg (by omega) (by omega);split
  ·rename_i h3;refine ⟨by omega, by omega, fun i _ hi => hE i hi, fun _ => ?_⟩;have h4 : n - b.2.2.1 - 1 < ((n - b.2.2.1 - 1) / b.1 + 1) * b.1 := Int.lt_ediv_add_one_mul_self _ (by omega);omega
  ·rename_i h3;refine ⟨by omega, by omega, fun i _ hi => hE i (by omega), fun h => by omega⟩
theorem xCm {a b : Nat} (h : a + b <= 1000000) : xAN a b = true := by unfold xAN; exact decide_eq_true h
theorem inB_t {k n : Nat} (h : k < n) : inB (k : Int) n = true := by
 unfold inB;simp only [Bool.and_eq_true, decide_eq_true_eq];omega
theorem xAI {p : Prop} [Decidable p] (h : p) : decide p = true := decide_eq_true h
theorem xAK {p : Prop} [Decidable p] (h : ¬ p) : decide p = false := decide_eq_false h
theorem xAG (f : Nat -> Int) (n : Nat) : (List.range (n + 1)).map f = (List.range n).map f ++ [f n] := by
 rw [List.range_succ, List.map_append]; rfl
theorem xIg (f : Nat -> Int) (n i : Nat) (h : i < n) : nth ((List.range n).map f) (0 : Int) i = f i := by
 unfold nth;rw [List.getD_eq_getElem?_getD, List.getElem?_map, List.getElem?_range h];rfl
theorem xA7 (f : Nat -> Int) (n : Nat) : ((List.range n).map f).length = n := by rw [List.length_map, List.length_range]
def plc (b : WbT) (k : Nat) : Int := b.2.2.1 + (k : Int) * b.1
def mx0 (x : Int) : Int := if x > 0 then x else 0
def mn (a b : Int) : Int := if a < b then a else b
structure Ct (b : WbT) (n d wear sl : Int) (m : Nat) : Prop where
 hd : 0 <= d /\ d <= 10000000
 hw : 0 <= wear /\ wear <= 10000000
 hs : 0 <= sl /\ sl <= 10000000
 hp : 1 <= b.1 /\ b.1 <= 10000000
 ht : d + sl < b.1
 hst : 0 <= b.2.2.1 /\ b.2.2.1 <= 600000000
 hn : 1 <= n /\ n <= 600000000
 hm : m <= 2000
 hpl : ∀ i : Nat, i < m -> plc b i < n
 hz : m = 0 -> n <= b.2.2.1
theorem xO1 (b : WbT) (i : Nat) : plc b (i + 1) = plc b i + b.1 := by
 unfold plc;have e : ((i + 1 : Nat) : Int) * b.1 = (i : Int) * b.1 + b.1 := by rw [Int.natCast_add, Int.add_mul]; omega
 rw [e]; omega
abbrev SwT := WrT × (WbT × Int)
def sm (f : Nat -> Int) : Nat -> Int
 | 0 => 0
 | k + 1 => sm f k + f k
theorem xKB (f : Nat -> Int) (c : Int) : ∀ (q : Nat), (∀ i, i < q -> 0 <= f i /\ f i <= c) -> 0 <= sm f q /\ sm f q <= (q : Int) * c
 | 0, _ => by simp [sm]
 | q + 1, h => by
  have h1 := xKB f c q fun i hi => h i (by omega);have h2 := h q (by omega);have e : ((q + 1 : Nat) : Int) * c = (q : Int) * c + c := by rw [Int.natCast_add, Int.add_mul]; omega
  rw [e];unfold sm;omega
def mU (b : WbT) (n : Int) : Nat := (usN b n).toNat
theorem xK4 {w : WrT} {b : WbT} {n : Int} (h : Vld w b n) : ((mU b n : Nat) : Int) = usN b n := by
 have := us_range h;unfold mU;omega
theorem xLI {w : WrT} {b : WbT} {n : Int} (h : Vld w b n) : Ct b n w.1.2 w.2.1.1 b.2.2.2.2 (mU b n) := by
 have hu := us_range h;have hc := xK4 h;have h1 := h.d; have h2 := h.e; have h3 := h.p; have h4 := h.g; have h5 := h.s; have h6 := h.y; have h7 := h.t; have h8 := h.n;refine ⟨by omega, by omega, by omega, h3, h7, h5, h8, by omega, fun i hi => hu.2.2.1 i (by omega) (by omega), fun hm => ?_⟩;have e : usN b n = 0 := by omega
 have := hu.2.2.2 (by omega);rw [e] at this;simpa using this
theorem us_nat {w : WrT} {b : WbT} {n : Int} (F : Nat) (h : Vld w b n) : xCO F (w, (b, n)) = some (mU b n : Int) := by
 rw [used_eq F h, xK4 h]
structure Cg (b : WbT) (n : Int) (D S : Nat -> Int) (m : Nat) : Prop where
 hd : ∀ i, i <= m -> 0 <= D i /\ D i <= 10000000
 hs : ∀ i, i < m -> 0 <= S i /\ S i <= 10000000
 hp : 1 <= b.1 /\ b.1 <= 10000000
 ht : ∀ i, i < m -> D i + S i < b.1
 hst : 0 <= b.2.2.1 /\ b.2.2.1 <= 600000000
 hn : 1 <= n /\ n <= 600000000
 hm : m <= 2000
 hpl : ∀ i : Nat, i < m -> plc b i < n
 hz : m = 0 -> n <= b.2.2.1
def kg (b : WbT) (n : Int) (D S : Nat -> Int) (m i : Nat) : Int := if i + 1 = m then mn (n - plc b i) (D i + S i) else D i + S i
def slg (b : WbT) (D S : Nat -> Int) (i : Nat) : Int := b.1 - (D i + S i)
def kgs (b : WbT) (n : Int) (D S : Nat -> Int) (m i : Nat) : List Int := (List.range i).map (kg b n D S m)
def sgs (b : WbT) (D S : Nat -> Int) (m i : Nat) : List Int := (List.range (if i < m then i else m - 1)).map (slg b D S)
theorem Cg.plr {b : WbT} {n : Int} {D S : Nat -> Int} {m : Nat} (h : Cg b n D S m) {i : Nat} (hi : i <= 2000) : 0 <= (i : Int) * b.1 /\ (i : Int) * b.1 <= 20000000000 /\ plc b i = b.2.2.1 + (i : Int) * b.1 := by
 have h1 := h.hp;exact ⟨Int.mul_nonneg (by omega) (by omega), Int.le_trans (Int.mul_le_mul (by omega : (i : Int) <= 2000) h1.2 (by omega) (by omega)) (by omega), rfl⟩
theorem Cg.kgr {b : WbT} {n : Int} {D S : Nat -> Int} {m : Nat} (h : Cg b n D S m) {i : Nat} (hi : i < m) : 0 <= kg b n D S m i /\ kg b n D S m i <= D i + S i /\ kg b n D S m i <= n - plc b i := by
 have h1 := h.hd i (by omega); have h2 := h.hs i hi; have h3 := h.hpl i hi; have h5 := h.ht i hi;unfold kg mn;by_cases hm : i + 1 = m
 ·rw [if_pos hm]; split <;> omega
 ·have h6 := h.hpl (i + 1) (by omega);rw [xO1] at h6;rw [if_neg hm];omega
theorem xVl (b : WbT) (D S : Nat -> Int) {m i : Nat} (h : i + 1 < m) : sgs b D S m (i + 1) = sgs b D S m i ++ [slg b D S i] := by
 unfold sgs;rw [if_pos h, if_pos (by omega), xAG]
theorem xVm (b : WbT) (D S : Nat -> Int) {m i : Nat} (h : i + 1 = m) : sgs b D S m (i + 1) = sgs b D S m i := by
 unfold sgs;rw [if_neg (by omega), if_pos (by omega), show m - 1 = i by omega]
theorem sgs_len (b : WbT) (D S : Nat -> Int) (m i : Nat) (h : i <= m) : (sgs b D S m i).length <= i := by
 unfold sgs;rw [xA7];split <;> omega
theorem sgs_0 (b : WbT) (D S : Nat -> Int) (m : Nat) : sgs b D S m 0 = [] := by
 unfold sgs;by_cases hm : m = 0
 ·rw [hm]; rfl
 ·rw [if_pos (by omega)]; rfl
theorem xPm (b : WbT) (n : Int) (D S : Nat -> Int) (m i : Nat) : kgs b n D S m (i + 1) = kgs b n D S m i ++ [kg b n D S m i] := xAG _ _
theorem xLc (b : WbT) (n : Int) (D S : Nat -> Int) (m i : Nat) : (kgs b n D S m i).length = i := xA7 _ _
def rsG (b : WbT) (n : Int) (D S : Nat -> Int) (m i : Nat) : Int := if i = m then (if m = 0 then 0 else n - plc b (m - 1) - kg b n D S m (m - 1)) else n - plc b i
def dl (d : Int) (G : List Int) : Nat -> Int
 | 0 => d
 | i + 1 => mx0 (dl d G i - nth G (0 : Int) i)
abbrev CvT := Int × (List Int × (List Int × (SwT × ((Int × Int) × (Int × (Int × (Int × (Int × (SwT × (Int × (List Int × List Int)))))))))))
def ctV (F k : Nat) (u t i d0 : Int) (G H : List Int) (s1 : SwT) (tb : Int × Int) (used rest : Int) (s2 : SwT) (d : Int) (ss ks : List Int) (c : Int) : Option CvT :=
 bif decide (c < 0) then none else (bif xAN (ks.length - 0) (c :: []).length then
  (bif decide ((((ks ++ (c :: [])).length - 0 : Nat) : Int) < used) then
   (bif xAN (ss.length - 0) ((jI.wrap (s1.2.1.1 - c)) :: []).length then xAJ F k ((u, t, (jI.wrap (i + 1))), (d0, G, H, s1, tb, d, d, used, (jI.wrap ((jI.wrap (rest - c)) - (jI.wrap (s1.2.1.1 - c)))), s2, mx0 (jI.wrap (d - nth G (0 : Int) i.toNat)), (ss ++ ((jI.wrap (s1.2.1.1 - c)) :: [])), (ks ++ (c :: [])))) else none)
  else xAJ F k ((u, t, (jI.wrap (i + 1))), (d0, G, H, s1, tb, d, d, used, (jI.wrap (rest - c)), s2, mx0 (jI.wrap (d - nth G (0 : Int) i.toNat)), ss, (ks ++ (c :: [])))))
 else none)
theorem xP4 (F k : Nat) (u t i d0 : Int) (G H : List Int) (s1 : SwT) (tb : Int × Int) (last fifth used rest : Int) (s2 : SwT) (d : Int) (ss ks : List Int) :
  xAJ F (k + 1) ((u, t, i), (d0, G, H, s1, tb, last, fifth, used, rest, s2, d, ss, ks)) =
  (bif decide (i < t) then (bif inB i (G.length - 0) then (bif inB i (H.length - 0) then (bif (i == jI.wrap (u - 1)) then
   ctV F k u t i d0 G H s1 tb used rest s2 d ss ks (mn (jI.wrap ((jI.wrap (s2.2.2 - s2.2.1.2.2.1)) - (jI.wrap (i * s2.2.1.1)))) (jI.wrap (d + nth H (0 : Int) i.toNat)))
   else ctV F k u t i d0 G H s1 tb used rest s2 d ss ks (mn s2.2.1.1 (jI.wrap (d + nth H (0 : Int) i.toNat)))) else none) else none)
  else some (d0, G, H, s1, tb, last, fifth, used, rest, s2, d, ss, ks)) := rfl
abbrev sf (H : List Int) : Nat -> Int := fun i => nth H (0 : Int) i
theorem ctV_mid (F k : Nat) {b : WbT} {n d0 : Int} {G H : List Int} {m : Nat} (h : Cg b n (dl d0 G) (sf H) m) (hG : ∀ i, i < m -> 0 <= nth G (0 : Int) i /\ nth G (0 : Int) i <= 10000000) {i : Nat} (hi : i + 1 < m) (w : WrT) (tb : Int × Int) (rest : Int) (hr : 0 <= rest /\ rest <= 600000000) :
  ctV F k m m i d0 G H (w, (b, n)) tb m rest (w, (b, n)) (dl d0 G i) (sgs b (dl d0 G) (sf H) m i) (kgs b n (dl d0 G) (sf H) m i) (kg b n (dl d0 G) (sf H) m i) =
  xAJ F k ((m, m, ((i + 1 : Nat) : Int)), (d0, G, H, (w, (b, n)), tb, dl d0 G i, dl d0 G i, m, rest - b.1, (w, (b, n)), dl d0 G (i + 1), sgs b (dl d0 G) (sf H) m (i + 1), kgs b n (dl d0 G) (sf H) m (i + 1))) := by
 have r1 := h.kgr (show i < m by omega);have r2 := h.hd i (by omega); have r3 := h.hs i (by omega); have r4 := hG i (by omega); have r5 := h.ht i (by omega);have r6 := h.hp; have r7 := h.hm;have ek : kg b n (dl d0 G) (sf H) m i = dl d0 G i + sf H i := by unfold kg; rw [if_neg (by omega)]
 have e1 : jI.wrap ((i : Int) + 1) = ((i + 1 : Nat) : Int) := by rw [w64 _ (by omega)]; omega
 have e2 : jI.wrap (b.1 - kg b n (dl d0 G) (sf H) m i) = b.1 - kg b n (dl d0 G) (sf H) m i := w64 _ (by omega);have e3 : jI.wrap ((jI.wrap (rest - kg b n (dl d0 G) (sf H) m i)) - (b.1 - kg b n (dl d0 G) (sf H) m i)) = rest - b.1 := by rw [w64 (rest - _) (by omega), w64 _ (by omega)]; omega
 have e4 : mx0 (jI.wrap (dl d0 G i - nth G (0 : Int) (i : Int).toNat)) = dl d0 G (i + 1) := by rw [Int.toNat_natCast, w64 _ (by omega)]; rfl
 have l1 := sgs_len b (dl d0 G) (sf H) m i (by omega);unfold ctV;show (bif decide (kg b n (dl d0 G) (sf H) m i < 0) then none else (bif xAN ((kgs b n (dl d0 G) (sf H) m i).length - 0) ((kg b n (dl d0 G) (sf H) m i) :: []).length then
  (bif decide ((((kgs b n (dl d0 G) (sf H) m i ++ ((kg b n (dl d0 G) (sf H) m i) :: [])).length - 0 : Nat) : Int) < (m : Int)) then
   (bif xAN ((sgs b (dl d0 G) (sf H) m i).length - 0) ((jI.wrap (b.1 - kg b n (dl d0 G) (sf H) m i)) :: []).length then xAJ F k ((m, m, (jI.wrap ((i : Int) + 1))), (d0, G, H, (w, (b, n)), tb, dl d0 G i, dl d0 G i, m, (jI.wrap ((jI.wrap (rest - kg b n (dl d0 G) (sf H) m i)) - (jI.wrap (b.1 - kg b n (dl d0 G) (sf H) m i)))), (w, (b, n)), mx0 (jI.wrap (dl d0 G i - nth G (0 : Int) (i : Int).toNat)), (sgs b (dl d0 G) (sf H) m i ++ ((jI.wrap (b.1 - kg b n (dl d0 G) (sf H) m i)) :: [])), (kgs b n (dl d0 G) (sf H) m i ++ ((kg b n (dl d0 G) (sf H) m i) :: [])))) else none)
  else _) else none)) = _
 rw [e2, e3, e4, e1, <- xPm, xLc, xLc, xAK (show ¬ kg b n (dl d0 G) (sf H) m i < 0 by omega), xCm (show i - 0 + [kg b n (dl d0 G) (sf H) m i].length <= 1000000 by simp; omega), xCm (show (sgs b (dl d0 G) (sf H) m i).length - 0 + [b.1 - kg b n (dl d0 G) (sf H) m i].length <= 1000000 by simp; omega), xAI (show ((i + 1 - 0 : Nat) : Int) < (m : Int) by omega), xVl b (dl d0 G) (sf H) hi];simp only [cond_true, cond_false];rw [show b.1 - kg b n (dl d0 G) (sf H) m i = slg b (dl d0 G) (sf H) i by rw [ek]; rfl]
theorem ctV_end (F k : Nat) {b : WbT} {n d0 : Int} {G H : List Int} {m : Nat} (h : Cg b n (dl d0 G) (sf H) m) (hG : ∀ i, i < m -> 0 <= nth G (0 : Int) i /\ nth G (0 : Int) i <= 10000000) {i : Nat} (hi : i + 1 = m) (w : WrT) (tb : Int × Int) (rest : Int) (hr : 0 <= rest /\ rest <= 600000000) :
  ctV F k m m i d0 G H (w, (b, n)) tb m rest (w, (b, n)) (dl d0 G i) (sgs b (dl d0 G) (sf H) m i) (kgs b n (dl d0 G) (sf H) m i) (kg b n (dl d0 G) (sf H) m i) =
  xAJ F k ((m, m, ((i + 1 : Nat) : Int)), (d0, G, H, (w, (b, n)), tb, dl d0 G i, dl d0 G i, m, rest - kg b n (dl d0 G) (sf H) m i, (w, (b, n)), dl d0 G (i + 1), sgs b (dl d0 G) (sf H) m (i + 1), kgs b n (dl d0 G) (sf H) m (i + 1))) := by
 have r1 := h.kgr (show i < m by omega);have r2 := h.hd i (by omega); have r3 := h.hs i (by omega); have r4 := hG i (by omega); have r5 := h.ht i (by omega);have r6 := h.hp; have r7 := h.hm;have e1 : jI.wrap ((i : Int) + 1) = ((i + 1 : Nat) : Int) := by rw [w64 _ (by omega)]; omega
 have e3 : jI.wrap (rest - kg b n (dl d0 G) (sf H) m i) = rest - kg b n (dl d0 G) (sf H) m i := w64 _ (by omega);have e4 : mx0 (jI.wrap (dl d0 G i - nth G (0 : Int) (i : Int).toNat)) = dl d0 G (i + 1) := by rw [Int.toNat_natCast, w64 _ (by omega)]; rfl
 unfold ctV;show (bif decide (kg b n (dl d0 G) (sf H) m i < 0) then none else (bif xAN ((kgs b n (dl d0 G) (sf H) m i).length - 0) ((kg b n (dl d0 G) (sf H) m i) :: []).length then
  (bif decide ((((kgs b n (dl d0 G) (sf H) m i ++ ((kg b n (dl d0 G) (sf H) m i) :: [])).length - 0 : Nat) : Int) < (m : Int)) then _
  else xAJ F k ((m, m, (jI.wrap ((i : Int) + 1))), (d0, G, H, (w, (b, n)), tb, dl d0 G i, dl d0 G i, m, (jI.wrap (rest - kg b n (dl d0 G) (sf H) m i)), (w, (b, n)), mx0 (jI.wrap (dl d0 G i - nth G (0 : Int) (i : Int).toNat)), sgs b (dl d0 G) (sf H) m i, (kgs b n (dl d0 G) (sf H) m i ++ ((kg b n (dl d0 G) (sf H) m i) :: []))))) else none)) = _
 rw [e3, e4, e1, <- xPm, xLc, xLc, xAK (show ¬ kg b n (dl d0 G) (sf H) m i < 0 by omega), xCm (show i - 0 + [kg b n (dl d0 G) (sf H) m i].length <= 1000000 by simp; omega), xAK (show ¬ ((i + 1 - 0 : Nat) : Int) < (m : Int) by omega), xVm b (dl d0 G) (sf H) hi];simp only [cond_true, cond_false]
theorem xI2 (F : Nat) {b : WbT} {n d0 : Int} {G H : List Int} {m : Nat} (h : Cg b n (dl d0 G) (sf H) m) (hG : ∀ i, i < m -> 0 <= nth G (0 : Int) i /\ nth G (0 : Int) i <= 10000000) (lG : G.length = m) (lH : H.length = m) (w : WrT) (tb : Int × Int) : ∀ (j k i : Nat) (x y : Int), i + j = m -> j < k ->
  ∃ x' y' : Int, xAJ F k ((m, m, (i : Int)), (d0, G, H, (w, (b, n)), tb, x, y, m, rsG b n (dl d0 G) (sf H) m i, (w, (b, n)), dl d0 G i, sgs b (dl d0 G) (sf H) m i, kgs b n (dl d0 G) (sf H) m i)) =
   some (d0, G, H, (w, (b, n)), tb, x', y', (m : Int), rsG b n (dl d0 G) (sf H) m m, (w, (b, n)), dl d0 G m, sgs b (dl d0 G) (sf H) m m, kgs b n (dl d0 G) (sf H) m m)
 | j, 0, i, _, _, _, hk => by omega
 | 0, k + 1, i, x, y, hi, _ => by
  have e : i = m := by omega
  subst e;exact ⟨x, y, by rw [xP4, xAK (by omega)]; rfl⟩
 | j + 1, k + 1, i, x, y, hi, hk => by
  have r1 := h.kgr (show i < m by omega);have r2 := h.hd i (by omega); have r3 := h.hs i (by omega); have r4 := hG i (by omega); have rt := h.ht i (by omega);have r6 := h.hp; have r7 := h.hm; have r8 := h.hn; have r9 := h.hst;obtain ⟨p1, p2, p3⟩ := h.plr (i := i) (by omega);have p4 := h.hpl i (by omega);have e0 : rsG b n (dl d0 G) (sf H) m i = n - plc b i := by unfold rsG; rw [if_neg (by omega)]
  have e1 : jI.wrap ((jI.wrap (n - b.2.2.1)) - (jI.wrap ((i : Int) * b.1))) = n - plc b i := by
   rw [w64 (n - _) (by omega), w64 ((i : Int) * _) (by omega), w64 _ (by omega)]; omega
  have e2 : jI.wrap (dl d0 G i + nth H (0 : Int) (i : Int).toNat) = dl d0 G i + sf H i := w64 _ (by rw [Int.toNat_natCast]; have r3' : 0 <= nth H (0 : Int) i /\ nth H (0 : Int) i <= 10000000 := r3; omega);have e3 : jI.wrap ((m : Int) - 1) = (m : Int) - 1 := w64 _ (by omega);rw [xP4];show ∃ x' y' : Int, (bif decide ((i : Int) < (m : Int)) then (bif inB (i : Int) (G.length - 0) then (bif inB (i : Int) (H.length - 0) then (bif ((i : Int) == jI.wrap ((m : Int) - 1)) then
   ctV F k m m i d0 G H (w, (b, n)) tb m (rsG b n (dl d0 G) (sf H) m i) (w, (b, n)) (dl d0 G i) (sgs b (dl d0 G) (sf H) m i) (kgs b n (dl d0 G) (sf H) m i) (mn (jI.wrap ((jI.wrap (n - b.2.2.1)) - (jI.wrap ((i : Int) * b.1)))) (jI.wrap (dl d0 G i + nth H (0 : Int) (i : Int).toNat)))
   else ctV F k m m i d0 G H (w, (b, n)) tb m (rsG b n (dl d0 G) (sf H) m i) (w, (b, n)) (dl d0 G i) (sgs b (dl d0 G) (sf H) m i) (kgs b n (dl d0 G) (sf H) m i) (mn b.1 (jI.wrap (dl d0 G i + nth H (0 : Int) (i : Int).toNat)))) else none) else none) else _) = _
  rw [e1, e2, e3, e0, xAI (by omega), inB_t (show i < G.length - 0 by omega), inB_t (show i < H.length - 0 by omega)];by_cases hl : i + 1 = m
  ·have c1 : mn (n - plc b i) (dl d0 G i + sf H i) = kg b n (dl d0 G) (sf H) m i := by unfold kg; rw [if_pos hl]
   rw [c1, show ((i : Int) == (m : Int) - 1) = true from beq_iff_eq.2 (by omega)];simp only [cond_true];have hs := ctV_end F k h hG hl w tb (n - plc b i) (by omega);have e5 : n - plc b i - kg b n (dl d0 G) (sf H) m i = rsG b n (dl d0 G) (sf H) m (i + 1) := by
    unfold rsG;rw [if_pos hl, if_neg (by omega), show m - 1 = i by omega]
   rw [e5] at hs;obtain ⟨x', y', hy⟩ := xI2 F h hG lG lH w tb j k (i + 1) (dl d0 G i) (dl d0 G i) (by omega) (by omega);exact ⟨x', y', by rw [hs, hy]⟩
  ·have c1 : mn b.1 (dl d0 G i + sf H i) = kg b n (dl d0 G) (sf H) m i := by unfold kg mn; rw [if_neg (by omega), if_neg hl]
   rw [c1, show ((i : Int) == (m : Int) - 1) = false from beq_eq_false_iff_ne.2 (by omega)];simp only [cond_true, cond_false];have hs := ctV_mid F k h hG (show i + 1 < m by omega) w tb (n - plc b i) (by omega);have e5 : n - plc b i - b.1 = rsG b n (dl d0 G) (sf H) m (i + 1) := by
    unfold rsG;rw [if_neg (by omega), xO1]; omega
   rw [e5] at hs;obtain ⟨x', y', hy⟩ := xI2 F h hG lG lH w tb j k (i + 1) (dl d0 G i) (dl d0 G i) (by omega) (by omega);exact ⟨x', y', by rw [hs, hy]⟩
theorem cutB_eq (F : Nat) {b : WbT} {n d0 : Int} {G H : List Int} {m : Nat} (h : Cg b n (dl d0 G) (sf H) m) (hG : ∀ i, i < m -> 0 <= nth G (0 : Int) i /\ nth G (0 : Int) i <= 10000000) (lG : G.length = m) (lH : H.length = m) (hF : 2000 < F) (w : WrT) (hu : xCO F (w, (b, n)) = some (m : Int)) :
  ∃ x' : Int, xI3 F (w, (b, n)) d0 d0 G H = some (((mn n b.2.2.1, rsG b n (dl d0 G) (sf H) m m), x', dl d0 G m), (d0, sgs b (dl d0 G) (sf H) m m, kgs b n (dl d0 G) (sf H) m m)) := by
 unfold xI3;rw [hu];have r8 := h.hn; have r9 := h.hst; have r7 := h.hm;obtain ⟨x', y', hy⟩ := xI2 F h hG lG lH w (mn n b.2.2.1, (0 : Int)) m F 0 d0 0 (by omega) (by omega);have e0 : rsG b n (dl d0 G) (sf H) m 0 = jI.wrap (n - mn n b.2.2.1) := by
  by_cases hm : m = 0
  ·have := h.hz hm;unfold rsG mn;rw [if_pos hm.symm, if_pos hm];split
   ·rw [w64 _ (by omega)]; omega
   ·rw [w64 _ (by omega)]; omega
  ·obtain ⟨_, _, p3⟩ := h.plr (i := 0) (by omega);have p4 := h.hpl 0 (by omega);unfold rsG mn;rw [if_neg (by omega), if_neg (by omega), w64 _ (by omega)];omega
 rw [e0, sgs_0] at hy;refine ⟨x', ?_⟩;change ob (xAJ F F (((m : Int), (m : Int), ((0 : Nat) : Int)), (d0, G, H, (w, (b, n)), (mn n b.2.2.1, (0 : Int)), d0, (0 : Int), (m : Int), jI.wrap (n - mn n b.2.2.1), (w, (b, n)), dl d0 G 0, [], kgs b n (dl d0 G) (sf H) m 0))) _ = _;rw [hy]
theorem xPY {d0 : Int} {G : List Int} {m : Nat} (h0 : 0 <= d0 /\ d0 <= 10000000) (hG : ∀ i, i < m -> 0 <= nth G (0 : Int) i /\ nth G (0 : Int) i <= 10000000) : ∀ i, i <= m -> 0 <= dl d0 G i /\ dl d0 G i <= d0
 | 0, _ => ⟨h0.1, Int.le_refl _⟩
 | i + 1, h => by
  have h1 := xPY h0 hG i (by omega);have h2 := hG i (by omega);unfold dl mx0;split <;> omega
theorem xLD (l : List Int) (i : Nat) (h : i < l.length) : l.drop i = nth l (0 : Int) i :: l.drop (i + 1) := by
 unfold nth;rw [List.getD_eq_getElem?_getD, List.getElem?_eq_getElem h];exact List.drop_eq_getElem_cons h
theorem xUG {l : List Int} {a b : Int} (h : l.all (fun x => xC1 x a b) = true) {i : Nat} (hi : i < l.length) : a <= nth l (0 : Int) i /\ nth l (0 : Int) i <= b := by
 unfold nth;rw [List.getD_eq_getElem?_getD, List.getElem?_eq_getElem hi];have := List.all_eq_true.1 h _ (List.getElem_mem hi);unfold xC1 at this;simp only [Bool.and_eq_true, decide_eq_true_eq] at this;exact this
theorem xSY (F : Nat) (l : List Int) (r : RgT) (hq : l.length <= 5000) : ∀ (j k i : Nat), i + j = l.length -> j < k ->
  (∃ x : Int, 0 <= x /\ xBg F l.length l r k i = some (.inl (x, (l, r))) /\ (l.drop i).all (fun x => xC1 x r.1 r.2) = false) \/ (xBg F l.length l r k i = some (.inr (l, r)) /\ (l.drop i).all (fun x => xC1 x r.1 r.2) = true)
 | j, 0, i, _, hk => by omega
 | 0, k + 1, i, hi, _ => by
  refine .inr ⟨?_, ?_⟩
  ·show (bif decide ((i : Int) < (l.length : Int)) then _ else _) = _;rw [xAK (by omega)]; rfl
  ·rw [List.drop_eq_nil_of_le (by omega)]; rfl
 | j + 1, k + 1, i, hi, hk => by
  have e1 : jI.wrap ((i : Int) + 1) = ((i + 1 : Nat) : Int) := by rw [w64 _ (by omega)]; omega
  have key : xBg F l.length l r (k + 1) i = (bif (!xC1 (nth l (0 : Int) i) r.1 r.2) then some (.inl ((i : Int), (l, r))) else xBg F l.length l r k ((i + 1 : Nat) : Int)) := by
   show (bif decide ((i : Int) < (l.length : Int)) then (bif inB (i : Int) (l.length - 0) then ob (xAH F (nth l (0 : Int) i) r.1 r.2) (fun r' => bif (!r') then some (.inl ((i : Int), (l, r))) else xBg F l.length l r k (jI.wrap ((i : Int) + 1))) else none) else _) = _;rw [xEI, e1, xAI (by omega), inB_t (show i < l.length - 0 by omega)];rfl
  rw [key, xLD l i (by omega), List.all_cons]
  cases h : xC1 (nth l (0 : Int) i) r.1 r.2 with
  | false => exact .inl ⟨i, by omega, rfl, rfl⟩
  | true =>
   rw [Bool.true_and];exact xSY F l r hq j k (i + 1) (by omega) (by omega)
theorem xP6 (F : Nat) (hF : 2000 < F) (l : List Int) (r : RgT) (hq : l.length <= 2000) : xEh F l r = some (!l.all (fun x => xC1 x r.1 r.2), r) := by
 unfold xEh xHB;change ob (ob (xBg F ((l.length - 0 : Nat) : Int) l r F ((0 : Nat) : Int)) _) _ = _;rw [Nat.sub_zero];rcases xSY F l r (by omega) l.length F 0 (by omega) (by omega) with ⟨x, h1, h2, h3⟩ | ⟨h2, h3⟩
 ·rw [h2];rw [List.drop_zero] at h3;rw [h3];change some (decide (x >= 0), r) = _;rw [xAI (show x >= 0 from h1)]; rfl
 ·rw [h2];rw [List.drop_zero] at h3;rw [h3]; rfl
def csOk (w : WrT) (b : WbT) (t : Int) (G H : List Int) : Bool := (xC1 t w.1.1 w.1.2 && G.all (fun x => xC1 x w.2.1.1 w.2.1.2)) && H.all (fun x => xC1 x b.2.2.2.1 b.2.2.2.2)
theorem cg_of {w : WrT} {b : WbT} {n : Int} (h : Vld w b n) {t : Int} {G H : List Int} (hc : csOk w b t G H = true) (lG : G.length = mU b n) (lH : H.length = mU b n) :
  Cg b n (dl t G) (sf H) (mU b n) /\ (∀ i, i < mU b n -> 0 <= nth G (0 : Int) i /\ nth G (0 : Int) i <= 10000000) /\ (0 <= t /\ t <= 10000000) := by
 have ct := xLI h;have h1 := h.d; have h2 := h.e; have h3 := h.y; have h4 := h.t;unfold csOk at hc;rw [Bool.and_eq_true, Bool.and_eq_true] at hc;obtain ⟨⟨c1, c2⟩, c3⟩ := hc;unfold xC1 at c1;simp only [Bool.and_eq_true, decide_eq_true_eq] at c1;have hG : ∀ i, i < mU b n -> 0 <= nth G (0 : Int) i /\ nth G (0 : Int) i <= 10000000 := fun i hi => by
  have := xUG c2 (show i < G.length by omega);omega
 have hH : ∀ i, i < mU b n -> b.2.2.2.1 <= nth H (0 : Int) i /\ nth H (0 : Int) i <= b.2.2.2.2 := fun i hi => xUG c3 (show i < H.length by omega);have hD := xPY (m := mU b n) (G := G) (show 0 <= t /\ t <= 10000000 by omega) hG;refine ⟨⟨fun i hi => ?_, fun i hi => ?_, ct.hp, fun i hi => ?_, ct.hst, ct.hn, ct.hm, ct.hpl, ct.hz⟩, hG, by omega⟩
 ·have := hD i hi; omega
 ·have := hH i hi;show 0 <= nth H (0 : Int) i /\ nth H (0 : Int) i <= 10000000;omega
 ·have := hD i (by omega);have := hH i hi;show dl t G i + nth H (0 : Int) i < b.1;omega
theorem xQR (F : Nat) {w : WrT} {b : WbT} {n : Int} (h0 : ckI w b n = 0) (t : Int) (G H : List Int) (hG : G.length = mU b n) (hH : H.length = mU b n) : xDG F w b n t G H =
  ob (ob (xAH F t w.1.1 w.1.2) (fun r3 => (bif (!r3) then (some (true, (G, H, t, ((0 : Int), (0 : Int)), (w, (b, n))))) else (ob (xEh F G w.2.1) (fun r4 => (bif r4.1 then (some (true, (G, H, t, ((0 : Int), (0 : Int)), (w, (b, n))))) else (ob (xEh F H b.2.2.2) (fun r5 => (some (r5.1, (G, H, t, ((0 : Int), (0 : Int)), (w, (b, n))))))))))))) (fun s2 => (bif s2.1 then (some ((((0 : Int), (0 : Int)), (0 : Int), (30 : Int)), ([], []))) else (ob (xI3 F s2.2.2.2.2.2 s2.2.2.2.1 s2.2.2.2.1 s2.2.1 s2.2.2.1) (fun r6 => (some (((r6.1.1.1, r6.1.1.2), r6.1.2.2, (0 : Int)), (r6.2.2.1, r6.2.2.2))))))) := by
 unfold xDG;rw [check_eq, h0];change ob (ob (xCO F (w, (b, n))) _) _ = _;rw [us_nat F (vld_of h0)];change ob (bif ((G.length : Int) - 0 != (mU b n : Int)) then some (true, _) else ob (some (mU b n : Int)) _) _ = _;rw [show ((G.length : Int) - 0 != (mU b n : Int)) = false by rw [hG, Int.sub_zero, bne_self_eq_false]];change ob (some (((H.length : Int) - 0 != (mU b n : Int)), _)) _ = _;rw [show ((H.length : Int) - 0 != (mU b n : Int)) = false by rw [hH, Int.sub_zero, bne_self_eq_false]];rfl
theorem xNZ (F : Nat) (hF : 2000 < F) {w : WrT} {b : WbT} {n : Int} (h0 : ckI w b n = 0) (t : Int) (G H : List Int) (hG : G.length = mU b n) (hH : H.length = mU b n) (hc : csOk w b t G H = true) : xDG F w b n t G H =
  some (((mn n b.2.2.1, rsG b n (dl t G) (sf H) (mU b n) (mU b n)), (dl t G (mU b n), 0)), (sgs b (dl t G) (sf H) (mU b n) (mU b n), kgs b n (dl t G) (sf H) (mU b n) (mU b n))) := by
 have hv := vld_of h0;have hm := (xLI hv).hm;obtain ⟨g1, g2, g3⟩ := cg_of hv hc hG hH;obtain ⟨x', hx⟩ := cutB_eq F g1 g2 hG hH hF w (us_nat F hv);rw [xQR F h0 t G H hG hH, xEI, xP6 F hF G w.2.1 (by omega), xP6 F hF H b.2.2.2 (by omega)];unfold csOk at hc;rw [Bool.and_eq_true, Bool.and_eq_true] at hc;rw [hc.1.1, hc.1.2, hc.2];change ob (xI3 F (w, (b, n)) t t G H) _ = _;rw [hx]
theorem xFo (f g : Nat -> Int) : ∀ (q : Nat), (∀ i, i < q -> f i = g i) -> sm f q = sm g q
 | 0, _ => rfl
 | q + 1, h => by
  show sm f q + f q = sm g q + g q;rw [xFo f g q fun i hi => h i (by omega), h q (by omega)]
theorem xQX {b : WbT} {n : Int} {D S : Nat -> Int} {m : Nat} (h : Cg b n D S m) : mn n b.2.2.1 + rsG b n D S m m + sm (slg b D S) (m - 1) + sm (kg b n D S m) m = n := by
 have h1 := h.hst; have h2 := h.hn;unfold rsG;rw [if_pos rfl];by_cases hm : m = 0
 ·subst hm;have := h.hz rfl;rw [if_pos rfl];show mn n b.2.2.1 + 0 + 0 + 0 = n;unfold mn;split <;> omega
 ·rw [if_neg hm];obtain ⟨q, rfl⟩ : ∃ q, m = q + 1 := ⟨m - 1, by omega⟩;have h3 := h.hpl 0 (by omega);have h4 : plc b 0 = b.2.2.1 := by unfold plc; simp
  have key : ∀ i, i <= q -> sm (slg b D S) i + sm (kg b n D S (q + 1)) i = (i : Int) * b.1 := fun i => by
   induction i with
   | zero => intro _; simp [sm]
   | succ i ih =>
    intro hi;have := ih (by omega);have e : ((i + 1 : Nat) : Int) * b.1 = (i : Int) * b.1 + b.1 := by rw [Int.natCast_add, Int.add_mul]; omega
    rw [e];have e2 : slg b D S i + kg b n D S (q + 1) i = b.1 := by unfold slg kg; rw [if_neg (by omega)]; omega
    show sm (slg b D S) i + slg b D S i + (sm (kg b n D S (q + 1)) i + kg b n D S (q + 1) i) = _;omega
  have k := key q (Nat.le_refl _);rw [Nat.add_sub_cancel];show mn n b.2.2.1 + (n - plc b q - kg b n D S (q + 1) q) + sm (slg b D S) q + (sm (kg b n D S (q + 1)) q + kg b n D S (q + 1) q) = n;have e3 : plc b q = b.2.2.1 + (q : Int) * b.1 := rfl;have e4 : mn n b.2.2.1 = b.2.2.1 := by unfold mn; rw [if_neg (by omega)]
  omega
end S8
end Go.Proofs.YthmicafabimfkaaGreatDoor


namespace Go.Proofs.YthmicafabimfkaaGreatDoor
namespace S8
open Go.RowKit
set_option maxRecDepth 100000
theorem xKP (F : Nat) (T : List Int) (hT : ∀ x ∈ T, 0 <= x /\ x <= 255) {i : Int} (hi : 0 <= i) : ∃ p, xBR F i T = some p /\ 0 <= p /\ p <= 255 := by
 unfold xBR;rw [xLp];unfold xKR
 cases T with
 | nil => exact ⟨0, rfl, by omega⟩
 | cons x T =>
  have h0 : ((((x :: T).length : Int) - 0) == (0 : Int)) = false := beq_eq_false_iff_ne.2 (by simp only [List.length_cons]; omega);have h1 : 0 <= Int.tmod i (((x :: T).length : Int) - 0) := Int.tmod_nonneg _ hi;have h2 : Int.tmod i (((x :: T).length : Int) - 0) < ((x :: T).length : Int) - 0 := Int.tmod_lt_of_pos _ (by simp only [List.length_cons]; omega);have h3 : ((Int.tmod i (((x :: T).length : Int) - 0)).toNat : Int) = Int.tmod i (((x :: T).length : Int) - 0) := Int.toNat_of_nonneg h1;rw [h0];have h4 : inB (Int.tmod i (((x :: T).length : Int) - 0)) ((x :: T).length - 0) = true := by
   rw [<- h3]; exact inB_t (by omega)
  refine ⟨nth (x :: T) (0 : Int) (Int.tmod i (((x :: T).length : Int) - 0)).toNat, ?_, ?_⟩
  ·show (bif inB (Int.tmod i (((x :: T).length : Int) - 0)) ((x :: T).length - 0) then _ else none) = _;rw [h4]; rfl
  ·have hlt : (Int.tmod i (((x :: T).length : Int) - 0)).toNat < (x :: T).length := by omega
   unfold nth;rw [List.getD_eq_getElem?_getD, List.getElem?_eq_getElem hlt];exact hT _ (List.getElem_mem hlt)
theorem at_eq (F : Nat) (r : RgT) (p : Int) (h : 0 <= r.1 /\ r.1 <= r.2 /\ r.2 <= 10000000) (hp : 0 <= p /\ p <= 255) : ∃ v, xDT F r p = some v /\ r.1 <= v /\ v <= r.2 := by
 unfold xDT;rw [xLp];have m1 : 0 <= (r.2 - r.1) * p := Int.mul_nonneg (by omega) hp.1;have m2 : (r.2 - r.1) * p <= (r.2 - r.1) * 255 := Int.mul_le_mul_of_nonneg_left hp.2 (by omega);have d1 : 0 <= (r.2 - r.1) * p / 255 := Int.ediv_nonneg m1 (by omega);have d2 : (r.2 - r.1) * p / 255 <= r.2 - r.1 := by omega
 refine ⟨r.1 + (r.2 - r.1) * p / 255, ?_, by omega, by omega⟩;show some (jI.wrap (r.1 + jI.wrap (Int.tdiv (jI.wrap (jI.wrap (r.2 - r.1) * jI.wrap p)) 255))) = _;rw [w64 (r.2 - r.1) (by omega), w64 p (by omega), w64 ((r.2 - r.1) * p) (by omega), Int.tdiv_eq_ediv_of_nonneg m1, w64 ((r.2 - r.1) * p / 255) (by omega), w64 _ (by omega)]
theorem xUH {l : List Int} {a b x : Int} (h : l.all (fun x => xC1 x a b) = true) (hx : a <= x /\ x <= b) : (l ++ (x :: [])).all (fun x => xC1 x a b) = true := by
 rw [List.all_append, h];simp only [List.all_cons, List.all_nil, Bool.true_and, Bool.and_true];unfold xC1;rw [xAI hx.1, xAI hx.2]; rfl
theorem xTp (F : Nat) {w : WrT} {b : WbT} {n : Int} (hv : Vld w b n) (T : List Int) (hT : ∀ x ∈ T, 0 <= x /\ x <= 255) (t4 : Int × Int) (t : Int) : ∀ (j k i : Nat) (G H : List Int), i + j = mU b n -> j < k ->
  G.length = i -> H.length = i -> G.all (fun x => xC1 x w.2.1.1 w.2.1.2) = true -> H.all (fun x => xC1 x b.2.2.2.1 b.2.2.2.2) = true ->
  ∃ G' H', xA8 F n T (w.1.1, (w.1.2, (w.2.1.1, (w.2.1.2, (w.2.2, b))))) t4 t k i G H = some (n, (T, (w.1.1, (w.1.2, (w.2.1.1, (w.2.1.2, (w.2.2, b))))), t4, t, G', H')) /\ G'.length = mU b n /\ H'.length = mU b n /\ G'.all (fun x => xC1 x w.2.1.1 w.2.1.2) = true /\ H'.all (fun x => xC1 x b.2.2.2.1 b.2.2.2.2) = true
 | j, 0, i, _, _, _, hk, _, _, _, _ => by omega
 | 0, k + 1, i, G, H, hi, _, lG, lH, aG, aH => by
  have u := us_range hv;have hm := xK4 hv;have hp := hv.p; have hs := hv.s; have hg := hv.g; have hn := hv.n;have e : i = mU b n := by omega
  refine ⟨G, H, ?_, by omega, by omega, aG, aH⟩;show (bif decide ((i : Int) < b.2.1) then (bif decide (jI.wrap (b.2.2.1 + jI.wrap ((i : Int) * b.1)) < n) then _ else some (n, (T, _, t4, t, G, H))) else some (n, (T, _, t4, t, G, H))) = _;by_cases h1 : (i : Int) < b.2.1
  ·have h2 : n <= b.2.2.1 + (i : Int) * b.1 := by have := u.2.2.2 (by omega); rw [e, hm]; exact this
   have h3 : (i : Int) * b.1 <= 2000 * 10000000 := Int.mul_le_mul (by omega) hp.2 (by omega) (by omega);have h4 : 0 <= (i : Int) * b.1 := Int.mul_nonneg (by omega) (by omega);rw [xAI h1, w64 ((i : Int) * b.1) (by omega), w64 _ (by omega), xAK (show ¬ b.2.2.1 + (i : Int) * b.1 < n by omega)]; rfl
  ·rw [xAK h1]; rfl
 | j + 1, k + 1, i, G, H, hi, hk, lG, lH, aG, aH => by
  have u := us_range hv;have hm := xK4 hv;have hp := hv.p; have hs := hv.s; have hg := hv.g; have hn := hv.n; have hd := hv.d; have he := hv.e; have hy := hv.y;have h2 : b.2.2.1 + (i : Int) * b.1 < n := u.2.2.1 i (by omega) (by omega);have h3 : (i : Int) * b.1 <= 2000 * 10000000 := Int.mul_le_mul (by omega) hp.2 (by omega) (by omega);have h4 : 0 <= (i : Int) * b.1 := Int.mul_nonneg (by omega) (by omega);have e1 : jI.wrap ((i : Int) + 1) = ((i + 1 : Nat) : Int) := by rw [w64 _ (by omega)]; omega
  obtain ⟨p, q1, q2⟩ := xKP F T hT (i := 2 * (i : Int) + 1) (by omega);obtain ⟨p', q1', q2'⟩ := xKP F T hT (i := 2 * (i : Int) + 2) (by omega);obtain ⟨x, x1, x2⟩ := at_eq F w.2.1 p (by omega) q2;obtain ⟨y, y1, y2⟩ := at_eq F b.2.2.2 p' (by omega) q2';obtain ⟨G', H', r1, r2⟩ := xTp F hv T hT t4 t j k (i + 1) (G ++ (x :: [])) (H ++ (y :: [])) (by omega) (by omega) (by simp [lG]) (by simp [lH]) (xUH aG x2) (xUH aH y2);refine ⟨G', H', ?_, r2⟩;show (bif decide ((i : Int) < b.2.1) then (bif decide (jI.wrap (b.2.2.1 + jI.wrap ((i : Int) * b.1)) < n) then ob (xBR F (jI.wrap (jI.wrap (2 * (i : Int)) + 1)) T) (fun r3 => ob (xDT F w.2.1 r3) (fun r4 => bif xAN (G.length - 0) (r4 :: []).length then ob (xBR F (jI.wrap (jI.wrap (2 * (i : Int)) + 2)) T) (fun r5 => ob (xDT F b.2.2.2 r5) (fun r6 => bif xAN (H.length - 0) (r6 :: []).length then xA8 F n T (w.1.1, (w.1.2, (w.2.1.1, (w.2.1.2, (w.2.2, b))))) t4 t k (jI.wrap ((i : Int) + 1)) (G ++ (r4 :: [])) (H ++ (r6 :: [])) else none)) else none)) else _) else _) = _;rw [xAI (show (i : Int) < b.2.1 by omega), w64 ((i : Int) * b.1) (by omega), w64 (b.2.2.1 + _) (by omega), xAI h2, w64 (2 * (i : Int)) (by omega), w64 (2 * (i : Int) + 1) (by omega), w64 (2 * (i : Int) + 2) (by omega), q1];show ob (xDT F w.2.1 p) _ = _;rw [x1];show (bif xAN (G.length - 0) (x :: []).length then _ else none) = _;rw [xCm (show G.length - 0 + (x :: []).length <= 1000000 by simp; omega)];show ob (xBR F _ T) _ = _;rw [q1'];show ob (xDT F b.2.2.2 p') _ = _;rw [y1];show (bif xAN (H.length - 0) (y :: []).length then _ else none) = _;rw [xCm (show H.length - 0 + (y :: []).length <= 1000000 by simp; omega), e1];exact r1
theorem xNs (F : Nat) (f : Nat -> Int) (q : Nat) (hq : q <= 2000) (h : ∀ i, i < q -> 0 <= f i /\ f i <= 600000000) : ∀ (j k i : Nat), i + j = q -> j < k ->
  xBO F ((List.range q).map f) k (sm f i) i = some (sm f q, (List.range q).map f)
 | j, 0, i, _, hk => by omega
 | 0, k + 1, i, hi, _ => by
  have e : i = q := by omega
  subst e;show (bif decide ((i : Int) < ((((List.range i).map f).length - 0 : Nat) : Int)) then _ else _) = _;rw [xA7, xAK (by omega)]; rfl
 | j + 1, k + 1, i, hi, hk => by
  have h1 := xKB f 600000000 i fun x hx => h x (by omega);have h2 := h i (by omega);have h3 : (i : Int) * 600000000 <= 2000 * 600000000 := by omega
  have e1 : jI.wrap ((i : Int) + 1) = ((i + 1 : Nat) : Int) := by rw [w64 _ (by omega)]; omega
  have e2 : jI.wrap (sm f i + f i) = sm f (i + 1) := by rw [w64 _ (by omega)]; rfl
  show (bif decide ((i : Int) < ((((List.range q).map f).length - 0 : Nat) : Int)) then (bif inB (i : Int) (((List.range q).map f).length - 0) then xBO F ((List.range q).map f) k (jI.wrap (sm f i + nth ((List.range q).map f) (0 : Int) i)) (jI.wrap ((i : Int) + 1)) else none) else _) = _;rw [xIg _ _ _ (show i < q by omega), e1, e2, xA7, xAI (by omega), inB_t (show i < q - 0 by omega)];simp only [cond_true];exact xNs F f q hq h j k (i + 1) (by omega) (by omega)
theorem so_eq (F : Nat) (f : Nat -> Int) (q : Nat) (hq : q <= 2000) (hF : 2000 < F) (h : ∀ i, i < q -> 0 <= f i /\ f i <= 600000000) : xF6 F ((List.range q).map f) = some (sm f q) := by
 unfold xF6;have := xNs F f q hq h q F 0 (by omega) (by omega);change ob (xBO F ((List.range q).map f) F (sm f 0) ((0 : Nat) : Int)) _ = _;rw [this]
theorem followed_bad (F : Nat) (w : WrT) (b : WbT) (n : Int) (T : List Int) (h : (ckI w b n == 0) = false) : xBM F (w, b) n T = some (((0, 0), false), ([], [])) := by
 unfold xBM;rw [check_eq];change (bif (ckI w b n != 0) then _ else _) = _;rw [show (ckI w b n != 0) = true by unfold bne; rw [h]; rfl];rfl
end S8
end Go.Proofs.YthmicafabimfkaaGreatDoor


namespace Go.Proofs.YthmicafabimfkaaGreatDoor
namespace S8
open Go.RowKit
set_option maxRecDepth 100000
theorem xOO (F : Nat) (l : List Int) : ∀ (k : Nat) (v i : Int), xFn F ((l.length - 0 : Nat) : Int) l k v i = xBO F l k v i
 | 0, _, _ => rfl
 | k + 1, v, i => by
  show (bif decide (i < ((l.length - 0 : Nat) : Int)) then (bif inB i (l.length - 0) then xFn F ((l.length - 0 : Nat) : Int) l k (jI.wrap (v + nth l (0 : Int) i.toNat)) (jI.wrap (i + 1)) else none) else some (v, l)) = _;rw [xOO F l k];rfl
theorem sum_eq (F : Nat) (f : Nat -> Int) (q : Nat) (hq : q <= 2000) (hF : 2000 < F) (h : ∀ i, i < q -> 0 <= f i /\ f i <= 600000000) : xJo F ((List.range q).map f) = some (sm f q) := by
 have := xNs F f q hq h q F 0 (by omega) (by omega);unfold xJo;change ob (xFn F (((((List.range q).map f).length - 0 : Nat) : Int)) ((List.range q).map f) F 0 0) _ = _;rw [xOO];change ob (xBO F ((List.range q).map f) F (sm f 0) ((0 : Nat) : Int)) _ = _;rw [this]
theorem xQM {k n : Nat} (h : k <= n) : inC (k : Int) n = true := by
 unfold inC;rw [xAI (by omega), xAI (by omega)]; rfl
/-- The lengths of all parts, from the top on. -/
def ll (T B : Int) (K S : List Int) (i : Nat) : Int := if i = 0 then T else if i = K.length + S.length + 1 then B else if i % 2 = 1 then nth K (0 : Int) (i / 2) else nth S (0 : Int) (i / 2 - 1)
def lp (m i : Nat) : Nat := if i < m then 2 * i + 1 else if m = 0 then 1 else 2 * m
theorem lp_0 (m : Nat) : lp m 0 = 1 := by unfold lp; split <;> (try split) <;> omega
theorem lp_m {m s : Nat} (h : s = m - 1) : lp m m = m + s + 1 := by unfold lp; rw [if_neg (by omega)]; split <;> omega
theorem ll_k (T B : Int) {K S : List Int} {i : Nat} (h : S.length = K.length - 1) (hi : i < K.length) : ll T B K S (2 * i + 1) = nth K (0 : Int) i := by
 unfold ll;rw [if_neg (by omega), if_neg (by omega), if_pos (by omega), show (2 * i + 1) / 2 = i by omega]
theorem ll_s (T B : Int) {K S : List Int} {i : Nat} (h : S.length = K.length - 1) (hi : i + 1 < K.length) : ll T B K S (2 * i + 2) = nth S (0 : Int) i := by
 unfold ll;rw [if_neg (by omega), if_neg (by omega), if_neg (by omega), show (2 * i + 2) / 2 - 1 = i by omega]
theorem xU8 (l : List Int) (i : Nat) (h : i < l.length) : List.take 1 (List.drop i l) = [nth l (0 : Int) i] := by
 rw [xLD l i h]; rfl
theorem xLa (F : Nat) (T B : Int) (K S : List Int) (p : Int × Int) (h : S.length = K.length - 1) (hK : K.length <= 2000) : ∀ (j k i : Nat), i + j = K.length -> j < k ->
  xBt F ((K.length - 0 : Nat) : Int) S K p k i ((List.range (lp K.length i)).map (ll T B K S)) = some (S, K, p, (List.range (lp K.length K.length)).map (ll T B K S))
 | j, 0, i, _, hk => by omega
 | 0, k + 1, i, hi, _ => by
  have e : i = K.length := by omega
  subst e;show (bif decide (((K.length : Nat) : Int) < ((K.length - 0 : Nat) : Int)) then _ else _) = _;rw [xAK (by omega)]; rfl
 | j + 1, k + 1, i, hi, hk => by
  have e1 : jI.wrap ((i : Int) + 1) = ((i + 1 : Nat) : Int) := by rw [w64 _ (by omega)]; omega
  have hl : lp K.length i = 2 * i + 1 := by unfold lp; rw [if_pos (by omega)]
  have e2 : (if ((S.length - 0 : Nat) : Int) < (i : Int) then ((S.length - 0 : Nat) : Int) else (i : Int)) = (i : Int) := by rw [if_neg (by omega)]
  show (bif decide ((i : Int) < ((K.length - 0 : Nat) : Int)) then (bif inB (i : Int) (K.length - 0) then (bif xAN (((List.range (lp K.length i)).map (ll T B K S)).length - 0) [nth K (0 : Int) i].length then
   (bif (inC (if ((S.length - 0 : Nat) : Int) < (jI.wrap ((i : Int) + 1)) then ((S.length - 0 : Nat) : Int) else (jI.wrap ((i : Int) + 1))) (S.length - 0)) then
   (bif (inC (if ((S.length - 0 : Nat) : Int) < (i : Int) then ((S.length - 0 : Nat) : Int) else (i : Int)) (if ((S.length - 0 : Nat) : Int) < (jI.wrap ((i : Int) + 1)) then ((S.length - 0 : Nat) : Int) else (jI.wrap ((i : Int) + 1))).toNat) then
   (bif xAN ((((List.range (lp K.length i)).map (ll T B K S)) ++ [nth K (0 : Int) i]).length - 0) (List.take ((if ((S.length - 0 : Nat) : Int) < (jI.wrap ((i : Int) + 1)) then ((S.length - 0 : Nat) : Int) else (jI.wrap ((i : Int) + 1))).toNat - (if ((S.length - 0 : Nat) : Int) < (i : Int) then ((S.length - 0 : Nat) : Int) else (i : Int)).toNat) (List.drop (if ((S.length - 0 : Nat) : Int) < (i : Int) then ((S.length - 0 : Nat) : Int) else (i : Int)).toNat S)).length then
   xBt F ((K.length - 0 : Nat) : Int) S K p k (jI.wrap ((i : Int) + 1)) ((((List.range (lp K.length i)).map (ll T B K S)) ++ [nth K (0 : Int) i]) ++ (List.take ((if ((S.length - 0 : Nat) : Int) < (jI.wrap ((i : Int) + 1)) then ((S.length - 0 : Nat) : Int) else (jI.wrap ((i : Int) + 1))).toNat - (if ((S.length - 0 : Nat) : Int) < (i : Int) then ((S.length - 0 : Nat) : Int) else (i : Int)).toNat) (List.drop (if ((S.length - 0 : Nat) : Int) < (i : Int) then ((S.length - 0 : Nat) : Int) else (i : Int)).toNat S))) else none) else none) else none) else none) else none) else _) = _
  rw [e1, e2, xAI (by omega), inB_t (show i < K.length - 0 by omega), xA7, hl, xCm (show 2 * i + 1 - 0 + [nth K (0 : Int) i].length <= 1000000 by simp; omega)];simp only [cond_true];by_cases hm : i + 1 < K.length
  ·rw [if_neg (show ¬ ((S.length - 0 : Nat) : Int) < ((i + 1 : Nat) : Int) by omega), xQM (show i + 1 <= S.length - 0 by omega), Int.toNat_natCast, Int.toNat_natCast, xQM (show i <= i + 1 by omega), show i + 1 - i = 1 by omega, xU8 S i (by omega), List.length_append, xA7, xCm (by simp; omega)];simp only [cond_true];rw [<- ll_k T B h (show i < K.length by omega), <- ll_s T B h hm, <- xAG, <- xAG];have hl2 : 2 * i + 1 + 1 + 1 = lp K.length (i + 1) := by unfold lp; rw [if_pos hm]; omega
   rw [hl2];exact xLa F T B K S p h hK j k (i + 1) (by omega) (by omega)
  ·rw [if_pos (show ((S.length - 0 : Nat) : Int) < ((i + 1 : Nat) : Int) by omega), xQM (show S.length - 0 <= S.length - 0 by omega), Int.toNat_natCast, Int.toNat_natCast, xQM (show i <= S.length - 0 by omega), show S.length - 0 - i = 0 by omega, List.take_zero, List.length_append, xA7, xCm (by simp; omega)];simp only [cond_true];rw [<- ll_k T B h (show i < K.length by omega), <- xAG, List.append_nil];have hl2 : 2 * i + 1 + 1 = lp K.length (i + 1) := by unfold lp; rw [if_neg hm, if_neg (by omega)]; omega
   rw [hl2];exact xLa F T B K S p h hK j k (i + 1) (by omega) (by omega)
theorem xJS (F : Nat) (hF : 2000 < F) (T B : Int) (K S : List Int) (h : S.length = K.length - 1) (hK : K.length <= 2000) : xCi F (T, B) S K = some ((List.range (K.length + S.length + 2)).map (ll T B K S)) := by
 have h0 : ((List.range (lp K.length 0)).map (ll T B K S)) = T :: [] := by rw [lp_0]; rfl
 unfold xCi;change ob (xBt F ((K.length - 0 : Nat) : Int) S K (T, B) F ((0 : Nat) : Int) (T :: [])) _ = _;rw [<- h0, xLa F T B K S (T, B) h hK K.length F 0 (by omega) (by omega), lp_m h];change (bif xAN (((List.range (K.length + S.length + 1)).map (ll T B K S)).length - 0) [B].length then some (((List.range (K.length + S.length + 1)).map (ll T B K S)) ++ [B]) else none) = _;rw [xA7, xCm (by simp; omega)];have e : ll T B K S (K.length + S.length + 1) = B := by unfold ll; rw [if_neg (by omega), if_pos rfl]
 rw [xAG (ll T B K S) (K.length + S.length + 1), e];rfl
/-- The shares. -/
def dv (n W : Int) (f : Nat -> Int) (i : Nat) : Int := n * sm f i / W
def sh (n W : Int) (f : Nat -> Int) (i : Nat) : Int := dv n W f (i + 1) - dv n W f i
theorem xC5 (f : Nat -> Int) (q : Nat) (h : ∀ i, i < q -> 0 <= f i) : ∀ (j i : Nat), i + j = q -> sm f i <= sm f q
 | 0, i, hi => by rw [show i = q by omega]; exact Int.le_refl _
 | j + 1, i, hi => by
  have h1 := xC5 f q h j (i + 1) (by omega);have h2 := h i (by omega);have : sm f (i + 1) = sm f i + f i := rfl;omega
theorem xJM (F : Nat) (hF : 2000 < F) (n a W : Int) (hn : 0 <= n /\ n <= 1000000000000000) (ha : 0 <= a /\ a <= W) (hW : 1 <= W /\ W <= 600000000) : ∃ r, xBF F n a W 1 = some (n * a / W, (r, 0)) /\ 0 <= n * a / W /\ n * a / W <= n := by
 obtain ⟨n', rfl⟩ := Int.eq_ofNat_of_zero_le hn.1;obtain ⟨a', rfl⟩ := Int.eq_ofNat_of_zero_le ha.1;obtain ⟨W', rfl⟩ := Int.eq_ofNat_of_zero_le (show 0 <= W by omega);have hq : n' * a' / W' <= n' := by
  apply Nat.div_le_of_le_mul;rw [Nat.mul_comm W'];exact Nat.mul_le_mul_left n' (by omega)
 have e : (n' : Int) * (a' : Int) / (W' : Int) = ((n' * a' / W' : Nat) : Int) := by rw [<- Int.natCast_mul, Int.natCast_ediv]
 rw [e];obtain ⟨z, hz⟩ := U8.md1 F hF n' a' W' (by omega) (by omega) (by omega);rw [if_pos (Nat.le_trans hq (by omega))] at hz;exact ⟨z, hz, Int.natCast_nonneg _, Int.ofNat_le.2 hq⟩
theorem xP1 (F : Nat) (hF : 2000 < F) (n W : Int) (f : Nat -> Int) (q : Nat) (hq : q <= 2000) (hn : 0 <= n /\ n <= 1000000000000000) (hW : 1 <= W /\ W <= 600000000) (hWs : W = sm f q) (hf : ∀ i, i < q -> 0 <= f i /\ f i <= 600000000) (S K : List Int) : ∀ (j k i : Nat), i + j = q -> j < k ->
  xBC F n W ((((List.range q).map f).length - 0 : Nat) : Int) S K ((List.range q).map f) k (sm f i) (dv n W f i) i ((List.range i).map (sh n W f)) = some (S, K, (List.range q).map (sh n W f))
 | j, 0, i, _, hk => by omega
 | 0, k + 1, i, hi, _ => by
  have e : i = q := by omega
  subst e;show (bif decide (((i : Nat) : Int) < ((((List.range i).map f).length - 0 : Nat) : Int)) then _ else _) = _;rw [xA7, xAK (by omega)]; rfl
 | j + 1, k + 1, i, hi, hk => by
  have e1 : jI.wrap ((i : Int) + 1) = ((i + 1 : Nat) : Int) := by rw [w64 _ (by omega)]; omega
  have r0 := xKB f 600000000 i fun x hx => hf x (by omega);have h2 := hf i (by omega);have r1 := xC5 f q (fun x hx => (hf x hx).1) j (i + 1) (by omega);have r2 := xC5 f q (fun x hx => (hf x hx).1) (j + 1) i (by omega);have es : sm f (i + 1) = sm f i + f i := rfl;have e2 : jI.wrap (sm f i + f i) = sm f (i + 1) := by rw [w64 _ (by omega), es]
  obtain ⟨r, m1, m2, m3⟩ := xJM F hF n (sm f (i + 1)) W hn (by omega) hW;obtain ⟨_, _, m4, m5⟩ := xJM F hF n (sm f i) W hn (by omega) hW;have e3 : jI.wrap (n * sm f (i + 1) / W - dv n W f i) = sh n W f i := by
   rw [w64 _ (by unfold dv; omega)]; rfl
  show (bif decide ((i : Int) < ((((List.range q).map f).length - 0 : Nat) : Int)) then (bif inB (i : Int) (((List.range q).map f).length - 0) then ob (xBF F n (jI.wrap (sm f i + nth ((List.range q).map f) (0 : Int) i)) W 1) (fun r4 => bif xAN (((List.range i).map (sh n W f)).length - 0) [jI.wrap (r4.1 - dv n W f i)].length then
   xBC F n W ((((List.range q).map f).length - 0 : Nat) : Int) S K ((List.range q).map f) k (jI.wrap (sm f i + nth ((List.range q).map f) (0 : Int) i)) r4.1 (jI.wrap ((i : Int) + 1)) (((List.range i).map (sh n W f)) ++ [jI.wrap (r4.1 - dv n W f i)]) else none) else none) else _) = _
  rw [xIg _ _ _ (show i < q by omega), e1, e2, m1, xAI (by rw [xA7]; omega), inB_t (by rw [xA7]; omega)];show (bif xAN (((List.range i).map (sh n W f)).length - 0) [jI.wrap (n * sm f (i + 1) / W - dv n W f i)].length then
   xBC F n W ((((List.range q).map f).length - 0 : Nat) : Int) S K ((List.range q).map f) k (sm f (i + 1)) (n * sm f (i + 1) / W) ((i + 1 : Nat) : Int) (((List.range i).map (sh n W f)) ++ [jI.wrap (n * sm f (i + 1) / W - dv n W f i)]) else none) = _
  rw [e3, xA7, xCm (show i - 0 + [sh n W f i].length <= 1000000 by simp; omega), <- xAG];exact xP1 F hF n W f q hq hn hW hWs hf S K j k (i + 1) (by omega) (by omega)
def od (n W : Int) (f : Nat -> Int) (j : Nat) : Int := sh n W f (2 * j + 1)
def ev (n W : Int) (f : Nat -> Int) (j : Nat) : Int := sh n W f (2 * j + 2)
theorem xIZ (F : Nat) (n W : Int) (f : Nat -> Int) (q : Nat) (hq : q + 2 <= 2000) (a b : Int) (S K : List Int) : ∀ (j k i : Nat), i + j = q -> j < k ->
  xBi F a b (1, q) (q : Int) S K ((List.range (q + 2)).map (sh n W f)) k i ((List.range ((i + 1) / 2)).map (od n W f)) ((List.range (i / 2)).map (ev n W f)) = some ((a, b), (S, (K, ((List.range ((q + 1) / 2)).map (od n W f), (List.range (q / 2)).map (ev n W f)))))
 | j, 0, i, _, hk => by omega
 | 0, k + 1, i, hi, _ => by
  have e : i = q := by omega
  subst e;show (bif decide (((i : Nat) : Int) < (i : Int)) then _ else _) = _;rw [xAK (by omega)]; rfl
 | j + 1, k + 1, i, hi, hk => by
  have e1 : jI.wrap ((i : Int) + 1) = ((i + 1 : Nat) : Int) := by rw [w64 _ (by omega)]; omega
  have e4 : nth ((List.range (q + 2)).map (sh n W f)) (0 : Int) (addN 1 i) = sh n W f (i + 1) := by rw [xBd, xIg _ _ _ (by omega), Nat.add_comm]
  show (bif decide ((i : Int) < (q : Int)) then (bif inB (i : Int) q then (bif (Int.tmod (i : Int) (2 : Int)) == (0 : Int) then
   (bif xAN (((List.range ((i + 1) / 2)).map (od n W f)).length - 0) [nth ((List.range (q + 2)).map (sh n W f)) (0 : Int) (addN 1 i)].length then xBi F a b (1, q) (q : Int) S K ((List.range (q + 2)).map (sh n W f)) k (jI.wrap ((i : Int) + 1)) (((List.range ((i + 1) / 2)).map (od n W f)) ++ [nth ((List.range (q + 2)).map (sh n W f)) (0 : Int) (addN 1 i)]) ((List.range (i / 2)).map (ev n W f)) else none)
   else (bif xAN (((List.range (i / 2)).map (ev n W f)).length - 0) [nth ((List.range (q + 2)).map (sh n W f)) (0 : Int) (addN 1 i)].length then xBi F a b (1, q) (q : Int) S K ((List.range (q + 2)).map (sh n W f)) k (jI.wrap ((i : Int) + 1)) ((List.range ((i + 1) / 2)).map (od n W f)) (((List.range (i / 2)).map (ev n W f)) ++ [nth ((List.range (q + 2)).map (sh n W f)) (0 : Int) (addN 1 i)]) else none)) else none) else _) = _
  rw [e4, e1, xAI (by omega), inB_t (show i < q by omega), show Int.tmod (i : Int) (2 : Int) = ((i % 2 : Nat) : Int) from rfl];simp only [cond_true];by_cases h2 : i % 2 = 0
  ·rw [h2, show (((0 : Nat) : Int) == 0) = true from rfl, xA7, xCm (show (i + 1) / 2 - 0 + [sh n W f (i + 1)].length <= 1000000 by simp; omega)];simp only [cond_true];have e5 : sh n W f (i + 1) = od n W f ((i + 1) / 2) := by unfold od; rw [show 2 * ((i + 1) / 2) + 1 = i + 1 by omega]
   rw [e5, <- xAG, show (i + 1) / 2 + 1 = (i + 1 + 1) / 2 by omega, show (List.range (i / 2)) = List.range ((i + 1) / 2) by rw [show i / 2 = (i + 1) / 2 by omega]];exact xIZ F n W f q hq a b S K j k (i + 1) (by omega) (by omega)
  ·rw [show i % 2 = 1 by omega, show (((1 : Nat) : Int) == 0) = false from rfl, xA7, xA7, xCm (show i / 2 - 0 + [sh n W f (i + 1)].length <= 1000000 by simp; omega)];simp only [cond_true, cond_false];have e5 : sh n W f (i + 1) = ev n W f (i / 2) := by unfold ev; rw [show 2 * (i / 2) + 2 = i + 1 by omega]
   rw [e5, <- xAG, show i / 2 + 1 = (i + 1) / 2 by omega, show (List.range ((i + 1) / 2)).map (od n W f) = (List.range ((i + 1 + 1) / 2)).map (od n W f) by rw [show (i + 1) / 2 = (i + 1 + 1) / 2 by omega]];exact xIZ F n W f q hq a b S K j k (i + 1) (by omega) (by omega)
theorem xPn (F : Nat) (l : List Int) (hq : l.length <= 5000) : ∀ (j k i : Nat), i + j = l.length -> j < k ->
  (∃ x : Int, 0 <= x /\ xBf F ((l.length - 0 : Nat) : Int) l k i = some (.inl (x, l)) /\ (l.drop i).all (fun x => xC1 x 0 600000000) = false) \/ (xBf F ((l.length - 0 : Nat) : Int) l k i = some (.inr l) /\ (l.drop i).all (fun x => xC1 x 0 600000000) = true)
 | j, 0, i, _, hk => by omega
 | 0, k + 1, i, hi, _ => by
  refine .inr ⟨?_, ?_⟩
  ·show (bif decide ((i : Int) < ((l.length - 0 : Nat) : Int)) then _ else _) = _;rw [xAK (by omega)]; rfl
  ·rw [List.drop_eq_nil_of_le (by omega)]; rfl
 | j + 1, k + 1, i, hi, hk => by
  have e1 : jI.wrap ((i : Int) + 1) = ((i + 1 : Nat) : Int) := by rw [w64 _ (by omega)]; omega
  have key : xBf F ((l.length - 0 : Nat) : Int) l (k + 1) i = (bif (!xC1 (nth l (0 : Int) i) 0 600000000) then some (.inl ((i : Int), l)) else xBf F ((l.length - 0 : Nat) : Int) l k ((i + 1 : Nat) : Int)) := by
   show (bif decide ((i : Int) < ((l.length - 0 : Nat) : Int)) then (bif inB (i : Int) (l.length - 0) then ob (xAH F (nth l (0 : Int) i) 0 600000000) (fun r' => bif (!r') then some (.inl ((i : Int), l)) else xBf F ((l.length - 0 : Nat) : Int) l k (jI.wrap ((i : Int) + 1))) else none) else _) = _;rw [xEI, e1, xAI (by omega), inB_t (show i < l.length - 0 by omega)];rfl
  rw [key, xLD l i (by omega), List.all_cons]
  cases h : xC1 (nth l (0 : Int) i) 0 600000000 with
  | false => exact .inl ⟨i, by omega, rfl, rfl⟩
  | true =>
   rw [Bool.true_and];exact xPn F l hq j k (i + 1) (by omega) (by omega)
theorem xWr (F : Nat) (hF : 2000 < F) (l : List Int) (hq : l.length <= 2000) : xGD F l = some (!l.all (fun x => xC1 x 0 600000000)) := by
 unfold xGD xHA;change ob (ob (xBf F ((l.length - 0 : Nat) : Int) l F ((0 : Nat) : Int)) _) _ = _;rcases xPn F l (by omega) l.length F 0 (by omega) (by omega) with ⟨x, h0, h1, h2⟩ | ⟨h1, h2⟩
 ·rw [h1];rw [List.drop_zero] at h2;rw [h2];show some (decide (x >= 0)) = _;rw [xAI h0]; rfl
 ·rw [h1];rw [List.drop_zero] at h2;rw [h2];rfl
theorem all_rg (f : Nat -> Int) (q : Nat) : (((List.range q).map f).all (fun x => xC1 x 0 600000000) = true) ↔ ∀ i, i < q -> 0 <= f i /\ f i <= 600000000 := by
 rw [List.all_eq_true];constructor
 ·intro h i hi;have := h (f i) (List.mem_map.2 ⟨i, List.mem_range.2 hi, rfl⟩);unfold xC1 at this;simp only [Bool.and_eq_true, decide_eq_true_eq] at this;exact this
 ·intro h x hx;obtain ⟨i, hi, rfl⟩ := List.mem_map.1 hx;have := h i (List.mem_range.1 hi);unfold xC1;simp only [Bool.and_eq_true, decide_eq_true_eq];exact this
/-- Parts that are valid. -/
structure Pv (T B : Int) (K S : List Int) : Prop where
 h : S.length = K.length - 1
 k : K.length <= 900
 z : K.length = 0 -> B = 0
 r : ∀ i, i < K.length + S.length + 2 -> 0 <= ll T B K S i /\ ll T B K S i <= 600000000
 w : 1 <= sm (ll T B K S) (K.length + S.length + 2) /\ sm (ll T B K S) (K.length + S.length + 2) <= 600000000
theorem xOo (F : Nat) (hF : 2000 < F) {T B : Int} {K S : List Int} (p : Pv T B K S) : xCA F (T, B) S K = some true := by
 have h1 := p.h; have h2 := p.k; have h3 := p.w;unfold xCA;have e1 : (if (jI.wrap (((K.length - 0 : Nat) : Int) - (1 : Int))) > (0 : Int) then (jI.wrap (((K.length - 0 : Nat) : Int) - (1 : Int))) else (0 : Int)) = ((K.length - 1 : Nat) : Int) := by
  rw [w64 _ (by omega)];split <;> omega
 have e2 : (((S.length - 0 : Nat) : Int) != ((K.length - 1 : Nat) : Int)) = false := by rw [show S.length - 0 = K.length - 1 by omega, bne_self_eq_false]
 change ob (bif (decide (((K.length - 0 : Nat) : Int) > (2000 : Int))) then _ else (bif (((S.length - 0 : Nat) : Int) != (if (jI.wrap (((K.length - 0 : Nat) : Int) - (1 : Int))) > (0 : Int) then (jI.wrap (((K.length - 0 : Nat) : Int) - (1 : Int))) else (0 : Int))) then _ else (bif (((K.length - 0 : Nat) : Int) == (0 : Int)) then (some ((B != (0 : Int)), (S, (K, (T, B))))) else (some (false, (S, (K, (T, B)))))))) _ = _;rw [e1, e2, xAK (show ¬ ((K.length - 0 : Nat) : Int) > 2000 by omega)];have e3 : (bif (((K.length - 0 : Nat) : Int) == (0 : Int)) then (some ((B != (0 : Int)), (S, (K, (T, B))))) else (some (false, (S, (K, (T, B)))))) = some (false, (S, (K, (T, B)))) := by
  by_cases hz : K.length = 0
  ·rw [p.z hz, bne_self_eq_false];cases (((K.length - 0 : Nat) : Int) == (0 : Int)) <;> rfl
  ·rw [show (((K.length - 0 : Nat) : Int) == (0 : Int)) = false from beq_eq_false_iff_ne.2 (by omega)]; rfl
 change ob (bif (((K.length - 0 : Nat) : Int) == (0 : Int)) then (some ((B != (0 : Int)), (S, (K, (T, B))))) else (some (false, (S, (K, (T, B)))))) _ = _;rw [e3];change ob (xCi F (T, B) S K) _ = _;rw [xJS F hF T B K S h1 (by omega)];change ob (xGD F _) _ = _;rw [xWr F hF _ (by rw [xA7]; omega), (all_rg _ _).2 p.r];change ob (xJo F _) _ = _;rw [sum_eq F _ _ (by omega) hF p.r];change ob (xAH F _ _ _) _ = _;rw [xEI];unfold xC1;rw [xAI h3.1, xAI h3.2];rfl
theorem xTN (F : Nat) (hF : 2000 < F) {T B : Int} {K S : List Int} (p : Pv T B K S) (n : Int) (hn : 0 <= n /\ n <= 1000000000000000) :
  xEE F n (T, B) S K = some ((sh n (sm (ll T B K S) (K.length + S.length + 2)) (ll T B K S) 0, (sh n (sm (ll T B K S) (K.length + S.length + 2)) (ll T B K S) (K.length + S.length + 1), 0)),
   ((List.range K.length).map (od n (sm (ll T B K S) (K.length + S.length + 2)) (ll T B K S)), (List.range S.length).map (ev n (sm (ll T B K S) (K.length + S.length + 2)) (ll T B K S)))) := by
 have h1 := p.h; have h2 := p.k; have h3 := p.w; have h4 := p.r;unfold xEE;rw [xEI];unfold xC1;rw [xAI hn.1, xAI hn.2];change ob (xCA F (T, B) S K) _ = _;rw [xOo F hF p];change ob (xCi F (T, B) S K) _ = _;rw [xJS F hF T B K S h1 (by omega)];change ob (xJo F _) _ = _;rw [sum_eq F _ _ (by omega) hF p.r];generalize hq : K.length + S.length = q at *;generalize hW : sm (ll T B K S) (q + 2) = W at *;change ob (xBC F n W ((((List.range (q + 2)).map (ll T B K S)).length - 0 : Nat) : Int) S K ((List.range (q + 2)).map (ll T B K S)) F (sm (ll T B K S) 0) 0 ((0 : Nat) : Int) ((List.range 0).map (sh n W (ll T B K S)))) _ = _;have d0 : (0 : Int) = dv n W (ll T B K S) 0 := by unfold dv; rw [show sm (ll T B K S) 0 = 0 from rfl, Int.mul_zero, Int.zero_ediv]
 have dl := xP1 F hF n W (ll T B K S) (q + 2) (by omega) hn h3 hW.symm h4 S K (q + 2) F 0 (by omega) (by omega);rw [<- d0] at dl;rw [dl];have e1 : jI.wrap ((((((List.range (q + 2)).map (sh n W (ll T B K S))).length - 0 : Nat) : Int)) - 1) = ((q + 1 : Nat) : Int) := by
  rw [xA7, w64 _ (by omega)]; omega
 change (bif inB ((0 : Nat) : Int) (((List.range (q + 2)).map (sh n W (ll T B K S))).length - 0) then (bif inB (jI.wrap ((((((List.range (q + 2)).map (sh n W (ll T B K S))).length - 0 : Nat) : Int)) - 1)) (((List.range (q + 2)).map (sh n W (ll T B K S))).length - 0) then (bif inC (jI.wrap ((((((List.range (q + 2)).map (sh n W (ll T B K S))).length - 0 : Nat) : Int)) - 1)) (((List.range (q + 2)).map (sh n W (ll T B K S))).length - 0) then (bif inC ((1 : Nat) : Int) (jI.wrap ((((((List.range (q + 2)).map (sh n W (ll T B K S))).length - 0 : Nat) : Int)) - 1)).toNat then
  ob (xBi F (nth ((List.range (q + 2)).map (sh n W (ll T B K S))) (0 : Int) 0) (nth ((List.range (q + 2)).map (sh n W (ll T B K S))) (0 : Int) (jI.wrap ((((((List.range (q + 2)).map (sh n W (ll T B K S))).length - 0 : Nat) : Int)) - 1)).toNat) (1, (jI.wrap ((((((List.range (q + 2)).map (sh n W (ll T B K S))).length - 0 : Nat) : Int)) - 1)).toNat - 1) ((((jI.wrap ((((((List.range (q + 2)).map (sh n W (ll T B K S))).length - 0 : Nat) : Int)) - 1)).toNat - 1 : Nat) : Int)) S K ((List.range (q + 2)).map (sh n W (ll T B K S))) F ((0 : Nat) : Int) [] []) _ else none) else none) else none) else none) = _
 rw [e1, xA7, Int.toNat_natCast, inB_t (show 0 < q + 2 - 0 by omega), inB_t (show q + 1 < q + 2 - 0 by omega), xQM (show q + 1 <= q + 2 - 0 by omega), xQM (show 1 <= q + 1 by omega), show q + 1 - 1 = q by omega, xIg _ _ _ (show 0 < q + 2 by omega), xIg _ _ _ (show q + 1 < q + 2 by omega)];have l1 := xIZ F n W (ll T B K S) q (by omega) (sh n W (ll T B K S) 0) (sh n W (ll T B K S) (q + 1)) S K q F 0 (by omega) (by omega);change ob (xBi F (sh n W (ll T B K S) 0) (sh n W (ll T B K S) (q + 1)) (1, q) (q : Int) S K ((List.range (q + 2)).map (sh n W (ll T B K S))) F ((0 : Nat) : Int) ((List.range ((0 + 1) / 2)).map (od n W (ll T B K S))) ((List.range (0 / 2)).map (ev n W (ll T B K S)))) _ = _;rw [l1, show (q + 1) / 2 = K.length by omega, show q / 2 = S.length by omega]
end S8
end Go.Proofs.YthmicafabimfkaaGreatDoor


namespace Go.Proofs.YthmicafabimfkaaGreatDoor
namespace S8
open Go.RowKit
set_option maxRecDepth 100000
theorem xOQ (f : Nat -> Int) (m : Nat) : ∀ i, i <= m -> sm f (lp m i) = f 0 + sm (fun j => f (2 * j + 1)) i + sm (fun j => f (2 * j + 2)) (if i < m then i else m - 1)
 | 0, _ => by
  rw [lp_0];have : (if 0 < m then 0 else m - 1) = 0 := by split <;> omega
  rw [this];show sm f 0 + f 0 = f 0 + 0 + 0;show 0 + f 0 = f 0 + 0 + 0;omega
 | i + 1, hi => by
  have h1 := xOQ f m i (by omega);have hl : lp m i = 2 * i + 1 := by unfold lp; rw [if_pos (by omega)]
  rw [if_pos (show i < m by omega), hl] at h1;by_cases hm : i + 1 < m
  ·have h2 : lp m (i + 1) = 2 * i + 1 + 1 + 1 := by unfold lp; rw [if_pos hm]; omega
   rw [h2, if_pos hm];show sm f (2 * i + 1) + f (2 * i + 1) + f (2 * i + 2) = f 0 + (sm (fun j => f (2 * j + 1)) i + f (2 * i + 1)) + (sm (fun j => f (2 * j + 2)) i + f (2 * i + 2));omega
  ·have h2 : lp m (i + 1) = 2 * i + 1 + 1 := by unfold lp; rw [if_neg hm, if_neg (by omega)]; omega
   rw [h2, if_neg hm, show m - 1 = i by omega];show sm f (2 * i + 1) + f (2 * i + 1) = f 0 + (sm (fun j => f (2 * j + 1)) i + f (2 * i + 1)) + sm (fun j => f (2 * j + 2)) i;omega
theorem sm_all (f : Nat -> Int) (m s : Nat) (h : s = m - 1) : sm f (m + s + 2) = f 0 + sm (fun j => f (2 * j + 1)) m + sm (fun j => f (2 * j + 2)) s + f (m + s + 1) := by
 have h1 := xOQ f m m (by omega);rw [if_neg (by omega), lp_m h, <- h] at h1;show sm f (m + s + 1) + f (m + s + 1) = _;rw [h1]
theorem ll_sum (T B : Int) (K S : List Int) (h : S.length = K.length - 1) : sm (ll T B K S) (K.length + S.length + 2) = T + sm (fun j => nth K (0 : Int) j) K.length + sm (fun j => nth S (0 : Int) j) S.length + B := by
 rw [sm_all _ K.length S.length h, xFo _ (fun j => nth K (0 : Int) j) K.length fun i hi => ll_k T B h hi, xFo _ (fun j => nth S (0 : Int) j) S.length fun i hi => ll_s T B h (by omega)];have e0 : ll T B K S 0 = T := by unfold ll; rw [if_pos rfl]
 have e1 : ll T B K S (K.length + S.length + 1) = B := by unfold ll; rw [if_neg (by omega), if_pos rfl]
 rw [e0, e1]
theorem xVU {T B : Int} {K S : List Int} (h : S.length = K.length - 1) (hT : 0 <= T /\ T <= 600000000) (hB : 0 <= B /\ B <= 600000000) (hK : ∀ i, i < K.length -> 0 <= nth K (0 : Int) i /\ nth K (0 : Int) i <= 600000000) (hS : ∀ i, i < S.length -> 0 <= nth S (0 : Int) i /\ nth S (0 : Int) i <= 600000000) :
  ∀ i, i < K.length + S.length + 2 -> 0 <= ll T B K S i /\ ll T B K S i <= 600000000 := fun i hi => by
 unfold ll;by_cases h0 : i = 0
 ·rw [if_pos h0]; exact hT
 ·rw [if_neg h0];by_cases h1 : i = K.length + S.length + 1
  ·rw [if_pos h1]; exact hB
  ·rw [if_neg h1];by_cases h2 : i % 2 = 1
   ·rw [if_pos h2]; exact hK _ (by omega)
   ·rw [if_neg h2]; exact hS _ (by omega)
/-- The shares lie within the whole. -/
theorem xVk (n W : Int) (f : Nat -> Int) (q : Nat) (hn : 0 <= n /\ n <= 1000000000000000) (hW : 1 <= W) (hWs : W = sm f q) (hf : ∀ i, i < q -> 0 <= f i) : ∀ i, i < q -> 0 <= sh n W f i /\ sh n W f i <= 1000000000000000 := fun i hi => by
 have r1 := xC5 f q hf (q - (i + 1)) (i + 1) (by omega);have r2 := xC5 f i (fun x hx => hf x (by omega)) i 0 (by omega);have r3 : sm f (i + 1) = sm f i + f i := rfl;have r4 := hf i hi;have z : sm f 0 = 0 := rfl;have a1 : dv n W f i <= dv n W f (i + 1) := Int.ediv_le_ediv (by omega) (Int.mul_le_mul_of_nonneg_left (by omega) hn.1);have a2 : 0 <= dv n W f i := Int.ediv_nonneg (Int.mul_nonneg hn.1 (by omega)) (by omega);have a3 : dv n W f (i + 1) <= n := by
  have : n * sm f (i + 1) / W <= n * W / W := Int.ediv_le_ediv (by omega) (Int.mul_le_mul_of_nonneg_left (by omega) hn.1);rw [Int.mul_ediv_cancel _ (by omega)] at this;exact this
 unfold sh;omega
theorem sh_sum (n W : Int) (f : Nat -> Int) : ∀ q, sm (sh n W f) q = dv n W f q
 | 0 => by
  show (0 : Int) = n * 0 / W;rw [Int.mul_zero, Int.zero_ediv]
 | q + 1 => by
  show sm (sh n W f) q + sh n W f q = _;rw [sh_sum n W f q];unfold sh;omega
theorem dv_all (n W : Int) (f : Nat -> Int) (q : Nat) (hW : 1 <= W) (hWs : W = sm f q) : dv n W f q = n := by
 unfold dv;rw [<- hWs, Int.mul_ediv_cancel _ (by omega)]
end S8
end Go.Proofs.YthmicafabimfkaaGreatDoor


namespace Go.Proofs.YthmicafabimfkaaGreatDoor
namespace S8
open Go.RowKit
set_option maxRecDepth 100000
theorem xO9 (f : Nat -> Int) {q i : Nat} (h : i < q) : nth ((List.range q).map f) (0 : Int) i = f i := by
 simp [nth, h]
theorem xNX (F : Nat) (hF : 2000 < F) {w : WrT} {b : WbT} {n : Int} (h0 : ckI w b n = 0) (hg : mU b n <= 900) (T : List Int) (hT : ∀ x ∈ T, 0 <= x /\ x <= 255) :
  ∃ (top bot : Int) (S K : List Int), xBM F (w, b) n T = some (((top, bot), true), (S, K)) /\ Pv top bot K S /\ K.length = mU b n /\ sm (ll top bot K S) (K.length + S.length + 2) = n := by
 have hv := vld_of h0;have hd := hv.d;obtain ⟨p, q1, q2⟩ := xKP F T hT (i := 0) (by omega);obtain ⟨t, x1, x2⟩ := at_eq F w.1 p (by omega) q2;have hm := (xLI hv).hm;obtain ⟨G, H, r1, lG, lH, aG, aH⟩ := xTp F hv T hT (0, 0) t (mU b n) F 0 [] [] (by omega) (by omega) rfl rfl rfl rfl;have hc : csOk w b t G H = true := by
  unfold csOk;rw [aG, aH];unfold xC1;rw [xAI x2.1, xAI x2.2]; rfl
 obtain ⟨cg, hG, ht⟩ := cg_of hv hc lG lH;have hf := xNZ F hF h0 t G H lG lH hc;have hk : ∀ i, i < mU b n -> 0 <= kg b n (dl t G) (sf H) (mU b n) i /\ kg b n (dl t G) (sf H) (mU b n) i <= 600000000 := fun i hi => by
  have a1 := cg.kgr hi; have a2 := cg.hd i (by omega); have a3 := cg.hs i hi;omega
 have hs : ∀ i, i < mU b n - 1 -> 0 <= slg b (dl t G) (sf H) i /\ slg b (dl t G) (sf H) i <= 600000000 := fun i hi => by
  have a1 := cg.ht i (by omega); have a2 := cg.hd i (by omega); have a3 := cg.hs i (by omega); have a4 := cg.hp;unfold slg;omega
 have es : sgs b (dl t G) (sf H) (mU b n) (mU b n) = (List.range (mU b n - 1)).map (slg b (dl t G) (sf H)) := by unfold sgs; rw [if_neg (by omega)]
 have ek : kgs b n (dl t G) (sf H) (mU b n) (mU b n) = (List.range (mU b n)).map (kg b n (dl t G) (sf H) (mU b n)) := rfl;have hsum := xQX cg;have hn := hv.n;have hst := hv.s;have hT0 : 0 <= mn n b.2.2.1 /\ mn n b.2.2.1 <= 600000000 := by unfold mn; split <;> omega
 have hB0 : 0 <= rsG b n (dl t G) (sf H) (mU b n) (mU b n) /\ rsG b n (dl t G) (sf H) (mU b n) (mU b n) <= 600000000 /\ (mU b n = 0 -> rsG b n (dl t G) (sf H) (mU b n) (mU b n) = 0) := by
  unfold rsG;rw [if_pos rfl];by_cases hz : mU b n = 0
  ·rw [if_pos hz]; omega
  ·rw [if_neg hz];have a1 := cg.kgr (show mU b n - 1 < mU b n by omega);obtain ⟨p1, p2, p3⟩ := cg.plr (i := mU b n - 1) (by omega);omega
 refine ⟨mn n b.2.2.1, rsG b n (dl t G) (sf H) (mU b n) (mU b n), sgs b (dl t G) (sf H) (mU b n) (mU b n), kgs b n (dl t G) (sf H) (mU b n) (mU b n), ?_, ?_⟩
 ·unfold xBM;rw [check_eq, h0];change ob (xBR F 0 T) _ = _;rw [q1];change ob (xDT F w.1 p) _ = _;rw [x1];change ob (xA8 F n T (w.1.1, (w.1.2, (w.2.1.1, (w.2.1.2, (w.2.2, b))))) (0, 0) t F ((0 : Nat) : Int) [] []) _ = _;rw [r1];change ob (xDG F w b n t G H) _ = _;rw [hf]; rfl
 ·rw [es, ek];have l1 : ((List.range (mU b n)).map (kg b n (dl t G) (sf H) (mU b n))).length = mU b n := by simp
  have l2 : ((List.range (mU b n - 1)).map (slg b (dl t G) (sf H))).length = mU b n - 1 := by simp
  have hl := ll_sum (mn n b.2.2.1) (rsG b n (dl t G) (sf H) (mU b n) (mU b n)) ((List.range (mU b n)).map (kg b n (dl t G) (sf H) (mU b n))) ((List.range (mU b n - 1)).map (slg b (dl t G) (sf H))) (by rw [l1, l2]);have c1 : sm (fun j => nth ((List.range (mU b n)).map (kg b n (dl t G) (sf H) (mU b n))) (0 : Int) j) (mU b n) = sm (kg b n (dl t G) (sf H) (mU b n)) (mU b n) := xFo _ _ _ (fun i hi => xO9 _ hi);have c2 : sm (fun j => nth ((List.range (mU b n - 1)).map (slg b (dl t G) (sf H))) (0 : Int) j) (mU b n - 1) = sm (slg b (dl t G) (sf H)) (mU b n - 1) := xFo _ _ _ (fun i hi => xO9 _ hi);rw [l1, l2, c1, c2] at hl;have hw : sm (ll (mn n b.2.2.1) (rsG b n (dl t G) (sf H) (mU b n) (mU b n)) ((List.range (mU b n)).map (kg b n (dl t G) (sf H) (mU b n))) ((List.range (mU b n - 1)).map (slg b (dl t G) (sf H)))) (mU b n + (mU b n - 1) + 2) = n := by rw [hl]; omega
  refine ⟨⟨by rw [l1, l2], by rw [l1]; exact hg, fun h => hB0.2.2 (by rw [l1] at h; exact h), ?_, by rw [l1, l2, hw]; omega⟩, l1, by rw [l1, l2]; exact hw⟩;exact xVU (by rw [l1, l2]) hT0 ⟨hB0.1, hB0.2.1⟩ (fun i hi => by rw [l1] at hi; rw [xO9 _ hi]; exact hk i hi) (fun i hi => by rw [l2] at hi; rw [xO9 _ hi]; exact hs i hi)
end S8
end Go.Proofs.YthmicafabimfkaaGreatDoor


namespace Go.Proofs.YthmicafabimfkaaGreatDoor
namespace S8
open Go.RowKit
set_option maxRecDepth 100000
def lsm : List Int -> Int
 | [] => 0
 | x :: l => x + lsm l
theorem lsm_app : ∀ (l m : List Int), lsm (l ++ m) = lsm l + lsm m
 | [], m => by simp [lsm]
 | x :: l, m => by
  have ih := lsm_app l m;simp only [List.cons_append, lsm, ih];omega
theorem lsm_rg (f : Nat -> Int) : ∀ q, lsm ((List.range q).map f) = sm f q
 | 0 => rfl
 | q + 1 => by
  rw [xAG, lsm_app, lsm_rg f q];simp only [lsm, sm];omega
theorem sm_ge (f : Nat -> Int) : ∀ (q : Nat), (∀ i, i < q -> 0 <= f i) -> 0 <= sm f q /\ ∀ i, i < q -> f i <= sm f q
 | 0, _ => ⟨Int.le_refl _, fun i hi => by omega⟩
 | q + 1, h => by
  obtain ⟨h1, h2⟩ := sm_ge f q (fun i hi => h i (by omega));have h3 := h q (by omega);simp only [sm];refine ⟨by omega, fun i hi => ?_⟩;by_cases e : i = q
  ·subst e; omega
  ·have := h2 i (by omega);omega
theorem fdiv (F : Nat) (hF : 2000 < F) {w : WrT} {b : WbT} {n : Int} (h0 : ckI w b n = 0) (hg : mU b n <= 30) (T : List Int) (hT : ∀ x ∈ T, 0 <= x /\ x <= 255) (so : Int) (hs : 0 <= so /\ so <= 600000000) :
  ∃ (top bot : Int) (S K : List Int), xBM F (w, b) n T = some (((top, bot), true), (S, K)) /\ ∃ (t2 b2 : Int) (K2 S2 : List Int), xEE F so (top, bot) S K = some ((t2, (b2, 0)), (K2, S2)) /\ (0 <= t2 /\ 0 <= b2 /\ (∀ x ∈ K2, 0 <= x) /\ K2.length <= 30) /\ ∃ s, xF6 F S2 = some s /\ t2 + b2 + lsm K2 + s = so := by
 obtain ⟨top, bot, S, K, e1, p, e2, e3⟩ := xNX F hF h0 (by omega) T hT;refine ⟨top, bot, S, K, e1, _, _, _, _, xTN F hF p so ⟨hs.1, by omega⟩, ?_⟩;have h1 := p.h; have h2 := p.k; have h3 := p.w; have h4 := p.r;generalize hW : sm (ll top bot K S) (K.length + S.length + 2) = W at *;have r0 := xVk so W (ll top bot K S) (K.length + S.length + 2) ⟨hs.1, by omega⟩ h3.1 hW.symm (fun i hi => (h4 i hi).1);have r1 : sm (sh so W (ll top bot K S)) (K.length + S.length + 2) = so := by
  rw [sh_sum]; exact dv_all so W (ll top bot K S) _ h3.1 hW.symm
 have r2 := sm_ge (sh so W (ll top bot K S)) (K.length + S.length + 2) (fun i hi => (r0 i hi).1);rw [r1] at r2;have r3 := sm_all (sh so W (ll top bot K S)) K.length S.length h1;rw [r1] at r3;refine ⟨⟨(r0 0 (by omega)).1, (r0 _ (by omega)).1, fun x hx => ?_, by rw [xA7]; omega⟩, sm (ev so W (ll top bot K S)) S.length, so_eq F _ S.length (by omega) hF (fun i hi => ?_), ?_⟩
 ·obtain ⟨j, hj, rfl⟩ := List.mem_map.1 hx;have hj := List.mem_range.1 hj;exact (r0 _ (by omega)).1
 ·have a1 := (r0 (2 * i + 2) (by omega)).1;have a2 := r2.2 (2 * i + 2) (by omega);exact ⟨a1, by show sh _ _ _ _ <= _; omega⟩
 ·rw [lsm_rg];change so = sh so W (ll top bot K S) 0 + sm (od so W (ll top bot K S)) K.length + sm (ev so W (ll top bot K S)) S.length + sh so W (ll top bot K S) (K.length + S.length + 1) at r3;omega
end S8
end Go.Proofs.YthmicafabimfkaaGreatDoor
