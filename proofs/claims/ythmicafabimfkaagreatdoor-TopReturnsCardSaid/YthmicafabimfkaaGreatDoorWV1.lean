/- Plain laws of chapter 3: shares of units, rounded; they grow with the units, and so does what is left. No condition. -/

namespace Go.Proofs.YthmicafabimfkaaGreatDoor
namespace M3
def fl (u a b : Int) : Int := u * a / b
def cl (u a b : Int) : Int := (u * a + (b - 1)) / b
def mi (x u : Int) : Int := if x < u then x else u
section
variable {u v a a' b : Int}
theorem mul_le' (hu : 0 <= u) (h : a <= a') : u * a <= u * a' := Int.mul_le_mul_of_nonneg_left h hu
theorem fl_cl (hb : 0 < b) : fl u a b <= cl u a b := Int.ediv_le_ediv hb (by omega)
theorem cl_a (hb : 0 < b) (hu : 0 <= u) (h : a <= a') : cl u a b <= cl u a' b := Int.ediv_le_ediv hb (by have := mul_le' hu h; omega)
theorem pos (hb : 0 < b) (hu : 0 <= u) (ha : 0 <= a) : 0 <= fl u a b /\ 0 <= cl u a b := by
 have h0 := Int.mul_nonneg hu ha;exact ⟨Int.ediv_nonneg h0 (by omega), Int.ediv_nonneg (by omega) (by omega)⟩
end
end M3
end Go.Proofs.YthmicafabimfkaaGreatDoor


namespace Go.Proofs.YthmicafabimfkaaGreatDoor
namespace M3
abbrev Tr := Int × Int
abbrev Tb := Tr × (Tr × Tr)
abbrev Tst := Int × (Int × Tb)
abbrev Tfr := Int × Tb
abbrev Tc3 := Int × (Int × Int)
def okR (r : Tr) (most : Int) : Prop := 0 <= r.1 /\ r.1 <= r.2 /\ r.2 <= most
def okB (b : Tb) (most : Int) : Prop := okR b.1 most /\ okR b.2.1 most /\ okR b.2.2 most
def xUK (x : Tst) : Prop := (x.1 = 1 /\ (1 <= x.2.1 /\ x.2.1 <= 1000000000) /\ okB x.2.2 20000) \/ (x.1 = 2 /\ (1 <= x.2.1 /\ x.2.1 <= 1000000000) /\ okB x.2.2 1000000000000) \/ (x.1 = 3 /\ x.2.1 = 0 /\ okB x.2.2 1000000000000) \/ (x.1 = 4 /\ x.2.1 = 0 /\ okB x.2.2 10000)
def gm (m : Int) (x : Tst) : Int := if x.1 = 1 then m - x.2.1 else if x.1 = 2 then m + x.2.1 else m
def run : List Tst -> Int -> Prop
 | [], _ => True
 | x :: l, m => xUK x /\ 0 <= gm m x /\ gm m x <= 1000000000 /\ run l (gm m x)
def Sp (b : Tb -> Tr) : Prop := ∀ y most, okB y most -> okR (b y) most
def s0 (y : Tb) : Tr := y.1
def s1 (y : Tb) : Tr := y.2.1
def s2 (y : Tb) : Tr := y.2.2
theorem sp0 : Sp s0 := fun _ _ h => h.1
theorem sp1 : Sp s1 := fun _ _ h => h.2.1
theorem sp2 : Sp s2 := fun _ _ h => h.2.2
def stR (x : Tst) (r : Tr) : Prop := (x.1 = 1 /\ (1 <= x.2.1 /\ x.2.1 <= 1000000000) /\ okR r 20000) \/ (x.1 = 2 /\ (1 <= x.2.1 /\ x.2.1 <= 1000000000) /\ okR r 1000000000000) \/ (x.1 = 3 /\ x.2.1 = 0 /\ okR r 1000000000000) \/ (x.1 = 4 /\ x.2.1 = 0 /\ okR r 10000)
theorem xJp {b : Tb -> Tr} (hb : Sp b) {x : Tst} (h : xUK x) : stR x (b x.2.2) := by
 rcases h with ⟨e, h1, h2⟩ | ⟨e, h1, h2⟩ | ⟨e, h1, h2⟩ | ⟨e, h1, h2⟩
 ·exact Or.inl ⟨e, h1, hb _ _ h2⟩
 ·exact Or.inr (Or.inl ⟨e, h1, hb _ _ h2⟩)
 ·exact Or.inr (Or.inr (Or.inl ⟨e, h1, hb _ _ h2⟩))
 ·exact Or.inr (Or.inr (Or.inr ⟨e, h1, hb _ _ h2⟩))
/-- The least and the greatest choice. -/
def ch (r : Tr) (x : Tst) (d m : Int) : Tr :=
 if x.1 = 1 then if x.2.1 = m then (d, d) else (mi (fl d (r.1 * x.2.1) (10000 * m)) d, mi (cl d (r.2 * x.2.1) (10000 * m)) d)
 else if x.1 = 4 then (mi (fl d r.1 10000) d, mi (cl d r.2 10000) d) else r
def nx (x : Tst) (d n : Int) : Int := if x.1 = 2 then d + n else if x.1 = 3 then d + n else d - n
def inR (n : Int) (r : Tr) : Prop := r.1 <= n /\ n <= r.2
theorem mi_le (x u : Int) : mi x u <= u := by unfold mi; split <;> omega
theorem mi_nn {x u : Int} (h : 0 <= x) (h' : 0 <= u) : 0 <= mi x u := by unfold mi; split <;> omega
theorem mi_mono {x y : Int} (u : Int) (h : x <= y) : mi x u <= mi y u := by unfold mi; split <;> split <;> omega
theorem xTr {u a a' b : Int} (hb : 0 < b) (hu : 0 <= u) (h : a <= a') : mi (fl u a b) u <= mi (cl u a' b) u := mi_mono u (Int.le_trans (fl_cl hb) (cl_a hb hu h))
section
variable {x : Tst} {r : Tr} {d e m n : Int}
theorem frz (h : 1 <= x.2.1) (e1 : x.1 = 1) (hm : 0 <= gm m x) (hne : ¬ x.2.1 = m) : 0 < 10000 * m := by
 rw [gm, if_pos e1] at hm; omega
theorem mul_nn {a b : Int} (ha : 0 <= a) (hb : 0 <= b) : 0 <= a * b := Int.mul_nonneg ha hb
theorem mul_lr {a a' b : Int} (h : a <= a') (hb : 0 <= b) : a * b <= a' * b := Int.mul_le_mul_of_nonneg_right h hb
theorem xJt (h : stR x r) (hm : 0 <= gm m x) (hd : 0 <= d) : 0 <= (ch r x d m).1 /\ (ch r x d m).1 <= (ch r x d m).2 /\ (((x.1 = 2 \/ x.1 = 3) /\ (ch r x d m).2 <= 1000000000000) \/ ((x.1 = 1 \/ x.1 = 4) /\ (ch r x d m).2 <= d)) := by
 rcases h with ⟨e, h1, h2, h3, h4⟩ | ⟨e, h1, h2, h3, h4⟩ | ⟨e, h1, h2, h3, h4⟩ | ⟨e, h1, h2, h3, h4⟩
 ·unfold ch;rw [if_pos e];by_cases hx : x.2.1 = m
  ·rw [if_pos hx];exact ⟨hd, Int.le_refl _, Or.inr ⟨Or.inl e, Int.le_refl _⟩⟩
  ·rw [if_neg hx];have hb := frz h1.1 e hm hx;exact ⟨mi_nn (pos hb hd (mul_nn h2 (by omega))).1 hd, xTr hb hd (mul_lr h3 (by omega)), Or.inr ⟨Or.inl e, mi_le _ _⟩⟩
 ·unfold ch;rw [if_neg (by omega), if_neg (by omega)];exact ⟨h2, h3, Or.inl ⟨Or.inl e, h4⟩⟩
 ·unfold ch;rw [if_neg (by omega), if_neg (by omega)];exact ⟨h2, h3, Or.inl ⟨Or.inr e, h4⟩⟩
 ·unfold ch;rw [if_neg (by omega), if_pos e];exact ⟨mi_nn (pos (by omega) hd h2).1 hd, xTr (by omega) hd h3, Or.inr ⟨Or.inr e, mi_le _ _⟩⟩
theorem xKW (h : stR x r) (hm : 0 <= gm m x) (hd : 0 <= d) (hn : inR n (ch r x d m)) : 0 <= n /\ 0 <= nx x d n /\ nx x d n <= d + 1000000000000 := by
 have h1 := xJt h hm hd;unfold inR at hn;unfold nx;refine ⟨by omega, ?_⟩;rcases h1.2.2 with ⟨h2, h3⟩ | ⟨h2, h3⟩
 ·rcases h2 with e | e
  ·rw [if_pos e]; omega
  ·rw [if_neg (by omega), if_pos e]; omega
 ·rw [if_neg (by omega), if_neg (by omega)];omega
end
/-- Which course chooses the greatest number: added, frozen, gone. -/
abbrev Tco := Bool × (Bool × Bool)
def pk (c : Tco) (x : Tst) : Bool := if x.1 = 1 then c.2.1 else if x.1 = 4 then c.2.2 else c.1
def pn (c : Tco) (x : Tst) (r : Tr) : Int := if pk c x then r.2 else r.1
def xBQ : Tco := (false, (true, true))
def xRX : Tco := (true, (false, false))
theorem xKN (c : Tco) (x : Tst) {r : Tr} (h : r.1 <= r.2) : inR (pn c x r) r := by
 unfold inR pn; split <;> omega
theorem nx_l {x : Tst} {d n : Int} (k : x.1 = 1 \/ x.1 = 4) : nx x d n = d - n := by
 unfold nx; rcases k with k | k <;> simp [k]
/-- The rows of a course: least, greatest, and what is there afterwards. -/
def tr (b : Tb -> Tr) (c : Tco) : List Tst -> Int -> Int -> List Tc3
 | [], _, _ => []
 | x :: l, m, d => ((ch (b x.2.2) x d m).1, ((ch (b x.2.2) x d m).2, nx x d (pn c x (ch (b x.2.2) x d m)))) :: tr b c l (gm m x) (nx x d (pn c x (ch (b x.2.2) x d m)))
/-- The ranges of what freezes: from the poorest and the richest course. -/
def sl (b : Tb -> Tr) : List Tst -> Int -> Int -> Int -> List Tr
 | [], _, _, _ => []
 | x :: l, m, dp, dr => if x.1 = 1 then ((ch (b x.2.2) x dp m).1, (ch (b x.2.2) x dr m).2) :: sl b l (gm m x) (nx x dp (pn xBQ x (ch (b x.2.2) x dp m))) (nx x dr (pn xRX x (ch (b x.2.2) x dr m)))
  else sl b l (gm m x) (nx x dp (pn xBQ x (ch (b x.2.2) x dp m))) (nx x dr (pn xRX x (ch (b x.2.2) x dr m)))
inductive F2 {α β : Type} (R : α -> β -> Prop) : List α -> List β -> Prop
 | nil : F2 R [] []
 | cons {a b as bs} : R a b -> F2 R as bs -> F2 R (a :: as) (b :: bs)
theorem F2.len {α β : Type} {R : α -> β -> Prop} {l : List α} {l' : List β} (h : F2 R l l') : l.length = l'.length := by
 induction h with
 | nil => rfl
 | cons _ _ ih => rw [List.length_cons, List.length_cons, ih]
theorem F2.get {α β : Type} {R : α -> β -> Prop} {l : List α} {l' : List β} (h : F2 R l l') : ∀ (i : Nat) (h1 : i < l.length) (h2 : i < l'.length), R l[i] l'[i] := by
 induction h with
 | nil => intro i h1; exact absurd h1 (by simp)
 | cons h0 _ ih =>
  intro i h1 h2
  cases i with
  | zero => exact h0
  | succ i => exact ih i (by simpa using h1) (by simpa using h2)
end M3
end Go.Proofs.YthmicafabimfkaaGreatDoor
