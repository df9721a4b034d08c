/- Plain laws of chapter 3: shares of units, rounded; they grow with the units, and so does what is left. No condition. -/

namespace Go.Proofs.YtcbbhiobibhdnaaDoor
namespace M3
def fl (u a b : Int) : Int := u * a / b
def cl (u a b : Int) : Int := (u * a + (b - 1)) / b
def mi (x u : Int) : Int := if x < u then x else u
section
variable {u v a a' b : Int}
theorem mul_le' (hu : 0 ≤ u) (h : a ≤ a') : u * a ≤ u * a' := Int.mul_le_mul_of_nonneg_left h hu
theorem fl_le (hb : 0 < b) (hu : 0 ≤ u) (h : a ≤ b) : fl u a b ≤ u := by
  have h1 : u * a ≤ u * b := mul_le' hu h
  have h2 : u * a / b ≤ u * b / b := Int.ediv_le_ediv hb h1
  rwa [Int.mul_ediv_cancel _ (by omega)] at h2
theorem fl_ge (hb : 0 < b) (hu : 0 ≤ u) (h : b ≤ a) : u ≤ fl u a b := by
  have h1 : u * b ≤ u * a := mul_le' hu h
  have h2 : u * b / b ≤ u * a / b := Int.ediv_le_ediv hb h1
  rwa [Int.mul_ediv_cancel _ (by omega)] at h2
theorem cl_le (hb : 0 < b) (hu : 0 ≤ u) (h : a ≤ b) : cl u a b ≤ u := by
  have h1 : u * a ≤ u * b := mul_le' hu h
  have h2 : (u * a + (b - 1)) / b ≤ (u * b + (b - 1)) / b := Int.ediv_le_ediv hb (by omega)
  have h3 : (u * b + (b - 1)) / b = u := by
    rw [Int.add_comm, Int.add_mul_ediv_right _ _ (by omega), Int.ediv_eq_zero_of_lt (by omega) (by omega)]; omega
  unfold cl; omega
theorem fl_cl (hb : 0 < b) : fl u a b ≤ cl u a b := Int.ediv_le_ediv hb (by omega)
theorem fl_a (hb : 0 < b) (hu : 0 ≤ u) (h : a ≤ a') : fl u a b ≤ fl u a' b := Int.ediv_le_ediv hb (mul_le' hu h)
theorem cl_a (hb : 0 < b) (hu : 0 ≤ u) (h : a ≤ a') : cl u a b ≤ cl u a' b := Int.ediv_le_ediv hb (by have := mul_le' hu h; omega)
theorem fl_u (hb : 0 < b) (ha : 0 ≤ a) (h : u ≤ v) : fl u a b ≤ fl v a b := Int.ediv_le_ediv hb (Int.mul_le_mul_of_nonneg_right h ha)
theorem cl_u (hb : 0 < b) (ha : 0 ≤ a) (h : u ≤ v) : cl u a b ≤ cl v a b := Int.ediv_le_ediv hb (by have := Int.mul_le_mul_of_nonneg_right h ha; omega)
theorem lip0 (c : Int) (hb : 0 < b) (h : u ≤ v) (hab : a ≤ b) : (v * a + c) / b ≤ (u * a + c) / b + (v - u) := by
  have h1 : (v - u) * a ≤ (v - u) * b := mul_le' (by omega) hab
  have h2 : v * a = u * a + (v - u) * a := by rw [Int.sub_mul]; omega
  have h3 : (v * a + c) / b ≤ (u * a + c + (v - u) * b) / b := Int.ediv_le_ediv hb (by omega)
  rwa [Int.add_mul_ediv_right _ _ (by omega)] at h3
theorem fl_lip (hb : 0 < b) (h : u ≤ v) (hab : a ≤ b) : fl v a b ≤ fl u a b + (v - u) := by
  have := lip0 0 hb h hab
  rwa [Int.add_zero, Int.add_zero] at this
theorem cl_lip (hb : 0 < b) (h : u ≤ v) (hab : a ≤ b) : cl v a b ≤ cl u a b + (v - u) := lip0 (b - 1) hb h hab
/-- A share grows with the units. -/
theorem pD_u (hb : 0 < b) (ha : 0 ≤ a) (h : u ≤ v) : mi (fl u a b) u ≤ mi (fl v a b) v := by
  have := fl_u hb ha h
  unfold mi; split <;> split <;> omega
theorem pU_u (hb : 0 < b) (ha : 0 ≤ a) (h : u ≤ v) : mi (cl u a b) u ≤ mi (cl v a b) v := by
  have := cl_u hb ha h
  unfold mi; split <;> split <;> omega
/-- So does what is left. -/
theorem pD_left (hb : 0 < b) (hu : 0 ≤ u) (h : u ≤ v) : u - mi (fl u a b) u ≤ v - mi (fl v a b) v := by
  by_cases hab : a ≤ b
  · have := fl_lip hb h hab
    have := fl_le hb hu hab
    have := fl_le hb (show 0 ≤ v by omega) hab
    unfold mi; split <;> split <;> omega
  · have := fl_ge hb hu (show b ≤ a by omega)
    unfold mi; split <;> split <;> omega
theorem pU_left (hb : 0 < b) (hu : 0 ≤ u) (h : u ≤ v) : u - mi (cl u a b) u ≤ v - mi (cl v a b) v := by
  by_cases hab : a ≤ b
  · have := cl_lip hb h hab
    have := cl_le hb hu hab
    have := cl_le hb (show 0 ≤ v by omega) hab
    unfold mi; split <;> split <;> omega
  · have h1 := fl_ge hb hu (show b ≤ a by omega)
    have h2 := fl_cl (u := u) (a := a) hb
    unfold mi; split <;> split <;> omega
/-- A share that is rounded to the nearest one lies between those that are rounded down and up. -/
theorem pN_in (hb : 0 < b) (hu : 0 ≤ u) {aL aH n : Int} (h1 : aL ≤ a) (h2 : a ≤ aH) (h3 : fl u a b ≤ n) (h4 : n ≤ cl u a b) : mi (fl u aL b) u ≤ mi n u ∧ mi n u ≤ mi (cl u aH b) u := by
  have := fl_a hb hu h1
  have := cl_a hb hu h2
  unfold mi
  constructor <;> split <;> split <;> omega
theorem pos (hb : 0 < b) (hu : 0 ≤ u) (ha : 0 ≤ a) : 0 ≤ fl u a b ∧ 0 ≤ cl u a b := by
  have h0 := Int.mul_nonneg hu ha
  exact ⟨Int.ediv_nonneg h0 (by omega), Int.ediv_nonneg (by omega) (by omega)⟩
end
end M3
end Go.Proofs.YtcbbhiobibhdnaaDoor


namespace Go.Proofs.YtcbbhiobibhdnaaDoor
namespace M3
abbrev Tr := Int × Int
abbrev Tb := Tr × (Tr × Tr)
abbrev Tst := Int × (Int × Tb)
abbrev Tfr := Int × Tb
abbrev Tc3 := Int × (Int × Int)
def okR (r : Tr) (most : Int) : Prop := 0 ≤ r.1 ∧ r.1 ≤ r.2 ∧ r.2 ≤ most
def okB (b : Tb) (most : Int) : Prop := okR b.1 most ∧ okR b.2.1 most ∧ okR b.2.2 most
def stOk (x : Tst) : Prop := (x.1 = 1 ∧ (1 ≤ x.2.1 ∧ x.2.1 ≤ 1000000000) ∧ okB x.2.2 20000) ∨ (x.1 = 2 ∧ (1 ≤ x.2.1 ∧ x.2.1 ≤ 1000000000) ∧ okB x.2.2 1000000000000) ∨ (x.1 = 3 ∧ x.2.1 = 0 ∧ okB x.2.2 1000000000000) ∨ (x.1 = 4 ∧ x.2.1 = 0 ∧ okB x.2.2 10000)
def gm (m : Int) (x : Tst) : Int := if x.1 = 1 then m - x.2.1 else if x.1 = 2 then m + x.2.1 else m
def run : List Tst → Int → Prop
  | [], _ => True
  | x :: l, m => stOk x ∧ 0 ≤ gm m x ∧ gm m x ≤ 1000000000 ∧ run l (gm m x)
def Sp (b : Tb → Tr) : Prop := ∀ y most, okB y most → okR (b y) most
def s0 (y : Tb) : Tr := y.1
def s1 (y : Tb) : Tr := y.2.1
def s2 (y : Tb) : Tr := y.2.2
theorem sp0 : Sp s0 := fun _ _ h => h.1
theorem sp1 : Sp s1 := fun _ _ h => h.2.1
theorem sp2 : Sp s2 := fun _ _ h => h.2.2
def stR (x : Tst) (r : Tr) : Prop := (x.1 = 1 ∧ (1 ≤ x.2.1 ∧ x.2.1 ≤ 1000000000) ∧ okR r 20000) ∨ (x.1 = 2 ∧ (1 ≤ x.2.1 ∧ x.2.1 ≤ 1000000000) ∧ okR r 1000000000000) ∨ (x.1 = 3 ∧ x.2.1 = 0 ∧ okR r 1000000000000) ∨ (x.1 = 4 ∧ x.2.1 = 0 ∧ okR r 10000)
theorem st_R {b : Tb → Tr} (hb : Sp b) {x : Tst} (h : stOk x) : stR x (b x.2.2) := by
  rcases h with ⟨e, h1, h2⟩ | ⟨e, h1, h2⟩ | ⟨e, h1, h2⟩ | ⟨e, h1, h2⟩
  · exact Or.inl ⟨e, h1, hb _ _ h2⟩
  · exact Or.inr (Or.inl ⟨e, h1, hb _ _ h2⟩)
  · exact Or.inr (Or.inr (Or.inl ⟨e, h1, hb _ _ h2⟩))
  · exact Or.inr (Or.inr (Or.inr ⟨e, h1, hb _ _ h2⟩))
/-- The least and the greatest choice. -/
def ch (r : Tr) (x : Tst) (d m : Int) : Tr :=
  if x.1 = 1 then if x.2.1 = m then (d, d) else (mi (fl d (r.1 * x.2.1) (10000 * m)) d, mi (cl d (r.2 * x.2.1) (10000 * m)) d)
  else if x.1 = 4 then (mi (fl d r.1 10000) d, mi (cl d r.2 10000) d) else r
def nx (x : Tst) (d n : Int) : Int := if x.1 = 2 then d + n else if x.1 = 3 then d + n else d - n
def inR (n : Int) (r : Tr) : Prop := r.1 ≤ n ∧ n ≤ r.2
theorem mi_le (x u : Int) : mi x u ≤ u := by unfold mi; split <;> omega
theorem mi_nn {x u : Int} (h : 0 ≤ x) (h' : 0 ≤ u) : 0 ≤ mi x u := by unfold mi; split <;> omega
theorem mi_mono {x y : Int} (u : Int) (h : x ≤ y) : mi x u ≤ mi y u := by unfold mi; split <;> split <;> omega
theorem flcl_mi {u a a' b : Int} (hb : 0 < b) (hu : 0 ≤ u) (h : a ≤ a') : mi (fl u a b) u ≤ mi (cl u a' b) u := mi_mono u (Int.le_trans (fl_cl hb) (cl_a hb hu h))
section
variable {x : Tst} {r : Tr} {d e m n : Int}
theorem frz (h : 1 ≤ x.2.1) (e1 : x.1 = 1) (hm : 0 ≤ gm m x) (hne : ¬ x.2.1 = m) : 0 < 10000 * m := by
  rw [gm, if_pos e1] at hm; omega
theorem mul_nn {a b : Int} (ha : 0 ≤ a) (hb : 0 ≤ b) : 0 ≤ a * b := Int.mul_nonneg ha hb
theorem mul_lr {a a' b : Int} (h : a ≤ a') (hb : 0 ≤ b) : a * b ≤ a' * b := Int.mul_le_mul_of_nonneg_right h hb
theorem ch_in (h : stR x r) (hm : 0 ≤ gm m x) (hd : 0 ≤ d) : 0 ≤ (ch r x d m).1 ∧ (ch r x d m).1 ≤ (ch r x d m).2 ∧ (((x.1 = 2 ∨ x.1 = 3) ∧ (ch r x d m).2 ≤ 1000000000000) ∨ ((x.1 = 1 ∨ x.1 = 4) ∧ (ch r x d m).2 ≤ d)) := by
  rcases h with ⟨e, h1, h2, h3, h4⟩ | ⟨e, h1, h2, h3, h4⟩ | ⟨e, h1, h2, h3, h4⟩ | ⟨e, h1, h2, h3, h4⟩
  · unfold ch
    rw [if_pos e]
    by_cases hx : x.2.1 = m
    · rw [if_pos hx]
      exact ⟨hd, Int.le_refl _, Or.inr ⟨Or.inl e, Int.le_refl _⟩⟩
    · rw [if_neg hx]
      have hb := frz h1.1 e hm hx
      exact ⟨mi_nn (pos hb hd (mul_nn h2 (by omega))).1 hd, flcl_mi hb hd (mul_lr h3 (by omega)), Or.inr ⟨Or.inl e, mi_le _ _⟩⟩
  · unfold ch
    rw [if_neg (by omega), if_neg (by omega)]
    exact ⟨h2, h3, Or.inl ⟨Or.inl e, h4⟩⟩
  · unfold ch
    rw [if_neg (by omega), if_neg (by omega)]
    exact ⟨h2, h3, Or.inl ⟨Or.inr e, h4⟩⟩
  · unfold ch
    rw [if_neg (by omega), if_pos e]
    exact ⟨mi_nn (pos (by omega) hd h2).1 hd, flcl_mi (by omega) hd h3, Or.inr ⟨Or.inr e, mi_le _ _⟩⟩
theorem nx_in (h : stR x r) (hm : 0 ≤ gm m x) (hd : 0 ≤ d) (hn : inR n (ch r x d m)) : 0 ≤ n ∧ 0 ≤ nx x d n ∧ nx x d n ≤ d + 1000000000000 := by
  have h1 := ch_in h hm hd
  unfold inR at hn
  unfold nx
  refine ⟨by omega, ?_⟩
  rcases h1.2.2 with ⟨h2, h3⟩ | ⟨h2, h3⟩
  · rcases h2 with e | e
    · rw [if_pos e]; omega
    · rw [if_neg (by omega), if_pos e]; omega
  · rw [if_neg (by omega), if_neg (by omega)]
    omega
theorem ch_mono (h : stR x r) (hm : 0 ≤ gm m x) (hd : 0 ≤ d) (hde : d ≤ e) : (ch r x d m).1 ≤ (ch r x e m).1 ∧ (ch r x d m).2 ≤ (ch r x e m).2 := by
  rcases h with ⟨k, h1, h2, h3, h4⟩ | ⟨k, h1, h2, h3, h4⟩ | ⟨k, h1, h2, h3, h4⟩ | ⟨k, h1, h2, h3, h4⟩
  · unfold ch
    rw [if_pos k, if_pos k]
    by_cases hx : x.2.1 = m
    · rw [if_pos hx, if_pos hx]
      exact ⟨hde, hde⟩
    · rw [if_neg hx, if_neg hx]
      have hb := frz h1.1 k hm hx
      exact ⟨pD_u hb (mul_nn h2 (by omega)) hde, pU_u hb (mul_nn (by omega) (by omega)) hde⟩
  · unfold ch
    rw [if_neg (by omega), if_neg (by omega), if_neg (by omega), if_neg (by omega)]
    exact ⟨Int.le_refl _, Int.le_refl _⟩
  · unfold ch
    rw [if_neg (by omega), if_neg (by omega), if_neg (by omega), if_neg (by omega)]
    exact ⟨Int.le_refl _, Int.le_refl _⟩
  · unfold ch
    rw [if_neg (by omega), if_pos k, if_neg (by omega), if_pos k]
    exact ⟨pD_u (by omega) h2 hde, pU_u (by omega) (by omega) hde⟩
/-- What is left grows with what was there. -/
theorem left_mono (h : stR x r) (hm : 0 ≤ gm m x) (k : x.1 = 1 ∨ x.1 = 4) (hd : 0 ≤ d) (hde : d ≤ e) : d - (ch r x d m).2 ≤ e - (ch r x e m).2 ∧ d - (ch r x d m).1 ≤ e - (ch r x e m).1 := by
  rcases h with ⟨k, h1, h2, h3, h4⟩ | ⟨k, h1, h2, h3, h4⟩ | ⟨k, h1, h2, h3, h4⟩ | ⟨k, h1, h2, h3, h4⟩
  · unfold ch
    rw [if_pos k, if_pos k]
    by_cases hx : x.2.1 = m
    · rw [if_pos hx, if_pos hx]
      constructor <;> dsimp only <;> omega
    · rw [if_neg hx, if_neg hx]
      have hb := frz h1.1 k hm hx
      exact ⟨pU_left hb hd hde, pD_left hb hd hde⟩
  · omega
  · omega
  · unfold ch
    rw [if_neg (by omega), if_pos k, if_neg (by omega), if_pos k]
    exact ⟨pU_left (by omega) hd hde, pD_left (by omega) hd hde⟩
end
/-- Which course chooses the greatest number: added, frozen, gone. -/
abbrev Tco := Bool × (Bool × Bool)
def pk (c : Tco) (x : Tst) : Bool := if x.1 = 1 then c.2.1 else if x.1 = 4 then c.2.2 else c.1
def pn (c : Tco) (x : Tst) (r : Tr) : Int := if pk c x then r.2 else r.1
def poorC : Tco := (false, (true, true))
def richC : Tco := (true, (false, false))
theorem pn_in (c : Tco) (x : Tst) {r : Tr} (h : r.1 ≤ r.2) : inR (pn c x r) r := by
  unfold inR pn; split <;> omega
theorem pn_poor {x : Tst} {r r' : Tr} (h : stR x r') : (x.1 = 1 ∨ x.1 = 4) ∧ pn poorC x r = r.2 ∧ pn richC x r = r.1 ∨ (x.1 = 2 ∨ x.1 = 3) ∧ pn poorC x r = r.1 ∧ pn richC x r = r.2 := by
  unfold pn pk poorC richC
  rcases h with ⟨k, _⟩ | ⟨k, _⟩ | ⟨k, _⟩ | ⟨k, _⟩ <;> simp [k]
theorem nx_a {x : Tst} {d n : Int} (k : x.1 = 2 ∨ x.1 = 3) : nx x d n = d + n := by
  unfold nx; rcases k with k | k <;> simp [k]
theorem nx_l {x : Tst} {d n : Int} (k : x.1 = 1 ∨ x.1 = 4) : nx x d n = d - n := by
  unfold nx; rcases k with k | k <;> simp [k]
theorem nx_between {x : Tst} {r : Tr} {dp d dr m n : Int} (h : stR x r) (hm : 0 ≤ gm m x) (hd : 0 ≤ dp) (h1 : dp ≤ d) (h2 : d ≤ dr) (hn : inR n (ch r x d m)) : nx x dp (pn poorC x (ch r x dp m)) ≤ nx x d n ∧ nx x d n ≤ nx x dr (pn richC x (ch r x dr m)) := by
  unfold inR at hn
  rcases pn_poor (r := ch r x dp m) h with ⟨k, e1, _⟩ | ⟨k, e1, _⟩ <;> rcases pn_poor (r := ch r x dr m) h with ⟨k', _, e2⟩ | ⟨k', _, e2⟩ <;> rw [e1, e2]
  · rw [nx_l k, nx_l k, nx_l k]
    have a1 := left_mono (r := r) h hm k hd h1
    have a2 := left_mono (r := r) h hm k (Int.le_trans hd h1) h2
    omega
  · omega
  · omega
  · rw [nx_a k, nx_a k, nx_a k]
    have a1 := ch_mono (r := r) h hm hd h1
    have a2 := ch_mono (r := r) h hm (Int.le_trans hd h1) h2
    omega
/-- The rows of a course: least, greatest, and what is there afterwards. -/
def tr (b : Tb → Tr) (c : Tco) : List Tst → Int → Int → List Tc3
  | [], _, _ => []
  | x :: l, m, d => ((ch (b x.2.2) x d m).1, ((ch (b x.2.2) x d m).2, nx x d (pn c x (ch (b x.2.2) x d m)))) :: tr b c l (gm m x) (nx x d (pn c x (ch (b x.2.2) x d m)))
/-- The ranges of what freezes: from the poorest and the richest course. -/
def sl (b : Tb → Tr) : List Tst → Int → Int → Int → List Tr
  | [], _, _, _ => []
  | x :: l, m, dp, dr => if x.1 = 1 then ((ch (b x.2.2) x dp m).1, (ch (b x.2.2) x dr m).2) :: sl b l (gm m x) (nx x dp (pn poorC x (ch (b x.2.2) x dp m))) (nx x dr (pn richC x (ch (b x.2.2) x dr m)))
    else sl b l (gm m x) (nx x dp (pn poorC x (ch (b x.2.2) x dp m))) (nx x dr (pn richC x (ch (b x.2.2) x dr m)))
/-- A true course. -/
def Tru (b : Tb → Tr) : List Tst → List Int → Int → Int → Prop
  | [], [], _, _ => True
  | x :: l, n :: cs, m, d => inR n (ch (b x.2.2) x d m) ∧ Tru b l cs (gm m x) (nx x d n)
  | _, _, _, _ => False
/-- What is at the steps that freeze. -/
def fz {α : Type} : List Tst → List α → List α
  | x :: l, n :: cs => if x.1 = 1 then n :: fz l cs else fz l cs
  | _, _ => []
theorem fz_map {α β : Type} (f : α → β) : ∀ (l : List Tst) (cs : List α), fz l (cs.map f) = (fz l cs).map f
  | [], _ => rfl
  | _ :: _, [] => rfl
  | x :: l, n :: cs => by
    rw [List.map_cons, fz, fz]
    split
    · rw [List.map_cons, fz_map f l cs]
    · exact fz_map f l cs
inductive F2 {α β : Type} (R : α → β → Prop) : List α → List β → Prop
  | nil : F2 R [] []
  | cons {a b as bs} : R a b → F2 R as bs → F2 R (a :: as) (b :: bs)
theorem F2.len {α β : Type} {R : α → β → Prop} {l : List α} {l' : List β} (h : F2 R l l') : l.length = l'.length := by
  induction h with
  | nil => rfl
  | cons _ _ ih => rw [List.length_cons, List.length_cons, ih]
theorem F2.get {α β : Type} {R : α → β → Prop} {l : List α} {l' : List β} (h : F2 R l l') : ∀ (i : Nat) (h1 : i < l.length) (h2 : i < l'.length), R l[i] l'[i] := by
  induction h with
  | nil => intro i h1; exact absurd h1 (by simp)
  | cons h0 _ ih =>
    intro i h1 h2
    cases i with
    | zero => exact h0
    | succ i => exact ih i (by simpa using h1) (by simpa using h2)
theorem between {b : Tb → Tr} (hb : Sp b) : ∀ (l : List Tst) (cs : List Int) (m dp d dr : Int), run l m → Tru b l cs m d → 0 ≤ dp → dp ≤ d → d ≤ dr → F2 (fun r n => inR n r) (sl b l m dp dr) (fz l cs)
  | [], [], _, _, _, _, _, _, _, _, _ => F2.nil
  | [], _ :: _, _, _, _, _, _, h, _, _, _ => h.elim
  | _ :: _, [], _, _, _, _, _, h, _, _, _ => h.elim
  | x :: l, n :: cs, m, dp, d, dr, hr, ht, h0, h1, h2 => by
    obtain ⟨hs, hm, _, hr'⟩ := hr
    obtain ⟨hn, ht'⟩ := ht
    have hR := st_R hb hs
    have hx := nx_between hR hm h0 h1 h2 hn
    have hp := nx_in hR hm h0 (pn_in poorC x (ch_in hR hm h0).2.1)
    have ih := between hb l cs _ _ _ _ hr' ht' hp.2.1 hx.1 hx.2
    rw [sl, fz]
    by_cases k : x.1 = 1
    · rw [if_pos k, if_pos k]
      have a1 := ch_mono hR hm h0 h1
      have a2 := ch_mono hR hm (Int.le_trans h0 h1) h2
      unfold inR at hn
      exact F2.cons ⟨by dsimp only; omega, by dsimp only; omega⟩ ih
    · rw [if_neg k, if_neg k]
      exact ih
theorem fz_len {α : Type} (b : Tb → Tr) : ∀ (l : List Tst) (cs : List α) (m dp dr : Int), cs.length = l.length → (fz l cs).length = (sl b l m dp dr).length
  | [], _, _, _, _, _ => by cases ‹List α› <;> rfl
  | _ :: _, [], _, _, _, h => by simp at h
  | x :: l, n :: cs, m, dp, dr, h => by
    rw [sl, fz]
    split
    · rw [List.length_cons, List.length_cons, fz_len b l cs _ _ _ (by simpa using h)]
    · exact fz_len b l cs _ _ _ (by simpa using h)
/-- The ranges of what freezes are in order. -/
theorem sl_ok {b : Tb → Tr} (hb : Sp b) : ∀ (l : List Tst) (m dp dr : Int), run l m → 0 ≤ dp → dp ≤ dr → ∀ r, r ∈ sl b l m dp dr → 0 ≤ r.1 ∧ r.1 ≤ r.2 ∧ r.2 ≤ dr + 1000000000000 * l.length
  | [], _, _, _, _, _, _ => by intro r h; cases h
  | x :: l, m, dp, dr, hr, h0, h1 => by
    obtain ⟨hs, hm, _, hr'⟩ := hr
    have hR := st_R hb hs
    have hp := nx_in hR hm h0 (pn_in poorC x (ch_in hR hm h0).2.1)
    have h0' : 0 ≤ dr := Int.le_trans h0 h1
    have hq := nx_in hR hm h0' (pn_in richC x (ch_in hR hm h0').2.1)
    have hx := nx_between hR hm h0 h1 (Int.le_refl _) (pn_in richC x (ch_in hR hm h0').2.1)
    have ih := sl_ok hb l _ _ _ hr' hp.2.1 hx.1
    have ih' : ∀ r, r ∈ sl b l (gm m x) (nx x dp (pn poorC x (ch (b x.2.2) x dp m))) (nx x dr (pn richC x (ch (b x.2.2) x dr m))) → 0 ≤ r.1 ∧ r.1 ≤ r.2 ∧ r.2 ≤ dr + 1000000000000 * (x :: l).length := by
      intro r hr
      have := ih r hr
      rw [List.length_cons]
      omega
    rw [sl]
    by_cases k : x.1 = 1
    · rw [if_pos k]
      intro r hr
      rcases List.mem_cons.1 hr with e | e
      · have a0 := ch_in hR hm h0
        have a1 := ch_mono hR hm h0 h1
        have a2 := ch_in hR hm h0'
        rw [e, List.length_cons]
        refine ⟨a0.1, ?_, ?_⟩ <;> dsimp only <;> omega
      · exact ih' r e
    · rw [if_neg k]
      exact ih'
end M3
end Go.Proofs.YtcbbhiobibhdnaaDoor
