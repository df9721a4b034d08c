/- Wafers are placed in orders: what is placed one by one along chains is best. Plain mathematics. No condition. -/
import Derived.Test.YtbepdcodkecboaaDoorWMC4

namespace Go.Proofs.YtbepdcodkecboaaDoor
namespace Mt
/-! Sums -/
def sumN : Nat → (Nat → Int) → Int
  | 0, _ => 0
  | n + 1, f => sumN n f + f n
theorem sumN_add (n : Nat) (f g : Nat → Int) : sumN n (fun o => f o + g o) = sumN n f + sumN n g := by
  induction n with
  | zero => rfl
  | succ n ih => simp only [sumN, ih]; omega
theorem sumN_le (n : Nat) {f g : Nat → Int} (h : ∀ o, o < n → f o ≤ g o) : sumN n f ≤ sumN n g := by
  induction n with
  | zero => exact Int.le_refl _
  | succ n ih =>
    have h1 := ih (fun o ho => h o (by omega))
    have h2 := h n (by omega)
    simp only [sumN]; omega
theorem sumN_eq (n : Nat) {f g : Nat → Int} (h : ∀ o, o < n → f o = g o) : sumN n f = sumN n g := by
  induction n with
  | zero => rfl
  | succ n ih => simp only [sumN, ih (fun o ho => h o (by omega)), h n (by omega)]
theorem sumN_zero (n : Nat) : sumN n (fun _ => 0) = 0 := by
  induction n with
  | zero => rfl
  | succ n ih => simp only [sumN, ih]; rfl
theorem sumN_one (n p : Nat) (c : Int) (hp : p < n) : sumN n (fun o => if o = p then c else 0) = c := by
  induction n with
  | zero => omega
  | succ n ih =>
    simp only [sumN]
    by_cases h : n = p
    · subst h
      rw [sumN_eq n (g := fun _ => 0) (fun o ho => if_neg (by omega)), sumN_zero, if_pos rfl]; omega
    · rw [ih (by omega), if_neg h]; omega
/-! Assignments -/
def gv (g : Nat → Int) : Option Nat → Int
  | none => 0
  | some o => g o
/-- What an assignment of wafers is worth. -/
def val (g : Nat → Int) (a : Nat → Option Nat) : List Nat → Int
  | [] => 0
  | w :: ws => gv g (a w) + val g a ws
def cnt (a : Nat → Option Nat) (ws : List Nat) (o : Nat) : Int := ((ws.filter (fun w => a w == some o)).length : Int)
theorem cnt_cons (a : Nat → Option Nat) (w : Nat) (ws : List Nat) (o : Nat) : cnt a (w :: ws) o = (if a w = some o then 1 else 0) + cnt a ws o := by
  unfold cnt
  by_cases h : a w = some o
  · rw [List.filter_cons_of_pos (by simpa using h), if_pos h, List.length_cons]; omega
  · rw [List.filter_cons_of_neg (by simpa using h), if_neg h]; omega
theorem cnt_nn (a : Nat → Option Nat) (ws : List Nat) (o : Nat) : 0 ≤ cnt a ws o := by unfold cnt; omega
theorem val_cnt (k : Nat) (g : Nat → Int) (a : Nat → Option Nat) : ∀ ws : List Nat, (∀ w, w ∈ ws → ∀ o, a w = some o → o < k) → val g a ws = sumN k (fun o => cnt a ws o * g o)
  | [], _ => by
    rw [sumN_eq k (g := fun _ => 0) (fun o _ => by simp [cnt]), sumN_zero]; rfl
  | w :: ws, h => by
    have ih := val_cnt k g a ws (fun x hx => h x (List.mem_cons_of_mem _ hx))
    rw [val, ih, sumN_eq k (f := fun o => cnt a (w :: ws) o * g o) (g := fun o => (if a w = some o then 1 else 0) * g o + cnt a ws o * g o) (fun o _ => by rw [cnt_cons, Int.add_mul]), sumN_add]
    congr 1
    cases ha : a w with
    | none =>
      rw [sumN_eq k (g := fun _ => 0) (fun o _ => by simp), sumN_zero]; rfl
    | some p =>
      rw [sumN_eq k (g := fun o => if o = p then g p else 0) (fun o _ => by
        by_cases e : o = p
        · subst e; simp
        · rw [if_neg (by simpa [eq_comm] using e), if_neg e]; omega), sumN_one k p _ (h w List.mem_cons_self p ha)]
      rfl
theorem val_le {g g' : Nat → Int} {a b : Nat → Option Nat} : ∀ {ws : List Nat}, (∀ w, w ∈ ws → gv g (a w) ≤ gv g' (b w)) → val g a ws ≤ val g' b ws
  | [], _ => Int.le_refl _
  | w :: ws, h => by
    have h1 := h w List.mem_cons_self
    have h2 := val_le (g := g) (g' := g') (a := a) (b := b) (ws := ws) (fun x hx => h x (List.mem_cons_of_mem _ hx))
    simp only [val]; omega
theorem val_add {f g : Nat → Int} {a : Nat → Option Nat} : ∀ {ws : List Nat}, val (fun o => f o + g o) a ws = val f a ws + val g a ws
  | [] => rfl
  | w :: ws => by
    have h2 := val_add (f := f) (g := g) (a := a) (ws := ws)
    simp only [val]
    cases a w <;> simp only [gv] <;> omega
theorem cnt_app (a : Nat → Option Nat) (ws us : List Nat) (o : Nat) : cnt a (ws ++ us) o = cnt a ws o + cnt a us o := by
  unfold cnt; rw [List.filter_append, List.length_append]; omega
theorem val_congr {g : Nat → Int} {a b : Nat → Option Nat} : ∀ {ws : List Nat}, (∀ w, w ∈ ws → a w = b w) → val g a ws = val g b ws
  | [], _ => rfl
  | w :: ws, h => by
    simp only [val, h w List.mem_cons_self, val_congr (g := g) (ws := ws) (fun x hx => h x (List.mem_cons_of_mem _ hx))]
theorem cnt_congr {a b : Nat → Option Nat} {ws : List Nat} (h : ∀ w, w ∈ ws → a w = b w) (o : Nat) : cnt a ws o = cnt b ws o := by
  unfold cnt
  rw [List.filter_congr (fun w hw => by rw [h w hw])]
structure Feas (k : Nat) (pass : Nat → Nat → Bool) (cap : Nat → Int) (ws : List Nat) (a : Nat → Option Nat) : Prop where
  ok : ∀ w, w ∈ ws → ∀ o, a w = some o → o < k ∧ pass w o = true
  le : ∀ o, o < k → cnt a ws o ≤ cap o
/-- Where wafers are, and prices that show that it is best so. -/
structure Inv (k : Nat) (pass : Nat → Nat → Bool) (W cap : Nat → Int) (ws : List Nat) (A : Nat → List Nat) (left q : Nat → Int) : Prop where
  nd : ∀ o, o < k → (A o).Nodup
  sub : ∀ o, o < k → ∀ x, x ∈ A o → x ∈ ws ∧ pass x o = true
  dis : ∀ o, o < k → ∀ p, p < k → ∀ x, x ∈ A o → x ∈ A p → o = p
  lf : ∀ o, o < k → left o = cap o - ((A o).length : Int)
  ge : ∀ o, o < k → 0 ≤ left o
  q0 : ∀ o, o < k → 0 ≤ q o
  qW : ∀ o, o < k → q o ≤ W o
  qs : ∀ o, o < k → 0 < left o → q o = W o
  qe : ∀ o, o < k → ∀ x, x ∈ A o → ∀ p, p < k → pass x p = true → q p ≤ q o
  qu : ∀ x, x ∈ ws → (∀ o, o < k → x ∉ A o) → ∀ p, p < k → pass x p = true → q p ≤ 0
def tot (k : Nat) (W cap left : Nat → Int) : Int := sumN k (fun o => (cap o - left o) * W o)
/-- The order at which a wafer is. -/
def ownr (k : Nat) (A : Nat → List Nat) (x : Nat) : Option Nat := (List.range k).find? (fun o => (A o).contains x)
section
variable {k : Nat} {pass : Nat → Nat → Bool} {W cap : Nat → Int} {ws : List Nat} {A : Nat → List Nat} {left q : Nat → Int}
theorem ownr_some {x o : Nat} (h : ownr k A x = some o) : o < k ∧ x ∈ A o := by
  have h1 := List.mem_of_find?_eq_some h
  have h2 := List.find?_some h
  exact ⟨by simpa using h1, by simpa using h2⟩
theorem ownr_none {x : Nat} (h : ownr k A x = none) : ∀ o, o < k → x ∉ A o := by
  intro o ho hx
  have := List.find?_eq_none.1 h o (by simpa using ho)
  simp [hx] at this
theorem ownr_eq (dis : ∀ o, o < k → ∀ p, p < k → ∀ x, x ∈ A o → x ∈ A p → o = p) {x o : Nat} (ho : o < k) (hx : x ∈ A o) : ownr k A x = some o := by
  cases h : ownr k A x with
  | none => exact absurd hx (ownr_none h o ho)
  | some p =>
    obtain ⟨h1, h2⟩ := ownr_some h
    rw [dis o ho p h1 x hx h2]
theorem Inv.cntO (h : Inv k pass W cap ws A left q) (hn : ws.Nodup) {o : Nat} (ho : o < k) : cnt (ownr k A) ws o = ((A o).length : Int) := by
  have hp : (ws.filter (fun w => ownr k A w == some o)).Perm (A o) := by
    rw [List.perm_ext_iff_of_nodup (hn.sublist List.filter_sublist) (h.nd o ho)]
    intro x
    rw [List.mem_filter]
    constructor
    · intro ⟨_, hx⟩
      exact (ownr_some (by simpa using hx)).2
    · intro hx
      exact ⟨(h.sub o ho x hx).1, by simpa using ownr_eq h.dis ho hx⟩
  unfold cnt
  rw [hp.length_eq]
theorem Inv.feas (h : Inv k pass W cap ws A left q) (hn : ws.Nodup) : Feas k pass cap ws (ownr k A) := by
  refine ⟨fun w _ o ho => ?_, fun o ho => ?_⟩
  · obtain ⟨h1, h2⟩ := ownr_some ho
    exact ⟨h1, (h.sub o h1 w h2).2⟩
  · rw [h.cntO hn ho]
    have := h.lf o ho; have := h.ge o ho; omega
theorem Inv.val_own (h : Inv k pass W cap ws A left q) (hn : ws.Nodup) : val W (ownr k A) ws = tot k W cap left := by
  rw [val_cnt k W _ ws (fun w _ o ho => (ownr_some ho).1)]
  exact sumN_eq k (fun o ho => by rw [h.cntO hn ho, h.lf o ho]; congr 1; omega)
/-- No other assignment is worth more. -/
theorem Inv.upper (h : Inv k pass W cap ws A left q) (hn : ws.Nodup) {b : Nat → Option Nat} (hb : Feas k pass cap ws b) : val W b ws ≤ tot k W cap left := by
  have e1 : val W b ws = val (fun o => W o - q o) b ws + val q b ws := by
    rw [← val_add]
    congr 1
    funext o; omega
  have e2 : val q b ws ≤ val q (ownr k A) ws := by
    refine val_le (fun w hw => ?_)
    cases ho : ownr k A w with
    | none =>
      cases hbw : b w with
      | none => exact Int.le_refl _
      | some p =>
        obtain ⟨h1, h2⟩ := hb.ok w hw p hbw
        exact h.qu w hw (ownr_none ho) p h1 h2
    | some o =>
      obtain ⟨h3, h4⟩ := ownr_some ho
      cases hbw : b w with
      | none => exact h.q0 o h3
      | some p =>
        obtain ⟨h1, h2⟩ := hb.ok w hw p hbw
        exact h.qe o h3 w h4 p h1 h2
  rw [val_cnt k q (ownr k A) ws (fun w _ o ho => (ownr_some ho).1)] at e2
  rw [e1, val_cnt k _ b ws (fun w hw o ho => (hb.ok w hw o ho).1)]
  have e3 : sumN k (fun o => cnt b ws o * (W o - q o)) ≤ sumN k (fun o => cap o * (W o - q o)) := sumN_le k (fun o ho => Int.mul_le_mul_of_nonneg_right (hb.le o ho) (by have := h.qW o ho; omega))
  have e4 : sumN k (fun o => cap o * (W o - q o)) + sumN k (fun o => cnt (ownr k A) ws o * q o) = tot k W cap left := by
    rw [← sumN_add]
    refine sumN_eq k (fun o ho => ?_)
    rw [h.cntO hn ho]
    have h1 := h.lf o ho
    have h2 := h.ge o ho
    by_cases h3 : 0 < left o
    · rw [h.qs o ho h3, show ((A o).length : Int) = cap o - left o by omega, Int.sub_self, Int.mul_zero, Int.zero_add]
    · have h4 : left o = 0 := by omega
      rw [show ((A o).length : Int) = cap o by omega, h4, Int.sub_zero, ← Int.mul_add]
      congr 1; omega
  omega
/-! One wafer more -/
theorem Inv.nil (hc : ∀ o, o < k → 0 ≤ cap o) (hW : ∀ o, o < k → 0 ≤ W o) : Inv k pass W cap [] (fun _ => []) cap W := by
  refine ⟨fun _ _ => List.nodup_nil, ?_, ?_, ?_, hc, hW, fun _ _ => Int.le_refl _, fun _ _ _ => rfl, ?_, ?_⟩
  · intro o _ x hx; cases hx
  · intro o _ p _ x hx; cases hx
  · intro o _; simp
  · intro o _ x hx; cases hx
  · intro x hx; cases hx
/-- It finds no place. -/
theorem Inv.stay (h : Inv k pass W cap ws A left q) {w : Nat} (hw : w ∉ ws) (R : Nat → Bool) (r1 : ∀ p, p < k → pass w p = true → R p = true) (r2 : ∀ o, o < k → R o = true → ∀ x, x ∈ A o → ∀ p, p < k → pass x p = true → R p = true) (r3 : ∀ o, o < k → R o = true → left o = 0) : Inv k pass W cap (ws ++ [w]) A left (fun o => if R o = true then 0 else q o) := by
  refine ⟨h.nd, fun o ho x hx => ⟨List.mem_append_left _ (h.sub o ho x hx).1, (h.sub o ho x hx).2⟩, h.dis, h.lf, h.ge, ?_, ?_, ?_, ?_, ?_⟩
  · intro o ho;  have := h.q0 o ho; split <;> omega
  · intro o ho;  have := h.q0 o ho; have := h.qW o ho; split <;> omega
  · intro o ho hl
    rw [if_neg (fun hr => by have := r3 o ho hr; omega)]
    exact h.qs o ho hl
  · intro o ho x hx p hp hpass
    have h1 := h.qe o ho x hx p hp hpass
    have h2 := h.q0 o ho
    by_cases hr : R o = true
    · rw [if_pos hr, if_pos (r2 o ho hr x hx p hp hpass)]; exact Int.le_refl _
    · rw [if_neg hr]; split <;> omega
  · intro x hx hno p hp hpass
    rcases List.mem_append.1 hx with hx | hx
    · have := h.qu x hx hno p hp hpass
      split <;> omega
    · rw [List.mem_singleton] at hx
      subst hx
      rw [if_pos (r1 p hp hpass)]; exact Int.le_refl _
/-- In the midst of a chain: order o waits for a wafer. -/
structure Mid (k : Nat) (pass : Nat → Nat → Bool) (W cap : Nat → Int) (ws : List Nat) (A : Nat → List Nat) (left q : Nat → Int) (R : Nat → Bool) (w o : Nat) (b : Int) : Prop where
  nd : ∀ o, o < k → (A o).Nodup
  sub : ∀ o, o < k → ∀ x, x ∈ A o → x ∈ ws ∧ pass x o = true
  dis : ∀ o, o < k → ∀ p, p < k → ∀ x, x ∈ A o → x ∈ A p → o = p
  lf : ∀ p, p < k → left p = cap p - ((A p).length : Int) - (if p = o then 1 else 0)
  ge : ∀ o, o < k → 0 ≤ left o
  q0 : ∀ o, o < k → 0 ≤ q o
  qW : ∀ o, o < k → q o ≤ W o
  qs : ∀ o, o < k → 0 < left o → q o = W o
  qe : ∀ o, o < k → ∀ x, x ∈ A o → ∀ p, p < k → pass x p = true → q p ≤ q o
  qu : ∀ x, x ∈ ws → (∀ o, o < k → x ∉ A o) → ∀ p, p < k → pass x p = true → q p ≤ 0
  qr : ∀ p, p < k → R p = true → q p ≤ b
  qw : ∀ p, p < k → pass w p = true → q p ≤ b
  qb : q o = b
  lt : o < k
def upd {α : Type} (f : Nat → α) (o : Nat) (v : α) (p : Nat) : α := if p = o then v else f p
theorem upd_eq {α : Type} (f : Nat → α) (o : Nat) (v : α) : upd f o v o = v := if_pos rfl
theorem upd_ne {α : Type} (f : Nat → α) {o p : Nat} (v : α) (h : p ≠ o) : upd f o v p = f p := if_neg h
theorem Inv.start (h : Inv k pass W cap ws A left q) {w : Nat} (R : Nat → Bool) (r1 : ∀ p, p < k → pass w p = true → R p = true) (r2 : ∀ o, o < k → R o = true → ∀ x, x ∈ A o → ∀ p, p < k → pass x p = true → R p = true) {e : Nat} (he : e < k) (hl : 0 < left e) {b : Int} (hb : W e = b) (h0 : 0 ≤ b) (hm : ∀ o, o < k → R o = true → 0 < left o → W o ≤ b) (hR : R e = true) :
    Mid k pass W cap ws A (upd left e (left e - 1)) (fun o => if R o = true then min (q o) b else q o) R w e b := by
  refine ⟨h.nd, h.sub, h.dis, ?_, ?_, ?_, ?_, ?_, ?_, ?_, ?_, ?_, ?_, he⟩
  · intro p hp
    unfold upd
    have := h.lf p hp
    by_cases hpe : p = e
    · subst hpe; simp only [if_true]; omega
    · simp only [if_neg hpe]; omega
  · intro p hp
    unfold upd
    have := h.ge p hp
    by_cases hpe : p = e
    · simp only [if_pos hpe]; omega
    · simp only [if_neg hpe]; omega
  · intro o ho;  have := h.q0 o ho; split <;> omega
  · intro o ho;  have := h.qW o ho; split <;> omega
  · intro o ho hlo
    have hlo' : 0 < left o := by
      unfold upd at hlo
      by_cases hoe : o = e
      · subst hoe; exact hl
      · rwa [if_neg hoe] at hlo
    have h1 := h.qs o ho hlo'
    split
    · rename_i hr
      have := hm o ho hr hlo'
      omega
    · exact h1
  · intro o ho x hx p hp hpass
    have h1 := h.qe o ho x hx p hp hpass
    by_cases hr : R o = true
    · rw [if_pos hr, if_pos (r2 o ho hr x hx p hp hpass)]; omega
    · rw [if_neg hr]; split <;> omega
  · intro x hx hno p hp hpass
    have := h.qu x hx hno p hp hpass
    split <;> omega
  · intro p hp hr;  rw [if_pos hr]; omega
  · intro p hp hpass;  rw [if_pos (r1 p hp hpass)]; omega
  · rw [if_pos hR, h.qs e he hl, hb]; omega
/-- A wafer moves on. -/
theorem Mid.move {R : Nat → Bool} {w o : Nat} {b : Int} (h : Mid k pass W cap ws A left q R w o b) {f x : Nat} (hf : f < k) (hfo : f ≠ o) (hR : R f = true) (hx : x ∈ A f) (hp : pass x o = true) :
    Mid k pass W cap ws (upd (upd A o (A o ++ [x])) f ((A f).erase x)) left q R w f b := by
  have hqf : q f = b := by
    have h1 := h.qe f hf x hx o h.lt hp
    have h2 := h.qr f hf hR
    have h3 := h.qb
    omega
  have hA : ∀ p, p < k → ∀ y, y ∈ upd (upd A o (A o ++ [x])) f ((A f).erase x) p → (y ∈ A p ∧ ¬ (y = x)) ∨ (p = o ∧ y = x) := by
    intro p hpk y hy
    by_cases hpf : p = f
    · subst hpf
      rw [upd_eq] at hy
      exact .inl ⟨List.mem_of_mem_erase hy, fun e => by subst e; exact (h.nd p hpk).not_mem_erase hy⟩
    · rw [upd_ne _ _ hpf] at hy
      by_cases hpo : p = o
      · subst hpo
        rw [upd_eq] at hy
        rcases List.mem_append.1 hy with hy' | hy
        · exact .inl ⟨hy', fun e => by subst e; exact hpf (h.dis p hpk f hf y hy' hx)⟩
        · exact .inr ⟨rfl, by simpa using hy⟩
      · rw [upd_ne _ _ hpo] at hy
        exact .inl ⟨hy, fun e => by subst e; exact hpf (h.dis p hpk f hf y hy hx)⟩
  have hxo : x ∉ A o := fun hxo => hfo (h.dis f hf o h.lt x hx hxo)
  refine ⟨?_, ?_, ?_, ?_, h.ge, h.q0, h.qW, h.qs, ?_, ?_, h.qr, h.qw, hqf, hf⟩
  · intro p hpk
    by_cases hpf : p = f
    · subst hpf; rw [upd_eq]; exact (h.nd p hpk).erase x
    · rw [upd_ne _ _ hpf]
      by_cases hpo : p = o
      · subst hpo; rw [upd_eq]
        rw [List.nodup_append]
        refine ⟨h.nd p hpk, by simp, ?_⟩
        intro y hy z hz e
        rw [List.mem_singleton] at hz
        subst hz; subst e; exact hxo hy
      · rw [upd_ne _ _ hpo]; exact h.nd p hpk
  · intro p hpk y hy
    rcases hA p hpk y hy with ⟨h1, _⟩ | ⟨rfl, rfl⟩
    · exact h.sub p hpk y h1
    · exact ⟨(h.sub f hf y hx).1, hp⟩
  · intro p hpk r hr y hy hz
    rcases hA p hpk y hy with ⟨h1, h2⟩ | ⟨h1, h2⟩
    · rcases hA r hr y hz with ⟨h3, _⟩ | ⟨_, h4⟩
      · exact h.dis p hpk r hr y h1 h3
      · exact absurd h4 h2
    · rcases hA r hr y hz with ⟨_, h4⟩ | ⟨h3, _⟩
      · exact absurd h2 h4
      · rw [h1, h3]
  · intro p hpk
    have h1 := h.lf p hpk
    by_cases hpf : p = f
    · subst hpf
      rw [upd_eq, if_pos rfl, List.length_erase_of_mem hx]
      rw [if_neg hfo] at h1
      have := List.length_pos_of_mem hx
      omega
    · rw [upd_ne _ _ hpf, if_neg hpf]
      by_cases hpo : p = o
      · subst hpo
        rw [upd_eq, List.length_append]
        rw [if_pos rfl] at h1
        simp only [List.length_singleton]; omega
      · rw [upd_ne _ _ hpo]
        rw [if_neg hpo] at h1; omega
  · intro p hpk y hy r hr hpass
    rcases hA p hpk y hy with ⟨h1, _⟩ | ⟨rfl, rfl⟩
    · exact h.qe p hpk y h1 r hr hpass
    · have := h.qe f hf y hx r hr hpass
      have := h.qb
      omega
  · intro y hy hno p hpk hpass
    refine h.qu y hy (fun r hr hyr => ?_) p hpk hpass
    by_cases hyx : y = x
    · subst hyx
      refine hno o h.lt ?_
      rw [upd_ne _ _ (Ne.symm hfo), upd_eq]; simp
    · refine hno r hr ?_
      by_cases hrf : r = f
      · subst hrf; rw [upd_eq]; exact (List.mem_erase_of_ne hyx).2 hyr
      · rw [upd_ne _ _ hrf]
        by_cases hro : r = o
        · subst hro; rw [upd_eq]; exact List.mem_append_left _ hyr
        · rw [upd_ne _ _ hro]; exact hyr
/-- The new wafer comes in. -/
theorem Mid.last {R : Nat → Bool} {w o : Nat} {b : Int} (h : Mid k pass W cap ws A left q R w o b) (hw : w ∉ ws) (hp : pass w o = true) :
    Inv k pass W cap (ws ++ [w]) (upd A o (A o ++ [w])) left q := by
  have hno : ∀ p, p < k → w ∉ A p := fun p hpk hx => hw (h.sub p hpk w hx).1
  have hA : ∀ p, p < k → ∀ y, y ∈ upd A o (A o ++ [w]) p → (y ∈ A p ∧ y ≠ w) ∨ (p = o ∧ y = w) := by
    intro p hpk y hy
    by_cases hpo : p = o
    · subst hpo
      rw [upd_eq] at hy
      rcases List.mem_append.1 hy with hy' | hy
      · exact .inl ⟨hy', fun e => by subst e; exact hno p hpk hy'⟩
      · exact .inr ⟨rfl, by simpa using hy⟩
    · rw [upd_ne _ _ hpo] at hy
      exact .inl ⟨hy, fun e => by subst e; exact hno p hpk hy⟩
  refine ⟨?_, ?_, ?_, ?_, h.ge, h.q0, h.qW, h.qs, ?_, ?_⟩
  · intro p hpk
    by_cases hpo : p = o
    · subst hpo; rw [upd_eq, List.nodup_append]
      refine ⟨h.nd p hpk, by simp, ?_⟩
      intro y hy z hz e
      rw [List.mem_singleton] at hz
      subst hz; subst e; exact hno p hpk hy
    · rw [upd_ne _ _ hpo]; exact h.nd p hpk
  · intro p hpk y hy
    rcases hA p hpk y hy with ⟨h1, _⟩ | ⟨rfl, rfl⟩
    · exact ⟨List.mem_append_left _ (h.sub p hpk y h1).1, (h.sub p hpk y h1).2⟩
    · exact ⟨by simp, hp⟩
  · intro p hpk r hr y hy hz
    rcases hA p hpk y hy with ⟨h1, h2⟩ | ⟨h1, h2⟩
    · rcases hA r hr y hz with ⟨h3, _⟩ | ⟨_, h4⟩
      · exact h.dis p hpk r hr y h1 h3
      · exact absurd h4 h2
    · rcases hA r hr y hz with ⟨_, h4⟩ | ⟨h3, _⟩
      · exact absurd h2 h4
      · rw [h1, h3]
  · intro p hpk
    have h1 := h.lf p hpk
    by_cases hpo : p = o
    · subst hpo
      rw [upd_eq, List.length_append]
      rw [if_pos rfl] at h1
      simp only [List.length_singleton]; omega
    · rw [upd_ne _ _ hpo]
      rw [if_neg hpo] at h1; omega
  · intro p hpk y hy r hr hpass
    rcases hA p hpk y hy with ⟨h1, _⟩ | ⟨rfl, rfl⟩
    · exact h.qe p hpk y h1 r hr hpass
    · have := h.qw r hr hpass
      have := h.qb
      omega
  · intro y hy hny p hpk hpass
    rcases List.mem_append.1 hy with hy | hy
    · refine h.qu y hy (fun r hr hyr => ?_) p hpk hpass
      refine hny r hr ?_
      by_cases hro : r = o
      · subst hro; rw [upd_eq]; exact List.mem_append_left _ hyr
      · rw [upd_ne _ _ hro]; exact hyr
    · rw [List.mem_singleton] at hy
      subst hy
      exact absurd (show y ∈ upd A o (A o ++ [y]) o by rw [upd_eq]; simp) (hny o h.lt)
end
theorem tot_dec (k : Nat) (W cap left : Nat → Int) {e : Nat} (he : e < k) : tot k W cap (upd left e (left e - 1)) = tot k W cap left + W e := by
  unfold tot
  rw [← sumN_one k e (W e) he, ← sumN_add]
  refine sumN_eq k (fun o _ => ?_)
  by_cases h : o = e
  · subst h
    rw [upd_eq, if_pos rfl, show cap o - (left o - 1) = (cap o - left o) + 1 by omega, Int.add_mul, Int.one_mul]
  · rw [upd_ne _ _ h, if_neg h, Int.add_zero]
theorem tot_cap (k : Nat) (W cap : Nat → Int) : tot k W cap cap = 0 := by
  unfold tot
  rw [sumN_eq k (g := fun _ => 0) (fun o _ => by rw [Int.sub_self, Int.zero_mul]), sumN_zero]
end Mt
end Go.Proofs.YtbepdcodkecboaaDoor


namespace Go.Proofs.YtbepdcodkecboaaDoor
namespace Mt
theorem val_upd (g : Nat → Int) (a : Nat → Option Nat) (w : Nat) (x : Option Nat) : ∀ ws : List Nat, ws.Nodup → w ∈ ws → val g (upd a w x) ws = val g a ws - gv g (a w) + gv g x
  | y :: ws, hn, hw => by
    rw [List.nodup_cons] at hn
    simp only [val]
    by_cases e : w = y
    · subst e
      rw [upd_eq, val_congr (ws := ws) (a := upd a w x) (b := a) (fun z hz => upd_ne a x (fun e => by subst e; exact hn.1 hz))]; omega
    · have hw' : w ∈ ws := by rcases List.mem_cons.1 hw with h | h; exact absurd h e; exact h
      rw [upd_ne _ _ (Ne.symm e), val_upd g a w x ws hn.2 hw']; omega
theorem cnt_upd (a : Nat → Option Nat) (w : Nat) (x : Option Nat) (o : Nat) : ∀ ws : List Nat, ws.Nodup → w ∈ ws → cnt (upd a w x) ws o = cnt a ws o - (if a w = some o then 1 else 0) + (if x = some o then 1 else 0)
  | y :: ws, hn, hw => by
    rw [List.nodup_cons] at hn
    rw [cnt_cons, cnt_cons]
    by_cases e : w = y
    · subst e
      rw [upd_eq, cnt_congr (ws := ws) (a := upd a w x) (b := a) (fun z hz => upd_ne a x (fun e => by subst e; exact hn.1 hz))]; omega
    · have hw' : w ∈ ws := by rcases List.mem_cons.1 hw with h | h; exact absurd h e; exact h
      rw [upd_ne _ _ (Ne.symm e), cnt_upd a w x o ws hn.2 hw']; omega
/-- Order o has one place that is empty. -/
structure Hole (k : Nat) (pass : Nat → Nat → Bool) (W cap : Nat → Int) (ws : List Nat) (A : Nat → List Nat) (left q : Nat → Int) (o : Nat) (b : Int) : Prop where
  nd : ∀ o, o < k → (A o).Nodup
  sub : ∀ o, o < k → ∀ x, x ∈ A o → x ∈ ws ∧ pass x o = true
  dis : ∀ o, o < k → ∀ p, p < k → ∀ x, x ∈ A o → x ∈ A p → o = p
  lf : ∀ p, p < k → left p = cap p - ((A p).length : Int) - (if p = o then 1 else 0)
  ge : ∀ o, o < k → 0 ≤ left o
  q0 : ∀ o, o < k → 0 ≤ q o
  qW : ∀ o, o < k → q o ≤ W o
  qs : ∀ o, o < k → 0 < left o → q o = W o
  qe : ∀ o, o < k → ∀ x, x ∈ A o → ∀ p, p < k → pass x p = true → q p ≤ q o
  qu : ∀ x, x ∈ ws → (∀ o, o < k → x ∉ A o) → ∀ p, p < k → pass x p = true → q p ≤ 0
  qb : q o = b
  lt : o < k
section
variable {k : Nat} {pass : Nat → Nat → Bool} {W cap : Nat → Int} {ws : List Nat} {A : Nat → List Nat} {left q : Nat → Int}
theorem Hole.move {o : Nat} {b : Int} (h : Hole k pass W cap ws A left q o b) {f x : Nat} (hf : f < k) (hfo : f ≠ o) (hqf : q f = b) (hx : x ∈ A f) (hp : pass x o = true) :
    Hole k pass W cap ws (upd (upd A o (A o ++ [x])) f ((A f).erase x)) left q f b := by
  have hA : ∀ p, p < k → ∀ y, y ∈ upd (upd A o (A o ++ [x])) f ((A f).erase x) p → (y ∈ A p ∧ ¬ (y = x)) ∨ (p = o ∧ y = x) := by
    intro p hpk y hy
    by_cases hpf : p = f
    · subst hpf
      rw [upd_eq] at hy
      exact .inl ⟨List.mem_of_mem_erase hy, fun e => by subst e; exact (h.nd p hpk).not_mem_erase hy⟩
    · rw [upd_ne _ _ hpf] at hy
      by_cases hpo : p = o
      · subst hpo
        rw [upd_eq] at hy
        rcases List.mem_append.1 hy with hy' | hy
        · exact .inl ⟨hy', fun e => by subst e; exact hpf (h.dis p hpk f hf y hy' hx)⟩
        · exact .inr ⟨rfl, by simpa using hy⟩
      · rw [upd_ne _ _ hpo] at hy
        exact .inl ⟨hy, fun e => by subst e; exact hpf (h.dis p hpk f hf y hy hx)⟩
  have hxo : x ∉ A o := fun hxo => hfo (h.dis f hf o h.lt x hx hxo)
  refine ⟨?_, ?_, ?_, ?_, h.ge, h.q0, h.qW, h.qs, ?_, ?_, hqf, hf⟩
  · intro p hpk
    by_cases hpf : p = f
    · subst hpf; rw [upd_eq]; exact (h.nd p hpk).erase x
    · rw [upd_ne _ _ hpf]
      by_cases hpo : p = o
      · subst hpo; rw [upd_eq]
        rw [List.nodup_append]
        refine ⟨h.nd p hpk, by simp, ?_⟩
        intro y hy z hz e
        rw [List.mem_singleton] at hz
        subst hz; subst e; exact hxo hy
      · rw [upd_ne _ _ hpo]; exact h.nd p hpk
  · intro p hpk y hy
    rcases hA p hpk y hy with ⟨h1, _⟩ | ⟨rfl, rfl⟩
    · exact h.sub p hpk y h1
    · exact ⟨(h.sub f hf y hx).1, hp⟩
  · intro p hpk r hr y hy hz
    rcases hA p hpk y hy with ⟨h1, h2⟩ | ⟨h1, h2⟩
    · rcases hA r hr y hz with ⟨h3, _⟩ | ⟨_, h4⟩
      · exact h.dis p hpk r hr y h1 h3
      · exact absurd h4 h2
    · rcases hA r hr y hz with ⟨_, h4⟩ | ⟨h3, _⟩
      · exact absurd h2 h4
      · rw [h1, h3]
  · intro p hpk
    have h1 := h.lf p hpk
    by_cases hpf : p = f
    · subst hpf
      rw [upd_eq, if_pos rfl, List.length_erase_of_mem hx]
      rw [if_neg hfo] at h1
      have := List.length_pos_of_mem hx
      omega
    · rw [upd_ne _ _ hpf, if_neg hpf]
      by_cases hpo : p = o
      · subst hpo
        rw [upd_eq, List.length_append]
        rw [if_pos rfl] at h1
        simp only [List.length_singleton]; omega
      · rw [upd_ne _ _ hpo]
        rw [if_neg hpo] at h1; omega
  · intro p hpk y hy r hr hpass
    rcases hA p hpk y hy with ⟨h1, _⟩ | ⟨rfl, rfl⟩
    · exact h.qe p hpk y h1 r hr hpass
    · have := h.qe f hf y hx r hr hpass
      have := h.qb
      omega
  · intro y hy hno p hpk hpass
    refine h.qu y hy (fun r hr hyr => ?_) p hpk hpass
    by_cases hyx : y = x
    · subst hyx
      refine hno o h.lt ?_
      rw [upd_ne _ _ (Ne.symm hfo), upd_eq]; simp
    · refine hno r hr ?_
      by_cases hrf : r = f
      · subst hrf; rw [upd_eq]; exact (List.mem_erase_of_ne hyx).2 hyr
      · rw [upd_ne _ _ hrf]
        by_cases hro : r = o
        · subst hro; rw [upd_eq]; exact List.mem_append_left _ hyr
        · rw [upd_ne _ _ hro]; exact hyr
/-- The place stays empty. -/
theorem Hole.stop {o : Nat} {b : Int} (h : Hole k pass W cap ws A left q o b) (hb : W o = b) : Inv k pass W cap ws A (upd left o (left o + 1)) q := by
  refine ⟨h.nd, h.sub, h.dis, fun p hp => ?_, fun p hp => ?_, h.q0, h.qW, fun p hp hl => ?_, h.qe, h.qu⟩
  · have h1 := h.lf p hp
    by_cases e : p = o
    · subst e; rw [upd_eq]; rw [if_pos rfl] at h1; omega
    · rw [upd_ne _ _ e]; rw [if_neg e] at h1; omega
  · have h1 := h.ge p hp
    by_cases e : p = o
    · subst e; rw [upd_eq]; omega
    · rw [upd_ne _ _ e]; exact h1
  · by_cases e : p = o
    · subst e; rw [h.qb, hb]
    · rw [upd_ne _ _ e] at hl; exact h.qs p hp hl
/-- A wafer that had no place takes it. -/
theorem Hole.fill {o : Nat} {b : Int} (h : Hole k pass W cap ws A left q o b) {u : Nat} (hu : u ∈ ws) (hno : ∀ p, p < k → u ∉ A p) (hp : pass u o = true) (hb : b = 0) : Inv k pass W cap ws (upd A o (A o ++ [u])) left q := by
  have hA : ∀ p, p < k → ∀ y, y ∈ upd A o (A o ++ [u]) p → (y ∈ A p ∧ y ≠ u) ∨ (p = o ∧ y = u) := by
    intro p hpk y hy
    by_cases hpo : p = o
    · subst hpo
      rw [upd_eq] at hy
      rcases List.mem_append.1 hy with hy' | hy
      · exact .inl ⟨hy', fun e => by subst e; exact hno p hpk hy'⟩
      · exact .inr ⟨rfl, by simpa using hy⟩
    · rw [upd_ne _ _ hpo] at hy
      exact .inl ⟨hy, fun e => by subst e; exact hno p hpk hy⟩
  refine ⟨?_, ?_, ?_, ?_, h.ge, h.q0, h.qW, h.qs, ?_, ?_⟩
  · intro p hpk
    by_cases hpo : p = o
    · subst hpo; rw [upd_eq, List.nodup_append]
      refine ⟨h.nd p hpk, by simp, ?_⟩
      intro y hy z hz e
      rw [List.mem_singleton] at hz
      subst hz; subst e; exact hno p hpk hy
    · rw [upd_ne _ _ hpo]; exact h.nd p hpk
  · intro p hpk y hy
    rcases hA p hpk y hy with ⟨h1, _⟩ | ⟨rfl, rfl⟩
    · exact h.sub p hpk y h1
    · exact ⟨hu, hp⟩
  · intro p hpk r hr y hy hz
    rcases hA p hpk y hy with ⟨h1, h2⟩ | ⟨h1, h2⟩
    · rcases hA r hr y hz with ⟨h3, _⟩ | ⟨_, h4⟩
      · exact h.dis p hpk r hr y h1 h3
      · exact absurd h4 h2
    · rcases hA r hr y hz with ⟨_, h4⟩ | ⟨h3, _⟩
      · exact absurd h2 h4
      · rw [h1, h3]
  · intro p hpk
    have h1 := h.lf p hpk
    by_cases hpo : p = o
    · subst hpo
      rw [upd_eq, List.length_append]
      rw [if_pos rfl] at h1
      simp only [List.length_singleton]; omega
    · rw [upd_ne _ _ hpo]
      rw [if_neg hpo] at h1; omega
  · intro p hpk y hy r hr hpass
    rcases hA p hpk y hy with ⟨h1, _⟩ | ⟨rfl, rfl⟩
    · exact h.qe p hpk y h1 r hr hpass
    · have := h.qu y hu hno r hr hpass
      have := h.qb
      omega
  · intro y hy hny p hpk hpass
    refine h.qu y hy (fun r hr hyr => ?_) p hpk hpass
    refine hny r hr ?_
    by_cases hro : r = o
    · subst hro; rw [upd_eq]; exact List.mem_append_left _ hyr
    · rw [upd_ne _ _ hro]; exact hyr
/-- A chain of orders, each of which has a wafer that passes for the one before. -/
def Lk (k : Nat) (pass : Nat → Nat → Bool) (A : Nat → List Nat) : List Nat → Prop
  | [] => False
  | [_] => True
  | o :: p :: l => (p < k ∧ ∃ x, x ∈ A p ∧ pass x o = true) ∧ Lk k pass A (p :: l)
theorem Lk.pre : ∀ (s : List Nat) {f : Nat} {t : List Nat}, Lk k pass A (s ++ f :: t) → Lk k pass A (s ++ [f])
  | [], _, _, _ => trivial
  | [o], f, t, h => by
    cases t with
    | nil => exact h
    | cons y t => exact ⟨h.1, trivial⟩
  | o :: p :: s, f, t, h => ⟨h.1, Lk.pre (p :: s) h.2⟩
theorem Lk.snoc : ∀ (s : List Nat) {p f : Nat}, Lk k pass A (s ++ [p]) → f < k → (∃ x, x ∈ A f ∧ pass x p = true) → Lk k pass A (s ++ [p] ++ [f])
  | [], p, f, _, hf, hx => ⟨⟨hf, hx⟩, trivial⟩
  | [o], p, f, h, hf, hx => ⟨h.1, ⟨hf, hx⟩, trivial⟩
  | o :: q' :: s, p, f, h, hf, hx => ⟨h.1, Lk.snoc (q' :: s) h.2 hf hx⟩
/-- An order from which a chain leads to o. -/
def Rch (k : Nat) (pass : Nat → Nat → Bool) (A : Nat → List Nat) (o p : Nat) : Prop := ∃ s, Lk k pass A (s ++ [p]) ∧ (s ++ [p]).Nodup ∧ (s ++ [p]).head? = some o
theorem Rch.refl (o : Nat) : Rch k pass A o o := ⟨[], trivial, by simp, rfl⟩
theorem Rch.step {o p f x : Nat} (h : Rch k pass A o p) (hf : f < k) (hx : x ∈ A f) (hp : pass x p = true) : Rch k pass A o f := by
  obtain ⟨s, h1, h2, h3⟩ := h
  by_cases hm : f ∈ s ++ [p]
  · obtain ⟨u, t, e⟩ := List.append_of_mem hm
    rw [e] at h1 h2 h3
    refine ⟨u, Lk.pre u h1, ?_, ?_⟩
    · have : (u ++ [f]).Sublist (u ++ f :: t) := by
        rw [show u ++ f :: t = (u ++ [f]) ++ t by simp]; exact List.sublist_append_left _ _
      exact h2.sublist this
    · cases u with
      | nil => simpa using h3
      | cons y u => simpa using h3
  · refine ⟨s ++ [p], Lk.snoc s h1 hf ⟨x, hx, hp⟩, ?_, ?_⟩
    · rw [List.nodup_append]
      exact ⟨h2, by simp, fun a ha b hb e => by rw [List.mem_singleton] at hb; subst hb; subst e; exact hm ha⟩
    · cases s with
      | nil => simpa using h3
      | cons y s => simpa using h3
theorem Rch.mid {o p : Nat} {s : List Nat} (h1 : Lk k pass A (s ++ [p])) (h2 : (s ++ [p]).Nodup) (h3 : (s ++ [p]).head? = some o) : ∀ f, f ∈ s ++ [p] → Rch k pass A o f := by
  intro f hm
  obtain ⟨u, t, e⟩ := List.append_of_mem hm
  rw [e] at h1 h2 h3
  refine ⟨u, Lk.pre u h1, ?_, ?_⟩
  · have : (u ++ [f]).Sublist (u ++ f :: t) := by
      rw [show u ++ f :: t = (u ++ [f]) ++ t by simp]; exact List.sublist_append_left _ _
    exact h2.sublist this
  · cases u with
    | nil => simpa using h3
    | cons y u => simpa using h3
theorem Rch.lt {o p : Nat} (ho : o < k) (h : Rch k pass A o p) : p < k := by
  obtain ⟨s, h1, _, h3⟩ := h
  have : ∀ (s : List Nat), (∀ y, (s ++ [p]).head? = some y → y < k) → Lk k pass A (s ++ [p]) → p < k := by
    intro s
    induction s with
    | nil => intro hh _; exact hh p rfl
    | cons y s ih =>
      intro hh hl
      refine ih (fun z hz => ?_) ?_
      · cases s with
        | nil =>
          have : p = z := by simpa using hz
          subst this; exact hl.1.1
        | cons w s =>
          have : w = z := by simpa using hz
          subst this; exact hl.1.1
      · cases s with
        | nil => trivial
        | cons w s => exact hl.2
  exact this s (fun y hy => by rw [h3] at hy; cases hy; exact ho) h1
/-- The empty place wanders along a chain. -/
theorem Hole.walk {A0 : Nat → List Nat} {b : Int} : ∀ (l : List Nat) (o : Nat) (A : Nat → List Nat), Hole k pass W cap ws A left q o b → Lk k pass A0 (o :: l) → (o :: l).Nodup → (∀ p, p ∈ l → A p = A0 p) → (∀ p, p ∈ l → q p = b) →
    ∃ A', Hole k pass W cap ws A' left q ((o :: l).getLast (by simp)) b ∧ (∀ p, p ∉ l → ∀ x, x ∈ A p → x ∈ A' p) ∧ ∀ y, y ∈ ws → (∀ p, p < k → y ∉ A p) → ∀ p, p < k → y ∉ A' p
  | [], o, A, h, _, _, _, _ => ⟨A, h, fun _ _ _ hx => hx, fun _ _ hy => hy⟩
  | f :: l, o, A, h, hl, hn, hs, hq => by
    obtain ⟨⟨hf, x, hx, hp⟩, hl2⟩ := hl
    rw [List.nodup_cons] at hn
    have hfo : f ≠ o := fun e => hn.1 (by rw [e]; simp)
    have hx' : x ∈ A f := by rw [hs f List.mem_cons_self]; exact hx
    have hn2 := hn.2
    rw [List.nodup_cons] at hn2
    obtain ⟨A', g1, g2, g3⟩ := Hole.walk l f _ (h.move hf hfo (hq f List.mem_cons_self) hx' hp) hl2 hn.2 (fun p hp' => by
      have e1 : p ≠ f := fun e => hn2.1 (e ▸ hp')
      have e2 : p ≠ o := fun e => hn.1 (List.mem_cons_of_mem _ (e ▸ hp'))
      rw [upd_ne _ _ e1, upd_ne _ _ e2]; exact hs p (List.mem_cons_of_mem _ hp')) (fun p hp' => hq p (List.mem_cons_of_mem _ hp'))
    refine ⟨A', by simpa using g1, fun p hpn y hy => ?_, fun y hy hno p hpk => ?_⟩
    · rw [List.mem_cons, not_or] at hpn
      refine g2 p hpn.2 y ?_
      rw [upd_ne _ _ hpn.1]
      by_cases e : p = o
      · subst e; rw [upd_eq]; exact List.mem_append_left _ hy
      · rw [upd_ne _ _ e]; exact hy
    · refine g3 y hy (fun r hr hyr => ?_) p hpk
      by_cases e1 : r = f
      · subst e1; rw [upd_eq] at hyr; exact hno r hr (List.mem_of_mem_erase hyr)
      · rw [upd_ne _ _ e1] at hyr
        by_cases e2 : r = o
        · subst e2; rw [upd_eq] at hyr
          rcases List.mem_append.1 hyr with h1 | h1
          · exact hno r hr h1
          · rw [List.mem_singleton] at h1; subst h1; exact hno f hf hx'
        · rw [upd_ne _ _ e2] at hyr; exact hno r hr hyr
theorem exMin (W : Nat → Int) (P : Nat → Prop) : ∀ n, (∃ p, p < n ∧ P p) → ∃ p, p < n ∧ P p ∧ ∀ r, r < n → P r → W p ≤ W r
  | 0, ⟨p, h, _⟩ => by omega
  | n + 1, ⟨p, h, hp⟩ => by
    by_cases hx : ∃ p, p < n ∧ P p
    · obtain ⟨m, h1, h2, h3⟩ := exMin W P n hx
      by_cases hn : P n ∧ W n < W m
      · refine ⟨n, by omega, hn.1, fun r hr hPr => ?_⟩
        by_cases e : r = n
        · subst e; exact Int.le_refl _
        · have := h3 r (by omega) hPr; omega
      · refine ⟨m, by omega, h2, fun r hr hPr => ?_⟩
        by_cases e : r = n
        · subst e
          have : ¬ W r < W m := fun hh => hn ⟨hPr, hh⟩
          omega
        · exact h3 r (by omega) hPr
    · have e : p = n := by
        rcases Nat.lt_or_ge p n with h4 | h4
        · exact absurd ⟨p, h4, hp⟩ hx
        · omega
      subst e
      refine ⟨p, by omega, hp, fun r hr hPr => ?_⟩
      by_cases e : r = p
      · subst e; exact Int.le_refl _
      · exact absurd ⟨r, by omega, hPr⟩ hx
theorem Lk.val_le {q' : Nat → Int} (hq : ∀ o, o < k → ∀ x, x ∈ A o → ∀ p, p < k → pass x p = true → q' p ≤ q' o) : ∀ (l : List Nat) (o : Nat), o < k → Lk k pass A (o :: l) → ∀ p, p ∈ o :: l → q' p ≤ q' ((o :: l).getLast (by simp))
  | [], o, _, _, p, hp => by
    rw [List.mem_singleton] at hp; subst hp; exact Int.le_refl _
  | f :: l, o, ho, hl, p, hp => by
    obtain ⟨⟨hf, x, hx, hpx⟩, hl2⟩ := hl
    have ih := Lk.val_le hq l f hf hl2
    have hlast : (o :: f :: l).getLast (by simp) = (f :: l).getLast (by simp) := by simp
    rw [hlast]
    rcases List.mem_cons.1 hp with rfl | hp
    · have h1 := hq f hf x hx p ho hpx
      have h2 := ih f List.mem_cons_self
      omega
    · exact ih p hp
open Classical in
/-- With one place more in an order: what was there stays there. -/
theorem Inv.aug (h : Inv k pass W cap ws A left q) (hW : ∀ o, o < k → 0 ≤ W o) {o : Nat} (ho : o < k) : ∃ A' left' q', Inv k pass W (upd cap o (cap o + 1)) ws A' left' q' ∧ ∀ x, x ∈ A o → x ∈ A' o := by
  -- who can come
  let U : Prop := ∃ u r, u ∈ ws ∧ (∀ p, p < k → u ∉ A p) ∧ pass u r = true ∧ r < k ∧ Rch k pass A o r
  obtain ⟨m, m1, m2, m3⟩ := exMin W (Rch k pass A o) k ⟨o, ho, Rch.refl o⟩
  let b : Int := if U then 0 else W m
  have hb0 : 0 ≤ b := by
    show 0 ≤ (if U then 0 else W m)
    split
    · exact Int.le_refl _
    · exact hW m m1
  have hbW : ∀ p, p < k → Rch k pass A o p → b ≤ W p := by
    intro p hp hr
    show (if U then 0 else W m) ≤ W p
    split
    · exact hW p hp
    · exact m3 p hp hr
  let q' : Nat → Int := fun p => if Rch k pass A o p then max (q p) b else q p
  have q'r : ∀ p, Rch k pass A o p → q' p = max (q p) b := fun p hr => if_pos hr
  have q'n : ∀ p, ¬ Rch k pass A o p → q' p = q p := fun p hr => if_neg hr
  have hqe' : ∀ o, o < k → ∀ x, x ∈ A o → ∀ p, p < k → pass x p = true → q' p ≤ q' o := by
    intro f hf x hx p hp hpx
    have h1 := h.qe f hf x hx p hp hpx
    by_cases hr : Rch k pass A o p
    · rw [q'r p hr, q'r f (hr.step hf hx hpx)]; omega
    · rw [q'n p hr]
      by_cases hr2 : Rch k pass A o f
      · rw [q'r f hr2]; omega
      · rw [q'n f hr2]; exact h1
  have hqu' : ∀ x, x ∈ ws → (∀ o, o < k → x ∉ A o) → ∀ p, p < k → pass x p = true → q' p ≤ 0 := by
    intro x hx hno p hp hpx
    have h1 := h.qu x hx hno p hp hpx
    by_cases hr : Rch k pass A o p
    · have hU : U := ⟨x, p, hx, hno, hpx, hp, hr⟩
      have : b = 0 := if_pos hU
      rw [q'r p hr]; omega
    · rw [q'n p hr]; exact h1
  -- a chain at whose end the price is b
  have key : ∀ r, Rch k pass A o r → q' r = b → ∃ A', Hole k pass W (upd cap o (cap o + 1)) ws A' left q' r b ∧ (∀ x, x ∈ A o → x ∈ A' o) ∧ ∀ y, y ∈ ws → (∀ p, p < k → y ∉ A p) → ∀ p, p < k → y ∉ A' p := by
    intro r hr hqr
    obtain ⟨s, s1, s2, s3⟩ := hr
    have hmid := Rch.mid s1 s2 s3
    obtain ⟨l, e⟩ : ∃ l, s ++ [r] = o :: l := by
      cases s with
      | nil => exact ⟨[], by simpa using s3⟩
      | cons y s => exact ⟨s ++ [r], by have : y = o := by simpa using s3
                                        rw [this]; rfl⟩
    have hlast : (o :: l).getLast (by simp) = r := by
      have : (s ++ [r]).getLast (by simp) = r := by simp
      simp only [e] at this; exact this
    rw [e] at s1 s2 hmid
    have hle := Lk.val_le hqe' l o ho s1
    rw [hlast, hqr] at hle
    have hqp : ∀ p, p ∈ o :: l → q' p = b := fun p hp => by
      have h1 := hle p hp
      rw [q'r p (hmid p hp)] at h1 ⊢
      omega
    have hH : Hole k pass W (upd cap o (cap o + 1)) ws A left q' o b := by
      refine ⟨h.nd, h.sub, h.dis, fun p hp => ?_, h.ge, fun p hp => ?_, fun p hp => ?_, fun p hp hl => ?_, hqe', hqu', hqp o List.mem_cons_self, ho⟩
      · have h1 := h.lf p hp
        by_cases e : p = o
        · subst e; rw [upd_eq, if_pos rfl]; omega
        · rw [upd_ne _ _ e, if_neg e]; omega
      · have h1 := h.q0 p hp
        by_cases hr : Rch k pass A o p
        · rw [q'r p hr]; omega
        · rw [q'n p hr]; exact h1
      · have h1 := h.qW p hp
        by_cases hr : Rch k pass A o p
        · have := hbW p hp hr
          rw [q'r p hr]; omega
        · rw [q'n p hr]; exact h1
      · have h1 := h.qs p hp hl
        by_cases hr : Rch k pass A o p
        · have := hbW p hp hr
          rw [q'r p hr]; omega
        · rw [q'n p hr]; exact h1
    obtain ⟨A', g1, g2, g3⟩ := Hole.walk (A0 := A) l o A hH s1 s2 (fun _ _ => rfl) (fun p hp => hqp p (List.mem_cons_of_mem _ hp))
    rw [hlast] at g1
    rw [List.nodup_cons] at s2
    exact ⟨A', g1, g2 o s2.1, g3⟩
  by_cases hU : U
  · have hb : b = 0 := if_pos hU
    obtain ⟨u, r, u1, u2, u3, u4, u5⟩ := hU
    have h1 := hqu' u u1 u2 r u4 u3
    obtain ⟨A', g1, g2, g3⟩ := key r u5 (by rw [q'r r u5] at h1 ⊢; omega)
    refine ⟨_, left, q', g1.fill u1 (g3 u u1 u2) u3 hb, fun x hx => ?_⟩
    by_cases e : o = r
    · subst e; rw [upd_eq]; exact List.mem_append_left _ (g2 x hx)
    · rw [upd_ne _ _ e]; exact g2 x hx
  · have hb : b = W m := if_neg hU
    have h1 := h.qW m m1
    obtain ⟨A', g1, g2, _⟩ := key m m2 (by rw [q'r m m2]; omega)
    exact ⟨A', _, q', g1.stop hb.symm, g2⟩
end
end Mt
end Go.Proofs.YtbepdcodkecboaaDoor


namespace Go.Proofs.YtbepdcodkecboaaDoor
namespace Mt
def sumL (f : Nat → Int) : List Nat → Int
  | [] => 0
  | w :: ws => f w + sumL f ws
theorem sumL_val (f : Nat → Int) (g : Nat → Int) (a : Nat → Option Nat) : ∀ ws : List Nat, (∀ w, w ∈ ws → f w = gv g (a w)) → sumL f ws = val g a ws
  | [], _ => rfl
  | w :: ws, h => by
    simp only [sumL, val, h w List.mem_cons_self, sumL_val f g a ws (fun x hx => h x (List.mem_cons_of_mem _ hx))]
structure IsMax (k : Nat) (pass : Nat → Nat → Bool) (W cap : Nat → Int) (ws : List Nat) (m : Int) : Prop where
  up : ∀ a, Feas k pass cap ws a → val W a ws ≤ m
  got : ∃ a, Feas k pass cap ws a ∧ val W a ws = m
section
variable {k : Nat} {pass : Nat → Nat → Bool} {W cap : Nat → Int} {ws : List Nat} {A : Nat → List Nat} {left q : Nat → Int}
theorem Inv.isMax (h : Inv k pass W cap ws A left q) (hn : ws.Nodup) : IsMax k pass W cap ws (tot k W cap left) := ⟨fun _ ha => h.upper hn ha, ⟨_, h.feas hn, h.val_own hn⟩⟩
theorem IsMax.uniq {m m' : Int} (h : IsMax k pass W cap ws m) (h' : IsMax k pass W cap ws m') : m = m' := by
  obtain ⟨a, h1, h2⟩ := h.got
  obtain ⟨b, h3, h4⟩ := h'.got
  have := h.up b h3
  have := h'.up a h1
  omega
theorem price_bounds (hn : ws.Nodup) {o : Nat} (ho : o < k) (hW : 0 ≤ W o) {M Mo : Int} (h : IsMax k pass W cap ws M) (h' : IsMax k pass W (upd cap o (cap o + 1)) ws Mo) : M ≤ Mo ∧ Mo ≤ M + W o := by
  constructor
  · obtain ⟨a, h1, h2⟩ := h.got
    rw [← h2]
    refine h'.up a ⟨h1.ok, fun p hp => ?_⟩
    have := h1.le p hp
    by_cases e : p = o
    · subst e; rw [upd_eq]; omega
    · rw [upd_ne _ _ e]; exact this
  · obtain ⟨a, h1, h2⟩ := h'.got
    by_cases hc : cnt a ws o ≤ cap o
    · have := h.up a ⟨h1.ok, fun p hp => by
        by_cases e : p = o
        · subst e; exact hc
        · have := h1.le p hp
          rwa [upd_ne _ _ e] at this⟩
      omega
    · by_cases hx : ∃ w, w ∈ ws ∧ a w = some o
      · obtain ⟨w, hw, haw⟩ := hx
        have h3 := h.up (upd a w none) ⟨fun x hx p hp => by
          by_cases e : x = w
          · subst e; rw [upd_eq] at hp; cases hp
          · rw [upd_ne _ _ e] at hp; exact h1.ok x hx p hp, fun p hp => by
          have h4 := h1.le p hp
          rw [cnt_upd a w none p ws hn hw, haw, if_neg (c := (none : Option Nat) = some p) (by simp)]
          by_cases e : p = o
          · subst e; rw [upd_eq] at h4; rw [if_pos rfl]; omega
          · rw [upd_ne _ _ e] at h4; rw [if_neg (by simpa using fun e' => e e'.symm)]; omega⟩
        rw [val_upd W a w none ws hn hw, haw] at h3
        simp only [gv] at h3
        omega
      · have h0 : cnt a ws o = 0 := by
          unfold cnt
          rw [List.filter_eq_nil_iff.2 (fun x hxs hh => hx ⟨x, hxs, by simpa using hh⟩)]
          rfl
        have := h.up a ⟨h1.ok, fun p hp => by
          by_cases e : p = o
          · subst e
            -- more than none may be there, or it cannot be better
            have h5 : 0 ≤ cap p := by
              obtain ⟨c, c1, _⟩ := h.got
              have := c1.le p hp
              have := cnt_nn c ws p
              omega
            omega
          · have := h1.le p hp
            rwa [upd_ne _ _ e] at this⟩
        omega
/-- The program's own prices. -/
theorem Inv.strong (h : Inv k pass W cap ws A left q) (hn : ws.Nodup) (hW : ∀ o, o < k → 0 ≤ W o) {M : Int} (hM : M = tot k W cap left) {Mp : Nat → Int} (hMp : ∀ o, o < k → IsMax k pass W (upd cap o (cap o + 1)) ws (Mp o)) {pw : Nat → Int} (hpw : ∀ w, w ∈ ws → 0 ≤ pw w ∧ (∀ p, p < k → pass w p = true → W p - (Mp p - M) ≤ pw w) ∧ (pw w = 0 ∨ ∃ p, p < k ∧ pass w p = true ∧ pw w = W p - (Mp p - M))) :
    sumL pw ws + sumN k (fun o => (Mp o - M) * cap o) = M := by
  have hmax := h.isMax hn
  rw [← hM] at hmax
  -- nothing is paid for an order that wants more
  have cs1 : ∀ o, o < k → 0 < left o → Mp o = M := by
    intro o ho hl
    have h1 : Inv k pass W (upd cap o (cap o + 1)) ws A (upd left o (left o + 1)) q := by
      refine ⟨h.nd, h.sub, h.dis, fun p hp => ?_, fun p hp => ?_, h.q0, h.qW, fun p hp hl' => ?_, h.qe, h.qu⟩
      · have := h.lf p hp
        by_cases e : p = o
        · subst e; rw [upd_eq, upd_eq]; omega
        · rw [upd_ne _ _ e, upd_ne _ _ e]; exact this
      · have := h.ge p hp
        by_cases e : p = o
        · subst e; rw [upd_eq]; omega
        · rw [upd_ne _ _ e]; exact this
      · by_cases e : p = o
        · subst e; exact h.qs p hp hl
        · rw [upd_ne _ _ e] at hl'; exact h.qs p hp hl'
    rw [(hMp o ho).uniq (h1.isMax hn), hM]
    unfold tot
    refine sumN_eq k (fun p _ => ?_)
    by_cases e : p = o
    · subst e; rw [upd_eq, upd_eq]; congr 1; omega
    · rw [upd_ne _ _ e, upd_ne _ _ e]
  -- a wafer is where it is worth most
  have cs2 : ∀ o, o < k → ∀ x, x ∈ A o → ∀ p, p < k → pass x p = true → W p - (Mp p - M) ≤ W o - (Mp o - M) := by
    intro o ho x hx p hp hpx
    by_cases hpo : p = o
    · subst hpo; exact Int.le_refl _
    · obtain ⟨A', left', q', h1, h2⟩ := h.aug hW ho
      have hxs := (h.sub o ho x hx).1
      have e1 := (hMp o ho).uniq (h1.isMax hn)
      have hown := ownr_eq h1.dis ho (h2 x hx)
      have hf := h1.feas hn
      have h3 := (hMp p hp).up (upd (ownr k A') x (some p)) ⟨fun y hy r hr => by
        by_cases e : y = x
        · subst e; rw [upd_eq] at hr; cases hr; exact ⟨hp, hpx⟩
        · rw [upd_ne _ _ e] at hr; exact hf.ok y hy r hr, fun r hr => by
        have h4 := hf.le r hr
        rw [cnt_upd _ x (some p) r ws hn hxs, hown]
        by_cases e1 : r = o
        · subst e1
          rw [upd_eq] at h4
          rw [if_pos rfl, if_neg (by simpa using hpo), upd_ne _ _ (fun e => hpo e.symm)]; omega
        · rw [upd_ne _ _ e1] at h4
          rw [if_neg (c := some o = some r) (by simpa using fun e' => e1 e'.symm)]
          by_cases e2 : r = p
          · subst e2; rw [upd_eq, if_pos rfl]; omega
          · rw [upd_ne _ _ e2, if_neg (by simpa using fun e' => e2 e'.symm)]; omega⟩
      rw [val_upd W _ x (some p) ws hn hxs, hown, h1.val_own hn] at h3
      simp only [gv] at h3
      omega
  -- a wafer that has no place is worth nothing
  have cs3 : ∀ x, x ∈ ws → (∀ o, o < k → x ∉ A o) → ∀ p, p < k → pass x p = true → W p - (Mp p - M) ≤ 0 := by
    intro x hx hno p hp hpx
    have hown : ownr k A x = none := by
      cases e : ownr k A x with
      | none => rfl
      | some o => exact absurd (ownr_some e).2 (hno o (ownr_some e).1)
    have hf := h.feas hn
    have h3 := (hMp p hp).up (upd (ownr k A) x (some p)) ⟨fun y hy r hr => by
      by_cases e : y = x
      · subst e; rw [upd_eq] at hr; cases hr; exact ⟨hp, hpx⟩
      · rw [upd_ne _ _ e] at hr; exact hf.ok y hy r hr, fun r hr => by
      have h4 := hf.le r hr
      rw [cnt_upd _ x (some p) r ws hn hx, hown, if_neg (c := (none : Option Nat) = some r) (by simp)]
      by_cases e2 : r = p
      · subst e2; rw [upd_eq, if_pos rfl]; omega
      · rw [upd_ne _ _ e2, if_neg (by simpa using fun e' => e2 e'.symm)]; omega⟩
    rw [val_upd W _ x (some p) ws hn hx, hown, h.val_own hn] at h3
    simp only [gv] at h3
    omega
  have hp : ∀ w, w ∈ ws → pw w = gv (fun o => W o - (Mp o - M)) (ownr k A w) := by
    intro w hw
    obtain ⟨g1, g2, g3⟩ := hpw w hw
    cases e : ownr k A w with
    | none =>
      show pw w = 0
      rcases g3 with g3 | ⟨p, p1, p2, p3⟩
      · exact g3
      · have := cs3 w hw (ownr_none e) p p1 p2
        omega
    | some o =>
      obtain ⟨o1, o2⟩ := ownr_some e
      show pw w = W o - (Mp o - M)
      have b1 := g2 o o1 (h.sub o o1 w o2).2
      have b2 := (price_bounds hn o1 (hW o o1) hmax (hMp o o1)).2
      rcases g3 with g3 | ⟨p, p1, p2, p3⟩
      · omega
      · have := cs2 o o1 w o2 p p1 p2
        omega
  rw [sumL_val pw _ (ownr k A) ws hp, val_cnt k _ _ ws (fun w _ o ho => (ownr_some ho).1), ← sumN_add, hM]
  refine sumN_eq k (fun o ho => ?_)
  rw [h.cntO hn ho]
  have l1 := h.lf o ho
  have l2 := h.ge o ho
  by_cases hl : 0 < left o
  · rw [cs1 o ho hl, ← hM, Int.sub_self, Int.sub_zero, Int.zero_mul, Int.add_zero, show ((A o).length : Int) = cap o - left o by omega]
  · have : left o = 0 := by omega
    rw [show ((A o).length : Int) = cap o by omega, this, Int.sub_zero, Int.mul_comm (Mp o - _) (cap o), ← Int.mul_add]
    congr 1; omega
end
end Mt
end Go.Proofs.YtbepdcodkecboaaDoor


namespace Go.Proofs.YtbepdcodkecboaaDoor
open Go.RowKit
set_option maxRecDepth 100000
abbrev HT := List (Nat × (Int × Int))
abbrev TT := List (Int × Nat × (Int × Int))
/-- A map in the order in which its keys came. -/
def encF : Nat → HT → TT
  | _, [] => []
  | b, e :: r => ((e.1 : Int), b, e.2) :: encF (b + 1) r
def keysH (H : HT) : List Nat := H.map (·.1)
theorem encF_app : ∀ (H : HT) (b : Nat) (e : Nat × (Int × Int)), encF b (H ++ [e]) = encF b H ++ [((e.1 : Int), b + H.length, e.2)]
  | [], b, e => rfl
  | x :: H, b, e => by
    simp only [List.cons_append, encF, encF_app H (b + 1) e, List.length_cons]
    congr 3
    simp only [Prod.mk.injEq, true_and, and_true]; omega
theorem hasT_enc (p : Nat) : ∀ (H : HT) (b : Nat), hasT (p : Int) (encF b H) = decide (p ∈ keysH H)
  | [], b => rfl
  | x :: H, b => by
    simp only [encF, hasT, hasT_enc p H (b + 1), keysH, List.map_cons, List.mem_cons]
    by_cases h : p = x.1
    · subst h; simp
    · rw [show ((p : Int) == (x.1 : Int)) = false by simp; omega, cond_false]
      exact decide_eq_decide.2 (by simp only [h, false_or])
theorem updT_new {α : Type} (n : Int) (cl : Nat) (x : α) : ∀ ts : List (Int × Nat × α), hasT n ts = false → updT n cl x ts = ts ++ [(n, cl, x)]
  | [], _ => rfl
  | e :: r, h => by
    simp only [hasT] at h
    simp only [updT]
    cases he : (n == e.1) with
    | true => rw [he] at h; cases h
    | false => rw [he] at h; rw [cond_false, updT_new n cl x r h]; rfl
theorem bornT_new {α : Type} (n : Int) (cl : Nat) : ∀ ts : List (Int × Nat × α), hasT n ts = false → bornT n cl ts = cl
  | [], _ => rfl
  | e :: r, h => by
    simp only [hasT] at h
    simp only [bornT]
    cases he : (n == e.1) with
    | true => rw [he] at h; cases h
    | false => rw [he] at h; rw [cond_false, bornT_new n cl r h]
theorem hasS_app {α : Type} (cl : Nat) (n : Int) (d : α) : ∀ ts : List (Int × Nat × α), hasS (cl : Int) (ts ++ [(n, cl, d)]) = true
  | [] => by simp [hasS]
  | e :: r => by
    simp only [List.cons_append, hasS, hasS_app cl n d r]
    cases ((e.2.1 : Int) == (cl : Int)) <;> rfl
theorem stampT_app {α : Type} (cl : Nat) (n : Int) (d x : α) : ∀ ts : List (Int × Nat × α), (∀ e ∈ ts, e.2.1 < cl) → stampT (cl : Int) x (ts ++ [(n, cl, d)]) = ts ++ [(n, cl, x)]
  | [], _ => by simp [stampT]
  | e :: r, h => by
    have h0 := h e List.mem_cons_self
    simp only [List.cons_append, stampT]
    rw [show ((e.2.1 : Int) == (cl : Int)) = false by simp; omega, cond_false, stampT_app cl n d x r (fun e he => h e (List.mem_cons_of_mem _ he))]
theorem encF_born : ∀ (H : HT) (b : Nat), ∀ e ∈ encF b H, e.2.1 < b + H.length
  | [], b, e, h => by cases h
  | x :: H, b, e, h => by
    simp only [encF, List.mem_cons] at h
    rcases h with rfl | h
    · simp only [List.length_cons]; omega
    · have := encF_born H (b + 1) e h
      simp only [List.length_cons]; omega
/-- A new key: first it has nothing, then its value. -/
theorem stamp_new (H : HT) (p : Nat) (v : Int × Int) (hp : p ∉ keysH H) :
    hasS ((bornT (p : Int) H.length (encF 0 H) : Nat) : Int) (updT (p : Int) H.length (getT ((0 : Int), (0 : Int)) (p : Int) (encF 0 H)) (encF 0 H)) = true ∧
    stampT ((bornT (p : Int) H.length (encF 0 H) : Nat) : Int) v (updT (p : Int) H.length (getT ((0 : Int), (0 : Int)) (p : Int) (encF 0 H)) (encF 0 H)) = encF 0 (H ++ [(p, v)]) ∧ newCl (p : Int) H.length (encF 0 H) = (H ++ [(p, v)]).length := by
  have h : hasT (p : Int) (encF 0 H) = false := by rw [hasT_enc]; simpa using hp
  rw [updT_new _ _ _ _ h, bornT_new _ _ _ h, encF_app, Nat.zero_add]
  refine ⟨hasS_app _ _ _ _, stampT_app _ _ _ _ _ (fun e he => by have := encF_born H 0 e he; omega), ?_⟩
  unfold newCl
  rw [h]; simp
theorem upd_new (H : HT) (p : Nat) (v : Int × Int) (hp : p ∉ keysH H) : updT (p : Int) H.length v (encF 0 H) = encF 0 (H ++ [(p, v)]) ∧ newCl (p : Int) H.length (encF 0 H) = (H ++ [(p, v)]).length := by
  have h : hasT (p : Int) (encF 0 H) = false := by rw [hasT_enc]; simpa using hp
  rw [updT_new _ _ _ _ h, encF_app, Nat.zero_add]
  refine ⟨rfl, ?_⟩
  unfold newCl
  rw [h]; simp
theorem getT_enc (z : Int × Int) : ∀ (H : HT) (b j : Nat) (hj : j < H.length), (keysH H).Nodup → getT z ((H[j].1 : Nat) : Int) (encF b H) = H[j].2
  | x :: H, b, 0, _, _ => by simp [encF, getT]
  | x :: H, b, j + 1, hj, hn => by
    have hj' : j < H.length := by simpa using hj
    simp only [List.getElem_cons_succ, encF, getT]
    simp only [keysH, List.map_cons, List.nodup_cons] at hn
    have hne : H[j].1 ≠ x.1 := fun e => hn.1 (by rw [← e]; exact List.mem_map.2 ⟨H[j], List.getElem_mem _, rfl⟩)
    rw [show (((H[j].1 : Nat) : Int) == (x.1 : Int)) = false by simp; omega, cond_false]
    exact getT_enc z H (b + 1) j hj' hn.2
/-! Rows of an arena -/
def ints (l : List Nat) : List Int := l.map Int.ofNat
theorem ints_len (l : List Nat) : (ints l).length = l.length := by simp [ints]
theorem ints_nth (l : List Nat) {i : Nat} (h : i < l.length) : nth (ints l) 0 i = ((nth l 0 i : Nat) : Int) := by
  unfold nth ints; simp [List.getD, h]
/-- Rows that are apart. -/
structure AtOk (k : Nat) (at_ : List Nat) (ar1 : A1) (A : Nat → List Nat) : Prop where
  len : at_.length = k
  live : ∀ o, o < k → liveA ar1 (nth at_ 0 o) = true
  row : ∀ o, o < k → rowAt ar1 (nth at_ 0 o) = ints (A o)
  inj : ∀ o, o < k → ∀ p, p < k → nth at_ 0 o = nth at_ 0 p → nth at_ 0 o ≠ 0 → o = p
  bd : ∀ o, o < k → nth at_ 0 o ≤ ar1.length
theorem killAt_len {α : Type} (os : List (Option (List α))) (n : Nat) : (killAt os n).length = os.length := by
  cases n <;> simp [killAt]
theorem live_app {α : Type} (os : List (Option (List α))) (n m : Nat) (x : Option (List α)) (hm : m ≤ os.length) (hne : m ≠ 0 → m ≠ n) : liveA (killAt os n ++ [x]) m = liveA os m ∧ rowAt (killAt os n ++ [x]) m = rowAt os m := by
  cases m with
  | zero => exact ⟨rfl, rfl⟩
  | succ m =>
    have h : (killAt os n ++ [x])[m]? = os[m]? := by
      rw [List.getElem?_append_left (by rw [killAt_len]; omega)]
      cases n with
      | zero => rfl
      | succ n => exact List.getElem?_set_ne (by have := hne (by omega); omega)
    simp only [liveA, rowAt, h]
    exact ⟨trivial, trivial⟩
theorem live_last {α : Type} (os : List (Option (List α))) (n : Nat) (xs : List α) : liveA (killAt os n ++ [some xs]) (os.length + 1) = true ∧ rowAt (killAt os n ++ [some xs]) (os.length + 1) = xs := by
  have h : (killAt os n ++ [some xs])[os.length]? = some (some xs) := by
    rw [List.getElem?_append_right (by rw [killAt_len]; omega), killAt_len]; simp
  simp only [liveA, rowAt, h]
  exact ⟨trivial, trivial⟩
theorem AtOk.put {k : Nat} {at_ : List Nat} {ar1 : A1} {A : Nat → List Nat} (h : AtOk k at_ ar1 A) {o : Nat} (ho : o < k) (l : List Nat) : AtOk k (at_.set o ((killAt ar1 (nth at_ 0 o)).length + 1)) (killAt ar1 (nth at_ 0 o) ++ [some (ints l)]) (Mt.upd A o l) := by
  have hnth : ∀ p, nth (at_.set o ((killAt ar1 (nth at_ 0 o)).length + 1)) 0 p = if p = o then ar1.length + 1 else nth at_ 0 p := fun p => by
    rw [nth_set at_ 0 _ (by rw [h.len]; exact ho), killAt_len]; rfl
  have hne : ∀ p, p < k → p ≠ o → nth at_ 0 p ≠ 0 → nth at_ 0 p ≠ nth at_ 0 o := fun p hp hpo h0 e => hpo (h.inj p hp o ho e h0)
  have hlen : (killAt ar1 (nth at_ 0 o) ++ [some (ints l)]).length = ar1.length + 1 := by rw [List.length_append, killAt_len]; rfl
  refine ⟨by rw [List.length_set]; exact h.len, fun p hp => ?_, fun p hp => ?_, fun p hp r hr e h0 => ?_, fun p hp => ?_⟩
  · rw [hnth]
    by_cases e : p = o
    · rw [if_pos e]; exact (live_last _ _ _).1
    · rw [if_neg e, (live_app _ _ _ _ (h.bd p hp) (hne p hp e)).1]; exact h.live p hp
  · rw [hnth]
    by_cases e : p = o
    · rw [if_pos e, e, Mt.upd_eq]; exact (live_last _ _ _).2
    · rw [if_neg e, Mt.upd_ne _ _ e, (live_app _ _ _ _ (h.bd p hp) (hne p hp e)).2]; exact h.row p hp
  · rw [hnth, hnth] at e
    rw [hnth] at h0
    by_cases e1 : p = o
    · by_cases e2 : r = o
      · rw [e1, e2]
      · rw [if_pos e1, if_neg e2] at e
        have := h.bd r hr; omega
    · by_cases e2 : r = o
      · rw [if_neg e1, if_pos e2] at e
        have := h.bd p hp; omega
      · rw [if_neg e1, if_neg e2] at e
        rw [if_neg e1] at h0
        exact h.inj p hp r hr e h0
  · rw [hnth, hlen]
    by_cases e : p = o
    · rw [if_pos e]; omega
    · rw [if_neg e]; have := h.bd p hp; omega
theorem erase_split : ∀ (l : List Nat) (x j : Nat), j < l.length → nth l 0 j = x → (∀ t, t < j → nth l 0 t ≠ x) → l.erase x = l.take j ++ l.drop (j + 1)
  | y :: l, x, 0, _, h, _ => by
    have : y = x := h
    subst this; simp
  | y :: l, x, j + 1, hj, h, hn => by
    have h0 : y ≠ x := hn 0 (by omega)
    rw [List.erase_cons_tail (by simpa using h0)]
    rw [erase_split l x j (by simpa using hj) h (fun t ht => hn (t + 1) (by omega))]
    rfl
end Go.Proofs.YtbepdcodkecboaaDoor


namespace Go.Proofs.YtbepdcodkecboaaDoor
open Go.RowKit
set_option maxRecDepth 100000
section
variable {sp : List SpT} {wf : List WfT} {od : List OdT}
theorem inB_of {i : Int} {n : Nat} (h0 : 0 ≤ i) (h1 : i < (n : Int)) : inB i n = true := by
  unfold inB; simp only [Bool.and_eq_true, decide_eq_true_eq]; omega
theorem inC_of {i : Int} {n : Nat} (h0 : 0 ≤ i) (h1 : i ≤ (n : Int)) : inC i n = true := by
  unfold inC; simp only [Bool.and_eq_true, decide_eq_true_eq]; omega
theorem ixIns_eq (h : MOk sp wf od) (F : Nat) (hF : 2000 < F) {ps : List Nat} {ar0 : A0} (hf : Fl sp wf od ps ar0) (at_ : List Nat) (left : List Int) {ar1 : A1} {n : Nat} {l : List Nat} (hv : liveA ar1 n = true) (hr : rowAt ar1 n = ints l) (hl : l.length ≤ 1000) (hw : ∀ x ∈ l, x < wf.length) {p : Nat} (hp : p < od.length) :
    ∃ r : Int, ixIns_S F n sp wf od ps at_ left (p : Int) ar0 ar1 = some (r, (p : Int), ar0, ar1) ∧ ((r = -1 ∧ ∀ x ∈ l, pmM sp wf od x p = false) ∨ (∃ i : Nat, r = (i : Int) ∧ i < l.length ∧ pmM sp wf od (nth l 0 i) p = true)) := by
  have := scan (fun m i => ixIns_L0 F n ((ints l).length : Int) sp wf od ps at_ left (p : Int) ar0 ar1 m i) (ints l) 0 (fun x => pmM sp wf od x.toNat p) (fun i b => b = ((i : Int), (sp, wf, od, ps, at_, left, (p : Int), ar0, ar1))) (fun c => c = (sp, wf, od, ps, at_, left, (p : Int), ar0, ar1)) (fun m => ⟨_, by
      show (bif decide (((ints l).length : Int) < ((ints l).length : Int)) then _ else _) = _
      rw [lt_f]; rfl, rfl⟩) (fun m i hi => by
      have hi' : i < l.length := by rwa [ints_len] at hi
      have hx := hw _ (nth_mem (d := 0) hi')
      have e : ixIns_L0 F n ((ints l).length : Int) sp wf od ps at_ left (p : Int) ar0 ar1 (m + 1) (i : Int) = bif pmM sp wf od (nth (ints l) 0 i).toNat p then some (.inl ((i : Int), (sp, wf, od, ps, at_, left, (p : Int), ar0, ar1))) else ixIns_L0 F n ((ints l).length : Int) sp wf od ps at_ left (p : Int) ar0 ar1 m ((i + 1 : Nat) : Int) := by
        show (bif decide ((i : Int) < ((ints l).length : Int)) then bif inB (i : Int) (rowAt ar1 n).length then bif decide ((i : Int).toNat < (rowAt ar1 n).length) then bif inB (nth (rowAt ar1 n) 0 (i : Int).toNat) (ps.length - 0) then bif inB (p : Int) (rowAt ar0 (nth ps 0 (nth (rowAt ar1 n) 0 (i : Int).toNat).toNat)).length then bif decide ((p : Int).toNat < (rowAt ar0 (nth ps 0 (nth (rowAt ar1 n) 0 (i : Int).toNat).toNat)).length) then bif nth (rowAt ar0 (nth ps 0 (nth (rowAt ar1 n) 0 (i : Int).toNat).toNat)) false (p : Int).toNat then _ else ixIns_L0 F n ((ints l).length : Int) sp wf od ps at_ left (p : Int) ar0 ar1 m (IntKind.wrap IntKind.i64 ((i : Int) + 1)) else none else none else none else none else none else _) = _
        rw [hr, Int.toNat_natCast, Int.toNat_natCast, lt_t hi, inB_nat hi, ints_nth l hi', Int.toNat_natCast, hf.row _ hx, row_len, inB_nat hp, show inB ((nth l 0 i : Nat) : Int) (ps.length - 0) = true by rw [Nat.sub_zero, hf.len]; exact inB_nat hx, row_at _ hp, i64s (by omega), show decide (i < (ints l).length) = true by simpa using hi, show decide (p < od.length) = true by simpa using hp]
        rfl
      exact ⟨fun h => ⟨_, by rw [e, h]; rfl, rfl⟩, fun h => by rw [e, h]; rfl⟩) (ints l).length 0 F (by omega) (by rw [ints_len]; omega)
  unfold ixIns_S
  rw [hv, hr, List.drop_zero] at *
  rcases this with ⟨h1, j, b, _, h2, h3, _, h4, h5⟩ | ⟨h1, c, h4, h5⟩
  · rw [ints_len] at h2
    refine ⟨(j : Int), ?_, .inr ⟨j, rfl, h2, ?_⟩⟩
    · rw [show ixIns_L0 F n ((ints l).length : Int) sp wf od ps at_ left (p : Int) ar0 ar1 F 0 = _ from h4, h5]
      rfl
    · rw [ints_nth l h2, Int.toNat_natCast] at h3
      exact h3
  · refine ⟨-1, ?_, .inl ⟨rfl, fun x hx => ?_⟩⟩
    · rw [show ixIns_L0 F n ((ints l).length : Int) sp wf od ps at_ left (p : Int) ar0 ar1 F 0 = _ from h4, h5]
      rfl
    · have := List.any_eq_false.1 h1 (x : Int) (List.mem_map.2 ⟨x, hx, rfl⟩)
      simpa using this
theorem index_eq (F : Nat) (hF : 2000 < F) (ar0 : A0) {ar1 : A1} {n : Nat} {l : List Nat} (hv : liveA ar1 n = true) (hr : rowAt ar1 n = ints l) (hl : l.length ≤ 1000) {x : Nat} (hx : x ∈ l) :
    ∃ j : Nat, index_S F n (x : Int) ar0 ar1 = some ((j : Int), ar0, ar1) ∧ j < l.length ∧ nth l 0 j = x ∧ ∀ t, t < j → nth l 0 t ≠ x := by
  have := scan (fun m i => index_L0 F n (x : Int) ((ints l).length : Int) ar0 ar1 m i) (ints l) 0 (fun y => (x : Int) == y) (fun i b => b = ((i : Int), (ar0, ar1))) (fun _ => True) (fun m => ⟨_, by
      show (bif decide (((ints l).length : Int) < ((ints l).length : Int)) then _ else _) = _
      rw [lt_f]; rfl, trivial⟩) (fun m i hi => by
      have e : index_L0 F n (x : Int) ((ints l).length : Int) ar0 ar1 (m + 1) (i : Int) = bif (x : Int) == nth (ints l) 0 i then some (.inl ((i : Int), (ar0, ar1))) else index_L0 F n (x : Int) ((ints l).length : Int) ar0 ar1 m ((i + 1 : Nat) : Int) := by
        show (bif decide ((i : Int) < ((ints l).length : Int)) then bif inB (i : Int) (rowAt ar1 n).length then bif decide ((i : Int).toNat < (rowAt ar1 n).length) then bif (x : Int) == nth (rowAt ar1 n) 0 (i : Int).toNat then _ else index_L0 F n (x : Int) ((ints l).length : Int) ar0 ar1 m (IntKind.wrap IntKind.i64 ((i : Int) + 1)) else none else none else _) = _
        rw [hr, Int.toNat_natCast, lt_t hi, inB_nat hi, i64s (by rw [ints_len] at hi; omega), show decide (i < (ints l).length) = true by simpa using hi]
        rfl
      exact ⟨fun h => ⟨_, by rw [e, h]; rfl, rfl⟩, fun h => by rw [e, h]; rfl⟩) (ints l).length 0 F (by omega) (by rw [ints_len]; omega)
  unfold index_S
  rw [hv, hr, List.drop_zero] at *
  rcases this with ⟨h1, j, b, _, h2, h3, h6, h4, h5⟩ | ⟨h1, c, h4, h5⟩
  · rw [ints_len] at h2
    refine ⟨j, ?_, h2, ?_, fun t ht => ?_⟩
    · rw [show index_L0 F n (x : Int) ((ints l).length : Int) ar0 ar1 F 0 = _ from h4, h5]
      rfl
    · rw [ints_nth l h2] at h3
      have := beq_iff_eq.1 h3; omega
    · have := h6 t (by omega) ht
      rw [ints_nth l (by omega)] at this
      intro e; rw [e] at this; simp at this
  · exfalso
    have := List.any_eq_false.1 h1 (x : Int) (List.mem_map.2 ⟨x, hx, rfl⟩)
    simp at this
theorem delete_eq (F : Nat) (ar0 : A0) {ar1 : A1} {n : Nat} {l : List Nat} (hv : liveA ar1 n = true) (hr : rowAt ar1 n = ints l) {j : Nat} (hj : j < l.length) :
    ∃ d : (Nat × Nat) × (A0 × (A1 × List Int)), delete_S F n (j : Int) ((j + 1 : Nat) : Int) ar0 ar1 = some d ∧ d.2.1 = ar0 ∧ d.2.2.1 = killAt ar1 n ∧ List.take d.1.2 (List.drop d.1.1 d.2.2.2) = ints (l.take j ++ l.drop (j + 1)) := by
  unfold delete_S
  rw [hv, hr]
  have hlen := ints_len l
  simp only [cond_true, Nat.sub_zero, Int.sub_zero, Int.toNat_natCast, Nat.zero_add]
  rw [inC_of (by omega) (by omega), inC_of (by omega) (by omega), inC_of (by omega) (by omega), show ((j : Int) == ((j + 1 : Nat) : Int)) = false by simp; omega, inC_of (i := (j : Int)) (by omega) (by omega)]
  have hd : (List.drop (j + 1) (ints l)).length = l.length - (j + 1) := by rw [List.length_drop, hlen]
  have htk : (List.take j (ints l)).length = j := by rw [List.length_take, hlen]; omega
  have hal : (List.take j (ints l) ++ List.drop (j + 1) (ints l) ++ List.drop (j + (List.drop (j + 1) (ints l)).length) (ints l)).length = l.length := by
    rw [List.length_append, List.length_append, htk, hd, List.length_drop, hlen]; omega
  rw [hal, hlen, hd]
  simp only [cond_true, cond_false]
  rw [show Nat.ble (j + (l.length - (j + 1))) l.length = true from Nat.ble_eq_true_of_le (by omega), inC_of (by omega) (by omega), inC_of (by omega) (by omega), show Nat.ble ((j + (l.length - (j + 1))) + (l.length - (j + (l.length - (j + 1))))) l.length = true from Nat.ble_eq_true_of_le (by omega)]
  simp only [cond_true]
  refine ⟨_, rfl, rfl, rfl, ?_⟩
  dsimp only
  have hP : (List.take j (ints l) ++ List.drop (j + 1) (ints l)).length = j + (l.length - (j + 1)) := by rw [List.length_append, htk, hd]
  rw [hd] at hal
  rw [List.drop_zero, List.append_assoc, List.take_append_of_le_length (by rw [List.length_take, hal]; omega), List.take_take, Nat.min_self, List.take_append_of_le_length (by omega), List.take_of_length_le (by omega)]
  unfold ints
  rw [List.map_append, List.map_take, List.map_drop]
end
end Go.Proofs.YtbepdcodkecboaaDoor


namespace Go.Proofs.YtbepdcodkecboaaDoor
open Go.RowKit
set_option maxRecDepth 100000
theorem nodup_len {k : Nat} {l : List Nat} (hn : l.Nodup) (hl : ∀ x ∈ l, x < k) : l.length ≤ k := by
  have hp : ((List.range k).filter (fun x => decide (x ∈ l))).Perm l := by
    rw [List.perm_ext_iff_of_nodup (List.nodup_range.sublist List.filter_sublist) hn]
    intro x
    rw [List.mem_filter]
    simp only [List.mem_range, decide_eq_true_eq]
    exact ⟨fun h => h.2, fun h => ⟨hl x h, h⟩⟩
  rw [← hp.length_eq]
  exact Nat.le_trans (List.length_filter_le _ _) (by simp)
/-- What is found, in the order in which it is found; the first np are done. -/
structure BF (k : Nat) (pm : Nat → Nat → Bool) (A : Nat → List Nat) (w : Nat) (H : HT) (np : Nat) : Prop where
  lt : ∀ e ∈ H, e.1 < k
  nd : (keysH H).Nodup
  le : np ≤ H.length
  src : ∀ (j : Nat) (e : Nat × (Int × Int)), H[j]? = some e → (e.2 = ((w : Int), -1) ∧ pm w e.1 = true) ∨ ∃ (i : Nat) (d : Nat × (Int × Int)) (x : Nat), i < j ∧ H[i]? = some d ∧ e.2 = ((x : Int), (d.1 : Int)) ∧ x ∈ A d.1 ∧ pm x e.1 = true
  cl : ∀ (i : Nat) (d : Nat × (Int × Int)), H[i]? = some d → i < np → ∀ x ∈ A d.1, ∀ p, p < k → pm x p = true → p ∈ keysH H
  st : ∀ p, p < k → pm w p = true → p ∈ keysH H
theorem keys_app (H : HT) (e : Nat × (Int × Int)) : keysH (H ++ [e]) = keysH H ++ [e.1] := by simp [keysH]
theorem keys_len (H : HT) : (keysH H).length = H.length := by simp [keysH]
section
variable {k : Nat} {pm : Nat → Nat → Bool} {A : Nat → List Nat} {w : Nat} {H : HT} {np : Nat}
theorem BF.klt (h : BF k pm A w H np) : ∀ x ∈ keysH H, x < k := fun x hx => by
  obtain ⟨e, he, rfl⟩ := List.mem_map.1 hx
  exact h.lt e he
theorem BF.hlen (h : BF k pm A w H np) : H.length ≤ k := by
  rw [← keys_len]; exact nodup_len h.nd h.klt
theorem BF.more (h : BF k pm A w H np) {i : Nat} {d : Nat × (Int × Int)} (hd : H[i]? = some d) {p x : Nat} (hp : p < k) (hn : p ∉ keysH H) (hx : x ∈ A d.1) (hpm : pm x p = true) : BF k pm A w (H ++ [(p, ((x : Int), (d.1 : Int)))]) np := by
  have hl : i < H.length := (List.getElem?_eq_some_iff.1 hd).1
  have old : ∀ (j : Nat) (e : Nat × (Int × Int)), (H ++ [(p, ((x : Int), (d.1 : Int)))])[j]? = some e → H[j]? = some e ∨ (j = H.length ∧ e = (p, ((x : Int), (d.1 : Int)))) := by
    intro j e he
    rcases Nat.lt_or_ge j H.length with hj | hj
    · rw [List.getElem?_append_left hj] at he; exact .inl he
    · rw [List.getElem?_append_right hj] at he
      have : j - H.length = 0 := by
        have := (List.getElem?_eq_some_iff.1 he).1
        simp at this; omega
      rw [this] at he
      exact .inr ⟨by omega, (Option.some.inj he).symm⟩
  refine ⟨?_, ?_, ?_, ?_, ?_, ?_⟩
  · intro e he
    rcases List.mem_append.1 he with he | he
    · exact h.lt e he
    · rw [List.mem_singleton] at he; subst he; exact hp
  · rw [keys_app, List.nodup_append]
    exact ⟨h.nd, by simp, fun a ha b hb e => by rw [List.mem_singleton] at hb; subst hb; subst e; exact hn ha⟩
  · have := h.le; rw [List.length_append]; omega
  · intro j e he
    rcases old j e he with he | ⟨rfl, rfl⟩
    · rcases h.src j e he with h1 | ⟨i', d', x', h1, h2, h3⟩
      · exact .inl h1
      · exact .inr ⟨i', d', x', h1, by rw [List.getElem?_append_left (List.getElem?_eq_some_iff.1 h2).1]; exact h2, h3⟩
    · exact .inr ⟨i, d, x, hl, by rw [List.getElem?_append_left hl]; exact hd, rfl, hx, hpm⟩
  · intro j e he hj y hy r hr hyr
    rcases old j e he with he | ⟨rfl, rfl⟩
    · rw [keys_app]; exact List.mem_append_left _ (h.cl j e he hj y hy r hr hyr)
    · have := h.le; omega
  · intro r hr hwr
    rw [keys_app]; exact List.mem_append_left _ (h.st r hr hwr)
theorem BF.next (h : BF k pm A w H np) {d : Nat × (Int × Int)} (hd : H[np]? = some d) (hc : ∀ x ∈ A d.1, ∀ p, p < k → pm x p = true → p ∈ keysH H) : BF k pm A w H (np + 1) := by
  have hl := (List.getElem?_eq_some_iff.1 hd).1
  refine ⟨h.lt, h.nd, hl, h.src, fun i e he hi => ?_, h.st⟩
  by_cases e1 : i = np
  · subst e1
    rw [hd] at he; cases he
    exact hc
  · exact h.cl i e he (by omega)
end
section
variable {sp : List SpT} {wf : List WfT} {od : List OdT}
/-- The orders for which the new wafer itself passes. -/
def add0 (pm : Nat → Nat → Bool) (w : Nat) (l : List Nat) : HT := (l.filter (fun o => pm w o)).map (fun o => (o, ((w : Int), -1)))
theorem add0_snoc (pm : Nat → Nat → Bool) (w i : Nat) : add0 pm w (List.range (i + 1)) = if pm w i = true then add0 pm w (List.range i) ++ [(i, ((w : Int), -1))] else add0 pm w (List.range i) := by
  unfold add0
  rw [List.range_succ, List.filter_append, List.map_append]
  by_cases h : pm w i = true
  · rw [if_pos h]; simp [h]
  · rw [if_neg h]; simp [h]
theorem add0_key (pm : Nat → Nat → Bool) (w i : Nat) : ∀ x ∈ keysH (add0 pm w (List.range i)), x < i := by
  intro x hx
  simp only [keysH, add0, List.map_map, List.mem_map, List.mem_filter, List.mem_range] at hx
  obtain ⟨o, ⟨h1, _⟩, rfl⟩ := hx
  exact h1
theorem add0_len (pm : Nat → Nat → Bool) (w i : Nat) : (add0 pm w (List.range i)).length ≤ i := by
  unfold add0
  rw [List.length_map]
  exact Nat.le_trans (List.length_filter_le _ _) (by simp)
theorem ins0 (h : MOk sp wf od) (F : Nat) {ps : List Nat} {ar0 : A0} (hf : Fl sp wf od ps ar0) (at_ : List Nat) (left : List Int) (ar1 : A1) {w : Nat} (hw : w < wf.length) : ∀ m i n, i + m = od.length → m < n →
    insert_L0 F (w : Int) ((od.length - 0) : Int) sp wf od ps at_ left ar0 ar1 n (i : Int) ((add0 (pmM sp wf od) w (List.range i)).length, encF 0 (add0 (pmM sp wf od) w (List.range i))) (ints (keysH (add0 (pmM sp wf od) w (List.range i)))) = some (sp, wf, od, ps, at_, left, ar0, ar1, ((add0 (pmM sp wf od) w (List.range od.length)).length, encF 0 (add0 (pmM sp wf od) w (List.range od.length))), ints (keysH (add0 (pmM sp wf od) w (List.range od.length))))
  | 0, i, n + 1, hi, _ => by
    have : i = od.length := by omega
    subst this
    show (bif decide ((od.length : Int) < ((od.length - 0) : Int)) then _ else _) = _
    rw [Int.sub_zero, lt_f]; rfl
  | m + 1, i, n + 1, hi, hn => by
    have hl : i < od.length := by omega
    have ho := h.o
    have ih := ins0 h F hf at_ left ar1 hw m (i + 1) n (by omega) (by omega)
    have hkey := add0_key (pmM sp wf od) w i
    have hlen := add0_len (pmM sp wf od) w i
    rw [add0_snoc] at ih
    generalize hT : some (sp, wf, od, ps, at_, left, ar0, ar1, ((add0 (pmM sp wf od) w (List.range od.length)).length, encF 0 (add0 (pmM sp wf od) w (List.range od.length))), ints (keysH (add0 (pmM sp wf od) w (List.range od.length)))) = T at ih ⊢
    generalize hH : add0 (pmM sp wf od) w (List.range i) = H at ih hkey hlen ⊢
    have hni : i ∉ keysH H := fun e => by have := hkey i e; omega
    obtain ⟨e1, e2⟩ := upd_new H i ((w : Int), -1) hni
    show (bif decide ((i : Int) < ((od.length - 0) : Int)) then bif inB (w : Int) (ps.length - 0) then bif inB (i : Int) (rowAt ar0 (nth ps 0 (w : Int).toNat)).length then bif decide ((i : Int).toNat < (rowAt ar0 (nth ps 0 (w : Int).toNat)).length) then bif nth (rowAt ar0 (nth ps 0 (w : Int).toNat)) false (i : Int).toNat then bif lenOk ((ints (keysH H)).length - 0) 1 then insert_L0 F (w : Int) ((od.length - 0) : Int) sp wf od ps at_ left ar0 ar1 n (IntKind.wrap IntKind.i64 ((i : Int) + 1)) (newCl (i : Int) H.length (encF 0 H), updT (i : Int) H.length ((w : Int), (-1 : Int)) (encF 0 H)) (ints (keysH H) ++ ((i : Int) :: [])) else none else insert_L0 F (w : Int) ((od.length - 0) : Int) sp wf od ps at_ left ar0 ar1 n (IntKind.wrap IntKind.i64 ((i : Int) + 1)) (H.length, encF 0 H) (ints (keysH H)) else none else none else none else _) = _
    rw [show decide ((i : Int) < ((od.length - 0) : Int)) = true by rw [Int.sub_zero]; exact lt_t hl, Int.toNat_natCast, Int.toNat_natCast, hf.row w hw, row_len, inB_nat hl, show inB (w : Int) (ps.length - 0) = true by rw [Nat.sub_zero, hf.len]; exact inB_nat hw, show decide (i < od.length) = true by simpa using hl, row_at _ hl, lenOk_of (by rw [ints_len, keys_len]; omega), i64s (by omega), e1, e2]
    simp only [cond_true]
    rw [show passB sp od (nth wf dW w) i = pmM sp wf od w i from rfl]
    cases hp : pmM sp wf od w i with
    | true =>
      rw [if_pos hp, keys_app] at ih
      rw [cond_true, ← ih]
      unfold ints
      rw [List.map_append]
      rfl
    | false =>
      rw [if_neg (by rw [hp]; simp)] at ih
      rw [cond_false, ← ih]
  | m, i, 0, _, hn => by omega
theorem BF.first (k : Nat) (pm : Nat → Nat → Bool) (A : Nat → List Nat) (w : Nat) : BF k pm A w (add0 pm w (List.range k)) 0 := by
  have hm : ∀ e, e ∈ add0 pm w (List.range k) ↔ ∃ o, (o < k ∧ pm w o = true) ∧ e = (o, ((w : Int), -1)) := by
    intro e
    simp only [add0, List.mem_map, List.mem_filter, List.mem_range]
    exact ⟨fun ⟨o, h1, h2⟩ => ⟨o, h1, h2.symm⟩, fun ⟨o, h1, h2⟩ => ⟨o, h1, h2.symm⟩⟩
  have hk : keysH (add0 pm w (List.range k)) = (List.range k).filter (fun o => pm w o) := by
    unfold keysH add0; rw [List.map_map]; exact (List.map_congr_left (fun _ _ => rfl)).trans (List.map_id _)
  refine ⟨?_, ?_, Nat.zero_le _, ?_, fun i d _ hi => by omega, ?_⟩
  · intro e he
    obtain ⟨o, h1, rfl⟩ := (hm e).1 he
    exact h1.1
  · rw [hk]; exact List.nodup_range.sublist List.filter_sublist
  · intro j e he
    obtain ⟨o, h1, rfl⟩ := (hm e).1 (List.mem_of_getElem? he)
    exact .inl ⟨rfl, h1.2⟩
  · intro p hp hwp
    rw [hk, List.mem_filter]
    exact ⟨by simpa using hp, hwp⟩
end
end Go.Proofs.YtbepdcodkecboaaDoor


namespace Go.Proofs.YtbepdcodkecboaaDoor
open Go.RowKit
set_option maxRecDepth 100000
section
variable {sp : List SpT} {wf : List WfT} {od : List OdT}
theorem drop_snoc {α : Type} (l : List α) (x : α) {n : Nat} (h : n ≤ l.length) : (l ++ [x]).drop n = l.drop n ++ [x] := by
  rw [List.drop_append_of_le_length h]
theorem ins2 (h : MOk sp wf od) (F : Nat) (hF : 2000 < F) {ps : List Nat} {ar0 : A0} (hf : Fl sp wf od ps ar0) {at_ : List Nat} (left : List Int) {ar1 : A1} {A : Nat → List Nat} (hat : AtOk od.length at_ ar1 A) (hA : ∀ o, o < od.length → (A o).length ≤ 1000 ∧ ∀ x ∈ A o, x < wf.length) {w np : Nat} (best en : Int) {d : Nat × (Int × Int)} (hd : d.1 < od.length) : ∀ m t n (H : HT) (off : Nat) (q : List Int), t + m = od.length → m < n → BF od.length (pmM sp wf od) A w H np → H[np]? = some d → (∀ p, p < t → ∀ x ∈ A d.1, pmM sp wf od x p = true → p ∈ keysH H) → off ≤ q.length → q.drop off = ints ((keysH H).drop (np + 1)) →
    ∃ (H' : HT) (off' : Nat) (q' : List Int), insert_L2 F n off best en (d.1 : Int) ((od.length - 0) : Int) (t : Int) sp wf od ps at_ left ar0 ar1 (H.length, encF 0 H) q = some ((off', best, en), (sp, wf, od, ps, at_, left, ar0, ar1, (H'.length, encF 0 H'), q')) ∧ BF od.length (pmM sp wf od) A w H' np ∧ H'[np]? = some d ∧ (∀ p, p < od.length → ∀ x ∈ A d.1, pmM sp wf od x p = true → p ∈ keysH H') ∧ off' ≤ q'.length ∧ q'.drop off' = ints ((keysH H').drop (np + 1)) ∧ ∃ E, H' = H ++ E
  | 0, t, n + 1, H, off, q, ht, _, hB, hnp, hc, ho, hq => by
    have : t = od.length := by omega
    subst this
    refine ⟨H, off, q, ?_, hB, hnp, hc, ho, hq, [], by simp⟩
    show (bif decide ((od.length : Int) < ((od.length - 0) : Int)) then _ else _) = _
    rw [Int.sub_zero, lt_f]; rfl
  | m + 1, t, n + 1, H, off, q, ht, hn, hB, hnp, hc, hoq, hq => by
    have hl : t < od.length := by omega
    have ho := h.o
    have hHl := hB.hlen
    have hnpl : np < H.length := (List.getElem?_eq_some_iff.1 hnp).1
    have hqo : q.length - off = H.length - (np + 1) := by
      have := congrArg List.length hq
      rw [List.length_drop, ints_len, List.length_drop, keys_len] at this; exact this
    obtain ⟨hAl, hAw⟩ := hA d.1 hd
    obtain ⟨r, e3, hr⟩ := ixIns_eq h F hF hf at_ left (hat.live d.1 hd) (hat.row d.1 hd) hAl hAw hl
    have skip : (∀ x ∈ A d.1, pmM sp wf od x t = true → t ∈ keysH H) → insert_L2 F (n + 1) off best en (d.1 : Int) ((od.length - 0) : Int) (t : Int) sp wf od ps at_ left ar0 ar1 (H.length, encF 0 H) q = insert_L2 F n off best en (d.1 : Int) ((od.length - 0) : Int) ((t + 1 : Nat) : Int) sp wf od ps at_ left ar0 ar1 (H.length, encF 0 H) q → _ := fun h1 h2 => by
      have ih := ins2 h F hF hf left hat hA best en hd m (t + 1) n H off q (by omega) (by omega) hB hnp (fun p hp x hx hpx => by
        by_cases e : p = t
        · subst e; exact h1 x hx hpx
        · exact hc p (by omega) x hx hpx) hoq hq
      rw [← h2] at ih
      exact ih
    have unf : ∀ X, (bif hasT (t : Int) (encF 0 H) then some ((off, best, en, (d.1 : Int), ((od.length - 0) : Int), (t : Int)), (sp, wf, od, ps, at_, left, ar0, ar1, (H.length, encF 0 H), q)) else (bif decide (r ≥ (0 : Int)) then bif inB r (rowAt ar1 (nth at_ 0 d.1)).length then bif decide (r.toNat < (rowAt ar1 (nth at_ 0 d.1)).length) then bif lenOk (q.length - off) ((t : Int) :: []).length then bif hasS ((bornT (t : Int) H.length (encF 0 H) : Nat) : Int) (updT (t : Int) H.length (getT ((0 : Int), (0 : Int)) (t : Int) (encF 0 H)) (encF 0 H)) then some ((0, best, en, (d.1 : Int), ((od.length - 0) : Int), (t : Int)), (sp, wf, od, ps, at_, left, ar0, ar1, (newCl (t : Int) H.length (encF 0 H), stampT ((bornT (t : Int) H.length (encF 0 H) : Nat) : Int) (nth (rowAt ar1 (nth at_ 0 d.1)) (0 : Int) r.toNat, (d.1 : Int)) (updT (t : Int) H.length (getT ((0 : Int), (0 : Int)) (t : Int) (encF 0 H)) (encF 0 H))), (List.drop off q) ++ ((t : Int) :: []))) else none else none else none else none else some ((off, best, en, (d.1 : Int), ((od.length - 0) : Int), (t : Int)), (sp, wf, od, ps, at_, left, ar0, ar1, (H.length, encF 0 H), q)))) = some X → insert_L2 F (n + 1) off best en (d.1 : Int) ((od.length - 0) : Int) (t : Int) sp wf od ps at_ left ar0 ar1 (H.length, encF 0 H) q = insert_L2 F n X.1.1 X.1.2.1 X.1.2.2.1 X.1.2.2.2.1 X.1.2.2.2.2.1 (IntKind.wrap IntKind.i64 (X.1.2.2.2.2.2 + 1)) X.2.1 X.2.2.1 X.2.2.2.1 X.2.2.2.2.1 X.2.2.2.2.2.1 X.2.2.2.2.2.2.1 X.2.2.2.2.2.2.2.1 X.2.2.2.2.2.2.2.2.1 X.2.2.2.2.2.2.2.2.2.1 X.2.2.2.2.2.2.2.2.2.2 := by
      intro X hX
      show (bif decide ((t : Int) < ((od.length - 0) : Int)) then ob (bif hasT (t : Int) (encF 0 H) then _ else bif inB (d.1 : Int) (at_.length - 0) then ob (ixIns_S F (nth at_ 0 (d.1 : Int).toNat) sp wf od ps at_ left (t : Int) ar0 ar1) (fun r2 => bif decide (r2.1 ≥ (0 : Int)) then bif inB (d.1 : Int) (at_.length - 0) then _ else none else _) else none) _ else _) = _
      rw [show decide ((t : Int) < ((od.length - 0) : Int)) = true by rw [Int.sub_zero]; exact lt_t hl, show inB (d.1 : Int) (at_.length - 0) = true by rw [Nat.sub_zero, hat.len]; exact inB_nat hd]
      simp only [cond_true, Int.toNat_natCast]
      rw [e3]
      refine (congrArg (fun z => ob z _) hX).trans ?_
      rfl
    by_cases hk : t ∈ keysH H
    · refine skip (fun _ _ _ => hk) ?_
      rw [unf _ (by rw [hasT_enc, show decide (t ∈ keysH H) = true by simpa using hk]; rfl)]
      dsimp only
      rw [i64s (by omega)]
    · rcases hr with ⟨hr1, hr2⟩ | ⟨i, hr1, hr2, hr3⟩
      · refine skip (fun x hx hpx => by rw [hr2 x hx] at hpx; cases hpx) ?_
        rw [unf _ (by rw [hasT_enc, show decide (t ∈ keysH H) = false by simpa using hk, hr1]; rfl)]
        dsimp only
        rw [i64s (by omega)]
      · obtain ⟨g1, g2, g3⟩ := stamp_new H t ((nth (A d.1) 0 i : Nat), (d.1 : Int)) hk
        have hB' := hB.more hnp hl hk (nth_mem (d := 0) hr2) hr3
        have hq' : List.drop off q ++ ((t : Int) :: []) = ints ((keysH (H ++ [(t, (((nth (A d.1) 0 i : Nat) : Int), (d.1 : Int)))])).drop (np + 1)) := by
          rw [keys_app, drop_snoc _ _ (by rw [keys_len]; omega), hq]
          unfold ints
          rw [List.map_append]; rfl
        have ih := ins2 h F hF hf left hat hA best en hd m (t + 1) n (H ++ [(t, (((nth (A d.1) 0 i : Nat) : Int), (d.1 : Int)))]) 0 (List.drop off q ++ ((t : Int) :: [])) (by omega) (by omega) hB' (by rw [List.getElem?_append_left hnpl]; exact hnp) (fun p hp x hx hpx => by
          rw [keys_app]
          by_cases e : p = t
          · subst e; simp
          · exact List.mem_append_left _ (hc p (by omega) x hx hpx)) (Nat.zero_le _) hq'
        rw [unf _ (by
          rw [hasT_enc, show decide (t ∈ keysH H) = false by simpa using hk, hr1, hat.row d.1 hd, Int.toNat_natCast, ints_nth _ hr2, show decide ((i : Int) ≥ 0) = true by simp, show inB (i : Int) (ints (A d.1)).length = true by rw [ints_len]; exact inB_nat hr2, show decide (i < (ints (A d.1)).length) = true by rw [ints_len]; simpa using hr2, lenOk_of (by simp only [List.length_cons, List.length_nil]; omega), g1, g2, g3]
          rfl)]
        dsimp only
        rw [i64s (by omega)]
        obtain ⟨H', off', q', i1, i2, i3, i4, i5, i6, E, i7⟩ := ih
        exact ⟨H', off', q', i1, i2, i3, i4, i5, i6, _, by rw [i7, List.append_assoc]⟩
  | m, t, 0, H, off, q, _, hn, _, _, _, _, _ => by omega
end
end Go.Proofs.YtbepdcodkecboaaDoor


namespace Go.Proofs.YtbepdcodkecboaaDoor
open Go.RowKit
set_option maxRecDepth 100000
/-- The best of the orders that were looked at. -/
def BE (W left : Nat → Int) (H : HT) (np : Nat) (best en : Int) : Prop :=
  (en = -1 ∧ best = 0 ∧ ∀ (i : Nat) (d : Nat × (Int × Int)), i < np → H[i]? = some d → ¬ 0 < left d.1) ∨
  (∃ (i : Nat) (d : Nat × (Int × Int)), i < np ∧ H[i]? = some d ∧ en = (d.1 : Int) ∧ 0 < left d.1 ∧ best = W d.1 ∧ ∀ (i' : Nat) (d' : Nat × (Int × Int)), i' < np → H[i']? = some d' → 0 < left d'.1 → W d'.1 ≤ W d.1)
theorem BE.ext {W left : Nat → Int} {H : HT} {np : Nat} {best en : Int} (h : BE W left H np best en) (hn : np ≤ H.length) (E : HT) : BE W left (H ++ E) np best en := by
  have hg : ∀ i, i < np → (H ++ E)[i]? = H[i]? := fun i hi => List.getElem?_append_left (by omega)
  rcases h with ⟨h1, h2, h3⟩ | ⟨i, d, h1, h2, h3, h4, h5, h6⟩
  · exact .inl ⟨h1, h2, fun i d hi hd => h3 i d hi (by rw [← hg i hi]; exact hd)⟩
  · exact .inr ⟨i, d, h1, by rw [hg i h1]; exact h2, h3, h4, h5, fun i' d' hi hd => h6 i' d' hi (by rw [← hg i' hi]; exact hd)⟩
theorem BE.step {W left : Nat → Int} {H : HT} {np : Nat} {best en : Int} (h : BE W left H np best en) (hW : ∀ e ∈ H, 0 < W e.1) {d : Nat × (Int × Int)} (hd : H[np]? = some d) :
    BE W left H (np + 1) (if 0 < left d.1 ∧ W d.1 > best then W d.1 else best) (if 0 < left d.1 ∧ W d.1 > best then (d.1 : Int) else en) := by
  by_cases hc : 0 < left d.1 ∧ W d.1 > best
  · rw [if_pos hc, if_pos hc]
    refine .inr ⟨np, d, by omega, hd, rfl, hc.1, rfl, fun i' d' hi hd' hl => ?_⟩
    by_cases e : i' = np
    · subst e; rw [hd] at hd'; cases hd'; exact Int.le_refl _
    · rcases h with ⟨_, _, h3⟩ | ⟨i, d0, _, _, _, _, h5, h6⟩
      · exact absurd hl (h3 i' d' (by omega) hd')
      · have := h6 i' d' (by omega) hd' hl
        omega
  · rw [if_neg hc, if_neg hc]
    rcases h with ⟨h1, h2, h3⟩ | ⟨i, d0, h1, h2, h3, h4, h5, h6⟩
    · refine .inl ⟨h1, h2, fun i' d' hi hd' => ?_⟩
      by_cases e : i' = np
      · subst e; rw [hd] at hd'; cases hd'
        intro hl
        have := hW d (List.mem_of_getElem? hd)
        exact hc ⟨hl, by omega⟩
      · exact h3 i' d' (by omega) hd'
    · refine .inr ⟨i, d0, by omega, h2, h3, h4, h5, fun i' d' hi hd' hl => ?_⟩
      by_cases e : i' = np
      · subst e; rw [hd] at hd'; cases hd'
        have : ¬ W d.1 > best := fun hg => hc ⟨hl, hg⟩
        omega
      · exact h6 i' d' (by omega) hd' hl
section
variable {sp : List SpT} {wf : List WfT} {od : List OdT}
theorem ins1 (h : MOk sp wf od) (F : Nat) (hF : 2000 < F) {ps : List Nat} {ar0 : A0} (hf : Fl sp wf od ps ar0) {at_ : List Nat} {left : List Int} (hlf : left.length = od.length) {ar1 : A1} {A : Nat → List Nat} (hat : AtOk od.length at_ ar1 A) (hA : ∀ o, o < od.length → (A o).length ≤ 1000 ∧ ∀ x ∈ A o, x < wf.length) {w : Nat} : ∀ m np n (H : HT) (off : Nat) (q : List Int) (best en : Int), np + m = od.length → m < n → BF od.length (pmM sp wf od) A w H np → BE (wO od) (nth left 0) H np best en → off ≤ q.length → q.drop off = ints ((keysH H).drop np) →
    ∃ (H' : HT) (best' en' : Int), insert_L1 F n off best en sp wf od ps at_ left ar0 ar1 (H.length, encF 0 H) q = some ((best', en'), (sp, wf, od, ps, at_, left, ar0, ar1, (H'.length, encF 0 H'))) ∧ BF od.length (pmM sp wf od) A w H' H'.length ∧ BE (wO od) (nth left 0) H' H'.length best' en'
  | m, np, n + 1, H, off, q, best, en, hm, hn, hB, hE, hoq, hq => by
    have ho := h.o
    have hHl := hB.hlen
    have hnp := hB.le
    have hqo : q.length - off = H.length - np := by
      have := congrArg List.length hq
      rw [List.length_drop, ints_len, List.length_drop, keys_len] at this; exact this
    by_cases hlt : np < H.length
    · obtain ⟨d, hd⟩ : ∃ d, H[np]? = some d := ⟨H[np], List.getElem?_eq_getElem hlt⟩
      have hdl : d.1 < od.length := hB.lt d (List.mem_of_getElem? hd)
      have hkd : (keysH H).drop np = d.1 :: (keysH H).drop (np + 1) := by
        rw [List.drop_eq_getElem_cons (by rw [keys_len]; exact hlt)]
        congr 1
        have := (List.getElem?_eq_some_iff.1 hd).2
        simp [keysH, this]
      rw [hkd] at hq
      have hqd : q.drop off = (d.1 : Int) :: ints ((keysH H).drop (np + 1)) := hq
      have hoff : off < q.length := by omega
      have hq0 : nth q 0 off = (d.1 : Int) := by
        rw [List.drop_eq_getElem_cons hoff, nth_eq q 0 off hoff] at hqd
        exact (List.cons.inj hqd).1
      have hq1 : q.drop (off + 1) = ints ((keysH H).drop (np + 1)) := by
        rw [List.drop_eq_getElem_cons hoff] at hqd
        exact (List.cons.inj hqd).2
      have hW : ∀ e ∈ H, 0 < wO od e.1 := fun e he => by have := wO_le h (hB.lt e he); omega
      have hE' := hE.step hW hd
      generalize hb : (if 0 < nth left 0 d.1 ∧ wO od d.1 > best then wO od d.1 else best) = b1 at hE'
      generalize he : (if 0 < nth left 0 d.1 ∧ wO od d.1 > best then (d.1 : Int) else en) = e1 at hE'
      have m' : m = (m - 1) + 1 := by omega
      obtain ⟨H', off', q', i1, i2, i3, i4, i5, i6, E, i7⟩ := ins2 h F hF hf left hat hA b1 e1 hdl od.length 0 F H (off + 1) q (by omega) (by omega) hB hd (fun p hp => by omega) (by omega) hq1
      have i1' := i1
      rw [← addN_eq off 1] at i1'
      have hB' := i2.next i3 (fun x hx p hp hpx => i4 p hp x hx hpx)
      have hE2 : BE (wO od) (nth left 0) H' (np + 1) b1 e1 := by rw [i7]; exact hE'.ext hlt E
      obtain ⟨H2, b2, e2, j1, j2, j3⟩ := ins1 h F hF hf hlf hat hA (m - 1) (np + 1) n H' off' q' b1 e1 (by omega) (by omega) hB' hE2 i5 i6
      refine ⟨H2, b2, e2, ?_, j2, j3⟩
      rw [← j1]
      have inner : (bif inB (d.1 : Int) (left.length - 0) then bif decide (nth left 0 d.1 > 0) then ob (worth_S F (d.1 : Int) sp wf od ps ar0 ar1) (fun r => bif decide (r.1 > best) then ob (worth_S F (d.1 : Int) sp wf od ps r.2.1 r.2.2) (fun r1 => some ((addN off 1, r1.1, (d.1 : Int), (d.1 : Int)), (sp, wf, od, ps, at_, left, r1.2.1, r1.2.2, (H.length, encF 0 H), q))) else some ((addN off 1, best, en, (d.1 : Int)), (sp, wf, od, ps, at_, left, r.2.1, r.2.2, (H.length, encF 0 H), q))) else some ((addN off 1, best, en, (d.1 : Int)), (sp, wf, od, ps, at_, left, ar0, ar1, (H.length, encF 0 H), q)) else none) = some ((addN off 1, b1, e1, (d.1 : Int)), (sp, wf, od, ps, at_, left, ar0, ar1, (H.length, encF 0 H), q)) := by
        rw [show inB (d.1 : Int) (left.length - 0) = true by rw [Nat.sub_zero, hlf]; exact inB_nat hdl, worth_eq h F hdl]
        rw [← hb, ← he]
        by_cases h1 : 0 < nth left 0 d.1
        · rw [show decide (nth left 0 d.1 > 0) = true by simpa using h1]
          show (bif decide (wO od d.1 > best) then ob (worth_S F (d.1 : Int) sp wf od ps ar0 ar1) _ else _) = _
          rw [worth_eq h F hdl]
          by_cases h2 : wO od d.1 > best
          · rw [show decide (wO od d.1 > best) = true by simpa using h2, if_pos ⟨h1, h2⟩, if_pos ⟨h1, h2⟩]; rfl
          · rw [show decide (wO od d.1 > best) = false by simpa using h2, if_neg (fun e => h2 e.2), if_neg (fun e => h2 e.2)]; rfl
        · rw [show decide (nth left 0 d.1 > 0) = false by simpa using h1, if_neg (fun e => h1 e.1), if_neg (fun e => h1 e.1)]; rfl
      show (bif decide ((((q.length - off) : Nat) : Int) > 0) then bif inB 0 (q.length - off) then bif inC 1 (q.length - off) then ob (bif inB (nth q 0 (addN off 0)) (left.length - 0) then bif decide (nth left 0 (nth q 0 (addN off 0)).toNat > 0) then ob (worth_S F (nth q 0 (addN off 0)) sp wf od ps ar0 ar1) (fun r => bif decide (r.1 > best) then ob (worth_S F (nth q 0 (addN off 0)) sp wf od ps r.2.1 r.2.2) (fun r1 => some ((addN off 1, r1.1, nth q 0 (addN off 0), nth q 0 (addN off 0)), (sp, wf, od, ps, at_, left, r1.2.1, r1.2.2, (H.length, encF 0 H), q))) else some ((addN off 1, best, en, nth q 0 (addN off 0)), (sp, wf, od, ps, at_, left, r.2.1, r.2.2, (H.length, encF 0 H), q))) else some ((addN off 1, best, en, nth q 0 (addN off 0)), (sp, wf, od, ps, at_, left, ar0, ar1, (H.length, encF 0 H), q)) else none) _ else none else none else _) = _
      rw [show addN off 0 = off by rw [addN_eq]; omega, hq0, Int.toNat_natCast, inner, show decide ((((q.length - off) : Nat) : Int) > 0) = true by simp; omega, inB_of (i := 0) (by omega) (by omega), inC_of (i := 1) (by omega) (by omega)]
      show ob (insert_L2 F F (addN off 1) b1 e1 (d.1 : Int) ((od.length - 0) : Int) (0 : Int) sp wf od ps at_ left ar0 ar1 (H.length, encF 0 H) q) _ = _
      rw [show insert_L2 F F (addN off 1) b1 e1 (d.1 : Int) ((od.length - 0) : Int) (0 : Int) sp wf od ps at_ left ar0 ar1 (H.length, encF 0 H) q = _ from i1']
    · have hnl : np = H.length := by omega
      subst hnl
      refine ⟨H, best, en, ?_, hB, hE⟩
      show (bif decide ((((q.length - off) : Nat) : Int) > 0) then _ else _) = _
      rw [show decide ((((q.length - off) : Nat) : Int) > 0) = false by simp; omega]
      rfl
  | m, np, 0, _, _, _, _, _, _, hn, _, _, _, _ => by omega
end
end Go.Proofs.YtbepdcodkecboaaDoor


namespace Go.Proofs.YtbepdcodkecboaaDoor
open Go.RowKit
set_option maxRecDepth 100000
section
variable {sp : List SpT} {wf : List WfT} {od : List OdT}
/-- The chain is followed back to the new wafer. -/
theorem ins3 (F : Nat) (hF : 2000 < F) (ps : List Nat) (ar0 : A0) (lf : List Int) (best : Int) {A0' : Nat → List Nat} {w : Nat} {H : HT} {np : Nat} {cap left q : Nat → Int} {ws : List Nat} {b : Int} (hk12 : od.length ≤ 12) (hB : BF od.length (pmM sp wf od) A0' w H np) (hw : w ∉ ws) (hws : ws.length ≤ 900) (hwn : ws.Nodup) : ∀ (j n : Nat) (e : Nat × (Int × Int)) (A : Nat → List Nat) (at_ : List Nat) (ar1 : A1), H[j]? = some e → j + 1 < n → AtOk od.length at_ ar1 A → Mt.Mid od.length (pmM sp wf od) (wO od) cap ws A left q (fun o => decide (o ∈ keysH H)) w e.1 b → (∀ (i : Nat) (d : Nat × (Int × Int)), i < j → H[i]? = some d → A d.1 = A0' d.1) →
    ∃ (A2 : Nat → List Nat) (at2 : List Nat) (ar2 : A1), insert_L3 F best sp wf od ps lf (H.length, encF 0 H) n (e.1 : Int) at_ ar0 ar1 = some (best, (sp, wf, od, ps, at2, lf, ar0, ar2)) ∧ AtOk od.length at2 ar2 A2 ∧ Mt.Inv od.length (pmM sp wf od) (wO od) cap (ws ++ [w]) A2 left q := by
  intro j
  induction j using Nat.strongRecOn with
  | _ j ihj =>
  intro n e A at_ ar1 he hn hat hM hsame
  obtain ⟨n, rfl⟩ : ∃ n', n = n' + 1 := ⟨n - 1, by omega⟩
  have hj : j < H.length := (List.getElem?_eq_some_iff.1 he).1
  have heq : H[j] = e := (List.getElem?_eq_some_iff.1 he).2
  have hek : e.1 < od.length := hM.lt
  have hgt : getT ((0 : Int), (0 : Int)) (e.1 : Int) (encF 0 H) = e.2 := by
    have := getT_enc (0, 0) H 0 j hj hB.nd
    rw [heq] at this; exact this
  have hlenA : ∀ o, o < od.length → (A o).length ≤ 900 := fun o ho => by
    have h1 : ((List.filter (fun x => decide (x ∈ A o)) ws)).Perm (A o) := by
      rw [List.perm_ext_iff_of_nodup (hwn.sublist List.filter_sublist) (hM.nd o ho)]
      intro x
      rw [List.mem_filter]
      simp only [decide_eq_true_eq]
      exact ⟨fun h => h.2, fun h => ⟨(hM.sub o ho x h).1, h⟩⟩
    rw [← h1.length_eq]
    exact Nat.le_trans (List.length_filter_le _ _) hws
  have hal : at_.length = od.length := hat.len
  have pre : ∀ X : Option (Int × ((List SpT) × ((List WfT) × ((List OdT) × ((List Nat) × ((List Nat) × ((List Int) × (A0 × A1)))))))), (bif decide (e.2.2 ≥ (0 : Int)) then (bif inB e.2.2 ((List.set at_ e.1 ((killAt ar1 (nth at_ 0 e.1)).length + 1)).length - 0) then ob (index_S F (nth (List.set at_ e.1 ((killAt ar1 (nth at_ 0 e.1)).length + 1)) 0 e.2.2.toNat) e.2.1 ar0 ((killAt ar1 (nth at_ 0 e.1)) ++ ((Option.some (ints (A e.1) ++ (e.2.1 :: []))) :: []))) (fun r3 => bif inB e.2.2 ((List.set at_ e.1 ((killAt ar1 (nth at_ 0 e.1)).length + 1)).length - 0) then ob (delete_S F (nth (List.set at_ e.1 ((killAt ar1 (nth at_ 0 e.1)).length + 1)) 0 e.2.2.toNat) r3.1 (IntKind.wrap IntKind.i64 (r3.1 + (1 : Int))) r3.2.1 r3.2.2) (fun r4 => bif inB e.2.2 ((List.set at_ e.1 ((killAt ar1 (nth at_ 0 e.1)).length + 1)).length - 0) then insert_L3 F best sp wf od ps lf (H.length, encF 0 H) n e.2.2 (List.set (List.set at_ e.1 ((killAt ar1 (nth at_ 0 e.1)).length + 1)) e.2.2.toNat (r4.2.2.1.length + 1)) r4.2.1 (r4.2.2.1 ++ ((Option.some (List.take r4.1.2 (List.drop r4.1.1 r4.2.2.2))) :: [])) else none) else none) else none) else insert_L3 F best sp wf od ps lf (H.length, encF 0 H) n e.2.2 (List.set at_ e.1 ((killAt ar1 (nth at_ 0 e.1)).length + 1)) ar0 ((killAt ar1 (nth at_ 0 e.1)) ++ ((Option.some (ints (A e.1) ++ (e.2.1 :: []))) :: []))) = X → insert_L3 F best sp wf od ps lf (H.length, encF 0 H) (n + 1) (e.1 : Int) at_ ar0 ar1 = X := by
    intro X hX
    rw [← hX]
    show (bif decide ((e.1 : Int) ≥ 0) then bif inB (e.1 : Int) (at_.length - 0) then bif liveA ar1 (nth at_ 0 (e.1 : Int).toNat) then bif lenOk ((rowAt ar1 (nth at_ 0 (e.1 : Int).toNat)).length - 0) ((getT ((0 : Int), (0 : Int)) (e.1 : Int) (encF 0 H)).1 :: []).length then bif inB (e.1 : Int) (at_.length - 0) then _ else none else none else none else none else _) = _
    rw [hgt, Int.toNat_natCast, hat.live e.1 hek, hat.row e.1 hek, show decide ((e.1 : Int) ≥ 0) = true by simp, show inB (e.1 : Int) (at_.length - 0) = true by rw [Nat.sub_zero, hal]; exact inB_nat hek, lenOk_of (by rw [ints_len]; have := hlenA e.1 hek; simp only [List.length_cons, List.length_nil]; omega)]
    rfl
  rcases hB.src j e he with ⟨hs1, hs2⟩ | ⟨i, d, x, hi, hd, hs1, hs2, hs3⟩
  · -- the new wafer
    have hput := hat.put hek (A e.1 ++ [w])
    have hints : ints (A e.1) ++ ((w : Int) :: []) = ints (A e.1 ++ [w]) := by unfold ints; rw [List.map_append]; rfl
    refine ⟨_, _, _, ?_, hput, hM.last hw hs2⟩
    apply pre
    rw [hs1]
    show insert_L3 F best sp wf od ps lf (H.length, encF 0 H) n (-1 : Int) _ ar0 _ = _
    obtain ⟨n', rfl⟩ : ∃ n', n = n' + 1 := ⟨n - 1, by omega⟩
    rw [hints]
    rfl
  · have hdk : d.1 < od.length := hB.lt d (List.mem_of_getElem? hd)
    have hil : i < H.length := (List.getElem?_eq_some_iff.1 hd).1
    have hne : d.1 ≠ e.1 := fun eq => by
      have h1 : (keysH H)[i]? = some d.1 := by simp [keysH, hd]
      have h2 : (keysH H)[j]? = some e.1 := by simp [keysH, he]
      have h3 := (List.getElem?_inj (by rw [keys_len]; exact hil) hB.nd).1 (h1.trans (by rw [eq, ← h2]))
      omega
    have hAd : A d.1 = A0' d.1 := hsame i d hi hd
    have hxA : x ∈ A d.1 := by rw [hAd]; exact hs2
    have hput := hat.put hek (A e.1 ++ [x])
    have hints : ints (A e.1) ++ ((x : Int) :: []) = ints (A e.1 ++ [x]) := by unfold ints; rw [List.map_append]; rfl
    generalize hat1 : List.set at_ e.1 ((killAt ar1 (nth at_ 0 e.1)).length + 1) = at1 at hput
    generalize har1 : (killAt ar1 (nth at_ 0 e.1)) ++ [some (ints (A e.1 ++ [x]))] = ar1' at hput
    have hrow1 : Mt.upd A e.1 (A e.1 ++ [x]) d.1 = A d.1 := Mt.upd_ne _ _ hne
    have hr : rowAt ar1' (nth at1 0 d.1) = ints (A d.1) := by rw [hput.row d.1 hdk, hrow1]
    obtain ⟨t, ht1, ht2, ht3, ht4⟩ := index_eq F hF ar0 (hput.live d.1 hdk) hr (by have := hlenA d.1 hdk; omega) hxA
    obtain ⟨dl, hd1, hd2, hd3, hd4⟩ := delete_eq F ar0 (hput.live d.1 hdk) hr ht2
    rw [← erase_split _ _ _ ht2 ht3 ht4] at hd4
    have hput2 := hput.put hdk ((A d.1).erase x)
    have hmem : decide (d.1 ∈ keysH H) = true := by
      simp only [decide_eq_true_eq]
      exact List.mem_map.2 ⟨d, List.mem_of_getElem? hd, rfl⟩
    have hM2 := hM.move hdk hne hmem hxA hs3
    obtain ⟨A2, at2, ar2, k1, k2, k3⟩ := ihj i hi n d _ _ _ hd (by omega) hput2 hM2 (fun i' d' hi' hd' => by
      have hne1 : ∀ (y : Nat × (Int × Int)) (m : Nat), H[m]? = some y → i' ≠ m → d'.1 ≠ y.1 := fun y m hy hm eq => by
        have h1 : (keysH H)[i']? = some d'.1 := by simp [keysH, hd']
        have h2 : (keysH H)[m]? = some y.1 := by simp [keysH, hy]
        have h3 := (List.getElem?_inj (by rw [keys_len]; exact (List.getElem?_eq_some_iff.1 hd').1) hB.nd).1 (h1.trans (by rw [eq, ← h2]))
        omega
      rw [Mt.upd_ne _ _ (hne1 d i hd (by omega)), Mt.upd_ne _ _ (hne1 e j he (by omega))]
      exact hsame i' d' (by omega) hd')
    refine ⟨A2, at2, ar2, ?_, k2, k3⟩
    apply pre
    rw [hs1, hints]
    show (bif inB (d.1 : Int) ((List.set at_ e.1 ((killAt ar1 (nth at_ 0 e.1)).length + 1)).length - 0) then ob (index_S F (nth (List.set at_ e.1 ((killAt ar1 (nth at_ 0 e.1)).length + 1)) 0 (d.1 : Int).toNat) (x : Int) ar0 ((killAt ar1 (nth at_ 0 e.1)) ++ [some (ints (A e.1 ++ [x]))])) (fun r3 => bif inB (d.1 : Int) ((List.set at_ e.1 ((killAt ar1 (nth at_ 0 e.1)).length + 1)).length - 0) then ob (delete_S F (nth (List.set at_ e.1 ((killAt ar1 (nth at_ 0 e.1)).length + 1)) 0 (d.1 : Int).toNat) r3.1 (IntKind.wrap IntKind.i64 (r3.1 + (1 : Int))) r3.2.1 r3.2.2) (fun r4 => bif inB (d.1 : Int) ((List.set at_ e.1 ((killAt ar1 (nth at_ 0 e.1)).length + 1)).length - 0) then insert_L3 F best sp wf od ps lf (H.length, encF 0 H) n (d.1 : Int) (List.set (List.set at_ e.1 ((killAt ar1 (nth at_ 0 e.1)).length + 1)) (d.1 : Int).toNat (r4.2.2.1.length + 1)) r4.2.1 (r4.2.2.1 ++ ((Option.some (List.take r4.1.2 (List.drop r4.1.1 r4.2.2.2))) :: [])) else none) else none) else none) = _
    rw [hat1, har1, Int.toNat_natCast, ht1, show inB (d.1 : Int) (at1.length - 0) = true by rw [Nat.sub_zero, hput.len]; exact inB_nat hdk]
    show ob (delete_S F (nth at1 0 d.1) (t : Int) (IntKind.wrap IntKind.i64 ((t : Int) + (1 : Int))) ar0 ar1') _ = _
    rw [i64s (by have := hlenA d.1 hdk; omega), hd1]
    show insert_L3 F best sp wf od ps lf (H.length, encF 0 H) n (d.1 : Int) (List.set at1 d.1 (dl.2.2.1.length + 1)) dl.2.1 (dl.2.2.1 ++ [some (List.take dl.1.2 (List.drop dl.1.1 dl.2.2.2))]) = _
    rw [hd2, hd3, hd4]
    exact k1
theorem inv_len {k : Nat} {pm : Nat → Nat → Bool} {W cap left q : Nat → Int} {ws : List Nat} {A : Nat → List Nat} (h : Mt.Inv k pm W cap ws A left q) {o : Nat} (ho : o < k) : (A o).length ≤ ws.length := by
  have := List.Nodup.length_le_of_subset (h.nd o ho) (fun x hx => (h.sub o ho x hx).1)
  exact this
/-- One wafer more is placed. -/
theorem insert_eq (h : MOk sp wf od) (F : Nat) (hF : 2000 < F) {ps : List Nat} {ar0 : A0} (hf : Fl sp wf od ps ar0) {at_ : List Nat} {lf : List Int} (hlf : lf.length = od.length) (hl60 : ∀ o, o < od.length → nth lf 0 o ≤ 1000) {ar1 : A1} {A : Nat → List Nat} (hat : AtOk od.length at_ ar1 A) {cap q : Nat → Int} {ws : List Nat} (hI : Mt.Inv od.length (pmM sp wf od) (wO od) cap ws A (nth lf 0) q) (hwn : ws.Nodup) (hws : ∀ x ∈ ws, x < wf.length) {w : Nat} (hw : w ∉ ws) (hwl : w < wf.length) :
    ∃ (g : Int) (at2 : List Nat) (lf2 : List Int) (ar2 : A1) (A2 : Nat → List Nat) (q2 : Nat → Int), insert_S F (w : Int) sp wf od ps at_ lf ar0 ar1 = some (g, at2, lf2, ar0, ar2) ∧ AtOk od.length at2 ar2 A2 ∧ Mt.Inv od.length (pmM sp wf od) (wO od) cap (ws ++ [w]) A2 (nth lf2 0) q2 ∧ lf2.length = od.length ∧ (∀ o, o < od.length → nth lf2 0 o ≤ 1000) ∧ Mt.tot od.length (wO od) cap (nth lf2 0) = Mt.tot od.length (wO od) cap (nth lf 0) + g ∧ 0 ≤ g ∧ g ≤ 1001000000 := by
  have ho := h.o
  have hww := h.w
  have hwsl : ws.length ≤ 60 := Nat.le_trans (nodup_len hwn hws) hww
  have hA : ∀ o, o < od.length → (A o).length ≤ 1000 ∧ ∀ x ∈ A o, x < wf.length := fun o ho' => ⟨by have := inv_len hI ho'; omega, fun x hx => hws x (hI.sub o ho' x hx).1⟩
  have e0 := ins0 h F hf at_ lf ar1 hwl od.length 0 F (by omega) (by omega)
  have hB0 := BF.first od.length (pmM sp wf od) A w
  obtain ⟨H, best, en, e1, hB, hE⟩ := ins1 h F hF hf hlf hat hA od.length 0 F _ 0 (ints (keysH (add0 (pmM sp wf od) w (List.range od.length)))) 0 (-1) (by omega) (by omega) hB0 (.inl ⟨rfl, rfl, fun i d hi => by omega⟩) (Nat.zero_le _) (by rw [List.drop_zero, List.drop_zero])
  have r2 : ∀ o, o < od.length → decide (o ∈ keysH H) = true → ∀ x, x ∈ A o → ∀ p, p < od.length → pmM sp wf od x p = true → decide (p ∈ keysH H) = true := by
    intro o ho' hr x hx p hp hpx
    simp only [decide_eq_true_eq] at hr ⊢
    obtain ⟨d, hd, rfl⟩ := List.mem_map.1 hr
    obtain ⟨i, hi⟩ := List.getElem?_of_mem hd
    exact hB.cl i d hi (List.getElem?_eq_some_iff.1 hi).1 x hx p hp hpx
  have r1 : ∀ p, p < od.length → pmM sp wf od w p = true → decide (p ∈ keysH H) = true := fun p hp hpw => by simpa using hB.st p hp hpw
  have unf : insert_S F (w : Int) sp wf od ps at_ lf ar0 ar1 = (bif decide (en < 0) then some ((0 : Int), (at_, lf, ar0, ar1)) else bif inB en (lf.length - 0) then bif inB en (lf.length - 0) then ob (insert_L3 F best sp wf od ps (List.set lf en.toNat (IntKind.wrap IntKind.i64 ((nth lf 0 en.toNat) - 1))) (H.length, encF 0 H) F en at_ ar0 ar1) (fun s6 => some (s6.1, (s6.2.2.2.2.2.1, s6.2.2.2.2.2.2.1, s6.2.2.2.2.2.2.2.1, s6.2.2.2.2.2.2.2.2))) else none else none) := by
    unfold insert_S
    rw [show insert_L0 F (w : Int) ((od.length - 0) : Int) sp wf od ps at_ lf ar0 ar1 F (0 : Int) (0, []) [] = _ from e0]
    show ob (insert_L1 F F 0 (0 : Int) (-1 : Int) sp wf od ps at_ lf ar0 ar1 _ _) _ = _
    rw [e1]
  rcases hE with ⟨h1, h2, h3⟩ | ⟨i, d, h1, h2, h3, h4, h5, h6⟩
  · refine ⟨0, at_, lf, ar1, A, _, ?_, hat, hI.stay hw (fun o => decide (o ∈ keysH H)) r1 r2 (fun o ho' hr => ?_), hlf, hl60, by omega, by omega, by omega⟩
    · rw [unf, h1]; rfl
    · simp only [decide_eq_true_eq] at hr
      obtain ⟨d, hd, rfl⟩ := List.mem_map.1 hr
      obtain ⟨i, hi⟩ := List.getElem?_of_mem hd
      have := h3 i d (List.getElem?_eq_some_iff.1 hi).1 hi
      have := hI.ge d.1 ho'
      omega
  · have hdk : d.1 < od.length := hB.lt d (List.mem_of_getElem? h2)
    have hdm : decide (d.1 ∈ keysH H) = true := by
      simp only [decide_eq_true_eq]
      exact List.mem_map.2 ⟨d, List.mem_of_getElem? h2, rfl⟩
    have hW := wO_le h hdk
    have hM := hI.start (fun o => decide (o ∈ keysH H)) r1 r2 hdk h4 h5.symm (by omega) (fun o ho' hr hlo => by
      simp only [decide_eq_true_eq] at hr
      obtain ⟨d', hd', rfl⟩ := List.mem_map.1 hr
      obtain ⟨i', hi'⟩ := List.getElem?_of_mem hd'
      rw [h5]
      exact h6 i' d' (List.getElem?_eq_some_iff.1 hi').1 hi' hlo) hdm
    have hup : Mt.upd (nth lf 0) d.1 (nth lf 0 d.1 - 1) = nth (List.set lf d.1 (nth lf 0 d.1 - 1)) 0 := by
      rw [nth_set lf 0 _ (by omega)]; rfl
    rw [hup] at hM
    have hb := hl60 d.1 hdk
    obtain ⟨A2, at2, ar2, k1, k2, k3⟩ := ins3 F hF ps ar0 (List.set lf d.1 (nth lf 0 d.1 - 1)) best ho hB hw (by omega) hwn i F d A at_ ar1 h2 (by have := hB.hlen; have := (List.getElem?_eq_some_iff.1 h2).1; omega) hat hM (fun _ _ _ _ => rfl)
    refine ⟨best, at2, List.set lf d.1 (nth lf 0 d.1 - 1), ar2, A2, _, ?_, k2, k3, by rw [List.length_set]; exact hlf, fun o ho' => ?_, ?_, by omega, by omega⟩
    · rw [unf, h3, Int.toNat_natCast, w64 _ (by omega), show decide ((d.1 : Int) < 0) = false by simp, show inB (d.1 : Int) (lf.length - 0) = true by rw [Nat.sub_zero, hlf]; exact inB_nat hdk, k1]
      rfl
    · rw [nth_set lf 0 _ (by omega)]; unfold updF
      have := hl60 o ho'; split <;> omega
    · rw [← hup, Mt.tot_dec _ _ _ _ hdk, h5]
end
end Go.Proofs.YtbepdcodkecboaaDoor


namespace Go.Proofs.YtbepdcodkecboaaDoor
open Go.RowKit
set_option maxRecDepth 100000
section
variable {sp : List SpT} {wf : List WfT} {od : List OdT}
/-- m is the greatest rank that the wafers from one on can have. -/
def BestM (sp : List SpT) (wf : List WfT) (od : List OdT) (cap : Nat → Int) (fr : Nat) (m : Int) : Prop :=
  ∃ (A : Nat → List Nat) (left q : Nat → Int), Mt.Inv od.length (pmM sp wf od) (wO od) cap (List.range' fr (wf.length - fr)) A left q ∧ m = Mt.tot od.length (wO od) cap left
theorem range'_snoc (a n : Nat) : List.range' a n ++ [a + n] = List.range' a (n + 1) := by
  rw [List.range'_concat]; simp
theorem most0 (h : MOk sp wf od) (F : Nat) (hF : 2000 < F) {ps : List Nat} {ar0 : A0} (hf : Fl sp wf od ps ar0) (lf0 : List Int) (cap : Nat → Int) (fr : Nat) : ∀ (m i n : Nat) (nn : Int) (ar1 : A1) (at_ : List Nat) (lf : List Int) (A : Nat → List Nat) (q : Nat → Int), fr + i + m = wf.length → m < n → AtOk od.length at_ ar1 A → Mt.Inv od.length (pmM sp wf od) (wO od) cap (List.range' fr i) A (nth lf 0) q → lf.length = od.length → (∀ o, o < od.length → nth lf 0 o ≤ 1000) → nn = Mt.tot od.length (wO od) cap (nth lf 0) → 0 ≤ nn ∧ nn ≤ 1001000000 * (i : Int) →
    ∃ (v : Int) (ar2 : A1), most_L0 F sp wf od ps lf0 n nn ((fr + i : Nat) : Int) ar0 ar1 at_ lf = some (v, (sp, wf, od, ps, lf0, ar0, ar2)) ∧ BestM sp wf od cap fr v ∧ 0 ≤ v ∧ v ≤ 1001000000 * (wf.length : Int)
  | 0, i, n + 1, nn, ar1, at_, lf, A, q, hi, _, _, hI, _, _, hn, hb => by
    refine ⟨nn, ar1, ?_, ⟨A, nth lf 0, q, ?_, hn⟩, hb.1, by omega⟩
    · show (bif decide (((fr + i : Nat) : Int) < ((wf.length - 0) : Int)) then _ else _) = _
      rw [show fr + i = wf.length by omega, Int.sub_zero, lt_f]; rfl
    · rw [show wf.length - fr = i by omega]; exact hI
  | m + 1, i, n + 1, nn, ar1, at_, lf, A, q, hi, hnm, hat, hI, hlf, hl, hn, hb => by
    have hw := h.w
    have hwl : fr + i < wf.length := by omega
    obtain ⟨g, at2, lf2, ar2, A2, q2, e1, e2, e3, e4, e5, e6, e7, e8⟩ := insert_eq h F hF hf hlf hl hat hI (List.nodup_range') (fun x hx => by rw [List.mem_range'] at hx; obtain ⟨t, ht, rfl⟩ := hx; omega) (w := fr + i) (fun hx => by rw [List.mem_range'] at hx; obtain ⟨t, ht, e⟩ := hx; omega) hwl
    rw [range'_snoc] at e3
    obtain ⟨v, ar3, j1, j2⟩ := most0 h F hF hf lf0 cap fr m (i + 1) n (nn + g) ar2 at2 lf2 A2 q2 (by omega) (by omega) e2 e3 e4 e5 (by rw [e6, hn]) (by omega)
    refine ⟨v, ar3, ?_, j2⟩
    rw [← j1]
    show (bif decide (((fr + i : Nat) : Int) < ((wf.length - 0) : Int)) then ob (insert_S F ((fr + i : Nat) : Int) sp wf od ps at_ lf ar0 ar1) _ else _) = _
    rw [Int.sub_zero, lt_t hwl, e1]
    show most_L0 F sp wf od ps lf0 n (IntKind.wrap IntKind.i64 (nn + g)) (IntKind.wrap IntKind.i64 (((fr + i : Nat) : Int) + 1)) ar0 ar2 at2 lf2 = _
    rw [w64 _ (by omega), i64s (by omega), show fr + i + 1 = fr + (i + 1) by omega]
  | m, i, 0, _, _, _, _, _, _, _, hn, _, _, _, _, _, _ => by omega
theorem most_eq (h : MOk sp wf od) (F : Nat) (hF : 2000 < F) {ps : List Nat} {ar0 : A0} (hf : Fl sp wf od ps ar0) {lf : List Int} (hlf : lf.length = od.length) (hl : ∀ o, o < od.length → 0 ≤ nth lf 0 o ∧ nth lf 0 o ≤ 1000) {fr : Nat} (hfr : fr ≤ wf.length) (ar1 : A1) :
    ∃ (v : Int) (ar2 : A1), most_S F (fr : Int) sp wf od ps lf ar0 ar1 = some (v, ar0, ar2) ∧ BestM sp wf od (nth lf 0) fr v ∧ 0 ≤ v ∧ v ≤ 1001000000 * (wf.length : Int) := by
  have ho := h.o
  have hw := h.w
  have hat : AtOk od.length (List.replicate od.length 0) ar1 (fun _ => []) := by
    have hz : ∀ o, nth (List.replicate od.length 0) 0 o = 0 := fun o => by
      unfold nth
      by_cases e : o < od.length
      · simp [List.getD, e]
      · simp [List.getD, e]
    refine ⟨by simp, fun o _ => by rw [hz]; rfl, fun o _ => by rw [hz]; rfl, fun o _ p _ _ h0 => absurd (hz o) h0, fun o _ => by rw [hz]; omega⟩
  obtain ⟨v, ar2, e1, e2⟩ := most0 h F hF hf lf (nth lf 0) fr (wf.length - fr) 0 F 0 ar1 (List.replicate od.length 0) lf (fun _ => []) (wO od) (by omega) (by omega) hat (Mt.Inv.nil (fun o ho' => (hl o ho').1) (fun o ho' => by have := wO_le h ho'; omega)) hlf (fun o ho' => (hl o ho').2) (Mt.tot_cap _ _ _).symm (by omega)
  refine ⟨v, ar2, ?_, e2⟩
  unfold most_S
  rw [show ((decide ((0 : Int) ≤ ((od.length - 0) : Int))) && (decide (((od.length - 0) : Int) ≤ (1000000 : Int)))) = true by rw [Int.sub_zero]; simp; omega]
  unfold clone_S
  rw [lenOk_of (by omega)]
  show ob (most_L0 F sp wf od ps lf F (0 : Int) (fr : Int) ar0 ar1 (List.replicate ((od.length - 0) : Int).toNat 0) lf) _ = _
  rw [show ((od.length - 0) : Int).toNat = od.length by omega]
  rw [show most_L0 F sp wf od ps lf F (0 : Int) (fr : Int) ar0 ar1 (List.replicate od.length 0) lf = _ from e1]
theorem BestM.upper (h : MOk sp wf od) {cap : Nat → Int} {fr : Nat} {m : Int} (hb : BestM sp wf od cap fr m) {a : Nat → Option Nat} (ha : Mt.Feas od.length (pmM sp wf od) cap (List.range' fr (wf.length - fr)) a) : Mt.val (wO od) a (List.range' fr (wf.length - fr)) ≤ m := by
  obtain ⟨A, left, q, h1, rfl⟩ := hb
  exact h1.upper List.nodup_range' ha
theorem BestM.got {cap : Nat → Int} {fr : Nat} {m : Int} (hb : BestM sp wf od cap fr m) : ∃ a, Mt.Feas od.length (pmM sp wf od) cap (List.range' fr (wf.length - fr)) a ∧ Mt.val (wO od) a (List.range' fr (wf.length - fr)) = m := by
  obtain ⟨A, left, q, h1, rfl⟩ := hb
  exact ⟨_, h1.feas List.nodup_range', h1.val_own List.nodup_range'⟩
end
end Go.Proofs.YtbepdcodkecboaaDoor
