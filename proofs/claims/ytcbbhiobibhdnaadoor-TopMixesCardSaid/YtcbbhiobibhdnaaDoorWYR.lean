/- A law's arguments with parts that are slices of what has no references: opened, and handed to a call. No condition. -/
import Derived.Test.YtcbbhiobibhdnaaDoorWYF
namespace Go.Proofs.YtcbbhiobibhdnaaDoor
open Go.RowKit
open Go.ChangeShapes Go.WideShapes Go.Deep
def scV : CV → Value
 | .sc v => v
 | _ => undef
theorem xQy : ∀ {τ : TC} {y : τ.ty}, xTp τ y → ∀ c ∈ τ.enc y, ∃ v, c = CV.sc v
 | .int _, _, _, c, h => ⟨_, by simpa [TC.enc] using h⟩
 | .bool, _, _, c, h => ⟨_, by simpa [TC.enc] using h⟩
 | .str, _, _, c, h => ⟨_, by simpa [TC.enc] using h⟩
 | .nil, _, _, c, h => by simp [TC.enc] at h
 | .cv, _, hf, _, _ => hf.elim
 | .er, _, hf, _, _ => hf.elim
 | .rf _ _, _, hf, _, _ => hf.elim
 | .pair a c, x, hf, b, h => by
  simp only [TC.enc, List.mem_append] at h
  rcases h with h | h
  ·exact xQy hf.1 b h
  ·exact xQy hf.2 b h
theorem xLx : ∀ {l : List CV} {vs : List Value}, (∀ c ∈ l, ∃ v, c = CV.sc v) → DenL [] l vs → vs = l.map scV
 | [], _, _, h => h
 | c :: l, _, hn, ⟨v, r, e, h1, h2⟩ => by
  rw [e, List.map_cons, ← xLx (fun b hb => hn b (by simp [hb])) h2]
  obtain ⟨u, rfl⟩ := hn c (by simp)
  congr 1
  exact h1.1
theorem xLi {α : Type} {f : α → List Value} {k : Nat} (hk : ∀ y, (f y).length = k) : ∀ (xs : List α) (j : Nat) (v : Value), (xs.flatMap f)[j]? = some v → ∃ i, ∃ hi : i < xs.length, ∃ j', j = i * k + j' ∧ (f xs[i])[j']? = some v
 | [], j, v, h => by simp at h
 | x :: xs, j, v, h => by
  rw [List.flatMap_cons] at h
  by_cases hj : j < (f x).length
  ·rw [List.getElem?_append_left hj] at h
   exact ⟨0, by simp, j, by omega, h⟩
  ·rw [List.getElem?_append_right (by omega)] at h
   obtain ⟨i, hi, j', e, h'⟩ := xLi hk xs _ v h
   refine ⟨i + 1, by simp only [List.length_cons]; omega, j', ?_, h'⟩
   have := hk x
   rw [Nat.add_mul]
   omega
theorem xQw (τ : TC) (xs : List τ.ty) (h : ∀ y ∈ xs, DenL [] (τ.enc y) ((τ.enc y).map scV)) : DenL [] (flat τ xs) (xs.flatMap fun y => (τ.enc y).map scV) := by
 unfold flat
 induction xs with
 | nil => exact rfl
 | cons x xs ih =>
  rw [List.flatMap_cons, List.flatMap_cons]
  exact DenL.app (h x (by simp)) (ih fun y hy => h y (by simp [hy]))
/-- A slice that comes in, of what has no references. -/
structure SlIn (W : World) (τ : TC) (i : Info) (xs : List τ.ty) : Prop where
 len : i.len = some xs.length
 root : RootOk [] W i (.ro τ xs)
 le : xs.length ≤ i.cap
 big : i.cap ≤ maxLen
 fit : ∀ y ∈ xs, xTp τ y
 objs : ∀ t, i.objs t = []
theorem sl_in {P : Program} {H : Type} {enc : TypeId × Value → H} {W : World} {base : Nat} {held : Bool} {fuel d : Nat} {cs : List Value} {x : DataW H × List MemPlace} {t e : TypeId} {τ : TC} (ht : P.underlying t = some (.slice e)) (hτ : xBE P d e = τ) (hc : chkT P d e = true) (hw : P.cellsOf e = τ.w) (hpos : 0 < τ.w)
  (y0 : τ.ty) (h : DataW.trod enc P W base (fun _ => true) held fuel t cs = some x) : ∃ (i : Info) (xs : List τ.ty), cs = [.slice i.a xs.length i.cap] ∧ SlIn W τ i xs := by
 subst hτ
 obtain ⟨a, cap, xs, e1, e2, e3⟩ := xSW (f := fun y => ((xBE P d e).enc y).map scV) (Pr := fun y => DenL [] ((xBE P d e).enc y) (((xBE P d e).enc y).map scV) ∧ xTp (xBE P d e) y) y0 ht hw hpos (fun l => by rw [List.length_map, TC.enc_len])
  (fun n cs x h => by
   obtain ⟨y, h1, h2⟩ := xEP d e n cs x hc h
   have h3 := xLx (xQy h2) h1
   exact ⟨y, h3, h3 ▸ h1, h2⟩) h rfl
 refine ⟨⟨a, cap, some xs.length, undef⟩, xs, e1, rfl, ⟨rfl, _, xQw _ xs fun y hy => (e3 y hy).1, fun h0 => ?_⟩, e2.le, e2.big, fun y hy => (e3 y hy).2, fun _ => rfl⟩
 obtain ⟨b, off, ha, hb, hcl⟩ := e2.cells h0
 refine ⟨b, off, ha, hb, fun j v hv => ?_⟩
 obtain ⟨i, hi, j', e4, e5⟩ := xLi (f := fun y => ((xBE P d e).enc y).map scV) (fun y => by rw [List.length_map, TC.enc_len]) xs j v hv
 rw [e4, ← Nat.add_assoc]
 exact hcl i hi j' v e5
theorem SlIn.den {ρ : List Info} {W : World} {τ : TC} {i : Info} {xs : List τ.ty} (h : SlIn W τ i xs) {id k : Nat} (hi : ρ[id]? = some i) : Den ρ (.sl id k 0 none none) (.slice i.a xs.length i.cap) := by
 obtain ⟨_, _, _, h3⟩ := h.root
 refine ⟨i, i.a, i.cap, xs.length, hi, rfl, h.le, h.big, fun h0 => ?_, ⟨_, h.len, by rw [Nat.sub_zero]⟩, ⟨_, h.len, by omega⟩, by rw [Nat.sub_zero], rfl, fun _ => rfl, fun _ => ?_⟩
 ·obtain ⟨b, o, ha, _⟩ := h3 h0
  exact ⟨b, o, ha⟩
 ·rw [Nat.zero_mul]
  cases i.a with
  | none => rfl
  | some a => show some a = some (a.add 0); unfold Addr.add; rw [if_pos rfl]
theorem xLj {P : Program} {H : Type} {enc : TypeId × Value → H} {W : World} {base d : Nat} {spare : Nat → Bool} {held : Bool} {fuel : Nat} {cs : List Value} {x : DataW H × List MemPlace} {t : TypeId} {τ : TC} (hτ : xBE P d t = τ) (hc : chkT P d t = true) (h : DataW.trod enc P W base spare held fuel t cs = some x) : ∃ y : τ.ty, DenL [] (τ.enc y) cs ∧ xTp τ y := by
 subst hτ
 exact xEP d t fuel cs x hc h
theorem pre_nil (ρ : List Info) : Pre [] ρ := fun _ _ h => by simp at h
def ArgsR (ρ : List Info) (vs : List Value) : (l : List (Nat × PK)) → xLW l → Prop
 | [], _ => True
 | p :: l, x => (∃ v, DenP ρ (p.2.enc same (pf p.2.dflt p.2.hasD (slD l) x)) v ∧ vs[p.1]? = some v) ∧ ArgsR ρ vs l (ps (xSg l) p.2.hasD (slD l) x)
theorem ArgsR.den {ρ : List Info} {vs : List Value} : ∀ {l : List (Nat × PK)} {x : xLW l}, ArgsR ρ vs l x → ∀ q p, lkP (xBm same l x) q = some p → ∃ v, DenP ρ p v ∧ vs[q]? = some v
 | [], _, _, q, p, h => by
  have h : lkP .nil q = some p := h
  rw [xEz] at h
  cases h
 | a :: l, x, ⟨h1, h2⟩, q, p, h => by
  have g : lkP (xE4 (xBm same l (ps (xSg l) a.2.hasD (slD l) x)) a.1 (a.2.enc same (pf a.2.dflt a.2.hasD (slD l) x))) q = some p := h
  rw [xBQ] at g
  by_cases e : q = a.1
  ·rw [if_pos e] at g
   subst e
   rw [← Option.some.inj g]
   exact h1
  ·rw [if_neg e] at g
   exact ArgsR.den h2 q p g
/-- What is only read. -/
def RosOk (W : World) : List Info → List Root → Prop
 | [], hs => hs = []
 | i :: ρ, hs => ∃ τ xs l, hs = .ro τ xs :: l ∧ RootOk [] W i (.ro τ xs) ∧ (∀ t, i.objs t = []) ∧ RosOk W ρ l
theorem RosOk.get {W : World} : ∀ {ρ : List Info} {h : List Root}, RosOk W ρ h → ρ.length = h.length ∧ ∀ (id : Nat) (r : Root) (i : Info), h[id]? = some r → ρ[id]? = some i → (∃ τ xs, r = .ro τ xs) ∧ RootOk [] W i r ∧ ∀ t, i.objs t = []
 | [], _, h => by
  rw [show _ = [] from h]
  exact ⟨rfl, fun id r i e => by simp at e⟩
 | i :: ρ, _, ⟨τ, xs, l, e, h1, h3, h2⟩ => by
  subst e
  obtain ⟨g1, g2⟩ := RosOk.get h2
  refine ⟨by simp [g1], fun id r j e1 e2 => ?_⟩
  cases id with
  | zero => cases e1; cases e2; exact ⟨⟨τ, xs, rfl⟩, h1, h3⟩
  | succ id => exact g2 id r j (by simpa using e1) (by simpa using e2)
/-- What is only read, and arenas without objects. -/
def RosA (W : World) : List Info → List Root → Prop
 | [], hs => hs = []
 | i :: ρ, hs => ∃ r l, hs = r :: l ∧ ((∃ τ xs, r = .ro τ xs) ∨ (r.tag ≠ none ∧ r.obs = [])) ∧ RootOk [] W i r ∧ (∀ t, i.objs t = []) ∧ RosA W ρ l
theorem RosA.get {W : World} : ∀ {ρ : List Info} {h : List Root}, RosA W ρ h → ρ.length = h.length ∧ (∀ (id : Nat) (i : Info) (t : Nat), ρ[id]? = some i → i.objs t = []) ∧ ∀ (id : Nat) (r : Root) (i : Info), h[id]? = some r → ρ[id]? = some i → ((∃ τ xs, r = .ro τ xs) ∨ (r.tag ≠ none ∧ r.obs = [])) ∧ RootOk [] W i r
 | [], _, h => by
  rw [show _ = [] from h]
  exact ⟨rfl, fun id i t e => by simp at e, fun id r i e => by simp at e⟩
 | i :: ρ, _, ⟨r0, l, e, h1, h2, h3, h4⟩ => by
  subst e
  obtain ⟨g1, g2, g3⟩ := RosA.get h4
  refine ⟨by simp [g1], fun id j t e => ?_, fun id r j e1 e2 => ?_⟩
  ·cases id with
   | zero => cases e; exact h3 t
   | succ id => exact g2 id j t (by simpa using e)
  ·cases id with
   | zero => cases e1; cases e2; exact ⟨h1, h2⟩
   | succ id => exact g3 id r j (by simpa using e1) (by simpa using e2)
theorem xD4 {i : Info} {r : Root} (h : (∃ τ xs, r = .ro τ xs) ∨ (r.tag ≠ none ∧ r.obs = [])) (b : Nat) : ¬ own i r b := by
 rcases h with ⟨τ, xs, rfl⟩ | ⟨h1, h2⟩
 ·exact fun h => h
 ·obtain ⟨t, ht⟩ := Option.ne_none_iff_exists'.1 h1
  intro h
  obtain ⟨m, v, o, _, h3, _⟩ := ((xFF (ρ := []) (w := default) ht).2 b).1 h
  rw [h2] at h3
  simp at h3
theorem xOx {P : Program} {f n : Nat} {l : List (Nat × PK)} {rs os : List RK} {spec : Sch.ty ⟨l, rs⟩ → Option (FSch.ty ⟨.one (.c (.t .bool)), os⟩)} (h : xAK P f n ⟨l, rs⟩ ⟨.one (.c (.t .bool)), os⟩ spec) (s : Sch.ty ⟨l, rs⟩) (t : FSch.ty ⟨.one (.c (.t .bool)), os⟩) (hs : spec s = some t) (ht : FSch.a ⟨.one (.c (.t .bool)), os⟩ t = true) (vs : List Value) (hn : vs.length = n) (W : World) (hcl : xBb P f = true) (ρ : List Info) (ha : ArgsR ρ vs l (Sch.a ⟨l, rs⟩ s)) (hr : RosA W ρ (xAx same rs (Sch.b ⟨l, rs⟩ s))) (hg : gOk W ∧ ∀ b ∈ xJ9, b < W.heap.size) :
  Calls P f vs.toArray W (fun e W' => e = .returned (.bool true) ∧ Ex [] W W') := by
 obtain ⟨g1, g0, g2⟩ := hr.get
 have hO : HOk [] (ρ.filterMap fun i => i.a.map (·.block)) W ρ (xAx same rs (Sch.b ⟨l, rs⟩ s)) W := by
  refine ⟨Ex.refl _ _, g1, fun id r i e1 e2 => ?_, fun p q r s i j b hne e1 e2 e3 e4 ho => absurd ho (xD4 (g2 p r i e1 e3).1 b), fun p r i b e1 e2 ho => absurd ho (xD4 (g2 p r i e1 e2).1 b), fun p r i b e1 e2 ho => ?_, hg.1, fun b hb => ⟨hg.2 b hb, by simp⟩, fun p t r i e1 e2 ht id j m v hj hv => (by rw [g0 id j t hj] at hv; simp at hv), fun p r i e1 e2 => .inr fun t _ => g0 p i t e2⟩
  ·exact (g2 id r i e1 e2).2.mono (fun id i h => by simp at h)
  ·rcases (g2 p r i e1 e2).1 with ⟨τ, xs, rfl⟩ | h3
   ·refine .inr (.inr (List.mem_filterMap.2 ⟨i, List.mem_of_getElem? e2, ?_⟩))
    cases xs with
    | nil => cases ho
    | cons x xs => exact ho
   ·obtain ⟨t, ht⟩ := Option.ne_none_iff_exists'.1 h3.1
    exact absurd ((xEY ht).1 ho) (xD4 (.inr h3) b)
 refine (h s t hs [] _ W ρ W vs hn ha.den hO hcl).mono ?_
 rintro e w' ⟨ι', u, rfl, _, hu, hh, _⟩
 have hu' : u = .bool (FSch.a ⟨.one (.c (.t .bool)), os⟩ t) := hu.1
 rw [ht] at hu'
 exact ⟨congrArg _ hu', hh.ext⟩
theorem RosA.hok {W : World} {ρ : List Info} {h : List Root} (hr : RosA W ρ h) (hg : gOk W ∧ ∀ b ∈ xJ9, b < W.heap.size) : HOk [] (ρ.filterMap fun i => i.a.map (·.block)) W ρ h W := by
 obtain ⟨g1, g0, g2⟩ := hr.get
 refine ⟨Ex.refl _ _, g1, fun id r i e1 e2 => ?_, fun p q r s i j b hne e1 e2 e3 e4 ho => absurd ho (xD4 (g2 p r i e1 e3).1 b), fun p r i b e1 e2 ho => absurd ho (xD4 (g2 p r i e1 e2).1 b), fun p r i b e1 e2 ho => ?_, hg.1, fun b hb => ⟨hg.2 b hb, by simp⟩, fun p t r i e1 e2 ht id j m v hj hv => (by rw [g0 id j t hj] at hv; simp at hv), fun p r i e1 e2 => .inr fun t _ => g0 p i t e2⟩
 ·exact (g2 id r i e1 e2).2.mono (fun id i h => by simp at h)
 ·rcases (g2 p r i e1 e2).1 with ⟨τ, xs, rfl⟩ | h3
  ·refine .inr (.inr (List.mem_filterMap.2 ⟨i, List.mem_of_getElem? e2, ?_⟩))
   cases xs with
   | nil => cases ho
   | cons x xs => exact ho
  ·obtain ⟨t, ht⟩ := Option.ne_none_iff_exists'.1 h3.1
   exact absurd ((xEY ht).1 ho) (xD4 (.inr h3) b)
end Go.Proofs.YtcbbhiobibhdnaaDoor
