/- Arguments that come in, of types without references, are data of their types. No condition. -/
import Derived.Test.YthmicafabimfkaaWY6
import Derived.Test.YthmicafabimfkaaWVA

namespace Go.Proofs.Ythmicafabimfkaa
open Go.RowKit
open Go.ChangeShapes Go.WideShapes Go.Deep
/-- Numbers are of their kinds, texts not too long. -/
def FitT : (τ : TC) → τ.ty → Prop
  | .int k, n => k.min ≤ n ∧ n ≤ k.max
  | .str, s => s.size ≤ maxLen
  | .pair a b, x => FitT a x.1 ∧ FitT b x.2
  | .bool, _ => True
  | .er, _ => False
  | .rf _ _, _ => False
  | .cv, _ => False
  | .nil, _ => True
/-- Where the parts of a type lie. -/
def chkT (P : Program) : Nat → TypeId → Bool
  | 0, _ => false
  | d + 1, t => match P.underlying t with
    | some (.int _) => true
    | some .bool => true
    | some .string => true
    | some (.struct fs) => contig 0 (fs.toList.map fun f => (f.offset, P.cellsOf f.type)) (P.cellsOf t) && fs.toList.all (fun f => chkT P d f.type)
    | some (.array n e) => Nat.beq (P.cellsOf t) (n * P.cellsOf e) && chkT P d e
    | _ => false
theorem pairs_enc : ∀ {l : List TC} {css : List (List Value)}, l.length = css.length → (∀ (i : Nat) (τ : TC) (cs : List Value), l[i]? = some τ → css[i]? = some cs → ∃ v : τ.ty, DenL [] (τ.enc v) cs ∧ FitT τ v) → ∃ v : (tcPairs l).ty, DenL [] ((tcPairs l).enc v) css.flatten ∧ FitT (tcPairs l) v
  | [], [], _, _ => ⟨(), rfl, trivial⟩
  | [], _ :: _, h, _ => by simp at h
  | _ :: _, [], h, _ => by simp at h
  | [a], [c], _, h => by
    obtain ⟨v, h1, h2⟩ := h 0 a c rfl rfl
    exact ⟨v, by rw [List.flatten_cons, List.flatten_nil, List.append_nil]; exact h1, h2⟩
  | [_], _ :: _ :: _, h, _ => by simp at h
  | _ :: _ :: _, [_], h, _ => by simp at h
  | a :: b :: l, c :: d :: css, hl, h => by
    obtain ⟨v, h1, h2⟩ := h 0 a c rfl rfl
    obtain ⟨u, h3, h4⟩ := pairs_enc (l := b :: l) (css := d :: css) (by simpa using hl) (fun i τ cs e1 e2 => h (i + 1) τ cs (by simpa using e1) (by simpa using e2))
    refine ⟨(v, u), ?_, h2, h4⟩
    rw [List.flatten_cons]
    exact DenL.app h1 h3
theorem tcOf_int {P : Program} {d : Nat} {t : TypeId} {k} (h : P.underlying t = some (.int k)) : tcOf P (d + 1) t = .int k := by simp only [tcOf, h]
theorem tcOf_bool {P : Program} {d : Nat} {t : TypeId} (h : P.underlying t = some .bool) : tcOf P (d + 1) t = .bool := by simp only [tcOf, h]
theorem tcOf_str {P : Program} {d : Nat} {t : TypeId} (h : P.underlying t = some .string) : tcOf P (d + 1) t = .str := by simp only [tcOf, h]
theorem tcOf_st {P : Program} {d : Nat} {t : TypeId} {fs} (h : P.underlying t = some (.struct fs)) : tcOf P (d + 1) t = tcPairs (fs.toList.map (fun f => tcOf P d f.type)) := by simp only [tcOf, h]
theorem tcOf_arr {P : Program} {d : Nat} {t : TypeId} {n e} (h : P.underlying t = some (.array n e)) : tcOf P (d + 1) t = tcPairs (List.replicate n (tcOf P d e)) := by simp only [tcOf, h]
section
variable {P : Program} {H : Type} {enc : TypeId × Value → H} {W : World} {base : Nat} {spare : Nat → Bool} {held : Bool}
theorem trod_flat : ∀ (d : Nat) (t : TypeId) (fuel : Nat) (cs : List Value) (x : DataW H × List MemPlace), chkT P d t = true → DataW.trod enc P W base spare held fuel t cs = some x → ∃ v : (tcOf P d t).ty, DenL [] ((tcOf P d t).enc v) cs ∧ FitT (tcOf P d t) v
  | 0, t, _, _, _, hc, _ => by cases hc
  | d + 1, t, fuel, cs, x, hc, h => by
    unfold chkT at hc
    split at hc
    · rename_i k hu
      rw [tcOf_int hu]
      obtain ⟨n, hn, _, hw⟩ := DataW.trod_int hu h
      simp only [Lit.wf, Bool.and_eq_true, decide_eq_true_eq] at hw
      exact ⟨n, ⟨_, [], hn, ⟨rfl, rfl⟩, rfl⟩, hw⟩
    · rename_i hu
      rw [tcOf_bool hu]
      obtain ⟨n, hn, _⟩ := DataW.trod_bool hu h
      exact ⟨n, ⟨_, [], hn, ⟨rfl, rfl⟩, rfl⟩, trivial⟩
    · rename_i hu
      rw [tcOf_str hu]
      obtain ⟨n, hn, _, hs⟩ := DataW.trod_string hu h
      exact ⟨n, ⟨_, [], hn, ⟨rfl, rfl⟩, rfl⟩, hs⟩
    · rename_i fs hu
      rw [tcOf_st hu]
      simp only [Bool.and_eq_true, List.all_eq_true] at hc
      obtain ⟨xs, n, _, _, hlen, hxl, hg⟩ := DataW.trod_struct hu h
      have hp := parts _ hc.1 hlen
      rw [List.map_map] at hp
      rw [hp]
      refine pairs_enc (by simp) (fun i τ cs' e1 e2 => ?_)
      rw [List.getElem?_map] at e1 e2
      cases hf : fs.toList[i]? with
      | none => rw [hf] at e1; cases e1
      | some f =>
        rw [hf] at e1 e2
        cases e1; cases e2
        have hfa : fs[i]? = some f := by simpa using hf
        have hi := (Array.getElem?_eq_some_iff.1 hfa).1
        obtain ⟨y, hy⟩ := someOf (i := i) hxl hi
        have := (hg i f hfa).trans hy
        exact trod_flat d f.type n _ y (hc.2 f (List.mem_of_getElem? hf)) this
    · rename_i n e hu
      rw [tcOf_arr hu]
      simp only [Bool.and_eq_true] at hc
      obtain ⟨xs, m, _, _, hlen, hxl, hg⟩ := DataW.trod_array hu h
      have hcell := Nat.eq_of_beq_eq_true hc.1
      have hp : cs = ((List.range n).map fun i => (cs.drop (i * P.cellsOf e)).take (P.cellsOf e)).flatten := by
        have key : ∀ (k : Nat) (o : Nat) (l : List Value), l.length = k * P.cellsOf e → l = ((List.range k).map fun i => (l.drop (i * P.cellsOf e)).take (P.cellsOf e)).flatten := by
          intro k
          induction k with
          | zero => intro o l hl; rw [Nat.zero_mul] at hl; simp [List.eq_nil_of_length_eq_zero hl]
          | succ k ih =>
            intro o l hl
            rw [List.range_succ_eq_map, List.map_cons, List.flatten_cons, List.map_map]
            have := ih o (l.drop (P.cellsOf e)) (by rw [List.length_drop, hl, Nat.add_mul]; omega)
            conv => lhs; rw [← List.take_append_drop (P.cellsOf e) l, this]
            simp only [Nat.zero_mul, List.drop_zero]
            congr 3
            funext i
            simp only [Function.comp, List.drop_drop, Nat.add_mul, Nat.one_mul, Nat.succ_eq_add_one]
            rw [Nat.add_comm]
        exact key n 0 cs (by rw [hlen, hcell])
      rw [hp]
      refine pairs_enc (by simp) (fun i τ cs' e1 e2 => ?_)
      rw [List.getElem?_replicate] at e1
      split at e1
      · rename_i hi
        cases e1
        rw [List.getElem?_map, List.getElem?_range hi] at e2
        cases e2
        obtain ⟨y, hy⟩ := someOf (i := i) hxl hi
        exact trod_flat d e m _ y hc.2 ((hg i hi).trans hy)
      · cases e1
    · cases hc
end
theorem DenL.one {ρ : List Info} {L : List CV} {a : Value} (h : DenL ρ L [a]) : DenB ρ false L a := by
  cases L with
  | nil => cases h
  | cons c r =>
    obtain ⟨v, r', e, h1, h2⟩ := h
    cases e
    cases r with
    | nil => exact ⟨c, rfl, h1⟩
    | cons c' r =>
      obtain ⟨v, r', e, h1, h2⟩ := h2
      cases e
/-! A law's call -/
def ArgsD (vs : List Value) : (l : List (Nat × PK)) → slTy l → Prop
  | [], _ => True
  | p :: l, x => (∃ v, DenP [] (p.2.enc same (pf p.2.dflt p.2.hasD (slD l) x)) v ∧ vs[p.1]? = some v) ∧ ArgsD vs l (ps (slDf l) p.2.hasD (slD l) x)
theorem ArgsD.den {vs : List Value} : ∀ {l : List (Nat × PK)} {x : slTy l}, ArgsD vs l x → ∀ q p, lkP (slEnc same l x) q = some p → ∃ v, DenP [] p v ∧ vs[q]? = some v
  | [], _, _, q, p, h => by
    have h : lkP .nil q = some p := h
    rw [lkP_nil] at h
    cases h
  | a :: l, x, ⟨h1, h2⟩, q, p, h => by
    have g : lkP (putP (slEnc same l (ps (slDf l) a.2.hasD (slD l) x)) a.1 (a.2.enc same (pf a.2.dflt a.2.hasD (slD l) x))) q = some p := h
    rw [lkP_putP] at g
    by_cases e : q = a.1
    · rw [if_pos e] at g
      subst e
      rw [← Option.some.inj g]
      exact h1
    · rw [if_neg e] at g
      exact ArgsD.den h2 q p g
end Go.Proofs.Ythmicafabimfkaa


namespace Go.Proofs.Ythmicafabimfkaa
open Go.RowKit
open Go.ChangeShapes Go.WideShapes Go.Deep
def scV : CV → Value
  | .sc v => v
  | _ => undef
theorem fit_er : ∀ {τ : TC} {y : τ.ty}, FitT τ y → ∀ c ∈ τ.enc y, ∃ v, c = CV.sc v
  | .int _, _, _, c, h => ⟨_, by simpa [TC.enc] using h⟩
  | .bool, _, _, c, h => ⟨_, by simpa [TC.enc] using h⟩
  | .str, _, _, c, h => ⟨_, by simpa [TC.enc] using h⟩
  | .nil, _, _, c, h => by simp [TC.enc] at h
  | .cv, _, hf, _, _ => hf.elim
  | .er, _, hf, _, _ => hf.elim
  | .rf _ _, _, hf, _, _ => hf.elim
  | .pair a c, x, hf, b, h => by
    simp only [TC.enc, List.mem_append] at h
    rcases h with h | h
    · exact fit_er hf.1 b h
    · exact fit_er hf.2 b h
theorem denL_vals : ∀ {l : List CV} {vs : List Value}, (∀ c ∈ l, ∃ v, c = CV.sc v) → DenL [] l vs → vs = l.map scV
  | [], _, _, h => h
  | c :: l, _, hn, ⟨v, r, e, h1, h2⟩ => by
    rw [e, List.map_cons, ← denL_vals (fun b hb => hn b (by simp [hb])) h2]
    obtain ⟨u, rfl⟩ := hn c (by simp)
    congr 1
    exact h1.1
theorem flatv_get {α : Type} {f : α → List Value} {k : Nat} (hk : ∀ y, (f y).length = k) : ∀ (xs : List α) (j : Nat) (v : Value), (xs.flatMap f)[j]? = some v → ∃ i, ∃ hi : i < xs.length, ∃ j', j = i * k + j' ∧ (f xs[i])[j']? = some v
  | [], j, v, h => by simp at h
  | x :: xs, j, v, h => by
    rw [List.flatMap_cons] at h
    by_cases hj : j < (f x).length
    · rw [List.getElem?_append_left hj] at h
      exact ⟨0, by simp, j, by omega, h⟩
    · rw [List.getElem?_append_right (by omega)] at h
      obtain ⟨i, hi, j', e, h'⟩ := flatv_get hk xs _ v h
      refine ⟨i + 1, by simp only [List.length_cons]; omega, j', ?_, h'⟩
      have := hk x
      rw [Nat.add_mul]
      omega
theorem flat_vals (τ : TC) (xs : List τ.ty) (h : ∀ y ∈ xs, DenL [] (τ.enc y) ((τ.enc y).map scV)) : DenL [] (flat τ xs) (xs.flatMap fun y => (τ.enc y).map scV) := by
  unfold flat
  induction xs with
  | nil => exact rfl
  | cons x xs ih =>
    rw [List.flatMap_cons, List.flatMap_cons]
    exact DenL.app (h x (by simp)) (ih fun y hy => h y (by simp [hy]))
/-- A slice that comes in, of what has no references. -/
structure SlIn (W : World) (τ : TC) (i : Info) (xs : List τ.ty) : Prop where
  len : i.len = some xs.length
  root : RootOk [] W i (.ro τ xs)
  le : xs.length ≤ i.cap
  big : i.cap ≤ maxLen
  fit : ∀ y ∈ xs, FitT τ y
  objs : ∀ t, i.objs t = []
theorem sl_in {P : Program} {H : Type} {enc : TypeId × Value → H} {W : World} {base : Nat} {held : Bool} {fuel d : Nat} {cs : List Value} {x : DataW H × List MemPlace} {t e : TypeId} {τ : TC} (ht : P.underlying t = some (.slice e)) (hτ : tcOf P d e = τ) (hc : chkT P d e = true) (hw : P.cellsOf e = τ.w) (hpos : 0 < τ.w)
    (y0 : τ.ty) (h : DataW.trod enc P W base (fun _ => true) held fuel t cs = some x) : ∃ (i : Info) (xs : List τ.ty), cs = [.slice i.a xs.length i.cap] ∧ SlIn W τ i xs := by
  subst hτ
  obtain ⟨a, cap, xs, e1, e2, e3⟩ := fo_slice (f := fun y => ((tcOf P d e).enc y).map scV) (Pr := fun y => DenL [] ((tcOf P d e).enc y) (((tcOf P d e).enc y).map scV) ∧ FitT (tcOf P d e) y) y0 ht hw hpos (fun l => by rw [List.length_map, TC.enc_len])
    (fun n cs x h => by
      obtain ⟨y, h1, h2⟩ := trod_flat d e n cs x hc h
      have h3 := denL_vals (fit_er h2) h1
      exact ⟨y, h3, h3 ▸ h1, h2⟩) h rfl
  refine ⟨⟨a, cap, some xs.length, undef⟩, xs, e1, rfl, ⟨rfl, _, flat_vals _ xs fun y hy => (e3 y hy).1, fun h0 => ?_⟩, e2.le, e2.big, fun y hy => (e3 y hy).2, fun _ => rfl⟩
  obtain ⟨b, off, ha, hb, hcl⟩ := e2.cells h0
  refine ⟨b, off, ha, hb, fun j v hv => ?_⟩
  obtain ⟨i, hi, j', e4, e5⟩ := flatv_get (f := fun y => ((tcOf P d e).enc y).map scV) (fun y => by rw [List.length_map, TC.enc_len]) xs j v hv
  rw [e4, ← Nat.add_assoc]
  exact hcl i hi j' v e5
theorem SlIn.den {ρ : List Info} {W : World} {τ : TC} {i : Info} {xs : List τ.ty} (h : SlIn W τ i xs) {id k : Nat} (hi : ρ[id]? = some i) : Den ρ (.sl id k 0 none none) (.slice i.a xs.length i.cap) := by
  obtain ⟨_, _, _, h3⟩ := h.root
  refine ⟨i, i.a, i.cap, xs.length, hi, rfl, h.le, h.big, fun h0 => ?_, ⟨_, h.len, by rw [Nat.sub_zero]⟩, ⟨_, h.len, by omega⟩, by rw [Nat.sub_zero], rfl, fun _ => rfl, fun _ => ?_⟩
  · obtain ⟨b, o, ha, _⟩ := h3 h0
    exact ⟨b, o, ha⟩
  · rw [Nat.zero_mul]
    cases i.a with
    | none => rfl
    | some a => show some a = some (a.add 0); unfold Addr.add; rw [if_pos rfl]
theorem flat_part {P : Program} {H : Type} {enc : TypeId × Value → H} {W : World} {base d : Nat} {spare : Nat → Bool} {held : Bool} {fuel : Nat} {cs : List Value} {x : DataW H × List MemPlace} {t : TypeId} {τ : TC} (hτ : tcOf P d t = τ) (hc : chkT P d t = true) (h : DataW.trod enc P W base spare held fuel t cs = some x) : ∃ y : τ.ty, DenL [] (τ.enc y) cs ∧ FitT τ y := by
  subst hτ
  exact trod_flat d t fuel cs x hc h
theorem pre_nil (ρ : List Info) : Pre [] ρ := fun _ _ h => by simp at h
def ArgsR (ρ : List Info) (vs : List Value) : (l : List (Nat × PK)) → slTy l → Prop
  | [], _ => True
  | p :: l, x => (∃ v, DenP ρ (p.2.enc same (pf p.2.dflt p.2.hasD (slD l) x)) v ∧ vs[p.1]? = some v) ∧ ArgsR ρ vs l (ps (slDf l) p.2.hasD (slD l) x)
theorem ArgsR.den {ρ : List Info} {vs : List Value} : ∀ {l : List (Nat × PK)} {x : slTy l}, ArgsR ρ vs l x → ∀ q p, lkP (slEnc same l x) q = some p → ∃ v, DenP ρ p v ∧ vs[q]? = some v
  | [], _, _, q, p, h => by
    have h : lkP .nil q = some p := h
    rw [lkP_nil] at h
    cases h
  | a :: l, x, ⟨h1, h2⟩, q, p, h => by
    have g : lkP (putP (slEnc same l (ps (slDf l) a.2.hasD (slD l) x)) a.1 (a.2.enc same (pf a.2.dflt a.2.hasD (slD l) x))) q = some p := h
    rw [lkP_putP] at g
    by_cases e : q = a.1
    · rw [if_pos e] at g
      subst e
      rw [← Option.some.inj g]
      exact h1
    · rw [if_neg e] at g
      exact ArgsR.den h2 q p g
/-- What is only read. -/
def RosOk (W : World) : List Info → List Root → Prop
  | [], hs => hs = []
  | i :: ρ, hs => ∃ τ xs l, hs = .ro τ xs :: l ∧ RootOk [] W i (.ro τ xs) ∧ (∀ t, i.objs t = []) ∧ RosOk W ρ l
theorem RosOk.get {W : World} : ∀ {ρ : List Info} {h : List Root}, RosOk W ρ h → ρ.length = h.length ∧ ∀ (id : Nat) (r : Root) (i : Info), h[id]? = some r → ρ[id]? = some i → (∃ τ xs, r = .ro τ xs) ∧ RootOk [] W i r ∧ ∀ t, i.objs t = []
  | [], _, h => by
    rw [show _ = [] from h]
    exact ⟨rfl, fun id r i e => by simp at e⟩
  | i :: ρ, _, ⟨τ, xs, l, e, h1, h3, h2⟩ => by
    subst e
    obtain ⟨g1, g2⟩ := RosOk.get h2
    refine ⟨by simp [g1], fun id r j e1 e2 => ?_⟩
    cases id with
    | zero => cases e1; cases e2; exact ⟨⟨τ, xs, rfl⟩, h1, h3⟩
    | succ id => exact g2 id r j (by simpa using e1) (by simpa using e2)
/-- What is only read, and arenas without objects. -/
def RosA (W : World) : List Info → List Root → Prop
  | [], hs => hs = []
  | i :: ρ, hs => ∃ r l, hs = r :: l ∧ ((∃ τ xs, r = .ro τ xs) ∨ (r.tag ≠ none ∧ r.obs = [])) ∧ RootOk [] W i r ∧ (∀ t, i.objs t = []) ∧ RosA W ρ l
theorem RosA.get {W : World} : ∀ {ρ : List Info} {h : List Root}, RosA W ρ h → ρ.length = h.length ∧ (∀ (id : Nat) (i : Info) (t : Nat), ρ[id]? = some i → i.objs t = []) ∧ ∀ (id : Nat) (r : Root) (i : Info), h[id]? = some r → ρ[id]? = some i → ((∃ τ xs, r = .ro τ xs) ∨ (r.tag ≠ none ∧ r.obs = [])) ∧ RootOk [] W i r
  | [], _, h => by
    rw [show _ = [] from h]
    exact ⟨rfl, fun id i t e => by simp at e, fun id r i e => by simp at e⟩
  | i :: ρ, _, ⟨r0, l, e, h1, h2, h3, h4⟩ => by
    subst e
    obtain ⟨g1, g2, g3⟩ := RosA.get h4
    refine ⟨by simp [g1], fun id j t e => ?_, fun id r j e1 e2 => ?_⟩
    · cases id with
      | zero => cases e; exact h3 t
      | succ id => exact g2 id j t (by simpa using e)
    · cases id with
      | zero => cases e1; cases e2; exact ⟨h1, h2⟩
      | succ id => exact g3 id r j (by simpa using e1) (by simpa using e2)
theorem own_none {i : Info} {r : Root} (h : (∃ τ xs, r = .ro τ xs) ∨ (r.tag ≠ none ∧ r.obs = [])) (b : Nat) : ¬ own i r b := by
  rcases h with ⟨τ, xs, rfl⟩ | ⟨h1, h2⟩
  · exact fun h => h
  · obtain ⟨t, ht⟩ := Option.ne_none_iff_exists'.1 h1
    intro h
    obtain ⟨m, v, o, _, h3, _⟩ := ((tag_iff (ρ := []) (w := default) ht).2 b).1 h
    rw [h2] at h3
    simp at h3
theorem foot_none {i : Info} {r : Root} (h1 : r.tag ≠ none) (h2 : r.obs = []) (b : Nat) : ¬ foot i r b := by
  have ho := own_none (i := i) (.inr ⟨h1, h2⟩) b
  cases r with
  | arr t τ os =>
    rintro ⟨m, v, o, _, h3, _⟩
    rw [h2] at h3
    simp at h3
  | dead => exact absurd rfl h1
  | blk cs T => exact absurd rfl h1
  | rows T τ xs => exact absurd rfl h1
  | ro τ xs => exact absurd rfl h1
  | clo f a c => exact absurd rfl h1
  | mp κ agg τ ts => exact absurd rfl h1
  | _ => exact ho
theorem RosA.hok {W : World} {ρ : List Info} {h : List Root} (hr : RosA W ρ h) (hg : gOk W ∧ ∀ b ∈ gBlk, b < W.heap.size) : HOk [] (ρ.filterMap fun i => i.a.map (·.block)) W ρ h W := by
  obtain ⟨g1, g0, g2⟩ := hr.get
  refine ⟨Ex.refl _ _, g1, fun id r i e1 e2 => ?_, fun p q r s i j b hne e1 e2 e3 e4 ho => absurd ho (own_none (g2 p r i e1 e3).1 b), fun p r i b e1 e2 ho => absurd ho (own_none (g2 p r i e1 e2).1 b), fun p r i b e1 e2 ho => ?_, hg.1, fun b hb => ⟨hg.2 b hb, by simp⟩, fun p t r i e1 e2 ht id j m v hj hv => (by rw [g0 id j t hj] at hv; simp at hv), fun p r i e1 e2 => .inr fun t _ => g0 p i t e2⟩
  · exact (g2 id r i e1 e2).2.mono (fun id i h => by simp at h)
  · rcases (g2 p r i e1 e2).1 with ⟨τ, xs, rfl⟩ | h3
    · refine .inr (.inr (List.mem_filterMap.2 ⟨i, List.mem_of_getElem? e2, ?_⟩))
      cases xs with
      | nil => cases ho
      | cons x xs => exact ho
    · exact absurd ho (foot_none h3.1 h3.2 b)
end Go.Proofs.Ythmicafabimfkaa


namespace Go.Proofs.Ythmicafabimfkaa
open Go.RowKit
/-- What is only read, arenas without objects, and arenas whose objects are only read; each kind of number is known by one of them alone. -/
def RosB (W : World) (ρ0 : List Info) : List Info → List Root → Prop
  | [], hs => hs = []
  | i :: ρ, hs => ∃ r l, hs = r :: l ∧ ((∃ τ xs, r = .ro τ xs) ∨ (r.tag ≠ none ∧ r.obs = []) ∨ ∃ t τ os, r = .arr t τ os) ∧ RootOk ρ0 W i r ∧ Cln i r ∧ (∀ t, r.tag = some t → ∀ j ∈ ρ0, j.objs t = [] ∨ j = i) ∧ RosB W ρ0 ρ l
theorem RosB.get {W : World} {ρ0 : List Info} : ∀ {ρ : List Info} {h : List Root}, RosB W ρ0 ρ h → ρ.length = h.length ∧ ∀ (id : Nat) (r : Root) (i : Info), h[id]? = some r → ρ[id]? = some i → ((∃ τ xs, r = .ro τ xs) ∨ (r.tag ≠ none ∧ r.obs = []) ∨ ∃ t τ os, r = .arr t τ os) ∧ RootOk ρ0 W i r ∧ Cln i r ∧ ∀ t, r.tag = some t → ∀ j ∈ ρ0, j.objs t = [] ∨ j = i
  | [], _, h => by
    rw [show _ = [] from h]
    exact ⟨rfl, fun id r i e => by simp at e⟩
  | i :: ρ, _, ⟨r0, l, e, h1, h2, h3, h4, h5⟩ => by
    subst e
    obtain ⟨g1, g2⟩ := RosB.get h5
    refine ⟨by simp [g1], fun id r j e1 e2 => ?_⟩
    cases id with
    | zero => cases e1; cases e2; exact ⟨h1, h2, h3, h4⟩
    | succ id => exact g2 id r j (by simpa using e1) (by simpa using e2)
theorem own_noneB {i : Info} {r : Root} (h : (∃ τ xs, r = .ro τ xs) ∨ (r.tag ≠ none ∧ r.obs = []) ∨ ∃ t τ os, r = .arr t τ os) (b : Nat) : ¬ own i r b := by
  rcases h with h | h | ⟨t, τ, os, rfl⟩
  · exact own_none (.inl h) b
  · exact own_none (.inr h) b
  · exact fun h => h
def feet : List Info → List Root → List Nat
  | i :: ρ, r :: h => footL i r ++ feet ρ h
  | _, _ => []
theorem feet_mem : ∀ {ρ : List Info} {h : List Root} {p b : Nat} {r : Root} {i : Info}, h[p]? = some r → ρ[p]? = some i → b ∈ footL i r → b ∈ feet ρ h
  | [], _, p, b, _, _, _, h, _ => by simp at h
  | _ :: _, [], p, b, _, _, h, _, _ => by simp at h
  | i :: ρ, r :: h, 0, b, _, _, e1, e2, hb => by
    cases e1; cases e2
    exact List.mem_append_left _ hb
  | i :: ρ, r :: h, p + 1, b, _, _, e1, e2, hb => List.mem_append_right _ (feet_mem (by simpa using e1) (by simpa using e2) hb)
theorem law_callsB {P : Program} {f n : Nat} {l : List (Nat × PK)} {rs os : List RK} {spec : Sch.ty ⟨l, rs⟩ → Option (FSch.ty ⟨.one (.c (.t .bool)), os⟩)} (h : FnSem P f n ⟨l, rs⟩ ⟨.one (.c (.t .bool)), os⟩ spec) (s : Sch.ty ⟨l, rs⟩) (t : FSch.ty ⟨.one (.c (.t .bool)), os⟩) (hs : spec s = some t) (ht : FSch.a ⟨.one (.c (.t .bool)), os⟩ t = true) (vs : List Value) (hn : vs.length = n) (W : World) (hcl : callable P f = true) (ρ : List Info) (ha : ArgsR ρ vs l (Sch.a ⟨l, rs⟩ s)) (hr : RosB W ρ ρ (rsEnc same rs (Sch.b ⟨l, rs⟩ s))) (hg : gOk W ∧ ∀ b ∈ gBlk, b < W.heap.size) :
    Calls P f vs.toArray W (fun e W' => e = .returned (.bool true) ∧ Ex [] W W') := by
  obtain ⟨g1, g2⟩ := hr.get
  have hO : HOk [] (feet ρ (rsEnc same rs (Sch.b ⟨l, rs⟩ s))) W ρ (rsEnc same rs (Sch.b ⟨l, rs⟩ s)) W := by
    refine ⟨Ex.refl _ _, g1, fun id r i e1 e2 => (g2 id r i e1 e2).2.1, fun p q r s i j b hne e1 e2 e3 e4 ho => absurd ho (own_noneB (g2 p r i e1 e3).1 b), fun p r i b e1 e2 ho => absurd ho (own_noneB (g2 p r i e1 e2).1 b), fun p r i b e1 e2 ho => .inr (.inr (feet_mem e1 e2 (footL_mem.2 ho))), hg.1, fun b hb => ⟨hg.2 b hb, by simp⟩, fun p t r i e1 e2 ht id j m v hj hv => ?_, fun p r i e1 e2 => (g2 p r i e1 e2).2.2.1⟩
    rcases (g2 p r i e1 e2).2.2.2 t ht j (List.mem_of_getElem? hj) with h0 | h0
    · rw [h0] at hv; simp at hv
    · rw [← h0]; exact hv
  refine (h s t hs [] _ W ρ W vs hn ha.den hO hcl).mono ?_
  rintro e w' ⟨ι', u, rfl, _, hu, hh, _⟩
  have hu' : u = .bool (FSch.a ⟨.one (.c (.t .bool)), os⟩ t) := hu.1
  rw [ht] at hu'
  exact ⟨congrArg _ hu', hh.ext⟩
end Go.Proofs.Ythmicafabimfkaa
