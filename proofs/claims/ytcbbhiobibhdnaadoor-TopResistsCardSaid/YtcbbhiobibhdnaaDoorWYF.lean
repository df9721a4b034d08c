/- Arguments that come in, of types without references, are data of their types. No condition. -/
import Derived.Test.YtcbbhiobibhdnaaDoorWY6
import Derived.Test.YtcbbhiobibhdnaaDoorWVA
namespace Go.Proofs.YtcbbhiobibhdnaaDoor
open Go.RowKit
open Go.ChangeShapes Go.WideShapes Go.Deep
/-- Numbers are of their kinds, texts not too long. -/
def FitT : (τ : TC) → τ.ty → Prop
  | .int k, n => k.min ≤ n ∧ n ≤ k.max
  | .str, s => s.size ≤ maxLen
  | .pair a b, x => FitT a x.1 ∧ FitT b x.2
  | .bool, _ => True
  | .er, _ => False
  | .rf _ _, _ => False
  | .cv, _ => False
  | .nil, _ => True
/-- Where the parts of a type lie. -/
def chkT (P : Program) : Nat → TypeId → Bool
  | 0, _ => false
  | d + 1, t => match P.underlying t with
    | some (.int _) => true
    | some .bool => true
    | some .string => true
    | some (.struct fs) => contig 0 (fs.toList.map fun f => (f.offset, P.cellsOf f.type)) (P.cellsOf t) && fs.toList.all (fun f => chkT P d f.type)
    | some (.array n e) => Nat.beq (P.cellsOf t) (n * P.cellsOf e) && chkT P d e
    | _ => false
theorem pairs_enc : ∀ {l : List TC} {css : List (List Value)}, l.length = css.length → (∀ (i : Nat) (τ : TC) (cs : List Value), l[i]? = some τ → css[i]? = some cs → ∃ v : τ.ty, DenL [] (τ.enc v) cs ∧ FitT τ v) → ∃ v : (tcPairs l).ty, DenL [] ((tcPairs l).enc v) css.flatten ∧ FitT (tcPairs l) v
  | [], [], _, _ => ⟨(), rfl, trivial⟩
  | [], _ :: _, h, _ => by simp at h
  | _ :: _, [], h, _ => by simp at h
  | [a], [c], _, h => by
    obtain ⟨v, h1, h2⟩ := h 0 a c rfl rfl
    exact ⟨v, by rw [List.flatten_cons, List.flatten_nil, List.append_nil]; exact h1, h2⟩
  | [_], _ :: _ :: _, h, _ => by simp at h
  | _ :: _ :: _, [_], h, _ => by simp at h
  | a :: b :: l, c :: d :: css, hl, h => by
    obtain ⟨v, h1, h2⟩ := h 0 a c rfl rfl
    obtain ⟨u, h3, h4⟩ := pairs_enc (l := b :: l) (css := d :: css) (by simpa using hl) (fun i τ cs e1 e2 => h (i + 1) τ cs (by simpa using e1) (by simpa using e2))
    refine ⟨(v, u), ?_, h2, h4⟩
    rw [List.flatten_cons]
    exact DenL.app h1 h3
theorem tcOf_int {P : Program} {d : Nat} {t : TypeId} {k} (h : P.underlying t = some (.int k)) : tcOf P (d + 1) t = .int k := by simp only [tcOf, h]
theorem tcOf_bool {P : Program} {d : Nat} {t : TypeId} (h : P.underlying t = some .bool) : tcOf P (d + 1) t = .bool := by simp only [tcOf, h]
theorem tcOf_str {P : Program} {d : Nat} {t : TypeId} (h : P.underlying t = some .string) : tcOf P (d + 1) t = .str := by simp only [tcOf, h]
theorem tcOf_st {P : Program} {d : Nat} {t : TypeId} {fs} (h : P.underlying t = some (.struct fs)) : tcOf P (d + 1) t = tcPairs (fs.toList.map (fun f => tcOf P d f.type)) := by simp only [tcOf, h]
theorem tcOf_arr {P : Program} {d : Nat} {t : TypeId} {n e} (h : P.underlying t = some (.array n e)) : tcOf P (d + 1) t = tcPairs (List.replicate n (tcOf P d e)) := by simp only [tcOf, h]
section
variable {P : Program} {H : Type} {enc : TypeId × Value → H} {W : World} {base : Nat} {spare : Nat → Bool} {held : Bool}
theorem trod_flat : ∀ (d : Nat) (t : TypeId) (fuel : Nat) (cs : List Value) (x : DataW H × List MemPlace), chkT P d t = true → DataW.trod enc P W base spare held fuel t cs = some x → ∃ v : (tcOf P d t).ty, DenL [] ((tcOf P d t).enc v) cs ∧ FitT (tcOf P d t) v
  | 0, t, _, _, _, hc, _ => by cases hc
  | d + 1, t, fuel, cs, x, hc, h => by
    unfold chkT at hc
    split at hc
    · rename_i k hu
      rw [tcOf_int hu]
      obtain ⟨n, hn, _, hw⟩ := DataW.trod_int hu h
      simp only [Lit.wf, Bool.and_eq_true, decide_eq_true_eq] at hw
      exact ⟨n, ⟨_, [], hn, ⟨rfl, rfl⟩, rfl⟩, hw⟩
    · rename_i hu
      rw [tcOf_bool hu]
      obtain ⟨n, hn, _⟩ := DataW.trod_bool hu h
      exact ⟨n, ⟨_, [], hn, ⟨rfl, rfl⟩, rfl⟩, trivial⟩
    · rename_i hu
      rw [tcOf_str hu]
      obtain ⟨n, hn, _, hs⟩ := DataW.trod_string hu h
      exact ⟨n, ⟨_, [], hn, ⟨rfl, rfl⟩, rfl⟩, hs⟩
    · rename_i fs hu
      rw [tcOf_st hu]
      simp only [Bool.and_eq_true, List.all_eq_true] at hc
      obtain ⟨xs, n, _, _, hlen, hxl, hg⟩ := DataW.trod_struct hu h
      have hp := parts _ hc.1 hlen
      rw [List.map_map] at hp
      rw [hp]
      refine pairs_enc (by simp) (fun i τ cs' e1 e2 => ?_)
      rw [List.getElem?_map] at e1 e2
      cases hf : fs.toList[i]? with
      | none => rw [hf] at e1; cases e1
      | some f =>
        rw [hf] at e1 e2
        cases e1; cases e2
        have hfa : fs[i]? = some f := by simpa using hf
        have hi := (Array.getElem?_eq_some_iff.1 hfa).1
        obtain ⟨y, hy⟩ := someOf (i := i) hxl hi
        have := (hg i f hfa).trans hy
        exact trod_flat d f.type n _ y (hc.2 f (List.mem_of_getElem? hf)) this
    · rename_i n e hu
      rw [tcOf_arr hu]
      simp only [Bool.and_eq_true] at hc
      obtain ⟨xs, m, _, _, hlen, hxl, hg⟩ := DataW.trod_array hu h
      have hcell := Nat.eq_of_beq_eq_true hc.1
      have hp : cs = ((List.range n).map fun i => (cs.drop (i * P.cellsOf e)).take (P.cellsOf e)).flatten := by
        have key : ∀ (k : Nat) (o : Nat) (l : List Value), l.length = k * P.cellsOf e → l = ((List.range k).map fun i => (l.drop (i * P.cellsOf e)).take (P.cellsOf e)).flatten := by
          intro k
          induction k with
          | zero => intro o l hl; rw [Nat.zero_mul] at hl; simp [List.eq_nil_of_length_eq_zero hl]
          | succ k ih =>
            intro o l hl
            rw [List.range_succ_eq_map, List.map_cons, List.flatten_cons, List.map_map]
            have := ih o (l.drop (P.cellsOf e)) (by rw [List.length_drop, hl, Nat.add_mul]; omega)
            conv => lhs; rw [← List.take_append_drop (P.cellsOf e) l, this]
            simp only [Nat.zero_mul, List.drop_zero]
            congr 3
            funext i
            simp only [Function.comp, List.drop_drop, Nat.add_mul, Nat.one_mul, Nat.succ_eq_add_one]
            rw [Nat.add_comm]
        exact key n 0 cs (by rw [hlen, hcell])
      rw [hp]
      refine pairs_enc (by simp) (fun i τ cs' e1 e2 => ?_)
      rw [List.getElem?_replicate] at e1
      split at e1
      · rename_i hi
        cases e1
        rw [List.getElem?_map, List.getElem?_range hi] at e2
        cases e2
        obtain ⟨y, hy⟩ := someOf (i := i) hxl hi
        exact trod_flat d e m _ y hc.2 ((hg i hi).trans hy)
      · cases e1
    · cases hc
end
theorem DenL.one {ρ : List Info} {L : List CV} {a : Value} (h : DenL ρ L [a]) : DenB ρ false L a := by
  cases L with
  | nil => cases h
  | cons c r =>
    obtain ⟨v, r', e, h1, h2⟩ := h
    cases e
    cases r with
    | nil => exact ⟨c, rfl, h1⟩
    | cons c' r =>
      obtain ⟨v, r', e, h1, h2⟩ := h2
      cases e
/-- A value of a type without references. -/
theorem flat_value {P : Program} {H : Type} {enc : TypeId × Value → H} {W : World} {base d : Nat} {t : TypeId} {v : Value} {x : DataW H × List MemPlace} {r : Reach} {τ : TC} {dd : TypeDesc} (hτ : tcOf P d t = τ) (hc : chkT P d t = true) (hv : Value.okWide P W r base t v) (h : ∃ fuel, DataW.trod enc P W 0 (fun _ => true) true fuel t v.cells.toList = some x) (hu : P.underlying t = some dd) :
    ∃ y : τ.ty, DenB [] (isAggD dd) (τ.enc y) v ∧ FitT τ y := by
  subst hτ
  obtain ⟨fuel, h⟩ := h
  obtain ⟨y, h1, h2⟩ := trod_flat d t fuel _ x hc h
  refine ⟨y, ?_, h2⟩
  generalize (tcOf P d t).enc y = L at h1
  cases d with
  | zero => cases hc
  | succ d =>
    unfold chkT at hc
    rw [hu] at hc
    cases dd with
    | int k =>
      obtain ⟨n, rfl⟩ := wide_int hu hv h
      exact h1.one
    | bool =>
      obtain ⟨n, rfl⟩ := wide_bool hu hv h
      exact h1.one
    | string =>
      obtain ⟨n, hn, _⟩ := DataW.trod_string hu h
      have hvs : v = .string n := by
        cases v with
        | agg c => simp [Value.okWide, hu, Cell.okWide, Cell.ok] at hv
        | _ => simp_all [Value.cells]
      subst hvs
      exact h1.one
    | struct fs =>
      obtain ⟨⟨cs⟩, rfl, _⟩ := okWide_struct hu hv
      exact ⟨cs, h1, rfl⟩
    | array n e =>
      have : ∃ cs : Array Value, v = .agg cs := by
        simp only [Value.okWide, hu] at hv
        obtain ⟨cs, h1, _⟩ := hv
        exact ⟨cs, h1⟩
      obtain ⟨⟨cs⟩, rfl⟩ := this
      exact ⟨cs, h1, rfl⟩
    | _ => cases hc
/-! A law's call -/
def ArgsD (vs : List Value) : (l : List (Nat × PK)) → slTy l → Prop
  | [], _ => True
  | p :: l, x => (∃ v, DenP [] (p.2.enc same (pf p.2.dflt p.2.hasD (slD l) x)) v ∧ vs[p.1]? = some v) ∧ ArgsD vs l (ps (slDf l) p.2.hasD (slD l) x)
theorem ArgsD.den {vs : List Value} : ∀ {l : List (Nat × PK)} {x : slTy l}, ArgsD vs l x → ∀ q p, lkP (slEnc same l x) q = some p → ∃ v, DenP [] p v ∧ vs[q]? = some v
  | [], _, _, q, p, h => by
    have h : lkP .nil q = some p := h
    rw [lkP_nil] at h
    cases h
  | a :: l, x, ⟨h1, h2⟩, q, p, h => by
    have g : lkP (putP (slEnc same l (ps (slDf l) a.2.hasD (slD l) x)) a.1 (a.2.enc same (pf a.2.dflt a.2.hasD (slD l) x))) q = some p := h
    rw [lkP_putP] at g
    by_cases e : q = a.1
    · rw [if_pos e] at g
      subst e
      rw [← Option.some.inj g]
      exact h1
    · rw [if_neg e] at g
      exact ArgsD.den h2 q p g
end Go.Proofs.YtcbbhiobibhdnaaDoor
