/- Arguments that come in, of types without references, are data of their types. No condition. -/
import Derived.Test.YtcbbhiobibhdnaaDoorWY6
import Derived.Test.YtcbbhiobibhdnaaDoorWVA
namespace Go.Proofs.YtcbbhiobibhdnaaDoor
open Go.RowKit
open Go.ChangeShapes Go.WideShapes Go.Deep
/-- Numbers are of their kinds, texts not too long. -/
def xTp : (τ : TC) → τ.ty → Prop
 | .int k, n => k.min ≤ n ∧ n ≤ k.max
 | .str, s => s.size ≤ maxLen
 | .pair a b, x => xTp a x.1 ∧ xTp b x.2
 | .bool, _ => True
 | .er, _ => False
 | .rf _ _, _ => False
 | .cv, _ => False
 | .nil, _ => True
/-- Where the parts of a type lie. -/
def chkT (P : Program) : Nat → TypeId → Bool
 | 0, _ => false
 | d + 1, t => match P.underlying t with
  | some (.int _) => true
  | some .bool => true
  | some .string => true
  | some (.struct fs) => xI7 0 (fs.toList.map fun f => (f.offset, P.cellsOf f.type)) (P.cellsOf t) && fs.toList.all (fun f => chkT P d f.type)
  | some (.array n e) => Nat.beq (P.cellsOf t) (n * P.cellsOf e) && chkT P d e
  | _ => false
theorem xHh : ∀ {l : List TC} {css : List (List Value)}, l.length = css.length → (∀ (i : Nat) (τ : TC) (cs : List Value), l[i]? = some τ → css[i]? = some cs → ∃ v : τ.ty, DenL [] (τ.enc v) cs ∧ xTp τ v) → ∃ v : (xDE l).ty, DenL [] ((xDE l).enc v) css.flatten ∧ xTp (xDE l) v
 | [], [], _, _ => ⟨(), rfl, trivial⟩
 | [], _ :: _, h, _ => by simp at h
 | _ :: _, [], h, _ => by simp at h
 | [a], [c], _, h => by
  obtain ⟨v, h1, h2⟩ := h 0 a c rfl rfl
  exact ⟨v, by rw [List.flatten_cons, List.flatten_nil, List.append_nil]; exact h1, h2⟩
 | [_], _ :: _ :: _, h, _ => by simp at h
 | _ :: _ :: _, [_], h, _ => by simp at h
 | a :: b :: l, c :: d :: css, hl, h => by
  obtain ⟨v, h1, h2⟩ := h 0 a c rfl rfl
  obtain ⟨u, h3, h4⟩ := xHh (l := b :: l) (css := d :: css) (by simpa using hl) (fun i τ cs e1 e2 => h (i + 1) τ cs (by simpa using e1) (by simpa using e2))
  refine ⟨(v, u), ?_, h2, h4⟩
  rw [List.flatten_cons]
  exact DenL.app h1 h3
theorem xR8 {P : Program} {d : Nat} {t : TypeId} {k} (h : P.underlying t = some (.int k)) : xBE P (d + 1) t = .int k := by simp only [xBE, h]
theorem xPa {P : Program} {d : Nat} {t : TypeId} (h : P.underlying t = some .bool) : xBE P (d + 1) t = .bool := by simp only [xBE, h]
theorem xR7 {P : Program} {d : Nat} {t : TypeId} (h : P.underlying t = some .string) : xBE P (d + 1) t = .str := by simp only [xBE, h]
theorem tcOf_st {P : Program} {d : Nat} {t : TypeId} {fs} (h : P.underlying t = some (.struct fs)) : xBE P (d + 1) t = xDE (fs.toList.map (fun f => xBE P d f.type)) := by simp only [xBE, h]
theorem xR9 {P : Program} {d : Nat} {t : TypeId} {n e} (h : P.underlying t = some (.array n e)) : xBE P (d + 1) t = xDE (List.replicate n (xBE P d e)) := by simp only [xBE, h]
section
variable {P : Program} {H : Type} {enc : TypeId × Value → H} {W : World} {base : Nat} {spare : Nat → Bool} {held : Bool}
theorem xEP : ∀ (d : Nat) (t : TypeId) (fuel : Nat) (cs : List Value) (x : DataW H × List MemPlace), chkT P d t = true → DataW.trod enc P W base spare held fuel t cs = some x → ∃ v : (xBE P d t).ty, DenL [] ((xBE P d t).enc v) cs ∧ xTp (xBE P d t) v
 | 0, t, _, _, _, hc, _ => by cases hc
 | d + 1, t, fuel, cs, x, hc, h => by
  unfold chkT at hc
  split at hc
  ·rename_i k hu
   rw [xR8 hu]
   obtain ⟨n, hn, _, hw⟩ := DataW.trod_int hu h
   simp only [Lit.wf, Bool.and_eq_true, decide_eq_true_eq] at hw
   exact ⟨n, ⟨_, [], hn, ⟨rfl, rfl⟩, rfl⟩, hw⟩
  ·rename_i hu
   rw [xPa hu]
   obtain ⟨n, hn, _⟩ := DataW.trod_bool hu h
   exact ⟨n, ⟨_, [], hn, ⟨rfl, rfl⟩, rfl⟩, trivial⟩
  ·rename_i hu
   rw [xR7 hu]
   obtain ⟨n, hn, _, hs⟩ := DataW.trod_string hu h
   exact ⟨n, ⟨_, [], hn, ⟨rfl, rfl⟩, rfl⟩, hs⟩
  ·rename_i fs hu
   rw [tcOf_st hu]
   simp only [Bool.and_eq_true, List.all_eq_true] at hc
   obtain ⟨xs, n, _, _, hlen, hxl, hg⟩ := DataW.trod_struct hu h
   have hp := parts _ hc.1 hlen
   rw [List.map_map] at hp
   rw [hp]
   refine xHh (by simp) (fun i τ cs' e1 e2 => ?_)
   rw [List.getElem?_map] at e1 e2
   cases hf : fs.toList[i]? with
   | none => rw [hf] at e1; cases e1
   | some f =>
    rw [hf] at e1 e2
    cases e1; cases e2
    have hfa : fs[i]? = some f := by simpa using hf
    have hi := (Array.getElem?_eq_some_iff.1 hfa).1
    obtain ⟨y, hy⟩ := xKH (i := i) hxl hi
    have := (hg i f hfa).trans hy
    exact xEP d f.type n _ y (hc.2 f (List.mem_of_getElem? hf)) this
  ·rename_i n e hu
   rw [xR9 hu]
   simp only [Bool.and_eq_true] at hc
   obtain ⟨xs, m, _, _, hlen, hxl, hg⟩ := DataW.trod_array hu h
   have hcell := Nat.eq_of_beq_eq_true hc.1
   have hp : cs = ((List.range n).map fun i => (cs.drop (i * P.cellsOf e)).take (P.cellsOf e)).flatten := by
    have key : ∀ (k : Nat) (o : Nat) (l : List Value), l.length = k * P.cellsOf e → l = ((List.range k).map fun i => (l.drop (i * P.cellsOf e)).take (P.cellsOf e)).flatten := by
     intro k
     induction k with
     | zero => intro o l hl; rw [Nat.zero_mul] at hl; simp [List.eq_nil_of_length_eq_zero hl]
     | succ k ih =>
      intro o l hl
      rw [List.range_succ_eq_map, List.map_cons, List.flatten_cons, List.map_map]
      have := ih o (l.drop (P.cellsOf e)) (by rw [List.length_drop, hl, Nat.add_mul]; omega)
      conv => lhs; rw [← List.take_append_drop (P.cellsOf e) l, this]
      simp only [Nat.zero_mul, List.drop_zero]
      congr 3
      funext i
      simp only [Function.comp, List.drop_drop, Nat.add_mul, Nat.one_mul, Nat.succ_eq_add_one]
      rw [Nat.add_comm]
    exact key n 0 cs (by rw [hlen, hcell])
   rw [hp]
   refine xHh (by simp) (fun i τ cs' e1 e2 => ?_)
   rw [List.getElem?_replicate] at e1
   split at e1
   ·rename_i hi
    cases e1
    rw [List.getElem?_map, List.getElem?_range hi] at e2
    cases e2
    obtain ⟨y, hy⟩ := xKH (i := i) hxl hi
    exact xEP d e m _ y hc.2 ((hg i hi).trans hy)
   ·cases e1
  ·cases hc
end
theorem DenL.one {ρ : List Info} {L : List CV} {a : Value} (h : DenL ρ L [a]) : DenB ρ false L a := by
 cases L with
 | nil => cases h
 | cons c r =>
  obtain ⟨v, r', e, h1, h2⟩ := h
  cases e
  cases r with
  | nil => exact ⟨c, rfl, h1⟩
  | cons c' r =>
   obtain ⟨v, r', e, h1, h2⟩ := h2
   cases e
/-! A law's call -/
def ArgsD (vs : List Value) : (l : List (Nat × PK)) → xLW l → Prop
 | [], _ => True
 | p :: l, x => (∃ v, DenP [] (p.2.enc same (pf p.2.dflt p.2.hasD (slD l) x)) v ∧ vs[p.1]? = some v) ∧ ArgsD vs l (ps (xSg l) p.2.hasD (slD l) x)
theorem ArgsD.den {vs : List Value} : ∀ {l : List (Nat × PK)} {x : xLW l}, ArgsD vs l x → ∀ q p, lkP (xBm same l x) q = some p → ∃ v, DenP [] p v ∧ vs[q]? = some v
 | [], _, _, q, p, h => by
  have h : lkP .nil q = some p := h
  rw [xEz] at h
  cases h
 | a :: l, x, ⟨h1, h2⟩, q, p, h => by
  have g : lkP (xE4 (xBm same l (ps (xSg l) a.2.hasD (slD l) x)) a.1 (a.2.enc same (pf a.2.dflt a.2.hasD (slD l) x))) q = some p := h
  rw [xBQ] at g
  by_cases e : q = a.1
  ·rw [if_pos e] at g
   subst e
   rw [← Option.some.inj g]
   exact h1
  ·rw [if_neg e] at g
   exact ArgsD.den h2 q p g
end Go.Proofs.YtcbbhiobibhdnaaDoor
