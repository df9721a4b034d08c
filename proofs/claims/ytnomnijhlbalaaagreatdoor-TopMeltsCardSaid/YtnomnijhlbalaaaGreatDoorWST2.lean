/- A part of the proof of the theorem of the last file. No condition. By an AI agent. -/
import Derived.Test.YtnomnijhlbalaaaGreatDoorWVA
set_option maxRecDepth 1000000
set_option maxRecDepth 100000
namespace Go.Proofs.YtnomnijhlbalaaaGreatDoor
section
open Go.RowKit Go.ChangeShapes Go.WideShapes Go.Deep
def xX7 : (τ : TC) -> τ.ty -> Prop
 | .int k, n => k.min <= n /\ n <= k.max
 | .str, s => s.size <= maxLen
 | .pair a b, x => xX7 a x.1 /\ xX7 b x.2
 | .bool, _ => True
 | .er, _ => False
 | .rf _ _, _ => False
 | .cv, _ => False
 | .nil, _ => True
def chkT (P : Program) : Nat -> TypeId -> Bool
 | 0, _ => false
 | d + 1, t => match P.underlying t with
  | some (.int _) => true
  | some .bool => true
  | some .string => true
  | some (.struct fs) => xLh 0 (fs.toList.map fun f => (f.offset, P.cellsOf f.type)) (P.cellsOf t) && fs.toList.all (fun f => chkT P d f.type)
  | some (.array n e) => Nat.beq (P.cellsOf t) (n * P.cellsOf e) && chkT P d e
  | _ => false
theorem xIN : ∀ {l : List TC} {css : List (List Value)}, l.length = css.length -> (∀ (i : Nat) (τ : TC) (cs : List Value), l[i]? = some τ -> css[i]? = some cs -> ∃ v : τ.ty, DenL [] (τ.enc v) cs /\ xX7 τ v) -> ∃ v : (xD0 l).ty, DenL [] ((xD0 l).enc v) css.flatten /\ xX7 (xD0 l) v
 | [], [], _, _ => ⟨(), rfl, trivial⟩
 | [], _ :: _, h, _ => by simp at h
 | _ :: _, [], h, _ => by simp at h
 | [a], [c], _, h => by
  obtain ⟨v, h1, h2⟩ := h 0 a c rfl rfl;exact ⟨v, by rw [List.flatten_cons, List.flatten_nil, List.append_nil]; exact h1, h2⟩
 | [_], _ :: _ :: _, h, _ => by simp at h
 | _ :: _ :: _, [_], h, _ => by simp at h
 | a :: b :: l, c :: d :: css, hl, h => by
  obtain ⟨v, h1, h2⟩ := h 0 a c rfl rfl;obtain ⟨u, h3, h4⟩ := xIN (l := b :: l) (css := d :: css) (by simpa using hl) (fun i τ cs e1 e2 => h (i + 1) τ cs (by simpa using e1) (by simpa using e2));refine ⟨(v, u), ?_, h2, h4⟩;rw [List.flatten_cons];exact DenL.app h1 h3
theorem xYw {P : Program} {d : Nat} {t : TypeId} {k} (h : P.underlying t = some (.int k)) : xBv P (d + 1) t = .int k := by simp only [xBv, h]
theorem xTO {P : Program} {d : Nat} {t : TypeId} (h : P.underlying t = some .bool) : xBv P (d + 1) t = .bool := by simp only [xBv, h]
theorem xYv {P : Program} {d : Nat} {t : TypeId} (h : P.underlying t = some .string) : xBv P (d + 1) t = .str := by simp only [xBv, h]
theorem tcOf_st {P : Program} {d : Nat} {t : TypeId} {fs} (h : P.underlying t = some (.struct fs)) : xBv P (d + 1) t = xD0 (fs.toList.map (fun f => xBv P d f.type)) := by simp only [xBv, h]
theorem xYx {P : Program} {d : Nat} {t : TypeId} {n e} (h : P.underlying t = some (.array n e)) : xBv P (d + 1) t = xD0 (List.replicate n (xBv P d e)) := by simp only [xBv, h]
section
variable {P : Program} {H : Type} {enc : TypeId × Value -> H} {W : World} {base : Nat} {spare : Nat -> Bool} {held : Bool}
theorem xFo : ∀ (d : Nat) (t : TypeId) (fuel : Nat) (cs : List Value) (x : DataW H × List MemPlace), chkT P d t = true -> DataW.trod enc P W base spare held fuel t cs = some x -> ∃ v : (xBv P d t).ty, DenL [] ((xBv P d t).enc v) cs /\ xX7 (xBv P d t) v
 | 0, t, _, _, _, hc, _ => by cases hc
 | d + 1, t, fuel, cs, x, hc, h => by
  unfold chkT at hc;split at hc
  ·rename_i k hu;rw [xYw hu];obtain ⟨n, hn, _, hw⟩ := DataW.trod_int hu h;simp only [Lit.wf, Bool.and_eq_true, decide_eq_true_eq] at hw;exact ⟨n, ⟨_, [], hn, ⟨rfl, rfl⟩, rfl⟩, hw⟩
  ·rename_i hu;rw [xTO hu];obtain ⟨n, hn, _⟩ := DataW.trod_bool hu h;exact ⟨n, ⟨_, [], hn, ⟨rfl, rfl⟩, rfl⟩, trivial⟩
  ·rename_i hu;rw [xYv hu];obtain ⟨n, hn, _, hs⟩ := DataW.trod_string hu h;exact ⟨n, ⟨_, [], hn, ⟨rfl, rfl⟩, rfl⟩, hs⟩
  ·rename_i fs hu;rw [tcOf_st hu];simp only [Bool.and_eq_true, List.all_eq_true] at hc;obtain ⟨xs, n, _, _, hlen, hxl, hg⟩ := DataW.trod_struct hu h;have hp := parts _ hc.1 hlen;rw [List.map_map] at hp;rw [hp];refine xIN (by simp) (fun i τ cs' e1 e2 => ?_);rw [List.getElem?_map] at e1 e2
   cases hf : fs.toList[i]? with
   | none => rw [hf] at e1; cases e1
   | some f =>
    rw [hf] at e1 e2;cases e1; cases e2;have hfa : fs[i]? = some f := by simpa using hf
    have hi := (Array.getElem?_eq_some_iff.1 hfa).1;obtain ⟨y, hy⟩ := someOf (i := i) hxl hi;have := (hg i f hfa).trans hy;exact xFo d f.type n _ y (hc.2 f (List.mem_of_getElem? hf)) this
  ·rename_i n e hu;rw [xYx hu];simp only [Bool.and_eq_true] at hc;obtain ⟨xs, m, _, _, hlen, hxl, hg⟩ := DataW.trod_array hu h;have hcell := nbT hc.1;have hp : cs = ((List.range n).map fun i => (cs.drop (i * P.cellsOf e)).take (P.cellsOf e)).flatten := by
    have key : ∀ (k : Nat) (o : Nat) (l : List Value), l.length = k * P.cellsOf e -> l = ((List.range k).map fun i => (l.drop (i * P.cellsOf e)).take (P.cellsOf e)).flatten := by
     intro k
     induction k with
     | zero => intro o l hl; rw [Nat.zero_mul] at hl; simp [List.eq_nil_of_length_eq_zero hl]
     | succ k ih =>
      intro o l hl;rw [List.range_succ_eq_map, List.map_cons, List.flatten_cons, List.map_map];have := ih o (l.drop (P.cellsOf e)) (by rw [List.length_drop, hl, Nat.add_mul]; omega)
      conv => lhs; rw [<- List.take_append_drop (P.cellsOf e) l, this]
      simp only [Nat.zero_mul, List.drop_zero];congr 3;funext i;simp only [Function.comp, List.drop_drop, Nat.add_mul, Nat.one_mul, Nat.succ_eq_add_one];rw [Nat.add_comm]
    exact key n 0 cs (by rw [hlen, hcell])
   rw [hp];refine xIN (by simp) (fun i τ cs' e1 e2 => ?_);rw [List.getElem?_replicate] at e1;split at e1
   ·rename_i hi;cases e1;rw [List.getElem?_map, List.getElem?_range hi] at e2;cases e2;obtain ⟨y, hy⟩ := someOf (i := i) hxl hi;exact xFo d e m _ y hc.2 ((hg i hi).trans hy)
   ·cases e1
  ·cases hc
end
theorem DenL.one {ρ : List Info} {L : List CV} {a : Value} (h : DenL ρ L [a]) : DenB ρ false L a := by
 cases L with
 | nil => cases h
 | cons c r =>
  obtain ⟨v, r', e, h1, h2⟩ := h;cases e
  cases r with
  | nil => exact ⟨c, rfl, h1⟩
  | cons c' r =>
   obtain ⟨v, r', e, h1, h2⟩ := h2;cases e
theorem xSZ {P : Program} {H : Type} {enc : TypeId × Value -> H} {W : World} {base d : Nat} {t : TypeId} {v : Value} {x : DataW H × List MemPlace} {r : Reach} {τ : TC} {dd : TypeDesc} (hτ : xBv P d t = τ) (hc : chkT P d t = true) (hv : Value.okWide P W r base t v) (h : ∃ fuel, DataW.trod enc P W 0 (fun _ => true) true fuel t v.cells.toList = some x) (hu : P.underlying t = some dd) :
  ∃ y : τ.ty, DenB [] (xBD dd) (τ.enc y) v /\ xX7 τ y := by
 subst hτ;obtain ⟨fuel, h⟩ := h;obtain ⟨y, h1, h2⟩ := xFo d t fuel _ x hc h;refine ⟨y, ?_, h2⟩;generalize (xBv P d t).enc y = L at h1
 cases d with
 | zero => cases hc
 | succ d =>
  unfold chkT at hc;rw [hu] at hc
  cases dd with
  | int k =>
   obtain ⟨n, rfl⟩ := xYh hu hv h;exact h1.one
  | bool =>
   obtain ⟨n, rfl⟩ := xTq hu hv h;exact h1.one
  | string =>
   obtain ⟨n, hn, _⟩ := DataW.trod_string hu h;have hvs : v = .string n := by
    cases v with
    | agg c => simp [Value.okWide, hu, Cell.okWide, Cell.ok] at hv
    | _ => simp_all [Value.cells]
   subst hvs;exact h1.one
  | struct fs =>
   obtain ⟨⟨cs⟩, rfl, _⟩ := okWide_struct hu hv;exact ⟨cs, h1, rfl⟩
  | array n e =>
   have : ∃ cs : Array Value, v = .agg cs := by
    simp only [Value.okWide, hu] at hv;obtain ⟨cs, h1, _⟩ := hv;exact ⟨cs, h1⟩
   obtain ⟨⟨cs⟩, rfl⟩ := this;exact ⟨cs, h1, rfl⟩
  | _ => cases hc
def ArgsD (vs : List Value) : (l : List (Nat × PK)) -> xO8 l -> Prop
 | [], _ => True
 | p :: l, x => (∃ v, DenP [] (p.2.enc same (pf p.2.dflt p.2.hasD (slD l) x)) v /\ vs[p.1]? = some v) /\ ArgsD vs l (ps (xYM l) p.2.hasD (slD l) x)
theorem ArgsD.den {vs : List Value} : ∀ {l : List (Nat × PK)} {x : xO8 l}, ArgsD vs l x -> ∀ q p, lkP (xA2 same l x) q = some p -> ∃ v, DenP [] p v /\ vs[q]? = some v
 | [], _, _, q, p, h => by
  have h : lkP .nil q = some p := h;rw [xE7] at h;cases h
 | a :: l, x, ⟨h1, h2⟩, q, p, h => by
  have g : lkP (xDr (xA2 same l (ps (xYM l) a.2.hasD (slD l) x)) a.1 (a.2.enc same (pf a.2.dflt a.2.hasD (slD l) x))) q = some p := h;rw [xBq] at g;by_cases e : q = a.1
  ·rw [if_pos e] at g;subst e;rw [<- Option.some.inj g];exact h1
  ·rw [if_neg e] at g;exact ArgsD.den h2 q p g
end
section
open Go.RowKit Go.ChangeShapes Go.WideShapes Go.Deep
def scV : CV -> Value
 | .sc v => v
 | _ => undef
theorem xWw : ∀ {τ : TC} {y : τ.ty}, xX7 τ y -> ∀ c ∈ τ.enc y, ∃ v, c = CV.sc v
 | .int _, _, _, c, h => ⟨_, by simpa [TC.enc] using h⟩
 | .bool, _, _, c, h => ⟨_, by simpa [TC.enc] using h⟩
 | .str, _, _, c, h => ⟨_, by simpa [TC.enc] using h⟩
 | .nil, _, _, c, h => by simp [TC.enc] at h
 | .cv, _, hf, _, _ => hf.elim
 | .er, _, hf, _, _ => hf.elim
 | .rf _ _, _, hf, _, _ => hf.elim
 | .pair a c, x, hf, b, h => by
  simp only [TC.enc, List.mem_append] at h;rcases h with h | h
  ·exact xWw hf.1 b h
  ·exact xWw hf.2 b h
theorem xOC : ∀ {l : List CV} {vs : List Value}, (∀ c ∈ l, ∃ v, c = CV.sc v) -> DenL [] l vs -> vs = l.map scV
 | [], _, _, h => h
 | c :: l, _, hn, ⟨v, r, e, h1, h2⟩ => by
  rw [e, List.map_cons, <- xOC (fun b hb => hn b (by simp [hb])) h2];obtain ⟨u, rfl⟩ := hn c (by simp);congr 1;exact h1.1
theorem xOg {α : Type} {f : α -> List Value} {k : Nat} (hk : ∀ y, (f y).length = k) : ∀ (xs : List α) (j : Nat) (v : Value), (xs.flatMap f)[j]? = some v -> ∃ i, ∃ hi : i < xs.length, ∃ j', j = i * k + j' /\ (f xs[i])[j']? = some v
 | [], j, v, h => by simp at h
 | x :: xs, j, v, h => by
  rw [List.flatMap_cons] at h;by_cases hj : j < (f x).length
  ·rw [List.getElem?_append_left hj] at h;exact ⟨0, by simp, j, by omega, h⟩
  ·rw [List.getElem?_append_right (by omega)] at h;obtain ⟨i, hi, j', e, h'⟩ := xOg hk xs _ v h;refine ⟨i + 1, by simp only [List.length_cons]; omega, j', ?_, h'⟩;have := hk x;rw [Nat.add_mul];omega
theorem xWv (τ : TC) (xs : List τ.ty) (h : ∀ y ∈ xs, DenL [] (τ.enc y) ((τ.enc y).map scV)) : DenL [] (flat τ xs) (xs.flatMap fun y => (τ.enc y).map scV) := by
 unfold flat
 induction xs with
 | nil => exact rfl
 | cons x xs ih =>
  rw [List.flatMap_cons, List.flatMap_cons];exact DenL.app (h x (by simp)) (ih fun y hy => h y (by simp [hy]))
structure SlIn (W : World) (τ : TC) (i : Info) (xs : List τ.ty) : Prop where
 len : i.len = some xs.length
 root : RootOk [] W i (.ro τ xs)
 le : xs.length <= i.cap
 big : i.cap <= maxLen
 fit : ∀ y ∈ xs, xX7 τ y
 objs : ∀ t, i.objs t = []
theorem sl_in {P : Program} {H : Type} {enc : TypeId × Value -> H} {W : World} {base : Nat} {held : Bool} {fuel d : Nat} {cs : List Value} {x : DataW H × List MemPlace} {t e : TypeId} {τ : TC} (ht : P.underlying t = some (.slice e)) (hτ : xBv P d e = τ) (hc : chkT P d e = true) (hw : P.cellsOf e = τ.w) (hpos : 0 < τ.w)
  (y0 : τ.ty) (h : DataW.trod enc P W base (fun _ => true) held fuel t cs = some x) : ∃ (i : Info) (xs : List τ.ty), cs = [.slice i.a xs.length i.cap] /\ SlIn W τ i xs := by
 subst hτ;obtain ⟨a, cap, xs, e1, e2, e3⟩ := xZU (f := fun y => ((xBv P d e).enc y).map scV) (Pr := fun y => DenL [] ((xBv P d e).enc y) (((xBv P d e).enc y).map scV) /\ xX7 (xBv P d e) y) y0 ht hw hpos (fun l => by rw [List.length_map, TC.enc_len])
  (fun n cs x h => by
   obtain ⟨y, h1, h2⟩ := xFo d e n cs x hc h;have h3 := xOC (xWw h2) h1;exact ⟨y, h3, h3 ▸ h1, h2⟩) h rfl
 refine ⟨⟨a, cap, some xs.length, undef⟩, xs, e1, rfl, ⟨rfl, _, xWv _ xs fun y hy => (e3 y hy).1, fun h0 => ?_⟩, e2.le, e2.big, fun y hy => (e3 y hy).2, fun _ => rfl⟩;obtain ⟨b, off, ha, hb, hcl⟩ := e2.cells h0;refine ⟨b, off, ha, hb, fun j v hv => ?_⟩;obtain ⟨i, hi, j', e4, e5⟩ := xOg (f := fun y => ((xBv P d e).enc y).map scV) (fun y => by rw [List.length_map, TC.enc_len]) xs j v hv;rw [e4, <- Nat.add_assoc];exact hcl i hi j' v e5
theorem SlIn.den {ρ : List Info} {W : World} {τ : TC} {i : Info} {xs : List τ.ty} (h : SlIn W τ i xs) {id k : Nat} (hi : ρ[id]? = some i) : Den ρ (.sl id k 0 none none) (.slice i.a xs.length i.cap) := by
 obtain ⟨_, _, _, h3⟩ := h.root;refine ⟨i, i.a, i.cap, xs.length, hi, rfl, h.le, h.big, fun h0 => ?_, ⟨_, h.len, by rw [Nat.sub_zero]⟩, ⟨_, h.len, by omega⟩, by rw [Nat.sub_zero], rfl, fun _ => rfl, fun _ => ?_⟩
 ·obtain ⟨b, o, ha, _⟩ := h3 h0;exact ⟨b, o, ha⟩
 ·rw [Nat.zero_mul]
  cases i.a with
  | none => rfl
  | some a => show some a = some (a.add 0); unfold Addr.add; rw [if_pos rfl]
theorem pre_nil (ρ : List Info) : Pre [] ρ := fun _ _ h => by simp at h
def ArgsR (ρ : List Info) (vs : List Value) : (l : List (Nat × PK)) -> xO8 l -> Prop
 | [], _ => True
 | p :: l, x => (∃ v, DenP ρ (p.2.enc same (pf p.2.dflt p.2.hasD (slD l) x)) v /\ vs[p.1]? = some v) /\ ArgsR ρ vs l (ps (xYM l) p.2.hasD (slD l) x)
theorem ArgsR.den {ρ : List Info} {vs : List Value} : ∀ {l : List (Nat × PK)} {x : xO8 l}, ArgsR ρ vs l x -> ∀ q p, lkP (xA2 same l x) q = some p -> ∃ v, DenP ρ p v /\ vs[q]? = some v
 | [], _, _, q, p, h => by
  have h : lkP .nil q = some p := h;rw [xE7] at h;cases h
 | a :: l, x, ⟨h1, h2⟩, q, p, h => by
  have g : lkP (xDr (xA2 same l (ps (xYM l) a.2.hasD (slD l) x)) a.1 (a.2.enc same (pf a.2.dflt a.2.hasD (slD l) x))) q = some p := h;rw [xBq] at g;by_cases e : q = a.1
  ·rw [if_pos e] at g;subst e;rw [<- Option.some.inj g];exact h1
  ·rw [if_neg e] at g;exact ArgsR.den h2 q p g
def RosOk (W : World) : List Info -> List Root -> Prop
 | [], hs => hs = []
 | i :: ρ, hs => ∃ τ xs l, hs = .ro τ xs :: l /\ RootOk [] W i (.ro τ xs) /\ (∀ t, i.objs t = []) /\ RosOk W ρ l
theorem RosOk.get {W : World} : ∀ {ρ : List Info} {h : List Root}, RosOk W ρ h -> ρ.length = h.length /\ ∀ (id : Nat) (r : Root) (i : Info), h[id]? = some r -> ρ[id]? = some i -> (∃ τ xs, r = .ro τ xs) /\ RootOk [] W i r /\ ∀ t, i.objs t = []
 | [], _, h => by
  rw [show _ = [] from h];exact ⟨rfl, fun id r i e => by simp at e⟩
 | i :: ρ, _, ⟨τ, xs, l, e, h1, h3, h2⟩ => by
  subst e;obtain ⟨g1, g2⟩ := RosOk.get h2;refine ⟨by simp [g1], fun id r j e1 e2 => ?_⟩
  cases id with
  | zero => cases e1; cases e2; exact ⟨⟨τ, xs, rfl⟩, h1, h3⟩
  | succ id => exact g2 id r j (by simpa using e1) (by simpa using e2)
def RosA (W : World) : List Info -> List Root -> Prop
 | [], hs => hs = []
 | i :: ρ, hs => ∃ r l, hs = r :: l /\ ((∃ τ xs, r = .ro τ xs) \/ (r.tag ≠ none /\ r.obs = [])) /\ RootOk [] W i r /\ (∀ t, i.objs t = []) /\ RosA W ρ l
theorem RosA.get {W : World} : ∀ {ρ : List Info} {h : List Root}, RosA W ρ h -> ρ.length = h.length /\ (∀ (id : Nat) (i : Info) (t : Nat), ρ[id]? = some i -> i.objs t = []) /\ ∀ (id : Nat) (r : Root) (i : Info), h[id]? = some r -> ρ[id]? = some i -> ((∃ τ xs, r = .ro τ xs) \/ (r.tag ≠ none /\ r.obs = [])) /\ RootOk [] W i r
 | [], _, h => by
  rw [show _ = [] from h];exact ⟨rfl, fun id i t e => by simp at e, fun id r i e => by simp at e⟩
 | i :: ρ, _, ⟨r0, l, e, h1, h2, h3, h4⟩ => by
  subst e;obtain ⟨g1, g2, g3⟩ := RosA.get h4;refine ⟨by simp [g1], fun id j t e => ?_, fun id r j e1 e2 => ?_⟩
  ·cases id with
   | zero => cases e; exact h3 t
   | succ id => exact g2 id j t (by simpa using e)
  ·cases id with
   | zero => cases e1; cases e2; exact ⟨h1, h2⟩
   | succ id => exact g3 id r j (by simpa using e1) (by simpa using e2)
theorem xFL {i : Info} {r : Root} (h : (∃ τ xs, r = .ro τ xs) \/ (r.tag ≠ none /\ r.obs = [])) (b : Nat) : ¬ own i r b := by
 rcases h with ⟨τ, xs, rfl⟩ | ⟨h1, h2⟩
 ·exact fun h => h
 ·obtain ⟨t, ht⟩ := Option.ne_none_iff_exists'.1 h1;intro h;obtain ⟨m, v, o, _, h3, _⟩ := ((xE0 (ρ := []) (w := default) ht).2 b).1 h;rw [h2] at h3;simp at h3
theorem xOf {i : Info} {r : Root} (h1 : r.tag ≠ none) (h2 : r.obs = []) (b : Nat) : ¬ foot i r b := by
 have ho := xFL (i := i) (.inr ⟨h1, h2⟩) b
 cases r with
 | arr t τ os =>
  rintro ⟨m, v, o, _, h3, _⟩
  rw [h2] at h3;simp at h3
 | dead => exact absurd rfl h1
 | blk cs T => exact absurd rfl h1
 | rows T τ xs => exact absurd rfl h1
 | ro τ xs => exact absurd rfl h1
 | clo f a c => exact absurd rfl h1
 | mp κ agg τ ts => exact absurd rfl h1
 | _ => exact ho
theorem xST {P : Program} {f n : Nat} {l : List (Nat × PK)} {rs os : List RK} {spec : Sch.ty ⟨l, rs⟩ -> Option (FSch.ty ⟨.one (.c (.t .bool)), os⟩)} (h : FnSem P f n ⟨l, rs⟩ ⟨.one (.c (.t .bool)), os⟩ spec) (s : Sch.ty ⟨l, rs⟩) (t : FSch.ty ⟨.one (.c (.t .bool)), os⟩) (hs : spec s = some t) (ht : FSch.a ⟨.one (.c (.t .bool)), os⟩ t = true) (vs : List Value) (hn : vs.length = n) (W : World) (hcl : xBa P f = true) (ρ : List Info) (ha : ArgsR ρ vs l (Sch.a ⟨l, rs⟩ s)) (hr : RosA W ρ (xAn same rs (Sch.b ⟨l, rs⟩ s))) (hg : gOk W /\ ∀ b ∈ xJw, b < W.heap.size) :
  Calls P f vs.toArray W (fun e W' => e = .returned (.bool true) /\ Ex [] W W') := by
 obtain ⟨g1, g0, g2⟩ := hr.get;have hO : HOk [] (ρ.filterMap fun i => i.a.map (·.block)) W ρ (xAn same rs (Sch.b ⟨l, rs⟩ s)) W := by
  refine ⟨Ex.refl _ _, g1, fun id r i e1 e2 => ?_, fun p q r s i j b hne e1 e2 e3 e4 ho => absurd ho (xFL (g2 p r i e1 e3).1 b), fun p r i b e1 e2 ho => absurd ho (xFL (g2 p r i e1 e2).1 b), fun p r i b e1 e2 ho => ?_, hg.1, fun b hb => ⟨hg.2 b hb, by simp⟩, fun p t r i e1 e2 ht id j m v hj hv => (by rw [g0 id j t hj] at hv; simp at hv), fun p r i e1 e2 => .inr fun t _ => g0 p i t e2⟩
  ·exact (g2 id r i e1 e2).2.mono (fun id i h => by simp at h)
  ·rcases (g2 p r i e1 e2).1 with ⟨τ, xs, rfl⟩ | h3
   ·refine .inr (.inr (List.mem_filterMap.2 ⟨i, List.mem_of_getElem? e2, ?_⟩))
    cases xs with
    | nil => cases ho
    | cons x xs => exact ho
   ·exact absurd ho (xOf h3.1 h3.2 b)
 refine (h s t hs [] _ W ρ W vs hn ha.den hO hcl).mono ?_
 rintro e w' ⟨ι', u, rfl, _, hu, hh, _⟩
 have hu' : u = .bool (FSch.a ⟨.one (.c (.t .bool)), os⟩ t) := hu.1;rw [ht] at hu';exact ⟨congrArg _ hu', hh.ext⟩
theorem RosA.hok {W : World} {ρ : List Info} {h : List Root} (hr : RosA W ρ h) (hg : gOk W /\ ∀ b ∈ xJw, b < W.heap.size) : HOk [] (ρ.filterMap fun i => i.a.map (·.block)) W ρ h W := by
 obtain ⟨g1, g0, g2⟩ := hr.get;refine ⟨Ex.refl _ _, g1, fun id r i e1 e2 => ?_, fun p q r s i j b hne e1 e2 e3 e4 ho => absurd ho (xFL (g2 p r i e1 e3).1 b), fun p r i b e1 e2 ho => absurd ho (xFL (g2 p r i e1 e2).1 b), fun p r i b e1 e2 ho => ?_, hg.1, fun b hb => ⟨hg.2 b hb, by simp⟩, fun p t r i e1 e2 ht id j m v hj hv => (by rw [g0 id j t hj] at hv; simp at hv), fun p r i e1 e2 => .inr fun t _ => g0 p i t e2⟩
 ·exact (g2 id r i e1 e2).2.mono (fun id i h => by simp at h)
 ·rcases (g2 p r i e1 e2).1 with ⟨τ, xs, rfl⟩ | h3
  ·refine .inr (.inr (List.mem_filterMap.2 ⟨i, List.mem_of_getElem? e2, ?_⟩))
   cases xs with
   | nil => cases ho
   | cons x xs => exact ho
  ·exact absurd ho (xOf h3.1 h3.2 b)
theorem xGq {W : World} : ∀ {h : List Root}, (∀ r ∈ h, r.tag ≠ none /\ r.obs = []) -> RosA W (List.replicate h.length nilI) h
 | [], _ => rfl
 | r :: h, hr => by
  obtain ⟨h1, h2⟩ := hr r (by simp);refine ⟨r, h, rfl, .inr ⟨h1, h2⟩, ?_, xDi, xGq (fun r hm => hr r (by simp [hm]))⟩;obtain ⟨t, ht⟩ := Option.ne_none_iff_exists'.1 h1;refine (xE0 ht).1.2 ?_;rw [h2, xDi];exact ⟨rfl, fun m v o h => by simp at h, fun m m' v v' o o' b _ h => by simp at h⟩
end
open Go.RowKit Go.Proofs
noncomputable section
def keepE (e : Ent) : Bool := !(Nat.beq e.f 34 || Nat.beq e.f 13)
def xOz : List Ent -> List Ent
 | [] => []
 | e :: l => bif keepE e then e :: xOz l else xOz l
theorem xJR {P : Program} : ∀ {l : List Ent}, xAf P l -> xAf P (xOz l)
 | [], _ => trivial
 | e :: l, h => by
  simp only [xOz]
  cases keepE e with
  | true => exact ⟨h.1, xJR h.2⟩
  | false => exact xJR h.2
def w120_T (F : Nat) : List Ent := xYD F :: xNY F :: xT4 F :: { xXi F with bx := [some stTC] } :: xOz (xN8 F)
theorem xTs (F : Nat) : xAf Tryz.prog (w120_T F) := ⟨⟨by kernel_rfl, xTU F⟩, ⟨by kernel_rfl, xJf F⟩, ⟨by kernel_rfl, split_ok F⟩, ⟨by kernel_rfl, xS6 F⟩, xJR (xDI F)⟩
def h012 : List Root := [.aro 0 123 C_3 [], .arm 1 (.i .i64) false .bool [], .aro 2 236 C_1 [], .ars 3 77 C_2 [], .ars 4 244 C_4 []]
def xQD (_ : List Nat) (v : PV) (_ : List Root) : Option Bool :=
 match v with
 | .c (.sc (.bool b)) => some b
 | _ => none
theorem xUp {P : Program} {call : xAT Bool} (hcall : xAS P call) {g : Nat} {h0 : List Root} (h0a : ∀ r ∈ h0, r.tag ≠ none /\ r.obs = []) {v : Bool} (hr : call g [] h0 xQD = some v) : FnSem P g 0 ⟨[], []⟩ ⟨.one (.c (.t .bool)), []⟩ (fun _ => some v) := by
 intro s t hst S F W0 ι w vs hlen hden hh hcl;cases hst;have hvs : vs = [] := List.eq_nil_of_length_eq_zero hlen;subst hvs;have hg : gOk w /\ ∀ b ∈ xJw, b < w.heap.size := ⟨hh.layW, fun b hb => hh.outW hb⟩;refine (hcall g [] h0 xQD v hr [] _ w _ w [] rfl ((xGq (W := w) h0a).hok hg) hcl).mono fun e w' he => ?_;obtain ⟨ρ', h', p, u, B, t, rfl, _, h2, h3, h4, _⟩ := he;refine ⟨ι, u, rfl, PreM.refl _ _, ?_, ?_, Nat.le_refl _⟩
 ·unfold xQD at h4;split at h4
  ·cases h4; exact h2
  ·cases h4
 ·exact hh.ext' h3.ext
def xMH (_ : Nat) : Option Bool := some true
abbrev xMJ : Sch := ⟨[], []⟩
abbrev xMI : FSch := ⟨.one (.c (.t .bool)), []⟩
def xTo (F : Nat) : Ent := ⟨7, 0, xMJ, xMI, fun _ => xMH F, []⟩
theorem works12_run : xCk (β := Bool) Tryz.prog 1000 plans (w120_T 1000) 20 7 [] h012 xQD = both (some true) (some true) := by kernel_rfl
theorem xSg (F : Nat) : FnSem Tryz.prog 7 0 xMJ xMI (fun _ => xMH F) := by
 refine xUp (xAF xAg 1000 xAG (xTs 1000) 20 Bool) (h0 := h012) ?_ (works12_run.trans (xJY _));intro r hr;simp only [h012, List.mem_cons, List.not_mem_nil, or_false] at hr;rcases hr with rfl | rfl | rfl | rfl | rfl <;> exact ⟨by simp [Root.tag], rfl⟩
end
noncomputable section
def orO {β : Type} : Option β -> Option β -> Option β
 | some x, _ => some x
 | none, y => y
theorem FnSem.or {P : Program} {f n : Nat} {In : Sch} {Out : FSch} {s s' : In.ty -> Option Out.ty} (h : FnSem P f n In Out s) (k : FnSem P f n In Out s') : FnSem P f n In Out (fun x => orO (s x) (s' x)) := fun x t hx => by
 cases hs : s x with
 | some y =>
  simp only [hs, orO] at hx;exact h x t (hs.trans hx)
 | none =>
  simp only [hs, orO] at hx;exact k x t hx
abbrev line_I : Sch := xI7
abbrev lineT_O : FSch := xI6
abbrev lineA_O : FSch := xGx
theorem xVE : ∃ f : Nat -> line_I.ty -> Option lineT_O.ty, ∀ F s, f F s = orO ((xEd F).spec s) (orO ((xCV F).spec s) (orO ((xDE F).spec s) (orO ((xDF F).spec s) ((xFT F).spec s)))) := ⟨fun F s => orO ((xEd F).spec s) (orO ((xCV F).spec s) (orO ((xDE F).spec s) (orO ((xDF F).spec s) ((xFT F).spec s)))), fun _ _ => rfl⟩
def xVF : Nat -> line_I.ty -> Option lineT_O.ty := Classical.choose xVE
theorem lineTQP : ∀ F s, xVF F s = orO ((xEd F).spec s) (orO ((xCV F).spec s) (orO ((xDE F).spec s) (orO ((xDF F).spec s) ((xFT F).spec s)))) := Classical.choose_spec xVE
def xB3 (F : Nat) (s : line_I.ty) : Option (((ByteArray × Int) × (T_1 × ((List (Int × Nat)) × ((List (ByteArray × Nat)) × ((List (ByteArray × Nat)) × (T_3 × (T_5 × (T_4 × (T_8 × T_7)))))))))) := xVF F s
theorem xDj (F : Nat) (s : line_I.ty) : xB3 F s = orO ((xEd F).spec s) (orO ((xCV F).spec s) (orO ((xDE F).spec s) (orO ((xDF F).spec s) ((xFT F).spec s)))) := lineTQP F s
def lineT_E (F : Nat) : Ent := ⟨13, 2, line_I, lineT_O, fun s => xB3 F s, []⟩
theorem xZv (F : Nat) : FnSem Tryz.prog 13 2 line_I lineT_O (fun s => xB3 F s) := fun s t h =>
 FnSem.or (xKX F) (FnSem.or (xL5 F) (FnSem.or (xNM F) (FnSem.or (xNP F) (xSQ F)))) s t ((xDj F s).symm.trans h)
theorem xVJ : ∃ f : Nat -> line_I.ty -> Option lineA_O.ty, ∀ F s, f F s = orO ((xEx F).spec s) (orO ((xEy F).spec s) ((xEw F).spec s)) := ⟨fun F s => orO ((xEx F).spec s) (orO ((xEy F).spec s) ((xEw F).spec s)), fun _ _ => rfl⟩
def xVK : Nat -> line_I.ty -> Option lineA_O.ty := Classical.choose xVJ
theorem lineAQP : ∀ F s, xVK F s = orO ((xEx F).spec s) (orO ((xEy F).spec s) ((xEw F).spec s)) := Classical.choose_spec xVJ
def xE8 (F : Nat) (s : line_I.ty) : Option ((Int × (T_1 × ((List (Int × Nat)) × ((List (ByteArray × Nat)) × ((List (ByteArray × Nat)) × (T_3 × (T_5 × (T_4 × (T_8 × T_7)))))))))) := xVK F s
theorem xFU (F : Nat) (s : line_I.ty) : xE8 F s = orO ((xEx F).spec s) (orO ((xEy F).spec s) ((xEw F).spec s)) := lineAQP F s
def lineA_E (F : Nat) : Ent := ⟨13, 2, line_I, lineA_O, fun s => xE8 F s, []⟩
theorem xZw (F : Nat) : FnSem Tryz.prog 13 2 line_I lineA_O (fun s => xE8 F s) := fun s t h =>
 FnSem.or (xPw F) (FnSem.or (xPx F) (xPv F)) s t ((xFU F s).symm.trans h)
def lawT_T (F : Nat) : List Ent := lineT_E F :: xTo F :: xT0 F :: xUc F :: xR7 F :: xQt F :: text_E F :: xNY F :: newW_E F :: xRe F
theorem xFV (F : Nat) : xAf Tryz.prog (lawT_T F) := ⟨⟨by kernel_rfl, xZv F⟩, ⟨by kernel_rfl, xSg F⟩, ⟨by kernel_rfl, xSm F⟩, ⟨by kernel_rfl, xQy F⟩, ⟨by kernel_rfl, xOQ F⟩, ⟨by kernel_rfl, xM2 F⟩, ⟨by kernel_rfl, xTL F⟩, ⟨by kernel_rfl, xJf F⟩, ⟨by kernel_rfl, xU3 F⟩, xPz F⟩
def lawA_T (F : Nat) : List Ent := lineA_E F :: lawT_T F
theorem xVT (F : Nat) : xAf Tryz.prog (lawA_T F) := ⟨⟨by kernel_rfl, xZw F⟩, xFV F⟩
end
section
open Go.Lib
theorem ldl (s : ByteArray) : ByteArray.toList.loop s 0 [] = s.data.toList := by
 have := ByteArray.toList_eq s;unfold ByteArray.toList at this;exact this
theorem ext0 (l : List UInt8) (a : Nat) : (bs l).extract 0 a = bs (l.take a) := by
 rw [xR3 (ByteArray.extract _ _ _), extract_from_zero]
theorem extE (l : List UInt8) (a : Nat) : (bs l).extract a (bs l).size = bs (l.drop a) := by
 rw [xR3 (ByteArray.extract _ _ _), extract_to_end]
theorem bAt_bs (c : UInt8) (l : List UInt8) : bAt (bs (c :: l)) 0 = (c.toNat : Int) := rfl
theorem xYj (F u : Nat) (h : u < 10 ^ 16) : xId F (bs (decDigits u)) (bs digs) = some (bs []) := by
 unfold xId;have hl := xGH u 15 h;rw [show xXN (bs digs) = true from by decide, show decide ((bs (decDigits u)).size <= 1000000) = true from decide_eq_true (by rw [xAh]; omega), show decide ((bs digs).size <= 1000000) = true from by decide];simp only [Bool.and_self, cond_true];rw [xYk]
theorem yAh (F : Nat) (n : Int) (h1 : -10000000000000000 < n) (h2 : n < 10000000000000000) : xHt F (bs (itoa n)) = some (n, true) := by
 unfold xHt;have hl := xH2 n h1 h2;rw [show decide ((bs (itoa n)).size <= 281474976710656) = true from decide_eq_true (by rw [xAh]; omega), cond_true, xPZ, xXM n h1 h2]
theorem xA4 (F : Nat) (n : Int) (h1 : -1000000000000000 < n) (h2 : n < 1000000000000000) : xAN F (bs (itoa n)) = some (n, true) := by
 have hat := yAh F n (by omega) (by omega);obtain ⟨u, hu⟩ : ∃ u : Nat, u = n.natAbs := ⟨_, rfl⟩;have hub : u < 10 ^ 15 := by omega
 have hlen := xGH u 14 hub;have hne := xOB u;have htr := xYj F u (by omega);have hpre : ∀ (X : Option (ByteArray × ByteArray)) , X = some (bs (itoa n), bs (decDigits u)) -> ∀ (g : ByteArray × ByteArray -> Option (Int × Bool)), ob X g = g (bs (itoa n), bs (decDigits u)) := fun X h g => by rw [h]
 unfold xAN;refine (hpre _ ?_ _).trans ?_
 ·by_cases hn : n < 0
  ·have e : itoa n = 45 :: decDigits u := by unfold itoa; rw [if_pos hn, hu]
   rw [e];have hsz : (bs (45 :: decDigits u)).size = (decDigits u).length + 1 := by rw [xAh]; rfl
   rw [show decide (((bs (45 :: decDigits u)).size : Int) >= 1) = true from decide_eq_true (by rw [hsz]; omega), cond_true, show inC 1 (bs (45 :: decDigits u)).size = true from by rw [hsz]; simp [inC]; omega, cond_true];have h0 : (ByteArray.toList.loop (ByteArray.extract (bs (45 :: decDigits u)) (0 : Int).toNat ((ByteArray.mk (List.toArray (45 :: []))).size : Int).toNat) 0 [] == ByteArray.toList.loop (ByteArray.mk (List.toArray (45 :: []))) 0 []) = true := by
    rw [ldl, ldl, beq_iff_eq];show (ByteArray.extract (bs (45 :: decDigits u)) 0 1).data.toList = [45];rw [ext0]; rfl
   rw [h0, cond_true, show inC ((bs (45 :: decDigits u)).size : Int) (bs (45 :: decDigits u)).size = true from by simp [inC], cond_true, show inC 1 ((bs (45 :: decDigits u)).size : Int).toNat = true from by rw [hsz]; simp [inC]; omega, cond_true];congr 2;show ByteArray.extract (bs (45 :: decDigits u)) 1 (bs (45 :: decDigits u)).size = _;rw [extE]; rfl
  ·have e : itoa n = decDigits u := by unfold itoa; rw [if_neg hn]; congr 1; omega
   rw [e]
   cases hd : decDigits u with
   | nil => exact absurd hd hne
   | cons c r =>
    have hc := xGG u c (by rw [hd]; simp);have hsz : (bs (c :: r)).size = r.length + 1 := by rw [xAh]; rfl
    rw [show decide (((bs (c :: r)).size : Int) >= 1) = true from decide_eq_true (by rw [hsz]; omega), cond_true, show inC 1 (bs (c :: r)).size = true from by rw [hsz]; simp [inC]; omega, cond_true];have h0 : (ByteArray.toList.loop (ByteArray.extract (bs (c :: r)) (0 : Int).toNat ((ByteArray.mk (List.toArray (45 :: []))).size : Int).toNat) 0 [] == ByteArray.toList.loop (ByteArray.mk (List.toArray (45 :: []))) 0 []) = false := by
     rw [ldl, ldl, beq_eq_false_iff_ne];show ¬ (ByteArray.extract (bs (c :: r)) 0 1).data.toList = [45];rw [ext0];intro e;have e : [c] = [45] := e;have : c = 45 := by simpa using e
     subst this;have h45 : (45 : UInt8).toNat = 45 := rfl;omega
    rw [h0, cond_false]
 ·have hsz : ((bs (decDigits u)).size : Int) = ((decDigits u).length : Nat) := by rw [xAh]
  have hpos : 1 <= (decDigits u).length := by cases hd : decDigits u with
   | nil => exact absurd hd hne
   | cons c r => simp
  have key : ∀ (X : Option (ByteArray × Bool)), X = some (bs (itoa n), false) -> ob X (fun s3 => (bif s3.2 then (some ((0 : Int), false)) else (ob (xHt F s3.1) (fun r1 => (some (r1.1, true)))))) = some (n, true) := fun X h => by
   rw [h, xAd];show ob (xHt F (bs (itoa n))) (fun r1 => some (r1.1, true)) = _;rw [hat]
  refine key _ ?_;show (bif decide (((bs (decDigits u)).size : Int) < 1) then _ else _) = _;rw [show decide (((bs (decDigits u)).size : Int) < 1) = false from decide_eq_false (by omega), cond_false];show (bif decide (((bs (decDigits u)).size : Int) > 16) then _ else _) = _;rw [show decide (((bs (decDigits u)).size : Int) > 16) = false from decide_eq_false (by omega), cond_false];show ob (xId F (bs (decDigits u)) (bs digs)) _ = _;rw [htr, xAd];show (bif (!(ByteArray.toList.loop (bs []) 0 [] == ByteArray.toList.loop (bs []) 0 [])) then _ else _) = _;rw [show (!(ByteArray.toList.loop (bs []) 0 [] == ByteArray.toList.loop (bs []) 0 [])) = false from by simp, cond_false]
  cases hd : decDigits u with
  | nil => exact absurd hd hne
  | cons c r =>
   show (bif inB 0 (bs (c :: r)).size then (bif (bAt (bs (c :: r)) 0 == 48) then _ else _) else _) = _;rw [show inB 0 (bs (c :: r)).size = true from by rw [xAh]; simp [inB], cond_true, bAt_bs];by_cases h48 : c.toNat = 48
   ·have hu0 : u = 0 := by
     by_cases h0 : u = 0
     ·exact h0
     ·have := xZ5 u (by omega);rw [hd] at this;exact absurd (by rw [List.head?_cons]; congr 1; exact UInt8.toNat_inj.1 h48) this
    have hn0 : n = 0 := by omega
    subst hn0;rw [show ((c.toNat : Int) == 48) = true from by rw [h48]; rfl, cond_true];have e0 : itoa 0 = [48] := by unfold itoa; rw [if_neg (by omega)]; rw [decDigits]; rfl
    rw [e0];show some (bs [48], !(ByteArray.toList.loop (bs [48]) 0 [] == ByteArray.toList.loop (bs [48]) 0 [])) = _;simp
   ·rw [show ((c.toNat : Int) == 48) = false from by rw [beq_eq_false_iff_ne]; omega, cond_false]
def Nm (n : Int) : Prop := -1000000000000000 < n /\ n < 1000000000000000
def rgT (r : Int × Int) : List UInt8 := itoa r.1 ++ [46, 46] ++ itoa r.2
def bdT (b : (Int × Int) × ((Int × Int) × (Int × Int))) : List UInt8 := rgT b.1 ++ 47 :: (rgT b.2.1 ++ 47 :: rgT b.2.2)
theorem xB6 (n : Int) (c : UInt8) (h : c.toNat ≠ 45 /\ (c.toNat < 48 \/ 57 < c.toNat)) : c ∉ itoa n := fun hm => by
 have := xZH n c hm;omega
theorem xUv (r : Int × Int) (c : UInt8) (h : c.toNat ≠ 45 /\ c.toNat ≠ 46 /\ (c.toNat < 48 \/ 57 < c.toNat)) : c ∉ rgT r := fun hm => by
 unfold rgT at hm;rcases List.mem_append.1 hm with hm | hm
 ·rcases List.mem_append.1 hm with hm | hm
  ·exact xB6 r.1 c ⟨h.1, h.2.2⟩ hm
  ·have : c = 46 := by simpa using hm
   subst this;exact h.2.1 rfl
 ·exact xB6 r.2 c ⟨h.1, h.2.2⟩ hm
theorem xR8 (b : (Int × Int) × ((Int × Int) × (Int × Int))) (c : UInt8) (h : c.toNat ≠ 45 /\ c.toNat ≠ 46 /\ c.toNat ≠ 47 /\ (c.toNat < 48 \/ 57 < c.toNat)) : c ∉ bdT b := fun hm => by
 have h1 := fun r => xUv r c ⟨h.1, h.2.1, h.2.2.2⟩;have h2 : c ≠ 47 := fun e => by subst e; exact h.2.2.1 rfl
 unfold bdT at hm;rcases List.mem_append.1 hm with hm | hm
 ·exact h1 _ hm
 ·rcases List.mem_cons.1 hm with hm | hm
  ·exact h2 hm
  ·rcases List.mem_append.1 hm with hm | hm
   ·exact h1 _ hm
   ·rcases List.mem_cons.1 hm with hm | hm
    ·exact h2 hm
    ·exact h1 _ hm
theorem xBm (r : Int × Int) (h1 : Nm r.1) (h2 : Nm r.2) : (rgT r).length <= 36 := by
 unfold rgT Nm at *;have a := xH2 r.1 (by omega) (by omega);have b := xH2 r.2 (by omega) (by omega);simp; omega
theorem xAM (F : Nat) (r : Int × Int) (h1 : Nm r.1) (h2 : Nm r.2) : xAR F (bs (rgT r)) = some (r, true) := by
 have hc : xMr F (bs (rgT r)) (ByteArray.mk (Array.mk (46 :: (46 :: [])))) = some (bs (itoa r.1), (bs (itoa r.2), true)) := by
  unfold xMr;have hl := xBm r h1 h2;rw [show decide ((bs (rgT r)).size < 4294967281) = true from decide_eq_true (by rw [xAh]; omega), cond_true];have : Lib.cut (bs (rgT r)).data.toList ((ByteArray.mk (Array.mk (46 :: (46 :: [])))).data.toList) = (itoa r.1, itoa r.2, true) := cut_at 46 [46] (itoa r.1) (itoa r.2) (xB6 r.1 46 (by decide));rw [this]
 unfold xAR;rw [hc, xAd];show ob (xAN F (bs (itoa r.1))) _ = _;rw [xA4 F r.1 h1.1 h1.2, xAd];show ob (xAN F (bs (itoa r.2))) _ = _;rw [xA4 F r.2 h2.1 h2.2, xAd];rfl
theorem xM3 (F : Nat) (c : UInt8) (l : List (List UInt8)) (hl : l ≠ []) (hn : ∀ x ∈ l, c ∉ x) (hs : (xAi c l).length <= 1000000) : xCi F (bs (xAi c l)) (bs [c]) = some (l.map bs) := by
 unfold xCi;rw [show decide ((bs (xAi c l)).size <= 1000000) = true from decide_eq_true (by rw [xAh]; exact hs), show decide (1 <= (bs [c]).size) = true from rfl];simp only [Bool.and_self, cond_true];rw [xGk c l hl hn]
theorem xHS (F : Nat) (b : (Int × Int) × ((Int × Int) × (Int × Int))) (h : Nm b.1.1 /\ Nm b.1.2 /\ Nm b.2.1.1 /\ Nm b.2.1.2 /\ Nm b.2.2.1 /\ Nm b.2.2.2) : xCi F (bs (bdT b)) (ByteArray.mk (Array.mk (47 :: []))) = some [bs (rgT b.1), bs (rgT b.2.1), bs (rgT b.2.2)] := by
 have a1 := xBm b.1 h.1 h.2.1;have a2 := xBm b.2.1 h.2.2.1 h.2.2.2.1;have a3 := xBm b.2.2 h.2.2.2.2.1 h.2.2.2.2.2;exact xM3 F 47 [rgT b.1, rgT b.2.1, rgT b.2.2] (by simp) (fun x hx => by
  simp only [List.mem_cons, List.not_mem_nil, or_false] at hx;rcases hx with rfl | rfl | rfl <;> exact xUv _ 47 (by decide)) (by simp [xAi]; omega)
theorem xGN (b : (Int × Int) × ((Int × Int) × (Int × Int))) (h : Nm b.1.1 /\ Nm b.1.2 /\ Nm b.2.1.1 /\ Nm b.2.1.2 /\ Nm b.2.2.1 /\ Nm b.2.2.2) : (bdT b).length <= 110 := by
 have a1 := xBm b.1 h.1 h.2.1;have a2 := xBm b.2.1 h.2.2.1 h.2.2.2.1;have a3 := xBm b.2.2 h.2.2.2.2.1 h.2.2.2.2.2;simp [bdT]; omega
end
end Go.Proofs.YtnomnijhlbalaaaGreatDoor
