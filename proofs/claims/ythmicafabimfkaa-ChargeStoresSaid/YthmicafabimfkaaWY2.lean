/- What is read off is true of what is laid again. No condition. -/
import Derived.Test.YthmicafabimfkaaWY1
namespace Go.Proofs.Ythmicafabimfkaa
noncomputable section
open Go.RowKit
theorem enc_pf {A B C : Type} (f : A → C) (a b : Bool) (hf : a = false → ∀ x y, f x = f y) (d x : A) (y : B) : f (pf d a b (pm a b x y)) = f x := by
  cases a
  · exact hf rfl _ _
  · cases b <;> rfl
theorem enc_ps {A B C : Type} (f : B → C) (a b : Bool) (hf : b = false → ∀ x y, f x = f y) (d y : B) (x : A) : f (ps d a b (pm a b x y)) = f y := by
  cases a
  · rfl
  · cases b
    · exact hf rfl _ _
    · rfl
theorem Kd.enc_inv {ids : Nat → Nat} {κ : Kd} (h : κ.hasD = false) (x y : κ.ty) : κ.enc ids x = κ.enc ids y := by
  cases κ <;> first | rfl | cases h
theorem Sg.enc_inv {ids : Nat → Nat} {g : Sg} (h : g.hasD = false) (x y : g.ty) : g.enc ids x = g.enc ids y := by
  cases g with
  | t τ => cases h
  | k κ => exact congrArg (fun c => [c]) (Kd.enc_inv h x y)
theorem gsEnc_inv {ids : Nat → Nat} : ∀ {l : List Sg} (_ : gsD l = false) (x y : gsTy l), gsEnc ids l x = gsEnc ids l y
  | [], _, _, _ => rfl
  | g :: l, h, x, y => by
    simp only [gsD, Bool.or_eq_false_iff] at h
    simp only [gsEnc]
    rw [Sg.enc_inv h.1 (pf g.dflt g.hasD (gsD l) x) (pf g.dflt g.hasD (gsD l) y), gsEnc_inv h.2 (ps (gsDf l) g.hasD (gsD l) x) (ps (gsDf l) g.hasD (gsD l) y)]
theorem gsEnc_cons {ids : Nat → Nat} {g : Sg} {l : List Sg} (x : g.ty) (y : gsTy l) : gsEnc ids (g :: l) (pm g.hasD (gsD l) x y) = g.enc ids x ++ gsEnc ids l y := by
  simp only [gsEnc]
  rw [enc_pf (fun z => g.enc ids z) g.hasD (gsD l) (fun h => Sg.enc_inv h), enc_ps (fun z => gsEnc ids l z) g.hasD (gsD l) (fun h => gsEnc_inv h)]
theorem PK.enc_inv {ids : Nat → Nat} {p : PK} (h : p.hasD = false) (x y : p.ty) : p.enc ids x = p.enc ids y := by
  cases p with
  | c g => cases g with
    | t τ => cases h
    | k κ => exact congrArg PV.c (Kd.enc_inv h x y)
  | ag l => exact congrArg PV.ag (gsEnc_inv h x y)
theorem slEnc_inv {ids : Nat → Nat} : ∀ {l : List (Nat × PK)} (_ : slD l = false) (x y : slTy l), slEnc ids l x = slEnc ids l y
  | [], _, _, _ => rfl
  | p :: l, h, x, y => by
    simp only [slD, Bool.or_eq_false_iff] at h
    simp only [slEnc]
    rw [PK.enc_inv h.1 (pf p.2.dflt p.2.hasD (slD l) x) (pf p.2.dflt p.2.hasD (slD l) y), slEnc_inv h.2 (ps (slDf l) p.2.hasD (slD l) x) (ps (slDf l) p.2.hasD (slD l) y)]
theorem slEnc_cons {ids : Nat → Nat} {p : Nat × PK} {l : List (Nat × PK)} (x : p.2.ty) (y : slTy l) : slEnc ids (p :: l) (pm p.2.hasD (slD l) x y) = putP (slEnc ids l y) p.1 (p.2.enc ids x) := by
  simp only [slEnc]
  rw [enc_pf (fun z => p.2.enc ids z) p.2.hasD (slD l) (fun h => PK.enc_inv h), enc_ps (fun z => slEnc ids l z) p.2.hasD (slD l) (fun h => slEnc_inv h)]
theorem clo_enc {ids : Nat → Nat} {f : FuncId} {a b : List Sg} (x : gsTy a) (y : gsTy b) : (RK.clo f a b).enc ids (pm (gsD a) (gsD b) x y) = .clo f (gsEnc ids a x) (gsEnc ids b y) := by
  simp only [RK.enc]
  rw [enc_pf (fun z => gsEnc ids a z) (gsD a) (gsD b) (fun h => gsEnc_inv h), enc_ps (fun z => gsEnc ids b z) (gsD a) (gsD b) (fun h => gsEnc_inv h)]
theorem RK.enc_inv {ids : Nat → Nat} {r : RK} (h : r.hasD = false) (x y : r.ty) : r.enc ids x = r.enc ids y := by
  cases r with
  | dead => rfl
  | ro τ => cases h
  | rows T τ => cases h
  | mp k agg τ => cases h
  | ars t T τ => cases h
  | aro t T τ => cases h
  | arm t k agg τ => cases h
  | arr t τ => cases h
  | blk T l => exact congrArg (fun c => Root.blk c T) (gsEnc_inv h x y)
  | clo f a b =>
    simp only [RK.hasD, Bool.or_eq_false_iff] at h
    simp only [RK.enc]
    rw [gsEnc_inv h.1 (pf (gsDf a) (gsD a) (gsD b) x) (pf (gsDf a) (gsD a) (gsD b) y), gsEnc_inv h.2 (ps (gsDf b) (gsD a) (gsD b) x) (ps (gsDf b) (gsD a) (gsD b) y)]
theorem rsEnc_inv {ids : Nat → Nat} : ∀ {l : List RK} (_ : rsD l = false) (x y : rsTy l), rsEnc ids l x = rsEnc ids l y
  | [], _, _, _ => rfl
  | r :: l, h, x, y => by
    simp only [rsD, Bool.or_eq_false_iff] at h
    simp only [rsEnc]
    rw [RK.enc_inv h.1 (pf r.dflt r.hasD (rsD l) x) (pf r.dflt r.hasD (rsD l) y), rsEnc_inv h.2 (ps (rsDf l) r.hasD (rsD l) x) (ps (rsDf l) r.hasD (rsD l) y)]
theorem rsEnc_cons {ids : Nat → Nat} {r : RK} {l : List RK} (x : r.ty) (y : rsTy l) : rsEnc ids (r :: l) (pm r.hasD (rsD l) x y) = r.enc ids x :: rsEnc ids l y := by
  simp only [rsEnc]
  rw [enc_pf (fun z => r.enc ids z) r.hasD (rsD l) (fun h => RK.enc_inv h), enc_ps (fun z => rsEnc ids l z) r.hasD (rsD l) (fun h => rsEnc_inv h)]
theorem Sch.enc_a {ids : Nat → Nat} {s : Sch} (x : slTy s.slots) (y : rsTy s.roots) : slEnc ids s.slots (s.a (pm (slD s.slots) (rsD s.roots) x y)) = slEnc ids s.slots x := enc_pf (fun z => slEnc ids s.slots z) _ _ (fun h => slEnc_inv h) _ _ _
theorem Sch.enc_b {ids : Nat → Nat} {s : Sch} (x : slTy s.slots) (y : rsTy s.roots) : rsEnc ids s.roots (s.b (pm (slD s.slots) (rsD s.roots) x y)) = rsEnc ids s.roots y := enc_ps (fun z => rsEnc ids s.roots z) _ _ (fun h => rsEnc_inv h) _ _ _
def nilI : Info := ⟨none, 0, some 0, undef⟩
def mkI (rn : Rn) (ρ : List Info) : List Info :=
  rn.map fun x => match x with
    | some (some id) => (ρ[id]?).getD nilI
    | _ => nilI
def Agr (rn : Rn) (ρ ι : List Info) : Prop :=
  ∀ j : Nat, (∀ id, rn[j]? = some (some (some id)) → ι[j]? = some ((ρ[id]?).getD nilI)) ∧ (rn[j]? = some (some none) → ι[j]? = some nilI)
def Le (rn rn' : Rn) : Prop := rn'.length = rn.length ∧ ∀ (j : Nat) (x : Option Nat), rn[j]? = some (some x) → rn'[j]? = some (some x)
theorem Le.refl (rn : Rn) : Le rn rn := ⟨rfl, fun _ _ h => h⟩
theorem Le.trans {a b c : Rn} (h : Le a b) (k : Le b c) : Le a c := ⟨k.1.trans h.1, fun j x e => k.2 j x (h.2 j x e)⟩
theorem Agr.of_le {rn rn' : Rn} {ρ ι : List Info} (h : Agr rn' ρ ι) (hl : Le rn rn') : Agr rn ρ ι := fun j => ⟨fun id e => (h j).1 id (hl.2 _ _ e), fun e => (h j).2 (hl.2 _ _ e)⟩
theorem Agr.mk (rn : Rn) (ρ : List Info) : Agr rn ρ (mkI rn ρ) := fun j => ⟨fun id e => by simp [mkI, e], fun e => by simp [mkI, e]⟩
theorem bindR_ok {rn rn' : Rn} {j : Nat} {x : Option Nat} (h : bindR rn j x = some rn') : Le rn rn' ∧ rn'[j]? = some (some x) := by
  unfold bindR at h
  split at h
  · rename_i hj
    cases h
    refine ⟨⟨by simp, fun q y e => ?_⟩, ?_⟩
    · rw [List.getElem?_set]
      split
      · rename_i e1
        rw [← e1, hj] at e
        cases e
      · exact e
    · have := (List.getElem?_eq_some_iff.1 hj).1
      simp [List.getElem?_set, this]
  · rename_i y hj
    split at h
    · cases h; exact ⟨Le.refl _, hj⟩
    · rename_i a b
      cases hb : Nat.beq a b with
      | false => rw [hb] at h; cases h
      | true => rw [hb] at h; cases h; have := Nat.eq_of_beq_eq_true hb; subst this; exact ⟨Le.refl _, hj⟩
    · cases h
  · cases h
theorem litEq_ok {v u : Value} (h : litEq v u = true) : v = u := by
  unfold litEq at h
  split at h
  · rfl
  · rfl
  · rfl
  · rw [Nat.eq_of_beq_eq_true h]
  · simp only [Bool.and_eq_true] at h
    rw [kix_inj h.1, eq_of_beq h.2]
  · rw [eq_of_beq h]
  · cases h
/-- A nil slice, as the whole of an empty root. -/
theorem den_nil {ι : List Info} {j k : Nat} (h : ι[j]? = some nilI) : Den ι (.sl j k 0 none none) (.slice none 0 0) :=
  ⟨nilI, none, 0, 0, h, rfl, Nat.le_refl _, Nat.zero_le _, fun h => absurd h (Nat.lt_irrefl _), ⟨0, rfl, rfl⟩, ⟨0, rfl, Nat.le_refl _⟩, rfl, rfl, fun _ => rfl, fun h => absurd h (Nat.lt_irrefl _)⟩
theorem Kd.dec_ok {κ : Kd} {rn rn' : Rn} {c : CV} {x : κ.ty} (h : κ.dec rn c = some (x, rn')) : Le rn rn' ∧ ∀ (ρ ι : List Info) (v : Value), Agr rn' ρ ι → Den ρ c v → Den ι (κ.enc same x) v := by
  have get : ∀ {id j : Nat} {i : Info} {ρ ι : List Info}, rn'[j]? = some (some (some id)) → Agr rn' ρ ι → ρ[id]? = some i → ι[j]? = some i := by
    intro id j i ρ ι h1 h2 h3
    rw [(h2 j).1 id h1, h3]; rfl
  cases κ with
  | sl j k =>
    simp only [Kd.dec] at h
    split at h
    · rename_i id k' off n c
      split at h
      · cases hb : Nat.beq k k' with
        | false => rw [hb] at h; cases h
        | true =>
          rw [hb] at h
          have := Nat.eq_of_beq_eq_true hb
          subst this
          simp only [cond_true] at h
          split at h
          · rename_i rn2 hr
            cases h
            obtain ⟨h1, h2⟩ := bindR_ok hr
            exact ⟨h1, fun ρ ι v ha ⟨i, a', c', nn, h3, h4⟩ => ⟨i, a', c', nn, get h2 ha h3, h4⟩⟩
          · cases h
      · cases h
    · split at h
      · rename_i rn2 hr
        cases h
        obtain ⟨h1, h2⟩ := bindR_ok hr
        exact ⟨h1, fun ρ ι v ha hd => by obtain ⟨rfl, _⟩ := hd; exact den_nil ((ha j).2 h2)⟩
      · cases h
    · cases h
  | so j k =>
    simp only [Kd.dec] at h
    split at h
    · rename_i id k' off n c
      split at h
      · cases hb : Nat.beq k k' with
        | false => rw [hb] at h; cases h
        | true =>
          rw [hb] at h
          have := Nat.eq_of_beq_eq_true hb
          subst this
          simp only [cond_true] at h
          split at h
          · rename_i rn2 hr
            cases h
            obtain ⟨h1, h2⟩ := bindR_ok hr
            exact ⟨h1, fun ρ ι v ha ⟨i, a', c', nn, h3, h4⟩ => ⟨i, a', c', nn, get h2 ha h3, h4⟩⟩
          · cases h
      · cases h
    · split at h
      · rename_i rn2 hr
        cases h
        obtain ⟨h1, h2⟩ := bindR_ok hr
        exact ⟨h1, fun ρ ι v ha hd => by obtain ⟨rfl, _⟩ := hd; exact den_nil ((ha j).2 h2)⟩
      · cases h
    · cases h
  | sp j k =>
    simp only [Kd.dec] at h
    split at h
    · rename_i id k' off n c
      split at h
      · rename_i n
        cases hb : Nat.beq k k' with
        | false => rw [hb] at h; cases h
        | true =>
          rw [hb] at h
          have := Nat.eq_of_beq_eq_true hb
          subst this
          simp only [cond_true] at h
          split at h
          · rename_i rn2 hr
            cases h
            obtain ⟨h1, h2⟩ := bindR_ok hr
            exact ⟨h1, fun ρ ι v ha ⟨i, a', c', nn, h3, h4⟩ => ⟨i, a', c', nn, get h2 ha h3, h4⟩⟩
          · cases h
      · cases h
    · cases h
  | pt j k row c =>
    simp only [Kd.dec] at h
    split at h
    · rename_i id k' row' c'
      cases hb : (Nat.beq k k' && Nat.beq row row' && Nat.beq c c') with
      | false => rw [hb] at h; cases h
      | true =>
        rw [hb] at h
        simp only [Bool.and_eq_true] at hb
        obtain ⟨⟨b1, b2⟩, b3⟩ := hb
        have b1 := Nat.eq_of_beq_eq_true b1
        have b2 := Nat.eq_of_beq_eq_true b2
        have b3 := Nat.eq_of_beq_eq_true b3
        subst b1; subst b2; subst b3
        simp only [cond_true] at h
        split at h
        · rename_i rn2 hr
          cases h
          obtain ⟨h1, h2⟩ := bindR_ok hr
          exact ⟨h1, fun ρ ι v ha ⟨i, b, o, h3, h4⟩ => ⟨i, b, o, get h2 ha h3, h4⟩⟩
        · cases h
    · cases h
  | pr j k c =>
    simp only [Kd.dec] at h
    split at h
    · rename_i id k' row' c'
      cases hb : (Nat.beq k k' && Nat.beq c c') with
      | false => rw [hb] at h; cases h
      | true =>
        rw [hb] at h
        simp only [Bool.and_eq_true] at hb
        obtain ⟨b1, b3⟩ := hb
        have b1 := Nat.eq_of_beq_eq_true b1
        have b3 := Nat.eq_of_beq_eq_true b3
        subst b1; subst b3
        simp only [cond_true] at h
        split at h
        · rename_i rn2 hr
          cases h
          obtain ⟨h1, h2⟩ := bindR_ok hr
          exact ⟨h1, fun ρ ι v ha ⟨i, b, o, h3, h4⟩ => ⟨i, b, o, get h2 ha h3, h4⟩⟩
        · cases h
    · cases h
  | hv j =>
    simp only [Kd.dec] at h
    split at h
    · rename_i id
      split at h
      · rename_i rn2 hr
        cases h
        obtain ⟨h1, h2⟩ := bindR_ok hr
        exact ⟨h1, fun ρ ι v ha ⟨i, h3, h4⟩ => ⟨i, get h2 ha h3, h4⟩⟩
      · cases h
    · cases h
  | lit u =>
    simp only [Kd.dec] at h
    split at h
    · rename_i u'
      cases hb : litEq u u' with
      | false => rw [hb] at h; cases h
      | true =>
        rw [hb] at h
        cases h
        have := litEq_ok hb
        subst this
        exact ⟨Le.refl _, fun ρ ι v _ hd => hd⟩
    · cases h
/-- What is known of an arena is known there too. -/
def Cov (ρ ι : List Info) (t : Nat) : Prop := ∀ (id : Nat) (i : Info) (m : Nat) (v : Value), ρ[id]? = some i → (i.objs t)[m]? = some v → ∃ (id' : Nat) (i' : Info), ι[id']? = some i' ∧ (i'.objs t)[m]? = some v
def Covs (ρ ι : List Info) (ts : List Nat) : Prop := ∀ t ∈ ts, Cov ρ ι t
theorem Covs.left {ρ ι : List Info} {a b : List Nat} (h : Covs ρ ι (a ++ b)) : Covs ρ ι a := fun t ht => h t (List.mem_append_left _ ht)
theorem Covs.right {ρ ι : List Info} {a b : List Nat} (h : Covs ρ ι (a ++ b)) : Covs ρ ι b := fun t ht => h t (List.mem_append_right _ ht)
theorem DenL.enc {ρ ι : List Info} : ∀ {τ : TC}, hasCv τ = false → Covs ρ ι τ.tags → ∀ {x : τ.ty} {vs : List Value}, DenL ρ (τ.enc x) vs → DenL ι (τ.enc x) vs
  | .int _, _, _, _, _, ⟨v, r, e, h1, h2⟩ => ⟨v, r, e, h1, h2⟩
  | .bool, _, _, _, _, ⟨v, r, e, h1, h2⟩ => ⟨v, r, e, h1, h2⟩
  | .str, _, _, _, _, ⟨v, r, e, h1, h2⟩ => ⟨v, r, e, h1, h2⟩
  | .er, _, _, _, _, ⟨v, r, e, h1, h2⟩ => ⟨v, r, e, h1, h2⟩
  | .cv, h, _, _, _, _ => by cases h
  | .nil, _, _, _, _, h => h
  | .rf q t, _, hc, n, _, ⟨v, r, e, h1, h2⟩ => ⟨v, r, e, h1.imp (fun h => h) (fun ⟨m, id, i, g1, g2, g3, g4⟩ => by
    obtain ⟨id', i', k1, k2⟩ := hc t (by simp [TC.tags]) id i m v g2 g3
    exact ⟨m, id', i', g1, k1, k2, g4⟩), h2⟩
  | .pair a b, h, hc, x, vs, hd => by
    simp only [hasCv, Bool.or_eq_false_iff] at h
    obtain ⟨us, ws, e, h1, h2⟩ := DenL.split (cs := a.enc x.1) (ds := b.enc x.2) hd
    rw [e]
    exact (DenL.enc h.1 hc.left h1).app (DenL.enc h.2 hc.right h2)
theorem DenL.flat {ρ ι : List Info} {τ : TC} (h : hasCv τ = false) (hc : Covs ρ ι τ.tags) : ∀ {xs : List τ.ty} {vs : List Value}, DenL ρ (flat τ xs) vs → DenL ι (flat τ xs) vs
  | [], _, hd => hd
  | x :: xs, vs, hd => by
    obtain ⟨us, ws, e, h1, h2⟩ := DenL.split (cs := τ.enc x) (ds := Go.Proofs.Ythmicafabimfkaa.flat τ xs) hd
    rw [e]
    exact (DenL.enc h hc h1).app (DenL.flat h hc h2)
theorem entOk_cov {ρ ι : List Info} {κ : KK} {agg : Bool} {τ : TC} (h : hasCv τ = false) (hc : Covs ρ ι τ.tags) : ∀ {ts : List (κ.ty × Nat × τ.ty)} {es : List MapEntry}, EntOk ρ κ agg τ ts es → EntOk ι κ agg τ ts es
  | [], _, hd => hd
  | x :: ts, es, ⟨e, r, h1, h2, ⟨h3, h4⟩, h5⟩ => by
    refine ⟨e, r, h1, h2, ⟨h3, ?_⟩, entOk_cov (agg := agg) h hc h5⟩
    cases agg with
    | true => obtain ⟨vs, g1, g2⟩ := h4; exact ⟨vs, DenL.enc h hc g1, g2⟩
    | false =>
      obtain ⟨c, g1, g2⟩ := h4
      have := DenL.enc (ι := ι) h hc (x := x.2.2) (vs := [e.val]) (by
        have g1' : τ.enc x.2.2 = [c] := g1
        rw [g1']; exact ⟨e.val, [], rfl, g2, rfl⟩)
      have g1' : τ.enc x.2.2 = [c] := g1
      rw [g1'] at this
      obtain ⟨v, r', e', k1, _⟩ := this
      cases e'
      exact ⟨c, g1, k1⟩
theorem mapOk_cov {ρ ι : List Info} {κ : KK} {agg : Bool} {τ : TC} (h : hasCv τ = false) (hc : Covs ρ ι τ.tags) {ts : List (κ.ty × τ.ty)} {es : Array MapEntry} {cl : Nat} : MapOk ρ κ agg τ ts es cl → MapOk ι κ agg τ ts es cl
  | ⟨us, h1, h2⟩ => ⟨us, entOk_cov h hc h1, h2⟩
theorem Sg.dec_ok {g : Sg} {rn rn' : Rn} {cs r : List CV} {x : g.ty} (h : g.dec rn cs = some (x, rn', r)) : Le rn rn' ∧ ∀ (ρ ι : List Info) (vs : List Value), Agr rn' ρ ι → Covs ρ ι g.tags → DenL ρ cs vs → ∃ a b, vs = a ++ b ∧ DenL ι (g.enc same x) a ∧ DenL ρ r b := by
  cases g with
  | t τ =>
    simp only [Sg.dec] at h
    split at h
    · rename_i y s hy
      cases hb : hasCv τ with
      | true => rw [hb] at h; cases h
      | false =>
        rw [hb] at h
        cases h
        refine ⟨Le.refl _, fun ρ ι vs _ hcv hd => ?_⟩
        rw [TC.dec_enc τ _ _ _ hy] at hd
        obtain ⟨a, b, h1, h2, h3⟩ := hd.split
        exact ⟨a, b, h1, DenL.enc hb hcv h2, h3⟩
    · cases h
  | k κ =>
    simp only [Sg.dec] at h
    split at h
    · rename_i c s
      split at h
      · rename_i y rn2 hy
        cases h
        obtain ⟨h1, h2⟩ := Kd.dec_ok hy
        refine ⟨h1, fun ρ ι vs ha _ ⟨v, q, e, h3, h4⟩ => ⟨[v], q, by rw [e]; rfl, ⟨v, [], rfl, h2 ρ ι v ha h3, rfl⟩, h4⟩⟩
      · cases h
    · cases h
theorem gsDec_ok : ∀ {l : List Sg} {rn rn' : Rn} {cs : List CV} {x : gsTy l}, gsDec rn l cs = some (x, rn') → Le rn rn' ∧ ∀ (ρ ι : List Info) (vs : List Value), Agr rn' ρ ι → Covs ρ ι (gsTags l) → DenL ρ cs vs → DenL ι (gsEnc same l x) vs
  | [], rn, rn', cs, x, h => by
    simp only [gsDec] at h
    split at h
    · cases h; exact ⟨Le.refl _, fun ρ ι vs _ _ hd => hd⟩
    · cases h
  | g :: l, rn, rn', cs, x, h => by
    simp only [gsDec] at h
    split at h
    · rename_i y rn1 r hy
      split at h
      · rename_i z rn2 hz
        cases h
        obtain ⟨h1, h2⟩ := Sg.dec_ok hy
        obtain ⟨h3, h4⟩ := gsDec_ok hz
        refine ⟨h1.trans h3, fun ρ ι vs ha hcv hd => ?_⟩
        have hcv' : Covs ρ ι (g.tags ++ gsTags l) := hcv
        obtain ⟨a, b, e, h5, h6⟩ := h2 ρ ι vs (ha.of_le h3) hcv'.left hd
        rw [e, gsEnc_cons]
        exact h5.app (h4 ρ ι b ha hcv'.right h6)
      · cases h
    · cases h
theorem PK.dec_ok {p : PK} {rn rn' : Rn} {v : PV} {x : p.ty} (h : p.dec rn v = some (x, rn')) : Le rn rn' ∧ ∀ (ρ ι : List Info) (u : Value), Agr rn' ρ ι → Covs ρ ι p.tags → DenP ρ v u → DenP ι (p.enc same x) u := by
  cases p with
  | c g =>
    simp only [PK.dec] at h
    split at h
    · rename_i c
      split at h
      · rename_i y rn2 hy
        cases h
        obtain ⟨h1, h2⟩ := Sg.dec_ok hy
        refine ⟨h1, fun ρ ι u ha hcv hd => ?_⟩
        obtain ⟨a, b, e, h3, h4⟩ := h2 ρ ι [u] ha hcv ⟨u, [], rfl, hd, rfl⟩
        have : b = [] := h4
        subst this
        rw [List.append_nil] at e
        subst e
        cases g with
        | k κ =>
          obtain ⟨u', r', e', h5, h6⟩ := h3
          cases e'
          exact h5
        | t τ =>
          show Den ι (headC (τ.enc x)) u
          have h3' : DenL ι (τ.enc x) [u] := h3
          have hl := h3'.len
          match hg : τ.enc x, hl with
          | [c'], _ =>
            rw [hg] at h3'
            obtain ⟨u', r', e', h5, h6⟩ := h3'
            cases e'
            exact h5
      · cases h
    · cases h
  | ag l =>
    simp only [PK.dec] at h
    split at h
    · rename_i cs
      obtain ⟨h1, h2⟩ := gsDec_ok h
      exact ⟨h1, fun ρ ι u ha hcv ⟨vs, h3, h4⟩ => ⟨vs, h2 ρ ι vs ha hcv h3, h4⟩⟩
    · cases h
theorem slDec_ok {K : Slo} : ∀ {l : List (Nat × PK)} {rn rn' : Rn} {x : slTy l}, slDec rn K l = some (x, rn') → Le rn rn' ∧ ∀ (N : Nat) (D : List Deferred) (ρ ι : List Info) (a : Act), Agr rn' ρ ι → Covs ρ ι (slTags l) → KOk N D ρ K a → KOk N D ι (slEnc same l x) a
  | [], rn, rn', x, h => by
    simp only [slDec] at h
    cases h
    exact ⟨Le.refl _, fun N D ρ ι a _ _ hK => ⟨hK.1, hK.2.1, fun t p e => by cases e⟩⟩
  | p :: l, rn, rn', x, h => by
    simp only [slDec] at h
    split at h
    · rename_i y rn1 hy
      split at h
      · rename_i v hv
        split at h
        · rename_i z rn2 hz
          cases h
          obtain ⟨h1, h2⟩ := slDec_ok hy
          obtain ⟨h3, h4⟩ := PK.dec_ok hz
          refine ⟨h1.trans h3, fun N D ρ ι a ha hcv hK => ?_⟩
          have hcv' : Covs ρ ι (p.2.tags ++ slTags l) := hcv
          have hK1 := h2 N D ρ ι a (ha.of_le h3) hcv'.right hK
          refine ⟨hK.1, hK.2.1, fun t q e => ?_⟩
          rw [slEnc_cons, lkP_putP] at e
          split at e
          · rename_i et
            cases e
            obtain ⟨u, h5, h6⟩ := hK.2.2 _ _ hv
            rw [et]
            exact ⟨u, h4 ρ ι u ha hcv'.left h5, h6⟩
          · exact hK1.2.2 t q e
        · cases h
      · cases h
    · cases h
/-- A root that is another one, read anew. -/
def Tr (ρ ι : List Info) (x r : Root) : Prop := ∀ (w : World) (i : Info), RootOk ρ w i x → RootOk ι w i r ∧ (∀ b, own i r b → own i x b) ∧ (∀ b, foot i r b → foot i x b)
theorem RK.dec_ok {r : RK} {rn rn' : Rn} {x : Root} {y : r.ty} (h : r.dec rn x = some (y, rn')) : Le rn rn' ∧ ∀ (ρ ι : List Info), Agr rn' ρ ι → Covs ρ ι r.tags → Tr ρ ι x (r.enc same y) := by
  cases r with
  | dead =>
    cases h
    exact ⟨Le.refl _, fun ρ ι _ _ w i _ => ⟨trivial, fun b hb => (by cases hb), fun b hb => (by cases hb)⟩⟩
  | ro τ =>
    simp only [RK.dec] at h
    cases hc : hasCv τ with
    | true => rw [hc] at h; cases h
    | false =>
      rw [hc] at h
      simp only [cond_false] at h
      split at h
      · rename_i T τ' xs
        split at h
        · rename_i e
          cases h
          have e2 := tcEq_ok e
          subst e2
          refine ⟨Le.refl _, fun ρ ι _ hcv w i ⟨h0, h9, vs, h1, h2⟩ => ⟨⟨h0, vs, DenL.flat hc hcv h1, fun hp => ?_⟩, fun b hb => (by cases hb), fun b hb => ?_⟩⟩
          · have hp' : 0 < xs.length := hp
            rcases h2.2.2.2 with ⟨h3, _⟩ | ⟨g, o, cur, h3, h4, _⟩
            · have := h2.2.1; omega
            · refine ⟨g, o, h3, lt_of_block h4, fun j v hv => ?_⟩
              have h5 := h2
              rw [h3] at h5
              exact owns_cell h5 hv
          · have hb2 : foot i (.ro τ' xs) b := hb
            cases xs with
            | nil => cases hb2
            | cons z zs => exact hb2
        · cases h
      · rename_i τ' xs
        split at h
        · rename_i e
          cases h
          have e2 := tcEq_ok e
          subst e2
          refine ⟨Le.refl _, fun ρ ι _ hcv w i ⟨h0, vs, h1, h2⟩ => ⟨⟨h0, vs, DenL.flat hc hcv h1, h2⟩, fun b hb => (by cases hb), fun b hb => hb⟩⟩
        · cases h
      · cases h
  | rows T τ =>
    simp only [RK.dec] at h
    cases hc : hasCv τ with
    | true => rw [hc] at h; cases h
    | false =>
      rw [hc] at h
      simp only [cond_false] at h
      split at h
      · rename_i T' τ' xs
        cases hb : Nat.beq T T' with
        | false => rw [hb] at h; cases h
        | true =>
          rw [hb] at h
          have := Nat.eq_of_beq_eq_true hb
          subst this
          simp only [cond_true] at h
          split at h
          · rename_i e
            cases h
            have e2 := tcEq_ok e
            subst e2
            exact ⟨Le.refl _, fun ρ ι _ hcv w i ⟨h0, h9, vs, h1, h2⟩ => ⟨⟨h0, h9, vs, DenL.flat hc hcv h1, h2⟩, fun b hb => hb, fun b hb => hb⟩⟩
          · cases h
      · cases h
  | blk T l =>
    simp only [RK.dec] at h
    split at h
    · rename_i cs T'
      cases hb : Nat.beq T T' with
      | false => rw [hb] at h; cases h
      | true =>
        rw [hb] at h
        have := Nat.eq_of_beq_eq_true hb
        subst this
        simp only [cond_true] at h
        obtain ⟨h1, h2⟩ := gsDec_ok h
        exact ⟨h1, fun ρ ι ha hcv w i ⟨h0, b, vs, h3, h4, h5⟩ => ⟨⟨⟨h0.1, by rw [h0.2, ← h4.len, (h2 ρ ι vs ha hcv h4).len]⟩, b, vs, h3, h2 ρ ι vs ha hcv h4, h5⟩, fun b hb => hb, fun b hb => hb⟩⟩
    · cases h
  | clo f a b =>
    simp only [RK.dec] at h
    split at h
    · rename_i f' as bs
      cases hb : Nat.beq f f' with
      | false => rw [hb] at h; cases h
      | true =>
        rw [hb] at h
        have := Nat.eq_of_beq_eq_true hb
        subst this
        simp only [cond_true] at h
        split at h
        · rename_i y rn1 hy
          split at h
          · rename_i z rn2 hz
            cases h
            obtain ⟨h1, h2⟩ := gsDec_ok hy
            obtain ⟨h3, h4⟩ := gsDec_ok hz
            exact ⟨h1.trans h3, fun ρ ι ha hcv w i ⟨fs, cs, h5, h6, h7⟩ => by
              rw [clo_enc]
              exact ⟨⟨fs, cs, h2 ρ ι fs (ha.of_le h3) hcv.left h5, h4 ρ ι cs ha hcv.right h6, h7⟩, fun b hb => (by cases hb), fun b hb => (by cases hb)⟩⟩
          · cases h
        · cases h
    · cases h
  | mp k agg τ =>
    simp only [RK.dec] at h
    cases hc : hasCv τ with
    | true => rw [hc] at h; cases h
    | false =>
      rw [hc] at h
      simp only [cond_false] at h
      split at h
      · rename_i κ' agg' τ' ts
        cases hb : (agg == agg') with
        | false => rw [hb] at h; cases h
        | true =>
          rw [hb] at h
          simp only [beq_iff_eq] at hb
          subst hb
          simp only [cond_true] at h
          split at h
          · rename_i e0
            have e1 := kkEq_ok e0
            subst e1
            split at h
            · rename_i e
              cases h
              have e2 := tcEq_ok e
              subst e2
              exact ⟨Le.refl _, fun ρ ι _ hcv w i ⟨r, ents, clock, g1, g2, g3, g4⟩ => ⟨⟨r, ents, clock, g1, g2, g3, mapOk_cov hc hcv g4⟩, fun b hb => hb, fun b hb => hb⟩⟩
            · cases h
          · cases h
      · cases h
  | ars t T τ =>
    simp only [RK.dec] at h
    cases hc : hasCv τ with
    | true => rw [hc] at h; cases h
    | false =>
      rw [hc] at h
      simp only [cond_false] at h
      split at h
      · rename_i t' T' τ' os
        cases hb : (Nat.beq t t' && Nat.beq T T') with
        | false => rw [hb] at h; cases h
        | true =>
          rw [hb] at h
          simp only [Bool.and_eq_true] at hb
          have e1 := Nat.eq_of_beq_eq_true hb.1
          have e3 := Nat.eq_of_beq_eq_true hb.2
          subst e1; subst e3
          simp only [cond_true] at h
          split at h
          · rename_i e
            cases h
            have e2 := tcEq_ok e
            subst e2
            refine ⟨Le.refl _, fun ρ ι _ hcv w i hA => ⟨⟨hA.1, fun m v ob h1 h2 => ?_, hA.2.2⟩, fun b hb => hb, fun b hb => hb⟩⟩
            have h3 := hA.2.1 m v ob h1 h2
            have h2' : (Root.ars t T τ' os).obs[m]? = some ob := h2
            simp only [Root.obs, List.getElem?_map] at h2'
            obtain ⟨x, hx, e⟩ := Option.map_eq_some_iff.1 h2'
            cases x with
            | none => subst e; trivial
            | some xs => subst e; obtain ⟨a, c, k1, k2, vs, k3, k4⟩ := h3; exact ⟨a, c, k1, k2, vs, DenL.flat hc hcv k3, k4⟩
          · cases h
      · cases h
  | aro t T τ =>
    simp only [RK.dec] at h
    cases hc : hasCv τ with
    | true => rw [hc] at h; cases h
    | false =>
      rw [hc] at h
      simp only [cond_false] at h
      split at h
      · rename_i t' T' τ' os
        cases hb : (Nat.beq t t' && Nat.beq T T') with
        | false => rw [hb] at h; cases h
        | true =>
          rw [hb] at h
          simp only [Bool.and_eq_true] at hb
          have e1 := Nat.eq_of_beq_eq_true hb.1
          have e3 := Nat.eq_of_beq_eq_true hb.2
          subst e1; subst e3
          simp only [cond_true] at h
          split at h
          · rename_i e
            cases h
            have e2 := tcEq_ok e
            subst e2
            refine ⟨Le.refl _, fun ρ ι _ hcv w i hA => ⟨⟨hA.1, fun m v ob h1 h2 => ?_, hA.2.2⟩, fun b hb => hb, fun b hb => hb⟩⟩
            have h3 := hA.2.1 m v ob h1 h2
            have h2' : (Root.aro t T τ' os).obs[m]? = some ob := h2
            simp only [Root.obs, List.getElem?_map] at h2'
            obtain ⟨x, hx, e⟩ := Option.map_eq_some_iff.1 h2'
            subst e; obtain ⟨a, c, k1, k2, vs, k3, k4⟩ := h3; exact ⟨a, c, k1, k2, vs, DenL.flat hc hcv k3, k4⟩
          · cases h
      · cases h
  | arm t k agg τ =>
    simp only [RK.dec] at h
    cases hc : hasCv τ with
    | true => rw [hc] at h; cases h
    | false =>
      rw [hc] at h
      simp only [cond_false] at h
      split at h
      · rename_i t' κ' agg' τ' os
        cases hb : (Nat.beq t t' && (agg == agg')) with
        | false => rw [hb] at h; cases h
        | true =>
          rw [hb] at h
          simp only [Bool.and_eq_true, beq_iff_eq] at hb
          have e1 := Nat.eq_of_beq_eq_true hb.1
          have e4 := hb.2
          subst e1; subst e4
          simp only [cond_true] at h
          split at h
          · rename_i e0
            have e3 := kkEq_ok e0
            subst e3
            split at h
            · rename_i e
              cases h
              have e2 := tcEq_ok e
              subst e2
              refine ⟨Le.refl _, fun ρ ι _ hcv w i hA => ⟨⟨hA.1, fun m v ob h1 h2 => ?_, hA.2.2⟩, fun b hb => hb, fun b hb => hb⟩⟩
              have h3 := hA.2.1 m v ob h1 h2
              have h2' : (Root.arm t κ' agg τ' os).obs[m]? = some ob := h2
              simp only [Root.obs, List.getElem?_map] at h2'
              obtain ⟨x, hx, e⟩ := Option.map_eq_some_iff.1 h2'
              cases x with
              | none => subst e; trivial
              | some ts => subst e; obtain ⟨r, ents, cl, k1, k2, k3⟩ := h3; exact ⟨r, ents, cl, k1, k2, mapOk_cov hc hcv k3⟩
            · cases h
          · cases h
      · cases h
  | arr t τ =>
    simp only [RK.dec] at h
    cases hc : hasCv τ with
    | true => rw [hc] at h; cases h
    | false =>
      rw [hc] at h
      simp only [cond_false] at h
      split at h
      · rename_i t' τ' os
        cases hb : Nat.beq t t' with
        | false => rw [hb] at h; cases h
        | true =>
          rw [hb] at h
          have e1 := Nat.eq_of_beq_eq_true hb
          subst e1
          simp only [cond_true] at h
          split at h
          · rename_i e
            cases h
            have e2 := tcEq_ok e
            subst e2
            refine ⟨Le.refl _, fun ρ ι _ hcv w i hA => ⟨⟨hA.1, fun m v ob h1 h2 => ?_, hA.2.2⟩, fun b hb => hb, fun b hb => hb⟩⟩
            have h3 := hA.2.1 m v ob h1 h2
            have h2' : (Root.arr t τ' os).obs[m]? = some ob := h2
            simp only [Root.obs, List.getElem?_map] at h2'
            obtain ⟨x, hx, e⟩ := Option.map_eq_some_iff.1 h2'
            subst e; obtain ⟨a, c, k1, k2, k3, vs, k4, k5⟩ := h3; exact ⟨a, c, k1, k2, k3, vs, DenL.flat hc hcv k4, k5⟩
          · cases h
      · cases h
/-- A root that is read off as an arena is one. -/
theorem RK.dec_tag {r : RK} {rn rn' : Rn} {x : Root} {y : r.ty} (h : r.dec rn x = some (y, rn')) {t : Nat} (ht : r.tag = some t) : x.tag = some t := by
  cases r <;> first | (cases ht; done) | skip
  all_goals
    cases ht
    simp only [RK.dec] at h
    rename_i τ
    cases hc : hasCv τ with
    | true => rw [hc] at h; cases h
    | false =>
      rw [hc] at h
      simp only [cond_false] at h
      split at h
      · first
        | (generalize hq : (Nat.beq _ _ && _) = b at h
           cases b with
           | false => cases h
           | true =>
             simp only [Bool.and_eq_true] at hq
             have e1 := Nat.eq_of_beq_eq_true hq.1
             subst e1
             rfl)
        | (generalize hq : Nat.beq _ _ = b at h
           cases b with
           | false => cases h
           | true =>
             have e1 := Nat.eq_of_beq_eq_true hq
             subst e1
             rfl)
      · cases h
theorem RK.enc_tag {r : RK} {ids : Nat → Nat} {y : r.ty} : (r.enc ids y).tag = r.tag := by
  cases r <;> rfl
theorem RK.nil_ok {r : RK} {y : r.ty} (h : r.nil = some y) (ι : List Info) (w : World) : RootOk ι w nilI (r.enc same y) ∧ (∀ b, ¬ own nilI (r.enc same y) b) ∧ (∀ b, ¬ foot nilI (r.enc same y) b) := by
  cases r with
  | dead => exact ⟨trivial, fun b hb => hb, fun b hb => hb⟩
  | ro τ =>
    simp only [RK.nil] at h
    cases hc : hasCv τ with
    | true => rw [hc] at h; cases h
    | false => rw [hc] at h; cases h; exact ⟨⟨rfl, [], rfl, fun hp => absurd hp (Nat.lt_irrefl _)⟩, fun b hb => hb, fun b hb => hb⟩
  | rows T τ =>
    simp only [RK.nil] at h
    cases hc : hasCv τ with
    | true => rw [hc] at h; cases h
    | false =>
      rw [hc] at h
      simp only [cond_false] at h
      cases hz : Nat.beq τ.w 0 with
      | true => rw [hz] at h; cases h
      | false =>
        rw [hz] at h
        cases h
        have hw := Nat.ne_of_beq_eq_false hz
        exact ⟨⟨rfl, by omega, [], rfl, by simp, Nat.le_refl _, Nat.zero_le _, .inl ⟨rfl, fun b hb => by cases hb⟩⟩, fun b hb => (by cases hb), fun b hb => (by cases hb)⟩
  | _ => cases h
theorem RK.gone_ok {r : RK} {y : r.ty} (h : r.gone = some y) : r.enc same y = .dead := by
  cases r <;> first | rfl | cases h
theorem rsDec_ok {h : List Root} : ∀ {l : List RK} {rn rn' : Rn} {j0 : Nat} {y : rsTy l}, rsDec rn h l j0 = some (y, rn') → Le rn rn' ∧ ∀ (ρ ι : List Info), Agr rn' ρ ι → Covs ρ ι (rsTags l) → ∀ (q : Nat) (r : Root), (rsEnc same l y)[q]? = some r →
    r = .dead ∨ (∃ id x, rn'[j0 + q]? = some (some (some id)) ∧ h[id]? = some x ∧ Tr ρ ι x r) ∨ (rn'[j0 + q]? = some (some none) ∧ ∀ w, RootOk ι w nilI r ∧ (∀ b, ¬ own nilI r b) ∧ (∀ b, ¬ foot nilI r b))
  | [], rn, rn', j0, y, he => by
    cases he
    exact ⟨Le.refl _, fun ρ ι _ _ q r e => by simp [rsEnc] at e⟩
  | k :: l, rn, rn', j0, y, he => by
    simp only [rsDec] at he
    split at he
    · rename_i x rn1 hx
      split at he
      · rename_i z rn2 hz
        cases he
        obtain ⟨h3, h4⟩ := rsDec_ok hz
        have key : Le rn rn1 ∧ ∀ (ρ ι : List Info), Agr rn1 ρ ι → Covs ρ ι k.tags → (k.enc same x = .dead ∨ (∃ id x0, rn1[j0]? = some (some (some id)) ∧ h[id]? = some x0 ∧ Tr ρ ι x0 (k.enc same x)) ∨ (rn1[j0]? = some (some none) ∧ ∀ w, RootOk ι w nilI (k.enc same x) ∧ (∀ b, ¬ own nilI (k.enc same x) b) ∧ (∀ b, ¬ foot nilI (k.enc same x) b))) := by
          split at hx
          · rename_i id hj
            split at hx
            · rename_i x0 h0
              obtain ⟨h5, h6⟩ := RK.dec_ok hx
              exact ⟨h5, fun ρ ι ha hcv => .inr (.inl ⟨id, x0, h5.2 _ _ hj, h0, h6 ρ ι ha hcv⟩)⟩
            · cases hx
          · rename_i hj
            split at hx
            · rename_i x0 h0
              cases hx
              exact ⟨Le.refl _, fun ρ ι _ _ => .inr (.inr ⟨hj, RK.nil_ok h0 ι⟩)⟩
            · cases hx
          · split at hx
            · rename_i x0 h0
              cases hx
              exact ⟨Le.refl _, fun ρ ι _ _ => .inl (RK.gone_ok h0)⟩
            · cases hx
        refine ⟨key.1.trans h3, fun ρ ι ha hcv q r e => ?_⟩
        have hcv' : Covs ρ ι (k.tags ++ rsTags l) := hcv
        cases q with
        | zero =>
          rw [rsEnc_cons] at e
          simp only [List.getElem?_cons_zero, Option.some.injEq] at e
          subst e
          rcases key.2 ρ ι (ha.of_le h3) hcv'.left with h5 | ⟨id, x0, h5, h6, h7⟩ | ⟨h5, h6⟩
          · exact .inl h5
          · exact .inr (.inl ⟨id, x0, h3.2 _ _ h5, h6, h7⟩)
          · exact .inr (.inr ⟨h3.2 _ _ h5, h6⟩)
        | succ q =>
          rw [rsEnc_cons] at e
          simp only [List.getElem?_cons_succ] at e
          have := h4 ρ ι ha hcv'.right q r e
          rw [show j0 + 1 + q = j0 + (q + 1) by omega] at this
          exact this
      · cases he
    · cases he
theorem idIn_ok {id : Nat} : ∀ {rn : Rn} {q : Nat}, rn[q]? = some (some (some id)) → idIn id rn = true
  | [], q, h => by simp at h
  | x :: rn, 0, h => by
    simp only [List.getElem?_cons_zero, Option.some.injEq] at h
    subst h
    simp [idIn, Nat.beq_refl]
  | x :: rn, q + 1, h => by
    simp only [List.getElem?_cons_succ] at h
    simp [idIn, idIn_ok h]
theorem nodupR_ok : ∀ {rn : Rn}, nodupR rn = true → ∀ {p q id : Nat}, rn[p]? = some (some (some id)) → rn[q]? = some (some (some id)) → p = q
  | [], _, p, q, id, h1, _ => by simp at h1
  | x :: rn, hn, p, q, id, h1, h2 => by
    simp only [nodupR, Bool.and_eq_true] at hn
    have no : ∀ q : Nat, x = some (some id) → rn[q]? = some (some (some id)) → False := by
      intro q e hq
      subst e
      have := hn.1
      simp only [Bool.not_eq_true'] at this
      rw [idIn_ok hq] at this
      cases this
    cases p with
    | zero =>
      simp only [List.getElem?_cons_zero, Option.some.injEq] at h1
      cases q with
      | zero => rfl
      | succ q => simp only [List.getElem?_cons_succ] at h2; exact (no q h1 h2).elim
    | succ p =>
      simp only [List.getElem?_cons_succ] at h1
      cases q with
      | zero => simp only [List.getElem?_cons_zero, Option.some.injEq] at h2; exact (no p h2 h1).elim
      | succ q =>
        simp only [List.getElem?_cons_succ] at h2
        rw [nodupR_ok hn.2 h1 h2]
theorem liveR_get : ∀ {l : List RK} {rn : Rn} {p : Nat} {k : RK} {x : Option (Option Nat)}, l[p]? = some k → k ≠ .dead → rn[p]? = some x → (liveR l rn)[p]? = some x
  | [], _, _, _, _, h, _, _ => by simp at h
  | _ :: _, [], _, _, _, _, _, h => by simp at h
  | k0 :: l, x0 :: rn, 0, k, x, h1, h2, h3 => by
    simp only [List.getElem?_cons_zero, Option.some.injEq] at h1 h3
    subst h1; subst h3
    simp only [liveR, List.getElem?_cons_zero]
  | k0 :: l, x0 :: rn, p + 1, k, x, h1, h2, h3 => by
    simp only [liveR, List.getElem?_cons_succ] at *
    exact liveR_get h1 h2 h3
theorem rsEnc_get0 {ids : Nat → Nat} : ∀ {l : List RK} {y : rsTy l} {q : Nat} {r : Root}, (rsEnc ids l y)[q]? = some r → ∃ k, l[q]? = some k ∧ ∃ y : k.ty, r = k.enc ids y
  | [], _, q, r, h => by simp [rsEnc] at h
  | k :: l, y, 0, r, h => by
    simp only [rsEnc, List.getElem?_cons_zero, Option.some.injEq] at h
    exact ⟨k, rfl, _, h.symm⟩
  | k :: l, y, q + 1, r, h => by
    simp only [rsEnc, List.getElem?_cons_succ] at h
    obtain ⟨k', h1, h2⟩ := rsEnc_get0 h
    exact ⟨k', by simpa using h1, h2⟩
theorem rsEnc_len (ids : Nat → Nat) : ∀ (l : List RK) (y : rsTy l), (rsEnc ids l y).length = l.length
  | [], _ => rfl
  | r :: l, y => by simp [rsEnc, rsEnc_len ids l]
/-- An arena that was read off was found. -/
theorem rsDec_tag {h : List Root} : ∀ {l : List RK} {rn rn' : Rn} {j0 : Nat} {y : rsTy l}, rsDec rn h l j0 = some (y, rn') → ∀ (q : Nat) (k : RK) (t : Nat), l[q]? = some k → k.tag = some t → ∃ id x, rn'[j0 + q]? = some (some (some id)) ∧ h[id]? = some x ∧ x.tag = some t
  | [], rn, rn', j0, y, he => fun q k t e => by simp at e
  | k0 :: l, rn, rn', j0, y, he => by
    simp only [rsDec] at he
    split at he
    · rename_i x rn1 hx
      split at he
      · rename_i z rn2 hz
        cases he
        have hle := (rsDec_ok hz).1
        intro q k t e ht
        cases q with
        | zero =>
          simp only [List.getElem?_cons_zero, Option.some.injEq] at e
          subst e
          split at hx
          · rename_i id hj
            split at hx
            · rename_i x0 h0
              have h5 := (RK.dec_ok hx).1
              exact ⟨id, x0, hle.2 _ _ (h5.2 _ _ hj), h0, RK.dec_tag hx ht⟩
            · cases hx
          · split at hx
            · rename_i x0 h0
              cases k0 <;> first | (cases ht; done) | cases h0
            · cases hx
          · split at hx
            · rename_i x0 h0
              cases k0 <;> first | (cases ht; done) | cases h0
            · cases hx
        | succ q =>
          obtain ⟨id, x0, g1, g2⟩ := rsDec_tag hz q k t (by simpa using e) ht
          exact ⟨id, x0, by rw [show j0 + (q + 1) = j0 + 1 + q by omega]; exact g1, g2⟩
      · cases he
    · cases he
theorem tagsIn_ok {ts : List Nat} {l : List RK} (h : tagsIn ts l = true) {t : Nat} (ht : t ∈ ts) : ∃ (q : Nat) (k : RK), l[q]? = some k ∧ k.tag = some t := by
  unfold tagsIn at h
  rw [List.all_eq_true] at h
  obtain ⟨k, hk, hb⟩ := List.any_eq_true.1 (h t ht)
  obtain ⟨q, hq⟩ := List.getElem?_of_mem hk
  refine ⟨q, k, hq, ?_⟩
  split at hb
  · rename_i t' ht'; rw [ht', Nat.eq_of_beq_eq_true hb]
  · cases hb
theorem rs_cov {l : List RK} {rn rn' : Rn} {h : List Root} {z : rsTy l} (hz : rsDec rn h l 0 = some (z, rn')) {ts : List Nat} (ht : tagsIn ts l = true) {S F : List Nat} {W0 : World} {ρ : List Info} {w : World} (hh : HOk S F W0 ρ h w) : Covs ρ (mkI rn' ρ) ts := by
  intro t hm id i m v hi hv
  obtain ⟨q, k, h1, h2⟩ := tagsIn_ok ht hm
  obtain ⟨p, x, h3, h4, h5⟩ := rsDec_tag hz q k t h1 h2
  rw [Nat.zero_add] at h3
  obtain ⟨ip, hip⟩ := hh.info h4
  exact ⟨q, ip, by rw [((Agr.mk rn' ρ) q).1 p h3, hip]; rfl, hh.cov p t x ip h4 hip h5 id i m v hi hv⟩
theorem nilI_objs (t : Nat) : nilI.objs t = [] := rfl
theorem Cln.of {i : Info} {x r : Root} (hc : Cln i x) (hx : x ≠ .dead) (ht : x.tag = r.tag) : Cln i r := by
  rcases hc with g | g
  · exact absurd g hx
  · exact .inr fun t h => g t (by rw [ht]; exact h)
theorem RK.dec_cln {rn rn' : Rn} {k : RK} {x : Root} {y : k.ty} (h : k.dec rn x = some (y, rn')) {i : Info} (hc : Cln i x) : Cln i (k.enc same y) := by
  cases ht : k.tag with
  | some t =>
    have h1 := RK.dec_tag h ht
    exact hc.of (fun e => by rw [e] at h1; cases h1) (by rw [RK.enc_tag, ht, h1])
  | none =>
    refine (?_ : k = .dead ∨ (x ≠ .dead ∧ x.tag = none)).elim (fun e => by subst e; exact .inl rfl) (fun e => hc.of e.1 (by rw [RK.enc_tag, ht, e.2]))
    cases k <;> first | (cases ht; done) | (exact .inl rfl) | skip
    all_goals
      right
      simp only [RK.dec] at h
      cases x <;> first | exact ⟨fun e => Root.noConfusion e, rfl⟩ | (exfalso; revert h; first | (intro h; cases h; done) | (cases hasCv _ <;> intro h <;> cases h))
theorem rsDec_cln {h : List Root} : ∀ {l : List RK} {rn rn' : Rn} {j0 : Nat} {y : rsTy l}, rsDec rn h l j0 = some (y, rn') → ∀ (q : Nat) (r : Root), (rsEnc same l y)[q]? = some r → r = .dead ∨ (∃ id x, rn'[j0 + q]? = some (some (some id)) ∧ h[id]? = some x ∧ ∀ i, Cln i x → Cln i r) ∨ rn'[j0 + q]? = some (some none)
  | [], rn, rn', j0, y, he => fun q r e => by simp [rsEnc] at e
  | k :: l, rn, rn', j0, y, he => by
    simp only [rsDec] at he
    split at he
    · rename_i x rn1 hx
      split at he
      · rename_i z rn2 hz
        cases he
        have hle := (rsDec_ok hz).1
        intro q r e
        cases q with
        | zero =>
          rw [rsEnc_cons] at e
          simp only [List.getElem?_cons_zero, Option.some.injEq] at e
          subst e
          split at hx
          · rename_i id hj
            split at hx
            · rename_i x0 h0
              have h5 := (RK.dec_ok hx).1
              exact .inr (.inl ⟨id, x0, hle.2 _ _ (h5.2 _ _ hj), h0, fun i hi => RK.dec_cln hx hi⟩)
            · cases hx
          · rename_i hj
            split at hx
            · cases hx
              exact .inr (.inr (hle.2 _ _ hj))
            · cases hx
          · split at hx
            · rename_i x0 h0
              cases hx
              exact .inl (RK.gone_ok h0)
            · cases hx
        | succ q =>
          rw [rsEnc_cons] at e
          simp only [List.getElem?_cons_succ] at e
          rcases rsDec_cln hz q r e with g | ⟨id, x0, g1, g2⟩ | g
          · exact .inl g
          · exact .inr (.inl ⟨id, x0, by rw [show j0 + (q + 1) = j0 + 1 + q by omega]; exact g1, g2⟩)
          · exact .inr (.inr (by rw [show j0 + (q + 1) = j0 + 1 + q by omega]; exact g))
      · cases he
    · cases he
theorem mkI_src {rn : Rn} {ρ : List Info} {q : Nat} {j : Info} (h : (mkI rn ρ)[q]? = some j) : (∃ id : Nat, ρ[id]? = some j) ∨ j = nilI := by
  simp only [mkI, List.getElem?_map] at h
  obtain ⟨x, hx, e⟩ := Option.map_eq_some_iff.1 h
  split at e
  · rename_i id
    cases hr : ρ[id]? with
    | none => rw [hr] at e; exact .inr e.symm
    | some i => rw [hr] at e; exact .inl ⟨id, by rw [hr]; exact congrArg some e⟩
  · exact .inr e.symm
/-- Roots that are read off hold, with the infos of those that were found. -/
theorem rs_hok {l : List RK} {rn rn' : Rn} {h : List Root} {z : rsTy l} (hz : rsDec rn h l 0 = some (z, rn')) (hn : nodupR (liveR l rn') = true) (hl : rn'.length = l.length) (htg : tagsIn (rsTags l) l = true) {S F : List Nat} {W0 : World} {ρ : List Info} {w : World} (hh : HOk S F W0 ρ h w) : HOk S F W0 (mkI rn' ρ) (rsEnc same l z) w := by
  obtain ⟨h3, h4⟩ := rsDec_ok hz
  have ha := Agr.mk rn' ρ
  have h5 := h4 ρ _ ha (rs_cov hz htg hh)
  have get : ∀ (q id : Nat) (i : Info) (x : Root), rn'[q]? = some (some (some id)) → h[id]? = some x → (mkI rn' ρ)[q]? = some i → ρ[id]? = some i := by
    intro q id i x e1 e2 e3
    obtain ⟨i0, e4⟩ := hh.info e2
    rw [(ha q).1 id e1, e4] at e3
    rw [e4, ← e3]; rfl
  have getn : ∀ (q : Nat) (i : Info), rn'[q]? = some (some none) → (mkI rn' ρ)[q]? = some i → i = nilI := by
    intro q i e1 e3
    rw [(ha q).2 e1] at e3
    cases e3; rfl
  refine ⟨hh.ext, by rw [rsEnc_len]; simp [mkI, hl], fun q r i hr hi => ?_, fun p q r s i j b hpq hr hs hi hj ho => ?_, fun q r i b hr hi ho => ?_, fun q r i b hr hi ho => ?_, hh.lay, hh.out, fun q t r i hr hi ht id j m v hj hv => ?_, fun q r i hr hi => ?_⟩
  rotate_right
  · rcases rsDec_cln hz q r hr with g | ⟨id, x, g1, g2, g3⟩ | g
    · exact .inl g
    · rw [Nat.zero_add] at g1
      have gi := get q id i x g1 g2 hi
      exact g3 i (hh.cln id x i g2 gi)
    · rw [Nat.zero_add] at g
      rw [getn q i g hi]
      exact .inr fun t _ => nilI_objs t
  rotate_right
  · rcases h5 q r hr with rfl | ⟨id0, x0, g1, g2, g3⟩ | ⟨g1, g2⟩
    · cases ht
    · rw [Nat.zero_add] at g1
      have gi := get q id0 i x0 g1 g2 hi
      obtain ⟨k, hk, hkt⟩ : ∃ k, l[q]? = some k ∧ k.tag = some t := by
        obtain ⟨k, hk, hkr⟩ := rsEnc_get0 hr
        obtain ⟨y, rfl⟩ := hkr
        exact ⟨k, hk, by rw [← ht, RK.enc_tag]⟩
      obtain ⟨id1, x1, k1, k2, k3⟩ := rsDec_tag hz q k t hk hkt
      rw [Nat.zero_add, g1] at k1
      cases k1
      rw [g2] at k2
      cases k2
      obtain ⟨jd, hj2⟩ | hj2 := mkI_src hj
      · exact hh.cov id0 t x0 i g2 gi k3 jd j m v hj2 hv
      · rw [hj2, nilI_objs] at hv; simp at hv
    · rw [Nat.zero_add] at g1
      obtain ⟨k, hk, hkt⟩ : ∃ k, l[q]? = some k ∧ k.tag = some t := by
        obtain ⟨k, hk, hkr⟩ := rsEnc_get0 hr
        obtain ⟨y, rfl⟩ := hkr
        exact ⟨k, hk, by rw [← ht, RK.enc_tag]⟩
      obtain ⟨id1, x1, k1, k2, k3⟩ := rsDec_tag hz q k t hk hkt
      rw [Nat.zero_add, g1] at k1
      cases k1
  · rcases h5 q r hr with rfl | ⟨id, x0, g1, g2, g3⟩ | ⟨g1, g2⟩
    · trivial
    · rw [Nat.zero_add] at g1
      exact (g3 w i (hh.ok id x0 i g2 (get q id i x0 g1 g2 hi))).1
    · rw [Nat.zero_add] at g1
      rw [getn q i g1 hi]
      exact (g2 w).1
  · rcases h5 p r hr with rfl | ⟨id, x0, g1, g2, g3⟩ | ⟨g1, g2⟩
    · cases ho
    · rw [Nat.zero_add] at g1
      have gi := get p id i x0 g1 g2 hi
      have go := (g3 w i (hh.ok id x0 i g2 gi)).2.1 b ho
      rcases h5 q s hs with rfl | ⟨id', x1, k1, k2, k3⟩ | ⟨k1, k2⟩
      · exact foot_dead
      · rw [Nat.zero_add] at k1
        have ki := get q id' j x1 k1 k2 hj
        intro hf
        have kf := (k3 w j (hh.ok id' x1 j k2 ki)).2.2 b hf
        refine hh.sep id id' x0 x1 i j b (fun e => ?_) g2 k2 gi ki go kf
        subst e
        obtain ⟨kp, hkp, yp, ep⟩ := rsEnc_get0 hr
        obtain ⟨kq, hkq, yq, eq⟩ := rsEnc_get0 hs
        exact hpq (nodupR_ok hn (liveR_get hkp (fun e => by subst e; rw [ep] at ho; cases ho) g1) (liveR_get hkq (fun e => by subst e; rw [eq] at hf; exact foot_dead hf) k1))
      · rw [Nat.zero_add] at k1
        rw [getn q j k1 hj]
        exact (k2 w).2.2 b
    · rw [Nat.zero_add] at g1
      rw [getn p i g1 hi] at ho
      exact absurd ho ((g2 w).2.1 b)
  · rcases h5 q r hr with rfl | ⟨id, x0, g1, g2, g3⟩ | ⟨g1, g2⟩
    · cases ho
    · rw [Nat.zero_add] at g1
      have gi := get q id i x0 g1 g2 hi
      exact hh.mine id x0 i b g2 gi ((g3 w i (hh.ok id x0 i g2 gi)).2.1 b ho)
    · rw [Nat.zero_add] at g1
      rw [getn q i g1 hi] at ho
      exact absurd ho ((g2 w).2.1 b)
  · rcases h5 q r hr with rfl | ⟨id, x0, g1, g2, g3⟩ | ⟨g1, g2⟩
    · exact absurd ho foot_dead
    · rw [Nat.zero_add] at g1
      have gi := get q id i x0 g1 g2 hi
      exact hh.near id x0 i b g2 gi ((g3 w i (hh.ok id x0 i g2 gi)).2.2 b ho)
    · rw [Nat.zero_add] at g1
      rw [getn q i g1 hi] at ho
      exact absurd ho ((g2 w).2.2 b)
theorem bindArs_ok {h : List Root} : ∀ {l : List RK} {j : Nat} {rn rn' : Rn}, bindArs h l j rn = some rn' → Le rn rn'
  | [], j, rn, rn', he => by cases he; exact Le.refl _
  | r :: l, j, rn, rn', he => by
    simp only [bindArs] at he
    split at he
    · exact bindArs_ok he
    · split at he
      · split at he
        · split at he
          · rename_i hb; exact (bindR_ok hb).1.trans (bindArs_ok he)
          · cases he
        · cases he
      · exact bindArs_ok he
      · cases he
/-- What is read off holds. -/
theorem Sch.decR_cov {s : Sch} {rn rn' : Rn} {K : Slo} {h : List Root} {x : s.ty} (hd : s.decR rn K h = some (x, rn')) {S F : List Nat} {W0 : World} {ρ : List Info} {w : World} (hh : HOk S F W0 ρ h w) {ts : List Nat} (ht : tagsIn ts s.roots = true) : Covs ρ (mkI rn' ρ) ts := by
  unfold Sch.decR at hd
  split at hd
  rotate_right
  · cases hd
  split at hd
  · split at hd
    · rename_i z rn2 hz
      generalize hb : (nodupR (liveR s.roots rn2) && Nat.beq rn2.length s.roots.length && tagsIn (slTags s.slots ++ rsTags s.roots) s.roots) = b at hd
      cases b with
      | false => cases hd
      | true => cases hd; exact rs_cov hz ht hh
    · cases hd
  · cases hd
theorem Sch.decR_ok {s : Sch} {rn rn' : Rn} {K : Slo} {h : List Root} {x : s.ty} (hd : s.decR rn K h = some (x, rn')) : Le rn rn' ∧ ∀ {N : Nat} {D : List Deferred} {S F : List Nat} {W0 : World} {ρ : List Info} {a : Act} {w : World}, KOk N D ρ K a → HOk S F W0 ρ h w →
    KOk N D (mkI rn' ρ) (slEnc same s.slots (s.a x)) a ∧ HOk S F W0 (mkI rn' ρ) (rsEnc same s.roots (s.b x)) w := by
  unfold Sch.decR at hd
  split at hd
  rotate_right
  · cases hd
  rename_i rn00 hb0
  have hle0 := bindArs_ok hb0
  split at hd
  · rename_i y rn1 hy
    split at hd
    · rename_i z rn2 hz
      cases hb : (nodupR (liveR s.roots rn2) && Nat.beq rn2.length s.roots.length && tagsIn (slTags s.slots ++ rsTags s.roots) s.roots) with
      | false => rw [hb] at hd; cases hd
      | true =>
        rw [hb] at hd
        cases hd
        simp only [Bool.and_eq_true] at hb
        obtain ⟨⟨hn, hl⟩, htg⟩ := hb
        obtain ⟨h1, h2⟩ := slDec_ok hy
        have h3 := (rsDec_ok hz).1
        exact ⟨hle0.trans (h1.trans h3), fun {N D S F W0 ρ a w} hK hh => by
          rw [Sch.enc_a, Sch.enc_b]
          have htg2 : tagsIn (rsTags s.roots) s.roots = true := by
            unfold tagsIn at htg ⊢
            rw [List.all_append, Bool.and_eq_true] at htg
            exact htg.2
          exact ⟨h2 N D ρ _ a ((Agr.mk rn' ρ).of_le h3) (rs_cov hz htg hh).left hK, rs_hok hz hn (Nat.eq_of_beq_eq_true hl) htg2 hh⟩⟩
    · cases hd
  · cases hd
end
end Go.Proofs.Ythmicafabimfkaa
