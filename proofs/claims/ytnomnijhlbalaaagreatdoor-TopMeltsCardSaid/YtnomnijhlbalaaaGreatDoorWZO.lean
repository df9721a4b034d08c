/- A part of the proof of the theorem of the last file. No condition. By an AI agent. -/
import Derived.Test.YtnomnijhlbalaaaGreatDoorWZN
namespace Go.Proofs.YtnomnijhlbalaaaGreatDoor
open Go.RowKit
section
variable {P : Program} {N : Nat} {D : List Deferred} {S F : List Nat} {W0 : World} {ρ : List Info} {K : Slo} {h : List Root} {w : World} {a : Act} {o : Oper}
def FOk (S F : List Nat) (W0 w : World) (f : List Root -> Nat -> Nat -> CV -> Option (CV × List Root × List Nat)) : Prop :=
 ∀ (ρ : List Info) (h : List Root) (q t : Nat) (c c' : CV) (h' : List Root) (T : List Nat) (v : Value), HOk S F W0 ρ h w -> Den ρ c v -> f h q t c = some (c', h', T) -> ∃ ρ', Gst ρ h ρ' h' T /\ HOk S F W0 ρ' h' w /\ Den ρ' c' v
theorem xEt {f : List Root -> Nat -> Nat -> CV -> Option (CV × List Root × List Nat)} (hf : FOk S F W0 w f) : ∀ (ls : List TC) (cs : List CV) (ρ : List Info) (h : List Root) (cs' : List CV) (h' : List Root) (T : List Nat) (vs : List Value), HOk S F W0 ρ h w -> DenL ρ cs vs -> xIO f h ls cs = some (cs', h', T) -> ∃ ρ', Gst ρ h ρ' h' T /\ HOk S F W0 ρ' h' w /\ DenL ρ' cs' vs
 | [], cs, ρ, h, cs', h', T, vs, hh, hd, hp => by
  simp only [xIO, Option.some.injEq, Prod.mk.injEq] at hp;obtain ⟨rfl, rfl, rfl⟩ := hp;exact ⟨ρ, Gst.refl hh.len, hh, hd⟩
 | l :: ls, [], ρ, h, cs', h', T, vs, hh, hd, hp => by
  have : some (([] : List CV), h, ([] : List Nat)) = some (cs', h', T) := by rw [<- hp]; cases l <;> rfl
  simp only [Option.some.injEq, Prod.mk.injEq] at this;obtain ⟨rfl, rfl, rfl⟩ := this;exact ⟨ρ, Gst.refl hh.len, hh, hd⟩
 | l :: ls, c :: cs, ρ, h, cs', h', T, vs, hh, ⟨v, r, e, hd1, hd2⟩, hp => by
  have plain : (match xIO f h ls cs with
    | some (cs', h2, t2) => some (c :: cs', h2, t2)
    | none => none) = some (cs', h', T) -> ∃ ρ', Gst ρ h ρ' h' T /\ HOk S F W0 ρ' h' w /\ DenL ρ' cs' vs := by
   intro hp;split at hp
   ·rename_i cs2 h2 t2 hq;simp only [Option.some.injEq, Prod.mk.injEq] at hp;obtain ⟨rfl, rfl, rfl⟩ := hp;obtain ⟨ρ', g1, g2, g3⟩ := xEt hf ls cs ρ h _ _ _ r hh hd2 hq;exact ⟨ρ', g1, g2, v, r, e, hd1.mono g1.pre, g3⟩
   ·cases hp
  cases l with
  | rf q t =>
   simp only [xIO] at hp;split at hp
   ·rename_i c1 h1 t1 hq1;split at hp
    ·rename_i cs2 h2 t2 hq2;simp only [Option.some.injEq, Prod.mk.injEq] at hp;obtain ⟨rfl, rfl, rfl⟩ := hp;obtain ⟨ρ1, g1, g2, g3⟩ := hf ρ h q t c c1 h1 t1 v hh hd1 hq1;obtain ⟨ρ2, g4, g5, g6⟩ := xEt hf ls cs ρ1 h1 _ _ _ r g2 (hd2.mono g1.pre) hq2;exact ⟨ρ2, g1.trans g4, g5, v, r, e, g3.mono g4.pre, g6⟩
    ·cases hp
   ·cases hp
  | _ => exact plain (by simp only [xIO] at hp; exact hp)
theorem xUO {T k : Nat} {aa : Option Addr} {cap n m : Nat} {vs : List Value} (hw : ownsAt w T k aa cap n vs) (hm : m <= n) : ownsAt w T k aa cap m (vs.take (m * k)) := by
 obtain ⟨k1, k2, k3, k4⟩ := hw;have hmk : m * k <= n * k := Nat.mul_le_mul_right _ hm;refine ⟨by rw [List.length_take, k1]; omega, by omega, k3, ?_⟩;rcases k4 with k4 | ⟨g, o, cur, k4, k5, k6, k7⟩
 ·exact .inl k4
 ·exact .inr ⟨g, o, cur, k4, k5, k6, by rw [<- k7, List.take_take, Nat.min_eq_left hmk]⟩
theorem xY9 {f : List Root -> Nat -> Nat -> CV -> Option (CV × List Root × List Nat)} (hf : FOk S F W0 w f) : FOk S F W0 w (pack1 f) := by
 intro ρ h q t c c' h' T v hh hd hp;unfold pack1 at hp;split at hp
 ·rename_i q' t' n
  cases hb : (Nat.beq q q' && Nat.beq t t') with
  | false => rw [hb] at hp; cases hp
  | true =>
   rw [hb] at hp;simp only [cond_true, Option.some.injEq, Prod.mk.injEq] at hp;obtain ⟨rfl, rfl, rfl⟩ := hp;exact ⟨ρ, Gst.refl hh.len, hh, hd⟩
 ·rename_i id k off;split at hp
  ·rename_i T0 τ xs p t2 T' τ' os hid har;split at hp
   ·rename_i e;have e' := xAD e;subst e'
    cases hb : (Nat.beq T0 T' && Nat.beq k τ.w && xZf t (xBB h p id)) with
    | false => rw [hb] at hp; cases hp
    | true =>
     rw [hb] at hp;simp only [Bool.and_eq_true] at hb;obtain ⟨⟨hb1, hb2⟩, hb3⟩ := hb;have hb1 := nbT hb1;subst hb1;simp only [cond_true, Option.some.injEq, Prod.mk.injEq] at hp;obtain ⟨rfl, rfl, rfl⟩ := hp;obtain ⟨p', hpp, hrr, ht⟩ := xAE har;rw [Nat.zero_add] at hpp; subst hpp;obtain ⟨ip, hip⟩ := hh.info hrr;obtain ⟨i, a', c', nn, h1, h2, h3, h4, h5, h6, ⟨m0, h7, h8⟩, h9, h9', h10, h11⟩ := hd;obtain ⟨g0, g1, vs, g2, g3⟩ := hh.ok id _ i hid h1;obtain ⟨m1, h12, h13⟩ := h6;rw [g0] at h12; cases h12;rw [g0] at h7; cases h7;have hlen : (xs.drop off).length = nn := by rw [List.length_drop]; omega
     have g4 := xIP g3 (off := off) (by omega) a' h9' h10 (by rw [<- nbT hb2]; exact h11);rw [<- h9, <- List.length_drop] at g4;have hne : p ≠ id := fun e => by rw [e, hid] at hrr; cases hrr
     cases ht;obtain ⟨ρ', q1, q2, i', q3, q4⟩ := grow hh hrr hip rfl hid h1 hne (r' := .ars t T0 τ (os ++ [some (xs.drop off)])) rfl (ob := .row T0 τ (xs.drop off)) (by simp [Root.obs]) (v := v) ⟨_, _, by rw [h2, hlen]; rfl, g1, vs.drop (off * τ.w), by rw [xDn]; exact g2.drop _, g4⟩ (fun b hb => by
      have : xIb v = some b := hb;rw [h2] at this;show i.a.map (·.block) = some b;rw [<- h9']; exact this) hb3
     refine ⟨ρ', q1, q2, .inr ⟨os.length, h.length, i', rfl, q3, ?_, _, _, _, h2⟩⟩;rw [<- q4]; simp [Root.obs]
   ·cases hp
  ·cases hp
 ·rename_i id k off m;split at hp
  ·rename_i T0 τ xs p t2 T' τ' os hid har;split at hp
   ·rename_i e;have e' := xAD e;subst e'
    cases hb : (Nat.beq T0 T' && Nat.beq k τ.w && xZf t (xBB h p id)) with
    | false => rw [hb] at hp; cases hp
    | true =>
     rw [hb] at hp;simp only [Bool.and_eq_true] at hb;obtain ⟨⟨hb1, hb2⟩, hb3⟩ := hb;have hb1 := nbT hb1;subst hb1;simp only [cond_true, Option.some.injEq, Prod.mk.injEq] at hp;obtain ⟨rfl, rfl, rfl⟩ := hp;obtain ⟨p', hpp, hrr, ht⟩ := xAE har;rw [Nat.zero_add] at hpp; subst hpp;obtain ⟨ip, hip⟩ := hh.info hrr;obtain ⟨i, a', c', nn, h1, h2, h3, h4, h5, h6, ⟨m0, h7, h8⟩, h9, h9', h10, h11⟩ := hd;obtain ⟨g0, g1, vs, g2, g3⟩ := hh.ok id _ i hid h1;rw [g0] at h7; cases h7;simp only [Info.cnt] at h6;subst h6;have hlen : ((xs.drop off).take nn).length = nn := by rw [List.length_take, List.length_drop]; omega
     have g4 := xIP g3 (off := off) (by omega) a' h9' h10 (by rw [<- nbT hb2]; exact h11);rw [<- h9] at g4;have hne : p ≠ id := fun e => by rw [e, hid] at hrr; cases hrr
     cases ht;obtain ⟨ρ', q1, q2, i', q3, q4⟩ := grow hh hrr hip rfl hid h1 hne (r' := .ars t T0 τ (os ++ [some ((xs.drop off).take nn)])) rfl (ob := .row T0 τ ((xs.drop off).take nn)) (by simp [Root.obs]) (v := v) ⟨_, _, by rw [h2, hlen]; rfl, g1, (vs.drop (off * τ.w)).take (nn * τ.w), by rw [xDm, xDn]; exact (g2.drop _).take _, by rw [hlen]; exact xUO g4 (by omega)⟩ (fun b hb => by
      have : xIb v = some b := hb;rw [h2] at this;show i.a.map (·.block) = some b;rw [<- h9']; exact this) hb3
     refine ⟨ρ', q1, q2, .inr ⟨os.length, h.length, i', rfl, q3, ?_, _, _, _, h2⟩⟩;rw [<- q4]; simp [Root.obs]
   ·cases hp
  ·cases hp
 ·rename_i id;split at hp
  ·rename_i cs T0 p0 t0 T00 τ0 os0 hid har;split at hp
   ·rename_i cs' h1 t1 hpk;split at hp
    ·rename_i cs2 T2 p t2 T' τ os hid1 har1;split at hp
     ·rename_i x hx
      cases hb : (Nat.beq T0 T' && Nat.ble 1 τ.w && xZf t (xBB h1 p id)) with
      | false => rw [hb] at hp; cases hp
      | true =>
       rw [hb] at hp;simp only [Bool.and_eq_true] at hb;obtain ⟨⟨hb1, hb2⟩, hb3⟩ := hb;have hb1 := nbT hb1;have hb2 := Nat.le_of_ble_eq_true hb2;subst hb1;simp only [cond_true, Option.some.injEq, Prod.mk.injEq] at hp;obtain ⟨rfl, rfl, rfl⟩ := hp;obtain ⟨i, b, off, d1, d2, _, d4⟩ := hd;obtain ⟨_, b', vs, d5, d6, d7⟩ := hh.ok id _ i hid d1;rw [d2] at d5; cases d5;obtain ⟨ρ1, g1, g2, g3⟩ := xEt hf _ _ ρ h _ _ _ vs hh d6 hpk;obtain ⟨p', hpp, hrr, ht⟩ := xAE har1;rw [Nat.zero_add] at hpp; subst hpp;obtain ⟨ip, hip⟩ := g2.info hrr;have hne : p ≠ id := fun e => by rw [e, hid1] at hrr; cases hrr
       cases ht;have hxe := TC.dec1_enc hx;have hvl : vs.length = τ.w := by rw [g3.len, hxe, τ.enc_len]
       have hfl : flat τ [x] = cs' := by simp [flat, hxe]
       have hv : v = .pointer (some ⟨b, 0, none⟩) := by simpa using d4
       obtain ⟨ρ', q1, q2, i', q3, q4⟩ := grow g2 hrr hip rfl hid1 (g1.pre _ _ d1) hne (r' := .aro t T0 τ (os ++ [x])) rfl (ob := .row T0 τ [x]) (by simp [Root.obs]) (v := v) ⟨some ⟨b, 0, none⟩, 1, by rw [hv]; rfl, hb2, vs, by rw [hfl]; exact g3, by simp [hvl], Nat.le_refl _, by unfold maxLen; omega, .inr ⟨b, 0, vs.toArray, rfl, d7, by simp [hvl], by simp [<- hvl]⟩⟩ (fun b' hb => by
        have : xIb v = some b' := hb;rw [hv] at this;show i.a.map (·.block) = some b';rw [d2]; exact this) hb3
       refine ⟨ρ', g1.trans q1, q2, .inr ⟨os.length, h1.length, i', rfl, q3, ?_, b, 0, hv⟩⟩;rw [<- q4]; simp [Root.obs]
     ·cases hp
    ·cases hp
   ·cases hp
  ·cases hp
 ·rename_i id;split at hp
  ·rename_i κ agg τ ts p t2 κ' agg' τ' os hid har;split at hp
   ·rename_i e0;have e0' := xCj e0;subst e0';split at hp;rotate_left
    ·cases hp
    rename_i e;have e' := xAD e;subst e'
    cases hb : ((agg == agg') && xZf t (xBB h p id)) with
    | false => rw [hb] at hp; cases hp
    | true =>
     rw [hb] at hp;simp only [Bool.and_eq_true, beq_iff_eq] at hb;obtain ⟨hb2, hb3⟩ := hb;subst hb2;simp only [cond_true, Option.some.injEq, Prod.mk.injEq] at hp;obtain ⟨rfl, rfl, rfl⟩ := hp;obtain ⟨p', hpp, hrr, ht⟩ := xAE har;rw [Nat.zero_add] at hpp; subst hpp;obtain ⟨ip, hip⟩ := hh.info hrr;obtain ⟨i, d1, d2, d3⟩ := hd;obtain ⟨r, ents, clock, g1, g2, g3, g4⟩ := hh.ok id _ i hid d1;have hv : v = .map (some r) := by rw [d2, g1]
     have hne : p ≠ id := fun e => by rw [e, hid] at hrr; cases hrr
     cases ht;obtain ⟨ρ', q1, q2, i', q3, q4⟩ := grow hh hrr hip rfl hid d1 hne (r' := .arm t κ agg τ (os ++ [some ts])) rfl (ob := .mp κ agg τ ts) (by simp [Root.obs]) (v := v) ⟨r, ents, clock, hv, g3, g4⟩ (fun b hb => by
      have : xIb v = some b := hb;rw [hv] at this;show i.a.map (·.block) = some b;rw [g2]; exact this) hb3
     refine ⟨ρ', q1, q2, .inr ⟨os.length, h.length, i', rfl, q3, ?_, r, hv⟩⟩;rw [<- q4]; simp [Root.obs]
   ·cases hp
  ·cases hp
 ·cases hb : rfC (nil1 q t c) with
  | false => rw [hb] at hp; cases hp
  | true =>
   rw [hb] at hp;simp only [cond_true, Option.some.injEq, Prod.mk.injEq] at hp;obtain ⟨rfl, rfl, rfl⟩ := hp;exact ⟨ρ, Gst.refl hh.len, hh, xU1 hd⟩
theorem xH1 : ∀ d : Nat, FOk S F W0 w (xUL d)
 | 0 => fun _ _ _ _ _ _ _ _ _ _ _ h => by cases h
 | d + 1 => xY9 (xH1 d)
theorem xHY {K : Slo} (hK : KOk N D ρ K a) {t : Nat} {p0 p : PV} {v : Value} (h0 : lkP K t = some p0) (hv : a.tmps[t]? = some v) (hd : DenP ρ p v) : KOk N D ρ (xDr K t p) a := by
 refine ⟨hK.1, hK.2.1, fun s q hq => ?_⟩;rw [xBq] at hq;split at hq
 ·rename_i e;subst e;cases hq;exact ⟨v, hd, hv⟩
 ·exact hK.2.2 s q hq
def yAp (S F : List Nat) (W0 : World) (N : Nat) (D : List Deferred) (ρ : List Info) (h : List Root) (w : World) (a : Act) : GhR -> Prop
 | some (g, K', h', T) => AllB g -> ∃ ρ', Gst ρ h ρ' h' T /\ KOk N D ρ' K' a /\ HOk S F W0 ρ' h' w
 | none => True
theorem xHI (hK : KOk N D ρ K a) (hh : HOk S F W0 ρ h w) : yAp S F W0 N D ρ h w a (some ([], K, h, [])) := fun _ => ⟨ρ, Gst.refl hh.len, hK, hh⟩
theorem ghP_ok (hK : KOk N D ρ K a) (hh : HOk S F W0 ρ h w) (ls : List TC) (x : Operand) : yAp S F W0 N D ρ h w a (ghP K h ls x) := by
 unfold ghP
 cases hb : ls.any isRf with
 | false => exact xHI hK hh
 | true =>
  simp only [cond_true];split
  ·rename_i t;split
   ·rename_i c hc;split
    ·rename_i c' h' T hp;intro _;obtain ⟨v, h1, h2⟩ := hK.2.2 t _ hc;obtain ⟨ρ', g1, g2, g3⟩ := xEt (xH1 4) ls [c] ρ h _ _ _ [v] hh ⟨v, [], rfl, h1, rfl⟩ hp;obtain ⟨u, r, e, g4, g5⟩ := g3;cases e;exact ⟨ρ', g1, xHY (hK.mono g1.pre) hc h2 g4, g2⟩
    ·trivial
   ·rename_i l hl;split
    ·rename_i l' h' T hp;intro _;obtain ⟨v, ⟨vs, h1, h1'⟩, h2⟩ := hK.2.2 t _ hl;obtain ⟨ρ', g1, g2, g3⟩ := xEt (xH1 4) ls l ρ h _ _ _ vs hh h1 hp;exact ⟨ρ', g1, xHY (hK.mono g1.pre) hl h2 ⟨vs, g3, h1'⟩, g2⟩
    ·trivial
   ·trivial
  ·exact xHI hK hh
theorem AllB.app {g1 g2 : List Bool} : AllB (g1 ++ g2) -> AllB g1 /\ AllB g2 := by
 induction g1 with
 | nil => intro h; exact ⟨trivial, h⟩
 | cons b g1 ih => intro h; exact ⟨⟨h.1, (ih h.2).1⟩, (ih h.2).2⟩
theorem xRE {x : GhR} {f : Slo -> List Root -> GhR} (hx : yAp S F W0 N D ρ h w a x) (hf : ∀ (ρ : List Info) (K : Slo) (h : List Root), KOk N D ρ K a -> HOk S F W0 ρ h w -> yAp S F W0 N D ρ h w a (f K h)) : yAp S F W0 N D ρ h w a (xZR x f) := by
 unfold xZR;split
 ·rename_i g1 K1 h1' t1;split
  ·rename_i g2 K2 h2 t2 he2;intro hg;obtain ⟨hg1, hg2⟩ := AllB.app hg;obtain ⟨ρ1, q1, q2, q3⟩ := hx hg1;have h2' := hf ρ1 K1 h1' q2 q3;rw [he2] at h2';obtain ⟨ρ2, q4, q5, q6⟩ := h2' hg2;exact ⟨ρ2, q1.trans q4, q5, q6⟩
  ·trivial
 ·trivial
theorem rtyP_ok (hK : KOk N D ρ K a) (hh : HOk S F W0 ρ h w) (t : TypeId) (x : Operand) : yAp S F W0 N D ρ h w a (rtyP P K h t x) := by
 unfold rtyP;split
 ·rename_i e hd
  cases hb : (xBv P 20 e).leaves.any isRf with
  | false => exact xHI hK hh
  | true =>
   simp only [cond_true];split
   ·rename_i s;split
    ·rename_i id k off n c hx;split
     ·rename_i T τ' ys hr
      cases hq : xFx τ' (xBv P 20 e) with
      | true => exact xHI hK hh
      | false =>
       simp only [cond_false];split
       ·rename_i cs h1 t1 hp;split
        ·rename_i T2 τ2 ys2 zs hr1 hz
         cases hwq : Nat.beq τ'.w (xBv P 20 e).w with
         | false => trivial
         | true =>
          have hwe := nbT hwq;intro _;obtain ⟨i, hi⟩ := hh.info hr;obtain ⟨g0, g1, vs, g2, g3⟩ := hh.ok id _ i hr hi;obtain ⟨ρ1, q1, q2, q3⟩ := xEt (xH1 4) _ _ ρ h _ _ _ vs hh g2 hp;obtain ⟨e1, e2⟩ := xEg hz;have hi1 := q1.pre _ _ hi;have hlt := (List.getElem?_eq_some_iff.1 hr).1;have hr2 : h1[id]? = some (.rows T τ' ys) := by
           rcases q1.old id _ hlt hr1 with hc | hc
           ·cases hc
           ·rw [hr1, <- hc, hr]
          have hok : RootOk (ρ1 ++ [i]) w i (.rows T (xBv P 20 e) zs) := ⟨by rw [e2]; exact g0, by rw [<- hwe]; exact g1, vs, by rw [<- e1]; exact q3.mono (Pre.app _ _), by rw [e2, <- hwe]; exact g3⟩;have hone : ∀ (j : Nat) (x : Info × Root), [(i, Root.rows T (xBv P 20 e) zs)][j]? = some x -> j = 0 /\ x = (i, Root.rows T (xBv P 20 e) zs) := by
           intro j x hx
           cases j with
           | zero => simp only [List.getElem?_cons_zero, Option.some.injEq] at hx; exact ⟨rfl, hx.symm⟩
           | succ j => simp at hx
          have hfoot : ∀ (j : Nat) (x : Info × Root), [(i, Root.rows T (xBv P 20 e) zs)][j]? = some x -> ∀ b, foot x.1 x.2 b -> ∃ q ∈ [id], ∃ r j, h1[q]? = some r /\ ρ1[q]? = some j /\ own j r b := by
           intro j x hx b hb;obtain ⟨_, rfl⟩ := hone j x hx;exact ⟨id, by simp, _, i, hr2, hi1, hb⟩
          have hgst := xE2 q2.len [id] _ hfoot;have hreg := q2.regroup [id] _ (fun j x hx => ⟨by obtain ⟨_, rfl⟩ := hone j x hx; exact hok, hfoot j x hx⟩) (fun j k x y b hjk hx hy => by
           obtain ⟨rfl, _⟩ := hone j x hx;obtain ⟨rfl, _⟩ := hone k y hy;exact absurd rfl hjk) (fun j t2 x hx ht2 => by
           obtain ⟨_, rfl⟩ := hone j x hx;cases ht2) (fun p2 t2 r2 i2 h2 hi2 hL ht2 j x m u hx hu => by
           obtain ⟨_, rfl⟩ := hone j x hx;exact q2.cov p2 t2 r2 i2 h2 hi2 ht2 id i m u hi1 hu) (fun j x hx => by
           obtain ⟨_, rfl⟩ := hone j x hx;rcases q2.cln id _ i hr2 hi1 with g | g
           ·cases g
           ·exact .inr g)
          obtain ⟨v, hv1, hv2⟩ := hK.2.2 s _ hx;refine ⟨_, q1.trans hgst, xHY (hK.mono (q1.pre.trans hgst.pre)) hx hv2 ?_, hreg⟩;obtain ⟨i', a', c', nn, d1, d2⟩ := hv1;rw [hi] at d1; cases d1;exact ⟨i, a', c', nn, by rw [<- q2.len]; simp, d2⟩
        ·trivial
       ·trivial
     ·exact xHI hK hh
    ·exact xHI hK hh
   ·exact xHI hK hh
 ·exact xHI hK hh
theorem xTx (hK : KOk N D ρ K a) (hh : HOk S F W0 ρ h w) (x : Operand) : yAp S F W0 N D ρ h w a (unpP K h x) := by
 unfold unpP;split
 ·rename_i s;split
  ·rename_i t n hs;split
   ·rename_i p t2 T τ os har
    cases hb : Nat.ble 1 τ.w with
    | false => trivial
    | true =>
     have hw := Nat.le_of_ble_eq_true hb;intro hg;obtain ⟨p', hpp, hrr, ht⟩ := xAE har;rw [Nat.zero_add] at hpp; subst hpp;obtain ⟨ip, hip⟩ := hh.info hrr;cases ht;have hA : ArOk ρ w (ip.objs t) (Root.ars t T τ os).obs := hh.ok p _ ip hrr hip;obtain ⟨v, hd, hv⟩ := hK.2.2 s _ hs
     have hkill : ∀ (m : Nat) (ob : Ob), (Root.ars t T τ (xAZ os n)).obs[m]? = some ob -> ob = .no \/ ((Root.ars t T τ os).obs[m]? = some ob /\ n ≠ m + 1) := by
      intro m ob hm
      cases n with
      | zero => exact .inr ⟨hm, by omega⟩
      | succ n =>
       simp only [Root.obs, xAZ, List.map_set] at hm;rw [List.getElem?_set] at hm;split at hm
       ·split at hm
        ·exact .inl (Option.some.inj hm).symm
        ·cases hm
       ·rename_i hne;exact .inr ⟨hm, by omega⟩
     have hklen : (Root.ars t T τ (xAZ os n)).obs.length = (Root.ars t T τ os).obs.length := by
      cases n <;> simp [Root.obs, xAZ]
     have hA' : ArOk ρ w (ip.objs t) (Root.ars t T τ (xAZ os n)).obs := by
      refine ⟨by rw [hklen]; exact hA.1, fun m u ob h1 h2 => ?_, fun m m' u u' ob ob' b hm h1 h2 h3 h4 h5 h6 => ?_⟩
      ·rcases hkill m ob h2 with rfl | ⟨h3, _⟩
       ·trivial
       ·exact hA.2.1 m u ob h1 h3
      ·rcases hkill m ob h3 with rfl | ⟨g3, _⟩
       ·cases h5
       ·rcases hkill m' ob' h4 with rfl | ⟨g4, _⟩
        ·cases h6
        ·exact hA.2.2 m m' u u' ob ob' b hm h1 h2 g3 g4 h5 h6
     have hsub : ∀ b, xCl (ip.objs t) (Root.ars t T τ (xAZ os n)).obs b -> own ip (.ars t T τ os) b := by
      rintro b ⟨m, u, ob, h1, h2, h3⟩
      rcases hkill m ob h2 with rfl | ⟨g3, _⟩
      ·cases h3
      ·exact ⟨m, u, ob, h1, g3, h3⟩
     have hrow : ∃ aa cc vs, v = .slice aa (rowAt os n).length cc /\ DenL ρ (flat τ (rowAt os n)) vs /\ ownsAt w T τ.w aa cc (rowAt os n).length vs /\ (∀ b, aa.map (·.block) = some b -> own ip (.ars t T τ os) b /\ ¬ xCl (ip.objs t) (Root.ars t T τ (xAZ os n)).obs b) := by
      rcases hd with ⟨h0, h1⟩ | ⟨m, id, i0, h1, h2, h3, a0, n0, c0, h4⟩
      ·subst h0;exact ⟨none, 0, [], h1, rfl, ⟨by simp [rowAt], by simp [rowAt], by unfold maxLen; omega, .inl ⟨rfl, fun b hb => by cases hb⟩⟩, fun b hb => by cases hb⟩
      ·have h7 := hh.cov p t _ ip hrr hip rfl id i0 m _ h2 h3;have hlive : ∃ xs, os[m]? = some (some xs) := by
        have := hg.1;rw [h1] at this;simp only [xA3] at this;split at this
        ·rename_i xs hx2; exact ⟨xs, hx2⟩
        ·cases this
       obtain ⟨xs, hos⟩ := hlive;have hob : (Root.ars t T τ os).obs[m]? = some (.row T τ xs) := by simp only [Root.obs, List.getElem?_map, hos, Option.map_some]
       obtain ⟨a1, c1, g1, g2, vs, g3, g4⟩ := hA.2.1 m _ _ h7 hob;rw [h4] at g1;simp only [hdr, Option.some.injEq, Prod.mk.injEq] at g1;obtain ⟨rfl, rfl, rfl⟩ := g1;have hxs : rowAt os n = xs := by rw [h1]; simp only [rowAt, hos]
       rw [hxs];have hvb : ∀ b, a0.map (·.block) = some b -> xC6 v (.row T τ xs) b := fun b hb => by show xIb v = some b; rw [h4]; exact hb
       refine ⟨a0, c0, vs, h4, g3, g4, fun b hb => ⟨⟨m, v, _, h7, hob, hvb b hb⟩, ?_⟩⟩
       rintro ⟨m', u, ob, q1, q2, q3⟩
       rcases hkill m' ob q2 with rfl | ⟨q4, q5⟩
       ·cases q3
       ·exact hA.2.2 m m' v u _ ob b (fun e => q5 (by rw [<- e]; exact h1)) h7 q1 hob q4 (hvb b hb) q3
     obtain ⟨aa, cc, vs, hv0, hvd, hvo, hvb⟩ := hrow;obtain ⟨ir, hir⟩ : ∃ ir : Info, ir = ⟨aa, cc, some (rowAt os n).length, .nilFunc⟩ := ⟨_, rfl⟩;have hiro : ∀ t, ir.objs t = [] := fun t => by subst hir; rfl
     have hNx : ∀ (j : Nat) (x : Info × Root), [(ip, Root.ars t T τ (xAZ os n)), (ir, Root.rows T τ (rowAt os n))][j]? = some x -> (j = 0 /\ x = (ip, Root.ars t T τ (xAZ os n))) \/ (j = 1 /\ x = (ir, Root.rows T τ (rowAt os n))) := by
      intro j x hx
      match j, hx with
      | 0, hx => simp only [List.getElem?_cons_zero, Option.some.injEq] at hx; exact .inl ⟨rfl, hx.symm⟩
      | 1, hx => simp only [List.getElem?_cons_succ, List.getElem?_cons_zero, Option.some.injEq] at hx; exact .inr ⟨rfl, hx.symm⟩
      | j + 2, hx => simp at hx
     have hfoot : ∀ (j : Nat) (x : Info × Root), [(ip, Root.ars t T τ (xAZ os n)), (ir, Root.rows T τ (rowAt os n))][j]? = some x -> ∀ b, foot x.1 x.2 b -> ∃ q ∈ [p], ∃ r i, h[q]? = some r /\ ρ[q]? = some i /\ own i r b := by
      intro j x hx b hb;rcases hNx j x hx with ⟨_, rfl⟩ | ⟨_, rfl⟩
      ·exact ⟨p, by simp, _, ip, hrr, hip, hsub b hb⟩
      ·have hb' : aa.map (·.block) = some b := by subst hir; exact hb
       exact ⟨p, by simp, _, ip, hrr, hip, (hvb b hb').1⟩
     have hgst := xE2 hh.len [p] _ hfoot;have hreg := hh.regroup [p] _ (fun j x hx => by
      refine ⟨?_, hfoot j x hx⟩;rcases hNx j x hx with ⟨_, rfl⟩ | ⟨_, rfl⟩
      ·exact ArOk.mono (Pre.app _ _) hA'
      ·subst hir;exact ⟨rfl, hw, vs, hvd.mono (Pre.app _ _), hvo⟩) (fun j k x y b hjk hx hy h1 h2 => by
      rcases hNx j x hx with ⟨rfl, rfl⟩ | ⟨rfl, rfl⟩
      ·rcases hNx k y hy with ⟨rfl, rfl⟩ | ⟨rfl, rfl⟩
       ·exact hjk rfl
       ·have h2' : aa.map (·.block) = some b := by subst hir; exact h2
        exact (hvb b h2').2 h1
      ·rcases hNx k y hy with ⟨rfl, rfl⟩ | ⟨rfl, rfl⟩
       ·have h1' : aa.map (·.block) = some b := by subst hir; exact h1
        exact (hvb b h1').2 h2
       ·exact hjk rfl) (fun j t2 x hx ht2 id i m u hi hu => by
      rcases hNx j x hx with ⟨rfl, rfl⟩ | ⟨rfl, rfl⟩
      ·have ht2' : t = t2 := Option.some.inj ht2;subst ht2';rcases Nat.lt_or_ge id ρ.length with hlt | hge
       ·rw [List.getElem?_append_left hlt] at hi;exact hh.cov p t _ ip hrr hip rfl id i m u hi hu
       ·rw [List.getElem?_append_right hge, List.getElem?_map] at hi;obtain ⟨x, hx, e1⟩ := Option.map_eq_some_iff.1 hi;rcases hNx _ x hx with ⟨_, rfl⟩ | ⟨_, rfl⟩
        ·subst e1; exact hu
        ·subst e1;dsimp only at hu;rw [hiro] at hu; simp at hu
      ·cases ht2) (fun p2 t2 r2 i2 h2 hi2 hL ht2 j x m u hx hu => by
      rcases hNx j x hx with ⟨rfl, rfl⟩ | ⟨rfl, rfl⟩
      ·exact hh.cov p2 t2 r2 i2 h2 hi2 ht2 p ip m u hip hu
      ·dsimp only at hu;rw [hiro] at hu; simp at hu) (fun j x hx => by
      rcases hNx j x hx with ⟨rfl, rfl⟩ | ⟨rfl, rfl⟩
      ·rcases hh.cln p _ ip hrr hip with g | g
       ·cases g
       ·exact .inr g
      ·exact .inr fun t _ => hiro t)
     refine ⟨_, hgst, xHY (hK.mono hgst.pre) hs hv ?_, hreg⟩;have hget : (ρ ++ [(ip, Root.ars t T τ (xAZ os n)), (ir, Root.rows T τ (rowAt os n))].map Prod.fst)[h.length + 1]? = some ir := by
      rw [List.getElem?_append_right (by rw [hh.len]; omega), hh.len]; simp
     refine ⟨ir, aa, cc, (rowAt os n).length, hget, hv0, hvo.2.1, hvo.2.2.1, fun hpos => ?_, ?_⟩
     ·subst hir;rcases hvo.2.2.2 with ⟨g5, _⟩ | ⟨g, og, cur, g5, _⟩
      ·have := hvo.2.1; omega
      ·exact ⟨g, og, g5⟩
     ·subst hir;refine ⟨⟨_, rfl, (Nat.sub_zero _).symm⟩, ⟨_, rfl, by omega⟩, (Nat.sub_zero _).symm, rfl, fun _ => rfl, fun _ => ?_⟩;cases aa <;> simp [Addr.add]
   ·trivial
  ·exact xHI hK hh
 ·exact xHI hK hh
theorem xTy : ∀ (l : List Nat) (ρ : List Info) (K : Slo) (h : List Root), KOk N D ρ K a -> HOk S F W0 ρ h w -> yAp S F W0 N D ρ h w a (unpL l K h)
 | [], _, _, _, hK, hh => xHI hK hh
 | t :: l, ρ, K, h, hK, hh => xRE (xTx hK hh _) (fun ρ K h hK hh => xTy l ρ K h hK hh)
theorem xZQ (hK : KOk N D ρ K a) (hh : HOk S F W0 ρ h w) : yAp S F W0 N D ρ h w a (ghost P K h o) := by
 unfold ghost
 repeat' split
 all_goals first | exact xHI hK hh | exact ghP_ok hK hh _ _ | exact xRE (rtyP_ok hK hh _ _) (fun _ _ _ hK hh => xTx hK hh _)
theorem xLH (hK : KOk N D ρ K a) (hh : HOk S F W0 ρ h w) : xEN P S F W0 ρ h w a o (stepM P K h o) := by
 unfold stepM;have hg := xZQ (P := P) (o := o) hK hh;split
 ·rename_i g K' h' T he;rw [he] at hg;split
  ·rename_i g' v h2 t hs;intro hgg;obtain ⟨hg1, hg2⟩ := AllB.app hgg;obtain ⟨ρ', q1, q2, q3⟩ := hg hg1;have := xM1 (P := P) (o := o) q2 q3;rw [hs] at this;exact MemOk.ghost q1 (this hg2)
  ·exact xM1 hK hh
 ·trivial
end
end Go.Proofs.YtnomnijhlbalaaaGreatDoor
