/- A part of the proof of the theorem of the last file. No condition. By an AI agent. -/
import Derived.Test.YtnomnijhlbalaaaGreatDoorWZN
import Derived.LoopN
namespace Go.Proofs.YtnomnijhlbalaaaGreatDoor
open Go.RowKit
section
variable {P : Program} {N : Nat} {D : List Deferred} {S F : List Nat} {W0 : World} {O : List Info} {K : Slo} {h : List Root} {w : World} {a : Act} {o : Oper}
def FOk (S F : List Nat) (W0 w : World) (f : List Root -> Nat -> Nat -> CV -> Option (CV × List Root × List Nat)) : Prop :=
 ∀ (O : List Info) (h : List Root) (q t : Nat) (c c' : CV) (h' : List Root) (T : List Nat) (v : Value), HOk S F W0 O h w -> Den O c v -> f h q t c = some (c', h', T) -> ∃ O', Gst O h O' h' T /\ HOk S F W0 O' h' w /\ Den O' c' v
theorem xEH {f : List Root -> Nat -> Nat -> CV -> Option (CV × List Root × List Nat)} (hf : FOk S F W0 w f) : ∀ (ls : List TC) (cs : List CV) (O : List Info) (h : List Root) (cs' : List CV) (h' : List Root) (T : List Nat) (vs : List Value), HOk S F W0 O h w -> DenL O cs vs -> xIl f h ls cs = some (cs', h', T) -> ∃ O', Gst O h O' h' T /\ HOk S F W0 O' h' w /\ DenL O' cs' vs
 | [], cs, O, h, cs', h', T, vs, hh, hd, hp => by
  simp only [xIl, Option.some.injEq, Prod.mk.injEq] at hp;obtain ⟨rfl, rfl, rfl⟩ := hp;exact ⟨O, Gst.refl hh.len, hh, hd⟩
 | l :: ls, [], O, h, cs', h', T, vs, hh, hd, hp => by
  have : some (([] : List CV), h, ([] : List Nat)) = some (cs', h', T) := by rw [<- hp]; cases l <;> rfl
  simp only [Option.some.injEq, Prod.mk.injEq] at this;obtain ⟨rfl, rfl, rfl⟩ := this;exact ⟨O, Gst.refl hh.len, hh, hd⟩
 | l :: ls, c :: cs, O, h, cs', h', T, vs, hh, ⟨v, r, e, hd1, hd2⟩, hp => by
  have plain : (match xIl f h ls cs with
    | some (cs', h2, t2) => some (c :: cs', h2, t2)
    | none => none) = some (cs', h', T) -> ∃ O', Gst O h O' h' T /\ HOk S F W0 O' h' w /\ DenL O' cs' vs := by
   intro hp;split at hp
   ·rename_i cs2 h2 t2 hq;simp only [Option.some.injEq, Prod.mk.injEq] at hp;obtain ⟨rfl, rfl, rfl⟩ := hp;obtain ⟨O', g1, g2, g3⟩ := xEH hf ls cs O h _ _ _ r hh hd2 hq;exact ⟨O', g1, g2, v, r, e, hd1.mono g1.pre, g3⟩
   ·cases hp
  cases l with
  | rf q t =>
   simp only [xIl] at hp;split at hp
   ·rename_i c1 h1 t1 hq1;split at hp
    ·rename_i cs2 h2 t2 hq2;simp only [Option.some.injEq, Prod.mk.injEq] at hp;obtain ⟨rfl, rfl, rfl⟩ := hp;obtain ⟨O1, g1, g2, g3⟩ := hf O h q t c c1 h1 t1 v hh hd1 hq1;obtain ⟨O2, g4, g5, g6⟩ := xEH hf ls cs O1 h1 _ _ _ r g2 (hd2.mono g1.pre) hq2;exact ⟨O2, g1.trans g4, g5, v, r, e, g3.mono g4.pre, g6⟩
    ·cases hp
   ·cases hp
  | _ => exact plain (by simp only [xIl] at hp; exact hp)
theorem xTA {T k : Nat} {aa : Option Addr} {cap n m : Nat} {vs : List Value} (hw : ownsAt w T k aa cap n vs) (hm : m <= n) : ownsAt w T k aa cap m (vs.take (m * k)) := by
 obtain ⟨k1, k2, k3, k4⟩ := hw;have hmk : m * k <= n * k := Nat.mul_le_mul_right _ hm;refine ⟨by rw [List.length_take, k1]; omega, by omega, k3, ?_⟩;rcases k4 with k4 | ⟨g, o, cur, k4, k5, k6, k7⟩
 ·exact .inl k4
 ·exact .inr ⟨g, o, cur, k4, k5, k6, by rw [<- k7, List.take_take, Nat.min_eq_left hmk]⟩
theorem xWX {f : List Root -> Nat -> Nat -> CV -> Option (CV × List Root × List Nat)} (hf : FOk S F W0 w f) : FOk S F W0 w (pack1 f) := by
 intro O h q t c c' h' T v hh hd hp;unfold pack1 at hp;split at hp
 ·rename_i q' t' n
  cases hb : (Nat.beq q q' && Nat.beq t t') with
  | false => rw [hb] at hp; cases hp
  | true =>
   rw [hb] at hp;simp only [cond_true, Option.some.injEq, Prod.mk.injEq] at hp;obtain ⟨rfl, rfl, rfl⟩ := hp;exact ⟨O, Gst.refl hh.len, hh, hd⟩
 ·rename_i id k off;split at hp
  ·rename_i T0 U xs p t2 T' U' os hid har;split at hp
   ·rename_i e;have e' := xAz e;subst e'
    cases hb : (Nat.beq T0 T' && Nat.beq k U.w && xW1 t (xBw h p id)) with
    | false => rw [hb] at hp; cases hp
    | true =>
     rw [hb] at hp;simp only [Bool.and_eq_true] at hb;obtain ⟨⟨hb1, hb2⟩, hb3⟩ := hb;have hb1 := nbT hb1;subst hb1;simp only [cond_true, Option.some.injEq, Prod.mk.injEq] at hp;obtain ⟨rfl, rfl, rfl⟩ := hp;obtain ⟨p', hpp, hrr, ht⟩ := xAA har;rw [Nat.zero_add] at hpp; subst hpp;obtain ⟨ip, hip⟩ := hh.info hrr;obtain ⟨i, a', c', nn, h1, h2, h3, h4, h5, h6, ⟨m0, h7, h8⟩, h9, h9', h10, h11⟩ := hd;obtain ⟨g0, g1, vs, g2, g3⟩ := hh.ok id _ i hid h1;obtain ⟨m1, h12, h13⟩ := h6;rw [g0] at h12; cases h12;rw [g0] at h7; cases h7;have hlen : (xs.drop off).length = nn := by rw [List.length_drop]; omega
     have g4 := xIm g3 (off := off) (by omega) a' h9' h10 (by rw [<- nbT hb2]; exact h11);rw [<- h9, <- List.length_drop] at g4;have hne : p ≠ id := fun e => by rw [e, hid] at hrr; cases hrr
     cases ht;obtain ⟨O', q1, q2, i', q3, q4⟩ := grow hh hrr hip rfl hid h1 hne (r' := .ars t T0 U (os ++ [some (xs.drop off)])) rfl (ob := .row T0 U (xs.drop off)) (by simp [Root.obs]) (v := v) ⟨_, _, by rw [h2, hlen]; rfl, g1, vs.drop (off * U.w), by rw [xDz]; exact g2.drop _, g4⟩ (fun b hb => by
      have : xHN v = some b := hb;rw [h2] at this;show i.a.map (·.block) = some b;rw [<- h9']; exact this) hb3
     refine ⟨O', q1, q2, .inr ⟨os.length, h.length, i', rfl, q3, ?_, _, _, _, h2⟩⟩;rw [<- q4]; simp [Root.obs]
   ·cases hp
  ·cases hp
 ·rename_i id k off m;split at hp
  ·rename_i T0 U xs p t2 T' U' os hid har;split at hp
   ·rename_i e;have e' := xAz e;subst e'
    cases hb : (Nat.beq T0 T' && Nat.beq k U.w && xW1 t (xBw h p id)) with
    | false => rw [hb] at hp; cases hp
    | true =>
     rw [hb] at hp;simp only [Bool.and_eq_true] at hb;obtain ⟨⟨hb1, hb2⟩, hb3⟩ := hb;have hb1 := nbT hb1;subst hb1;simp only [cond_true, Option.some.injEq, Prod.mk.injEq] at hp;obtain ⟨rfl, rfl, rfl⟩ := hp;obtain ⟨p', hpp, hrr, ht⟩ := xAA har;rw [Nat.zero_add] at hpp; subst hpp;obtain ⟨ip, hip⟩ := hh.info hrr;obtain ⟨i, a', c', nn, h1, h2, h3, h4, h5, h6, ⟨m0, h7, h8⟩, h9, h9', h10, h11⟩ := hd;obtain ⟨g0, g1, vs, g2, g3⟩ := hh.ok id _ i hid h1;rw [g0] at h7; cases h7;simp only [Info.cnt] at h6;subst h6;have hlen : ((xs.drop off).take nn).length = nn := by rw [List.length_take, List.length_drop]; omega
     have g4 := xIm g3 (off := off) (by omega) a' h9' h10 (by rw [<- nbT hb2]; exact h11);rw [<- h9] at g4;have hne : p ≠ id := fun e => by rw [e, hid] at hrr; cases hrr
     cases ht;obtain ⟨O', q1, q2, i', q3, q4⟩ := grow hh hrr hip rfl hid h1 hne (r' := .ars t T0 U (os ++ [some ((xs.drop off).take nn)])) rfl (ob := .row T0 U ((xs.drop off).take nn)) (by simp [Root.obs]) (v := v) ⟨_, _, by rw [h2, hlen]; rfl, g1, (vs.drop (off * U.w)).take (nn * U.w), by rw [xDy, xDz]; exact (g2.drop _).take _, by rw [hlen]; exact xTA g4 (by omega)⟩ (fun b hb => by
      have : xHN v = some b := hb;rw [h2] at this;show i.a.map (·.block) = some b;rw [<- h9']; exact this) hb3
     refine ⟨O', q1, q2, .inr ⟨os.length, h.length, i', rfl, q3, ?_, _, _, _, h2⟩⟩;rw [<- q4]; simp [Root.obs]
   ·cases hp
  ·cases hp
 ·rename_i id;split at hp
  ·rename_i cs T0 p0 t0 T00 U0 os0 hid har;split at hp
   ·rename_i cs' h1 t1 hpk;split at hp
    ·rename_i cs2 T2 p t2 T' U os hid1 har1;split at hp
     ·rename_i x hx
      cases hb : (Nat.beq T0 T' && Nat.ble 1 U.w && xW1 t (xBw h1 p id)) with
      | false => rw [hb] at hp; cases hp
      | true =>
       rw [hb] at hp;simp only [Bool.and_eq_true] at hb;obtain ⟨⟨hb1, hb2⟩, hb3⟩ := hb;have hb1 := nbT hb1;have hb2 := Nat.le_of_ble_eq_true hb2;subst hb1;simp only [cond_true, Option.some.injEq, Prod.mk.injEq] at hp;obtain ⟨rfl, rfl, rfl⟩ := hp;obtain ⟨i, b, off, d1, d2, _, d4⟩ := hd;obtain ⟨_, b', vs, d5, d6, d7⟩ := hh.ok id _ i hid d1;rw [d2] at d5; cases d5;obtain ⟨O1, g1, g2, g3⟩ := xEH hf _ _ O h _ _ _ vs hh d6 hpk;obtain ⟨p', hpp, hrr, ht⟩ := xAA har1;rw [Nat.zero_add] at hpp; subst hpp;obtain ⟨ip, hip⟩ := g2.info hrr;have hne : p ≠ id := fun e => by rw [e, hid1] at hrr; cases hrr
       cases ht;have hxe := TC.dec1_enc hx;have hvl : vs.length = U.w := by rw [g3.len, hxe, U.enc_len]
       have hfl : flat U [x] = cs' := by simp [flat, hxe]
       have hv : v = .pointer (some ⟨b, 0, none⟩) := by simpa using d4
       obtain ⟨O', q1, q2, i', q3, q4⟩ := grow g2 hrr hip rfl hid1 (g1.pre _ _ d1) hne (r' := .aro t T0 U (os ++ [x])) rfl (ob := .row T0 U [x]) (by simp [Root.obs]) (v := v) ⟨some ⟨b, 0, none⟩, 1, by rw [hv]; rfl, hb2, vs, by rw [hfl]; exact g3, by simp [hvl], Nat.le_refl _, by unfold maxLen; omega, .inr ⟨b, 0, vs.toArray, rfl, d7, by simp [hvl], by simp [<- hvl]⟩⟩ (fun b' hb => by
        have : xHN v = some b' := hb;rw [hv] at this;show i.a.map (·.block) = some b';rw [d2]; exact this) hb3
       refine ⟨O', g1.trans q1, q2, .inr ⟨os.length, h1.length, i', rfl, q3, ?_, b, 0, hv⟩⟩;rw [<- q4]; simp [Root.obs]
     ·cases hp
    ·cases hp
   ·cases hp
  ·cases hp
 ·rename_i id;split at hp
  ·rename_i V agg U ts p t2 V' agg' U' os hid har;split at hp
   ·rename_i e0;have e0' := xCq e0;subst e0';split at hp;rotate_left
    ·cases hp
    rename_i e;have e' := xAz e;subst e'
    cases hb : ((agg == agg') && xW1 t (xBw h p id)) with
    | false => rw [hb] at hp; cases hp
    | true =>
     rw [hb] at hp;simp only [Bool.and_eq_true, beq_iff_eq] at hb;obtain ⟨hb2, hb3⟩ := hb;subst hb2;simp only [cond_true, Option.some.injEq, Prod.mk.injEq] at hp;obtain ⟨rfl, rfl, rfl⟩ := hp;obtain ⟨p', hpp, hrr, ht⟩ := xAA har;rw [Nat.zero_add] at hpp; subst hpp;obtain ⟨ip, hip⟩ := hh.info hrr;obtain ⟨i, d1, d2, d3⟩ := hd;obtain ⟨r, ents, clock, g1, g2, g3, g4⟩ := hh.ok id _ i hid d1;have hv : v = .map (some r) := by rw [d2, g1]
     have hne : p ≠ id := fun e => by rw [e, hid] at hrr; cases hrr
     cases ht;obtain ⟨O', q1, q2, i', q3, q4⟩ := grow hh hrr hip rfl hid d1 hne (r' := .arm t V agg U (os ++ [some ts])) rfl (ob := .mp V agg U ts) (by simp [Root.obs]) (v := v) ⟨r, ents, clock, hv, g3, g4⟩ (fun b hb => by
      have : xHN v = some b := hb;rw [hv] at this;show i.a.map (·.block) = some b;rw [g2]; exact this) hb3
     refine ⟨O', q1, q2, .inr ⟨os.length, h.length, i', rfl, q3, ?_, r, hv⟩⟩;rw [<- q4]; simp [Root.obs]
   ·cases hp
  ·cases hp
 ·cases hb : rfC (nil1 q t c) with
  | false => rw [hb] at hp; cases hp
  | true =>
   rw [hb] at hp;simp only [cond_true, Option.some.injEq, Prod.mk.injEq] at hp;obtain ⟨rfl, rfl, rfl⟩ := hp;exact ⟨O, Gst.refl hh.len, hh, xTM hd⟩
theorem xHA : ∀ d : Nat, FOk S F W0 w (xTz d)
 | 0 => fun _ _ _ _ _ _ _ _ _ _ _ h => by cases h
 | d + 1 => xWX (xHA d)
theorem xHw {K : Slo} (hK : KOk N D O K a) {t : Nat} {p0 p : PV} {v : Value} (h0 : lkP K t = some p0) (hv : a.tmps[t]? = some v) (hd : DenP O p v) : KOk N D O (xDF K t p) a := by
 refine ⟨hK.1, hK.2.1, fun s q hq => ?_⟩;rw [xBj] at hq;split at hq
 ·rename_i e;subst e;cases hq;exact ⟨v, hd, hv⟩
 ·exact hK.2.2 s q hq
def xXY (S F : List Nat) (W0 : World) (N : Nat) (D : List Deferred) (O : List Info) (h : List Root) (w : World) (a : Act) : GhR -> Prop
 | some (g, K', h', T) => AllB g -> ∃ O', Gst O h O' h' T /\ KOk N D O' K' a /\ HOk S F W0 O' h' w
 | none => True
theorem xHi (hK : KOk N D O K a) (hh : HOk S F W0 O h w) : xXY S F W0 N D O h w a (some ([], K, h, [])) := fun _ => ⟨O, Gst.refl hh.len, hK, hh⟩
theorem ghP_ok (hK : KOk N D O K a) (hh : HOk S F W0 O h w) (ls : List TC) (x : Operand) : xXY S F W0 N D O h w a (ghP K h ls x) := by
 unfold ghP
 cases hb : ls.any isRf with
 | false => exact xHi hK hh
 | true =>
  simp only [cond_true];split
  ·rename_i t;split
   ·rename_i c hc;split
    ·rename_i c' h' T hp;intro _;obtain ⟨v, h1, h2⟩ := hK.2.2 t _ hc;obtain ⟨O', g1, g2, g3⟩ := xEH (xHA 4) ls [c] O h _ _ _ [v] hh ⟨v, [], rfl, h1, rfl⟩ hp;obtain ⟨u, r, e, g4, g5⟩ := g3;cases e;exact ⟨O', g1, xHw (hK.mono g1.pre) hc h2 g4, g2⟩
    ·trivial
   ·rename_i l hl;split
    ·rename_i l' h' T hp;intro _;obtain ⟨v, ⟨vs, h1, h1'⟩, h2⟩ := hK.2.2 t _ hl;obtain ⟨O', g1, g2, g3⟩ := xEH (xHA 4) ls l O h _ _ _ vs hh h1 hp;exact ⟨O', g1, xHw (hK.mono g1.pre) hl h2 ⟨vs, g3, h1'⟩, g2⟩
    ·trivial
   ·trivial
  ·exact xHi hK hh
theorem AllB.app {g1 g2 : List Bool} : AllB (g1 ++ g2) -> AllB g1 /\ AllB g2 := by
 induction g1 with
 | nil => intro h; exact ⟨trivial, h⟩
 | cons b g1 ih => intro h; exact ⟨⟨h.1, (ih h.2).1⟩, (ih h.2).2⟩
theorem xQh {x : GhR} {f : Slo -> List Root -> GhR} (hx : xXY S F W0 N D O h w a x) (hf : ∀ (O : List Info) (K : Slo) (h : List Root), KOk N D O K a -> HOk S F W0 O h w -> xXY S F W0 N D O h w a (f K h)) : xXY S F W0 N D O h w a (xXp x f) := by
 unfold xXp;split
 ·rename_i g1 K1 h1' t1;split
  ·rename_i g2 K2 h2 t2 he2;intro hg;obtain ⟨hg1, hg2⟩ := AllB.app hg;obtain ⟨O1, q1, q2, q3⟩ := hx hg1;have h2' := hf O1 K1 h1' q2 q3;rw [he2] at h2';obtain ⟨O2, q4, q5, q6⟩ := h2' hg2;exact ⟨O2, q1.trans q4, q5, q6⟩
  ·trivial
 ·trivial
theorem rtyP_ok (hK : KOk N D O K a) (hh : HOk S F W0 O h w) (t : TypeId) (x : Operand) : xXY S F W0 N D O h w a (rtyP P K h t x) := by
 unfold rtyP;split
 ·rename_i e hd
  cases hb : (xBs P 20 e).leaves.any isRf with
  | false => exact xHi hK hh
  | true =>
   simp only [cond_true];split
   ·rename_i s;split
    ·rename_i id k off n c hx;split
     ·rename_i T U' ys hr
      cases hq : xFv U' (xBs P 20 e) with
      | true => exact xHi hK hh
      | false =>
       simp only [cond_false];split
       ·rename_i cs h1 t1 hp;split
        ·rename_i T2 U2 ys2 zs hr1 hz
         cases hwq : Nat.beq U'.w (xBs P 20 e).w with
         | false => trivial
         | true =>
          have hwe := nbT hwq;intro _;obtain ⟨i, hi⟩ := hh.info hr;obtain ⟨g0, g1, vs, g2, g3⟩ := hh.ok id _ i hr hi;obtain ⟨O1, q1, q2, q3⟩ := xEH (xHA 4) _ _ O h _ _ _ vs hh g2 hp;obtain ⟨e1, e2⟩ := xEv hz;have hi1 := q1.pre _ _ hi;have hlt := (List.getElem?_eq_some_iff.1 hr).1;have hr2 : h1[id]? = some (.rows T U' ys) := by
           rcases q1.old id _ hlt hr1 with hc | hc
           ·cases hc
           ·rw [hr1, <- hc, hr]
          have hok : RootOk (O1 ++ [i]) w i (.rows T (xBs P 20 e) zs) := ⟨by rw [e2]; exact g0, by rw [<- hwe]; exact g1, vs, by rw [<- e1]; exact q3.mono (Pre.app _ _), by rw [e2, <- hwe]; exact g3⟩;have hone : ∀ (j : Nat) (x : Info × Root), [(i, Root.rows T (xBs P 20 e) zs)][j]? = some x -> j = 0 /\ x = (i, Root.rows T (xBs P 20 e) zs) := by
           intro j x hx
           cases j with
           | zero => simp only [List.getElem?_cons_zero, Option.some.injEq] at hx; exact ⟨rfl, hx.symm⟩
           | succ j => simp at hx
          have hfoot : ∀ (j : Nat) (x : Info × Root), [(i, Root.rows T (xBs P 20 e) zs)][j]? = some x -> ∀ b, foot x.1 x.2 b -> ∃ q ∈ [id], ∃ r j, h1[q]? = some r /\ O1[q]? = some j /\ own j r b := by
           intro j x hx b hb;obtain ⟨_, rfl⟩ := hone j x hx;exact ⟨id, by simp, _, i, hr2, hi1, hb⟩
          have hgst := xE8 q2.len [id] _ hfoot;have hreg := q2.regroup [id] _ (fun j x hx => ⟨by obtain ⟨_, rfl⟩ := hone j x hx; exact hok, hfoot j x hx⟩) (fun j k x y b hjk hx hy => by
           obtain ⟨rfl, _⟩ := hone j x hx;obtain ⟨rfl, _⟩ := hone k y hy;exact absurd rfl hjk) (fun j t2 x hx ht2 => by
           obtain ⟨_, rfl⟩ := hone j x hx;cases ht2) (fun p2 t2 r2 i2 h2 hi2 hL ht2 j x m u hx hu => by
           obtain ⟨_, rfl⟩ := hone j x hx;exact q2.cov p2 t2 r2 i2 h2 hi2 ht2 id i m u hi1 hu) (fun j x hx => by
           obtain ⟨_, rfl⟩ := hone j x hx;rcases q2.cln id _ i hr2 hi1 with g | g
           ·cases g
           ·exact .inr g)
          obtain ⟨v, hv1, hv2⟩ := hK.2.2 s _ hx;refine ⟨_, q1.trans hgst, xHw (hK.mono (q1.pre.trans hgst.pre)) hx hv2 ?_, hreg⟩;obtain ⟨i', a', c', nn, d1, d2⟩ := hv1;rw [hi] at d1; cases d1;exact ⟨i, a', c', nn, by rw [<- q2.len]; simp, d2⟩
        ·trivial
       ·trivial
     ·exact xHi hK hh
    ·exact xHi hK hh
   ·exact xHi hK hh
 ·exact xHi hK hh
theorem xR8 (hK : KOk N D O K a) (hh : HOk S F W0 O h w) (x : Operand) : xXY S F W0 N D O h w a (unpP K h x) := by
 unfold unpP;split
 ·rename_i s;split
  ·rename_i t n hs;split
   ·rename_i p t2 T U os har
    cases hb : Nat.ble 1 U.w with
    | false => trivial
    | true =>
     have hw := Nat.le_of_ble_eq_true hb;intro hg;obtain ⟨p', hpp, hrr, ht⟩ := xAA har;rw [Nat.zero_add] at hpp; subst hpp;obtain ⟨ip, hip⟩ := hh.info hrr;cases ht;have hA : ArOk O w (ip.objs t) (Root.ars t T U os).obs := hh.ok p _ ip hrr hip;obtain ⟨v, hd, hv⟩ := hK.2.2 s _ hs
     have hkill : ∀ (m : Nat) (ob : Ob), (Root.ars t T U (xD5 os n)).obs[m]? = some ob -> ob = .no \/ ((Root.ars t T U os).obs[m]? = some ob /\ n ≠ m + 1) := by
      intro m ob hm
      cases n with
      | zero => exact .inr ⟨hm, by omega⟩
      | succ n =>
       simp only [Root.obs, xD5, List.map_set] at hm;rw [List.getElem?_set] at hm;split at hm
       ·split at hm
        ·exact .inl (Option.some.inj hm).symm
        ·cases hm
       ·rename_i hne;exact .inr ⟨hm, by omega⟩
     have hklen : (Root.ars t T U (xD5 os n)).obs.length = (Root.ars t T U os).obs.length := by
      cases n <;> simp [Root.obs, xD5]
     have hA' : ArOk O w (ip.objs t) (Root.ars t T U (xD5 os n)).obs := by
      refine ⟨by rw [hklen]; exact hA.1, fun m u ob h1 h2 => ?_, fun m m' u u' ob ob' b hm h1 h2 h3 h4 h5 h6 => ?_⟩
      ·rcases hkill m ob h2 with rfl | ⟨h3, _⟩
       ·trivial
       ·exact hA.2.1 m u ob h1 h3
      ·rcases hkill m ob h3 with rfl | ⟨g3, _⟩
       ·cases h5
       ·rcases hkill m' ob' h4 with rfl | ⟨g4, _⟩
        ·cases h6
        ·exact hA.2.2 m m' u u' ob ob' b hm h1 h2 g3 g4 h5 h6
     have hsub : ∀ b, xCs (ip.objs t) (Root.ars t T U (xD5 os n)).obs b -> own ip (.ars t T U os) b := by
      rintro b ⟨m, u, ob, h1, h2, h3⟩
      rcases hkill m ob h2 with rfl | ⟨g3, _⟩
      ·cases h3
      ·exact ⟨m, u, ob, h1, g3, h3⟩
     have hrow : ∃ aa cc vs, v = .slice aa (rowAt os n).length cc /\ DenL O (flat U (rowAt os n)) vs /\ ownsAt w T U.w aa cc (rowAt os n).length vs /\ (∀ b, aa.map (·.block) = some b -> own ip (.ars t T U os) b /\ ¬ xCs (ip.objs t) (Root.ars t T U (xD5 os n)).obs b) := by
      rcases hd with ⟨h0, h1⟩ | ⟨m, id, i0, h1, h2, h3, a0, n0, c0, h4⟩
      ·subst h0;exact ⟨none, 0, [], h1, rfl, ⟨by simp [rowAt], by simp [rowAt], by unfold maxLen; omega, .inl ⟨rfl, fun b hb => by cases hb⟩⟩, fun b hb => by cases hb⟩
      ·have h7 := hh.cov p t _ ip hrr hip rfl id i0 m _ h2 h3;have hlive : ∃ xs, os[m]? = some (some xs) := by
        have := hg.1;rw [h1] at this;simp only [xCv] at this;split at this
        ·rename_i xs hx2; exact ⟨xs, hx2⟩
        ·cases this
       obtain ⟨xs, hos⟩ := hlive;have hob : (Root.ars t T U os).obs[m]? = some (.row T U xs) := by simp only [Root.obs, List.getElem?_map, hos, Option.map_some]
       obtain ⟨a1, c1, g1, g2, vs, g3, g4⟩ := hA.2.1 m _ _ h7 hob;rw [h4] at g1;simp only [hdr, Option.some.injEq, Prod.mk.injEq] at g1;obtain ⟨rfl, rfl, rfl⟩ := g1;have hxs : rowAt os n = xs := by rw [h1]; simp only [rowAt, hos]
       rw [hxs];have hvb : ∀ b, a0.map (·.block) = some b -> xDg v (.row T U xs) b := fun b hb => by show xHN v = some b; rw [h4]; exact hb
       refine ⟨a0, c0, vs, h4, g3, g4, fun b hb => ⟨⟨m, v, _, h7, hob, hvb b hb⟩, ?_⟩⟩
       rintro ⟨m', u, ob, q1, q2, q3⟩
       rcases hkill m' ob q2 with rfl | ⟨q4, q5⟩
       ·cases q3
       ·exact hA.2.2 m m' v u _ ob b (fun e => q5 (by rw [<- e]; exact h1)) h7 q1 hob q4 (hvb b hb) q3
     obtain ⟨aa, cc, vs, hv0, hvd, hvo, hvb⟩ := hrow;obtain ⟨ir, hir⟩ : ∃ ir : Info, ir = ⟨aa, cc, some (rowAt os n).length, .nilFunc⟩ := ⟨_, rfl⟩;have hiro : ∀ t, ir.objs t = [] := fun t => by subst hir; rfl
     have hNx : ∀ (j : Nat) (x : Info × Root), [(ip, Root.ars t T U (xD5 os n)), (ir, Root.rows T U (rowAt os n))][j]? = some x -> (j = 0 /\ x = (ip, Root.ars t T U (xD5 os n))) \/ (j = 1 /\ x = (ir, Root.rows T U (rowAt os n))) := by
      intro j x hx
      match j, hx with
      | 0, hx => simp only [List.getElem?_cons_zero, Option.some.injEq] at hx; exact .inl ⟨rfl, hx.symm⟩
      | 1, hx => simp only [List.getElem?_cons_succ, List.getElem?_cons_zero, Option.some.injEq] at hx; exact .inr ⟨rfl, hx.symm⟩
      | j + 2, hx => simp at hx
     have hfoot : ∀ (j : Nat) (x : Info × Root), [(ip, Root.ars t T U (xD5 os n)), (ir, Root.rows T U (rowAt os n))][j]? = some x -> ∀ b, foot x.1 x.2 b -> ∃ q ∈ [p], ∃ r i, h[q]? = some r /\ O[q]? = some i /\ own i r b := by
      intro j x hx b hb;rcases hNx j x hx with ⟨_, rfl⟩ | ⟨_, rfl⟩
      ·exact ⟨p, by simp, _, ip, hrr, hip, hsub b hb⟩
      ·have hb' : aa.map (·.block) = some b := by subst hir; exact hb
       exact ⟨p, by simp, _, ip, hrr, hip, (hvb b hb').1⟩
     have hgst := xE8 hh.len [p] _ hfoot;have hreg := hh.regroup [p] _ (fun j x hx => by
      refine ⟨?_, hfoot j x hx⟩;rcases hNx j x hx with ⟨_, rfl⟩ | ⟨_, rfl⟩
      ·exact ArOk.mono (Pre.app _ _) hA'
      ·subst hir;exact ⟨rfl, hw, vs, hvd.mono (Pre.app _ _), hvo⟩) (fun j k x y b hjk hx hy h1 h2 => by
      rcases hNx j x hx with ⟨rfl, rfl⟩ | ⟨rfl, rfl⟩
      ·rcases hNx k y hy with ⟨rfl, rfl⟩ | ⟨rfl, rfl⟩
       ·exact hjk rfl
       ·have h2' : aa.map (·.block) = some b := by subst hir; exact h2
        exact (hvb b h2').2 h1
      ·rcases hNx k y hy with ⟨rfl, rfl⟩ | ⟨rfl, rfl⟩
       ·have h1' : aa.map (·.block) = some b := by subst hir; exact h1
        exact (hvb b h1').2 h2
       ·exact hjk rfl) (fun j t2 x hx ht2 id i m u hi hu => by
      rcases hNx j x hx with ⟨rfl, rfl⟩ | ⟨rfl, rfl⟩
      ·have ht2' : t = t2 := Option.some.inj ht2;subst ht2';rcases Nat.lt_or_ge id O.length with hlt | hge
       ·rw [List.getElem?_append_left hlt] at hi;exact hh.cov p t _ ip hrr hip rfl id i m u hi hu
       ·rw [List.getElem?_append_right hge, List.getElem?_map] at hi;obtain ⟨x, hx, e1⟩ := Option.map_eq_some_iff.1 hi;rcases hNx _ x hx with ⟨_, rfl⟩ | ⟨_, rfl⟩
        ·subst e1; exact hu
        ·subst e1;dsimp only at hu;rw [hiro] at hu; simp at hu
      ·cases ht2) (fun p2 t2 r2 i2 h2 hi2 hL ht2 j x m u hx hu => by
      rcases hNx j x hx with ⟨rfl, rfl⟩ | ⟨rfl, rfl⟩
      ·exact hh.cov p2 t2 r2 i2 h2 hi2 ht2 p ip m u hip hu
      ·dsimp only at hu;rw [hiro] at hu; simp at hu) (fun j x hx => by
      rcases hNx j x hx with ⟨rfl, rfl⟩ | ⟨rfl, rfl⟩
      ·rcases hh.cln p _ ip hrr hip with g | g
       ·cases g
       ·exact .inr g
      ·exact .inr fun t _ => hiro t)
     refine ⟨_, hgst, xHw (hK.mono hgst.pre) hs hv ?_, hreg⟩;have hget : (O ++ [(ip, Root.ars t T U (xD5 os n)), (ir, Root.rows T U (rowAt os n))].map Prod.fst)[h.length + 1]? = some ir := by
      rw [List.getElem?_append_right (by rw [hh.len]; omega), hh.len]; simp
     refine ⟨ir, aa, cc, (rowAt os n).length, hget, hv0, hvo.2.1, hvo.2.2.1, fun hpos => ?_, ?_⟩
     ·subst hir;rcases hvo.2.2.2 with ⟨g5, _⟩ | ⟨g, og, cur, g5, _⟩
      ·have := hvo.2.1; omega
      ·exact ⟨g, og, g5⟩
     ·subst hir;refine ⟨⟨_, rfl, (Nat.sub_zero _).symm⟩, ⟨_, rfl, by omega⟩, (Nat.sub_zero _).symm, rfl, fun _ => rfl, fun _ => ?_⟩;cases aa <;> simp [Addr.add]
   ·trivial
  ·exact xHi hK hh
 ·exact xHi hK hh
theorem xR9 : ∀ (l : List Nat) (O : List Info) (K : Slo) (h : List Root), KOk N D O K a -> HOk S F W0 O h w -> xXY S F W0 N D O h w a (unpL l K h)
 | [], _, _, _, hK, hh => xHi hK hh
 | t :: l, O, K, h, hK, hh => xQh (xR8 hK hh _) (fun O K h hK hh => xR9 l O K h hK hh)
theorem xXo (hK : KOk N D O K a) (hh : HOk S F W0 O h w) : xXY S F W0 N D O h w a (ghost P K h o) := by
 unfold ghost
 repeat' split
 all_goals first | exact xHi hK hh | exact ghP_ok hK hh _ _ | exact xQh (rtyP_ok hK hh _ _) (fun _ _ _ hK hh => xR8 hK hh _)
theorem xKv (hK : KOk N D O K a) (hh : HOk S F W0 O h w) : xEX P S F W0 O h w a o (stepM P K h o) := by
 unfold stepM;have hg := xXo (P := P) (o := o) hK hh;split
 ·rename_i g K' h' T he;rw [he] at hg;split
  ·rename_i g' v h2 t hs;intro hgg;obtain ⟨hg1, hg2⟩ := AllB.app hgg;obtain ⟨O', q1, q2, q3⟩ := hg hg1;have := xL3 (P := P) (o := o) q2 q3;rw [hs] at this;exact MemOk.ghost q1 (this hg2)
  ·exact xL3 hK hh
 ·trivial
end
noncomputable section
open Go.RowKit
noncomputable def delP (K : Slo) (t : Nat) : Slo :=
 Slo.rec (motive := fun _ => Nat -> Slo) (fun _ => .nil) (fun u l r il ir n => Bool.rec (Bool.rec (.node u l (ir (Slo.way n))) (.node u (il (Slo.way n)) r) (Slo.odd n)) (.node none l r) (Nat.beq n 0)) K t
theorem xU2 (u : Option PV) (l r : Slo) (t : Nat) : delP (.node u l r) t = bif Nat.beq t 0 then .node none l r else bif Slo.odd t then .node u (delP l (Slo.way t)) r else .node u l (delP r (Slo.way t)) := by
 show @Bool.rec (fun _ => Slo) (@Bool.rec (fun _ => Slo) (.node u l (delP r (Slo.way t))) (.node u (delP l (Slo.way t)) r) (Slo.odd t)) (.node none l r) (Nat.beq t 0) = _;cases Nat.beq t 0
 ·cases Slo.odd t <;> rfl
 ·rfl
theorem xK2 : ∀ (t : Nat) (K : Slo) (s : Nat), lkP (delP K t) s = if s = t then none else lkP K s
 | t, .nil, s => by show lkP .nil s = _; rw [xFf]; split <;> rfl
 | t, .node u l r, s => by
  rw [xU2]
  cases ht : Nat.beq t 0 with
  | true =>
   have := nbT ht;subst this;simp only [cond_true, xCu]
   cases hs : Nat.beq s 0 with
   | true => have := nbT hs; subst this; rfl
   | false => rw [if_neg (Nat.ne_of_beq_eq_false hs)]; rfl
  | false =>
   simp only [cond_false]
   cases ho : Slo.odd t with
   | true =>
    simp only [cond_true, xCu]
    cases hs : Nat.beq s 0 with
    | true =>
     have e := nbT hs;rw [if_neg (fun e' => by rw [<- e', e] at ht; cases ht)]; rfl
    | false =>
     simp only [cond_false]
     cases hso : Slo.odd s with
     | false => rw [if_neg (fun e' => by rw [e', ho] at hso; cases hso)]; rfl
     | true =>
      simp only [cond_true, xK2 _ l];by_cases hw : Slo.way s = Slo.way t
      ·rw [if_pos hw, if_pos (Slo.way_eq hs ht (by rw [hso, ho]) hw)]
      ·rw [if_neg hw, if_neg (fun e => hw (by rw [e]))]
   | false =>
    simp only [cond_false, xCu]
    cases hs : Nat.beq s 0 with
    | true =>
     have e := nbT hs;rw [if_neg (fun e' => by rw [<- e', e] at ht; cases ht)]; rfl
    | false =>
     simp only [cond_false]
     cases hso : Slo.odd s with
     | true => rw [if_neg (fun e' => by rw [e', ho] at hso; cases hso)]; rfl
     | false =>
      simp only [cond_false, xK2 _ r];by_cases hw : Slo.way s = Slo.way t
      ·rw [if_pos hw, if_pos (Slo.way_eq hs ht (by rw [hso, ho]) hw)]
      ·rw [if_neg hw, if_neg (fun e => hw (by rw [e]))]
def xHu (N : Nat) (K : Slo) : Option Tmp -> PV -> Option Slo
 | none, _ => some K
 | some t, v => bif Nat.ble (t + 1) N then some (xDF K t v) else none
section
variable {P : Program} {N : Nat} {D : List Deferred} {S F : List Nat} {W0 : World} {O : List Info} {K : Slo} {h : List Root} {w : World} {a : Act} {o : Oper}
theorem xFG {K' : Slo} (hK : KOk N D O K a) {d : Option Tmp} {v : PV} {u : Value} (hv : DenP O v u) (hs : xHu N K d v = some K') : KOk N D O K' (a.put d u) := by
 cases d with
 | none => simp only [xHu, Option.some.injEq] at hs; subst hs; exact hK
 | some t =>
  simp only [xHu] at hs
  cases hb : Nat.ble (t + 1) N with
  | false => rw [hb] at hs; cases hs
  | true =>
   rw [hb] at hs;simp only [cond_true, Option.some.injEq] at hs;subst hs;have ht : t < a.tmps.size := by rw [hK.1]; exact Nat.le_of_ble_eq_true hb
   refine ⟨by simp [Act.put, hK.1], hK.2.1, fun s p hp => ?_⟩;rw [xBj] at hp;split at hp
   ·rename_i e;subst e;cases hp;exact ⟨u, hv, by simp [Act.put, ht]⟩
   ·rename_i e;obtain ⟨x, h1, h2⟩ := hK.2.2 s p hp;refine ⟨x, h1, ?_⟩;simp only [Act.put];rw [Array.getElem?_setIfInBounds_ne (Ne.symm e)];exact h2
theorem KOk.bool (hK : KOk N D O K a) {t : Nat} {b : Bool} (ht : lkP K t = some (.c (.sc (.bool b)))) (c : Bool) (e : b = c) : KOk N D O (xDF K t (.c (.sc (.bool c)))) a := by
 subst e;refine ⟨hK.1, hK.2.1, fun s p hp => ?_⟩;rw [xBj] at hp;split at hp
 ·rename_i e; subst e; cases hp; exact hK.2.2 _ _ ht
 ·exact hK.2.2 s p hp
end
def gds {β : Type} : List Bool -> Option β -> Option β
 | [], r => r
 | b :: g, r => bif b then gds g r else none
theorem xBE {β : Type} {r : β} : ∀ {g : List Bool} {x : Option β}, gds g x = some r -> AllB g /\ x = some r
 | [], x, h => ⟨trivial, h⟩
 | b :: g, x, h => by
  cases b with
  | true => obtain ⟨h1, h2⟩ := xBE (g := g) h; exact ⟨⟨rfl, h1⟩, h2⟩
  | false => cases h
inductive Gd where
 | go
 | no
 | test (t : Nat) (b want : Bool)
 | bad
def xUE (ops : Array Oper) (K : Slo) (o : Oper) : Gd :=
 match o.guard with
 | none => .go
 | some (j, want) => match (ops[j]?).bind (·.dst) with
  | some t => match lkP K t with
   | some (.c (.sc (.bool b))) => .test t b want
   | some .un => .no
   | _ => .bad
  | none => .bad
abbrev xAK (β : Type) := FuncId -> List PV -> List Root -> (List Nat -> PV -> List Root -> Option β) -> Option β
section
variable {β : Type}
def xDf (N : Nat) (K : Slo) (o : Oper) (v : PV) (h : List Root) (k : Slo -> List Root -> Option β) : Option β :=
 match xHu N K o.dst v with
 | some K' => k K' h
 | none => none
def opGo (P : Program) (N : Nat) (call : xAK β) (K : Slo) (h : List Root) (o : Oper) (k : Slo -> List Root -> Option β) : Option β :=
 match xHd P K h o with
 | .val g v => gds g (xDf N K o v h k)
 | .pick b x y => bif b then xDf N K o x h k else xDf N K o y h k
 | .stuck => match stepM P K h o with
  | .mem g v h' _ => gds g (xDf N K o v h' k)
  | .call f args => call f args h (fun _ v h' => xDf N K o v h' k)
  | _ => none
 | _ => none
def xMG (P : Program) (N : Nat) (ops : Array Oper) (call : xAK β) (K : Slo) (h : List Root) (o : Oper) (k : Slo -> List Root -> Option β) : Option β :=
 match xUE ops K o with
 | .go => opGo P N call K h o k
 | .no => xDf N K o .un h k
 | .test t b want => bif b then (bif want then opGo P N call (xDF K t (.c (.sc (.bool true)))) h o k else xDf N (xDF K t (.c (.sc (.bool true)))) o .un h k)
   else (bif want then xDf N (xDF K t (.c (.sc (.bool false)))) o .un h k else opGo P N call (xDF K t (.c (.sc (.bool false)))) h o k)
 | .bad => none
def xFj (P : Program) (N : Nat) (ops : Array Oper) (call : xAK β) : List Oper -> Slo -> List Root -> (Slo -> List Root -> Option β) -> Option β
 | [], K, h, k => k K h
 | o :: r, K, h, k => xMG P N ops call K h o (fun K' h' => xFj P N ops call r K' h' k)
def xRF : CV -> List Nat
 | .sl id _ _ _ _ => [id]
 | .pt id _ _ _ => [id]
 | .hv id => [id]
 | .sc _ => []
 | .er _ => []
 | .rf _ _ _ => []
 | .rp _ _ _ _ _ => []
 | .any => []
def idsP : PV -> List Nat
 | .c x => xRF x
 | .ag l => l.flatMap xRF
 | .tu l => l.flatMap (fun p => p.2.flatMap xRF)
 | .un => []
def xAy : TC -> Bool
 | .cv => true
 | .pair a b => xAy a || xAy b
 | _ => false
def xS7 : Root -> List Nat
 | .blk cs _ => cs.flatMap xRF
 | .rows _ U xs => bif xAy U then (flat U xs).flatMap xRF else []
 | .ro U xs => bif xAy U then (flat U xs).flatMap xRF else []
 | .clo _ a b => a.flatMap xRF ++ b.flatMap xRF
 | .mp _ _ U ts => bif xAy U then ts.flatMap (fun e => (U.enc e.2).flatMap xRF) else []
 | .ars _ _ U os => bif xAy U then os.flatMap (fun o => match o with
  | some xs => (flat U xs).flatMap xRF
  | none => []) else []
 | .aro _ _ U os => bif xAy U then (flat U os).flatMap xRF else []
 | .arm _ _ _ U os => bif xAy U then os.flatMap (fun o => match o with
  | some m => m.flatMap (fun e => (U.enc e.2).flatMap xRF)
  | none => []) else []
 | .arr _ U os => bif xAy U then os.flatMap (fun xs => (flat U xs).flatMap xRF) else []
 | _ => []
def xOa : Nat -> List Root -> List Nat -> List Nat -> List Nat
 | 0, _, _, seen => seen
 | n + 1, h, todo, seen => match todo with
  | [] => seen
  | id :: todo => bif seen.any (Nat.beq id) then xOa n h todo seen else xOa n h ((match h[id]? with
    | some r => xS7 r
    | none => []) ++ todo) (id :: seen)
def xNJ : List Root -> Nat -> List Nat
 | [], _ => []
 | r :: h, p => match r.tag with
  | some _ => p :: xNJ h (p + 1)
  | none => xNJ h (p + 1)
theorem xI9 : ∀ {h : List Root} {p q : Nat} {r : Root}, h[q]? = some r -> r.tag ≠ none -> p + q ∈ xNJ h p
 | [], _, _, _, e, _ => by simp at e
 | x :: h, p, 0, r, e, ht => by
  simp only [List.getElem?_cons_zero, Option.some.injEq] at e;subst e;simp only [xNJ];split
  ·simp
  ·rename_i hn; exact absurd hn ht
 | x :: h, p, q + 1, r, e, ht => by
  have ih := xI9 (p := p + 1) (q := q) (r := r) (by simpa using e) ht;simp only [xNJ];have e2 : p + (q + 1) = p + 1 + q := by omega
  rw [e2];split
  ·exact List.mem_cons_of_mem _ ih
  ·exact ih
def xAY (h : List Root) (args : List PV) : List Nat := xNJ h 0 ++ xOa 1000 h (args.flatMap idsP ++ (xNJ h 0).flatMap (fun p => match h[p]? with
 | some r => xS7 r
 | none => [])) []
theorem xJD {h : List Root} {args : List PV} {q : Nat} {r : Root} (hq : h[q]? = some r) (ht : r.tag ≠ none) : q ∈ xAY h args := by
 have := xI9 (p := 0) hq ht;rw [Nat.zero_add] at this;exact List.mem_append_left _ this
def xEV (R : List Nat) : List Root -> List Root -> Nat -> List Root
 | [], h', _ => h'
 | _ :: _, [], _ => []
 | r :: h, r' :: h', p => (bif R.any (Nat.beq p) then r' else r) :: xEV R h h' (p + 1)
def xAJ (P : Program) (call : xAK β) : Prop :=
 ∀ f args h k r, call f args h k = some r -> ∀ S F W0 O w vs, DenArgs O args vs -> HOk S F W0 O h w -> xA3 P f = true ->
  Calls P f vs.toArray w (fun e w' => ∃ O' h' v u B t, e = .returned u /\ Pre O O' /\ DenP O' v u /\ HOk S F W0 O' h' w' /\ k t v h' = some r /\ Ex B w w' /\
   (∀ b ∈ B, ∃ p ∈ t, ∃ r i, h[p]? = some r /\ O[p]? = some i /\ own i r b) /\ (∀ q : Nat, q ∉ t -> q < h.length -> h'[q]? = h[q]?) /\ Feet O h w O' h')
end
section
variable {P : Program} {N : Nat} {D : List Deferred} {S F : List Nat} {W0 : World} {O : List Info} {K : Slo} {h : List Root} {w : World} {a : Act} {o : Oper} {β : Type} {r : β} {call : xAK β} {ops : Array Oper}
def Behind (P : Program) (N : Nat) (D : List Deferred) (S F : List Nat) (W0 : World) (O : List Info) (k : Slo -> List Root -> Option β) (r : β) (a : Act) (w : World) : Prop :=
 ∃ O' K' h', Pre O O' /\ KOk N D O' K' a /\ HOk S F W0 O' h' w /\ k K' h' = some r
theorem xA1 (hK : KOk N D O K a) (hh : HOk S F W0 O h w) {v : PV} {u : Value} (hv : DenP O v u) {k : Slo -> List Root -> Option β} (hr : xDf N K o v h k = some r) : Behind P N D S F W0 O k r (a.put o.dst u) w := by
 unfold xDf at hr;split at hr
 ·rename_i K' hK'; exact ⟨O, K', h, Pre.refl _, xFG hK hv hK', hh, hr⟩
 ·cases hr
theorem Behind.pre {k : Slo -> List Root -> Option β} {O' : List Info} (hp : Pre O O') (hb : Behind P N D S F W0 O' k r a w) : Behind P N D S F W0 O k r a w := by
 obtain ⟨O2, K', h', h1, h2⟩ := hb;exact ⟨O2, K', h', hp.trans h1, h2⟩
theorem xOi (hcall : xAJ P call) (hK : KOk N D O K a) (hh : HOk S F W0 O h w) {k : Slo -> List Root -> Option β} (hr : opGo P N call K h o k = some r) {Q : Exit -> Act -> World -> Prop} {next : Act -> World -> Prop} (hn : ∀ a' w', Behind P N D S F W0 O k r a' w' -> next a' w') : o.wp P a w next Q := by
 unfold opGo at hr;have hv := xHt (P := P) (o := o) hK hh;split at hr
 ·rename_i g v hs;rw [hs] at hv;obtain ⟨h1, h2⟩ := xBE hr;obtain ⟨u, h3, h4⟩ := hv h1;unfold Oper.wp;rw [h4 w (Agree.refl _ _ _ _), Oper.upon_value];exact hn _ _ (xA1 hK hh h3 h2)
 ·rename_i b x y hs;rw [hs] at hv;obtain ⟨u, h3, h4⟩ := hv;unfold Oper.wp;rw [h4 w (Agree.refl _ _ _ _), Oper.upon_value]
  cases b with
  | true => exact hn _ _ (xA1 hK hh h3 hr)
  | false => exact hn _ _ (xA1 hK hh h3 hr)
 ·have hm := xKv (P := P) (o := o) hK hh;split at hr
  ·rename_i g v h' t hs;rw [hs] at hm;obtain ⟨h1, h2⟩ := xBE hr;obtain ⟨O', u, nx, w', B, q1, q2, q3, q4, q5, q6, q7, _, _⟩ := hm h1;unfold Oper.wp;rw [q4];have := xA1 (P := P) (o := o) (hK.mono q1) q5 q2 h2;rcases q3 with rfl | ⟨rfl, rfl⟩
   ·rw [Oper.upon_value]; exact hn _ _ (this.pre q1)
   ·rw [Oper.upon_skip]; exact hn _ _ (this.pre q1)
  ·rename_i f args hs;rw [hs] at hm;obtain ⟨vs, q1, q2, q3⟩ := hm;unfold Oper.wp;rw [q1, Oper.upon_enter];refine (hcall f args h _ r hr S F W0 O w vs q3 hh q2).mono fun e w' he => ?_;obtain ⟨O', h', v, u, B, t, rfl, e1, e2, e3, e4, _⟩ := he;exact hn _ _ ((xA1 (P := P) (o := o) (hK.mono e1) e3 e2 e4).pre e1)
  ·cases hr
 ·cases hr
theorem xLf (hK : KOk N D O K a) (hg : xUE ops K o = .go) : Region.wanted o (yielded ops a.tmps) = true := by
 unfold xUE at hg;unfold Region.wanted
 cases ho : o.guard with
 | none => rfl
 | some p =>
  obtain ⟨j, want⟩ := p;rw [ho] at hg;simp only at hg;split at hg
  ·split at hg <;> cases hg
  ·cases hg
theorem xLe (hK : KOk N D O K a) (hg : xUE ops K o = .no) : Region.wanted o (yielded ops a.tmps) = false := by
 unfold xUE at hg;unfold Region.wanted
 cases ho : o.guard with
 | none => rw [ho] at hg; cases hg
 | some p =>
  obtain ⟨j, want⟩ := p;rw [ho] at hg;simp only at hg ⊢;unfold yielded;split at hg
  ·rename_i t ht;rw [ht];split at hg
   ·cases hg
   ·rename_i hl;obtain ⟨v, h1, h2⟩ := hK.2.2 t _ hl;have : v = undef := h1;subst this;simp [h2, undef]
   ·cases hg
  ·cases hg
theorem xFW (hK : KOk N D O K a) {t : Nat} {b want : Bool} (hg : xUE ops K o = .test t b want) : Region.wanted o (yielded ops a.tmps) = (b == want) /\ lkP K t = some (.c (.sc (.bool b))) := by
 unfold xUE at hg;unfold Region.wanted
 cases ho : o.guard with
 | none => rw [ho] at hg; cases hg
 | some p =>
  obtain ⟨j, want'⟩ := p;rw [ho] at hg;simp only at hg ⊢;unfold yielded;split at hg
  ·rename_i t' ht;rw [ht];split at hg
   ·rename_i b' hl;cases hg;obtain ⟨v, h1, h2⟩ := hK.2.2 _ _ hl;have : v = .bool b := h1.1;subst this;exact ⟨by simp [h2], hl⟩
   ·cases hg
   ·cases hg
  ·cases hg
theorem xTE (hcall : xAJ P call) (hK : KOk N D O K a) (hh : HOk S F W0 O h w) {k : Slo -> List Root -> Option β} (hr : xMG P N ops call K h o k = some r) {Q : Exit -> Act -> World -> Prop} {next : Act -> World -> Prop} (hn : ∀ a' w', Behind P N D S F W0 O k r a' w' -> next a' w') :
  if Region.wanted o (yielded ops a.tmps) then o.wp P a w next Q else next (a.put o.dst undef) w := by
 unfold xMG at hr;split at hr
 ·rename_i hg;rw [if_pos (xLf hK hg)];exact xOi hcall hK hh hr hn
 ·rename_i hg;rw [if_neg (by rw [xLe hK hg]; simp)];exact hn _ _ (xA1 (v := .un) (u := undef) hK hh rfl hr)
 ·rename_i t b want hg;obtain ⟨h1, h2⟩ := xFW hK hg
  cases b with
  | true =>
   simp only [cond_true] at hr;have hK' := hK.bool h2 true rfl
   cases want with
   | true => rw [if_pos (by rw [h1]; rfl)]; exact xOi hcall hK' hh hr hn
   | false => rw [if_neg (by rw [h1]; simp)]; exact hn _ _ (xA1 (v := .un) (u := undef) hK' hh rfl hr)
  | false =>
   simp only [cond_false] at hr;have hK' := hK.bool h2 false rfl
   cases want with
   | true => rw [if_neg (by rw [h1]; simp)]; exact hn _ _ (xA1 (v := .un) (u := undef) hK' hh rfl hr)
   | false => rw [if_pos (by rw [h1]; rfl)]; exact xOi hcall hK' hh hr hn
 ·cases hr
theorem xD2 (hcall : xAJ P call) {Q : Exit -> Act -> World -> Prop} (rest : List Oper) : ∀ (l : List Oper) (O : List Info) (K : Slo) (h : List Root) (a : Act) (w : World) (k : Slo -> List Root -> Option β), xFj P N ops call l K h k = some r -> KOk N D O K a -> HOk S F W0 O h w ->
  (∀ a' w', Behind P N D S F W0 O k r a' w' -> wpList P ops Q rest a' w') -> wpList P ops Q (l ++ rest) a w
 | [], O, K, h, a, w, k, hr, hK, hh, hn => hn a w ⟨O, K, h, Pre.refl _, hK, hh, hr⟩
 | o :: l, O, K, h, a, w, k, hr, hK, hh, hn => by
  have step := xTE (ops := ops) (o := o) hcall hK hh hr (Q := Q) (next := wpList P ops Q (l ++ rest)) (fun a' w' hb => by
   obtain ⟨O', K', h', h1, h2, h3, h4⟩ := hb;exact xD2 hcall rest l O' K' h' a' w' k h4 h2 h3 (fun a2 w2 hb2 => hn a2 w2 (hb2.pre h1)))
  show wpList P ops Q (o :: (l ++ rest)) a w;unfold wpList;split
  ·rename_i hw; rw [if_pos hw] at step; exact .inl step
  ·rename_i hw; rw [if_neg hw] at step; exact step
end
end
end Go.Proofs.YtnomnijhlbalaaaGreatDoor
