/- A part of the proof of the theorem of the last file. No condition. By an AI agent. -/
import Derived.Test.YtnomnijhlbalaaaGreatDoorWY3a
import Derived.Maps.RangeRun
namespace Go.Proofs.YtnomnijhlbalaaaGreatDoor
noncomputable section
open Go.RowKit
section
variable {P : Program} {N m : Nat} {D : List Deferred} {S F : List Nat} {W0 : World} {O : List Info} {K : Slo} {h : List Root} {w : World} {a : Act}
theorem HOk.shrink (hh : HOk S F W0 O h w) {p : Nat} {r : Root} {i : Info} (hp : h[p]? = some r) (hi : O[p]? = some i) {r' : Root} (hr' : RootOk O w i r') (ho : ∀ b, own i r' b -> own i r b) (hf : ∀ b, foot i r' b -> foot i r b) (htg : (r'.tag = r.tag /\ r ≠ .dead) \/ r' = .dead) : HOk S F W0 O (h.set p r') w := by
 have get : ∀ (q : Nat) (x : Root) (j : Info), (h.set p r')[q]? = some x -> O[q]? = some j -> ∃ x0, h[q]? = some x0 /\ RootOk O w j x /\ (∀ b, own j x b -> own j x0 b) /\ (∀ b, foot j x b -> foot j x0 b) /\ ((x.tag = x0.tag /\ x0 ≠ .dead) \/ x = .dead) := by
  intro q x j hx hj;rw [List.getElem?_set] at hx;split at hx
  ·rename_i e;subst e;split at hx
   ·cases hx;rw [hi] at hj; cases hj;exact ⟨r, hp, hr', ho, hf, htg⟩
   ·cases hx
  ·refine ⟨x, hx, hh.ok q x j hx hj, fun _ h => h, fun _ h => h, ?_⟩;by_cases e : x = .dead
   ·exact .inr e
   ·exact .inl ⟨rfl, e⟩
 refine ⟨hh.ext, by rw [List.length_set]; exact hh.len, fun q x j hx hj => ?_, fun q q' x y j j' b hne hx hy hj hj' h1 h2 => ?_, fun q x j b hx hj h1 => ?_, fun q x j b hx hj h1 => ?_, hh.lay, hh.out, fun q t x j hx hj ht => ?_, fun q x j hx hj => ?_⟩
 ·obtain ⟨_, _, h1, _⟩ := get q x j hx hj; exact h1
 ·obtain ⟨x0, g1, _, g2, _⟩ := get q x j hx hj;obtain ⟨y0, g3, _, _, g4, _⟩ := get q' y j' hy hj';exact hh.sep q q' x0 y0 j j' b hne g1 g3 hj hj' (g2 b h1) (g4 b h2)
 ·obtain ⟨x0, g1, _, g2, _⟩ := get q x j hx hj; exact hh.mine q x0 j b g1 hj (g2 b h1)
 ·obtain ⟨x0, g1, _, _, g2, _⟩ := get q x j hx hj; exact hh.near q x0 j b g1 hj (g2 b h1)
 ·obtain ⟨x0, g1, _, _, _, g2⟩ := get q x j hx hj;rcases g2 with g2 | g2
  ·exact hh.cov q t x0 j g1 hj (by rw [<- g2.1]; exact ht)
  ·subst g2; cases ht
 ·obtain ⟨x0, g1, _, _, _, g2⟩ := get q x j hx hj;rcases g2 with g2 | g2
  ·rcases hh.cln q x0 j g1 hj with g3 | g3
   ·exact absurd g3 g2.2
   ·exact .inr fun t ht => g3 t (by rw [<- g2.1]; exact ht)
  ·exact .inl g2
theorem kill_ok (hh : HOk S F W0 O h w) {x : CV} {v : Value} (hd : Den O x v) {M : MpV} (hM : xKV h x = some M) (hg : AllB M.g) :
  HOk S F W0 O (xGt h M.pl) w /\ (xGt h M.pl).length = h.length /\ ∀ q, v = .map (some q) -> Off O (xGt h M.pl) q /\ (W0.heap.size <= q \/ q ∈ S) := by
 unfold xKV at hM;split at hM
 ·rename_i id;split at hM
  ·rename_i V agg U ts hr;cases hM;obtain ⟨i, h1, h2, _⟩ := hd;obtain ⟨q, ents, cl', h3, h4, h5, h6⟩ := hh.ok id _ i hr h1;have hown : own i (.mp V agg U ts) q := by simp [own, h4]
   refine ⟨hh.shrink hr h1 (r' := .dead) trivial (fun b hb => by cases hb) (fun b hb => by cases hb) (.inr rfl), by simp [xGt], fun q' hq' => ?_⟩;have e : q' = q := by rw [h2, h3] at hq'; cases hq'; rfl
   subst e;refine ⟨fun p r j hp hj hf => ?_, hh.mine id _ i q' hr h1 hown⟩;simp only [xGt] at hp;rw [List.getElem?_set] at hp;split at hp
   ·split at hp
    ·cases hp; cases hf
    ·cases hp
   ·rename_i hne;exact hh.sep id p _ r i j q' hne hr hp h1 hj hown hf
  ·cases hM
 ·rename_i t n;split at hM
  ·rename_i p t2 V agg U os hr;cases hM;obtain ⟨p', hp, hrr, ht⟩ := xAA hr;rw [Nat.zero_add] at hp; subst hp;obtain ⟨ip, hip⟩ := hh.info hrr;cases ht;have hA : ArOk O w (ip.objs t) (Root.arm t V agg U os).obs := hh.ok p _ ip hrr hip;have hk : xGt h (.ar p n) = h.set p (.arm t V agg U (xB6 os n)) := by simp only [xGt, hrr]
   show HOk S F W0 O (xGt h (.ar p n)) w /\ (xGt h (.ar p n)).length = h.length /\ ∀ q, v = .map (some q) -> Off O (xGt h (.ar p n)) q /\ (W0.heap.size <= q \/ q ∈ S);rw [hk]
   cases n with
   | zero =>
    have e : h.set p (.arm t V agg U (xB6 os 0)) = h := by
     apply List.ext_getElem?;intro j;rw [List.getElem?_set];split
     ·rename_i e; subst e;rw [if_pos (List.getElem?_eq_some_iff.1 hrr).1, hrr]; rfl
     ·rfl
    rw [e];refine ⟨hh, rfl, fun q hq => ?_⟩;rcases hd with ⟨_, h1⟩ | ⟨m', id, i0, h1, _⟩
    ·rw [hq] at h1; cases h1
    ·omega
   | succ m0 =>
    have hob : (Root.arm t V agg U (xB6 os (m0 + 1))).obs = (Root.arm t V agg U os).obs.set m0 .no := by
     simp only [Root.obs, xB6, List.map_set]
    have sub : ∀ b, xCs (ip.objs t) (Root.arm t V agg U (xB6 os (m0 + 1))).obs b -> ∃ mm v o, mm ≠ m0 /\ (ip.objs t)[mm]? = some v /\ (Root.arm t V agg U os).obs[mm]? = some o /\ xDg v o b := by
     intro b hb;rw [hob] at hb;obtain ⟨mm, v', o', g1, g2, g3⟩ := hb;rw [List.getElem?_set] at g2;split at g2
     ·split at g2
      ·cases g2; cases g3
      ·cases g2
     ·rename_i hne; exact ⟨mm, v', o', fun e => hne e.symm, g1, g2, g3⟩
    have hAk : ArOk O w (ip.objs t) (Root.arm t V agg U (xB6 os (m0 + 1))).obs := by
     have old : ∀ (mm : Nat) (v : Value) (o : Ob), (ip.objs t)[mm]? = some v -> (Root.arm t V agg U (xB6 os (m0 + 1))).obs[mm]? = some o -> o = .no \/ (Root.arm t V agg U os).obs[mm]? = some o := by
      intro mm v' o' _ g2;rw [hob, List.getElem?_set] at g2;split at g2
      ·split at g2
       ·cases g2; exact .inl rfl
       ·cases g2
      ·exact .inr g2
     refine ⟨by rw [hob, List.length_set]; exact hA.1, fun mm v' o' g1 g2 => ?_, fun m1 m2 v1 v2 o1 o2 b hne g1 g2 g3 g4 g5 g6 => ?_⟩
     ·rcases old mm v' o' g1 g2 with rfl | g3
      ·trivial
      ·exact hA.2.1 mm v' o' g1 g3
     ·rcases old m1 v1 o1 g1 g3 with rfl | g7
      ·cases g5
      ·rcases old m2 v2 o2 g2 g4 with rfl | g8
       ·cases g6
       ·exact hA.2.2 m1 m2 v1 v2 o1 o2 b hne g1 g2 g7 g8 g5 g6
    have hsub : ∀ b, own ip (.arm t V agg U (xB6 os (m0 + 1))) b -> own ip (.arm t V agg U os) b := fun b hb => by
     obtain ⟨mm, v', o', _, g1, g2, g3⟩ := sub b hb;exact ⟨mm, v', o', g1, g2, g3⟩
    refine ⟨hh.shrink hrr hip hAk hsub hsub (.inl ⟨rfl, fun e => by cases e⟩), by simp, fun q hq => ?_⟩;rcases hd with ⟨h0, _⟩ | ⟨m', id, i0, h1, h2, h3, q', h4⟩
    ·omega
    ·obtain rfl : m0 = m' := by omega
     have e : q' = q := by rw [hq] at h4; cases h4; rfl
     subst e;have h7 := hh.cov p t _ ip hrr hip rfl id i0 m0 _ h2 h3;have hl : ∃ ts, os[m0]? = some (some ts) := by
      have := hg.1;simp only [xCv] at this;split at this
      ·rename_i xs hx2; exact ⟨xs, hx2⟩
      ·cases this
     obtain ⟨ts, hos⟩ := hl;have ho : (Root.arm t V agg U os).obs[m0]? = some (.mp V agg U ts) := by
      simp only [Root.obs, List.getElem?_map, hos, Option.map_some]
     have hob2 : xDg v (.mp V agg U ts) q' := by show xHN v = some q'; rw [h4]; rfl
     have hown : own ip (.arm t V agg U os) q' := ⟨m0, v, _, h7, ho, hob2⟩;refine ⟨fun p2 r j hp hj hf => ?_, hh.mine p _ ip q' hrr hip hown⟩;rw [List.getElem?_set] at hp;split at hp
     ·rename_i e;subst e;split at hp
      ·cases hp;rw [hip] at hj; cases hj;obtain ⟨mm, v', o', hne, g1, g2, g3⟩ := sub q' hf;exact hA.2.2 mm m0 v' v o' _ q' hne g1 h7 g2 ho g3 hob2
      ·cases hp
     ·rename_i hne;exact hh.sep p p2 _ r ip j q' hne hrr hp hip hj hown hf
  ·cases hM
 ·cases hM
theorem HOk.enterAll (hh : HOk S F W0 O h w) : HOk (xAk .own O h (List.range h.length)) (xAk .foot O h (List.range h.length)) w O h w :=
 ⟨Ex.refl _ _, hh.len, hh.ok, hh.sep, fun p r i b hr hi ho => .inr (xAc.2 ⟨p, List.mem_range.2 (List.getElem?_eq_some_iff.1 hr).1, r, i, hr, hi, ho⟩),
  fun p r i b hr hi ho => .inr (.inr (xAc.2 ⟨p, List.mem_range.2 (List.getElem?_eq_some_iff.1 hr).1, r, i, hr, hi, ho⟩)), hh.layW, fun b hb => ⟨hh.outW hb, fun hm => (by obtain ⟨p, _, r, i, hr, hi, ho⟩ := xAc.1 hm; exact hh.notOwn hb hr hi ho)⟩, hh.cov, hh.cln⟩
theorem off_of (hh : HOk S F W0 O h w) {b : Nat} (hb : b < w.heap.size) (ho : Off O h b) {Z : List Info} {h' : List Root} (ht : ∀ (S2 F2 : List Nat) (W2 : World), HOk S2 F2 W2 O h w -> HOk S2 F2 W2 Z h' w) : Off Z h' b := by
 intro p r i hp hi hf;rcases (ht _ _ _ hh.enterAll).near p r i b hp hi hf with h1 | h1 | h1
 ·omega
 ·obtain ⟨q, _, r', i', g1, g2, g3⟩ := xAc.1 h1;exact ho q r' i' g1 g2 (xAm g3)
 ·obtain ⟨q, _, r', i', g1, g2, g3⟩ := xAc.1 h1;exact ho q r' i' g1 g2 g3
theorem HOk.backR (hh : HOk S F W0 O h w) {S1 F1 : List Nat} {w1 : World} {O' : List Info} {h' : List Root} {w' : World} (hc : HOk S1 F1 w1 O' h' w') (hE : Ex S W0 w1) (hS : ∀ b ∈ S1, W0.heap.size <= b \/ b ∈ S) (hF : ∀ b ∈ F1, W0.heap.size <= b \/ b ∈ S \/ b ∈ F) : HOk S F W0 O' h' w' := by
 refine ⟨?_, hc.len, hc.ok, hc.sep, fun p r i b hp hi ho => ?_, fun p r i b hp hi ho => ?_, hh.lay, hh.out, hc.cov, hc.cln⟩
 ·refine ⟨hc.ext.os.trans hE.os, hc.ext.tape.trans hE.tape, hc.ext.output.trans hE.output, Nat.le_trans hE.size hc.ext.size, fun j hj hjs => ?_⟩;rw [hc.ext.block j (Nat.lt_of_lt_of_le hj hE.size) (fun hm => (hS j hm).elim (fun e => by omega) hjs)];exact hE.block j hj hjs
 ·rcases hc.mine p r i b hp hi ho with h1 | h1
  ·exact .inl (Nat.le_trans hE.size h1)
  ·exact hS b h1
 ·rcases hc.near p r i b hp hi ho with h1 | h1 | h1
  ·exact .inl (Nat.le_trans hE.size h1)
  ·exact (hS b h1).imp id .inl
  ·exact hF b h1
theorem HOk.ownB (hh : HOk S F W0 O h w) {L : List Nat} : ∀ b ∈ xAk .own O h L, W0.heap.size <= b \/ b ∈ S := fun b hb => by
 obtain ⟨p, _, r, i, h1, h2, h3⟩ := xAc.1 hb;exact hh.mine p r i b h1 h2 h3
theorem HOk.footB (hh : HOk S F W0 O h w) {L : List Nat} : ∀ b ∈ xAk .foot O h L, W0.heap.size <= b \/ b ∈ S \/ b ∈ F := fun b hb => by
 obtain ⟨p, _, r, i, h1, h2, h3⟩ := xAc.1 hb;exact hh.near p r i b h1 h2 h3
theorem xBc {b : Nat} {L : List Nat} (ho : Off O h b) : b ∉ xAk .own O h L /\ b ∉ xAk .foot O h L :=
 ⟨fun hm => by obtain ⟨p, _, r, i, h1, h2, h3⟩ := xAc.1 hm; exact ho p r i h1 h2 (xAm h3), fun hm => by obtain ⟨p, _, r, i, h1, h2, h3⟩ := xAc.1 hm; exact ho p r i h1 h2 h3⟩
theorem HOk.addDead (hh : HOk S F W0 O h w) {i : Info} (hi : ∀ t, i.objs t = []) : HOk S F W0 (O ++ [i]) (h ++ [.dead]) w :=
 hh.add (Ex.refl _ _) i .dead trivial (fun b hb => by cases hb) hi
theorem xPT {b : Nat} (ho : Off O h b) (hl : O.length = h.length) (i : Info) : Off (O ++ [i]) (h ++ [.dead]) b := by
 intro p r j hp hj hf;rcases Nat.lt_or_ge p h.length with hlt | hge
 ·rw [List.getElem?_append_left hlt] at hp;rw [List.getElem?_append_left (by omega)] at hj;exact ho p r j hp hj hf
 ·rw [List.getElem?_append_right hge] at hp
  cases hq : p - h.length with
  | zero => rw [hq] at hp; cases hp; cases hf
  | succ n => rw [hq] at hp; simp at hp
theorem ArOk.put {vs : List Value} {os : List Ob} (hA : ArOk O w vs os) {m : Nat} {v : Value} {ob : Ob} (hv : vs[m]? = some v) (ho : ObOk O w v ob) (hd : ∀ b, xDg v ob b -> ¬ xCs vs os b) : ArOk O w vs (os.set m ob) := by
 have get : ∀ (q : Nat) (s : Ob), (os.set m ob)[q]? = some s -> (q = m /\ s = ob) \/ (q ≠ m /\ os[q]? = some s) := by
  intro q s hs;rw [List.getElem?_set] at hs;split at hs
  ·rename_i e;subst e;split at hs
   ·exact .inl ⟨rfl, (Option.some.inj hs).symm⟩
   ·cases hs
  ·rename_i e;exact .inr ⟨fun x => e x.symm, hs⟩
 refine ⟨by rw [List.length_set]; exact hA.1, fun q u s hu hs => ?_, fun q q' u u' s s' b hq hu hu' hs hs' hb hb' => ?_⟩
 ·rcases get q s hs with ⟨rfl, rfl⟩ | ⟨_, h1⟩
  ·rw [hv] at hu; cases hu; exact ho
  ·exact hA.2.1 q u s hu h1
 ·rcases get q s hs with ⟨rfl, rfl⟩ | ⟨_, h1⟩
  ·rcases get q' s' hs' with ⟨rfl, _⟩ | ⟨_, h2⟩
   ·exact hq rfl
   ·rw [hv] at hu; cases hu;exact hd b hb ⟨q', u', s', hu', h2, hb'⟩
  ·rcases get q' s' hs' with ⟨rfl, rfl⟩ | ⟨_, h2⟩
   ·rw [hv] at hu'; cases hu';exact hd b hb' ⟨q, u, s, hu, h1, hb⟩
   ·exact hA.2.2 q q' u u' s s' b hq hu hu' h1 h2 hb hb'
theorem HOk.raise (hh : HOk S F W0 O h w) {p : Nat} {r : Root} {i : Info} (hp : h[p]? = some r) (hi : O[p]? = some i) {r' : Root} {b0 : Nat} (hr' : RootOk O w i r') (ho : ∀ b, own i r' b -> own i r b \/ b = b0) (hf : ∀ b, foot i r' b -> foot i r b \/ b = b0) (hoff : Off O h b0) (hmine : W0.heap.size <= b0 \/ b0 ∈ S)
  (hcov : ∀ t, r'.tag = some t -> ∀ (id : Nat) (j : Info) (m : Nat) (v : Value), O[id]? = some j -> (j.objs t)[m]? = some v -> (i.objs t)[m]? = some v) (hcl : Cln i r') : HOk S F W0 O (h.set p r') w := by
 have get : ∀ (q : Nat) (x : Root) (j : Info), (h.set p r')[q]? = some x -> O[q]? = some j -> (q = p /\ x = r' /\ j = i) \/ (q ≠ p /\ h[q]? = some x) := by
  intro q x j hx hj;rw [List.getElem?_set] at hx;split at hx
  ·rename_i e;subst e;split at hx
   ·cases hx;rw [hi] at hj; cases hj;exact .inl ⟨rfl, rfl, rfl⟩
   ·cases hx
  ·rename_i e; exact .inr ⟨fun x => e x.symm, hx⟩
 refine ⟨hh.ext, by rw [List.length_set]; exact hh.len, fun q x j hx hj => ?_, fun q q' x y j j' b hne hx hy hj hj' h1 h2 => ?_, fun q x j b hx hj h1 => ?_, fun q x j b hx hj h1 => ?_, hh.lay, hh.out, fun q t x j hx hj ht => ?_, fun q x j hx hj => ?_⟩
 ·rcases get q x j hx hj with ⟨rfl, rfl, rfl⟩ | ⟨_, g⟩
  ·exact hr'
  ·exact hh.ok q x j g hj
 ·rcases get q x j hx hj with ⟨rfl, rfl, rfl⟩ | ⟨_, g⟩
  ·rcases get q' y j' hy hj' with ⟨rfl, _, _⟩ | ⟨_, g'⟩
   ·exact hne rfl
   ·rcases ho b h1 with h3 | rfl
    ·exact hh.sep q q' r y j j' b hne hp g' hi hj' h3 h2
    ·exact hoff q' y j' g' hj' h2
  ·rcases get q' y j' hy hj' with ⟨rfl, rfl, rfl⟩ | ⟨_, g'⟩
   ·rcases hf b h2 with h3 | rfl
    ·exact hh.sep q q' x r j j' b hne g hp hj hi h1 h3
    ·exact hoff q x j g hj (xAm h1)
   ·exact hh.sep q q' x y j j' b hne g g' hj hj' h1 h2
 ·rcases get q x j hx hj with ⟨rfl, rfl, rfl⟩ | ⟨_, g⟩
  ·rcases ho b h1 with h3 | rfl
   ·exact hh.mine q r j b hp hi h3
   ·exact hmine
  ·exact hh.mine q x j b g hj h1
 ·rcases get q x j hx hj with ⟨rfl, rfl, rfl⟩ | ⟨_, g⟩
  ·rcases hf b h1 with h3 | rfl
   ·exact hh.near q r j b hp hi h3
   ·exact hmine.imp id .inl
  ·exact hh.near q x j b g hj h1
 ·rcases get q x j hx hj with ⟨rfl, rfl, rfl⟩ | ⟨_, g⟩
  ·exact hcov t ht
  ·exact hh.cov q t x j g hj ht
 ·rcases get q x j hx hj with ⟨rfl, rfl, rfl⟩ | ⟨_, g⟩
  ·exact hcl
  ·exact hh.cln q x j g hj
theorem xNz {V : KK} {U : TC} (ts : List (V.ty × U.ty)) (e1 : V = V) (e2 : U = U) : xRQ e1 e2 ts = ts := rfl
theorem xEi {h2 : List Root} {rp : RPl} {V : KK} {agg : Bool} {U : TC} {ts : List (V.ty × U.ty)} (hr : xTa h rp V agg U ts = some h2) : xNP h U.tags = true := by
 unfold xTa at hr;split at hr
 all_goals
  cases hb : xNP h U.tags with
  | true => rfl
  | false => rw [hb] at hr; cases hr
theorem xWB (hh : HOk S F W0 O h w) {h2 : List Root} {id q cl : Nat} {i : Info} {V : KK} {agg : Bool} {U : TC} {ts : List (V.ty × U.ty)} {ents : Array MapEntry} (hr : xTa h (.root id) V agg U ts = some h2) (hi : O[id]? = some i) (hv : i.val = .map (some q)) (ha : i.a = some ⟨q, 0, none⟩) (hcl : ∀ t, i.objs t = []) (hq : w.heap[q]? = some (.map ents cl)) (hm : MapOk O V agg U ts ents cl) (hoff : Off O h q) (hmine : W0.heap.size <= q \/ q ∈ S) : HOk S F W0 O h2 w := by
 have htg := xEi hr;simp only [xTa, htg, cond_true] at hr;split at hr
 ·rename_i hd;cases hr;refine hh.raise hd hi (b0 := q) ⟨q, ents, cl, hv, ha, hq, hm⟩ (fun b hb => .inr ?_) (fun b hb => .inr ?_) hoff hmine (fun t ht => by cases ht) (.inr fun t _ => hcl t)
  ·simp only [own, ha, Option.map_some, Option.some.injEq] at hb; exact hb.symm
  ·simp only [foot, own, ha, Option.map_some, Option.some.injEq] at hb; exact hb.symm
 ·cases hr
theorem rev_ar (hh : HOk S F W0 O h w) {h2 : List Root} {t m0 q cl id : Nat} {i : Info} {V : KK} {agg : Bool} {U : TC} {ts : List (V.ty × U.ty)} {ents : Array MapEntry} (hr : xTa h (.ar t (m0 + 1)) V agg U ts = some h2) (hi : O[id]? = some i) (hv : (i.objs t)[m0]? = some (.map (some q))) (hq : w.heap[q]? = some (.map ents cl)) (hm : MapOk O V agg U ts ents cl) (hoff : Off O h q) (hmine : W0.heap.size <= q \/ q ∈ S) : HOk S F W0 O h2 w := by
 have htg := xEi hr;simp only [xTa, htg, cond_true] at hr;split at hr
 rotate_right
 ·cases hr
 rename_i p t2 V' agg' U' os hf;split at hr
 rotate_right
 ·cases hr
 rename_i e0;have e0' := xCq e0;subst e0';split at hr
 rotate_right
 ·cases hr
 rename_i e;have e' := xAz e;subst e'
 cases hb : (agg == agg') with
 | false => rw [hb] at hr; cases hr
 | true =>
  rw [hb] at hr;have e2 : agg = agg' := by simpa using hb
  subst e2;simp only [cond_true, Option.some.injEq, xNz] at hr;subst hr;obtain ⟨p', hp, hrr, ht⟩ := xAA hf;rw [Nat.zero_add] at hp; subst hp;cases ht;obtain ⟨ip, hip⟩ := hh.info hrr;have h7 := hh.cov p t _ ip hrr hip rfl id i m0 _ hi hv;have hA : ArOk O w (ip.objs t) (Root.arm t V agg U os).obs := hh.ok p _ ip hrr hip;have hob : (Root.arm t V agg U (os.set m0 (some ts))).obs = (Root.arm t V agg U os).obs.set m0 (.mp V agg U ts) := by
   simp only [Root.obs, List.map_set]
  have hobo : ∀ b, xDg (.map (some q)) (.mp V agg U ts) b -> b = q := fun b hb => by
   have : xHN (.map (some q)) = some b := hb;simp only [xHN, Option.some.injEq] at this;exact this.symm
  have hAr : ArOk O w (ip.objs t) (Root.arm t V agg U (os.set m0 (some ts))).obs := by
   rw [hob];refine hA.put h7 ⟨q, ents, cl, rfl, hq, hm⟩ (fun b hb hx => ?_);have := hobo b hb;subst this;exact hoff p _ ip hrr hip hx
  have hown : ∀ b, own ip (.arm t V agg U (os.set m0 (some ts))) b -> own ip (.arm t V agg U os) b \/ b = q := fun b hb => by
   have hb' : xCs (ip.objs t) (Root.arm t V agg U (os.set m0 (some ts))).obs b := hb;rw [hob] at hb';obtain ⟨mm, v', o', g1, g2, g3⟩ := hb';rw [List.getElem?_set] at g2;split at g2
   ·rename_i e; subst e;split at g2
    ·cases g2;rw [h7] at g1; cases g1;exact .inr (hobo b g3)
    ·cases g2
   ·exact .inl ⟨mm, v', o', g1, g2, g3⟩
  exact hh.raise hrr hip (b0 := q) hAr hown hown hoff hmine (fun t' ht' => by
   cases ht';exact hh.cov p t _ ip hrr hip rfl) (.inr fun t' ht' => (hh.cln p _ ip hrr hip).resolve_left (fun e => by cases e) t' ht')
end
section
variable {P : Program} {N m : Nat} {D : List Deferred} {ops : Array Oper} {Q : Exit -> Act -> World -> Prop} {β : Type} {call : xAK β}
theorem xEz {o : Oper} {rest : List Oper} {a : Act} {w w' : World} {v : Value} (hg : o.guard = none) (hrun : (execOp a.eval o).run P w = .ok (.value v) w') (h : wpList P ops Q rest (a.put o.dst v) w') : wpList P ops Q (o :: rest) a w := by
 unfold wpList;rw [if_pos (by simp [Region.wanted, hg])];refine .inl ?_;unfold Oper.wp;rw [hrun, Oper.upon_value];exact h
theorem xOz {t : Nat} : ∀ {h : List Root} {p q : Nat} {r : Root}, xAZ t h p = some (q, r) -> ∃ j : Nat, h[j]? = some r /\ r.tag = some t := fun e => by
 obtain ⟨j, _, h1, h2⟩ := xAA e;exact ⟨j, h1, h2⟩
theorem xPc {l : List RK} {z : xF8 l} {ids : Nat -> Nat} {ts : List Nat} (h : xNP (xAe ids l z) ts = true) : xAI ts l = true := by
 unfold xNP at h;unfold xAI;rw [List.all_eq_true] at h ⊢;intro t ht;have := h t ht;rw [Option.isSome_iff_exists] at this;obtain ⟨⟨q, r⟩, hq⟩ := this;obtain ⟨j, h1, h2⟩ := xOz hq;obtain ⟨k, h3, x, rfl⟩ := xCC h1;rw [RK.enc_tag] at h2;exact List.any_eq_true.2 ⟨k, List.mem_of_getElem? h3, by rw [h2]; simp⟩
theorem rng_use {c : Code} {R : RngC} (hp : xBC c = some R) (hN : Nat.ble (R.ti + 1) N = true) {Sc : Sch} {o : xBY} {V : KK} {agg : Bool} {U : TC} {B : Sc.ty -> V.ty × U.ty -> Option (Sc.ty ⊕ xAB o)} {E : Sc.ty -> Option (xAB o)} (hcall : xAJ P call) (hsem : xF7 P m N R Sc o V agg U B E) {K : Slo} {h : List Root} {k : xFq β} {r : β}
  (hr : xFj P N R.ops0 call R.pre K h (fun K h => match xN8 P m Sc.roots K h R V agg U with
    | some (g, pl, rp, ts) => gds g (match Sc.dec m (xDF K R.ti (.c (.hv h.length))) (xGt h pl ++ [.dead]) with
     | some s => xDj (fun π => ob (xLH B E s π) (fun y => xV2 (fun e K' h' => match xTa h' rp V agg U ts with
      | some h2 => k e K' h2
      | none => none) o y)) ts
     | none => none)
    | none => none) = some r) {S F : List Nat} {W0 : World} {O : List Info} {a : Act} {w : World} (hK : KOk N D O K a) (hh : HOk S F W0 O h w)
  (hn : ∀ (e : XT) (O' : List Info) (K' : Slo) (h' : List Root) (a' : Act) (w' : World), PreM m O O' -> k e K' h' = some r -> KOk N D O' K' a' -> HOk S F W0 O' h' w' -> Q e.out a' w') : c.wp P Q a w := by
 have hi := xIc hp;rw [hi.code];refine wp_seq (wp_region_list ?_);rw [hi.l0];refine xD2 hcall [R.o0] R.pre O K h a w _ hr hK hh (fun a1 w1 hb => ?_);obtain ⟨O1, K1, h1, hp1, hK1, hh1, hr1⟩ := hb;clear hr hK hh;dsimp only at hr1;split at hr1
 rotate_right
 ·cases hr1
 rename_i g pl rp ts hop;obtain ⟨hg, hr1⟩ := xBE hr1;split at hr1
 rotate_right
 ·cases hr1
 rename_i s hs;have hall := xOS hr1
 unfold xN8 at hop;split at hop
 rotate_right
 ·cases hop
 rename_i kt et x hT hx;split at hop
 rotate_right
 ·cases hop
 rename_i M hM;split at hop
 rotate_right
 ·cases hop
 rename_i rp' hrp;split at hop
 rotate_right
 ·cases hop
 rename_i e0;split at hop
 rotate_right
 ·cases hop
 rename_i e1;have e0' := xCq e0;have e1' := xAz e1;generalize hcnd : ((M.agg == agg) && !xAy U && _) = b at hop
 cases b with
 | false => cases hop
 | true =>
 simp only [Bool.and_eq_true, beq_iff_eq, Bool.not_eq_true'] at hcnd;obtain ⟨⟨hagg, hcv⟩, hpl⟩ := hcnd;obtain ⟨Mg, Mpl, Mκ, Magg, Mτ, Mts⟩ := M;dsimp only at e0' e1' hagg;subst e0'; subst e1'; subst hagg;simp only [cond_true, Option.some.injEq, Prod.mk.injEq, xNz] at hop;obtain ⟨rfl, rfl, rfl, rfl⟩ := hop;have hden := xAa hK1 hx;have hdst := hi.d0
 have next : ∀ (mq : Option Nat) (it : Obj), a1.eval R.x = .map mq -> (Instr.range R.T (.map mq)).run P w1 = .ok (.pointer (some ⟨w1.heap.size, 0, none⟩)) (w1.alloc it) ->
   (∀ (Z : List Info) (a2 : Act) (w2 : World), a2.tmps[R.ti]? = some (.pointer (some ⟨w1.heap.size, 0, none⟩)) -> w2 = w1.alloc it -> PreM m O1 Z -> KOk N D Z (xAM same Sc.slots (Sc.a s)) a2 -> HOk S F W0 Z (xAe same Sc.roots (Sc.b s)) w2 -> (∀ ts, xAI ts Sc.roots = true -> Covs O1 Z ts) ->
    (∀ q, mq = some q -> Off Z (xAe same Sc.roots (Sc.b s)) q /\ (W0.heap.size <= q \/ q ∈ S)) -> Off Z (xAe same Sc.roots (Sc.b s)) w1.heap.size -> (Code.loop R.round).wp P (Exit.inBlock R.b0 Q) a2 w2) ->
   wpList P R.ops0 (Exit.then ((Code.block R.b0 (Code.loop R.round)).wp P Q) Q) [R.o0] a1 w1 := by
  intro mq it hv hrun hcont;have hrun' : (execOp a1.eval R.o0).run P w1 = .ok (.value (.pointer (some ⟨w1.heap.size, 0, none⟩))) (w1.alloc it) := by
   unfold execOp;simp only [hi.p0, hv, Sem.run_bind, hrun, Result.andThen_ok, Sem.run_pure]
  refine xEz hdst.1 hrun' (wpList_nil ?_);rw [hdst.2];refine wp_block ?_;have hE : Ext w1 (w1.alloc it) := Ex.allocs _ _;obtain ⟨hkill, hlen, hkq⟩ := kill_ok hh1 hden hM hg;have hh2 := (hkill.ext' hE).addDead (i := ⟨none, 0, none, .pointer (some ⟨w1.heap.size, 0, none⟩)⟩) (fun _ => rfl);have hpre : Pre O1 (O1 ++ [⟨none, 0, none, .pointer (some ⟨w1.heap.size, 0, none⟩)⟩]) := Pre.app _ _;have hK2 : KOk N D (O1 ++ [⟨none, 0, none, .pointer (some ⟨w1.heap.size, 0, none⟩)⟩]) (xDF K1 R.ti (.c (.hv h1.length))) (a1.put (some R.ti) (.pointer (some ⟨w1.heap.size, 0, none⟩))) := by
   refine xFG (d := some R.ti) (v := .c (.hv h1.length)) (hK1.mono hpre) ⟨⟨none, 0, none, .pointer (some ⟨w1.heap.size, 0, none⟩)⟩, ?_, rfl, rfl⟩ (by simp only [xHu, hN, cond_true]);rw [<- hh1.len, List.getElem?_append_right (Nat.le_refl _), Nat.sub_self]; rfl
  have hti : (a1.put (some R.ti) (.pointer (some ⟨w1.heap.size, 0, none⟩))).tmps[R.ti]? = some (.pointer (some ⟨w1.heap.size, 0, none⟩)) := by
   obtain ⟨v, g1, g2⟩ := hK2.2.2 R.ti (.c (.hv h1.length)) (by rw [xBj, if_pos rfl]);obtain ⟨i, g3, g4, _⟩ := g1;rw [<- hh1.len, List.getElem?_append_right (Nat.le_refl _), Nat.sub_self] at g3;cases g3;rw [g2, g4]
  have hoff1 : Off (O1 ++ [⟨none, 0, none, .pointer (some ⟨w1.heap.size, 0, none⟩)⟩]) (xGt h1 Mpl ++ [.dead]) w1.heap.size := by
   refine xPT (fun p r i hp hi hf => ?_) (by rw [hlen]; exact hh1.len) _;have := (hkill.ok p r i hp hi).lt hf;omega
  have hlt1 : w1.heap.size < (w1.alloc it).heap.size := lt_of_block (heap_alloc_new w1 it);obtain ⟨Z, q1, q2, q3, q4, q5⟩ := Sch.dec_cov hs hK2 hh2;refine hcont Z _ _ hti rfl (hpre.m.trans q1) q2 q3 (fun ts ht => fun t hm id i mm v hid hv => q4 ts ht t hm id i mm v (hpre id i hid) hv) (fun q hq => ?_) (off_of hh2 hlt1 hoff1 q5);obtain ⟨g1, g2⟩ := hkq q (by rw [hv, hq]);refine ⟨off_of hh2 ?_ (xPT g1 (by rw [hlen]; exact hh1.len) _) q5, g2⟩;rcases xKU hh1 hden hM hg with ⟨q', ents, cl, r', i', k1, k2, _⟩ | ⟨k1, _⟩
  ·have : q = q' := by rw [hv, hq] at k1; cases k1; rfl
   subst this;have := lt_of_block k2;omega
  ·rw [hv, hq] at k1; cases k1
 rcases xKU hh1 hden hM hg with ⟨q, ents, cl, r', i', k1, k2, k3, k4, k5, k6⟩ | ⟨k1, k2, p0, k3⟩
 ·-- a map
  refine next (some q) (.mapIter (some q) cl #[] cl) k1 (run_range_map w1 R.T kt et q ents cl hT k2) (fun Z a2 w2 hti hw2 hpm hK2 hh2 hcovs hoffq hoffi => ?_)
  subst hw2;obtain ⟨us, u1, u2, u3, u4, u5⟩ := k3;dsimp only at u1 u2 u3 u4 u5;have hqlt := lt_of_block k2;have hq2 : (w1.alloc (.mapIter (some q) cl #[] cl)).heap[q]? = some (.map ents cl) := by rw [heap_alloc_old w1 _ hqlt, k2]
  have hborn : ∀ x ∈ ents.toList, x.born < cl := by
   have : ∀ {us : List (Mκ.ty × Nat × Mτ.ty)} {l : List MapEntry}, EntOk O1 Mκ Magg Mτ us l -> (∀ e ∈ us, e.2.1 < cl) -> ∀ x ∈ l, x.born < cl := by
    intro us
    induction us with
    | nil => intro l h _ x hx; rw [show l = [] from h] at hx; cases hx
    | cons u us ih =>
     rintro l ⟨e, r, g1, g2, ⟨g3, _⟩, g4⟩ hlt x hx
     subst g1;rcases List.mem_cons.1 hx with rfl | hx
     ·rw [g3]; exact hlt u (by simp)
     ·exact ih g4 (fun e he => hlt e (by simp [he])) x hx
   exact this u1 u5
  have hent := xF0 (Z := Z) hcv (hcovs _ hsem.1) u1;have hat : RngAt Z Mκ Magg Mτ (w1.alloc (.mapIter (some q) cl #[] cl)) w1.heap.size q cl ents us Mts :=
   ⟨cl, #[], cl, heap_alloc_new w1 _, hq2, hborn, Nat.le_refl _, Nat.le_refl _, hent, u4, by rw [List.filter_eq_self.2 (by simp)]; exact u2⟩
  have hsize : W0.heap.size <= w1.heap.size := hh1.ext.size;have hrounds := hsem.2.2 Mts s (fun y => xV2 (fun e K' h' => match xTa h' rp' Mκ Magg Mτ Mts with
      | some h2 => k e K' h2
      | none => none) o y = some r) (fun π' hπ => by
    obtain ⟨y, y1, y2⟩ := xDt (hall π' hπ);exact ⟨y, y1, y2⟩) D S F W0 Z a2 _ w1.heap.size q cl ents us hK2 hti hh2 hat hsize hoffi (hoffq q rfl).1 (by omega) hcv (Exit.inBlock R.b0 Q) (fun y Z' a' w' hy hpm' hne hcovs' hK' hh' hq' hoff' => ?_)
  ·exact wp_loop_rounds _ hrounds
  ·rw [xEm] at hy;split at hy
   rotate_right
   ·cases hy
   rename_i h3 hrev;have htags : xAI Mτ.tags (xGV o y).roots = true := by
    have := xEi hrev;obtain ⟨z, hz⟩ := xFe o y;rw [hz] at this;exact xPc this
   have hmo : MapOk Z' Mκ Magg Mτ Mts ents cl := xEp hcv (hcovs' _ hsem.1 htags) ⟨us, hent, u2, u3, u4, u5⟩;have fin : HOk S F W0 Z' h3 w' -> Exit.inBlock R.b0 Q (xNh R.b0 (xAN o y).1).out a' w' := by
    intro hh3;have := hn _ Z' _ h3 a' w' (hp1.m.trans (hpm.trans hpm')) hy hK' hh3
    cases hxt : (xAN o y).1 with
    | normal =>
     rw [hxt] at this;show (if R.b0 = R.b0 then Q .normal a' w' else Q (.exit R.b0) a' w');rw [if_pos rfl]; exact this
    | exit id =>
     rw [hxt] at this;show (if id = R.b0 then Q .normal a' w' else Q (.exit id) a' w');rw [if_neg (fun e => hne (by rw [hxt, e]))]; exact this
    | ret => rw [hxt] at this; exact this
   refine fin ?_
   cases Mpl with
   | root id =>
    simp only [xWA, Option.some.injEq] at hrp;subst hrp;have hidm : id < m := by have := Nat.le_of_ble_eq_true hpl; omega
    unfold xKV at hM;split at hM
    ·rename_i id2;split at hM
     ·rename_i hr2;simp only [Option.some.injEq, MpV.mk.injEq, MPl.root.injEq] at hM;obtain ⟨_, rfl, _⟩ := hM;obtain ⟨i, g1, g2, _⟩ := hden;obtain ⟨q', ents', cl', g3, g4, g5, g6⟩ := hh1.ok id2 _ i hr2 g1;have : q' = q := by rw [g2, g3] at k1; cases k1; rfl
      subst this;have hcl : ∀ t, i.objs t = [] := fun t => (hh1.cln id2 _ i hr2 g1).elim (fun e => by cases e) (fun f => f t (by simp [Root.tag]));exact xWB hh' hrev ((hpm.trans hpm') id2 hidm i g1) g3 g4 hcl hq' hmo hoff' (hoffq q' rfl).2
     ·cases hM
    ·split at hM
     ·cases hM
     ·cases hM
    ·cases hM
   | ar p n =>
    simp only [xWA] at hrp;split at hrp
    rotate_right
    ·cases hrp
    rename_i rr hrr;split at hrp
    rotate_right
    ·cases hrp
    rename_i t htag;cases hrp;unfold xKV at hM;split at hM
    ·split at hM
     ·simp at hM
     ·cases hM
    ·rename_i t2 n2;split at hM
     ·rename_i p2 t3 V3 agg3 U3 os hf;simp only [Option.some.injEq, MpV.mk.injEq, MPl.ar.injEq] at hM;obtain ⟨_, ⟨rfl, rfl⟩, _⟩ := hM;obtain ⟨p', hpp, hrr2, ht⟩ := xAA hf;rw [Nat.zero_add] at hpp; subst hpp;rw [hrr] at hrr2;cases hrr2;rw [htag] at ht;cases ht;rcases hden with ⟨_, g1⟩ | ⟨m0, id, i0, g1, g2, g3, q', g4⟩
      ·rw [k1] at g1; cases g1
      ·have : q' = q := by rw [k1] at g4; cases g4; rfl
       subst this;subst g1;obtain ⟨id2, i2, c1, c2⟩ := hcovs [t] hpl t (by simp) id i0 m0 _ g2 g3;have htR : xAI [t] (xGV o y).roots = true := by
        obtain ⟨z, hz⟩ := xFe o y;have h9 := hrev;simp only [xTa, xEi hrev, cond_true] at h9;split at h9
        ·rename_i hfa;refine xPc (z := z) (ids := same) ?_;rw [hz] at hfa;simp only [xNP, List.all_cons, List.all_nil, Bool.and_true];rw [hfa]; rfl
        ·cases h9
       obtain ⟨id3, i3, c3, c4⟩ := hcovs' [t] hpl htR t (by simp) id2 i2 m0 _ c1 c2;rw [k1] at c4;exact rev_ar hh' hrev c3 c4 hq' hmo hoff' (hoffq q' rfl).2
     ·cases hM
    ·cases hM
 ·-- nil
  dsimp only at k2 k3;subst k2; subst k3;refine next none (.mapIter none 0 #[] 0) k1 (run_range_nilMap w1 R.T kt et hT) (fun Z a2 w2 hti hw2 hpm hK2 hh2 hcovs _ hoffi => ?_)
  subst hw2;obtain ⟨y, y1, y2⟩ := xDt (hall [] (List.Perm.refl _));refine wp_loop_rounds 1 (hsem.2.1 s y y1 D S F W0 Z a2 _ w1.heap.size hK2 hti hh2 ⟨0, #[], 0, heap_alloc_new w1 _⟩ (Exit.inBlock R.b0 Q) (fun Z' a' w' hpm' hne hK' hh' => ?_));rw [xEm] at y2;split at y2
  rotate_right
  ·cases y2
  rename_i h3 hrev;have hh3 : h3 = (xAN o y).2.2 := by
   simp only [xWA] at hrp;split at hrp
   rotate_right
   ·cases hrp
   split at hrp
   rotate_right
   ·cases hrp
   cases hrp;simp only [xTa, xEi hrev, cond_true] at hrev;split at hrev
   rotate_right
   ·cases hrev
   rename_i hf;split at hrev
   rotate_right
   ·cases hrev
   split at hrev
   rotate_right
   ·cases hrev
   rename_i f0 f1;have f0' := xCq f0;subst f0';have f1' := xAz f1;subst f1';generalize hb : (Magg == _) = b at hrev
   cases b with
   | false => cases hrev
   | true =>
    simp only [cond_true, Option.some.injEq] at hrev;have := beq_iff_eq.1 hb;subst this;obtain ⟨p', hpp, hrr2, _⟩ := xAA hf;rw [Nat.zero_add] at hpp; subst hpp;rw [<- hrev];apply List.ext_getElem?;intro j;rw [List.getElem?_set];split
    ·rename_i e; subst e;rw [if_pos (List.getElem?_eq_some_iff.1 hrr2).1, hrr2]; rfl
    ·rfl
  subst hh3;have := hn _ Z' _ _ a' w' (hp1.m.trans (hpm.trans hpm')) y2 hK' hh'
  cases hxt : (xAN o y).1 with
  | normal =>
   rw [hxt] at this;show (if R.b0 = R.b0 then Q .normal a' w' else Q (.exit R.b0) a' w');rw [if_pos rfl]; exact this
  | exit id =>
   rw [hxt] at this;show (if id = R.b0 then Q .normal a' w' else Q (.exit id) a' w');rw [if_neg (fun e => hne (by rw [hxt, e]))]; exact this
  | ret => rw [hxt] at this; exact this
end
end
end Go.Proofs.YtnomnijhlbalaaaGreatDoor
