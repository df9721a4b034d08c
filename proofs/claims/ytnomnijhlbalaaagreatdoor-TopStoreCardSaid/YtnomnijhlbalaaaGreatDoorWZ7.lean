/- A part of the proof of the theorem of the last file. No condition. By an AI agent. -/
import Derived.Test.YtnomnijhlbalaaaGreatDoorWZ6
namespace Go.Proofs.YtnomnijhlbalaaaGreatDoor
open Go.RowKit
section
variable {P : Program} {N : Nat} {D : List Deferred} {S F : List Nat} {W0 : World} {O : List Info} {K : Slo} {h : List Root} {w : World} {a : Act} {o : Oper}
theorem xCB {t : TypeId} {z : List CV} {inf : TypeInfo} (hz : xJd P t = some z) (hi : P.info? t = some inf) : ∃ v : Value, inf.zero = some v /\ DenL O z v.cells.toList := by
 unfold xJd at hz;rw [hi] at hz;simp only at hz;split at hz
 ·rename_i v hv; exact ⟨v, hv, xMi hz⟩
 ·cases hz
theorem xFB {t ty e : TypeId} {inf : TypeInfo} (ht : P.underlying t = some (.slice e)) (hi : P.info? e = some inf) {g off n cap m c : Nat} {cur : Array Value} {T : TypeId} (hg : w.heap[g]? = some (.cells cur T (0, 0))) {a2 : Option Addr} {us : List Value}
  (hl : us.length = m * inf.size) (hus : 0 < m -> ∃ b o, a2 = some ⟨b, o, none⟩ /\ ∀ (j : Nat) (u : Value), us[j]? = some u -> w.cell? ⟨b, o + j, none⟩ = some u) (h1 : ∀ u ∈ us, u.oneCell' = true) (hroom : n + m <= cap) (hfit : off + (n + m) * inf.size <= cur.size) :
  (Builtin.append_ #[t, t] ty #[.slice (some ⟨g, off, none⟩) n cap, .slice a2 m c]).run P w =
   .ok (.slice (some ⟨g, off, none⟩) (n + m) cap) (w.setRow g (cur.toList.take (off + n * inf.size) ++ us ++ cur.toList.drop (off + n * inf.size + us.length)).toArray) := by
 have hf : (Builtin.firstCells inf.size m (.slice a2 m c)).run P w = .ok us.toArray w := by
  rcases Nat.eq_zero_or_pos m with h0 | h0
  ·subst h0;obtain rfl : us = [] := List.eq_nil_of_length_eq_zero (by simpa using hl);cases a2 <;> simp [Builtin.firstCells, loadCells, loadCellsFrom]
  ·obtain ⟨b, o, e1, e2⟩ := hus h0;subst e1;exact run_firstCells_some (P := P) w inf.size m ⟨b, o, none⟩ m c us hl (fun j u hu => by rw [Addr.add_lit]; exact e2 j u hu)
 have hst := run_storeCells_at P g (off + n * inf.size) T us 0 cur w hg (by rw [hl]; rw [Nat.add_mul] at hfit; omega) h1;simp only [Nat.add_zero] at hst;simp [Builtin.append_, run_underlying ht, sizeOf, typeInfo, hi, Builtin.lenOf, hroom, hf, Addr.add_lit, hst]
theorem xBI {t : TypeId} {so xo : Operand} (ho : o.op = .call ⟨.builtin .append, ⟨[so, xo]⟩, ⟨[t, t]⟩⟩) {v : Value} {w' : World} (hr : (Builtin.append_ #[t, t] o.type #[a.eval so, a.eval xo]).run P w = .ok v w') : (execOp a.eval o).run P w = .ok (.value v) w' := by
 unfold execOp;simp only [ho];simp [resolve, invoke, builtin, Sem.run_bind, hr, Result.andThen]
theorem xUl {b n m : Nat} (hs : 1000000 * b <= 140737488355328) (h : lenG b n m = true) : n + m <= 1400000000000 /\ (n + m) * b <= 140737488355328 := by
 unfold lenG at h
 cases hb : Nat.beq b 104 with
 | true =>
  rw [hb, cond_true] at h;have := nbT hb;subst this;have h : (n + m) * 104 <= 140737488355328 := by simpa [lenOk2] using h
  exact ⟨by omega, h⟩
 | false =>
  rw [hb, cond_false] at h;have h : n + m <= 1000000 := by simpa [xAR] using h
  exact ⟨by omega, Nat.le_trans (Nat.mul_le_mul_right _ h) hs⟩
theorem xXf {n m : Nat} (h : xAR n m = true) : n + m <= 1000000 := by simpa [xAR] using h
theorem xIm {T k : Nat} {aa : Option Addr} {cap n off : Nat} {vs : List Value} (hw : ownsAt w T k aa cap n vs) (hoff : off <= n) (a' : Option Addr) (hb : a'.map (·.block) = aa.map (·.block)) (h0 : off = 0 -> a' = aa) (h1 : off < cap -> a' = aa.map (·.add (off * k))) : ownsAt w T k a' (cap - off) (n - off) (vs.drop (off * k)) := by
 obtain ⟨k1, k2, k3, k4⟩ := hw;refine ⟨by rw [List.length_drop, k1, Nat.sub_mul], by omega, by omega, ?_⟩;rcases k4 with ⟨k4, k5⟩ | ⟨g, o, cur, k4, k5, k6, k7⟩
 ·exact .inl ⟨by omega, fun b e => k5 b (by rw [<- hb]; exact e)⟩
 ·by_cases hlt : off < cap
  ·refine .inr ⟨g, o + off * k, cur, by rw [h1 hlt, k4, Option.map_some, Addr.add_lit], k5, ?_, ?_⟩
   ·have : (cap - off) * k + off * k = cap * k := by rw [<- Nat.add_mul]; congr 1; omega
    omega
   ·rw [<- k7, List.drop_take, List.drop_drop, Nat.sub_mul]
  ·exact .inl ⟨by omega, fun b e => by
    rw [hb, k4] at e;simp only [Option.map_some, Option.some.injEq] at e;subst e; exact lt_of_block k5⟩
theorem xDz (U : TC) (zs : List U.ty) (x : Nat) : flat U (zs.drop x) = (flat U zs).drop (x * U.w) := by
 rcases Nat.lt_or_ge x zs.length with hx | hx
 ·have := xFX U zs x hx;rw [List.append_nil, List.append_nil] at this;rw [this, List.drop_eq_getElem_cons hx];show U.enc zs[x] ++ _ = U.enc (nth zs U.dflt x) ++ _;rw [<- xAG zs _ x hx];rfl
 ·rw [List.drop_of_length_le hx, List.drop_of_length_le (by rw [xDa]; exact Nat.mul_le_mul_right _ hx)]; rfl
theorem xDy (U : TC) : ∀ (l : List U.ty) (m : Nat), flat U (l.take m) = (flat U l).take (m * U.w)
 | [], m => by simp [flat]
 | x :: l, 0 => by simp [flat]
 | x :: l, m + 1 => by
  have := xDy U l m;simp only [flat] at this;simp only [List.take_succ_cons, flat, List.flatMap_cons, this];rw [show (m + 1) * U.w = (U.enc x).length + m * U.w by rw [U.enc_len, Nat.add_mul]; omega, List.take_length_add_append]
theorem xDZ (U : TC) (xs ys : List U.ty) : flat U (xs ++ ys) = flat U xs ++ flat U ys := by simp [flat]
theorem run_append_nothing {t ty e : TypeId} {inf : TypeInfo} (ht : P.underlying t = some (.slice e)) (hi : P.info? e = some inf) (aa a2 : Option Addr) (n cap c2 : Nat) (hn : n <= cap) : (Builtin.append_ #[t, t] ty #[.slice aa n cap, .slice a2 0 c2]).run P w = .ok (.slice aa n cap) w := by
 cases aa <;> cases a2 <;> simp [Builtin.append_, run_underlying ht, sizeOf, typeInfo, hi, Builtin.lenOf, Builtin.firstCells, loadCells, loadCellsFrom, hn, storeCells]
theorem xIp (hh : HOk S F W0 O h w) {id : Nat} {r : Root} {i : Info} (hr : h[id]? = some r) (hi : O[id]? = some i) (B : List Nat) (hB : ∀ b ∈ B, own i r b) {T : TypeId} {U : TC} {xs : List U.ty} (hw : 0 < U.w) {us : List Value} (hd : DenL O (flat U xs) us) {aa : Option Addr} {cap : Nat} {w' : World} (hrun : (execOp a.eval o).run P w = .ok (.value (.slice aa xs.length cap)) w') (hown : ownsAt w' T U.w aa cap xs.length us) (hE : Ex B w w') (hnew : ∀ b, aa.map (·.block) = some b -> w.heap.size <= b \/ b ∈ B) (hsome : 0 < xs.length -> ∃ b o, aa = some ⟨b, o, none⟩) :
  MemOk P S F W0 O h w a o (.c (.sl h.length U.w 0 none none)) (h.set id .dead ++ [.rows T U xs]) [id] := by
 refine ⟨O ++ [⟨aa, cap, some xs.length, .nilFunc⟩], _, _, _, B, Pre.app _ _, ⟨_, aa, cap, xs.length, xEo hh _, rfl, hown.2.1, hown.2.2.1, hsome, ⟨_, rfl, (Nat.sub_zero _).symm⟩, ⟨_, rfl, by omega⟩, (Nat.sub_zero _).symm, rfl, fun _ => rfl, fun _ => ?_⟩, .inl rfl, hrun, ?_, hE, fun b hb => ⟨id, by simp, r, i, hr, hi, hB b hb⟩, fun q hq hl => by rw [List.getElem?_append_left (by simpa using hl), List.getElem?_set_ne (by simpa [eq_comm] using hq)], Feet.app (i' := ⟨aa, cap, some xs.length, .nilFunc⟩) (r' := .rows T U xs) hh.len (by simp) (fun q s hs => by
   rw [List.getElem?_set] at hs;split at hs
   ·split at hs
    ·exact .inl (Option.some.inj hs).symm
    ·cases hs
   ·exact .inr hs) (fun b hb => (hnew b hb).imp (fun x => x) (fun hb => ⟨id, r, i, hr, hi, xAm (hB b hb)⟩))⟩
 ·cases aa <;> simp [Addr.add]
 ·refine hh.move id B hE (fun q s j b hq hs hj hf hb => ?_) (fun b hb => hh.mine id r i b hr hi (hB b hb)) _ _ ⟨rfl, hw, us, hd.mono (Pre.app _ _), hown⟩ (fun b hb => hnew b hb);exact hh.sep id q r s i j b (Ne.symm hq) hr hs hi hj (hB b hb) hf
theorem xEB {α : Type} {l : List α} {p : Nat} {r : α} (hr : l[p]? = some r) : l.set p r = l := by
 apply List.ext_getElem?;intro q;rw [List.getElem?_set];split
 ·rename_i e;subst e;have := (List.getElem?_eq_some_iff.1 hr).1;rw [if_pos this, hr]
 ·rfl
theorem Feet.set {w : World} {id : Nat} {r r' : Root} {i : Info} (hr : h[id]? = some r) (hi : O[id]? = some i) (hf : ∀ b, foot i r' b -> foot i r b) : Feet O h w O (h.set id r') := by
 intro q s j b hs hj hb;rw [List.getElem?_set] at hs;split at hs
 ·rename_i e;subst e;split at hs
  ·cases hs;rw [hi] at hj; cases hj;exact .inr ⟨_, r, i, hr, hi, hf b hb⟩
  ·cases hs
 ·exact .inr ⟨q, s, j, hs, hj, hb⟩
theorem xRW (hK : KOk N D O K a) (hh : HOk S F W0 O h w) {t : TypeId} {s x : Operand} (ho : o.op = .call ⟨.builtin .append, ⟨[s, x]⟩, ⟨[t, t]⟩⟩) : xEX P S F W0 O h w a o (xOR P K h t s x) := by
 unfold xOR;split
 ·rename_i e hd;split
  ·rename_i inf z hi hz;obtain ⟨zv, hzv, hzd⟩ := xCB (O := O) hz hi
   cases hc0 : (Nat.beq z.length inf.size && xJw inf.bytes) with
   | false => trivial
   | true =>
    simp only [Bool.and_eq_true] at hc0;have hzs : zv.cells.size = inf.size := by
     have h1 := hzd.len;have h2 := nbT hc0.1;simp at h1; omega
    have hsm : 1000000 * inf.bytes <= 140737488355328 := Nat.le_of_ble_eq_true hc0.2;simp only [cond_true];split
    ·rename_i id k off n y hs hy;split
     ·rename_i T U xs hr
      cases hc1 : (Nat.beq T e && Nat.beq k U.w && Nat.beq inf.size U.w) with
      | false => trivial
      | true =>
       simp only [Bool.and_eq_true] at hc1;obtain ⟨⟨hc2, hc3⟩, hc4⟩ := hc1;have hTe := nbT hc2;have hkw := nbT hc3;have hsz := nbT hc4;subst hTe;subst hkw;simp only [cond_true];split
       ·rename_i ys hys;obtain ⟨i, a', c', nn, h1, h2, h3, h4, h5, h6, ⟨m0, h7, h8⟩, h9, h9', h10, h11⟩ := xAa hK hs;obtain ⟨g0, g1, vs, g2, g3⟩ := hh.ok id _ i hr h1;rw [g0] at h7; cases h7;obtain ⟨a2, c2, us, s1, s2, s3⟩ := xKy hh (xAa hK hy) hys;have hul : us.length = ys.length * inf.size := by rw [s2.len, xDa, hsz]
        have howB : ∀ b ∈ (i.a.map (·.block)).toList, own i (.rows T U xs) b := fun b hb => by simpa [own, eq_comm] using hb
        split
        ·-- the whole rest
         obtain ⟨m1, e1, e2⟩ := h6;rw [g0] at e1; cases e1;have hoff : off <= xs.length := by omega
         have hown := xIm g3 hoff a' h9' h10 h11;rw [<- h9] at hown;intro hg;obtain ⟨hlen, hlb⟩ := xUl hsm hg.1;have hbytes : ∀ q : Nat, q <= (xs.length - off) + ys.length -> q * inf.bytes <= 140737488355328 := fun q hq => Nat.le_trans (Nat.mul_le_mul_right _ hq) hlb;have hnl : (xs.drop off ++ ys).length = nn + ys.length := by rw [List.length_append, List.length_drop]; omega
         have hdl : DenL O (flat U (xs.drop off ++ ys)) (vs.drop (off * U.w) ++ us) := by
          rw [xDZ, xDz]; exact (g2.drop _).app s2
         have hvl : (vs.drop (off * U.w)).length = nn * U.w := by rw [hown.1, e2]
         have hblk : ∀ b, a'.map (·.block) = some b -> b ∈ (i.a.map (·.block)).toList := fun b hb => by rw [<- h9', hb]; simp
         rcases Nat.eq_zero_or_pos ys.length with hm | hm
         ·have hy0 : ys = [] := List.length_eq_zero_iff.1 hm;subst hy0;have hu0 : us = [] := List.eq_nil_of_length_eq_zero (by simpa using hul);subst hu0;have hrun := run_append_nothing (P := P) (w := w) (ty := o.type) hd hi a' a2 nn c' c2 h3;refine xIp hh hr h1 _ howB (cap := c') g1 hdl (xBI ho (by rw [h2, s1, hnl]; exact hrun)) ?_ (Ex.refl _ _) (fun b hb => .inr (hblk b hb)) (fun hp => ?_)
          ·rw [hnl, List.append_nil]; rw [<- e2] at hown; exact hown
          ·obtain ⟨b, o', h12⟩ := h5 (by omega);rw [h11 (by omega), h12, Option.map_some, Addr.add_lit];exact ⟨_, _, rfl⟩
         ·rcases Nat.lt_or_ge c' (nn + ys.length) with hgrow | hroom
          ·obtain ⟨b2, o2, s4, s5⟩ := s3 hm;subst s4;have hres : ∃ v' w', (Builtin.append_ #[t, t] o.type #[.slice a' nn c', .slice (some ⟨b2, o2, none⟩) ys.length c2]).run P w = .ok v' w' /\ w'.ownsRow w.heap.size T inf.size v' (nn + ys.length) (vs.drop (off * U.w) ++ us) /\ w.grownBy w' none := by
            rcases hown.2.2.2 with ⟨k1, _⟩ | ⟨g, og, cur, k1, k2, k3, k4⟩
            ·have hn0 : nn = 0 := by omega
             have hv0 : vs.drop (off * U.w) = [] := List.eq_nil_of_length_eq_zero (by rw [hvl, hn0]; simp);rw [hv0]
             cases a' with
             | none =>
              obtain ⟨v', w', hrun, r1, r2, _⟩ := run_append_own (P := P) w w.heap.size t o.type T inf zv inf.size inf.bytes hd hi hzv rfl rfl hzs (by omega) (.slice none 0 0) 0 [] (World.ownsRow_nil w _ T inf.size) ⟨b2, o2, none⟩ ys.length c2 us hul (fun j u hu => by rw [Addr.add_lit]; exact s5 j u hu) s2.ones (by unfold maxLen; omega) (hbytes _ (by omega)) (Nat.le_refl _);refine ⟨v', w', ?_, by rw [hn0]; exact r1, r2⟩;rw [hn0, k1]; exact hrun
             | some b =>
              obtain ⟨v', w', hrun, r1, r2⟩ := run_append_arg_grows (P := P) w t o.type T inf zv inf.size inf.bytes hd hi hzv rfl rfl hzs (by omega) b nn c' [] (by simp [hn0]) (by simp) ⟨b2, o2, none⟩ ys.length c2 us hul (fun j u hu => by rw [Addr.add_lit]; exact s5 j u hu) hgrow (by unfold maxLen; omega) (hbytes _ (by omega));exact ⟨v', w', hrun, r1, r2⟩
            ·subst k1;obtain ⟨v', w', hrun, r1, r2⟩ := run_append_arg_grows (P := P) w t o.type T inf zv inf.size inf.bytes hd hi hzv rfl rfl hzs (by omega) ⟨g, og, none⟩ nn c' (vs.drop (off * U.w)) (by rw [hvl, hsz]) (fun j u hu => by rw [Addr.add_lit]; exact xCR hown hu) ⟨b2, o2, none⟩ ys.length c2 us hul (fun j u hu => by rw [Addr.add_lit]; exact s5 j u hu) hgrow (by unfold maxLen; omega) (hbytes _ (by omega));exact ⟨v', w', hrun, r1, r2⟩
           obtain ⟨v', w', hrun, r1, r2⟩ := hres;obtain ⟨r3, r4⟩ := r1;rcases r4 with ⟨_, r4⟩ | ⟨g, cap, cur, r4, r5, r6, r7, r8, r9, r10⟩
           ·omega
           ·subst r4;refine xIp hh hr h1 [] (by simp) (cap := cap) g1 hdl (xBI ho (by rw [h2, s1, hnl]; exact hrun)) ?_ (Ex.of_grown r2) (fun b hb => .inl ?_) (fun _ => ⟨g, 0, rfl⟩)
            ·rw [hnl];exact ⟨by rw [r3, hsz], r7, r8, .inr ⟨g, 0, cur, rfl, r6, by rw [<- hsz]; omega, by rw [hsz] at r10; simpa using r10⟩⟩
            ·simp only [Option.map_some, Option.some.injEq] at hb;omega
          ·rcases hown.2.2.2 with ⟨k1, _⟩ | ⟨g, og, cur, k1, k2, k3, k4⟩
           ·omega
           ·subst k1;have hfit : og + (nn + ys.length) * inf.size <= cur.size := by
             have := Nat.mul_le_mul_right U.w hroom;rw [hsz]; omega
            have hrun := xFB (P := P) (w := w) (ty := o.type) hd hi (n := nn) (cap := c') (c := c2) k2 hul s3 s2.ones hroom hfit;refine xIp hh hr h1 _ howB (cap := c') g1 hdl (xBI ho (by rw [h2, s1, hnl]; exact hrun)) ?_ ((Ex.setRow w g _).mono (fun b hb => ?_)) (fun b hb => .inr (hblk b hb)) (fun _ => ⟨g, og, rfl⟩)
            ·rw [hnl];rw [Nat.add_mul, hsz] at hfit;refine ⟨by rw [List.length_append, hvl, hul, hsz, Nat.add_mul], hroom, h4, .inr ⟨g, og, _, rfl, setRow_heap _ _ _ _ _ _ k2, ?_, ?_⟩⟩
             ·simp only [List.size_toArray, List.length_append, List.length_take, List.length_drop, Array.length_toList];rw [hul, hsz]; omega
             ·rw [hsz];have hpl := xEF cur.toList us og (nn * U.w) ((nn + ys.length) * U.w) (by rw [hul, hsz, Nat.add_mul]; omega) (by simp only [Array.length_toList]; rw [Nat.add_mul]; omega);have e3 : vs.drop (off * U.w) = (cur.toList.drop og).take (nn * U.w) := by rw [<- e2] at k4; exact k4.symm
              rw [e3];refine hpl.trans ?_;rw [List.take_take, Nat.min_eq_left (by rw [Nat.add_mul]; omega), List.drop_of_length_le (l := (cur.toList.drop og).take ((nn + ys.length) * U.w)) (by rw [List.length_take, hul, hsz, Nat.add_mul]; omega), List.append_nil]
            ·rw [List.mem_singleton] at hb;subst hb;exact hblk b (by simp)
        ·rename_i n0
         ·intro hgd;have hb' := Nat.le_of_ble_eq_true hgd.1;simp only [Info.cnt] at h6;subst h6;have hcap := g3.2.1;have hnewlen : (xs.take (off + nn) ++ ys ++ xs.drop (off + nn + ys.length)).length = xs.length := by
           rw [List.length_append, List.length_append, List.length_take, List.length_drop]; omega
          have hden : ∀ p, a' = p -> DenP O (.c (.sl id U.w off (some (nn + ys.length)) none)) (.slice p (nn + ys.length) c') := by
           intro p hp;subst hp;refine ⟨i, a', c', nn + ys.length, h1, rfl, by omega, h4, fun hp => ?_, rfl, ⟨_, g0, by omega⟩, h9, h9', h10, h11⟩;rcases g3.2.2.2 with ⟨k1, _⟩ | ⟨g, og, cur, k1, _⟩
           ·omega
           ·exact ⟨g, og, k1⟩
          rcases Nat.eq_zero_or_pos ys.length with hm | hm
          ·have hy0 : ys = [] := List.length_eq_zero_iff.1 hm;subst hy0;have hrun := run_append_nothing (P := P) (w := w) (ty := o.type) hd hi a' a2 nn c' c2 h3;have e1 : xs.take (off + nn) ++ [] ++ xs.drop (off + nn + ([] : List U.ty).length) = xs := by simp
           refine ⟨O, _, _, w, [], Pre.refl _, hden _ rfl, .inl rfl, xBI ho (by rw [h2, s1]; exact hrun), ?_, Ex.refl _ _, by simp, fun q hq _ => List.getElem?_set_ne (by simpa [eq_comm] using hq), ?_⟩
           ·rw [e1, xEB hr];exact hh
           ·rw [e1, xEB hr];exact Feet.refl w
          ·rcases g3.2.2.2 with ⟨k1, _⟩ | ⟨g, og, cur, k1, k2, k3, k4⟩
           ·omega
           ·have ha' : a' = some ⟨g, og + off * U.w, none⟩ := by rw [h11 (by omega), k1, Option.map_some, Addr.add_lit]
            subst ha';have hxw : xs.length * U.w <= i.cap * U.w := Nat.mul_le_mul_right _ hcap;have hall : (off + nn + ys.length) * U.w <= xs.length * U.w := Nat.mul_le_mul_right _ hb';have hsplit : (off + nn + ys.length) * U.w = off * U.w + nn * U.w + ys.length * U.w := by rw [Nat.add_mul, Nat.add_mul]
            have hfit : og + off * U.w + (nn + ys.length) * inf.size <= cur.size := by
             rw [hsz, Nat.add_mul]; omega
            have hrun := xFB (P := P) (w := w) (ty := o.type) hd hi (n := nn) (cap := c') (c := c2) k2 hul s3 s2.ones (by omega) hfit;have hown0 : own i (.rows T U xs) g := by simp [own, k1]
            refine ⟨O, _, _, _, [g], Pre.refl _, hden _ rfl, .inl rfl, xBI ho (by rw [h2, s1]; exact hrun), ?_, Ex.setRow w g _, fun b hb => ?_, fun q hq _ => List.getElem?_set_ne (by simpa [eq_comm] using hq), Feet.set hr h1 (fun b hb => by simpa [foot, own] using hb)⟩
            ·refine hh.setr hr h1 hown0 (Ex.setRow w g _) _ ⟨by rw [g0, hnewlen], g1, vs.take ((off + nn) * U.w) ++ us ++ vs.drop ((off + nn) * U.w + us.length), ?_, ?_⟩ (fun c hc => by simpa [foot, own, k1, eq_comm] using hc) (fun c hc => by simpa [own, k1, eq_comm] using hc)
             ·rw [xDZ, xDZ, xDy, xDz];refine DenL.app (DenL.app (g2.take _) s2) ?_;rw [hul, hsz, <- Nat.add_mul];exact g2.drop _
             ·rw [hnewlen];refine ⟨?_, hcap, g3.2.2.1, .inr ⟨g, og, _, k1, setRow_heap _ _ _ _ _ _ k2, ?_, ?_⟩⟩
              ·rw [List.length_append, List.length_append, List.length_take, List.length_drop, g3.1, hul, hsz, Nat.add_mul]; omega
              ·simp only [List.size_toArray, List.length_append, List.length_take, List.length_drop, Array.length_toList];rw [hul, hsz]; omega
              ·have hpl := xEF cur.toList us og ((off + nn) * U.w) (xs.length * U.w) (by rw [hul, hsz, <- Nat.add_mul]; exact hall) (by simp only [Array.length_toList]; omega);rw [k4] at hpl;rw [<- hpl, hsz];simp only [Nat.add_mul, Nat.add_assoc]
            ·rw [List.mem_singleton] at hb;subst hb;exact ⟨id, by simp, _, i, hr, h1, hown0⟩
       ·trivial
     ·trivial
    ·rename_i y hs hy
     cases hc1 : (Nat.beq inf.size (xBs P 20 e).w && Nat.ble 1 inf.size) with
     | false => trivial
     | true =>
      simp only [Bool.and_eq_true] at hc1;have hsz := nbT hc1.1;have hpos := Nat.le_of_ble_eq_true hc1.2;simp only [cond_true];split
      ·rename_i ys hys;obtain ⟨a2, c2, us, s1, s2, s3⟩ := xKy hh (xAa hK hy) hys;have h2 : a.eval s = .slice none 0 0 := (xAa hK hs).1;have hul : us.length = ys.length * inf.size := by rw [s2.len, xDa, hsz]
       intro hg;obtain ⟨hlen, hlb⟩ := xUl hsm hg.1;have hbytes : ∀ q : Nat, q <= 0 + ys.length -> q * inf.bytes <= 140737488355328 := fun q hq => Nat.le_trans (Nat.mul_le_mul_right _ hq) hlb;rcases Nat.eq_zero_or_pos ys.length with hm | hm
       ·have hy0 : ys = [] := List.length_eq_zero_iff.1 hm;subst hy0;have hu0 : us = [] := List.eq_nil_of_length_eq_zero (by simpa using hul);subst hu0;have hrun := run_append_nothing (P := P) (w := w) (ty := o.type) hd hi none a2 0 0 c2 (Nat.le_refl _);rw [hsz];exact xFL hh (by omega) s2 (xBI ho (by rw [h2, s1]; exact hrun)) (World.ownsRow_nil w _ e _) (Ex.refl _ _)
       ·obtain ⟨b2, o2, s4, s5⟩ := s3 hm;subst s4;obtain ⟨v', w', hrun, r1, r2, _⟩ := run_append_own (P := P) w w.heap.size t o.type e inf zv inf.size inf.bytes hd hi hzv rfl rfl hzs (by omega) (.slice none 0 0) 0 [] (World.ownsRow_nil w _ e inf.size) ⟨b2, o2, none⟩ ys.length c2 us hul (fun j u hu => by rw [Addr.add_lit]; exact s5 j u hu) s2.ones (by unfold maxLen; omega) (hbytes _ (by omega)) (Nat.le_refl _);rw [hsz] at r1 ⊢;exact xFL hh (by omega) s2 (xBI ho (by rw [h2, s1]; exact hrun)) (by simpa using r1) (Ex.of_grown r2)
      ·trivial
    ·trivial
  ·trivial
 ·trivial
end
end Go.Proofs.YtnomnijhlbalaaaGreatDoor
