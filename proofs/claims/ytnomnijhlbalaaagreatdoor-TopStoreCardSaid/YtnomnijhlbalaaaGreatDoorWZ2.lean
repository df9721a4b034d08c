/- A part of the proof of the theorem of the last file. No condition. By an AI agent. -/
import Derived.Test.YtnomnijhlbalaaaGreatDoorWZ1
import Derived.Laws.CopyRow
namespace Go.Proofs.YtnomnijhlbalaaaGreatDoor
open Go.RowKit
section
variable {S F : List Nat} {W0 : World} {O : List Info} {h : List Root} {w w' : World}
theorem xBa {i : Info} {b : Nat} : ¬ foot i .dead b := by simp [foot, own]
theorem HOk.masked (hh : HOk S F W0 O h w) (L : List Nat) : HOk S F W0 O (xTY L h) w := by
 refine ⟨hh.ext, by rw [xPY, hh.len], fun id r i hr hi => ?_, fun p q r s i j b hpq hr hs hi hj ho => ?_, fun p r i b hr hi ho => ?_, fun p r i b hr hi ho => ?_, hh.lay, hh.out, fun p t r i hr hi ht => ?_, fun p r i hr hi => ?_⟩
 rotate_right
 ·rcases xCe L h 0 p r hr with ⟨h1, _⟩ | ⟨rfl, _⟩
  ·exact hh.cln p r i h1 hi
  ·exact .inl rfl
 ·rcases xCe L h 0 id r hr with ⟨h1, _⟩ | ⟨rfl, _⟩
  ·exact hh.ok id r i h1 hi
  ·trivial
 ·rcases xCe L h 0 p r hr with ⟨h1, _⟩ | ⟨rfl, _⟩
  ·rcases xCe L h 0 q s hs with ⟨h2, _⟩ | ⟨rfl, _⟩
   ·exact hh.sep p q r s i j b hpq h1 h2 hi hj ho
   ·exact xBa
  ·cases ho
 ·rcases xCe L h 0 p r hr with ⟨h1, _⟩ | ⟨rfl, _⟩
  ·exact hh.mine p r i b h1 hi ho
  ·cases ho
 ·rcases xCe L h 0 p r hr with ⟨h1, _⟩ | ⟨rfl, _⟩
  ·exact hh.near p r i b h1 hi ho
  ·exact absurd ho xBa
 ·rcases xCe L h 0 p r hr with ⟨h1, _⟩ | ⟨rfl, _⟩
  ·exact hh.cov p t r i h1 hi ht
  ·cases ht
theorem get_lt {O : List Info} {h : List Root} (e : O.length = h.length) {p : Nat} {i' : Info} {i : Info} (hp : p < h.length) (hi : (O ++ [i'])[p]? = some i) : O[p]? = some i := by
 rwa [List.getElem?_append_left (by omega)] at hi
theorem xLd {O : List Info} {h : List Root} (e : O.length = h.length) {i' : Info} {i : Info} (hi : (O ++ [i'])[h.length]? = some i) : i = i' := by
 rw [List.getElem?_append_right (by omega)] at hi;simpa [e] using hi.symm
theorem HOk.move (hh : HOk S F W0 O h w) (p : Nat) (B : List Nat) (hE : Ex B w w') (hB : ∀ q r i b, q ≠ p -> h[q]? = some r -> O[q]? = some i -> foot i r b -> b ∉ B) (hB0 : ∀ b ∈ B, W0.heap.size <= b \/ b ∈ S)
  (i' : Info) (r' : Root) (hr : RootOk (O ++ [i']) w' i' r') (hnew : ∀ b, foot i' r' b -> w.heap.size <= b \/ b ∈ B) (hN : ∀ t, i'.objs t = [] := by intro _; rfl) (ht' : r'.tag = none := by rfl) : HOk S F W0 (O ++ [i']) (h.set p .dead ++ [r']) w' := by
 have old : ∀ (q : Nat) (r : Root) (i : Info), q < h.length -> (h.set p .dead ++ [r'])[q]? = some r -> (O ++ [i'])[q]? = some i -> (r = .dead \/ (q ≠ p /\ h[q]? = some r)) /\ O[q]? = some i := by
  intro q r i hq h1 h2;refine ⟨?_, get_lt hh.len hq h2⟩;rw [List.getElem?_append_left (by simpa using hq), List.getElem?_set] at h1;split at h1
  ·rename_i e;subst e;rw [if_pos hq] at h1;exact .inl (Option.some.inj h1).symm
  ·rename_i e;exact .inr ⟨fun x => e x.symm, h1⟩
 have cases' : ∀ (q : Nat) (r : Root) (i : Info), (h.set p .dead ++ [r'])[q]? = some r -> (O ++ [i'])[q]? = some i -> (q < h.length /\ (r = .dead \/ (q ≠ p /\ h[q]? = some r)) /\ O[q]? = some i) \/ (q = h.length /\ r = r' /\ i = i') := by
  intro q r i h1 h2;rcases Nat.lt_or_ge q h.length with hq | hq
  ·exact .inl ⟨hq, old q r i hq h1 h2⟩
  ·have hlt := (List.getElem?_eq_some_iff.1 h1).1;simp at hlt;obtain rfl : q = h.length := by omega
   refine .inr ⟨rfl, ?_, xLd hh.len h2⟩;rw [List.getElem?_append_right (by simp)] at h1;simpa using h1.symm
 refine ⟨?_, by simp [hh.len], ?_, ?_, ?_, ?_, hh.lay, hh.out, ?_, ?_⟩
 rotate_right
 ·intro q r i h1 h2;rcases cases' q r i h1 h2 with ⟨_, h3, h4⟩ | ⟨_, rfl, rfl⟩
  ·rcases h3 with rfl | ⟨_, h3⟩
   ·exact .inl rfl
   ·exact hh.cln q r i h3 h4
  ·exact .inr fun t _ => hN t
 ·refine ⟨hE.os.trans hh.ext.os, hE.tape.trans hh.ext.tape, hE.output.trans hh.ext.output, Nat.le_trans hh.ext.size hE.size, fun k hk hs => ?_⟩;have hkB : k ∉ B := fun hb => by
   rcases hB0 k hb with h1 | h1
   ·omega
   ·exact hs h1
  rw [hE.block k (Nat.lt_of_lt_of_le hk hh.ext.size) hkB];exact hh.ext.block k hk hs
 ·intro q r i h1 h2;rcases cases' q r i h1 h2 with ⟨_, h3, h4⟩ | ⟨_, rfl, rfl⟩
  ·rcases h3 with rfl | ⟨hne, h3⟩
   ·trivial
   ·exact ((hh.ok q r i h3 h4).ex hE (fun b hb => hB q r i b hne h3 h4 hb)).mono (Pre.app _ _)
  ·exact hr
 ·intro q1 q2 r s i j b hq hr1 hs1 hi hj ho;rcases cases' q1 r i hr1 hi with ⟨l1, h3, h4⟩ | ⟨e1, rfl, rfl⟩
  ·rcases h3 with rfl | ⟨hne, h3⟩
   ·cases ho
   ·rcases cases' q2 s j hs1 hj with ⟨l2, h5, h6⟩ | ⟨e2, rfl, rfl⟩
    ·rcases h5 with rfl | ⟨_, h5⟩
     ·exact xBa
     ·exact hh.sep q1 q2 r s i j b hq h3 h5 h4 h6 ho
    ·intro hf;have hb := xAm ho;rcases hnew b hf with hx | hx
     ·have := (hh.ok q1 r i h3 h4).lt hb; omega
     ·exact hB q1 r i b hne h3 h4 hb hx
  ·rcases cases' q2 s j hs1 hj with ⟨l2, h5, h6⟩ | ⟨e2, rfl, rfl⟩
   ·rcases h5 with rfl | ⟨hne, h5⟩
    ·exact xBa
    ·intro hf;rcases hnew b (xAm ho) with hx | hx
     ·have := (hh.ok q2 s j h5 h6).lt hf; omega
     ·exact hB q2 s j b hne h5 h6 hf hx
   ·exact absurd (e1.trans e2.symm) hq
 ·intro q r i b h1 h2 ho;rcases cases' q r i h1 h2 with ⟨_, h3, h4⟩ | ⟨_, rfl, rfl⟩
  ·rcases h3 with rfl | ⟨_, h3⟩
   ·cases ho
   ·exact hh.mine q r i b h3 h4 ho
  ·rcases hnew b (xAm ho) with hx | hx
   ·exact .inl (Nat.le_trans hh.ext.size hx)
   ·exact hB0 b hx
 ·intro q r i b h1 h2 ho;rcases cases' q r i h1 h2 with ⟨_, h3, h4⟩ | ⟨_, rfl, rfl⟩
  ·rcases h3 with rfl | ⟨_, h3⟩
   ·exact absurd ho xBa
   ·exact hh.near q r i b h3 h4 ho
  ·rcases hnew b ho with hx | hx
   ·exact .inl (Nat.le_trans hh.ext.size hx)
   ·rcases hB0 b hx with h5 | h5
    ·exact .inl h5
    ·exact .inr (.inl h5)
 ·intro q t r i h1 h2 ht id j m v hj hv;have hjo : O[id]? = some j := by
   rcases Nat.lt_or_ge id h.length with hq | hq
   ·exact get_lt hh.len hq hj
   ·have hlt := (List.getElem?_eq_some_iff.1 hj).1;rw [List.length_append, hh.len, List.length_singleton] at hlt;obtain rfl : id = h.length := by omega
    rw [xLd hh.len hj, hN] at hv; simp at hv
  rcases cases' q r i h1 h2 with ⟨_, h3, h4⟩ | ⟨_, rfl, rfl⟩
  ·rcases h3 with rfl | ⟨_, h3⟩
   ·cases ht
   ·exact hh.cov q t r i h3 h4 ht id j m v hjo hv
  ·rw [ht'] at ht; cases ht
theorem HOk.add (hh : HOk S F W0 O h w) (hE : Ext w w') (i' : Info) (r' : Root) (hr : RootOk (O ++ [i']) w' i' r') (hnew : ∀ b, foot i' r' b -> w.heap.size <= b) (hN : ∀ t, i'.objs t = [] := by intro _; rfl) (ht' : r'.tag = none := by rfl) : HOk S F W0 (O ++ [i']) (h ++ [r']) w' := by
 have := hh.move h.length [] hE (fun _ _ _ _ _ _ _ _ => by simp) (by simp) i' r' hr (fun b hb => .inl (hnew b hb)) hN ht';rwa [List.set_eq_of_length_le (Nat.le_refl _)] at this
theorem HOk.setg (hh : HOk S F W0 O h w) {p : Nat} {r : Root} {i : Info} {b : Nat} (hp : h[p]? = some r) (hi : O[p]? = some i) (hb : own i r b) (hE : Ex [b] w w') (r' : Root) (hr : RootOk O w' i r') (hf : ∀ c, foot i r' c -> own i r c) (htg : r'.tag = r.tag := by rfl) : HOk S F W0 O (h.set p r') w' := by
 have hlt := (List.getElem?_eq_some_iff.1 hp).1;have get : ∀ (q : Nat) (s : Root), (h.set p r')[q]? = some s -> (q = p /\ s = r') \/ (q ≠ p /\ h[q]? = some s) := by
  intro q s hs;rw [List.getElem?_set] at hs;split at hs
  ·rename_i e;subst e;exact .inl ⟨rfl, (Option.some.inj hs).symm⟩
  ·rename_i e;exact .inr ⟨fun x => e x.symm, hs⟩
 have hmine := hh.mine p r i b hp hi hb;refine ⟨?_, by simp [hh.len], ?_, ?_, ?_, ?_, hh.lay, hh.out, ?_, ?_⟩
 rotate_right
 ·intro q s j hs hj;rcases get q s hs with ⟨rfl, rfl⟩ | ⟨hne, h1⟩
  ·rcases hh.cln q r j hp hj with g | g
   ·subst g; cases hb
   ·exact .inr fun t ht => g t (by rw [<- htg]; exact ht)
  ·exact hh.cln q s j h1 hj
 ·refine ⟨hE.os.trans hh.ext.os, hE.tape.trans hh.ext.tape, hE.output.trans hh.ext.output, Nat.le_trans hh.ext.size hE.size, fun k hk hs => ?_⟩;have hkB : k ∉ [b] := fun e => by
   simp only [List.mem_singleton] at e;subst e;rcases hmine with h1 | h1
   ·omega
   ·exact hs h1
  rw [hE.block k (Nat.lt_of_lt_of_le hk hh.ext.size) hkB];exact hh.ext.block k hk hs
 ·intro q s j hs hj;rcases get q s hs with ⟨rfl, rfl⟩ | ⟨hne, h1⟩
  ·rw [hi] at hj; cases hj; exact hr
  ·refine (hh.ok q s j h1 hj).ex hE (fun c hc e => ?_);simp only [List.mem_singleton] at e;subst e;exact hh.sep p q r s i j c (Ne.symm hne) hp h1 hi hj hb hc
 ·intro q1 q2 s t j k c hq hs ht hj hk hc;rcases get q1 s hs with ⟨rfl, rfl⟩ | ⟨hne, h1⟩
  ·rw [hi] at hj; cases hj;have hcr := hf c (xAm hc);rcases get q2 t ht with ⟨rfl, rfl⟩ | ⟨_, h2⟩
   ·exact absurd rfl hq
   ·exact hh.sep q1 q2 r t i k c hq hp h2 hi hk hcr
  ·rcases get q2 t ht with ⟨rfl, rfl⟩ | ⟨_, h2⟩
   ·rw [hi] at hk; cases hk;intro hf2;exact hh.sep q1 q2 s r j i c hq h1 hp hj hi hc (xAm (hf c hf2))
   ·exact hh.sep q1 q2 s t j k c hq h1 h2 hj hk hc
 ·intro q s j c hs hj hc;rcases get q s hs with ⟨rfl, rfl⟩ | ⟨_, h1⟩
  ·rw [hi] at hj; cases hj;exact hh.mine q r i c hp hi (hf c (xAm hc))
  ·exact hh.mine q s j c h1 hj hc
 ·intro q s j c hs hj hc;rcases get q s hs with ⟨rfl, rfl⟩ | ⟨_, h1⟩
  ·rw [hi] at hj; cases hj;rcases hh.mine q r i c hp hi (hf c hc) with h5 | h5
   ·exact .inl h5
   ·exact .inr (.inl h5)
  ·exact hh.near q s j c h1 hj hc
 ·intro q t s j hs hj ht;rcases get q s hs with ⟨rfl, rfl⟩ | ⟨_, h1⟩
  ·rw [hi] at hj; cases hj;rw [htg] at ht;exact hh.cov q t r i hp hi ht
  ·exact hh.cov q t s j h1 hj ht
theorem HOk.setr (hh : HOk S F W0 O h w) {p : Nat} {r : Root} {i : Info} {b : Nat} (hp : h[p]? = some r) (hi : O[p]? = some i) (hb : own i r b) (hE : Ex [b] w w') (r' : Root) (hr : RootOk O w' i r') (hf : ∀ c, foot i r' c -> c = b) (_ho : ∀ c, own i r' c -> c = b) (htg : r'.tag = r.tag := by rfl) : HOk S F W0 O (h.set p r') w' :=
 hh.setg hp hi hb hE r' hr (fun c hc => by rw [hf c hc]; exact hb) htg
theorem HOk.regroup (hh : HOk S F W0 O h w) (L : List Nat) (N : List (Info × Root)) (hN : ∀ (j : Nat) (x : Info × Root), N[j]? = some x -> RootOk (O ++ N.map Prod.fst) w x.1 x.2 /\ ∀ b, foot x.1 x.2 b -> ∃ p ∈ L, ∃ r i, h[p]? = some r /\ O[p]? = some i /\ own i r b)
  (hS : ∀ (j k : Nat) (x y : Info × Root) (b : Nat), j ≠ k -> N[j]? = some x -> N[k]? = some y -> own x.1 x.2 b -> ¬ foot y.1 y.2 b)
  (hC : ∀ (j t : Nat) (x : Info × Root), N[j]? = some x -> x.2.tag = some t -> ∀ (id : Nat) (i : Info) (m : Nat) (v : Value), (O ++ N.map Prod.fst)[id]? = some i -> (i.objs t)[m]? = some v -> (x.1.objs t)[m]? = some v)
  (hC2 : ∀ (p t : Nat) (r : Root) (i : Info), h[p]? = some r -> O[p]? = some i -> p ∉ L -> r.tag = some t -> ∀ (j : Nat) (x : Info × Root) (m : Nat) (v : Value), N[j]? = some x -> (x.1.objs t)[m]? = some v -> (i.objs t)[m]? = some v)
  (hCl : ∀ (j : Nat) (x : Info × Root), N[j]? = some x -> Cln x.1 x.2) :
  HOk S F W0 (O ++ N.map Prod.fst) (L.foldl (fun h p => h.set p .dead) h ++ N.map Prod.snd) w := by
 have hlen : ∀ (L : List Nat) (h : List Root), (L.foldl (fun h p => h.set p .dead) h).length = h.length := by
  intro L
  induction L with
  | nil => intro h; rfl
  | cons p L ih => intro h; rw [List.foldl_cons, ih]; simp
 have hget : ∀ (L : List Nat) (h : List Root) (q : Nat) (r : Root), (L.foldl (fun h p => h.set p .dead) h)[q]? = some r -> r = .dead \/ (q ∉ L /\ h[q]? = some r) := by
  intro L
  induction L with
  | nil => intro h q r e; exact .inr ⟨by simp, e⟩
  | cons p L ih =>
   intro h q r e;rw [List.foldl_cons] at e;rcases ih _ q r e with h1 | ⟨h1, h2⟩
   ·exact .inl h1
   ·rw [List.getElem?_set] at h2;split at h2
    ·rename_i e2;split at h2
     ·exact .inl (Option.some.inj h2).symm
     ·cases h2
    ·rename_i e2;exact .inr ⟨by simp [h1, Ne.symm e2], h2⟩
 have cases' : ∀ (q : Nat) (r : Root) (i : Info), (L.foldl (fun h p => h.set p .dead) h ++ N.map Prod.snd)[q]? = some r -> (O ++ N.map Prod.fst)[q]? = some i -> (r = .dead) \/ (q ∉ L /\ h[q]? = some r /\ O[q]? = some i) \/ (∃ j, q = h.length + j /\ N[j]? = some (i, r)) := by
  intro q r i h1 h2;rcases Nat.lt_or_ge q h.length with hq | hq
  ·rw [List.getElem?_append_left (by rw [hlen]; exact hq)] at h1;rw [List.getElem?_append_left (by rw [hh.len]; exact hq)] at h2;rcases hget L h q r h1 with h3 | ⟨h3, h4⟩
   ·exact .inl h3
   ·exact .inr (.inl ⟨h3, h4, h2⟩)
  ·rw [List.getElem?_append_right (by rw [hlen]; exact hq), hlen, List.getElem?_map] at h1;rw [List.getElem?_append_right (by rw [hh.len]; exact hq), hh.len, List.getElem?_map] at h2;obtain ⟨x, hx, e1⟩ := Option.map_eq_some_iff.1 h1;rw [hx] at h2;cases h2;subst e1;exact .inr (.inr ⟨q - h.length, by omega, hx⟩)
 refine ⟨hh.ext, by rw [List.length_append, List.length_append, hlen, hh.len, List.length_map, List.length_map], ?_, ?_, ?_, ?_, hh.lay, hh.out, ?_, ?_⟩
 rotate_right
 ·intro q r i h1 h2;rcases cases' q r i h1 h2 with rfl | ⟨_, h3, h4⟩ | ⟨j, _, h3⟩
  ·exact .inl rfl
  ·exact hh.cln q r i h3 h4
  ·exact hCl j _ h3
 ·intro q r i h1 h2;rcases cases' q r i h1 h2 with rfl | ⟨_, h3, h4⟩ | ⟨j, _, h3⟩
  ·trivial
  ·exact (hh.ok q r i h3 h4).mono (Pre.app _ _)
  ·exact (hN j _ h3).1
 ·intro p q r s i j b hpq hr hs hi hj ho hf;rcases cases' p r i hr hi with rfl | ⟨p1, p2, p3⟩ | ⟨jp, p1, p2⟩
  ·exact ho
  ·rcases cases' q s j hs hj with rfl | ⟨q1, q2, q3⟩ | ⟨jq, q1, q2⟩
   ·exact hf
   ·exact hh.sep p q r s i j b hpq p2 q2 p3 q3 ho hf
   ·obtain ⟨p', hL, r0, i0, g1, g2, g3⟩ := (hN jq _ q2).2 b hf;exact hh.sep p p' r r0 i i0 b (fun e => p1 (by rw [e]; exact hL)) p2 g1 p3 g2 ho (xAm g3)
  ·rcases cases' q s j hs hj with rfl | ⟨q1, q2, q3⟩ | ⟨jq, q1, q2⟩
   ·exact hf
   ·obtain ⟨p', hL, r0, i0, g1, g2, g3⟩ := (hN jp _ p2).2 b (xAm ho);exact hh.sep p' q r0 s i0 j b (fun e => q1 (by rw [<- e]; exact hL)) g1 q2 g2 q3 g3 hf
   ·exact hS jp jq _ _ b (fun e => hpq (by omega)) p2 q2 ho hf
 ·intro p r i b hr hi ho;rcases cases' p r i hr hi with rfl | ⟨p1, p2, p3⟩ | ⟨jp, p1, p2⟩
  ·exact absurd ho (by simp [own])
  ·exact hh.mine p r i b p2 p3 ho
  ·obtain ⟨p', hL, r0, i0, g1, g2, g3⟩ := (hN jp _ p2).2 b (xAm ho);exact hh.mine p' r0 i0 b g1 g2 g3
 ·intro p r i b hr hi ho;rcases cases' p r i hr hi with rfl | ⟨p1, p2, p3⟩ | ⟨jp, p1, p2⟩
  ·exact absurd ho xBa
  ·exact hh.near p r i b p2 p3 ho
  ·obtain ⟨p', hL, r0, i0, g1, g2, g3⟩ := (hN jp _ p2).2 b ho;rcases hh.mine p' r0 i0 b g1 g2 g3 with h5 | h5
   ·exact .inl h5
   ·exact .inr (.inl h5)
 ·intro p t r i hr hi ht id j m v hj hv;rcases cases' p r i hr hi with rfl | ⟨p1, p2, p3⟩ | ⟨jp, p1, p2⟩
  ·cases ht
  ·rcases Nat.lt_or_ge id O.length with hq | hq
   ·rw [List.getElem?_append_left hq] at hj;exact hh.cov p t r i p2 p3 ht id j m v hj hv
   ·rw [List.getElem?_append_right hq, List.getElem?_map] at hj;obtain ⟨x, hx, e1⟩ := Option.map_eq_some_iff.1 hj;subst e1;exact hC2 p t r i p2 p3 p1 ht _ x m v hx hv
  ·exact hC jp t _ p2 ht id j m v hj hv
end
def takeN : Nat -> List CV -> Option (List CV)
 | 0, _ => some []
 | _ + 1, [] => none
 | n + 1, c :: l => match takeN n l with
  | some r => some (c :: r)
  | none => none
theorem xFw : ∀ {n : Nat} {l r : List CV}, takeN n l = some r -> r = l.take n /\ n <= l.length
 | 0, l, r, h => by simp only [takeN, Option.some.injEq] at h; subst h; simp
 | n + 1, [], r, h => by simp [takeN] at h
 | n + 1, c :: l, r, h => by
  simp only [takeN] at h;split at h
  ·rename_i s hs;cases h;obtain ⟨h1, h2⟩ := xFw hs;exact ⟨by simp [h1], by simp; omega⟩
  ·cases h
def elemAt (U : TC) (xs : List U.ty) (row : Nat) : U.ty := nth xs U.dflt row
def arrB : List CV -> Option (List Bool)
 | [] => some []
 | .sc (.bool b) :: l => match arrB l with
  | some r => some (b :: r)
  | none => none
 | _ => none
def arrI (k : IntKind) : List CV -> Option (List Int)
 | [] => some []
 | .sc (.int k' b) :: l => bif Nat.beq (kix k) (kix k') then (match arrI k l with
  | some r => some (b :: r)
  | none => none) else none
 | _ => none
def arrS : List CV -> Option (List ByteArray)
 | [] => some []
 | .sc (.string b) :: l => match arrS l with
  | some r => some (b :: r)
  | none => none
 | _ => none
def cellAt (cs : List CV) (row : Nat) : Option (List CV) :=
 match cs with
 | .sc (.bool _) :: _ => match arrB cs with
  | some bs => some [.sc (.bool (nth bs false row))]
  | none => takeN 1 (cs.drop row)
 | .sc (.int k _) :: _ => match arrI k cs with
  | some bs => some [.sc (.int k (nth bs 0 row))]
  | none => takeN 1 (cs.drop row)
 | .sc (.string _) :: _ => match arrS cs with
  | some bs => some [.sc (.string (nth bs ByteArray.empty row))]
  | none => takeN 1 (cs.drop row)
 | _ => takeN 1 (cs.drop row)
def xDe : Root -> (k row j n : Nat) -> Option (List CV)
 | .blk cs _, k, row, j, n => bif Nat.beq k 1 && Nat.beq n 1 then cellAt (cs.drop j) row else takeN n (cs.drop (row * k + j))
 | .rows _ U xs, k, row, j, n => bif Nat.beq k U.w then takeN n ((U.enc (elemAt U xs row)).drop j) else none
 | .ro U xs, k, row, j, n => bif Nat.beq k U.w then takeN n ((U.enc (elemAt U xs row)).drop j) else none
 | _, _, _, _, _ => none
theorem xFX (U : TC) (xs : List U.ty) (row : Nat) (hr : row < xs.length) (d : List CV := []) : ((flat U xs) ++ d).drop (row * U.w) = U.enc (elemAt U xs row) ++ (flat U (xs.drop (row + 1)) ++ d) := by
 induction xs generalizing row with
 | nil => simp at hr
 | cons x xs ih =>
  cases row with
  | zero => simp [flat, elemAt, nth]
  | succ row =>
   have := ih row (by simpa using hr);simp only [flat, List.flatMap_cons, List.append_assoc];rw [show (row + 1) * U.w = (U.enc x).length + row * U.w by rw [U.enc_len, Nat.add_mul]; omega, List.drop_append, List.drop_of_length_le (by omega), List.nil_append, show (U.enc x).length + row * U.w - (U.enc x).length = row * U.w by omega];simpa [flat, elemAt, nth] using this
theorem xDa (U : TC) (xs : List U.ty) : (flat U xs).length = xs.length * U.w := by
 induction xs with
 | nil => simp [flat]
 | cons x xs ih => simp only [flat, List.flatMap_cons, List.length_append, U.enc_len, List.length_cons, Nat.add_mul] at *; omega
theorem xEf {O : List Info} {cs : List CV} {vs : List Value} (hd : DenL O cs vs) {o n : Nat} {r : List CV} (h : takeN n (cs.drop o) = some r) : DenL O r ((vs.drop o).take n) /\ ∀ (t : Nat) (v : Value), ((vs.drop o).take n)[t]? = some v -> vs[o + t]? = some v := by
 obtain ⟨h1, h2⟩ := xFw h;refine ⟨by rw [h1]; exact (hd.drop o).take n, fun t v hv => ?_⟩;rw [List.getElem?_take] at hv;split at hv
 ·rw [List.getElem?_drop] at hv; exact hv
 ·cases hv
theorem xFE {O : List Info} {U : TC} {xs : List U.ty} {vs : List Value} (hd : DenL O (flat U xs) vs) {row j n : Nat} (hrow : row < xs.length) {r : List CV} (h : takeN n ((U.enc (elemAt U xs row)).drop j) = some r) :
  ∃ us, DenL O r us /\ ∀ (t : Nat) (v : Value), us[t]? = some v -> vs[row * U.w + j + t]? = some v := by
 obtain ⟨h1, h2⟩ := xFw h;have hf := xFX U xs row hrow;rw [List.append_nil, List.append_nil] at hf;have h3 : takeN n ((flat U xs).drop (row * U.w + j)) = some r := by
  have e : (flat U xs).drop (row * U.w + j) = (U.enc (elemAt U xs row)).drop j ++ (flat U (xs.drop (row + 1))).drop (j - (U.enc (elemAt U xs row)).length) := by
   rw [<- List.drop_drop, hf, List.drop_append]
  rw [e];have key : ∀ (n : Nat) (l m r : List CV), takeN n l = some r -> takeN n (l ++ m) = some r := by
   intro n
   induction n with
   | zero => intro l m r h; simpa [takeN] using h
   | succ n ih =>
    intro l m r h
    cases l with
    | nil => simp [takeN] at h
    | cons c l =>
     simp only [takeN, List.cons_append] at h ⊢;split at h
     ·rename_i s hs;rw [ih l m s hs]; exact h
     ·cases h
  exact key n _ _ r h
 obtain ⟨h4, h5⟩ := xEf hd h3;exact ⟨_, h4, fun t v hv => by rw [Nat.add_assoc] at *; have := h5 t v hv; rwa [Nat.add_assoc] at this⟩
theorem xCR {w : World} {T k : Nat} {b o cap n : Nat} {vs : List Value} (h : ownsAt w T k (some ⟨b, o, none⟩) cap n vs) {t : Nat} {v : Value} (hv : vs[t]? = some v) : w.cell? ⟨b, o + t, none⟩ = some v := by
 obtain ⟨h1, h2, _, h3⟩ := h;rcases h3 with ⟨h3, _⟩ | ⟨g, o', cur, h3, h4, h5, h6⟩
 ·have h0 : n = 0 := by omega
  subst h0;obtain rfl : vs = [] := List.eq_nil_of_length_eq_zero (by simpa using h1);simp at hv
 ·cases h3;rw [<- h6, List.getElem?_take] at hv;split at hv
  ·rw [List.getElem?_drop] at hv;exact xAb h4 _ (by simpa using hv)
  ·cases hv
theorem xVK : ∀ {cs : List CV} {bs : List Bool}, arrB cs = some bs -> cs = bs.map (fun b => .sc (.bool b))
 | [], bs, h => by cases h; rfl
 | c :: l, bs, h => by
  unfold arrB at h;split at h
  ·rename_i e; cases e
  ·rename_i b l' e;cases e;split at h
   ·rename_i r hr; cases h; rw [xVK hr]; rfl
   ·cases h
  ·cases h
theorem xVJ {k : IntKind} : ∀ {cs : List CV} {bs : List Int}, arrI k cs = some bs -> cs = bs.map (fun b => .sc (.int k b))
 | [], bs, h => by cases h; rfl
 | c :: l, bs, h => by
  unfold arrI at h;split at h
  ·rename_i e; cases e
  ·rename_i k' b l' e;cases e
   cases hk : Nat.beq (kix k) (kix k') with
   | false => rw [hk] at h; cases h
   | true =>
    rw [hk] at h;have := xDU hk;subst this;simp only [cond_true] at h;split at h
    ·rename_i r hr; cases h; rw [xVJ hr]; rfl
    ·cases h
  ·cases h
theorem xVI : ∀ {cs : List CV} {bs : List ByteArray}, arrS cs = some bs -> cs = bs.map (fun b => .sc (.string b))
 | [], bs, h => by cases h; rfl
 | c :: l, bs, h => by
  unfold arrS at h;split at h
  ·rename_i e; cases e
  ·rename_i b l' e;cases e;split at h
   ·rename_i r hr; cases h; rw [xVI hr]; rfl
   ·cases h
  ·cases h
theorem xVn {O : List Info} {cs r : List CV} {vs : List Value} {row : Nat} (hd : DenL O cs vs) (h : cellAt cs row = some r) (hrow : row < cs.length) : ∃ us, DenL O r us /\ ∀ (t : Nat) (v : Value), us[t]? = some v -> vs[row + t]? = some v := by
 have plain : takeN 1 (cs.drop row) = some r -> ∃ us, DenL O r us /\ ∀ (t : Nat) (v : Value), us[t]? = some v -> vs[row + t]? = some v := fun h => ⟨_, (xEf hd h).1, (xEf hd h).2⟩;have one : ∀ c, cs[row]? = some c -> r = [c] -> ∃ us, DenL O r us /\ ∀ (t : Nat) (v : Value), us[t]? = some v -> vs[row + t]? = some v := by
  intro c hc hr;obtain ⟨v, h1, h2⟩ := hd.get hc;subst hr;refine ⟨[v], ⟨v, [], rfl, h2, rfl⟩, fun t u hu => ?_⟩
  cases t with
  | zero => cases hu; exact h1
  | succ t => simp at hu
 unfold cellAt at h;split at h
 ·split at h
  ·rename_i bs hb;cases h;have e := xVK hb;rw [e] at hrow;simp only [List.length_map] at hrow;refine one _ ?_ rfl;rw [e, List.getElem?_map, List.getElem?_eq_getElem hrow];simp [nth, List.getD_eq_getElem?_getD, List.getElem?_eq_getElem hrow]
  ·exact plain h
 ·split at h
  ·rename_i bs hb;cases h;have e := xVJ hb;rw [e] at hrow;simp only [List.length_map] at hrow;refine one _ ?_ rfl;rw [e, List.getElem?_map, List.getElem?_eq_getElem hrow];simp [nth, List.getD_eq_getElem?_getD, List.getElem?_eq_getElem hrow]
  ·exact plain h
 ·split at h
  ·rename_i bs hb;cases h;have e := xVI hb;rw [e] at hrow;simp only [List.length_map] at hrow;refine one _ ?_ rfl;rw [e, List.getElem?_map, List.getElem?_eq_getElem hrow];simp [nth, List.getD_eq_getElem?_getD, List.getElem?_eq_getElem hrow]
  ·exact plain h
 ·exact plain h
theorem xRj {O : List Info} {w : World} {i : Info} {r : Root} {k row j n : Nat} {cs : List CV} (h : RootOk O w i r) (hg : xDe r k row j n = some cs) (hrow : i.has k row j) {b o : Nat} (ha : i.a = some ⟨b, o, none⟩) :
  ∃ us, DenL O cs us /\ ∀ (t : Nat) (v : Value), us[t]? = some v -> w.cell? ⟨b, o + row * k + j + t, none⟩ = some v := by
 cases r with
 | dead => cases hg
 | blk ds T =>
  obtain ⟨⟨h0, hc⟩, b', vs, h1, h2, h3⟩ := h;rw [ha] at h1; cases h1;simp only [xDe] at hg
  cases hb : (Nat.beq k 1 && Nat.beq n 1) with
  | false =>
   rw [hb] at hg;obtain ⟨h4, h5⟩ := xEf h2 hg;exact ⟨_, h4, fun t v hv => xAb h3 _ (by have := h5 t v hv; simpa [Nat.add_assoc] using this)⟩
  | true =>
   rw [hb] at hg;simp only [Bool.and_eq_true] at hb;have e1 := nbT hb.1;subst e1;have hlt := hrow.2 h0 rfl;obtain ⟨us, h4, h5⟩ := xVn (h2.drop j) hg (by rw [List.length_drop, <- hc]; omega);refine ⟨us, h4, fun t v hv => xAb h3 _ ?_⟩;have := h5 t v hv;rw [List.getElem?_drop] at this;rw [show 0 + row * 1 + j + t = j + (row + t) by omega];simpa using this
 | rows T U xs =>
  obtain ⟨h0, _, vs, h1, h2⟩ := h;simp only [xDe] at hg
  cases hk : Nat.beq k U.w with
  | false => rw [hk] at hg; cases hg
  | true =>
   rw [hk] at hg;have := nbT hk;subst this;obtain ⟨us, h3, h4⟩ := xFE h1 (hrow.1 _ h0) hg;rw [ha] at h2;exact ⟨us, h3, fun t v hv => by have := xCR h2 (h4 t v hv); simpa [Nat.add_assoc] using this⟩
 | ro U xs =>
  obtain ⟨h0, vs, h1, h2⟩ := h;simp only [xDe] at hg
  cases hk : Nat.beq k U.w with
  | false => rw [hk] at hg; cases hg
  | true =>
   rw [hk] at hg;have := nbT hk;subst this;obtain ⟨us, h3, h4⟩ := xFE h1 (hrow.1 _ h0) hg;obtain ⟨b', o', h5, _, h6⟩ := h2 (Nat.lt_of_le_of_lt (Nat.zero_le _) (hrow.1 _ h0));rw [ha] at h5; cases h5;exact ⟨us, h3, fun t v hv => by have := h6 _ v (h4 t v hv); simpa [Nat.add_assoc] using this⟩
 | clo f a c => cases hg
 | _ => cases hg
def splice : Nat -> List CV -> List CV -> Option (List CV)
 | 0, [], l => some l
 | 0, _ :: _, [] => none
 | 0, c :: cs, _ :: l => match splice 0 cs l with
  | some r => some (c :: r)
  | none => none
 | _ + 1, _, [] => none
 | j + 1, cs, x :: l => match splice j cs l with
  | some r => some (x :: r)
  | none => none
theorem xEg : ∀ {j : Nat} {cs l r : List CV}, splice j cs l = some r -> r = l.take j ++ cs ++ l.drop (j + cs.length) /\ j + cs.length <= l.length
 | 0, [], l, r, h => by simp only [splice, Option.some.injEq] at h; subst h; simp
 | 0, _ :: _, [], r, h => by simp [splice] at h
 | 0, c :: cs, x :: l, r, h => by
  simp only [splice] at h;split at h
  ·rename_i s hs;cases h;obtain ⟨h1, h2⟩ := xEg hs;refine ⟨?_, by simp only [List.length_cons]; omega⟩;rw [h1]; simp
  ·cases h
 | j + 1, cs, [], r, h => by simp [splice] at h
 | j + 1, cs, x :: l, r, h => by
  simp only [splice] at h;split at h
  ·rename_i s hs;cases h;obtain ⟨h1, h2⟩ := xEg hs;refine ⟨?_, by simp only [List.length_cons]; omega⟩;rw [h1, show j + 1 + cs.length = (j + cs.length) + 1 by omega]; simp
  ·cases h
def nil1 (q t : Nat) (c : CV) : CV :=
 match q, c with
 | 0, .sc (.pointer none) => .rf 0 t 0
 | 1, .sc (.slice none 0 0) => .rf 1 t 0
 | 2, .sc (.map none) => .rf 2 t 0
 | _, c => c
theorem xTM {O : List Info} {q t : Nat} {c : CV} {v : Value} (h : Den O c v) : Den O (nil1 q t c) v := by
 unfold nil1;split
 ·exact .inl ⟨rfl, h.1⟩
 ·exact .inl ⟨rfl, h.1⟩
 ·exact .inl ⟨rfl, h.1⟩
 ·exact h
def TC.leaves : TC -> List TC
 | .nil => []
 | .pair a b => a.leaves ++ b.leaves
 | U => [U]
def xD9 : List TC -> List CV -> List CV
 | .rf q t :: ls, c :: cs => nil1 q t c :: xD9 ls cs
 | _ :: ls, c :: cs => c :: xD9 ls cs
 | _, cs => cs
theorem xBi {O : List Info} : ∀ {ls : List TC} {cs : List CV} {vs : List Value}, DenL O cs vs -> DenL O (xD9 ls cs) vs
 | [], _, _, h => by simpa [xD9] using h
 | l :: ls, [], _, h => by cases l <;> simpa [xD9] using h
 | l :: ls, c :: cs, _, ⟨v, r, e, h1, h2⟩ => by
  cases l with
  | rf q t => exact ⟨v, r, e, xTM h1, xBi h2⟩
  | _ => exact ⟨v, r, e, h1, xBi h2⟩
def xAZ (t : Nat) : List Root -> Nat -> Option (Nat × Root)
 | [], _ => none
 | r :: l, p => match r.tag with
  | some t' => bif Nat.beq t t' then some (p, r) else xAZ t l (p + 1)
  | none => xAZ t l (p + 1)
theorem xAA {t : Nat} : ∀ {h : List Root} {p q : Nat} {r : Root}, xAZ t h p = some (q, r) -> ∃ j, q = p + j /\ h[j]? = some r /\ r.tag = some t
 | [], _, _, _, e => by cases e
 | x :: h, p, q, r, e => by
  have next : xAZ t h (p + 1) = some (q, r) -> ∃ j, q = p + j /\ (x :: h)[j]? = some r /\ r.tag = some t := fun e => by
   obtain ⟨j, h1, h2, h3⟩ := xAA e;exact ⟨j + 1, by omega, by simpa using h2, h3⟩
  simp only [xAZ] at e;split at e
  ·rename_i t' ht
   cases hb : Nat.beq t t' with
   | true =>
    rw [hb] at e;cases e;exact ⟨0, rfl, rfl, by rw [ht, nbT hb]⟩
   | false => rw [hb] at e; exact next e
  ·exact next e
def rowAt {α : Type} (os : List (Option (List α))) : Nat -> List α
 | 0 => []
 | m + 1 => match os[m]? with
  | some (some xs) => xs
  | _ => []
def xBh {α : Type} (os : List (Option (List α))) (n : Nat) (xs : List α) : List (Option (List α)) := os.set (n - 1) (some xs)
def inO (n len : Nat) : Bool := Nat.ble 1 n && Nat.ble n len
def xCv {α : Type} (os : List (Option (List α))) : Nat -> Bool
 | 0 => true
 | m + 1 => match os[m]? with
  | some (some _) => true
  | _ => false
def xED {α : Type} (os : List (List α)) : Nat -> List α
 | 0 => []
 | m + 1 => nth os [] m
theorem xPB {α : Type} {os : List (List α)} {n row : Nat} (h : row < (xED os n).length) : ∃ m, n = m + 1 /\ os[m]? = some (xED os n) := by
 cases n with
 | zero => simp [xED] at h
 | succ m =>
  refine ⟨m, rfl, ?_⟩;simp only [xED, nth, List.getD_eq_getElem?_getD] at h ⊢
  cases hq : os[m]? with
  | none => rw [hq] at h; simp at h
  | some x => rfl
theorem xI2 {vs : List Value} {t : Nat} {U : TC} {os : List (List U.ty)} {b : Nat} : ¬ xCs vs (Root.arr t U os).obs b := by
 rintro ⟨m, v, o, _, h2, h3⟩
 simp only [Root.obs, List.getElem?_map] at h2
 cases hq : os[m]? with
 | none => rw [hq] at h2; cases h2
 | some x => rw [hq] at h2; cases h2; cases h3
def xHk (r : Root) (n k row j cnt : Nat) : Option (Bool × List CV) :=
 match r with
 | .arr _ U os => bif Nat.beq k U.w then match takeN cnt ((U.enc (elemAt U (xED os n) row)).drop j) with
   | some cs => some (decide (row < (xED os n).length), cs)
   | none => none
  else none
 | .ars _ _ U os => bif Nat.beq k U.w then match takeN cnt ((U.enc (elemAt U (rowAt os n) row)).drop j) with
   | some cs => some (decide (row < (rowAt os n).length), cs)
   | none => none
  else none
 | .aro _ _ U os => bif Nat.beq row 0 then match takeN cnt ((U.enc (elemAt U os (n - 1))).drop j) with
   | some cs => some (inO n os.length, cs)
   | none => none
  else none
 | _ => none
def xRU (r : Root) (n k row j : Nat) (cs : List CV) : Option (Bool × Root) :=
 match r with
 | .ars t T U os => bif Nat.beq k U.w then match splice j (xD9 (U.leaves.drop j) cs) (U.enc (elemAt U (rowAt os n) row)) with
   | some e => match U.dec1 e with
    | some y => some (decide (row < (rowAt os n).length), .ars t T U (xBh os n ((rowAt os n).set row y)))
    | none => none
   | none => none
  else none
 | .aro t T U os => bif Nat.beq row 0 then match splice j (xD9 (U.leaves.drop j) cs) (U.enc (elemAt U os (n - 1))) with
   | some e => match U.dec1 e with
    | some y => some (inO n os.length, .aro t T U (os.set (n - 1) y))
    | none => none
   | none => none
  else none
 | _ => none
def xKE : Root -> (k row j : Nat) -> List CV -> Option Root
 | .blk ds T, k, row, j, cs => match splice (row * k + j) cs ds with
  | some r => some (.blk r T)
  | none => none
 | .rows T U xs, k, row, j, cs => bif Nat.beq k U.w then match splice j (xD9 (U.leaves.drop j) cs) (U.enc (elemAt U xs row)) with
   | some r => match U.dec1 r with
    | some y => some (.rows T U (xs.set row y))
    | none => none
   | none => none
  else none
 | _, _, _, _, _ => none
theorem DenL.splice {O : List Info} {ds cs r : List CV} {vs us : List Value} {j : Nat} (h : splice j cs ds = some r) (hd : DenL O ds vs) (hc : DenL O cs us) : DenL O r (vs.take j ++ us ++ vs.drop (j + us.length)) := by
 obtain ⟨h1, _⟩ := xEg h;rw [h1];refine DenL.app (DenL.app (hd.take j) hc) ?_;rw [hc.len];exact hd.drop _
theorem xXt (U : TC) (xs : List U.ty) (row : Nat) (y : U.ty) (hr : row < xs.length) : flat U (xs.set row y) = (flat U xs).take (row * U.w) ++ U.enc y ++ (flat U xs).drop ((row + 1) * U.w) := by
 induction xs generalizing row with
 | nil => simp at hr
 | cons x xs ih =>
  cases row with
  | zero =>
   simp only [List.set_cons_zero, flat, List.flatMap_cons, Nat.zero_mul, List.take_zero, List.nil_append, Nat.zero_add, Nat.one_mul];rw [List.drop_append, List.drop_of_length_le (by rw [U.enc_len]; omega), U.enc_len, Nat.sub_self]; simp
  | succ row =>
   have := ih row (by simpa using hr);simp only [flat] at this;simp only [List.set_cons_succ, flat, List.flatMap_cons, this];have q1 : (row + 1 + 1) * U.w = (U.enc x).length + (row + 1) * U.w := by rw [U.enc_len, Nat.add_mul (row + 1)]; omega
   have q2 : (row + 1) * U.w = (U.enc x).length + row * U.w := by rw [U.enc_len, Nat.add_mul]; omega
   rw [q1, List.drop_length_add_append];generalize List.drop ((row + 1) * U.w) (List.flatMap U.enc xs) = D;rw [q2, List.take_length_add_append];simp only [List.append_assoc]
theorem xEF {α : Type} (c us : List α) (o q m : Nat) (h : q + us.length <= m) (hc : o + m <= c.length) :
  ((c.take (o + q) ++ us ++ c.drop (o + q + us.length)).drop o).take m = ((c.drop o).take m).take q ++ us ++ ((c.drop o).take m).drop (q + us.length) := by
 have e1 : (c.take (o + q) ++ us ++ c.drop (o + q + us.length)).drop o = (c.drop o).take q ++ us ++ (c.drop o).drop (q + us.length) := by
  rw [List.append_assoc, List.drop_append_of_le_length (by rw [List.length_take]; omega), List.drop_take, List.drop_drop, List.append_assoc, Nat.add_sub_cancel_left, Nat.add_assoc]
 rw [e1];have hl : ((c.drop o).take q).length = q := by rw [List.length_take, List.length_drop]; omega
 generalize hA : (c.drop o).take q = A at *;have e2 : (c.drop o).drop (q + us.length) = (c.drop o).drop (q + us.length) := rfl;have hq : ((c.drop o).take m).take q = A := by rw [List.take_take, Nat.min_eq_left (by omega), hA]
 rw [hq];rw [List.take_append, List.length_append, hl, List.take_of_length_le (l := A ++ us) (by rw [List.length_append]; omega), List.drop_take]
theorem xQo (U : TC) (xs : List U.ty) (row j : Nat) (cs r : List CV) (y : U.ty) (hr : row < xs.length) (h : splice j cs (U.enc (elemAt U xs row)) = some r) (hy : r = U.enc y) :
  flat U (xs.set row y) = (flat U xs).take (row * U.w + j) ++ cs ++ (flat U xs).drop (row * U.w + j + cs.length) /\ row * U.w + j + cs.length <= xs.length * U.w := by
 obtain ⟨h1, h2⟩ := xEg h;rw [U.enc_len] at h2;have hf := xFX U xs row hr;rw [List.append_nil, List.append_nil] at hf;have hw : (row + 1) * U.w <= xs.length * U.w := Nat.mul_le_mul_right _ hr;have hw2 : (row + 1) * U.w = row * U.w + U.w := by rw [Nat.add_mul, Nat.one_mul]
 refine ⟨?_, by omega⟩;rw [xXt U xs row y hr, <- hy, h1];have e1 : (flat U xs).take (row * U.w + j) = (flat U xs).take (row * U.w) ++ (U.enc (elemAt U xs row)).take j := by
  rw [List.take_add, hf, List.take_append_of_le_length (by rw [U.enc_len]; omega)]
 have e2 : (flat U xs).drop (row * U.w + j + cs.length) = (U.enc (elemAt U xs row)).drop (j + cs.length) ++ (flat U xs).drop ((row + 1) * U.w) := by
  rw [Nat.add_assoc, <- List.drop_drop, hf, List.drop_append_of_le_length (by rw [U.enc_len]; omega)];congr 1;have := congrArg (List.drop U.w) hf;rw [List.drop_drop, List.drop_append, List.drop_of_length_le (l := U.enc _) (by rw [U.enc_len]; omega), List.nil_append, U.enc_len, Nat.sub_self, List.drop_zero, <- hw2] at this;exact this.symm
 rw [e1, e2];simp only [List.append_assoc]
theorem Ex.setRow (w : World) (b : Nat) (cs : Array Value) : Ex [b] w (w.setRow b cs) :=
 ⟨rfl, rfl, rfl, by simp, fun k _ hs => setRow_other w b k cs (by simpa using hs)⟩
theorem xRi {P : Program} {O : List Info} {w : World} {i : Info} {r r' : Root} {k row j : Nat} {cs : List CV} {us : List Value} (h : RootOk O w i r) (hg : xKE r k row j cs = some r') (hrow : i.has k row j) {b o : Nat} (ha : i.a = some ⟨b, o, none⟩) (hu : DenL O cs us) :
  ∃ w', (storeCells ⟨b, o + row * k + j, none⟩ us).run P w = .ok () w' /\ Ex [b] w w' /\ RootOk O w' i r' /\ own i r b /\ (∀ c, foot i r' c -> c = b) /\ (∀ c, own i r' c -> c = b) /\ r'.tag = r.tag := by
 have hone := hu.ones
 cases r with
 | dead => cases hg
 | blk ds T =>
  obtain ⟨h00, b', vs, h1, h2, h3⟩ := h;have h1' := h1;rw [ha] at h1; cases h1;simp only [xKE] at hg;split at hg
  ·rename_i e he;cases hg;obtain ⟨hse, hle⟩ := xEg he;have hlen : e.length = ds.length := by rw [hse]; simp only [List.length_append, List.length_take, List.length_drop]; omega
   rw [<- hu.len, <- h2.len] at hle;have hst := run_storeCells_at P b (0 + row * k + j) T us 0 vs.toArray w h3 (by simp; omega) hone;refine ⟨_, hst, Ex.setRow _ _ _, ⟨⟨h00.1, by rw [h00.2, hlen]⟩, b, _, ha, DenL.splice he h2 hu, ?_⟩, by simp [own, ha], by simp [foot, own, ha, eq_comm], by simp [own, ha, eq_comm], rfl⟩;rw [setRow_heap _ _ _ _ _ _ h3];simp
  ·cases hg
 | rows T U xs =>
  obtain ⟨h0, h9, vs, h1, hl, hnc, hcm, h2⟩ := h;simp only [xKE] at hg
  cases hk : Nat.beq k U.w with
  | false => rw [hk] at hg; cases hg
  | true =>
   rw [hk] at hg;have := nbT hk;subst this;simp only [cond_true] at hg;split at hg
   ·rename_i e he;split at hg
    ·rename_i y hy;cases hg;have hye := TC.dec1_enc hy;replace hrow := hrow.1 _ h0;replace hu := xBi (ls := U.leaves.drop j) hu;obtain ⟨hf1, hf2⟩ := xQo U xs row j _ e y hrow he hye;rcases h2 with ⟨h2, _⟩ | ⟨g, o', cur, h2, h3, h4, h5⟩
     ·omega
     ·rw [ha] at h2; cases h2;have hcap : xs.length * U.w <= i.cap * U.w := Nat.mul_le_mul_right _ hnc;rw [<- hu.len] at hf2 hf1;have hst := run_storeCells_at P b (o + row * U.w + j) T us 0 cur w h3 (by omega) hone;refine ⟨_, hst, Ex.setRow _ _ _, ⟨by simp [h0], h9, vs.take (row * U.w + j) ++ us ++ vs.drop (row * U.w + j + us.length), ?_, ?_⟩, by simp [own, ha], by simp [foot, own, ha, eq_comm], by simp [own, ha, eq_comm], rfl⟩
      ·rw [hf1];exact DenL.app (DenL.app (h1.take _) hu) (h1.drop _)
      ·refine ⟨?_, by simpa using hnc, hcm, .inr ⟨b, o, _, ha, setRow_heap _ _ _ _ _ _ h3, ?_, ?_⟩⟩
       ·simp only [List.length_append, List.length_take, List.length_drop, List.length_set]; omega
       ·simp; omega
       ·rw [List.length_set];have := xEF cur.toList us o (row * U.w + j) (xs.length * U.w) hf2 (by simp; omega);rw [h5] at this;rw [<- this];simp [Nat.add_assoc]
    ·cases hg
   ·cases hg
 | ro U xs => cases hg
 | clo f a c => cases hg
 | _ => cases hg
theorem xIb {α : Type} {os : List (Option (List α))} {n row : Nat} (h : row < (rowAt os n).length) : ∃ m, n = m + 1 /\ os[m]? = some (some (rowAt os n)) := by
 cases n with
 | zero => simp [rowAt] at h
 | succ m =>
  refine ⟨m, rfl, ?_⟩;simp only [rowAt] at h ⊢;split at h
  ·rename_i xs hx; rw [hx]
  ·simp at h
theorem xQf {n len : Nat} (h : inO n len = true) : ∃ m, n = m + 1 /\ m < len := by
 simp only [inO, Bool.and_eq_true] at h;have h1 := Nat.le_of_ble_eq_true h.1;have h2 := Nat.le_of_ble_eq_true h.2;exact ⟨n - 1, by omega, by omega⟩
theorem xUA {u : Value} {b o len : Nat} (h : hdA u = some (b, o, len)) : ∃ c, hdr u = some (some ⟨b, o, none⟩, len, c) := by
 unfold hdA at h;split at h <;> cases h <;> exact ⟨_, rfl⟩
theorem xQL {O : List Info} {w : World} {i : Info} {r : Root} (h : RootOk O w i r) {t m : Nat} (ht : r.tag = some t) {u : Value} (hu : (i.objs t)[m]? = some u) {T : TypeId} {U : TC} {xs : List U.ty} (ho : r.obs[m]? = some (.row T U xs)) {b o len : Nat} (hb : hdA u = some (b, o, len)) :
  len = xs.length /\ 0 < U.w /\ own i r b /\ ∃ c vs, hdr u = some (some ⟨b, o, none⟩, xs.length, c) /\ DenL O (flat U xs) vs /\ ownsAt w T U.w (some ⟨b, o, none⟩) c xs.length vs := by
 have hA : ArOk O w (i.objs t) r.obs := by
  cases r <;> first | (cases ht; exact h) | (cases ht; done)
 have hO : ∀ b, xCs (i.objs t) r.obs b -> own i r b := by
  cases r <;> first | (cases ht; exact fun _ h => h) | (cases ht; exact fun _ h => absurd h xI2) | (cases ht; done)
 obtain ⟨a, c, h1, h2, vs, h3, h4⟩ := hA.2.1 m u _ hu ho;obtain ⟨c', h5⟩ := xUA hb;rw [h5] at h1;cases h1;refine ⟨rfl, h2, hO b ⟨m, u, _, hu, ho, ?_⟩, c, vs, h5, h3, h4⟩;show xHN u = some b;rw [xLb h5]; rfl
theorem xXQ {O : List Info} {w : World} {i : Info} {r : Root} {n k row j cnt t : Nat} {cs : List CV} {g : Bool} (h : RootOk O w i r) (ht : r.tag = some t) (hg : xHk r n k row j cnt = some (g, cs)) (hgt : g = true) {m : Nat} (hn : n = m + 1) {u : Value} (hu : (i.objs t)[m]? = some u) {b o len : Nat} (ha : hdA u = some (b, o, len)) (hrow : row < len) :
  foot i r b /\ ∃ us, DenL O cs us /\ ∀ (t : Nat) (v : Value), us[t]? = some v -> w.cell? ⟨b, o + row * k + j + t, none⟩ = some v := by
 subst hgt
 cases r with
 | arr t' U os =>
  simp only [xHk] at hg
  cases hk : Nat.beq k U.w with
  | false => rw [hk] at hg; cases hg
  | true =>
   rw [hk] at hg;have := nbT hk;subst this;simp only [cond_true] at hg;split at hg
   ·rename_i cs' hcs;simp only [Option.some.injEq, Prod.mk.injEq] at hg;obtain ⟨hg, rfl⟩ := hg;have hlt := of_decide_eq_true hg;obtain ⟨m', hm, hos⟩ := xPB hlt;obtain rfl : m = m' := by omega
    have ho : (Root.arr t' U os).obs[m]? = some (.rr U (xED os n)) := by
     simp only [Root.obs, List.getElem?_map, hos, Option.map_some]
    cases ht;obtain ⟨a, c, h1, _, _, vs, h2, h3⟩ := h.2.1 m u _ hu ho;obtain ⟨b', o', h4, _, h5⟩ := h3 (by omega);rw [h1, h4] at ha;cases ha;obtain ⟨us, h6, h7⟩ := xFE h2 hlt hcs;exact ⟨⟨m, u, _, hu, ho, by intro e; rw [e] at hlt; simp at hlt, by rw [h1, h4]; rfl⟩, us, h6, fun t v hv => by have := h5 _ v (h7 t v hv); simpa [Nat.add_assoc] using this⟩
   ·cases hg
 | ars t' T U os =>
  simp only [xHk] at hg
  cases hk : Nat.beq k U.w with
  | false => rw [hk] at hg; cases hg
  | true =>
   rw [hk] at hg;have := nbT hk;subst this;simp only [cond_true] at hg;split at hg
   ·rename_i cs' hcs;simp only [Option.some.injEq, Prod.mk.injEq] at hg;obtain ⟨hg, rfl⟩ := hg;have hlt := of_decide_eq_true hg;obtain ⟨m', hm, hos⟩ := xIb hlt;obtain rfl : m = m' := by omega
    have ho : (Root.ars t' T U os).obs[m]? = some (.row T U (rowAt os n)) := by
     simp only [Root.obs, List.getElem?_map, hos, Option.map_some]
    obtain ⟨_, _, h1, c, vs, _, h2, h3⟩ := xQL h ht hu ho ha;obtain ⟨us, h4, h5⟩ := xFE h2 hlt hcs;exact ⟨xAm h1, us, h4, fun t v hv => by have := xCR h3 (h5 t v hv); simpa [Nat.add_assoc] using this⟩
   ·cases hg
 | aro t' T U os =>
  simp only [xHk] at hg
  cases hk : Nat.beq row 0 with
  | false => rw [hk] at hg; cases hg
  | true =>
   rw [hk] at hg;have := nbT hk;subst this;simp only [cond_true] at hg;split at hg
   ·rename_i cs' hcs;simp only [Option.some.injEq, Prod.mk.injEq] at hg;obtain ⟨hg, rfl⟩ := hg;obtain ⟨m', hm, hlt⟩ := xQf hg;obtain rfl : m = m' := by omega
    have he : elemAt U os (n - 1) = os[m] := by
     rw [hn, Nat.add_sub_cancel]; simp [elemAt, nth, List.getD_eq_getElem?_getD, List.getElem?_eq_getElem hlt]
    have ho : (Root.aro t' T U os).obs[m]? = some (.row T U [os[m]]) := by
     simp only [Root.obs, List.getElem?_map, List.getElem?_eq_getElem hlt, Option.map_some]
    obtain ⟨_, _, h1, c, vs, _, h2, h3⟩ := xQL h ht hu ho ha;rw [he] at hcs;obtain ⟨us, h4, h5⟩ := xFE (row := 0) h2 (by simp) (by simpa [elemAt, nth] using hcs);exact ⟨xAm h1, us, h4, fun t v hv => by have := xCR h3 (h5 t v hv); simpa [Nat.add_assoc] using this⟩
   ·cases hg
 | _ => cases hg
theorem xVQ {r : Root} {n k row j cnt : Nat} {cs : List CV} {g : Bool} (hg : xHk r n k row j cnt = some (g, cs)) : cs.length = cnt := by
 have tk : ∀ {n : Nat} {l r : List CV}, takeN n l = some r -> r.length = n := fun h => by
  obtain ⟨h1, h2⟩ := xFw h; rw [h1, List.length_take]; omega
 cases r with
 | arr t' U os =>
  simp only [xHk] at hg
  cases hk : Nat.beq k U.w with
  | false => rw [hk] at hg; cases hg
  | true =>
   rw [hk] at hg; simp only [cond_true] at hg;split at hg
   ·rename_i cs' hcs; cases hg; exact tk hcs
   ·cases hg
 | ars t' T U os =>
  simp only [xHk] at hg
  cases hk : Nat.beq k U.w with
  | false => rw [hk] at hg; cases hg
  | true =>
   rw [hk] at hg; simp only [cond_true] at hg;split at hg
   ·rename_i cs' hcs; cases hg; exact tk hcs
   ·cases hg
 | aro t' T U os =>
  simp only [xHk] at hg
  cases hk : Nat.beq row 0 with
  | false => rw [hk] at hg; cases hg
  | true =>
   rw [hk] at hg; simp only [cond_true] at hg;split at hg
   ·rename_i cs' hcs; cases hg; exact tk hcs
   ·cases hg
 | _ => cases hg
theorem ArOk.upd {O : List Info} {w w' : World} {vs : List Value} {os : List Ob} (h : ArOk O w vs os) {m : Nat} {v : Value} {o o' : Ob} (hv : vs[m]? = some v) (ho : os[m]? = some o) {b : Nat} (hb : xDg v o b) (hE : Ex [b] w w') (hok : ObOk O w' v o') (hnr : ∀ o ∈ os, ∀ U xs, o ≠ Ob.rr U xs) : ArOk O w' vs (os.set m o') := by
 have hvb : xHN v = some b := by cases o <;> first | exact hb | cases hb
 have get : ∀ (q : Nat) (s : Ob), (os.set m o')[q]? = some s -> (q = m /\ s = o') \/ (q ≠ m /\ os[q]? = some s) := by
  intro q s hs;rw [List.getElem?_set] at hs;split at hs
  ·rename_i e;subst e;split at hs
   ·exact .inl ⟨rfl, (Option.some.inj hs).symm⟩
   ·cases hs
  ·rename_i e;exact .inr ⟨fun x => e x.symm, hs⟩
 have old : ∀ (u : Value) (s : Ob) (c : Nat), vs[m]? = some u -> s = o' -> xDg u s c -> c = b := fun u s c hu hs hc => by
  rw [hv] at hu; cases hu;have : xHN v = some c := by subst hs; cases s <;> first | exact hc | cases hc
  rw [hvb] at this;exact (Option.some.inj this).symm
 refine ⟨by rw [List.length_set]; exact h.1, fun q u s hu hs => ?_, fun q q' u u' s s' c hq hu hu' hs hs' hc hc' => ?_⟩
 ·rcases get q s hs with ⟨rfl, rfl⟩ | ⟨hne, h1⟩
  ·rw [hv] at hu; cases hu; exact hok
  ·refine (h.2.1 q u s hu h1).ex hE (fun c hc e => ?_) (fun c hc => absurd (⟨q, u, s, hu, h1, hc⟩ : xKi vs os c) (xPU hnr));simp only [List.mem_singleton] at e;subst e;exact h.2.2 m q v u o s c (Ne.symm hne) hv hu ho h1 hb hc
 ·rcases get q s hs with ⟨rfl, rfl⟩ | ⟨hne, h1⟩
  ·have := old u s c hu rfl hc;subst this;rcases get q' s' hs' with ⟨rfl, _⟩ | ⟨_, h2⟩
   ·exact hq rfl
   ·exact h.2.2 q q' v u' o s' c hq hv hu' ho h2 hb hc'
  ·rcases get q' s' hs' with ⟨rfl, rfl⟩ | ⟨_, h2⟩
   ·have := old u' s' c hu' rfl hc';subst this;exact h.2.2 q q' u v s o c hq hu hv h1 ho hc hb
   ·exact h.2.2 q q' u u' s s' c hq hu hu' h1 h2 hc hc'
theorem xI7 {vs : List Value} {os : List Ob} {m : Nat} {v : Value} {o o' : Ob} (hv : vs[m]? = some v) (ho : os[m]? = some o) {b : Nat} (hb : xDg v o b) {c : Nat} (hc : xCs vs (os.set m o') c) : xCs vs os c := by
 have hvb : xHN v = some b := by cases o <;> first | exact hb | cases hb
 obtain ⟨q, u, s, h1, h2, h3⟩ := hc;rw [List.getElem?_set] at h2;split at h2
 ·rename_i e;subst e;split at h2
  ·cases h2;rw [hv] at h1; cases h1;have : xHN v = some c := by cases o' <;> first | exact h3 | cases h3
   rw [hvb] at this;cases this;exact ⟨m, v, o, hv, ho, hb⟩
  ·cases h2
 ·exact ⟨q, u, s, h1, h2, h3⟩
theorem xMt {P : Program} {O : List Info} {w : World} {T : TypeId} {U : TC} {xs : List U.ty} {b o c : Nat} {vs : List Value} (h1 : DenL O (flat U xs) vs) (h2 : ownsAt w T U.w (some ⟨b, o, none⟩) c xs.length vs) {row j : Nat} {cs e : List CV} {us : List Value} {y : U.ty} (hrow : row < xs.length) (he : splice j cs (U.enc (elemAt U xs row)) = some e) (hy : U.dec1 e = some y) (hu : DenL O cs us) :
  ∃ w' vs', (storeCells ⟨b, o + row * U.w + j, none⟩ us).run P w = .ok () w' /\ Ex [b] w w' /\ DenL O (flat U (xs.set row y)) vs' /\ ownsAt w' T U.w (some ⟨b, o, none⟩) c (xs.set row y).length vs' := by
 have hone := hu.ones;have hye := TC.dec1_enc hy;obtain ⟨hf1, hf2⟩ := xQo U xs row j cs e y hrow he hye;obtain ⟨hl, hnc, hcm, h2⟩ := h2;rcases h2 with ⟨h2, _⟩ | ⟨g, o', cur, h2, h3, h4, h5⟩
 ·omega
 ·cases h2;have hcap : xs.length * U.w <= c * U.w := Nat.mul_le_mul_right _ hnc;rw [<- hu.len] at hf2 hf1;have hst := run_storeCells_at P b (o + row * U.w + j) T us 0 cur w h3 (by omega) hone;refine ⟨_, vs.take (row * U.w + j) ++ us ++ vs.drop (row * U.w + j + us.length), hst, Ex.setRow _ _ _, ?_, ?_⟩
  ·rw [hf1];exact DenL.app (DenL.app (h1.take _) hu) (h1.drop _)
  ·refine ⟨?_, by simpa using hnc, hcm, .inr ⟨b, o, _, rfl, setRow_heap _ _ _ _ _ _ h3, ?_, ?_⟩⟩
   ·simp only [List.length_append, List.length_take, List.length_drop, List.length_set]; omega
   ·simp; omega
   ·rw [List.length_set];have := xEF cur.toList us o (row * U.w + j) (xs.length * U.w) hf2 (by simp; omega);rw [h5] at this;rw [<- this];simp [Nat.add_assoc]
theorem xXP {P : Program} {O : List Info} {w : World} {i : Info} {r r' : Root} {n k row j t : Nat} {cs : List CV} {us : List Value} {g : Bool} (h : RootOk O w i r) (ht : r.tag = some t) (hg : xRU r n k row j cs = some (g, r')) (hgt : g = true) {m : Nat} (hn : n = m + 1) {u : Value} (hu : (i.objs t)[m]? = some u) {b o len : Nat} (ha : hdA u = some (b, o, len)) (hrow : row < len) (hus : DenL O cs us) :
  ∃ w', (storeCells ⟨b, o + row * k + j, none⟩ us).run P w = .ok () w' /\ Ex [b] w w' /\ RootOk O w' i r' /\ own i r b /\ (∀ c, foot i r' c -> own i r c) /\ r'.tag = r.tag := by
 subst hgt;have hvb : xHN u = some b := by
  obtain ⟨c, hc⟩ := xUA ha;rw [xLb hc]; rfl
 cases r with
 | ars t' T U os =>
  simp only [xRU] at hg
  cases hk : Nat.beq k U.w with
  | false => rw [hk] at hg; cases hg
  | true =>
   rw [hk] at hg;have := nbT hk;subst this;simp only [cond_true] at hg;split at hg
   ·rename_i e he;split at hg
    ·rename_i y hy;simp only [Option.some.injEq, Prod.mk.injEq] at hg;obtain ⟨hg, rfl⟩ := hg;have hlt := of_decide_eq_true hg;obtain ⟨m', hm, hos⟩ := xIb hlt;obtain rfl : m = m' := by omega
     have ho : (Root.ars t' T U os).obs[m]? = some (.row T U (rowAt os n)) := by
      simp only [Root.obs, List.getElem?_map, hos, Option.map_some]
     obtain ⟨_, hw, h1, c, vs, h0, h2, h3⟩ := xQL h ht hu ho ha;obtain ⟨w', vs', q1, q2, q3, q4⟩ := xMt (P := P) h2 h3 hlt he hy (xBi hus);cases ht;have hob : (Root.ars t T U (xBh os n ((rowAt os n).set row y))).obs = (Root.ars t T U os).obs.set m (.row T U ((rowAt os n).set row y)) := by
      simp only [Root.obs, xBh, hn, Nat.add_sub_cancel, List.map_set]
     refine ⟨w', q1, q2, ?_, h1, fun c' hc' => ?_, rfl⟩
     ·show ArOk O w' (i.objs t) (Root.ars t T U (xBh os n ((rowAt os n).set row y))).obs;rw [hob];exact ArOk.upd (o' := .row T U ((rowAt os n).set row y)) h hu ho (b := b) hvb q2 ⟨_, c, by rw [List.length_set]; exact h0, hw, vs', q3, q4⟩ (Root.obs_rr (by intros; exact fun e => by cases e))
     ·have : xCs (i.objs t) (Root.ars t T U (xBh os n ((rowAt os n).set row y))).obs c' := hc';rw [hob] at this;exact xI7 hu ho (b := b) hvb this
    ·cases hg
   ·cases hg
 | aro t' T U os =>
  simp only [xRU] at hg
  cases hk : Nat.beq row 0 with
  | false => rw [hk] at hg; cases hg
  | true =>
   rw [hk] at hg;have := nbT hk;subst this;simp only [cond_true] at hg;split at hg
   ·rename_i e he;split at hg
    ·rename_i y hy;simp only [Option.some.injEq, Prod.mk.injEq] at hg;obtain ⟨hg, rfl⟩ := hg;obtain ⟨m', hm, hlt⟩ := xQf hg;obtain rfl : m = m' := by omega
     have hel : elemAt U os (n - 1) = os[m] := by
      rw [hn, Nat.add_sub_cancel]; simp [elemAt, nth, List.getD_eq_getElem?_getD, List.getElem?_eq_getElem hlt]
     have ho : (Root.aro t' T U os).obs[m]? = some (.row T U [os[m]]) := by
      simp only [Root.obs, List.getElem?_map, List.getElem?_eq_getElem hlt, Option.map_some]
     obtain ⟨_, hw, h1, c, vs, h0, h2, h3⟩ := xQL h ht hu ho ha;rw [hel] at he;obtain ⟨w', vs', q1, q2, q3, q4⟩ := xMt (P := P) (row := 0) h2 h3 (by simp) (by simpa [elemAt, nth] using he) hy (xBi hus);cases ht;have hob : (Root.aro t T U (os.set (n - 1) y)).obs = (Root.aro t T U os).obs.set m (.row T U [y]) := by
      simp only [Root.obs, hn, Nat.add_sub_cancel, List.map_set]
     have hz : o + 0 * k + j = o + 0 * U.w + j := by simp
     refine ⟨w', by rw [hz]; exact q1, q2, ?_, h1, fun c' hc' => ?_, rfl⟩
     ·show ArOk O w' (i.objs t) (Root.aro t T U (os.set (n - 1) y)).obs;rw [hob];exact ArOk.upd (o' := .row T U [y]) h hu ho (b := b) hvb q2 ⟨_, c, h0, hw, vs', by simpa using q3, by simpa using q4⟩ (Root.obs_rr (by intros; exact fun e => by cases e))
     ·have : xCs (i.objs t) (Root.aro t T U (os.set (n - 1) y)).obs c' := hc';rw [hob] at this;exact xI7 hu ho (b := b) hvb this
    ·cases hg
   ·cases hg
 | _ => cases hg
end Go.Proofs.YtnomnijhlbalaaaGreatDoor
