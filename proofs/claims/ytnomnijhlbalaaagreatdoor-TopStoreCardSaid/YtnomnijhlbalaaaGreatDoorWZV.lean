/- A part of the proof of the theorem of the last file. No condition. By an AI agent. -/
import Derived.Test.YtnomnijhlbalaaaGreatDoorWZA
namespace Go.Proofs.YtnomnijhlbalaaaGreatDoor
open Go.RowKit
section
variable {P : Program} {ops : Array Oper} {Q : Exit -> Act -> World -> Prop}
abbrev Gs := List (Nat × (World -> Prop))
def xUp (ops : Array Oper) (G : Gs) (i : Nat) (w w' : World) : Prop := ∀ p ∈ G, waits .any ops ops.size i p.1 = false -> p.2 w -> p.2 w'
def xDl (P : Program) (ops : Array Oper) (Q : Exit -> Act -> World -> Prop) (G : Gs) : Nat -> Array Bool -> Act -> World -> Prop
 | 0, listed, a, w => Region.ready .any ops listed = [] /\ Q .normal a w
 | fuel + 1, listed, a, w =>
  (Region.ready .any ops listed = [] -> Q .normal a w) /\
  ∀ i ∈ Region.ready .any ops listed, wpOp P ops Q i (fun a' w' => xUp ops G i w w' /\ xDl P ops Q G fuel (listed.setIfInBounds i true) a' w') a w
theorem xGa {G : Gs} : ∀ (fuel : Nat) (listed : Array Bool) (a : Act) (w : World), xDl P ops Q G fuel listed a w -> wpAny P .any ops Q fuel listed a w
 | 0, _, _, _, h => h
 | fuel + 1, _, _, _, h => ⟨h.1, fun i hi => wpOp_mono (fun a' w' h' => xGa fuel _ a' w' h'.2) (h.2 i hi)⟩
theorem xHL {G : Gs} {x : Nat × (World -> Prop)} : ∀ (fuel : Nat) (listed : Array Bool) (a : Act) (w : World), xDl P ops Q (x :: G) fuel listed a w -> xDl P ops Q G fuel listed a w
 | 0, _, _, _, h => h
 | fuel + 1, _, _, _, h => ⟨h.1, fun i hi => wpOp_mono (fun a' w' h' => ⟨fun p hp => h'.1 p (List.mem_cons_of_mem _ hp), xHL fuel _ a' w' h'.2⟩) (h.2 i hi)⟩
theorem xHK {G : Gs} {i : Nat} : ∀ (fuel : Nat) (listed : Array Bool) (a : Act) (w : World), xDl P ops Q G fuel listed a w -> xDl P ops Q ((i, fun _ => True) :: G) fuel listed a w
 | 0, _, _, _, h => h
 | fuel + 1, _, _, _, h => ⟨h.1, fun j hj => wpOp_mono (fun a' w' h' => ⟨fun p hp hw hT => by
   rcases List.mem_cons.1 hp with rfl | hp
   ·trivial
   ·exact h'.1 p hp hw hT, xHK fuel _ a' w' h'.2⟩) (h.2 j hj)⟩
theorem xGM {T : World -> Prop} {G : Gs} {i : Nat} {oi : Oper} {v : Value} (hi : ops[i]? = some oi) (hsel : ∀ (j : Nat) (o : Oper) cs b, ops[j]? = some o -> o.op ≠ .select cs b)
  (hQ : ∀ c a w, Q (.panic c) (a.put oi.dst v) w -> Q (.panic c) a w) :
  ∀ (fuel : Nat) (listed : Array Bool) (a : Act) (w : World), Closed .any ops listed ->
   (∀ j oj, ops[j]? = some oj -> j ≠ i -> listed.getD j true = false -> (∀ e ∈ oj.after, Region.binds .any e = true -> e.on ≠ i) -> oi.apart ops oj = true) ->
   i ∈ Region.ready .any ops listed -> YieldsIf P ops T oi v a -> T w ->
   xDl P ops Q ((i, T) :: G) fuel (listed.setIfInBounds i true) (a.put oi.dst v) w -> xDl P ops Q G (fuel + 1) listed a w := by
 intro fuel
 induction fuel with
 | zero =>
  intro listed a w _ _ hr hy hT H;refine ⟨fun h => (by rw [h] at hr; cases hr), fun j hj => ?_⟩;by_cases hji : j = i
  ·subst hji; exact hy.wpOp hi hT ⟨fun _ _ _ h => h, H⟩
  ·have := ready_mono hj hji;rw [H.1] at this;cases this
 | succ fuel ih =>
  intro listed a w hc hfree hr hy hT H;refine ⟨fun h => (by rw [h] at hr; cases hr), fun j hj => ?_⟩;by_cases hji : j = i
  ·subst hji; exact hy.wpOp hi hT ⟨fun _ _ _ h => h, xHL _ _ _ _ H⟩
  ·have h1 := H.2 j (ready_mono hj hji);obtain ⟨hjun, oj, hoj, hall⟩ := mem_ready.1 hj;have hil := xBD hr;have hjx : waits .any ops ops.size j i = false := by
    cases hx : waits .any ops ops.size j i with
    | false => rfl
    | true =>
     have := xEc hc ops.size j i hx (fun o ho e he hb => by rw [hoj] at ho; cases ho; exact hall e he hb);rw [hil] at this; cases this
   have hnot : ∀ e ∈ oj.after, Region.binds .any e = true -> e.on ≠ i := fun e he hb heq => by
    have h1 := hall e he hb;rw [heq, hil] at h1; cases h1
   have h2 := wpOp_putIf hoj (hfree j oj hoj hji hjun hnot) (fun cs b => hsel i oi cs b hi) (fun cs b => hsel j oj cs b hoj) hQ hy h1;have hfree' : ∀ k ok, ops[k]? = some ok -> k ≠ i -> (listed.setIfInBounds j true).getD k true = false ->
     (∀ e ∈ ok.after, Region.binds .any e = true -> e.on ≠ i) -> oi.apart ops ok = true := fun k ok hk hki hun hno => by
    refine hfree k ok hk hki ?_ hno;by_cases hjk : j = k
    ·subst hjk; exact hjun
    ·rw [getD_set_ne true hjk] at hun; exact hun
   refine wpOp_mono (fun a' w' h3 => ?_) h2;have hT' := h3.2.1 (i, T) (by simp) hjx hT;refine ⟨fun p hp => h3.2.1 p (List.mem_cons_of_mem _ hp), ih (listed.setIfInBounds j true) a' w' (xBd hc hj) hfree' (ready_mono hr (Ne.symm hji)) h3.1 hT' ?_⟩;rw [Array.setIfInBounds_comm _ _ hji];exact h3.2.2
def cf : List Bool -> Nat
 | [] => 0
 | b :: l => (bif b then 0 else 1) + cf l
theorem cf_set : ∀ (l : List Bool) (i : Nat), l[i]? = some false -> cf (l.set i true) + 1 = cf l
 | [], i, h => by simp at h
 | b :: l, 0, h => by
  simp only [List.getElem?_cons_zero, Option.some.injEq] at h;subst h;simp only [List.set_cons_zero, cf, cond_true, cond_false]; omega
 | b :: l, i + 1, h => by
  simp only [List.getElem?_cons_succ] at h;have := cf_set l i h;simp only [List.set_cons_succ, cf]; omega
theorem xVk : ∀ n : Nat, cf (List.replicate n false) = n
 | 0 => rfl
 | n + 1 => by rw [List.replicate_succ, cf, xVk n]; simp; omega
end
section
variable {P : Program} {N : Nat} {S F : List Nat} {W0 : World} {O O' : List Info} {K : Slo} {h h' : List Root} {w w' : World} {a : Act} {o : Oper} {ops : Array Oper} {β : Type} {r : β} {call : xAK β}
def GOk (O : List Info) (h : List Root) : Reads -> Gs -> Prop
 | [], G => G = []
 | (i, x) :: l, G => ∃ T G', (G = (i, T) :: G' /\ ∀ w w' : World, Ext w w' -> T w -> T w') /\ (match x with
  | none => True
  | some ids => ∃ (bs : List Nat) (w0 : World), T = (fun w' => ∀ b ∈ bs, w'.heap[b]? = w0.heap[b]?) /\ ∀ b ∈ bs, b ∈ xIJ \/ ∃ id ∈ ids, ∃ r inf, h[id]? = some r /\ O[id]? = some inf /\ foot inf r b) /\ GOk O h l G'
theorem xU0 {l m : List Nat} (hd : disj l m = true) {x : Nat} (hx : x ∈ l) : x ∉ m := fun hm => by
 simp only [disj, List.all_eq_true, Bool.not_eq_true'] at hd;have := hd x hx x hm;rw [Nat.beq_refl] at this; cases this
theorem GOk.ext {i : Nat} (hE : Ext w w') : ∀ {Gd : Reads} {G : Gs}, GOk O h Gd G -> xUp ops G i w w'
 | [], G, hg => by rw [show G = [] from hg]; intro p hp; cases hp
 | (j, x) :: l, G, ⟨T, G', ⟨e, hs⟩, h1, h2⟩ => by
  subst e;intro p hp hw hT;rcases List.mem_cons.1 hp with rfl | hp
  ·exact hs w w' hE hT
  ·exact GOk.ext hE h2 p hp hw hT
theorem xKe {i : Nat} {t : List Nat} (hh : HOk S F W0 O h w) {B : List Nat} (hE : Ex B w w') (hB : ∀ b ∈ B, ∃ p ∈ t, ∃ r i, h[p]? = some r /\ O[p]? = some i /\ own i r b) : ∀ {Gd : Reads} {G : Gs}, GOk O h Gd G -> calm ops Gd i t = true -> xUp ops G i w w'
 | [], G, hg, _ => by rw [show G = [] from hg]; intro p hp; cases hp
 | (j, x) :: l, G, ⟨T, G', ⟨e, _⟩, h1, h2⟩, hc => by
  subst e;simp only [calm, List.all_cons, Bool.and_eq_true] at hc;have ih := xKe hh hE hB h2 hc.2;intro p hp hw hT;rcases List.mem_cons.1 hp with rfl | hp
  ·have hx := hc.1;rw [show waits .any ops ops.size i j = false from hw, Bool.or_false] at hx
   cases x with
   | none => cases hx
   | some ids =>
    obtain ⟨bs, w0, e2, h3⟩ := h1;subst e2;intro b hb;rcases h3 b hb with hgb | ⟨id, hid, r, inf, g1, g2, g3⟩
    ·have hnB : b ∉ B := fun hbB => by
      obtain ⟨p', hp', r', i', k1, k2, k3⟩ := hB b hbB;exact hh.own_gBlk k1 k2 k3 hgb
     rw [hE.block b (hh.outW hgb) hnB];exact hT b hb
    have hnB : b ∉ B := fun hbB => by
     obtain ⟨p', hp', r', i', k1, k2, k3⟩ := hB b hbB;have hne : p' ≠ id := fun e => xU0 hx hid (e ▸ hp');exact hh.sep p' id r' r i' inf b hne k1 g1 k2 g2 k3 g3
    rw [hE.block b ((hh.ok id r inf g1 g2).lt g3) hnB];exact hT b hb
  ·exact ih p hp hw hT
theorem GOk.after {t : List Nat} (hh : HOk S F W0 O h w) (hp : Pre O O') (hsame : ∀ q : Nat, q ∉ t -> q < h.length -> h'[q]? = h[q]?) : ∀ {Gd : Reads} {G : Gs}, GOk O h Gd G -> GOk O' h' (xNK t Gd) G
 | [], _, hg => hg
 | (i, none) :: l, _, ⟨T, G', e, _, h2⟩ => ⟨T, G', e, trivial, GOk.after hh hp hsame h2⟩
 | (i, some ids) :: l, _, ⟨T, G', e, ⟨bs, w0, e2, h1⟩, h2⟩ => by
  refine ⟨T, G', e, ?_, GOk.after hh hp hsame h2⟩;dsimp only
  cases hd : disj ids t with
  | false => dsimp only [cond_false]
  | true =>
   dsimp only [cond_true];refine ⟨bs, w0, e2, fun b hb => ?_⟩;rcases h1 b hb with hg | ⟨id, hid, r, inf, g1, g2, g3⟩
   ·exact .inl hg
   refine .inr ⟨id, hid, r, inf, ?_, hp _ _ g2, g3⟩;rw [hsame id (xU0 hd hid) (List.getElem?_eq_some_iff.1 g1).1];exact g1
structure EOk (P : Program) (ops : Array Oper) (W0 : World) (O : List Info) (h : List Root) (a : Act) (w : World) (e b : Nat) : Prop where
 ex : ∃ (oe : Oper) (d : Nat) (obj : Obj) (mk : Nat -> Value), ops[e]? = some oe /\ oe.dst = some d /\ a.tmps[d]? = some (mk b) /\ w.heap[b]? = some obj /\ Region.wanted oe (yielded ops a.tmps) = true /\ ∀ w : World, (execOp a.eval oe).run P w = .ok (.value (mk w.heap.size)) (w.alloc obj)
 new : W0.heap.size <= b
 apart : ∀ (id : Nat) (r : Root) (i : Info), h[id]? = some r -> O[id]? = some i -> ¬ foot i r b
theorem EOk.put (hsel : ∀ (j : Nat) (o : Oper) cs b, ops[j]? = some o -> o.op ≠ .select cs b) {e b : Nat} (he : EOk P ops W0 O h a w e b) {oi : Oper} {u : Value} (hap : ∀ oe, ops[e]? = some oe -> oi.apart ops oe = true) : EOk P ops W0 O h (a.put oi.dst u) w e b := by
 obtain ⟨oe, d, obj, mk, h1, h2, h3, h4, h6, h5⟩ := he.ex;obtain ⟨g1, g2, g3⟩ := Oper.apart_spec (hap oe h1);refine ⟨⟨oe, d, obj, mk, h1, h2, ?_, h4, by rw [wanted_put oe a oi.dst u g1]; exact h6, fun w => ?_⟩, he.new, he.apart⟩
 ·cases hd : oi.dst with
  | none => exact h3
  | some x =>
   have hne : x ≠ d := fun e => g2 x hd (by rw [h2, e]);simp only [Act.put];rw [Array.getElem?_setIfInBounds_ne hne];exact h3
 ·rw [execOp_put oe (fun cs b => hsel e oe cs b h1) a oi.dst u g1];exact h5 w
theorem EOk.world {e b : Nat} (he : EOk P ops W0 O h a w e b) {B : List Nat} (hE : Ex B w w') (hB : b ∉ B) : EOk P ops W0 O h a w' e b := by
 obtain ⟨oe, d, obj, mk, h1, h2, h3, h4, h6, h5⟩ := he.ex;exact ⟨⟨oe, d, obj, mk, h1, h2, h3, hE.heap hB h4, h6, h5⟩, he.new, he.apart⟩
def ESk (ops : Array Oper) (a : Act) (e : Nat) : Prop :=
 ∃ (oe : Oper) (d : Nat), ops[e]? = some oe /\ oe.dst = some d /\ a.tmps[d]? = some undef /\ Region.wanted oe (yielded ops a.tmps) = false
theorem ESk.put {e : Nat} (he : ESk ops a e) {oi : Oper} {u : Value} (hap : ∀ oe, ops[e]? = some oe -> oi.apart ops oe = true) : ESk ops (a.put oi.dst u) e := by
 obtain ⟨oe, d, h1, h2, h3, h6⟩ := he;obtain ⟨g1, g2, g3⟩ := Oper.apart_spec (hap oe h1);refine ⟨oe, d, h1, h2, ?_, by rw [wanted_put oe a oi.dst u g1]; exact h6⟩
 cases hd : oi.dst with
 | none => exact h3
 | some x =>
  have hne : x ≠ d := fun e => g2 x hd (by rw [h2, e]);simp only [Act.put];rw [Array.getElem?_setIfInBounds_ne hne];exact h3
def EOkO (P : Program) (ops : Array Oper) (W0 : World) (O : List Info) (h : List Root) (a : Act) (w : World) (e : Nat) : Nat -> Prop
 | 0 => ESk ops a e
 | b + 1 => EOk P ops W0 O h a w e b
theorem EOkO.put (hsel : ∀ (j : Nat) (o : Oper) cs b, ops[j]? = some o -> o.op ≠ .select cs b) {e : Nat} : ∀ {b : Nat} (_ : EOkO P ops W0 O h a w e b) {oi : Oper} {u : Value} (_ : ∀ oe, ops[e]? = some oe -> oi.apart ops oe = true), EOkO P ops W0 O h (a.put oi.dst u) w e b
 | 0, he, _, _, hap => ESk.put he hap
 | _ + 1, he, _, _, hap => EOk.put hsel he hap
end
section
variable {P : Program} {N : Nat} {D : List Deferred} {S F : List Nat} {W0 : World} {O O' : List Info} {K : Slo} {h h' : List Root} {w w' : World} {a : Act} {o : Oper} {ops : Array Oper} {β : Type} {r : β} {call : xAK β}
theorem xB3 {v : PV} {k : Slo -> List Root -> Option β} (hr : xDf N K o v h k = some r) : ∃ K', xHu N K o.dst v = some K' /\ k K' h = some r := by
 unfold xDf at hr;split at hr
 ·rename_i K' hK'; exact ⟨K', hK', hr⟩
 ·cases hr
theorem xWZ (hcall : xAJ P call) (hK : KOk N D O K a) (hh : HOk S F W0 O h w) {ok : List Nat -> Bool} {k : List Nat -> Slo -> List Root -> Option β} (hr : xTF P N call ok K h o k = some r) {Q : Exit -> Act -> World -> Prop} {next : Act -> World -> Prop}
  (hn : ∀ (O' : List Info) (K' : Slo) (h' : List Root) (u : Value) (v : PV) (w' : World) (B t : List Nat), Pre O O' -> xHu N K o.dst v = some K' -> KOk N D O' K' (a.put o.dst u) -> HOk S F W0 O' h' w' -> k t K' h' = some r -> Ex B w w' -> (∀ b ∈ B, ∃ p ∈ t, ∃ r i, h[p]? = some r /\ O[p]? = some i /\ own i r b) ->
   (∀ q : Nat, q ∉ t -> q < h.length -> h'[q]? = h[q]?) -> Feet O h w O' h' -> (ok t = true \/ w' = w) -> next (a.put o.dst u) w') : o.wp P a w next Q := by
 unfold xTF at hr;have hv := xHt (P := P) (o := o) hK hh;have same : ∀ {v : PV} {u : Value}, DenP O v u -> xDf N K o v h (k []) = some r -> next (a.put o.dst u) w := by
  intro v u h3 h2;obtain ⟨K', h5, h6⟩ := xB3 h2;exact hn O K' h u v w [] [] (Pre.refl _) h5 (xFG hK h3 h5) hh h6 (Ex.refl _ _) (by simp) (fun _ _ _ => rfl) (Feet.refl w) (.inr rfl)
 split at hr
 ·rename_i g v hs;rw [hs] at hv;obtain ⟨h1, h2⟩ := xBE hr;obtain ⟨u, h3, h4⟩ := hv h1;unfold Oper.wp;rw [h4 w (Agree.refl _ _ _ _), Oper.upon_value];exact same h3 h2
 ·rename_i b x y hs;rw [hs] at hv;obtain ⟨u, h3, h4⟩ := hv;unfold Oper.wp;rw [h4 w (Agree.refl _ _ _ _), Oper.upon_value]
  cases b with
  | true => exact same h3 hr
  | false => exact same h3 hr
 ·have hm := xKv (P := P) (o := o) hK hh;split at hr
  ·rename_i g v h' t hs;rw [hs] at hm
   cases hok : ok t with
   | false => rw [hok] at hr; cases hr
   | true =>
    rw [hok] at hr;obtain ⟨h1, h2⟩ := xBE hr;obtain ⟨K', h5, h6⟩ := xB3 h2;obtain ⟨O', u, nx, w', B, q1, q2, q3, q4, q5, q6, q7, q8, q9⟩ := hm h1;unfold Oper.wp;rw [q4];have fin := hn O' K' h' u v w' B t q1 h5 (xFG (hK.mono q1) q2 h5) q5 h6 q6 q7 q8 q9 (.inl hok);rcases q3 with rfl | ⟨rfl, rfl⟩
    ·rw [Oper.upon_value]; exact fin
    ·rw [Oper.upon_skip]; exact fin
  ·rename_i f args hs;rw [hs] at hm;obtain ⟨vs, q1, q2, q3⟩ := hm;unfold Oper.wp;rw [q1, Oper.upon_enter];refine (hcall f args h _ r hr S F W0 O w vs q3 hh q2).mono fun e w' he => ?_;obtain ⟨O', h', v, u, B, t, rfl, e1, e2, e3, e4, e5, e6, e7, e8⟩ := he
   cases hok : ok t with
   | false => rw [hok] at e4; cases e4
   | true =>
    rw [hok] at e4;simp only [cond_true] at e4;obtain ⟨K', h5, h6⟩ := xB3 e4;exact hn O' K' h' u v w' B t e1 h5 (xFG (hK.mono e1) e2 h5) e3 h6 e5 e6 e7 e8 (.inl hok)
  ·cases hr
 ·cases hr
theorem xUD {ops : Array Oper} {a : Act} {O : List Info} {D : List Deferred} (hK : KOk N D O K a) {o : Oper} {b : Bool} (hg : gdSt ops K o = some b) : Region.wanted o (yielded ops a.tmps) = b := by
 unfold gdSt at hg;split at hg
 ·rename_i h; cases hg; exact xLf hK h
 ·rename_i h; cases hg; exact xLe hK h
 ·rename_i t b' want h;cases hg;rw [(xFW hK h).1];cases b' <;> cases want <;> rfl
 ·cases hg
theorem xLt : ∀ {A : List Nat} {x : Option β}, early P N K h ops A x = some r -> x = some r /\ ∀ e ∈ A, ∃ o d, ops[e]? = some o /\ o.dst = some d /\ d < N /\ ((gdSt ops K o = some true /\ ∃ g v h', xHd P K h o = .stuck /\ stepM P K h o = .mem g v h' [] /\ AllB g) \/ gdSt ops K o = some false)
 | [], x, hr => ⟨hr, fun e he => by cases he⟩
 | e :: A, x, hr => by
  simp only [early] at hr;split at hr
  ·rename_i o ho;split at hr
   ·rename_i d b h3 h8
    cases hb : Nat.ble (d + 1) N with
    | false => rw [hb] at hr; cases hr
    | true =>
     rw [hb] at hr;simp only [cond_true] at hr
     cases b with
     | true =>
      simp only [cond_true] at hr;split at hr
      ·rename_i g v h' h1 h2;obtain ⟨h4, h5⟩ := xBE hr;obtain ⟨h6, h7⟩ := xLt h5;refine ⟨h6, fun e' he' => ?_⟩;rcases List.mem_cons.1 he' with rfl | he'
       ·exact ⟨o, d, ho, h3, Nat.le_of_ble_eq_true hb, .inl ⟨h8, g, v, h', h1, h2, h4⟩⟩
       ·exact h7 e' he'
      ·cases hr
     | false =>
      simp only [cond_false] at hr;obtain ⟨h6, h7⟩ := xLt hr;refine ⟨h6, fun e' he' => ?_⟩;rcases List.mem_cons.1 he' with rfl | he'
      ·exact ⟨o, d, ho, h3, Nat.le_of_ble_eq_true hb, .inr h8⟩
      ·exact h7 e' he'
   ·cases hr
  ·cases hr
theorem xCI (hK : KOk N D O K a) {f g : Slo -> Option β} (hr : xJn ops K o f g = some r) :
  (Region.wanted o (yielded ops a.tmps) = true /\ ∃ K1, f K1 = some r /\ KOk N D O K1 a /\ (∀ d, lkP K d = none -> lkP K1 d = none) /\ (o.guard = none -> K1 = K)) \/
  (Region.wanted o (yielded ops a.tmps) = false /\ ∃ K1, g K1 = some r /\ KOk N D O K1 a /\ (∀ d, lkP K d = none -> lkP K1 d = none) /\ o.guard ≠ none) := by
 unfold xJn at hr;split at hr
 ·rename_i hg;exact .inl ⟨xLf hK hg, K, hr, hK, fun _ h => h, fun _ => rfl⟩
 ·rename_i hg;refine .inr ⟨xLe hK hg, K, hr, hK, fun _ h => h, fun e => ?_⟩;unfold xUE at hg;rw [e] at hg;cases hg
 ·rename_i t b want hg;obtain ⟨h1, h2⟩ := xFW hK hg;have hgn : o.guard ≠ none := fun e => by
   unfold xUE at hg;rw [e] at hg;cases hg
  have keep : ∀ (x : PV) (d : Nat), lkP K d = none -> lkP (xDF K t x) d = none := fun x d hd => by
   rw [xBj];split
   ·rename_i e; subst e; rw [h2] at hd; cases hd
   ·exact hd
  cases b with
  | true =>
   simp only [cond_true] at hr;have hK' := hK.bool h2 true rfl
   cases want with
   | true => exact .inl ⟨by rw [h1]; rfl, _, hr, hK', keep _, fun e => absurd e hgn⟩
   | false => exact .inr ⟨by rw [h1]; rfl, _, hr, hK', keep _, hgn⟩
  | false =>
   simp only [cond_false] at hr;have hK' := hK.bool h2 false rfl
   cases want with
   | true => exact .inr ⟨by rw [h1]; rfl, _, hr, hK', keep _, hgn⟩
   | false => exact .inl ⟨by rw [h1]; rfl, _, hr, hK', keep _, fun e => absurd e hgn⟩
 ·cases hr
theorem xH9 {K' : Slo} {v : PV} {dst : Option Tmp} (hs : xHu N K dst v = some K') {d : Nat} (hne : dst ≠ some d) (hd : lkP K d = none) : lkP K' d = none := by
 cases dst with
 | none => cases hs; exact hd
 | some t =>
  simp only [xHu] at hs
  cases hb : Nat.ble (t + 1) N with
  | false => rw [hb] at hs; cases hs
  | true =>
   rw [hb] at hs;cases hs;rw [xBj, if_neg (fun e => hne (by rw [e]))];exact hd
theorem KOk.other (hK : KOk N D O K a) {d : Nat} (hd : lkP K d = none) (u : Value) : KOk N D O K (a.put (some d) u) := by
 refine ⟨by simp [Act.put, hK.1], hK.2.1, fun t p hp => ?_⟩;obtain ⟨x, h1, h2⟩ := hK.2.2 t p hp;have hne : d ≠ t := fun e => by subst e; rw [hd] at hp; cases hp
 refine ⟨x, h1, ?_⟩;simp only [Act.put];rw [Array.getElem?_setIfInBounds_ne hne];exact h2
theorem KOk.have (hK : KOk N D O K a) {d : Nat} {v : PV} {u : Value} (hv : DenP O v u) (hu : a.tmps[d]? = some u) : KOk N D O (xDF K d v) a := by
 refine ⟨hK.1, hK.2.1, fun t p hp => ?_⟩;rw [xBj] at hp;split at hp
 ·rename_i e; subst e; cases hp; exact ⟨u, hv, hu⟩
 ·exact hK.2.2 t p hp
end
section
variable {P : Program} {N : Nat} {D : List Deferred} {S F : List Nat} {W0 : World} {O O' : List Info} {K : Slo} {h h' : List Root} {w w' : World} {a : Act} {o : Oper} {ops : Array Oper} {β : Type} {r : β} {call : xAK β}
abbrev Es := List (Nat × Nat)
def inE (E : Es) (j : Nat) : Bool := E.any (fun p => Nat.beq p.1 j)
theorem xB7 {E : Es} {j : Nat} : inE E j = true ↔ ∃ p ∈ E, p.1 = j := by
 unfold inE;rw [List.any_eq_true];constructor
 ·rintro ⟨p, hp, hb⟩; exact ⟨p, hp, nbT hb⟩
 ·rintro ⟨p, hp, rfl⟩; exact ⟨p, hp, Nat.beq_refl _⟩
structure LOk (ops : Array Oper) (c L : Array Bool) (E : Es) : Prop where
 cs : c.size = ops.size
 ls : L.size = ops.size
 eq : ∀ j, j < ops.size -> L.getD j true = (c.getD j true || inE E j)
theorem xFh {L : Array Bool} {j : Nat} (h : j < L.size) : L.getD j true = L.getD j false := by
 simp [Array.getD, h]
theorem xII {L : Array Bool} {j : Nat} (h : L.getD j false = true) : j < L.size := by
 rcases Nat.lt_or_ge j L.size with h1 | h1
 ·exact h1
 ·simp [Array.getD, Nat.not_lt.2 h1] at h
theorem xM9 {L : Array Bool} {j : Nat} (h : L.getD j true = false) : j < L.size := by
 rcases Nat.lt_or_ge j L.size with h1 | h1
 ·exact h1
 ·simp [Array.getD, Nat.not_lt.2 h1] at h
theorem xCo (L : Array Bool) (i j : Nat) : (L.setIfInBounds i true).getD j true = (L.getD j true || Nat.beq i j) := by
 by_cases e : i = j
 ·subst e;rw [Nat.beq_refl, Bool.or_true];rcases Nat.lt_or_ge i L.size with h1 | h1
  ·simp [Array.getD, h1]
  ·simp [Array.getD, Nat.not_lt.2 h1]
 ·rw [getD_set_ne true e]
  cases hb : Nat.beq i j with
  | true => exact absurd (nbT hb) e
  | false => simp
theorem LOk.canon {c L : Array Bool} {E : Es} (hl : LOk ops c L E) (i : Nat) : LOk ops (c.setIfInBounds i true) (L.setIfInBounds i true) E :=
 ⟨by simpa using hl.cs, by simpa using hl.ls, fun j hj => by rw [xCo, xCo, hl.eq j hj]; cases c.getD j true <;> cases inE E j <;> cases Nat.beq i j <;> rfl⟩
theorem LOk.early {c L : Array Bool} {E : Es} (hl : LOk ops c L E) (i b : Nat) : LOk ops c (L.setIfInBounds i true) ((i, b) :: E) :=
 ⟨hl.cs, by simpa using hl.ls, fun j hj => by
  rw [xCo, hl.eq j hj];simp only [inE, List.any_cons];cases c.getD j true <;> cases (E.any fun p => Nat.beq p.1 j) <;> cases Nat.beq i j <;> rfl⟩
def xOH (i : Nat) (E : Es) : Es := E.filter (fun p => !Nat.beq p.1 i)
theorem LOk.stutter {c L : Array Bool} {E : Es} (hl : LOk ops c L E) {i : Nat} (hi : inE E i = true) : LOk ops (c.setIfInBounds i true) L (xOH i E) := by
 refine ⟨by simpa using hl.cs, hl.ls, fun j hj => ?_⟩;rw [xCo, hl.eq j hj];by_cases e : i = j
 ·subst e;rw [hi, Nat.beq_refl]; simp
 ·have h1 : Nat.beq i j = false := by
   cases hb : Nat.beq i j with
   | true => exact absurd (nbT hb) e
   | false => rfl
  have h2 : inE (xOH i E) j = inE E j := by
   cases hx : inE E j with
   | true =>
    obtain ⟨p, hp, rfl⟩ := xB7.1 hx;exact xB7.2 ⟨p, List.mem_filter.2 ⟨hp, by
     cases hb : Nat.beq p.1 i with
     | true => exact absurd (nbT hb).symm e
     | false => rfl⟩, rfl⟩
   | false =>
    cases hy : inE (xOH i E) j with
    | false => rfl
    | true =>
     obtain ⟨p, hp, rfl⟩ := xB7.1 hy;rw [xB7.2 ⟨p, (List.mem_filter.1 hp).1, rfl⟩] at hx; cases hx
  rw [h1, h2, Bool.or_false]
theorem xHv {c : Array Bool} {j : Nat} (hr : j ∈ Region.ready .any ops c) : j < ops.size := by
 obtain ⟨_, o, ho, _⟩ := mem_ready.1 hr;exact (Array.getElem?_eq_some_iff.1 ho).1
theorem LOk.ready {c L : Array Bool} {E : Es} (hl : LOk ops c L E) {j : Nat} (hr : j ∈ Region.ready .any ops c) (hj : inE E j = false) : j ∈ Region.ready .any ops L := by
 have hlt := xHv hr;rw [mem_ready] at hr ⊢;obtain ⟨h0, o, ho, hall⟩ := hr;refine ⟨by rw [hl.eq j hlt, h0, hj]; rfl, o, ho, fun e he hb => ?_⟩;have h1 := hall e he hb;have h2 := xII h1;rw [hl.cs] at h2;rw [<- xFh (by rw [hl.ls]; exact h2), hl.eq _ h2, xFh (by rw [hl.cs]; exact h2), h1];rfl
theorem LOk.unlisted {c L : Array Bool} {E : Es} (hl : LOk ops c L E) {j : Nat} (h : L.getD j true = false) : c.getD j true = false /\ inE E j = false := by
 have h1 := xM9 h;rw [hl.ls] at h1;rw [hl.eq j h1] at h;simpa using h
theorem xIt : ∀ (A : List Nat) (c : Array Bool) (j : Nat), j ∉ A -> (xGo A c).getD j true = c.getD j true
 | [], _, _, _ => rfl
 | x :: A, c, j, hj => by
  simp only [List.mem_cons, not_or] at hj;show (xGo A (c.setIfInBounds x true)).getD j true = _;rw [xIt A _ j hj.2, getD_set_ne true (Ne.symm hj.1)]
theorem xGW : ∀ (A : List Nat) (c : Array Bool) (j : Nat), j < c.size -> (j ∈ A \/ c.getD j false = true) -> (xGo A c).getD j false = true
 | [], _, _, _, h => h.resolve_left (by simp)
 | x :: A, c, j, hlt, h => by
  show (xGo A (c.setIfInBounds x true)).getD j false = true;refine xGW A _ j (by simpa using hlt) ?_;rcases h with h | h
  ·rcases List.mem_cons.1 h with rfl | h
   ·refine .inr ?_;rw [<- xFh (by simpa using hlt), xCo, Nat.beq_refl, Bool.or_true]
   ·exact .inl h
  ·exact .inr (getD_set_true h)
theorem LOk.only {c L : Array Bool} {E : Es} (hl : LOk ops c L E) {A : List Nat} {i : Nat} (ho : only .any ops c A i = true) (hE : ∀ p ∈ E, p.1 ∈ A) {j : Nat} (hr : j ∈ Region.ready .any ops L) (hne : j ≠ i) : j ∈ A := by
 apply Classical.byContradiction;intro hj;have hlt := xHv hr;have hm : j ∈ Region.ready .any ops (xGo A c) := by
  rw [mem_ready] at hr ⊢;obtain ⟨h0, o, hoj, hall⟩ := hr;refine ⟨by rw [xIt A c j hj]; exact (hl.unlisted h0).1, o, hoj, fun e he hb => ?_⟩;have h1 := hall e he hb;have h2 := xII h1;rw [hl.ls] at h2;refine xGW A c _ (by rw [hl.cs]; exact h2) ?_;rw [<- xFh (by rw [hl.ls]; exact h2), hl.eq _ h2] at h1;rcases Bool.or_eq_true_iff.1 h1 with h3 | h3
  ·exact .inr (by rw [<- xFh (by rw [hl.cs]; exact h2)]; exact h3)
  ·obtain ⟨p, hp, e1⟩ := xB7.1 h3;exact .inl (e1 ▸ hE p hp)
 unfold Go.Proofs.YtnomnijhlbalaaaGreatDoor.only at ho;split at ho
 ·rename_i j' hj';rw [hj'] at hm;rw [nbT ho] at hne;exact hne (by simpa using hm)
 ·cases ho
theorem xHG {L : Array Bool} {j : Nat} (hr : j ∈ Region.ready .any ops L) : cf (L.setIfInBounds j true).toList + 1 = cf L.toList := by
 obtain ⟨h0, _⟩ := mem_ready.1 hr;have hlt := xM9 h0;rw [Array.toList_setIfInBounds];refine cf_set _ _ ?_;rw [Array.getElem?_toList, Array.getElem?_eq_getElem hlt];simpa [Array.getD, hlt] using h0
structure Inv (P : Program) (ops : Array Oper) (N : Nat) (D : List Deferred) (S F : List Nat) (W0 : World) (c L : Array Bool) (E : Es) (Gd : Reads) (G : Gs) (O : List Info) (K : Slo) (h : List Root) (a : Act) (w : World) : Prop where
 lo : LOk ops c L E
 cl : Closed .any ops L
 er : ∀ p ∈ E, p.1 ∈ Region.ready .any ops c /\ opAt xBV ops p.1 = true
 nd : E.Pairwise (fun p q => p.1 ≠ q.1 /\ (p.2 = q.2 -> p.2 = 0))
 ko : KOk N D O K a
 ho : HOk S F W0 O h w
 go : GOk O h Gd G
 eo : ∀ p ∈ E, EOkO P ops W0 O h a w p.1 p.2
 un : ∀ (j : Nat) (oj : Oper) (d : Nat), ops[j]? = some oj -> xBV oj = true -> oj.dst = some d -> c.getD j true = false -> lkP K d = none
theorem xLE (hu : xG8 ops = true) {j : Nat} {oj : Oper} (hj : ops[j]? = some oj) (ha : xBV oj = true) {d : Nat} (hd : oj.dst = some d) : d ∉ oj.looksAt ops /\ ∀ (i : Nat) (oi : Oper), ops[i]? = some oi -> i ≠ j -> oi.dst ≠ some d := by
 unfold xG8 at hu;rw [List.all_eq_true] at hu;have h1 := hu j (List.mem_range.2 (Array.getElem?_eq_some_iff.1 hj).1);simp only [opAt, hj, ha, Bool.not_true, Bool.false_or, hd, Bool.and_eq_true, Bool.not_eq_true', List.all_eq_true] at h1;refine ⟨by simpa using h1.1, fun i oi hi hne e => ?_⟩;have h2 := h1.2 i (List.mem_range.2 (Array.getElem?_eq_some_iff.1 hi).1);rw [hi] at h2;simp only [e, Bool.or_eq_true, Bool.not_eq_true'] at h2;rcases h2 with h2 | h2
 ·exact hne (nbT h2)
 ·rw [Nat.beq_refl] at h2; cases h2
theorem xGw {c : Array Bool} {i : Nat} {oi : Oper} (hi : ops[i]? = some oi) (hf : Region.free .any ops c i = true) (hir : i ∈ Region.ready .any ops c) {j : Nat} (hjr : j ∈ Region.ready .any ops c) (hne : j ≠ i) : ∀ oj, ops[j]? = some oj -> oi.apart ops oj = true := by
 intro oj hj;obtain ⟨h0, o, ho, hall⟩ := mem_ready.1 hjr;rw [hj] at ho; cases ho;refine Region.free_spec hi hf j oj hj hne h0 (fun e he hb heq => ?_);have h1 := hall e he hb;rw [heq, xBD hir] at h1; cases h1
end
end Go.Proofs.YtnomnijhlbalaaaGreatDoor
