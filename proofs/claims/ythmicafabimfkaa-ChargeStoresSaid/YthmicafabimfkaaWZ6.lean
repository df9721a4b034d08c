/- Operations that change memory, on data: soundness. No condition. -/
import Derived.Test.YthmicafabimfkaaWZ5
import Derived.Laws.OwnMore
namespace Go.Proofs.Ythmicafabimfkaa
open Go.RowKit
def DenArgs (ρ : List Info) : List PV → List Value → Prop
  | [], vs => vs = []
  | p :: l, vs => ∃ v r, vs = v :: r ∧ DenP ρ p v ∧ DenArgs ρ l r
section
variable {P : Program} {N : Nat} {S F : List Nat} {W0 : World} {ρ : List Info} {K : Slo} {h : List Root} {w : World} {a : Act} {o : Oper}
/-- The blocks that are looked at are those of before, or new. -/
def Feet (ρ : List Info) (h : List Root) (w : World) (ρ' : List Info) (h' : List Root) : Prop :=
  ∀ (q : Nat) (r : Root) (i : Info) (b : Nat), h'[q]? = some r → ρ'[q]? = some i → foot i r b → w.heap.size ≤ b ∨ ∃ (p : Nat) (r0 : Root) (i0 : Info), h[p]? = some r0 ∧ ρ[p]? = some i0 ∧ foot i0 r0 b
theorem Feet.app {i' : Info} {r' : Root} (hl : ρ.length = h.length) {h1 : List Root} (hh : h1.length = h.length) (h1o : ∀ (q : Nat) (r : Root), h1[q]? = some r → r = .dead ∨ h[q]? = some r) (hn : ∀ b, foot i' r' b → w.heap.size ≤ b ∨ ∃ (p : Nat) (r0 : Root) (i0 : Info), h[p]? = some r0 ∧ ρ[p]? = some i0 ∧ foot i0 r0 b) : Feet ρ h w (ρ ++ [i']) (h1 ++ [r']) := by
  intro q r i b hr hi hf
  rcases Nat.lt_or_ge q h.length with hq | hq
  · rw [List.getElem?_append_left (by omega)] at hr hi
    rcases h1o q r hr with rfl | h2
    · exact absurd hf foot_dead
    · exact .inr ⟨q, r, i, h2, hi, hf⟩
  · have hlt := (List.getElem?_eq_some_iff.1 hr).1
    simp at hlt
    obtain rfl : q = h.length := by omega
    rw [List.getElem?_append_right (by omega), hh] at hr
    have := get_new hl hi
    subst this
    simp at hr
    subst hr
    exact hn b hf
theorem Feet.refl (w : World) : Feet ρ h w ρ h := fun q r i _ h1 h2 h3 => .inr ⟨q, r, i, h1, h2, h3⟩
/-- What a step that changes memory leaves. -/
def MemOk (P : Program) (S F : List Nat) (W0 : World) (ρ : List Info) (h : List Root) (w : World) (a : Act) (o : Oper) (v : PV) (h' : List Root) (t : List Nat) : Prop :=
  ∃ ρ' u nx w' B, Pre ρ ρ' ∧ DenP ρ' v u ∧ (nx = .value u ∨ (nx = .skip ∧ u = undef)) ∧ (execOp a.eval o).run P w = .ok nx w' ∧ HOk S F W0 ρ' h' w' ∧ Ex B w w' ∧
    (∀ b ∈ B, ∃ p ∈ t, ∃ r i, h[p]? = some r ∧ ρ[p]? = some i ∧ own i r b) ∧ (∀ q : Nat, q ∉ t → q < h.length → h'[q]? = h[q]?) ∧ Feet ρ h w ρ' h'
def StepM (P : Program) (S F : List Nat) (W0 : World) (ρ : List Info) (h : List Root) (w : World) (a : Act) (o : Oper) : Step → Prop
  | .mem g v h' t => AllB g → MemOk P S F W0 ρ h w a o v h' t
  | .call f args => ∃ vs : List Value, (execOp a.eval o).run P w = .ok (.enter f vs.toArray) w ∧ callable P f = true ∧ DenArgs ρ args vs
  | _ => True
theorem new_get (hh : HOk S F W0 ρ h w) (i : Info) : (ρ ++ [i])[h.length]? = some i := by
  rw [List.getElem?_append_right (by rw [hh.len]; omega), hh.len]; simp
theorem Ex.allocs (w : World) (x : Obj) : Ext w (w.alloc x) := (Ex.refl [] w).alloc x
theorem cellsP_ok {p : PV} {v : Value} {cs : List CV} (hd : DenP ρ p v) (hc : cellsP p = some cs) : DenL ρ cs v.cells.toList := by
  cases p with
  | c y =>
    cases hc
    refine ⟨v, [], ?_, hd, rfl⟩
    have := Den.one hd
    cases v <;> first | rfl | cases this
  | ag m =>
    cases hc
    obtain ⟨vs, h1, h2⟩ := hd
    rw [h2]; simpa [Value.cells] using h1
  | tu m => cases hc
  | un => cases hc
/-- A new block of cells. -/
theorem new_blk (hh : HOk S F W0 ρ h w) {cs : List CV} {T : TypeId} {arr : Array Value} (hd : DenL ρ cs arr.toList) (hrun : (execOp a.eval o).run P w = .ok (.value (.pointer (some ⟨w.heap.size, 0, none⟩))) (w.alloc (.cells arr T (0, 0)))) :
    MemOk P S F W0 ρ h w a o (.c (.pt h.length 0 0 0)) (h ++ [.blk cs T]) [] := by
  refine ⟨ρ ++ [⟨some ⟨w.heap.size, 0, none⟩, cs.length, none, .nilFunc⟩], _, _, _, [], Pre.app _ _, ⟨_, w.heap.size, 0, new_get hh _, rfl, ⟨fun m hm => (by cases hm), fun _ h0 => (by cases h0)⟩, rfl⟩, .inl rfl, hrun, ?_, Ex.allocs _ _, by simp, fun q _ hq => List.getElem?_append_left hq, Feet.app hh.len rfl (fun _ _ h => .inr h) (fun b hb => by simp only [foot, own, Option.map_some, Option.some.injEq] at hb; omega)⟩
  refine hh.add (Ex.allocs _ _) _ _ ⟨⟨rfl, rfl⟩, w.heap.size, arr.toList, rfl, hd.mono (Pre.app _ _), by simpa using blk_new w (.cells arr T (0, 0))⟩ (fun b hb => ?_)
  simp only [foot, own, Option.map_some, Option.some.injEq] at hb
  omega
/-- A new row of the call's own. -/
theorem new_rows (hh : HOk S F W0 ρ h w) {T : TypeId} {τ : TC} {xs : List τ.ty} (hw : 0 < τ.w) {us : List Value} (hd : DenL ρ (flat τ xs) us) {v : Value} {w' : World} (hrun : (execOp a.eval o).run P w = .ok (.value v) w') (hown : w'.ownsRow w.heap.size T τ.w v xs.length us) (hE : Ext w w') :
    MemOk P S F W0 ρ h w a o (.c (.sl h.length τ.w 0 none none)) (h ++ [.rows T τ xs]) [] := by
  obtain ⟨h1, h2⟩ := hown
  have key : ∃ aa cap, v = .slice aa xs.length cap ∧ ownsAt w' T τ.w aa cap xs.length us ∧ xs.length ≤ cap ∧ cap ≤ maxLen ∧ (0 < xs.length → ∃ b o, aa = some ⟨b, o, none⟩) ∧ ∀ b, aa.map (·.block) = some b → w.heap.size ≤ b := by
    rcases h2 with ⟨h2, h3⟩ | ⟨g, cap, cur, h2, h3, h4, h5, h6, h7, h8⟩
    · refine ⟨none, 0, by rw [h2, h3], ⟨h1, by omega, by unfold maxLen; omega, .inl ⟨rfl, by simp⟩⟩, by omega, by unfold maxLen; omega, by omega, by simp⟩
    · refine ⟨some ⟨g, 0, none⟩, cap, h2, ⟨h1, h5, h6, .inr ⟨g, 0, cur, rfl, h4, by omega, by simpa using h8⟩⟩, h5, h6, fun _ => ⟨g, 0, rfl⟩, fun b hb => ?_⟩
      simp only [Option.map_some, Option.some.injEq] at hb
      omega
  obtain ⟨aa, cap, e, k1, k2, k3, k4, k5⟩ := key
  subst e
  refine ⟨ρ ++ [⟨aa, cap, some xs.length, .nilFunc⟩], _, _, _, [], Pre.app _ _, ⟨_, aa, cap, xs.length, new_get hh _, rfl, k2, k3, k4, ⟨_, rfl, (Nat.sub_zero _).symm⟩, ⟨_, rfl, by omega⟩, (Nat.sub_zero _).symm, rfl, fun _ => rfl, fun _ => ?_⟩, .inl rfl, hrun, ?_, hE, by simp, fun q _ hq => List.getElem?_append_left hq, Feet.app (i' := ⟨aa, cap, some xs.length, .nilFunc⟩) (r' := .rows T τ xs) hh.len rfl (fun _ _ h => .inr h) (fun b hb => .inl (k5 b hb))⟩
  · cases aa <;> simp [Addr.add]
  · exact hh.add hE _ _ ⟨rfl, hw, us, hd.mono (Pre.app _ _), k1⟩ (fun b hb => k5 b hb)
theorem repL_ok {z : List CV} {vs : List Value} (hz : DenL ρ z vs) : ∀ n : Nat, DenL ρ (repL n z) (List.replicate n vs).flatten
  | 0 => rfl
  | n + 1 => by rw [repL, List.replicate_succ, List.flatten_cons]; exact hz.app (repL_ok hz n)
theorem madeCells_rep (vs : Array Value) : ∀ n : Nat, (madeCells vs (n * vs.size)).toList = (List.replicate n vs.toList).flatten
  | 0 => by simp [madeCells]
  | n + 1 => by
    have ih := madeCells_rep vs n
    simp only [madeCells, Array.toList_map, Array.toList_range] at ih ⊢
    rw [Nat.add_mul, Nat.one_mul, Nat.add_comm, List.range_add, List.map_append, List.replicate_succ, List.flatten_cons, ← ih, List.map_map]
    congr 1
    · apply List.ext_getElem
      · simp
      · intro i h1 h2
        have h3 : i < vs.size := by simpa using h2
        simp [Nat.mod_eq_of_lt h3, h3]
    · apply List.map_congr_left
      intro i _
      simp
theorem flat_rep (τ : TC) (x : τ.ty) : ∀ n : Nat, flat τ (List.replicate n x) = repL n (τ.enc x)
  | 0 => rfl
  | n + 1 => by rw [List.replicate_succ, flat, List.flatMap_cons, repL]; congr 1; exact flat_rep τ x n
theorem srcOf_ok (hh : HOk S F W0 ρ h w) {τ : TC} {y : PV} {v : Value} {ys : List τ.ty} (hy : DenP ρ y v) (hs : srcOf τ h y = some ys) :
    ∃ a2 c2 us, v = .slice a2 ys.length c2 ∧ DenL ρ (flat τ ys) us ∧ (0 < ys.length → ∃ b o, a2 = some ⟨b, o, none⟩ ∧ ∀ (j : Nat) (u : Value), us[j]? = some u → w.cell? ⟨b, o + j, none⟩ = some u) := by
  have part : ∀ (id k off : Nat) (n c : Option Nat) (τ' : TC) (zs : List τ'.ty) (i : Info) (vs : List Value), ρ[id]? = some i → i.len = some zs.length → DenL ρ (flat τ' zs) vs →
      (∀ b o, i.a = some ⟨b, o, none⟩ → 0 < zs.length → ∀ (j : Nat) (u : Value), vs[j]? = some u → w.cell? ⟨b, o + j, none⟩ = some u) → Den ρ (.sl id k off n c) v → partOf τ τ' zs k off n = some ys →
      ∃ a2 c2 us, v = .slice a2 ys.length c2 ∧ DenL ρ (flat τ ys) us ∧ (0 < ys.length → ∃ b o, a2 = some ⟨b, o, none⟩ ∧ ∀ (j : Nat) (u : Value), us[j]? = some u → w.cell? ⟨b, o + j, none⟩ = some u) := by
    intro id k off n c τ' zs i vs hi hlen hd hcell hden hp
    obtain ⟨i', a', c', nn, h1, h2, h3, h4, h5, h6, h7⟩ := hden
    rw [hi] at h1; cases h1
    unfold partOf at hp
    split at hp
    · rename_i e
      have e' := tcEq_ok e
      subst e'
      cases hk : Nat.beq k τ'.w with
      | false => rw [hk] at hp; cases hp
      | true =>
        rw [hk] at hp
        have hk' := Nat.eq_of_beq_eq_true hk
        subst hk'
        simp only [cond_true] at hp
        have hfl : ∀ x : Nat, flat τ' (zs.drop x) = (flat τ' zs).drop (x * τ'.w) := by
          intro x
          rcases Nat.lt_or_ge x zs.length with hx | hx
          · have := flat_elem τ' zs x hx
            rw [List.append_nil, List.append_nil] at this
            rw [this, List.drop_eq_getElem_cons hx]
            show τ'.enc zs[x] ++ _ = τ'.enc (nth zs τ'.dflt x) ++ _
            rw [← nth_eq zs _ x hx]
            rfl
          · rw [List.drop_of_length_le hx, List.drop_of_length_le (by rw [flat_len]; exact Nat.mul_le_mul_right _ hx)]; rfl
        have hft : ∀ (l : List τ'.ty) (m : Nat), flat τ' (l.take m) = (flat τ' l).take (m * τ'.w) := by
          intro l
          induction l with
          | nil => intro m; simp [flat]
          | cons x l ih =>
            intro m
            cases m with
            | zero => simp [flat]
            | succ m =>
              have := ih m
              simp only [flat] at this
              simp only [List.take_succ_cons, flat, List.flatMap_cons, this]
              rw [show (m + 1) * τ'.w = (τ'.enc x).length + m * τ'.w by rw [τ'.enc_len, Nat.add_mul]; omega, List.take_length_add_append]
        have fin : ∀ (us : List Value), DenL ρ (flat τ' ys) us → (∀ (j : Nat) (u : Value), us[j]? = some u → vs[off * τ'.w + j]? = some u) → nn = ys.length → 0 < zs.length ∨ ys.length = 0 → (0 < ys.length → 0 < nn ∧ a' = i.a.map (·.add (off * τ'.w))) → ∃ a2 c2 us, v = .slice a2 ys.length c2 ∧ DenL ρ (flat τ' ys) us ∧ (0 < ys.length → ∃ b o, a2 = some ⟨b, o, none⟩ ∧ ∀ (j : Nat) (u : Value), us[j]? = some u → w.cell? ⟨b, o + j, none⟩ = some u) := by
          intro us g1 g2 g3 g4 g5
          subst g3
          refine ⟨a', c', us, h2, g1, fun hpos => ?_⟩
          obtain ⟨g6, g7⟩ := g5 hpos
          obtain ⟨b, o, g8⟩ := h5 g6
          refine ⟨b, o + off * τ'.w, by rw [g7, g8, Option.map_some, Addr.add_lit], fun j u hu => ?_⟩
          have := hcell b o g8 (by omega) _ u (g2 j u hu)
          rwa [← Nat.add_assoc] at this
        have addr : 0 < nn → a' = i.a.map (·.add (off * τ'.w)) := by
          intro hpos
          cases c with
          | none =>
            obtain ⟨⟨m, h8, h9⟩, h10, _, h11, h12⟩ := h7
            exact h12 (by omega)
          | some c0 => exact h7.2.2.2 hpos
        split at hp
        · cases hp
          obtain ⟨m, h8, h9⟩ := h6
          rw [hlen] at h8; cases h8
          have hl : nn = (zs.drop off).length := by rw [h9, List.length_drop]
          refine fin (vs.drop (off * τ'.w)) (by rw [hfl]; exact hd.drop _) (fun j u hu => by rwa [List.getElem?_drop] at hu) hl ?_ (fun hpos => ⟨by omega, addr (by omega)⟩)
          rw [List.length_drop]; omega
        · rename_i m
          have hb' : off + m ≤ zs.length := by
            simp only [Info.cnt] at h6
            cases c with
            | none =>
              obtain ⟨⟨m', h8, h9⟩, _⟩ := h7
              rw [hlen] at h8; cases h8; omega
            | some c0 => have := h7.1; rw [hlen] at this; cases this
          cases hp
          have hl : nn = ((zs.drop off).take m).length := by rw [List.length_take, List.length_drop]; simp only [Info.cnt] at h6; omega
          refine fin ((vs.drop (off * τ'.w)).take (m * τ'.w)) (by rw [hft, hfl]; exact (hd.drop _).take _) (fun j u hu => ?_) hl ?_ (fun hpos => ⟨by omega, addr (by omega)⟩)
          · rw [List.getElem?_take] at hu
            split at hu
            · rwa [List.getElem?_drop] at hu
            · cases hu
          · rw [List.length_take, List.length_drop]; omega
    · cases hp
  unfold srcOf at hs
  split at hs
  · rename_i id k off n c
    split at hs
    · rename_i T τ' zs hr
      obtain ⟨i, hi⟩ := hh.info hr
      obtain ⟨h0, _, vs, h1, h2⟩ := hh.ok id _ i hr hi
      exact part id k off n c τ' zs i vs hi h0 h1 (fun b o ha _ j u hu => by rw [ha] at h2; exact owns_cell h2 hu) hy hs
    · rename_i τ' zs hr
      obtain ⟨i, hi⟩ := hh.info hr
      obtain ⟨h0, vs, h1, h2⟩ := hh.ok id _ i hr hi
      refine part id k off n c τ' zs i vs hi h0 h1 (fun b o ha hpos j u hu => ?_) hy hs
      obtain ⟨b', o', h3, _, h4⟩ := h2 hpos
      rw [ha] at h3; cases h3
      exact h4 j u hu
    · cases hs
  · rename_i t n
    split at hs
    · rename_i p t2 τ' os hr
      split at hs
      · rename_i e
        have e' := tcEq_ok e
        subst e'
        cases hs
        obtain ⟨p', hp, hrr, ht⟩ := findAr_ok hr
        rw [Nat.zero_add] at hp; subst hp
        rcases hy with ⟨h0, h1⟩ | ⟨m, id, i0, h1, h2, h3, _⟩
        · subst h0; exact ⟨_, _, [], h1, rfl, fun hpos => absurd hpos (by simp [rrAt])⟩
        · obtain ⟨ip, hip⟩ := hh.info hrr
          have h7 := hh.cov p t _ ip hrr hip ht id i0 m _ h2 h3
          obtain ⟨hA, _⟩ : ArOk ρ w (ip.objs t) (Root.arr t2 τ' os).obs ∧ True := ⟨by cases ht; exact hh.ok p _ ip hrr hip, trivial⟩
          have hlt : m < os.length := by
            have h8 := (List.getElem?_eq_some_iff.1 h7).1
            have h9 := hA.1
            simp only [Root.obs, List.length_map] at h9
            omega
          obtain ⟨a1, c1, g1, _, _, vs, g2, g3⟩ := hA.2.1 m _ (.rr τ' os[m]) h7 (by simp only [Root.obs, List.getElem?_map, List.getElem?_eq_getElem hlt, Option.map_some])
          have hrow : rrAt os n = os[m] := by
            rw [h1]; simp [rrAt, nth, List.getD_eq_getElem?_getD, List.getElem?_eq_getElem hlt]
          show ∃ a2 c2 us, v = .slice a2 (rrAt os n).length c2 ∧ DenL ρ (flat τ' (rrAt os n)) us ∧ _
          rw [hrow]
          refine ⟨a1, c1, vs, g1, g2, fun hpos => ?_⟩
          obtain ⟨b, o, g4, _, g5⟩ := g3 hpos
          exact ⟨b, o, g4, g5⟩
      · cases hs
    · cases hs
  · cases hs
    exact ⟨_, _, [], hy.1, rfl, fun hpos => absurd hpos (by simp)⟩
  · cases hs
end
end Go.Proofs.Ythmicafabimfkaa
