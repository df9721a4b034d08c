/- Memory as data: reading, writing, new roots. No condition. -/
import Derived.Test.YteimbckgldkcgaaGreatDoorWZ1
import Derived.Laws.CopyRow
namespace Go.Proofs.YteimbckgldkcgaaGreatDoor
open Go.RowKit
section
variable {S F : List Nat} {W0 : World} {ρ : List Info} {h : List Root} {w w' : World}
theorem foot_dead {i : Info} {b : Nat} : foot i .dead ≠ some b := by simp [foot, own]
theorem HOk.masked (hh : HOk S F W0 ρ h w) (L : List Nat) : HOk S F W0 ρ (mask L h) w := by
  refine ⟨hh.ext, by rw [mask_len, hh.len], fun id r i hr hi => ?_, fun p q r s i j b hpq hr hs hi hj ho => ?_, fun p r i b hr hi ho => ?_, fun p r i b hr hi ho => ?_, hh.lay, hh.out⟩
  · rcases mask_get L h 0 id r hr with ⟨h1, _⟩ | ⟨rfl, _⟩
    · exact hh.ok id r i h1 hi
    · trivial
  · rcases mask_get L h 0 p r hr with ⟨h1, _⟩ | ⟨rfl, _⟩
    · rcases mask_get L h 0 q s hs with ⟨h2, _⟩ | ⟨rfl, _⟩
      · exact hh.sep p q r s i j b hpq h1 h2 hi hj ho
      · exact foot_dead
    · cases ho
  · rcases mask_get L h 0 p r hr with ⟨h1, _⟩ | ⟨rfl, _⟩
    · exact hh.mine p r i b h1 hi ho
    · cases ho
  · rcases mask_get L h 0 p r hr with ⟨h1, _⟩ | ⟨rfl, _⟩
    · exact hh.near p r i b h1 hi ho
    · exact absurd ho foot_dead
theorem get_lt {ρ : List Info} {h : List Root} (e : ρ.length = h.length) {p : Nat} {i' : Info} {i : Info} (hp : p < h.length) (hi : (ρ ++ [i'])[p]? = some i) : ρ[p]? = some i := by
  rwa [List.getElem?_append_left (by omega)] at hi
theorem get_new {ρ : List Info} {h : List Root} (e : ρ.length = h.length) {i' : Info} {i : Info} (hi : (ρ ++ [i'])[h.length]? = some i) : i = i' := by
  rw [List.getElem?_append_right (by omega)] at hi
  simpa [e] using hi.symm
/-- One root dies, one is new: its block is new, or the dead one's. -/
theorem HOk.move (hh : HOk S F W0 ρ h w) (p : Nat) (B : List Nat) (hE : Ex B w w') (hB : ∀ q r i b, q ≠ p → h[q]? = some r → ρ[q]? = some i → foot i r = some b → b ∉ B) (hB0 : ∀ b ∈ B, W0.heap.size ≤ b ∨ b ∈ S)
    (i' : Info) (r' : Root) (hr : RootOk (ρ ++ [i']) w' i' r') (hnew : ∀ b, foot i' r' = some b → w.heap.size ≤ b ∨ b ∈ B) : HOk S F W0 (ρ ++ [i']) (h.set p .dead ++ [r']) w' := by
  have old : ∀ (q : Nat) (r : Root) (i : Info), q < h.length → (h.set p .dead ++ [r'])[q]? = some r → (ρ ++ [i'])[q]? = some i → (r = .dead ∨ (q ≠ p ∧ h[q]? = some r)) ∧ ρ[q]? = some i := by
    intro q r i hq h1 h2
    refine ⟨?_, get_lt hh.len hq h2⟩
    rw [List.getElem?_append_left (by simpa using hq), List.getElem?_set] at h1
    split at h1
    · rename_i e
      subst e
      rw [if_pos hq] at h1
      exact .inl (Option.some.inj h1).symm
    · rename_i e
      exact .inr ⟨fun x => e x.symm, h1⟩
  have cases' : ∀ (q : Nat) (r : Root) (i : Info), (h.set p .dead ++ [r'])[q]? = some r → (ρ ++ [i'])[q]? = some i → (q < h.length ∧ (r = .dead ∨ (q ≠ p ∧ h[q]? = some r)) ∧ ρ[q]? = some i) ∨ (q = h.length ∧ r = r' ∧ i = i') := by
    intro q r i h1 h2
    rcases Nat.lt_or_ge q h.length with hq | hq
    · exact .inl ⟨hq, old q r i hq h1 h2⟩
    · have hlt := (List.getElem?_eq_some_iff.1 h1).1
      simp at hlt
      obtain rfl : q = h.length := by omega
      refine .inr ⟨rfl, ?_, get_new hh.len h2⟩
      rw [List.getElem?_append_right (by simp)] at h1
      simpa using h1.symm
  refine ⟨?_, by simp [hh.len], ?_, ?_, ?_, ?_, hh.lay, hh.out⟩
  · refine ⟨hE.os.trans hh.ext.os, hE.tape.trans hh.ext.tape, hE.output.trans hh.ext.output, Nat.le_trans hh.ext.size hE.size, fun k hk hs => ?_⟩
    have hkB : k ∉ B := fun hb => by
      rcases hB0 k hb with h1 | h1
      · omega
      · exact hs h1
    rw [hE.block k (Nat.lt_of_lt_of_le hk hh.ext.size) hkB]
    exact hh.ext.block k hk hs
  · intro q r i h1 h2
    rcases cases' q r i h1 h2 with ⟨_, h3, h4⟩ | ⟨_, rfl, rfl⟩
    · rcases h3 with rfl | ⟨hne, h3⟩
      · trivial
      · exact ((hh.ok q r i h3 h4).ex hE (fun b hb => hB q r i b hne h3 h4 hb)).mono (Pre.app _ _)
    · exact hr
  · intro q1 q2 r s i j b hq hr1 hs1 hi hj ho
    rcases cases' q1 r i hr1 hi with ⟨l1, h3, h4⟩ | ⟨e1, rfl, rfl⟩
    · rcases h3 with rfl | ⟨hne, h3⟩
      · cases ho
      · rcases cases' q2 s j hs1 hj with ⟨l2, h5, h6⟩ | ⟨e2, rfl, rfl⟩
        · rcases h5 with rfl | ⟨_, h5⟩
          · exact foot_dead
          · exact hh.sep q1 q2 r s i j b hq h3 h5 h4 h6 ho
        · intro hf
          have hb := own_foot ho
          rcases hnew b hf with hx | hx
          · have := (hh.ok q1 r i h3 h4).lt hb; omega
          · exact hB q1 r i b hne h3 h4 hb hx
    · rcases cases' q2 s j hs1 hj with ⟨l2, h5, h6⟩ | ⟨e2, rfl, rfl⟩
      · rcases h5 with rfl | ⟨hne, h5⟩
        · exact foot_dead
        · intro hf
          rcases hnew b (own_foot ho) with hx | hx
          · have := (hh.ok q2 s j h5 h6).lt hf; omega
          · exact hB q2 s j b hne h5 h6 hf hx
      · exact absurd (e1.trans e2.symm) hq
  · intro q r i b h1 h2 ho
    rcases cases' q r i h1 h2 with ⟨_, h3, h4⟩ | ⟨_, rfl, rfl⟩
    · rcases h3 with rfl | ⟨_, h3⟩
      · cases ho
      · exact hh.mine q r i b h3 h4 ho
    · rcases hnew b (own_foot ho) with hx | hx
      · exact .inl (Nat.le_trans hh.ext.size hx)
      · exact hB0 b hx
  · intro q r i b h1 h2 ho
    rcases cases' q r i h1 h2 with ⟨_, h3, h4⟩ | ⟨_, rfl, rfl⟩
    · rcases h3 with rfl | ⟨_, h3⟩
      · exact absurd ho foot_dead
      · exact hh.near q r i b h3 h4 ho
    · rcases hnew b ho with hx | hx
      · exact .inl (Nat.le_trans hh.ext.size hx)
      · rcases hB0 b hx with h5 | h5
        · exact .inl h5
        · exact .inr (.inl h5)
/-- A root that is new, in a new block or in none. -/
theorem HOk.add (hh : HOk S F W0 ρ h w) (hE : Ext w w') (i' : Info) (r' : Root) (hr : RootOk (ρ ++ [i']) w' i' r') (hnew : ∀ b, foot i' r' = some b → w.heap.size ≤ b) : HOk S F W0 (ρ ++ [i']) (h ++ [r']) w' := by
  have := hh.move h.length [] hE (fun _ _ _ _ _ _ _ _ => by simp) (by simp) i' r' hr (fun b hb => .inl (hnew b hb))
  rwa [List.set_eq_of_length_le (Nat.le_refl _)] at this
/-- A root that is written. -/
theorem HOk.setr (hh : HOk S F W0 ρ h w) {p : Nat} {r : Root} {i : Info} {b : Nat} (hp : h[p]? = some r) (hi : ρ[p]? = some i) (hb : own i r = some b) (hE : Ex [b] w w') (r' : Root) (hr : RootOk ρ w' i r') (hf : ∀ c, foot i r' = some c → c = b) (ho : ∀ c, own i r' = some c → c = b) : HOk S F W0 ρ (h.set p r') w' := by
  have hlt := (List.getElem?_eq_some_iff.1 hp).1
  have get : ∀ (q : Nat) (s : Root), (h.set p r')[q]? = some s → (q = p ∧ s = r') ∨ (q ≠ p ∧ h[q]? = some s) := by
    intro q s hs
    rw [List.getElem?_set] at hs
    split at hs
    · rename_i e
      subst e
      exact .inl ⟨rfl, (Option.some.inj hs).symm⟩
    · rename_i e
      exact .inr ⟨fun x => e x.symm, hs⟩
  have hmine := hh.mine p r i b hp hi hb
  refine ⟨?_, by simp [hh.len], ?_, ?_, ?_, ?_, hh.lay, hh.out⟩
  · refine ⟨hE.os.trans hh.ext.os, hE.tape.trans hh.ext.tape, hE.output.trans hh.ext.output, Nat.le_trans hh.ext.size hE.size, fun k hk hs => ?_⟩
    have hkB : k ∉ [b] := fun e => by
      simp only [List.mem_singleton] at e
      subst e
      rcases hmine with h1 | h1
      · omega
      · exact hs h1
    rw [hE.block k (Nat.lt_of_lt_of_le hk hh.ext.size) hkB]
    exact hh.ext.block k hk hs
  · intro q s j hs hj
    rcases get q s hs with ⟨rfl, rfl⟩ | ⟨hne, h1⟩
    · rw [hi] at hj; cases hj; exact hr
    · refine (hh.ok q s j h1 hj).ex hE (fun c hc e => ?_)
      simp only [List.mem_singleton] at e
      subst e
      exact hh.sep p q r s i j c (Ne.symm hne) hp h1 hi hj hb hc
  · intro q1 q2 s t j k c hq hs ht hj hk hc
    rcases get q1 s hs with ⟨rfl, rfl⟩ | ⟨hne, h1⟩
    · rw [hi] at hj; cases hj
      have := ho c hc
      subst this
      rcases get q2 t ht with ⟨rfl, rfl⟩ | ⟨_, h2⟩
      · exact absurd rfl hq
      · exact hh.sep q1 q2 r t i k c hq hp h2 hi hk hb
    · rcases get q2 t ht with ⟨rfl, rfl⟩ | ⟨_, h2⟩
      · rw [hi] at hk; cases hk
        intro hf2
        have := hf c hf2
        subst this
        exact hh.sep q1 q2 s r j i c hq h1 hp hj hi hc (own_foot hb)
      · exact hh.sep q1 q2 s t j k c hq h1 h2 hj hk hc
  · intro q s j c hs hj hc
    rcases get q s hs with ⟨rfl, rfl⟩ | ⟨_, h1⟩
    · rw [hi] at hj; cases hj
      rw [ho c hc]; exact hmine
    · exact hh.mine q s j c h1 hj hc
  · intro q s j c hs hj hc
    rcases get q s hs with ⟨rfl, rfl⟩ | ⟨_, h1⟩
    · rw [hi] at hj; cases hj
      rw [hf c hc]
      rcases hmine with h5 | h5
      · exact .inl h5
      · exact .inr (.inl h5)
    · exact hh.near q s j c h1 hj hc
end
/-! Cells of a root -/
def takeN : Nat → List CV → Option (List CV)
  | 0, _ => some []
  | _ + 1, [] => none
  | n + 1, c :: l => match takeN n l with
    | some r => some (c :: r)
    | none => none
theorem takeN_eq : ∀ {n : Nat} {l r : List CV}, takeN n l = some r → r = l.take n ∧ n ≤ l.length
  | 0, l, r, h => by simp only [takeN, Option.some.injEq] at h; subst h; simp
  | n + 1, [], r, h => by simp [takeN] at h
  | n + 1, c :: l, r, h => by
    simp only [takeN] at h
    split at h
    · rename_i s hs
      cases h
      obtain ⟨h1, h2⟩ := takeN_eq hs
      exact ⟨by simp [h1], by simp; omega⟩
    · cases h
def elemAt (τ : TC) (xs : List τ.ty) (row : Nat) : τ.ty := nth xs τ.dflt row
/-- Cells of one kind, as a list of what they hold. -/
def arrB : List CV → Option (List Bool)
  | [] => some []
  | .sc (.bool b) :: l => match arrB l with
    | some r => some (b :: r)
    | none => none
  | _ => none
def arrI (k : IntKind) : List CV → Option (List Int)
  | [] => some []
  | .sc (.int k' b) :: l => bif Nat.beq (kix k) (kix k') then (match arrI k l with
    | some r => some (b :: r)
    | none => none) else none
  | _ => none
def arrS : List CV → Option (List ByteArray)
  | [] => some []
  | .sc (.string b) :: l => match arrS l with
    | some r => some (b :: r)
    | none => none
  | _ => none
def cellAt (cs : List CV) (row : Nat) : Option (List CV) :=
  match cs with
  | .sc (.bool _) :: _ => match arrB cs with
    | some bs => some [.sc (.bool (nth bs false row))]
    | none => takeN 1 (cs.drop row)
  | .sc (.int k _) :: _ => match arrI k cs with
    | some bs => some [.sc (.int k (nth bs 0 row))]
    | none => takeN 1 (cs.drop row)
  | .sc (.string _) :: _ => match arrS cs with
    | some bs => some [.sc (.string (nth bs ByteArray.empty row))]
    | none => takeN 1 (cs.drop row)
  | _ => takeN 1 (cs.drop row)
def rootGet : Root → (k row j n : Nat) → Option (List CV)
  | .blk cs _, k, row, j, n => bif Nat.beq k 1 && Nat.beq n 1 then cellAt (cs.drop j) row else takeN n (cs.drop (row * k + j))
  | .rows _ τ xs, k, row, j, n => bif Nat.beq k τ.w then takeN n ((τ.enc (elemAt τ xs row)).drop j) else none
  | .ro τ xs, k, row, j, n => bif Nat.beq k τ.w then takeN n ((τ.enc (elemAt τ xs row)).drop j) else none
  | _, _, _, _, _ => none
theorem flat_elem (τ : TC) (xs : List τ.ty) (row : Nat) (hr : row < xs.length) (d : List CV := []) : ((flat τ xs) ++ d).drop (row * τ.w) = τ.enc (elemAt τ xs row) ++ (flat τ (xs.drop (row + 1)) ++ d) := by
  induction xs generalizing row with
  | nil => simp at hr
  | cons x xs ih =>
    cases row with
    | zero => simp [flat, elemAt, nth]
    | succ row =>
      have := ih row (by simpa using hr)
      simp only [flat, List.flatMap_cons, List.append_assoc]
      rw [show (row + 1) * τ.w = (τ.enc x).length + row * τ.w by rw [τ.enc_len, Nat.add_mul]; omega, List.drop_append, List.drop_of_length_le (by omega), List.nil_append, show (τ.enc x).length + row * τ.w - (τ.enc x).length = row * τ.w by omega]
      simpa [flat, elemAt, nth] using this
theorem flat_len (τ : TC) (xs : List τ.ty) : (flat τ xs).length = xs.length * τ.w := by
  induction xs with
  | nil => simp [flat]
  | cons x xs ih => simp only [flat, List.flatMap_cons, List.length_append, τ.enc_len, List.length_cons, Nat.add_mul] at *; omega
theorem getElem?_lt_some {α : Type} {l : List α} {j : Nat} (h : j < l.length) : ∃ v, l[j]? = some v := ⟨_, List.getElem?_eq_getElem h⟩
/-- Where the values of a run of cells lie. -/
theorem sub_cells {ρ : List Info} {cs : List CV} {vs : List Value} (hd : DenL ρ cs vs) {o n : Nat} {r : List CV} (h : takeN n (cs.drop o) = some r) : DenL ρ r ((vs.drop o).take n) ∧ ∀ (t : Nat) (v : Value), ((vs.drop o).take n)[t]? = some v → vs[o + t]? = some v := by
  obtain ⟨h1, h2⟩ := takeN_eq h
  refine ⟨by rw [h1]; exact (hd.drop o).take n, fun t v hv => ?_⟩
  rw [List.getElem?_take] at hv
  split at hv
  · rw [List.getElem?_drop] at hv; exact hv
  · cases hv
theorem rows_sub {ρ : List Info} {τ : TC} {xs : List τ.ty} {vs : List Value} (hd : DenL ρ (flat τ xs) vs) {row j n : Nat} (hrow : row < xs.length) {r : List CV} (h : takeN n ((τ.enc (elemAt τ xs row)).drop j) = some r) :
    ∃ us, DenL ρ r us ∧ ∀ (t : Nat) (v : Value), us[t]? = some v → vs[row * τ.w + j + t]? = some v := by
  obtain ⟨h1, h2⟩ := takeN_eq h
  have hf := flat_elem τ xs row hrow
  rw [List.append_nil, List.append_nil] at hf
  have h3 : takeN n ((flat τ xs).drop (row * τ.w + j)) = some r := by
    have e : (flat τ xs).drop (row * τ.w + j) = (τ.enc (elemAt τ xs row)).drop j ++ (flat τ (xs.drop (row + 1))).drop (j - (τ.enc (elemAt τ xs row)).length) := by
      rw [← List.drop_drop, hf, List.drop_append]
    rw [e]
    have key : ∀ (n : Nat) (l m r : List CV), takeN n l = some r → takeN n (l ++ m) = some r := by
      intro n
      induction n with
      | zero => intro l m r h; simpa [takeN] using h
      | succ n ih =>
        intro l m r h
        cases l with
        | nil => simp [takeN] at h
        | cons c l =>
          simp only [takeN, List.cons_append] at h ⊢
          split at h
          · rename_i s hs
            rw [ih l m s hs]; exact h
          · cases h
    exact key n _ _ r h
  obtain ⟨h4, h5⟩ := sub_cells hd h3
  exact ⟨_, h4, fun t v hv => by rw [Nat.add_assoc] at *; have := h5 t v hv; rwa [Nat.add_assoc] at this⟩
theorem owns_cell {w : World} {T k : Nat} {b o cap n : Nat} {vs : List Value} (h : ownsAt w T k (some ⟨b, o, none⟩) cap n vs) {t : Nat} {v : Value} (hv : vs[t]? = some v) : w.cell? ⟨b, o + t, none⟩ = some v := by
  obtain ⟨h1, h2, _, h3⟩ := h
  rcases h3 with ⟨h3, _⟩ | ⟨g, o', cur, h3, h4, h5, h6⟩
  · have h0 : n = 0 := by omega
    subst h0
    obtain rfl : vs = [] := List.eq_nil_of_length_eq_zero (by simpa using h1)
    simp at hv
  · cases h3
    rw [← h6, List.getElem?_take] at hv
    split at hv
    · rw [List.getElem?_drop] at hv
      exact blk_cell h4 _ (by simpa using hv)
    · cases hv
theorem arrB_eq : ∀ {cs : List CV} {bs : List Bool}, arrB cs = some bs → cs = bs.map (fun b => .sc (.bool b))
  | [], bs, h => by cases h; rfl
  | c :: l, bs, h => by
    unfold arrB at h
    split at h
    · rename_i e; cases e
    · rename_i b l' e
      cases e
      split at h
      · rename_i r hr; cases h; rw [arrB_eq hr]; rfl
      · cases h
    · cases h
theorem arrI_eq {k : IntKind} : ∀ {cs : List CV} {bs : List Int}, arrI k cs = some bs → cs = bs.map (fun b => .sc (.int k b))
  | [], bs, h => by cases h; rfl
  | c :: l, bs, h => by
    unfold arrI at h
    split at h
    · rename_i e; cases e
    · rename_i k' b l' e
      cases e
      cases hk : Nat.beq (kix k) (kix k') with
      | false => rw [hk] at h; cases h
      | true =>
        rw [hk] at h
        have := kix_inj hk
        subst this
        simp only [cond_true] at h
        split at h
        · rename_i r hr; cases h; rw [arrI_eq hr]; rfl
        · cases h
    · cases h
theorem arrS_eq : ∀ {cs : List CV} {bs : List ByteArray}, arrS cs = some bs → cs = bs.map (fun b => .sc (.string b))
  | [], bs, h => by cases h; rfl
  | c :: l, bs, h => by
    unfold arrS at h
    split at h
    · rename_i e; cases e
    · rename_i b l' e
      cases e
      split at h
      · rename_i r hr; cases h; rw [arrS_eq hr]; rfl
      · cases h
    · cases h
theorem cellAt_ok {ρ : List Info} {cs r : List CV} {vs : List Value} {row : Nat} (hd : DenL ρ cs vs) (h : cellAt cs row = some r) (hrow : row < cs.length) : ∃ us, DenL ρ r us ∧ ∀ (t : Nat) (v : Value), us[t]? = some v → vs[row + t]? = some v := by
  have plain : takeN 1 (cs.drop row) = some r → ∃ us, DenL ρ r us ∧ ∀ (t : Nat) (v : Value), us[t]? = some v → vs[row + t]? = some v := fun h => ⟨_, (sub_cells hd h).1, (sub_cells hd h).2⟩
  have one : ∀ c, cs[row]? = some c → r = [c] → ∃ us, DenL ρ r us ∧ ∀ (t : Nat) (v : Value), us[t]? = some v → vs[row + t]? = some v := by
    intro c hc hr
    obtain ⟨v, h1, h2⟩ := hd.get hc
    subst hr
    refine ⟨[v], ⟨v, [], rfl, h2, rfl⟩, fun t u hu => ?_⟩
    cases t with
    | zero => cases hu; exact h1
    | succ t => simp at hu
  unfold cellAt at h
  split at h
  · split at h
    · rename_i bs hb
      cases h
      have e := arrB_eq hb
      rw [e] at hrow
      simp only [List.length_map] at hrow
      refine one _ ?_ rfl
      rw [e, List.getElem?_map, List.getElem?_eq_getElem hrow]
      simp [nth, List.getD_eq_getElem?_getD, List.getElem?_eq_getElem hrow]
    · exact plain h
  · split at h
    · rename_i bs hb
      cases h
      have e := arrI_eq hb
      rw [e] at hrow
      simp only [List.length_map] at hrow
      refine one _ ?_ rfl
      rw [e, List.getElem?_map, List.getElem?_eq_getElem hrow]
      simp [nth, List.getD_eq_getElem?_getD, List.getElem?_eq_getElem hrow]
    · exact plain h
  · split at h
    · rename_i bs hb
      cases h
      have e := arrS_eq hb
      rw [e] at hrow
      simp only [List.length_map] at hrow
      refine one _ ?_ rfl
      rw [e, List.getElem?_map, List.getElem?_eq_getElem hrow]
      simp [nth, List.getD_eq_getElem?_getD, List.getElem?_eq_getElem hrow]
    · exact plain h
  · exact plain h
theorem rootGet_ok {ρ : List Info} {w : World} {i : Info} {r : Root} {k row j n : Nat} {cs : List CV} (h : RootOk ρ w i r) (hg : rootGet r k row j n = some cs) (hrow : i.has k row j) {b o : Nat} (ha : i.a = some ⟨b, o, none⟩) :
    ∃ us, DenL ρ cs us ∧ ∀ (t : Nat) (v : Value), us[t]? = some v → w.cell? ⟨b, o + row * k + j + t, none⟩ = some v := by
  cases r with
  | dead => cases hg
  | blk ds T =>
    obtain ⟨⟨h0, hc⟩, b', vs, h1, h2, h3⟩ := h
    rw [ha] at h1; cases h1
    simp only [rootGet] at hg
    cases hb : (Nat.beq k 1 && Nat.beq n 1) with
    | false =>
      rw [hb] at hg
      obtain ⟨h4, h5⟩ := sub_cells h2 hg
      exact ⟨_, h4, fun t v hv => blk_cell h3 _ (by have := h5 t v hv; simpa [Nat.add_assoc] using this)⟩
    | true =>
      rw [hb] at hg
      simp only [Bool.and_eq_true] at hb
      have e1 := Nat.eq_of_beq_eq_true hb.1
      subst e1
      have hlt := hrow.2 h0 rfl
      obtain ⟨us, h4, h5⟩ := cellAt_ok (h2.drop j) hg (by rw [List.length_drop, ← hc]; omega)
      refine ⟨us, h4, fun t v hv => blk_cell h3 _ ?_⟩
      have := h5 t v hv
      rw [List.getElem?_drop] at this
      rw [show 0 + row * 1 + j + t = j + (row + t) by omega]
      simpa using this
  | rows T τ xs =>
    obtain ⟨h0, _, vs, h1, h2⟩ := h
    simp only [rootGet] at hg
    cases hk : Nat.beq k τ.w with
    | false => rw [hk] at hg; cases hg
    | true =>
      rw [hk] at hg
      have := Nat.eq_of_beq_eq_true hk
      subst this
      obtain ⟨us, h3, h4⟩ := rows_sub h1 (hrow.1 _ h0) hg
      rw [ha] at h2
      exact ⟨us, h3, fun t v hv => by have := owns_cell h2 (h4 t v hv); simpa [Nat.add_assoc] using this⟩
  | ro τ xs =>
    obtain ⟨h0, vs, h1, h2⟩ := h
    simp only [rootGet] at hg
    cases hk : Nat.beq k τ.w with
    | false => rw [hk] at hg; cases hg
    | true =>
      rw [hk] at hg
      have := Nat.eq_of_beq_eq_true hk
      subst this
      obtain ⟨us, h3, h4⟩ := rows_sub h1 (hrow.1 _ h0) hg
      obtain ⟨b', o', h5, _, h6⟩ := h2 (Nat.lt_of_le_of_lt (Nat.zero_le _) (hrow.1 _ h0))
      rw [ha] at h5; cases h5
      exact ⟨us, h3, fun t v hv => by have := h6 _ v (h4 t v hv); simpa [Nat.add_assoc] using this⟩
  | clo f a c => cases hg
  | mp k cl es => cases hg
/-- Cells are put over others. -/
def splice : Nat → List CV → List CV → Option (List CV)
  | 0, [], l => some l
  | 0, _ :: _, [] => none
  | 0, c :: cs, _ :: l => match splice 0 cs l with
    | some r => some (c :: r)
    | none => none
  | _ + 1, _, [] => none
  | j + 1, cs, x :: l => match splice j cs l with
    | some r => some (x :: r)
    | none => none
theorem splice_eq : ∀ {j : Nat} {cs l r : List CV}, splice j cs l = some r → r = l.take j ++ cs ++ l.drop (j + cs.length) ∧ j + cs.length ≤ l.length
  | 0, [], l, r, h => by simp only [splice, Option.some.injEq] at h; subst h; simp
  | 0, _ :: _, [], r, h => by simp [splice] at h
  | 0, c :: cs, x :: l, r, h => by
    simp only [splice] at h
    split at h
    · rename_i s hs
      cases h
      obtain ⟨h1, h2⟩ := splice_eq hs
      refine ⟨?_, by simp only [List.length_cons]; omega⟩
      rw [h1]; simp
    · cases h
  | j + 1, cs, [], r, h => by simp [splice] at h
  | j + 1, cs, x :: l, r, h => by
    simp only [splice] at h
    split at h
    · rename_i s hs
      cases h
      obtain ⟨h1, h2⟩ := splice_eq hs
      refine ⟨?_, by simp only [List.length_cons]; omega⟩
      rw [h1, show j + 1 + cs.length = (j + cs.length) + 1 by omega]; simp
    · cases h
def rootSet : Root → (k row j : Nat) → List CV → Option Root
  | .blk ds T, k, row, j, cs => match splice (row * k + j) cs ds with
    | some r => some (.blk r T)
    | none => none
  | .rows T τ xs, k, row, j, cs => bif Nat.beq k τ.w then match splice j cs (τ.enc (elemAt τ xs row)) with
      | some r => match τ.dec1 r with
        | some y => some (.rows T τ (xs.set row y))
        | none => none
      | none => none
    else none
  | _, _, _, _, _ => none
theorem DenL.splice {ρ : List Info} {ds cs r : List CV} {vs us : List Value} {j : Nat} (h : splice j cs ds = some r) (hd : DenL ρ ds vs) (hc : DenL ρ cs us) : DenL ρ r (vs.take j ++ us ++ vs.drop (j + us.length)) := by
  obtain ⟨h1, _⟩ := splice_eq h
  rw [h1]
  refine DenL.app (DenL.app (hd.take j) hc) ?_
  rw [hc.len]
  exact hd.drop _
theorem flat_set (τ : TC) (xs : List τ.ty) (row : Nat) (y : τ.ty) (hr : row < xs.length) : flat τ (xs.set row y) = (flat τ xs).take (row * τ.w) ++ τ.enc y ++ (flat τ xs).drop ((row + 1) * τ.w) := by
  induction xs generalizing row with
  | nil => simp at hr
  | cons x xs ih =>
    cases row with
    | zero =>
      simp only [List.set_cons_zero, flat, List.flatMap_cons, Nat.zero_mul, List.take_zero, List.nil_append, Nat.zero_add, Nat.one_mul]
      rw [List.drop_append, List.drop_of_length_le (by rw [τ.enc_len]; omega), τ.enc_len, Nat.sub_self]; simp
    | succ row =>
      have := ih row (by simpa using hr)
      simp only [flat] at this
      simp only [List.set_cons_succ, flat, List.flatMap_cons, this]
      have q1 : (row + 1 + 1) * τ.w = (τ.enc x).length + (row + 1) * τ.w := by rw [τ.enc_len, Nat.add_mul (row + 1)]; omega
      have q2 : (row + 1) * τ.w = (τ.enc x).length + row * τ.w := by rw [τ.enc_len, Nat.add_mul]; omega
      rw [q1, List.drop_length_add_append]
      generalize List.drop ((row + 1) * τ.w) (List.flatMap τ.enc xs) = D
      rw [q2, List.take_length_add_append]
      simp only [List.append_assoc]
theorem put_list {α : Type} (c us : List α) (o q m : Nat) (h : q + us.length ≤ m) (hc : o + m ≤ c.length) :
    ((c.take (o + q) ++ us ++ c.drop (o + q + us.length)).drop o).take m = ((c.drop o).take m).take q ++ us ++ ((c.drop o).take m).drop (q + us.length) := by
  have e1 : (c.take (o + q) ++ us ++ c.drop (o + q + us.length)).drop o = (c.drop o).take q ++ us ++ (c.drop o).drop (q + us.length) := by
    rw [List.append_assoc, List.drop_append_of_le_length (by rw [List.length_take]; omega), List.drop_take, List.drop_drop, List.append_assoc, Nat.add_sub_cancel_left, Nat.add_assoc]
  rw [e1]
  have hl : ((c.drop o).take q).length = q := by rw [List.length_take, List.length_drop]; omega
  generalize hA : (c.drop o).take q = A at *
  have e2 : (c.drop o).drop (q + us.length) = (c.drop o).drop (q + us.length) := rfl
  have hq : ((c.drop o).take m).take q = A := by rw [List.take_take, Nat.min_eq_left (by omega), hA]
  rw [hq]
  rw [List.take_append, List.length_append, hl, List.take_of_length_le (l := A ++ us) (by rw [List.length_append]; omega), List.drop_take]
theorem flat_put (τ : TC) (xs : List τ.ty) (row j : Nat) (cs r : List CV) (y : τ.ty) (hr : row < xs.length) (h : splice j cs (τ.enc (elemAt τ xs row)) = some r) (hy : r = τ.enc y) :
    flat τ (xs.set row y) = (flat τ xs).take (row * τ.w + j) ++ cs ++ (flat τ xs).drop (row * τ.w + j + cs.length) ∧ row * τ.w + j + cs.length ≤ xs.length * τ.w := by
  obtain ⟨h1, h2⟩ := splice_eq h
  rw [τ.enc_len] at h2
  have hf := flat_elem τ xs row hr
  rw [List.append_nil, List.append_nil] at hf
  have hw : (row + 1) * τ.w ≤ xs.length * τ.w := Nat.mul_le_mul_right _ hr
  have hw2 : (row + 1) * τ.w = row * τ.w + τ.w := by rw [Nat.add_mul, Nat.one_mul]
  refine ⟨?_, by omega⟩
  rw [flat_set τ xs row y hr, ← hy, h1]
  have e1 : (flat τ xs).take (row * τ.w + j) = (flat τ xs).take (row * τ.w) ++ (τ.enc (elemAt τ xs row)).take j := by
    rw [List.take_add, hf, List.take_append_of_le_length (by rw [τ.enc_len]; omega)]
  have e2 : (flat τ xs).drop (row * τ.w + j + cs.length) = (τ.enc (elemAt τ xs row)).drop (j + cs.length) ++ (flat τ xs).drop ((row + 1) * τ.w) := by
    rw [Nat.add_assoc, ← List.drop_drop, hf, List.drop_append_of_le_length (by rw [τ.enc_len]; omega)]
    congr 1
    have := congrArg (List.drop τ.w) hf
    rw [List.drop_drop, List.drop_append, List.drop_of_length_le (l := τ.enc _) (by rw [τ.enc_len]; omega), List.nil_append, τ.enc_len, Nat.sub_self, List.drop_zero, ← hw2] at this
    exact this.symm
  rw [e1, e2]
  simp only [List.append_assoc]
theorem Ex.setRow (w : World) (b : Nat) (cs : Array Value) : Ex [b] w (w.setRow b cs) :=
  ⟨rfl, rfl, rfl, by simp, fun k _ hs => setRow_other w b k cs (by simpa using hs)⟩
theorem rootSet_ok {P : Program} {ρ : List Info} {w : World} {i : Info} {r r' : Root} {k row j : Nat} {cs : List CV} {us : List Value} (h : RootOk ρ w i r) (hg : rootSet r k row j cs = some r') (hrow : i.has k row j) {b o : Nat} (ha : i.a = some ⟨b, o, none⟩) (hu : DenL ρ cs us) :
    ∃ w', (storeCells ⟨b, o + row * k + j, none⟩ us).run P w = .ok () w' ∧ Ex [b] w w' ∧ RootOk ρ w' i r' ∧ own i r = some b ∧ (∀ c, foot i r' = some c → c = b) ∧ (∀ c, own i r' = some c → c = b) := by
  have hone := hu.ones
  cases r with
  | dead => cases hg
  | blk ds T =>
    obtain ⟨h00, b', vs, h1, h2, h3⟩ := h
    have h1' := h1
    rw [ha] at h1; cases h1
    simp only [rootSet] at hg
    split at hg
    · rename_i e he
      cases hg
      obtain ⟨hse, hle⟩ := splice_eq he
      have hlen : e.length = ds.length := by rw [hse]; simp only [List.length_append, List.length_take, List.length_drop]; omega
      rw [← hu.len, ← h2.len] at hle
      have hst := run_storeCells_at P b (0 + row * k + j) T us 0 vs.toArray w h3 (by simp; omega) hone
      refine ⟨_, hst, Ex.setRow _ _ _, ⟨⟨h00.1, by rw [h00.2, hlen]⟩, b, _, ha, DenL.splice he h2 hu, ?_⟩, by simp [own, ha], by simp [foot, own, ha, eq_comm], by simp [own, ha, eq_comm]⟩
      rw [setRow_heap _ _ _ _ _ _ h3]
      simp
    · cases hg
  | rows T τ xs =>
    obtain ⟨h0, h9, vs, h1, hl, hnc, hcm, h2⟩ := h
    simp only [rootSet] at hg
    cases hk : Nat.beq k τ.w with
    | false => rw [hk] at hg; cases hg
    | true =>
      rw [hk] at hg
      have := Nat.eq_of_beq_eq_true hk
      subst this
      simp only [cond_true] at hg
      split at hg
      · rename_i e he
        split at hg
        · rename_i y hy
          cases hg
          have hye := TC.dec1_enc hy
          replace hrow := hrow.1 _ h0
          obtain ⟨hf1, hf2⟩ := flat_put τ xs row j cs e y hrow he hye
          rcases h2 with ⟨h2, _⟩ | ⟨g, o', cur, h2, h3, h4, h5⟩
          · omega
          · rw [ha] at h2; cases h2
            have hcap : xs.length * τ.w ≤ i.cap * τ.w := Nat.mul_le_mul_right _ hnc
            rw [← hu.len] at hf2 hf1
            have hst := run_storeCells_at P b (o + row * τ.w + j) T us 0 cur w h3 (by omega) hone
            refine ⟨_, hst, Ex.setRow _ _ _, ⟨by simp [h0], h9, vs.take (row * τ.w + j) ++ us ++ vs.drop (row * τ.w + j + us.length), ?_, ?_⟩, by simp [own, ha], by simp [foot, own, ha, eq_comm], by simp [own, ha, eq_comm]⟩
            · rw [hf1]
              exact DenL.app (DenL.app (h1.take _) hu) (h1.drop _)
            · refine ⟨?_, by simpa using hnc, hcm, .inr ⟨b, o, _, ha, setRow_heap _ _ _ _ _ _ h3, ?_, ?_⟩⟩
              · simp only [List.length_append, List.length_take, List.length_drop, List.length_set]; omega
              · simp; omega
              · rw [List.length_set]
                have := put_list cur.toList us o (row * τ.w + j) (xs.length * τ.w) hf2 (by simp; omega)
                rw [h5] at this
                rw [← this]
                simp [Nat.add_assoc]
        · cases hg
      · cases hg
  | ro τ xs => cases hg
  | clo f a c => cases hg
  | mp k cl es => cases hg
end Go.Proofs.YteimbckgldkcgaaGreatDoor
