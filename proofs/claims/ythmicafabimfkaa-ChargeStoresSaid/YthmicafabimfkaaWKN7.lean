/- charge.Best as an entry of the table: by the contract that the older texts prove. No condition. -/
import Derived.Test.YthmicafabimfkaaWXS4
import Derived.Test.YthmicafabimfkaaWOC28

namespace Go.Proofs.Ythmicafabimfkaa
open Go.RowKit Go.Proofs
set_option maxRecDepth 100000
noncomputable section
def toB (b : (Int × Int) × ((Int × Int) × (Int × Int))) : Bnds := ⟨⟨b.1.1, b.1.2⟩, ⟨b.2.1.1, b.2.1.2⟩, ⟨b.2.2.1, b.2.2.2⟩⟩
def toLot (x : Int × (Int × (T_B × Int))) : Lot := ⟨x.1, x.2.1, toB x.2.2.1, x.2.2.2⟩
def toRec (p : (Int × Int) × T_B) (l : List T_L) : Recipe := ⟨l.map toLot, ⟨p.1.1, p.1.2⟩, toB p.2⟩
def best_S (_ : Nat) (p : (Int × Int) × T_B) (l : List T_L) : Option ((Int × Int) × List Int) := bif lenOk 0 l.length then some ((stC (bestM (toRec p l)), bestE (toRec p l)), stL (bestM (toRec p l))) else none
abbrev best_I : Sch := ⟨[(0, .ag [.k (.sl 0 9), .t C_R, .t C_B])], [.ro C_L]⟩
abbrev best_O : FSch := ⟨.tu [(false, [.k (.sl 1 1)]), (false, [.t (.int .i64)]), (false, [.t (.int .i64)])], [.dead, .rows 3 (.int .i64)]⟩
def best_E (F : Nat) : Ent := ⟨22, 1, best_I, best_O, fun s => best_S F s.1 s.2, []⟩
theorem denL_sc {ρ : List Info} : ∀ {us vs : List Value}, DenL ρ (us.map CV.sc) vs → vs = us
  | [], _, h => h
  | u :: us, vs, ⟨v, r, e, h1, h2⟩ => by rw [e, h1.1, denL_sc h2]
theorem flat_lot : ∀ l : List T_L, flat C_L l = ((l.map toLot).flatMap Lot.cells).map CV.sc
  | [] => rfl
  | x :: l => by
    have := flat_lot l
    simp only [flat, List.flatMap_cons, List.map_cons, List.map_append] at this ⊢
    rw [this]; rfl
theorem fm_get {α : Type} {f : α → List Value} {k : Nat} (hf : ∀ x, (f x).length = k) : ∀ (l : List α) (i : Nat) (hi : i < l.length) (j : Nat) (v : Value), (f l[i])[j]? = some v → (l.flatMap f)[i * k + j]? = some v
  | [], _, hi, _, _, _ => by simp at hi
  | x :: l, 0, _, j, v, h => by
    have hj : j < (f x).length := (List.getElem?_eq_some_iff.1 h).1
    rw [List.flatMap_cons, Nat.zero_mul, Nat.zero_add, List.getElem?_append_left hj]
    exact h
  | x :: l, i + 1, hi, j, v, h => by
    have ih := fm_get hf l i (by simpa using hi) j v h
    rw [List.flatMap_cons, List.getElem?_append_right (by rw [hf, Nat.succ_mul]; omega), hf, show (i + 1) * k + j - k = i * k + j by rw [Nat.succ_mul]; omega]
    exact ih
theorem ints_cells (xs : List Int) : xs.flatMap intCells = xs.map (Value.int .i64) := by
  induction xs with
  | nil => rfl
  | cons x xs ih => rw [List.flatMap_cons, ih]; rfl
theorem best_ok (F : Nat) : FnSem Try.prog 22 1 best_I best_O (fun s => best_S F s.1 s.2) := by
  intro s t hst S F' W0 ι w vs hlen hden hh hcl
  obtain ⟨p, xs⟩ := s
  change (Int × Int) × T_B at p
  change List T_L at xs
  simp only [best_S] at hst
  cases hc : lenOk 0 xs.length with
  | false => rw [hc] at hst; cases hst
  | true =>
    rw [hc] at hst
    cases hst
    obtain ⟨v, hv, g⟩ := hden 0 (.ag (.sl 0 9 0 none none :: ([.int .i64 p.1.1, .int .i64 p.1.2, .int .i64 p.2.1.1, .int .i64 p.2.1.2, .int .i64 p.2.2.1.1, .int .i64 p.2.2.1.2, .int .i64 p.2.2.2.1, .int .i64 p.2.2.2.2].map CV.sc))) rfl
    have hvs : vs = [v] := by
      match vs, hlen with
      | [a], _ => simp at g; rw [g]
    subst hvs
    have hh' : HOk S F' W0 ι [.ro C_L xs] w := hh
    obtain ⟨cs, hcs, hv2⟩ := hv
    obtain ⟨v0, r0, e0, hd0, hdr⟩ := hcs
    have er := denL_sc hdr
    obtain ⟨i, a', c', nn, h1, h2, h3, h4, h5, ⟨m, h6, h7⟩, _, _, _, h10, _⟩ := hd0
    have h10 := h10 rfl
    obtain ⟨g0, us, g1, g2⟩ := hh'.ok 0 _ i rfl h1
    rw [g0] at h6; cases h6
    rw [Nat.sub_zero] at h7
    subst h7
    have g1' : DenL ι (((List.map toLot xs).flatMap Lot.cells).map CV.sc) us := by
      rw [← flat_lot]
      exact g1
    have hus := denL_sc g1'
    have hsl : SlL w a' c' (xs.map toLot) := by
      refine ⟨by rw [List.length_map]; exact h3, by unfold maxLen at h4; omega, fun h0 => ?_⟩
      rw [List.length_map] at h0
      obtain ⟨b, o, e1, e2, e3⟩ := g2 h0
      refine ⟨b, o, by rw [h10]; exact e1, e2, fun q hq j u hu => ?_⟩
      rw [Nat.add_assoc]
      refine e3 (q * 9 + j) u ?_
      rw [hus]
      exact fm_get (f := Lot.cells) (k := 9) (fun x => rfl) _ q hq j u hu
    have hd : HOk S F' W0 ι [.dead] w := hh'.masked []
    have hb := best_c (toRec p xs) a' c' w hsl
    have hb' : Calls Try.prog 22 [v].toArray w (BestPost (toRec p xs) w) := by
      rw [hv2, e0, er, h2]
      have := hb
      simp only [toRec, List.length_map] at this
      exact this
    refine hb'.mono ?_
    rintro e w' ⟨aa, cap, he, hown, hE⟩
    generalize hL : stL (bestM (toRec p xs)) = L at *
    obtain ⟨q1, q2⟩ := hown
    rw [ints_cells] at q1 q2
    have key : ownsAt w' 3 1 aa cap L.length (L.map (Value.int .i64)) ∧ L.length ≤ cap ∧ cap ≤ maxLen ∧ (0 < L.length → ∃ b o, aa = some ⟨b, o, none⟩) ∧ ∀ b, aa.map (·.block) = some b → w.heap.size ≤ b := by
      rcases q2 with ⟨h2, h3⟩ | ⟨g, cap', cur, h2, h3, h4, h5, h6, h7, h8⟩
      · simp only [Value.slice.injEq] at h2
        obtain ⟨rfl, _, rfl⟩ := h2
        refine ⟨⟨q1, by omega, by unfold maxLen; omega, .inl ⟨rfl, by simp⟩⟩, by omega, by unfold maxLen; omega, by omega, by simp⟩
      · simp only [Value.slice.injEq] at h2
        obtain ⟨rfl, _, rfl⟩ := h2
        refine ⟨⟨q1, h5, h6, .inr ⟨g, 0, cur, rfl, h4, by omega, by simpa using h8⟩⟩, h5, h6, fun _ => ⟨g, 0, rfl⟩, fun b hb => ?_⟩
        simp only [Option.map_some, Option.some.injEq] at hb
        omega
    obtain ⟨k1, k2, k3, k4, k5⟩ := key
    have hl' : ι.length = 1 := hd.len
    have hg : (ι ++ [⟨aa, cap, some L.length, .nilFunc⟩])[1]? = some ⟨aa, cap, some L.length, .nilFunc⟩ := by
      rw [List.getElem?_append_right (by omega), hl']; rfl
    refine ⟨ι ++ [⟨aa, cap, some L.length, .nilFunc⟩], _, he, (Pre.app _ _).m, ⟨_, ⟨_, _, rfl, ⟨_, rfl, ⟨_, aa, cap, L.length, hg, rfl, k2, k3, k4, ⟨_, rfl, (Nat.sub_zero _).symm⟩, ⟨_, rfl, by omega⟩, (Nat.sub_zero _).symm, rfl, fun _ => rfl, fun _ => ?_⟩⟩, ⟨_, _, rfl, ⟨_, rfl, ⟨rfl, rfl⟩⟩, ⟨_, _, rfl, ⟨_, rfl, ⟨rfl, rfl⟩⟩, rfl⟩⟩⟩, rfl⟩, ?_, (by decide)⟩
    · cases aa <;> simp [Addr.add]
    · exact hd.add hE ⟨aa, cap, some L.length, .nilFunc⟩ (.rows 3 (.int .i64) L) ⟨rfl, Nat.lt_succ_self 0, L.map (Value.int .i64), by rw [flat_int]; exact denL_int L, k1⟩ (fun b hb => k5 b hb)
def best_T (F : Nat) : List Ent := best_E F :: sMade_T F
theorem best_T_ok (F : Nat) : EntsOk Try.prog (best_T F) := ⟨⟨by kernel_rfl, best_ok F⟩, sMade_T_ok F⟩
end
end Go.Proofs.Ythmicafabimfkaa


namespace Go.Proofs.Ythmicafabimfkaa
open Go.RowKit Go.Proofs
set_option maxRecDepth 1000000
noncomputable section
def knownC_S (_ : Nat) : Option Bool := some true
abbrev knownC_I : Sch := ⟨[], []⟩
abbrev knownC_O : FSch := ⟨.one (.c (.t .bool)), []⟩
def knownC_E (F : Nat) : Ent := ⟨5, 0, knownC_I, knownC_O, fun _ => knownC_S F, []⟩
theorem knownC_ok (F : Nat) : FnSem Try.prog 5 0 knownC_I knownC_O (fun _ => knownC_S F) :=
  fn_ok (call := callD Try.prog 1000 plans (best_T 1000) 20) (Fu := 1000) (pl := plOf plans 5) (d := 1000) (an := .no) (callD_ok progMixed 1000 plansOk (best_T_ok 1000) 20) progMixed (by kernel_rfl) (anP_ok (c := bodyOf Try.prog 5) (p := []) (trivial)) (fun _ => by kernel_rfl)
def knownC_T (F : Nat) : List Ent := knownC_E F :: sMade_T F
theorem knownC_T_ok (F : Nat) : EntsOk Try.prog (knownC_T F) := ⟨⟨by kernel_rfl, knownC_ok F⟩, sMade_T_ok F⟩
end
end Go.Proofs.Ythmicafabimfkaa
