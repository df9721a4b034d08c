/- Plain laws of chapter 10: the book, its orders and who is where. No condition. -/
import Derived.Test.YtbepdcodkecboaaDoorWMC4
import Derived.Test.YtbepdcodkecboaaDoorWXB9
import Derived.Test.YtbepdcodkecboaaDoorWMD3c

namespace Go.Proofs.YtbepdcodkecboaaDoor
open Go.RowKit
set_option maxRecDepth 100000
abbrev EsT := List (Int × (Nat × Bool))
abbrev LnT := OdT × (Nat × Bool)
abbrev A2 := List LnT
abbrev A3 := List (Nat × EsT)
abbrev dL : LnT := (TC.dflt (TC.pair (TC.pair (TC.int IntKind.i64) (TC.pair (TC.int IntKind.i64) (TC.pair (TC.int IntKind.i64) (TC.int IntKind.i64)))) (TC.pair (TC.rf 2 3) TC.bool)))
/-! Maps -/
def kys (es : EsT) : List Int := es.map (·.1)
theorem kys_cons (e : Int × (Nat × Bool)) (es : EsT) : kys (e :: es) = e.1 :: kys es := rfl
theorem getT_key (w : Int) : ∀ {es : EsT}, (∀ e ∈ es, e.2.2 = true) → getT false w es = decide (w ∈ kys es)
  | [], _ => by simp [getT, kys]
  | e :: es, h => by
    simp only [getT, kys_cons, List.mem_cons]
    have ih := getT_key w (es := es) (fun x hx => h x (by simp [hx]))
    have he := h e (by simp)
    by_cases hw : w = e.1
    · subst hw; simp [he]
    · have : (w == e.1) = false := by simpa using hw
      rw [this, cond_false, ih]
      exact decide_eq_decide.2 (by simp [hw])
theorem updT_key (w : Int) (cl : Nat) : ∀ {es : EsT}, (∀ e ∈ es, e.2.2 = true) → w ∉ kys es → updT w cl true es = es ++ [(w, cl, true)]
  | [], _, _ => rfl
  | e :: es, h, hn => by
    simp only [kys, List.map_cons, List.mem_cons, not_or] at hn
    have : (w == e.1) = false := by simpa using hn.1
    simp only [updT, this, cond_false, List.cons_append]
    rw [updT_key w cl (fun x hx => h x (by simp [hx])) hn.2]
theorem delT_key (w : Int) : ∀ {es : EsT}, (kys es).Nodup → (kys (delT w es)).Nodup ∧ (∀ e ∈ delT w es, e ∈ es) ∧ ∀ x : Int, x ∈ kys (delT w es) ↔ x ∈ kys es ∧ x ≠ w
  | [], _ => ⟨by simp [delT, kys], fun e he => he, fun x => by simp [delT, kys]⟩
  | e :: es, h => by
    simp only [kys, List.map_cons, List.nodup_cons] at h
    obtain ⟨h1, h2, h3⟩ := delT_key w (es := es) h.2
    simp only [delT]
    by_cases hw : w = e.1
    · subst hw
      rw [beq_self_eq_true, cond_true]
      refine ⟨h.2, fun x hx => by simp [hx], fun x => ?_⟩
      simp only [kys, List.map_cons, List.mem_cons]
      constructor
      · intro hx
        refine ⟨.inr hx, fun e' => ?_⟩
        subst e'
        exact h.1 hx
      · rintro ⟨rfl | hx, hne⟩
        · exact absurd rfl hne
        · exact hx
    · have : (w == e.1) = false := by simpa using hw
      rw [this, cond_false]
      refine ⟨?_, fun x hx => ?_, fun x => ?_⟩
      · simp only [kys, List.map_cons, List.nodup_cons]
        refine ⟨fun hm => h.1 ?_, h1⟩
        exact ((h3 e.1).1 hm).1
      · rcases List.mem_cons.1 hx with rfl | hx
        · simp
        · simp [h2 x hx]
      · simp only [kys, List.map_cons, List.mem_cons]
        have := h3 x
        simp only [kys] at this
        rw [this]
        constructor
        · rintro (rfl | ⟨hx, hne⟩)
          · exact ⟨.inl rfl, fun e' => hw e'.symm⟩
          · exact ⟨.inr hx, hne⟩
        · rintro ⟨rfl | hx, hne⟩
          · exact .inl rfl
          · exact .inr ⟨hx, hne⟩
/-! The invariant -/
/-- How many of the first wafers are at an order. -/
def cnt (at_ : List Int) (i : Nat) : Nat := (at_.filter (fun x => x == (i : Int))).length
structure BInv (wf : List WfT) (at_ : List Int) (od : List OdT) (ca : List Bool) (ors : List Nat) (ar2 : A2) (ar3 : A3) : Prop where
  la : at_.length = wf.length
  lc : ca.length = od.length
  lo : ors.length = od.length
  l2 : ar2.length = od.length
  l3 : ar3.length = od.length
  go : ∀ i < od.length, nth ors 0 i = i + 1
  g2 : ∀ i < od.length, nth ar2 dL i = (nth od dO i, i + 1, nth ca false i)
  nd : ∀ i < od.length, (kys (nth ar3 (0, []) i).2).Nodup
  tr : ∀ i < od.length, ∀ e ∈ (nth ar3 (0, []) i).2, e.2.2 = true
  mp : ∀ i < od.length, ∀ w : Int, w ∈ kys (nth ar3 (0, []) i).2 ↔ ∃ n : Nat, n < at_.length ∧ w = n ∧ nth at_ 0 n = i
  ra : ∀ x ∈ at_, x = -1 ∨ (0 ≤ x ∧ x < od.length)
section
variable {wf : List WfT} {at_ : List Int} {od : List OdT} {ca : List Bool} {ors : List Nat} {ar2 : A2} {ar3 : A3}
theorem inO_nat {i n : Nat} (h : i < n) : inO (i + 1) n = true := by
  unfold inO
  simp only [Bool.and_eq_true]
  first | exact ⟨by simp, by simp; omega⟩ | (constructor <;> simp <;> omega)
/-- Two lists without repetition and with the same members have the same length. -/
theorem nodup_lenK {α : Type} [DecidableEq α] {l m : List α} (hl : l.Nodup) (hm : m.Nodup) (h : ∀ x, x ∈ l ↔ x ∈ m) : l.length = m.length :=
  ((List.perm_ext_iff_of_nodup hl hm).2 h).length_eq
theorem cnt_keys : ∀ (l : List Int) (i : Nat), ((List.range l.length).filter (fun n => nth l 0 n == (i : Int))).length = cnt l i := by
  intro l i
  unfold cnt
  induction l with
  | nil => rfl
  | cons x l ih =>
    rw [List.length_cons, List.range_succ_eq_map, List.filter_cons, List.filter_cons]
    have h1 : ((List.map Nat.succ (List.range l.length)).filter (fun n => nth (x :: l) 0 n == (i : Int))).length = (l.filter (fun x => x == (i : Int))).length := by
      rw [List.filter_map, List.length_map, ← ih]; rfl
    have h2 : nth (x :: l) 0 0 = x := rfl
    rw [h2]
    split
    · rw [List.length_cons, List.length_cons, h1]
    · exact h1
theorem BInv.len (h : BInv wf at_ od ca ors ar2 ar3) {i : Nat} (hi : i < od.length) : (nth ar3 (0, []) i).2.length = cnt at_ i := by
  have h1 : (kys (nth ar3 (0, []) i).2).length = (((List.range at_.length).filter (fun n => nth at_ 0 n == (i : Int))).map (fun n : Nat => (n : Int))).length := by
    refine nodup_lenK (h.nd i hi) ?_ (fun x => ?_)
    · exact List.Pairwise.map (fun n : Nat => (n : Int)) (fun a b hne e => hne (by omega)) (List.Pairwise.filter _ List.nodup_range)
    · rw [h.mp i hi x, List.mem_map]
      constructor
      · rintro ⟨n, h1, rfl, h3⟩
        exact ⟨n, List.mem_filter.2 ⟨List.mem_range.2 h1, by simpa using h3⟩, rfl⟩
      · rintro ⟨n, h1, rfl⟩
        obtain ⟨h2, h3⟩ := List.mem_filter.1 h1
        exact ⟨n, List.mem_range.1 h2, rfl, by simpa using h3⟩
  rw [List.length_map, cnt_keys] at h1
  unfold kys at h1
  rwa [List.length_map] at h1
/-- What is still wanted. -/
def opn (at_ : List Int) (od : List OdT) (ca : List Bool) (i : Nat) : Int := bif nth ca false i then 0 else (nth od dO i).2.1 - (cnt at_ i : Int)
theorem cnt_le (at_ : List Int) (i : Nat) : cnt at_ i ≤ at_.length := List.length_filter_le _ _
theorem lineOpen_eq (F : Nat) (h : BInv wf at_ od ca ors ar2 ar3) {i : Nat} (hi : i < od.length) (ho : 0 ≤ (nth od dO i).2.1 ∧ (nth od dO i).2.1 ≤ 60) (hw : wf.length ≤ 60) (ar0 : A0) (ar1 : A1) : lineOpen_S F (i + 1) ar0 ar1 ar2 ar3 = some (opn at_ od ca i, ar0, ar1, ar2, ar3) := by
  have h1 : inO (i + 1) ar2.length = true := inO_nat (by rw [h.l2]; exact hi)
  have h2 : inO (i + 1) ar3.length = true := inO_nat (by rw [h.l3]; exact hi)
  have h3 := h.g2 i hi
  have h4 := h.len hi
  have h5 := cnt_le at_ i
  rw [h.la] at h5
  unfold lineOpen_S opn
  have e1 : Nat.beq (i + 1) 0 = false := rfl
  have e2 : i + 1 - 1 = i := rfl
  simp only [e1, e2, h1, h3, h2, h4, Bool.not_false, cond_true]
  cases nth ca false i with
  | true => rfl
  | false =>
    simp only [cond_false]
    rw [w64 _ (by omega)]
end
end Go.Proofs.YtbepdcodkecboaaDoor


namespace Go.Proofs.YtbepdcodkecboaaDoor
open Go.RowKit
set_option maxRecDepth 100000
section
variable {sp : List SpT} {wf : List WfT} {at_ : List Int} {od : List OdT} {ca : List Bool} {ors : List Nat} {ar2 : A2} {ar3 : A3}
theorem ixLine_eq (F : Nat) (hF : 100 < F) (h : BInv wf at_ od ca ors ar2 ar3) (hk : od.length ≤ 12) {n : Nat} (hn : n < at_.length) (ar0 : A0) (ar1 : A1) : ∃ t, ixLine_S F ors n ar0 ar1 ar2 ar3 = some (nth at_ 0 n, t, ar0, ar1, ar2, ar3) := by
  have hlo := h.lo
  have hst : ∀ k i, i < ors.length → (decide ((n : Int) ∈ kys (nth ar3 (0, []) (nth ors 0 i - 1)).2) = true → ∃ b, ixLine_L0 F ((ors.length : Nat) : Int) ors n ar0 ar1 ar2 ar3 (k + 1) (i : Int) = some (.inl b) ∧ b = ((i : Int), (ors, (n : Int), ar0, ar1, ar2, ar3))) ∧ (decide ((n : Int) ∈ kys (nth ar3 (0, []) (nth ors 0 i - 1)).2) = false → ixLine_L0 F ((ors.length : Nat) : Int) ors n ar0 ar1 ar2 ar3 (k + 1) (i : Int) = ixLine_L0 F ((ors.length : Nat) : Int) ors n ar0 ar1 ar2 ar3 k ((i + 1 : Nat) : Int)) := by
    intro k i hi
    have hi' : i < od.length := by omega
    have e1 := h.go i hi'
    have e2 := h.g2 i hi'
    have e3 := getT_key (n : Int) (h.tr i hi')
    have h1 : inO (i + 1) ar2.length = true := inO_nat (by rw [h.l2]; exact hi')
    have h2 : inO (i + 1) ar3.length = true := inO_nat (by rw [h.l3]; exact hi')
    have e4 : Nat.beq (i + 1) 0 = false := rfl
    have e5 : i + 1 - 1 = i := rfl
    have e6 : inB (i : Int) (ors.length - 0) = true := inB_nat (by omega)
    have key : ixLine_L0 F ((ors.length : Nat) : Int) ors n ar0 ar1 ar2 ar3 (k + 1) (i : Int) = bif decide ((n : Int) ∈ kys (nth ar3 (0, []) (nth ors 0 i - 1)).2) then some (.inl ((i : Int), (ors, (n : Int), ar0, ar1, ar2, ar3))) else ixLine_L0 F ((ors.length : Nat) : Int) ors n ar0 ar1 ar2 ar3 k ((i + 1 : Nat) : Int) := by
      simp only [ixLine_L0]
      rw [lt_t hi, cond_true, e6, cond_true]
      simp only [Int.toNat_natCast, e1, e4, e5, h1, e2, h2, Bool.not_false, cond_true, e3]
      rw [i64s (by omega)]
    rw [key]
    constructor
    · intro hp; rw [hp]; exact ⟨_, rfl, rfl⟩
    · intro hp; rw [hp]; rfl
  have hend : ∀ k, ∃ c, ixLine_L0 F ((ors.length : Nat) : Int) ors n ar0 ar1 ar2 ar3 (k + 1) ((ors.length : Nat) : Int) = some (.inr c) ∧ c = (ors, (n : Int), ar0, ar1, ar2, ar3) := by
    intro k
    simp only [ixLine_L0]
    rw [lt_f, cond_false]
    exact ⟨_, rfl, rfl⟩
  have hnz : ((ors.length - 0 : Nat) : Int) = ((ors.length : Nat) : Int) := by simp
  have hnz2 : ((ors.length : Int) - 0) = ((ors.length : Nat) : Int) := by omega
  have hmem : nth at_ 0 n ∈ at_ := nth_mem hn
  rcases scan (fun k i => ixLine_L0 F ((ors.length : Nat) : Int) ors n ar0 ar1 ar2 ar3 k i) ors 0 (fun o => decide ((n : Int) ∈ kys (nth ar3 (0, []) (o - 1)).2)) (fun i b => b = ((i : Int), (ors, (n : Int), ar0, ar1, ar2, ar3))) (fun c => c = (ors, (n : Int), ar0, ar1, ar2, ar3)) hend hst ors.length 0 F (by omega) (by omega) with ⟨_, j, b, _, hj, hp, _, hb, hq⟩ | ⟨hany, c, hc, hr⟩
  · have hj' : j < od.length := by omega
    rw [h.go j hj', Nat.add_sub_cancel] at hp
    obtain ⟨n', h1, h2, h3⟩ := (h.mp j hj' n).1 (of_decide_eq_true hp)
    have : n' = n := by omega
    subst this
    refine ⟨(n' : Int), ?_⟩
    unfold ixLine_S
    simp only [hnz2]
    have hb' : ixLine_L0 F ((ors.length : Nat) : Int) ors n' ar0 ar1 ar2 ar3 F 0 = some (.inl b) := hb
    rw [hb', hq, h3]
  · have hno : ∀ i < od.length, nth at_ 0 n ≠ (i : Int) := by
      intro i hi he
      have hx := (h.mp i hi n).2 ⟨n, hn, rfl, he⟩
      rw [List.drop_zero, List.any_eq_false] at hany
      have := hany (nth ors 0 i) (nth_mem (by omega))
      rw [h.go i hi, Nat.add_sub_cancel] at this
      exact this (decide_eq_true hx)
    have he : nth at_ 0 n = -1 := by
      rcases h.ra _ hmem with h1 | ⟨h1, h2⟩
      · exact h1
      · exact absurd (by omega : nth at_ 0 n = ((nth at_ 0 n).toNat : Int)) (hno _ (by omega))
    refine ⟨(n : Int), ?_⟩
    unfold ixLine_S
    simp only [hnz2]
    have hc' : ixLine_L0 F ((ors.length : Nat) : Int) ors n ar0 ar1 ar2 ar3 F 0 = some (.inr c) := hc
    rw [hc', hr, he]
theorem bookAt_eq (F : Nat) (hF : 100 < F) (h : BInv wf at_ od ca ors ar2 ar3) (hk : od.length ≤ 12) {n : Nat} (hn : n < at_.length) (ar0 : A0) (ar1 : A1) : bookAt_S F n sp wf ors ar0 ar1 ar2 ar3 = some (nth at_ 0 n, ar0, ar1, ar2, ar3) := by
  obtain ⟨t, ht⟩ := ixLine_eq F hF h hk hn ar0 ar1
  unfold bookAt_S
  rw [ht]
def inN (x : Int) (n : Nat) : Bool := inI x 0 ((n : Int) - 1)
theorem inN_iff {x : Int} {n : Nat} : inN x n = true ↔ ∃ i : Nat, i < n ∧ x = i := by
  unfold inN inI
  rw [Bool.and_eq_true, decide_eq_true_eq, decide_eq_true_eq]
  constructor
  · intro h; exact ⟨x.toNat, by omega, by omega⟩
  · rintro ⟨i, h1, h2⟩; omega
theorem within_len (F : Nat) (x : Int) {n : Nat} (hn : n ≤ 1000) : within_S F x 0 (IntKind.wrap IntKind.i64 (((n - 0) : Int) - 1)) = some (inN x n) := by
  rw [w64 _ (by omega), with_S]
  unfold inN inI
  rw [show ((n : Int) - 0 - 1) = (n : Int) - 1 by omega]
theorem orderAt_eq (F : Nat) (h : BInv wf at_ od ca ors ar2 ar3) (hk : od.length ≤ 12) (x : Int) (ar0 : A0) (ar1 : A1) : orderAt_S F x sp wf ors ar0 ar1 ar2 ar3 = some ((bif inN x od.length then x.toNat + 1 else 0), ar0, ar1, ar2, ar3) := by
  have hlo := h.lo
  unfold orderAt_S
  rw [within_len F x (by omega), hlo]
  simp only [ob]
  cases hb : inN x od.length with
  | false => rfl
  | true =>
    obtain ⟨i, hi, rfl⟩ := inN_iff.1 hb
    have e6 : inB (i : Int) (od.length - 0) = true := inB_nat (by omega)
    simp only [Bool.not_true, cond_false, e6, cond_true, Int.toNat_natCast, h.go i hi]
theorem isWaf_eq (F : Nat) (hw : wf.length ≤ 60) (x : Int) (ar0 : A0) (ar1 : A1) : isWaf_S F x sp wf ors ar0 ar1 ar2 ar3 = some (inN x wf.length, ar0, ar1, ar2, ar3) := by
  unfold isWaf_S
  rw [within_len F x (by omega)]
/-- Orders whose counts are small. -/
def odsOk (od : List OdT) : Prop := ∀ i < od.length, 0 ≤ (nth od dO i).2.1 ∧ (nth od dO i).2.1 ≤ 60
end
end Go.Proofs.YtbepdcodkecboaaDoor


namespace Go.Proofs.YtbepdcodkecboaaDoor
open Go.RowKit
set_option maxRecDepth 100000
section
variable {sp : List SpT} {wf : List WfT} {at_ : List Int} {od : List OdT} {ca : List Bool} {ors : List Nat} {ar2 : A2} {ar3 : A3}
/-- The document's answer to a shipment. -/
def shp (sp : List SpT) (wf : List WfT) (at_ : List Int) (od : List OdT) (ca : List Bool) (a b : Int) : Int :=
  bif !inN a wf.length then 7 else bif !inN b od.length then 7 else
  bif nth at_ 0 a.toNat != -1 then 9 else bif nth ca false b.toNat then 9 else
  bif fltI (nth sp dS (nth od dO b.toNat).1.toNat) (nth wf dW a.toNat) != -1 then 100 else bif decide (opn at_ od ca b.toNat < 1) then 8 else 0
/-- The regions of specifications and wafers are ones. -/
def rgOk (sp : List SpT) (wf : List WfT) : Prop := (∀ s ∈ sp, 0 ≤ s.2 ∧ s.2 ≤ 31) ∧ ∀ w ∈ wf, 0 ≤ w.2.1 ∧ w.2.1 ≤ 31
def odIn (sp : List SpT) (od : List OdT) : Prop := ∀ i < od.length, 0 ≤ (nth od dO i).1 ∧ (nth od dO i).1 < sp.length
end
end Go.Proofs.YtbepdcodkecboaaDoor


namespace Go.Proofs.YtbepdcodkecboaaDoor
open Go.RowKit
set_option maxRecDepth 100000
section
variable {sp : List SpT} {wf : List WfT} {at_ : List Int} {od : List OdT} {ca : List Bool} {ors : List Nat} {ar2 : A2} {ar3 : A3}
theorem nth_setN {α : Type} (l : List α) (d x : α) {i j : Nat} (h : i ≠ j) : nth (l.set i x) d j = nth l d j := by
  rcases Nat.lt_or_ge j l.length with hj | hj
  · rw [← nth_eq _ d j (by simpa using hj), ← nth_eq l d j hj, List.getElem_set_ne h]
  · unfold nth; simp [List.getElem?_eq_none hj, h]
theorem nth_setE {α : Type} (l : List α) (d x : α) {i : Nat} (h : i < l.length) : nth (l.set i x) d i = x := by
  rw [← nth_eq _ d i (by simpa using h), List.getElem_set_self]
theorem nth_apL {α : Type} (l : List α) (d x : α) {k : Nat} (h : k < l.length) : nth (l ++ (x :: [])) d k = nth l d k := by
  rw [← nth_eq _ d k (by simp; omega), ← nth_eq l d k h, List.getElem_append_left h]
theorem nth_apR {α : Type} (l : List α) (d x : α) : nth (l ++ (x :: [])) d l.length = x := by
  rw [← nth_eq _ d l.length (by simp)]; simp
theorem mem_set' {α : Type} {l : List α} {i : Nat} {x y : α} (h : y ∈ l.set i x) : y = x ∨ y ∈ l := by
  rcases List.mem_or_eq_of_mem_set h with h | h
  · exact .inr h
  · exact .inl h
/-- A wafer is sent. -/
theorem BInv.ship (h : BInv wf at_ od ca ors ar2 ar3) {i n : Nat} (hi : i < od.length) (hn : n < wf.length) (hat : nth at_ 0 n = -1) (cl cl' : Nat) : BInv wf (at_.set n i) od ca ors ar2 (ar3.set i (cl', updT (n : Int) cl true (nth ar3 (0, []) i).2)) := by
  have hn' : n < at_.length := by rw [h.la]; exact hn
  have hno : ∀ j < od.length, (n : Int) ∉ kys (nth ar3 (0, []) j).2 := by
    intro j hj hm
    obtain ⟨n', h1, h2, h3⟩ := (h.mp j hj n).1 hm
    have : n' = n := by omega
    subst this
    rw [hat] at h3; omega
  have hu := updT_key (n : Int) cl (h.tr i hi) (hno i hi)
  have hl3 : i < ar3.length := by rw [h.l3]; exact hi
  have hk : kys (updT (n : Int) cl true (nth ar3 (0, []) i).2) = kys (nth ar3 (0, []) i).2 ++ [(n : Int)] := by
    rw [hu]; simp [kys]
  refine ⟨by simpa using h.la, h.lc, h.lo, h.l2, by simpa using h.l3, h.go, h.g2, fun j hj => ?_, fun j hj => ?_, fun j hj w => ?_, fun x hx => ?_⟩
  · by_cases e : i = j
    · subst e
      rw [nth_setE _ _ _ hl3]
      show (kys (updT (n : Int) cl true (nth ar3 (0, []) i).2)).Nodup
      rw [hk, List.nodup_append]
      exact ⟨h.nd i hi, by simp, fun a ha b hb => by
        simp only [List.mem_singleton] at hb
        subst hb
        intro e; subst e; exact hno i hi ha⟩
    · rw [nth_setN _ _ _ e]; exact h.nd j hj
  · by_cases e : i = j
    · subst e
      rw [nth_setE _ _ _ hl3]
      show ∀ e ∈ updT (n : Int) cl true (nth ar3 (0, []) i).2, e.2.2 = true
      rw [hu]
      intro e he
      rcases List.mem_append.1 he with he | he
      · exact h.tr i hi e he
      · simp only [List.mem_singleton] at he; subst he; rfl
    · rw [nth_setN _ _ _ e]; exact h.tr j hj
  · rw [List.length_set]
    by_cases e : i = j
    · subst e
      rw [nth_setE _ _ _ hl3]
      show w ∈ kys (updT (n : Int) cl true (nth ar3 (0, []) i).2) ↔ _
      rw [hk, List.mem_append, h.mp i hi w]
      constructor
      · rintro (⟨m, h1, h2, h3⟩ | hm)
        · refine ⟨m, h1, h2, ?_⟩
          rw [nth_setN _ _ _ (fun e => by subst e; rw [hat] at h3; omega)]; exact h3
        · simp only [List.mem_singleton] at hm
          exact ⟨n, hn', hm, nth_setE _ _ _ hn'⟩
      · rintro ⟨m, h1, h2, h3⟩
        by_cases e : n = m
        · right; simp; omega
        · left; rw [nth_setN _ _ _ e] at h3; exact ⟨m, h1, h2, h3⟩
    · rw [nth_setN _ _ _ e, h.mp j hj w]
      constructor
      · rintro ⟨m, h1, h2, h3⟩
        refine ⟨m, h1, h2, ?_⟩
        rw [nth_setN _ _ _ (fun e => by subst e; rw [hat] at h3; omega)]; exact h3
      · rintro ⟨m, h1, h2, h3⟩
        by_cases e2 : n = m
        · subst e2; rw [nth_setE _ _ _ hn'] at h3; omega
        · rw [nth_setN _ _ _ e2] at h3; exact ⟨m, h1, h2, h3⟩
  · rcases mem_set' hx with rfl | hx
    · right; omega
    · exact h.ra x hx
/-- A wafer comes back. -/
theorem BInv.back (h : BInv wf at_ od ca ors ar2 ar3) {i n : Nat} (hi : i < od.length) (hn : n < wf.length) (hat : nth at_ 0 n = i) (cl' : Nat) : BInv wf (at_.set n (-1)) od ca ors ar2 (ar3.set i (cl', delT (n : Int) (nth ar3 (0, []) i).2)) := by
  have hn' : n < at_.length := by rw [h.la]; exact hn
  obtain ⟨d1, d2, d3⟩ := delT_key (n : Int) (h.nd i hi)
  have hl3 : i < ar3.length := by rw [h.l3]; exact hi
  refine ⟨by simpa using h.la, h.lc, h.lo, h.l2, by simpa using h.l3, h.go, h.g2, fun j hj => ?_, fun j hj => ?_, fun j hj w => ?_, fun x hx => ?_⟩
  · by_cases e : i = j
    · subst e
      rw [nth_setE _ _ _ hl3]; exact d1
    · rw [nth_setN _ _ _ e]; exact h.nd j hj
  · by_cases e : i = j
    · subst e
      rw [nth_setE _ _ _ hl3]
      exact fun e he => h.tr i hi e (d2 e he)
    · rw [nth_setN _ _ _ e]; exact h.tr j hj
  · rw [List.length_set]
    by_cases e : i = j
    · subst e
      rw [nth_setE _ _ _ hl3]
      show w ∈ kys (delT (n : Int) (nth ar3 (0, []) i).2) ↔ _
      rw [d3 w, h.mp i hi w]
      constructor
      · rintro ⟨⟨m, h1, h2, h3⟩, hne⟩
        refine ⟨m, h1, h2, ?_⟩
        rw [nth_setN _ _ _ (fun e => by subst e; exact hne h2)]; exact h3
      · rintro ⟨m, h1, h2, h3⟩
        by_cases e : n = m
        · subst e; rw [nth_setE _ _ _ hn'] at h3; omega
        · rw [nth_setN _ _ _ e] at h3; exact ⟨⟨m, h1, h2, h3⟩, by omega⟩
    · rw [nth_setN _ _ _ e, h.mp j hj w]
      constructor
      · rintro ⟨m, h1, h2, h3⟩
        refine ⟨m, h1, h2, ?_⟩
        rw [nth_setN _ _ _ (fun e2 => by subst e2; rw [hat] at h3; omega)]; exact h3
      · rintro ⟨m, h1, h2, h3⟩
        by_cases e2 : n = m
        · subst e2; rw [nth_setE _ _ _ hn'] at h3; omega
        · rw [nth_setN _ _ _ e2] at h3; exact ⟨m, h1, h2, h3⟩
  · rcases mem_set' hx with rfl | hx
    · exact .inl rfl
    · exact h.ra x hx
/-- A wafer is new. -/
theorem BInv.stock (h : BInv wf at_ od ca ors ar2 ar3) (w : WfT) : BInv (wf ++ (w :: [])) (at_ ++ ((-1) :: [])) od ca ors ar2 ar3 := by
  refine ⟨by simp [h.la], h.lc, h.lo, h.l2, h.l3, h.go, h.g2, h.nd, h.tr, fun j hj x => ?_, fun x hx => ?_⟩
  · rw [h.mp j hj x]
    constructor
    · rintro ⟨m, h1, h2, h3⟩
      exact ⟨m, by simp; omega, h2, by rw [nth_apL _ _ _ h1]; exact h3⟩
    · rintro ⟨m, h1, h2, h3⟩
      rw [List.length_append, List.length_singleton] at h1
      by_cases e : m = at_.length
      · subst e; rw [nth_apR] at h3; omega
      · rw [nth_apL _ _ _ (by omega)] at h3; exact ⟨m, by omega, h2, h3⟩
  · rcases List.mem_append.1 hx with hx | hx
    · exact h.ra x hx
    · simp only [List.mem_singleton] at hx; exact .inl hx
/-- An order is new. -/
theorem BInv.order (h : BInv wf at_ od ca ors ar2 ar3) (o : OdT) : BInv wf at_ (od ++ (o :: [])) (ca ++ (false :: [])) (ors ++ ((ar2.length + 1) :: [])) (ar2 ++ ((o, ((ar3.length + 1), false)) :: [])) (ar3 ++ ((0, []) :: [])) := by
  have l2 := h.l2; have l3 := h.l3; have lo := h.lo; have lc := h.lc
  have hl : (od ++ (o :: [])).length = od.length + 1 := by simp
  refine ⟨h.la, by simp [lc], by simp [lo], by simp [l2], by simp [l3], fun j hj => ?_, fun j hj => ?_, fun j hj => ?_, fun j hj => ?_, fun j hj w => ?_, fun x hx => ?_⟩
  · rw [hl] at hj
    by_cases e : j = od.length
    · subst e; rw [← lo, nth_apR, lo, l2]
    · rw [nth_apL _ _ _ (by omega)]; exact h.go j (by omega)
  · rw [hl] at hj
    by_cases e : j = od.length
    · subst e
      rw [nth_apR]
      rw [show nth (ar2 ++ ((o, ((ar3.length + 1), false)) :: [])) dL od.length = (o, ((ar3.length + 1), false)) by rw [← l2, nth_apR]]
      rw [show nth (ca ++ (false :: [])) false od.length = false by rw [← lc, nth_apR], l3]
    · rw [nth_apL _ _ _ (by omega), nth_apL _ _ _ (by omega), nth_apL _ _ _ (by omega)]; exact h.g2 j (by omega)
  · rw [hl] at hj
    by_cases e : j = od.length
    · subst e; rw [← l3, nth_apR]; exact List.nodup_nil
    · rw [nth_apL _ _ _ (by omega)]; exact h.nd j (by omega)
  · rw [hl] at hj
    by_cases e : j = od.length
    · subst e; rw [← l3, nth_apR]; exact fun e he => by cases he
    · rw [nth_apL _ _ _ (by omega)]; exact h.tr j (by omega)
  · rw [hl] at hj
    by_cases e : j = od.length
    · subst e
      rw [show nth (ar3 ++ ((0, []) :: [])) (0, []) od.length = (0, []) by rw [← l3, nth_apR]]
      constructor
      · intro hm; cases hm
      · rintro ⟨m, h1, h2, h3⟩
        have := h.ra _ (nth_mem (d := 0) h1)
        omega
    · rw [nth_apL _ _ _ (by omega)]; exact h.mp j (by omega) w
  · rw [hl]
    rcases h.ra x hx with h1 | h1
    · exact .inl h1
    · exact .inr (by omega)
end
end Go.Proofs.YtbepdcodkecboaaDoor


namespace Go.Proofs.YtbepdcodkecboaaDoor
open Go.RowKit
set_option maxRecDepth 100000
section
variable {sp : List SpT} {wf : List WfT} {at_ : List Int} {od : List OdT} {ca : List Bool} {ors : List Nat} {ar2 : A2} {ar3 : A3}
theorem bShip_eq (F : Nat) (hF : 100 < F) (h : BInv wf at_ od ca ors ar2 ar3) (hk : od.length ≤ 12) (hw : wf.length ≤ 60) (ho : odsOk od) (hi : odIn sp od) (a b : Int) (ar0 : A0) (ar1 : A1) :
    ∃ ar3', bShip_S F a b sp wf ors ar0 ar1 ar2 ar3 = some (shp sp wf at_ od ca a b, ar0, ar1, ar2, ar3') ∧ BInv wf (bif shp sp wf at_ od ca a b == 0 then at_.set a.toNat b else at_) od ca ors ar2 ar3' := by
  unfold bShip_S shp
  rw [orderAt_eq F h hk b]
  simp only [ob]
  rw [isWaf_eq F hw a]
  simp only
  cases ha : inN a wf.length with
  | false => exact ⟨ar3, rfl, h⟩
  | true =>
    cases hb : inN b od.length with
    | false => exact ⟨ar3, rfl, h⟩
    | true =>
      obtain ⟨n, hn, rfl⟩ := inN_iff.1 ha
      obtain ⟨i, hi', rfl⟩ := inN_iff.1 hb
      have hn' : n < at_.length := by rw [h.la]; exact hn
      have e4 : Nat.beq (i + 1) 0 = false := rfl
      have e5 : i + 1 - 1 = i := rfl
      have g1 : inO (i + 1) ar2.length = true := inO_nat (by rw [h.l2]; exact hi')
      have g3 : inO (i + 1) ar3.length = true := inO_nat (by rw [h.l3]; exact hi')
      have e2 := h.g2 i hi'
      obtain ⟨h5, h6⟩ := hi i hi'
      have e9 : inB (nth od dO i).1 (sp.length - 0) = true := by
        have := inB_nat (i := (nth od dO i).1.toNat) (n := sp.length - 0) (by omega)
        rwa [show (((nth od dO i).1.toNat : Nat) : Int) = (nth od dO i).1 by omega] at this
      have e10 : inB (n : Int) (wf.length - 0) = true := inB_nat (by omega)
      simp only [Bool.not_true, cond_false, cond_true, Int.toNat_natCast, e4]
      rw [bookAt_eq F hF h hk hn']
      simp only
      rcases h.ra _ (nth_mem (d := 0) hn') with h1 | ⟨h1, h2⟩
      · rw [h1]
        have e11 : decide ((-1 : Int) ≥ 0) = false := rfl
        have e12 : ((-1 : Int) != -1) = false := rfl
        simp only [e11, e12, cond_false, e4, Bool.not_false, cond_true, g1, e5, e2]
        cases hcc : nth ca false i with
        | true => exact ⟨ar3, rfl, h⟩
        | false =>
          simp only [cond_false, cond_true, e9, e10, Int.toNat_natCast]
          rw [fault_eq]
          simp only
          have hflt : decide (fltI (nth sp dS (nth od dO i).1.toNat) (nth wf dW n) ≥ 0) = (fltI (nth sp dS (nth od dO i).1.toNat) (nth wf dW n) != -1) := by
            unfold fltI
            repeat' (first | rfl | (rw [show ∀ (c : Bool) (x y : Int), decide ((bif c then x else y) ≥ 0) = bif c then decide (x ≥ 0) else decide (y ≥ 0) from fun c x y => by cases c <;> rfl, show ∀ (c : Bool) (x y : Int), ((bif c then x else y) != -1) = bif c then (x != -1) else (y != -1) from fun c x y => by cases c <;> rfl]; congr 1))
          rw [hflt]
          cases hf : (fltI (nth sp dS (nth od dO i).1.toNat) (nth wf dW n) != -1) with
          | true => exact ⟨ar3, rfl, h⟩
          | false =>
            simp only [cond_false]
            rw [lineOpen_eq F h hi' (ho i hi') hw]
            simp only
            have hle : decide (opn at_ od ca i ≤ 0) = decide (opn at_ od ca i < 1) := decide_eq_decide.2 (by omega)
            rw [hle]
            cases hop : decide (opn at_ od ca i < 1) with
            | true => exact ⟨ar3, rfl, h⟩
            | false =>
              simp only [cond_false, cond_true, g1, e5, e2, g3]
              exact ⟨_, rfl, h.ship hi' hn h1 _ _⟩
      · have e11 : decide (nth at_ 0 n ≥ 0) = true := decide_eq_true h1
        have e12 : (nth at_ 0 n != -1) = true := by rw [bne_iff_ne]; omega
        simp only [e11, e12, cond_true]
        exact ⟨ar3, rfl, h⟩
end
end Go.Proofs.YtbepdcodkecboaaDoor


namespace Go.Proofs.YtbepdcodkecboaaDoor
open Go.RowKit
set_option maxRecDepth 100000
section
variable {sp : List SpT} {wf : List WfT} {at_ : List Int} {od : List OdT} {ca : List Bool} {ors : List Nat} {ar2 : A2} {ar3 : A3}
theorem lenOk_sm {n m : Nat} (h : n + m ≤ 1000000) : lenOk n m = true := decide_eq_true h
theorem bStock_eq (F : Nat) (hw : wf.length ≤ 60) (w : WfT) (hu : 0 ≤ w.2.1 ∧ w.2.1 ≤ 255) (hs : shortW w) (ar0 : A0) (ar1 : A1) :
    bStock_S F w sp wf ors ar0 ar1 ar2 ar3 = some ((bif !wfB w then (0, 2) else bif wf.length == 60 then (0, 8) else ((wf.length : Int), 0)), sp, ors, ar0, ar1, ar2, ar3, (bif wfB w && !(wf.length == 60) then wf ++ (w :: []) else wf)) := by
  unfold bStock_S
  rw [isWf F w hu hs]
  simp only [ob]
  cases hb : wfB w with
  | false => rfl
  | true =>
    have e : (((wf.length - 0) : Int) == 60) = (wf.length == 60) := by
      rw [Bool.eq_iff_iff, beq_iff_eq, beq_iff_eq]; omega
    simp only [Bool.not_true, cond_false, e]
    cases h6 : (wf.length == 60) with
    | true => rfl
    | false =>
      have e1 : lenOk (wf.length - 0) (w :: []).length = true := lenOk_sm (by simp; omega)
      simp only [cond_false, e1, cond_true, Bool.not_false, Bool.and_true]
      rw [w64 _ (by rw [List.length_append, List.length_singleton]; omega)]
      rw [List.length_append, List.length_singleton, show (((wf.length + 1 : Nat) : Int) - 0 - 1) = (wf.length : Int) by omega]
theorem bOrder_eq (F : Nat) (h : BInv wf at_ od ca ors ar2 ar3) (hk : od.length ≤ 12) (hsp : sp.length ≤ 20) (o : OdT) (ar0 : A0) (ar1 : A1) :
    ∃ ors' ar2' ar3', bOrder_S F o sp wf ors ar0 ar1 ar2 ar3 = some ((bif !odB sp.length o then (0, 2) else bif od.length == 12 then (0, 8) else ((od.length : Int), 0)), sp, wf, ar0, ar1, ar2', ar3', ors') ∧ (bif odB sp.length o && !(od.length == 12) then BInv wf at_ (od ++ (o :: [])) (ca ++ (false :: [])) ors' ar2' ar3' else BInv wf at_ od ca ors' ar2' ar3') := by
  have lo := h.lo
  unfold bOrder_S
  rw [isOd F o sp.length (by omega)]
  simp only [ob]
  cases hb : odB sp.length o with
  | false => exact ⟨ors, ar2, ar3, rfl, h⟩
  | true =>
    have e : (((ors.length - 0) : Int) == 12) = (od.length == 12) := by
      rw [Bool.eq_iff_iff, beq_iff_eq, beq_iff_eq]; omega
    simp only [Bool.not_true, cond_false, e]
    cases h6 : (od.length == 12) with
    | true => exact ⟨ors, ar2, ar3, rfl, h⟩
    | false =>
      have e1 : lenOk (ors.length - 0) ((ar2.length + 1) :: []).length = true := lenOk_sm (by simp; omega)
      simp only [cond_false, e1, cond_true, Bool.not_false, Bool.and_true]
      rw [w64 _ (by rw [List.length_append, List.length_singleton]; omega)]
      rw [List.length_append, List.length_singleton, show (((ors.length + 1 : Nat) : Int) - 0 - 1) = (od.length : Int) by omega]
      exact ⟨_, _, _, rfl, h.order o⟩
end
end Go.Proofs.YtbepdcodkecboaaDoor


namespace Go.Proofs.YtbepdcodkecboaaDoor
open Go.RowKit
set_option maxRecDepth 100000
section
variable {sp : List SpT} {wf : List WfT} {at_ : List Int} {od : List OdT} {ca : List Bool} {ors : List Nat} {ar2 : A2} {ar3 : A3}
/-- The wafers that are here, from some number on. -/
def selW (at_ : List Int) (k : Nat) : List Nat := (List.range' k (at_.length - k)).filter (fun n => nth at_ 0 n == -1)
/-- The orders that count, from some number on. -/
def cntO (od : List OdT) (ca : List Bool) (day : Int) (i : Nat) : Bool := !nth ca false i && decide ((nth od dO i).2.2.2 ≥ day)
def selO (od : List OdT) (ca : List Bool) (day : Int) (k : Nat) : List Nat := (List.range' k (od.length - k)).filter (cntO od ca day)
def mkO (at_ : List Int) (od : List OdT) (ca : List Bool) (i : Nat) : OdT := ((nth od dO i).1, (opn at_ od ca i, (nth od dO i).2.2))
theorem selW_step {k : Nat} (h : k < at_.length) : selW at_ k = bif nth at_ 0 k == -1 then k :: selW at_ (k + 1) else selW at_ (k + 1) := by
  unfold selW
  rw [show at_.length - k = (at_.length - (k + 1)) + 1 by omega, List.range'_succ, List.filter_cons]
  cases nth at_ 0 k == -1 <;> rfl
theorem selW_end : selW at_ at_.length = [] := by unfold selW; rw [Nat.sub_self]; rfl
theorem selO_step {day : Int} {k : Nat} (h : k < od.length) : selO od ca day k = bif cntO od ca day k then k :: selO od ca day (k + 1) else selO od ca day (k + 1) := by
  unfold selO
  rw [show od.length - k = (od.length - (k + 1)) + 1 by omega, List.range'_succ, List.filter_cons]
  cases cntO od ca day k <;> rfl
theorem selO_end {day : Int} : selO od ca day od.length = [] := by unfold selO; rw [Nat.sub_self]; rfl
theorem lt_t' {i n : Nat} (h : i < n) : decide ((i : Int) < ((n - 0) : Int)) = true := by rw [decide_eq_true_eq]; omega
theorem lt_f' {n : Nat} : decide ((n : Int) < ((n - 0) : Int)) = false := by rw [decide_eq_false_iff_not]; omega
theorem plan0 (F : Nat) (hF : 100 < F) (h : BInv wf at_ od ca ors ar2 ar3) (hk : od.length ≤ 12) (hw : wf.length ≤ 60) (day : Int) (ar0 : A0) (ar1 : A1) : ∀ (m k n : Nat) (here : List Int) (gs : List WfT), k + m = wf.length → m < n → here.length ≤ k → gs.length ≤ k →
    bPlan_L0 F day ((wf.length - 0) : Int) sp wf ors n (k : Int) ar0 ar1 ar2 ar3 here gs = some (day, sp, wf, ors, ar0, ar1, ar2, ar3, here ++ (selW at_ k).map (fun n : Nat => (n : Int)), gs ++ (selW at_ k).map (nth wf dW))
  | 0, k, n + 1, here, gs, hm, _, _, _ => by
    have : k = wf.length := by omega
    subst this
    simp only [bPlan_L0]
    rw [lt_f', cond_false]
    have : selW at_ wf.length = [] := by rw [← h.la]; exact selW_end
    rw [this]
    simp
  | m + 1, k, n + 1, here, gs, hm, hn, h1, h2 => by
    have hkl : k < wf.length := by omega
    have hkl' : k < at_.length := by rw [h.la]; exact hkl
    have e6 : inB (k : Int) (wf.length - 0) = true := inB_nat (by omega)
    simp only [bPlan_L0]
    rw [lt_t' hkl, cond_true, e6, cond_true, bookAt_eq F hF h hk hkl', selW_step hkl']
    simp only [ob, Int.toNat_natCast]
    rcases h.ra _ (nth_mem (d := 0) hkl') with h3 | h3
    · rw [h3]
      have e1 : decide ((-1 : Int) < 0) = true := rfl
      have e2 : ((-1 : Int) == -1) = true := rfl
      have e3 : lenOk (gs.length - 0) (nth wf dW k :: []).length = true := lenOk_sm (by simp; omega)
      have e4 : lenOk (here.length - 0) ((k : Int) :: []).length = true := lenOk_sm (by simp; omega)
      simp only [e1, e2, cond_true]
      rw [e3, cond_true, e4, cond_true, i64s (by omega), plan0 F hF h hk hw day ar0 ar1 m (k + 1) n _ _ (by omega) (by omega) (by simp; omega) (by simp; omega)]
      simp
    · have e1 : decide (nth at_ 0 k < 0) = false := by rw [decide_eq_false_iff_not]; omega
      have e2 : (nth at_ 0 k == -1) = false := by rw [beq_eq_false_iff_ne]; omega
      rw [e1, e2]
      simp only [cond_false]
      rw [i64s (by omega), plan0 F hF h hk hw day ar0 ar1 m (k + 1) n _ _ (by omega) (by omega) (by omega) (by omega)]
  | m, k, 0, _, _, _, hn, _, _ => by omega
theorem plan1 (F : Nat) (h : BInv wf at_ od ca ors ar2 ar3) (hk : od.length ≤ 12) (hw : wf.length ≤ 60) (ho : odsOk od) (day : Int) (ar0 : A0) (ar1 : A1) (here : List Int) (gs : List WfT) : ∀ (m k n : Nat) (wt : List Int) (os : List OdT), k + m = od.length → m < n → wt.length ≤ k → os.length ≤ k →
    bPlan_L1 F n day ((od.length : Nat) : Int) (k : Int) sp wf ors ar0 ar1 ar2 ar3 here wt gs os = some (sp, wf, ors, ar0, ar1, ar2, ar3, here, wt ++ (selO od ca day k).map (fun n : Nat => (n : Int)), gs, os ++ (selO od ca day k).map (mkO at_ od ca))
  | 0, k, n + 1, wt, os, hm, _, _, _ => by
    have : k = od.length := by omega
    subst this
    simp only [bPlan_L1]
    rw [lt_f, cond_false, selO_end]
    simp
  | m + 1, k, n + 1, wt, os, hm, hn, h1, h2 => by
    have hkl : k < od.length := by omega
    have e6 : inB (k : Int) (ors.length - 0) = true := inB_nat (by rw [h.lo]; omega)
    have e4 : Nat.beq (k + 1) 0 = false := rfl
    have e5 : k + 1 - 1 = k := rfl
    have g1 : inO (k + 1) ar2.length = true := inO_nat (by rw [h.l2]; exact hkl)
    have e2 := h.g2 k hkl
    have e7 := lineOpen_eq F h hkl (ho k hkl) hw ar0 ar1
    have e8 : ∀ x : OdT, lenOk (os.length - 0) (x :: []).length = true := fun x => lenOk_sm (by simp; omega)
    have e9 : lenOk (wt.length - 0) ((k : Int) :: []).length = true := lenOk_sm (by simp; omega)
    have ih := fun wt' os' a b => plan1 F h hk hw ho day ar0 ar1 here gs m (k + 1) n wt' os' (by omega) (by omega) a b
    simp only [bPlan_L1]
    rw [lt_t hkl, cond_true, e6, cond_true, selO_step hkl]
    simp only [Int.toNat_natCast, h.go k hkl, e4, Bool.not_false, cond_true, g1, e5, e2]
    unfold cntO
    cases hc : nth ca false k with
    | true =>
      simp only [Bool.not_true, cond_false, ob, Bool.false_and]
      rw [i64s (by omega)]
      exact ih wt os (by omega) (by omega)
    | false =>
      simp only [Bool.not_false, cond_true, ob, Bool.true_and]
      cases hd : decide ((nth od dO k).2.2.2 ≥ day) with
      | false =>
        simp only [cond_false]
        rw [i64s (by omega)]
        exact ih wt os (by omega) (by omega)
      | true =>
        simp only [cond_true, e4, Bool.not_false, g1, e5]
        rw [e7]
        simp only [e2]
        rw [e8, cond_true, e9, cond_true, i64s (by omega), ih _ _ (by simp; omega) (by simp; omega)]
        simp [mkO]
  | m, k, 0, _, _, _, hn, _, _ => by omega
end
end Go.Proofs.YtbepdcodkecboaaDoor


namespace Go.Proofs.YtbepdcodkecboaaDoor
open Go.RowKit
set_option maxRecDepth 100000
section
/-- The wafers and orders of an assignment. -/
def pkN (tl : List Int) (k : Nat) : List Nat := (List.range' k (tl.length - k)).filter (fun n => decide (nth tl 0 n ≥ 0))
def pkA (here tl : List Int) (k : Nat) : List Int := (pkN tl k).map (fun n => nth here 0 n)
def pkB (wt tl : List Int) (k : Nat) : List Int := (pkN tl k).map (fun n => nth wt 0 (nth tl 0 n).toNat)
theorem pkN_step {tl : List Int} {k : Nat} (h : k < tl.length) : pkN tl k = bif decide (nth tl 0 k ≥ 0) then k :: pkN tl (k + 1) else pkN tl (k + 1) := by
  unfold pkN
  rw [show tl.length - k = (tl.length - (k + 1)) + 1 by omega, List.range'_succ, List.filter_cons]
  cases decide (nth tl 0 k ≥ 0) <;> rfl
theorem pkN_end {tl : List Int} : pkN tl tl.length = [] := by unfold pkN; rw [Nat.sub_self]; rfl
theorem inB_int {x : Int} {n : Nat} (h0 : 0 ≤ x) (h1 : x < n) : inB x n = true := by
  have := inB_nat (i := x.toNat) (n := n) (by omega)
  rwa [show ((x.toNat : Nat) : Int) = x by omega] at this
theorem plan2 (F : Nat) (e : Int) (g1 : List SpT) (g2 : List WfT) (g3 : List Nat) (b2 : A2) (b3 : A3) (b0 : A0) (b1 : A1) (here wt tl : List Int) (hl : tl.length = here.length) (hs : tl.length ≤ 60) (hb : ∀ n < tl.length, nth tl 0 n < (wt.length : Int)) : ∀ (m k n : Nat) (a b : List Int), k + m = tl.length → m < n → a.length ≤ k → b.length ≤ k →
    bPlan_L2 F e ((tl.length - 0) : Int) g1 g2 g3 b2 b3 b0 b1 here wt tl n (k : Int) a b = some (e, g1, g2, g3, b2, b3, b0, b1, a ++ pkA here tl k, b ++ pkB wt tl k)
  | 0, k, n + 1, a, b, hm, _, _, _ => by
    have : k = tl.length := by omega
    subst this
    simp only [bPlan_L2]
    rw [lt_f', cond_false]
    simp [pkA, pkB, pkN_end]
  | m + 1, k, n + 1, a, b, hm, hn, h1, h2 => by
    have hkl : k < tl.length := by omega
    have e6 : inB (k : Int) (tl.length - 0) = true := inB_nat (by omega)
    simp only [bPlan_L2]
    rw [lt_t' hkl, cond_true, e6, cond_true]
    unfold pkA pkB
    rw [pkN_step hkl]
    simp only [Int.toNat_natCast]
    have ih := fun a' b' q r => plan2 F e g1 g2 g3 b2 b3 b0 b1 here wt tl hl hs hb m (k + 1) n a' b' (by omega) (by omega) q r
    cases hd : decide (nth tl 0 k ≥ 0) with
    | true =>
      have hp := of_decide_eq_true hd
      have e7 : inB (k : Int) (here.length - 0) = true := inB_nat (by omega)
      have e8 : inB (nth tl 0 k) (wt.length - 0) = true := inB_int hp (by have := hb k hkl; omega)
      have e9 : ∀ x : Int, lenOk (a.length - 0) (x :: []).length = true := fun x => lenOk_sm (by simp; omega)
      have e10 : ∀ x : Int, lenOk (b.length - 0) (x :: []).length = true := fun x => lenOk_sm (by simp; omega)
      simp only [cond_true, e7, e8, e9, e10]
      rw [i64s (by omega), ih _ _ (by simp; omega) (by simp; omega)]
      simp [pkA, pkB]
    | false =>
      simp only [cond_false]
      rw [i64s (by omega), ih _ _ (by omega) (by omega)]
      rfl
  | m, k, 0, _, _, _, hn, _, _ => by omega
theorem pk_len (tl : List Int) : (pkN tl 0).length ≤ tl.length := by
  unfold pkN
  refine Nat.le_trans (List.length_filter_le _ _) ?_
  simp
end
end Go.Proofs.YtbepdcodkecboaaDoor


namespace Go.Proofs.YtbepdcodkecboaaDoor
open Go.RowKit
set_option maxRecDepth 100000
structure BVal (sp : List SpT) (wf : List WfT) (at_ : List Int) (od : List OdT) (ca : List Bool) : Prop where
  sl : sp.length ≤ 20
  sv : ∀ s ∈ sp, spB s = true
  sr : ∀ s ∈ sp, 0 ≤ s.2 ∧ s.2 ≤ 31
  wl : wf.length ≤ 60
  wv : ∀ w ∈ wf, wfB w = true
  ws : wfsOk wf
  wr : ∀ w ∈ wf, 0 ≤ w.2.1 ∧ w.2.1 ≤ 31
  ol : od.length ≤ 12
  ov : ∀ i < od.length, odB sp.length (nth od dO i) = true
  cp : ∀ i < od.length, (cnt at_ i : Int) ≤ (nth od dO i).2.1
section
variable {sp : List SpT} {wf : List WfT} {at_ : List Int} {od : List OdT} {ca : List Bool} {ors : List Nat} {ar2 : A2} {ar3 : A3}
theorem odB_iff {k : Nat} {o : OdT} : odB k o = true ↔ ((0 ≤ o.1 ∧ o.1 ≤ (k : Int) - 1) ∧ (0 ≤ o.2.1 ∧ o.2.1 ≤ 60) ∧ (0 ≤ o.2.2.1 ∧ o.2.2.1 ≤ 1000000) ∧ 0 ≤ o.2.2.2 ∧ o.2.2.2 ≤ 100000) := by
  unfold odB inI
  simp only [Bool.and_eq_true, decide_eq_true_eq]
theorem BVal.ods (v : BVal sp wf at_ od ca) : odsOk od := fun i hi => (odB_iff.1 (v.ov i hi)).2.1
theorem selW_len : (selW at_ 0).length ≤ at_.length := by
  unfold selW
  refine Nat.le_trans (List.length_filter_le _ _) ?_
  simp
theorem selO_len {day : Int} : (selO od ca day 0).length ≤ od.length := by
  unfold selO
  refine Nat.le_trans (List.length_filter_le _ _) ?_
  simp
theorem selW_mem {n : Nat} (h : n ∈ selW at_ 0) : n < at_.length ∧ nth at_ 0 n = -1 := by
  unfold selW at h
  obtain ⟨h1, h2⟩ := List.mem_filter.1 h
  rw [List.mem_range'_1] at h1
  exact ⟨by omega, by simpa using h2⟩
theorem selO_mem {day : Int} {n : Nat} (h : n ∈ selO od ca day 0) : n < od.length ∧ nth ca false n = false ∧ (nth od dO n).2.2.2 ≥ day := by
  unfold selO at h
  obtain ⟨h1, h2⟩ := List.mem_filter.1 h
  rw [List.mem_range'_1] at h1
  unfold cntO at h2
  rw [Bool.and_eq_true, Bool.not_eq_true', decide_eq_true_eq] at h2
  exact ⟨by omega, h2⟩
/-- The market of a plan. -/
abbrev mW (wf : List WfT) (at_ : List Int) : List WfT := (selW at_ 0).map (nth wf dW)
abbrev mO (at_ : List Int) (od : List OdT) (ca : List Bool) (day : Int) : List OdT := (selO od ca day 0).map (mkO at_ od ca)
theorem mW_ok (v : BVal sp wf at_ od ca) (la : at_.length = wf.length) : ∀ w ∈ mW wf at_, w ∈ wf := by
  intro w hw
  obtain ⟨n, h1, rfl⟩ := List.mem_map.1 hw
  have := (selW_mem h1).1
  exact nth_mem (by omega)
theorem mkt_chk (v : BVal sp wf at_ od ca) (la : at_.length = wf.length) (day : Int) : chkE sp (mW wf at_) (mO at_ od ca day) = 0 := by
  have h1 := selW_len (at_ := at_)
  have h2 := selO_len (od := od) (ca := ca) (day := day)
  have h3 := v.sl; have h4 := v.wl; have h5 := v.ol
  unfold chkE
  have e1 : decide (20 < sp.length) = false := by rw [decide_eq_false_iff_not]; omega
  have e2 : decide (60 < (mW wf at_).length) = false := by rw [decide_eq_false_iff_not, List.length_map]; omega
  have e3 : decide (12 < (mO at_ od ca day).length) = false := by rw [decide_eq_false_iff_not, List.length_map]; omega
  have e4 : sp.any (fun s => !spB s) = false := by
    rw [List.any_eq_false]; intro s hs; rw [v.sv s hs]; decide
  have e5 : (mW wf at_).any (fun s => !wfB s) = false := by
    rw [List.any_eq_false]; intro s hs; rw [v.wv s (mW_ok v la s hs)]; decide
  have e6 : (mO at_ od ca day).any (fun s => !odB sp.length s) = false := by
    rw [List.any_eq_false]
    intro s hs
    obtain ⟨i, g1, rfl⟩ := List.mem_map.1 hs
    obtain ⟨g2, g3, _⟩ := selO_mem g1
    have g4 := odB_iff.1 (v.ov i g2)
    have g5 := v.cp i g2
    have : odB sp.length (mkO at_ od ca i) = true := by
      rw [odB_iff]
      unfold mkO opn
      rw [g3]
      simp only [cond_false]
      omega
    rw [this]; decide
  rw [e1, e2, e3, e4, e5, e6]
  rfl
theorem bPlan_eq (F : Nat) (hF : 4000 ≤ F) (h : BInv wf at_ od ca ors ar2 ar3) (v : BVal sp wf at_ od ca) {day : Int} (hd : 0 ≤ day ∧ day ≤ 100000) (ar0 : A0) (ar1 : A1) :
    ∃ (tl : List Int) (u : Int) (B : A0) (C : A1), bPlan_S F day sp wf ors ar0 ar1 ar2 ar3 = some (0, B, C, ar2, ar3, pkA ((selW at_ 0).map (fun n : Nat => (n : Int))) tl 0, pkB ((selO od ca day 0).map (fun n : Nat => (n : Int))) tl 0) ∧
      Least sp (mW wf at_) (mO at_ od ca day) 0 (cO (mO at_ od ca day)) u tl ∧ BestM sp (mW wf at_) (mO at_ od ca day) (nth ((List.range (mO at_ od ca day).length).map (cO (mO at_ od ca day))) 0) 0 u ∧ tl.length = (selW at_ 0).length ∧ ∀ n < tl.length, nth tl 0 n < ((selO od ca day 0).length : Int) := by
  have hk := v.ol; have hw := v.wl
  have hsW := selW_len (at_ := at_)
  have hla := h.la
  obtain ⟨tl, u, B, C, a1, a2, a3, _⟩ := assign_eq (sp := sp) (wf := mW wf at_) (od := mO at_ od ca day) F (by omega) (fun w hw => v.ws w (mW_ok v h.la w hw)) ar0 ar1 (mkt_chk v h.la day)
  have hl : tl.length = (selW at_ 0).length := by rw [a2.1, List.length_map, Nat.sub_zero]
  have hb : ∀ n < tl.length, nth tl 0 n < ((selO od ca day 0).length : Int) := by
    intro n hn
    have := rk_okL tl 0 (cO (mO at_ od ca day)) 0 u a2.2.1 (nth tl 0 n) (nth_mem hn)
    rw [List.length_map] at this
    omega
  refine ⟨tl, u, B, C, ?_, a2, a3, hl, hb⟩
  have p0 := plan0 (sp := sp) F (by omega) h hk hw day ar0 ar1 wf.length 0 F [] [] (by omega) (by omega) (by simp) (by simp)
  have p1 := plan1 (sp := sp) F h hk hw v.ods day ar0 ar1 ((selW at_ 0).map (fun n : Nat => (n : Int))) (mW wf at_) od.length 0 F [] [] (by omega) (by omega) (by simp) (by simp)
  have p2 := plan2 F 0 sp wf ors ar2 ar3 B C ((selW at_ 0).map (fun n : Nat => (n : Int))) ((selO od ca day 0).map (fun n : Nat => (n : Int))) tl (by rw [hl, List.length_map]) (by omega) (by rw [List.length_map]; exact hb) tl.length 0 F [] [] (by omega) (by omega) (by simp) (by simp)
  unfold bPlan_S
  rw [with_S]
  have e : (decide (day ≥ 0) && decide (day ≤ 100000)) = true := by
    rw [Bool.and_eq_true, decide_eq_true_eq, decide_eq_true_eq]; omega
  rw [e]
  show ob (bPlan_L0 F day ((wf.length - 0) : Int) sp wf ors F ((0 : Nat) : Int) ar0 ar1 ar2 ar3 [] []) _ = _
  rw [p0]
  show ob (bPlan_L1 F F day ((ors.length - 0) : Int) ((0 : Nat) : Int) sp wf ors ar0 ar1 ar2 ar3 ([] ++ _) [] ([] ++ _) []) _ = _
  rw [h.lo, Int.sub_zero, List.nil_append, List.nil_append, p1]
  show ob (assign_S F sp (mW wf at_) (mO at_ od ca day) ar0 ar1) _ = _
  rw [a1]
  show ob (bPlan_L2 F 0 ((tl.length - 0) : Int) sp wf ors ar2 ar3 B C ((selW at_ 0).map (fun n : Nat => (n : Int))) ((selO od ca day 0).map (fun n : Nat => (n : Int))) tl F ((0 : Nat) : Int) [] []) _ = _
  rw [p2]
  rfl
end
end Go.Proofs.YtbepdcodkecboaaDoor
