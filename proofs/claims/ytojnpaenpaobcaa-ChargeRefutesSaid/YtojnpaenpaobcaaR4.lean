/- A drawn region by a tree of plans: where two operations that move the world may come up, both ways are walked. No condition. -/
import Derived.Test.YtojnpaenpaobcaaR3
namespace Go.Proofs.Ytojnpaenpaobcaa
open Go.RowKit

inductive Tree where
  | done
  | pu (l : List Nat) (t : Tree)
  | st (l : List Nat) (t : Tree)
  | mv (i : Nat) (t : Tree)
  | fork (i : Nat) (a : Tree) (j : Nat) (b : Tree)
def Tree.len : Tree → Nat
  | .done => 0
  | .pu l t => l.length + t.len
  | .st l t => l.length + t.len
  | .mv _ t => t.len + 1
  | .fork _ a _ _ => a.len + 1
def treeOk (md : Region.Mode) (ops : Array Oper) : Tree → Array Bool → Bool
  | .done, listed => (Region.ready md ops listed).isEmpty
  | .pu l t, listed => stOk md ops [] l listed && treeOk md ops t (marks l listed)
  | .st l t, listed => stOk md ops [] l listed && treeOk md ops t (marks l listed)
  | .mv i t, listed => (Region.ready md ops listed == [i]) && treeOk md ops t (listed.setIfInBounds i true)
  | .fork i a j b, listed => (Region.ready md ops listed == [i, j]) && (a.len == b.len) && treeOk md ops a (listed.setIfInBounds i true) && treeOk md ops b (listed.setIfInBounds j true)
/-- What a tree asks. -/
def wpTree (P : Program) (l : List Oper) (S : World → Prop) (Q : Exit → Act → World → Prop) : Tree → Act → World → Prop
  | .done, a, w => Q .normal a w
  | .pu is t, a, w => wpYield P l.toArray (fun _ => True) (fun a' => wpTree P l S Q t a' w) (pick l is) a
  | .st is t, a, w => wpYield P l.toArray S (fun a' => wpTree P l S Q t a' w) (pick l is) a
  | .mv i t, a, w => wpList P l.toArray (fun e a' w' => e = .normal ∧ S w' ∧ wpTree P l S Q t a' w') (pick l [i]) a w
  | .fork i s j t, a, w => wpList P l.toArray (fun e a' w' => e = .normal ∧ S w' ∧ wpTree P l S Q s a' w') (pick l [i]) a w ∧ wpList P l.toArray (fun e a' w' => e = .normal ∧ S w' ∧ wpTree P l S Q t a' w') (pick l [j]) a w

section
variable {P : Program} {l : List Oper} {S : World → Prop} {Q : Exit → Act → World → Prop} {md : Region.Mode}
theorem tree_sound (hs : Region.noSelect l.toArray = true) : ∀ (t : Tree) (listed : Array Bool) (a : Act) (w : World), Closed md l.toArray listed → treeOk md l.toArray t listed = true → S w →
    wpTree P l S Q t a w → wpAnyX P md l.toArray (Calm Q) S [] t.len listed a w
  | .done, listed, a, w, _, hB, _, h => ⟨by simpa [treeOk] using hB, h⟩
  | .pu is t, listed, a, w, hc, hB, hS, h => by
    simp only [treeOk, Bool.and_eq_true] at hB
    exact pu_sound hs t.len is listed a hc hB.1 (fun a' hc' hr => tree_sound hs t _ a' w hc' hB.2 hS hr) h
  | .st is t, listed, a, w, hc, hB, hS, h => by
    simp only [treeOk, Bool.and_eq_true] at hB
    exact st_sound hs hS t.len is listed a hc hB.1 (fun a' hc' hr => tree_sound hs t _ a' w hc' hB.2 hS hr) h
  | .mv i t, listed, a, w, hc, hB, hS, h => by
    simp only [treeOk, Bool.and_eq_true, beq_iff_eq] at hB
    obtain ⟨h1, h2⟩ := hB
    have hr' : i ∈ Region.ready md l.toArray listed := by rw [h1]; simp
    obtain ⟨o, ho⟩ := getD_size hr'
    unfold wpTree at h
    simp only [pick, pick_one ho, List.append_nil] at h
    refine ⟨fun h0 => (by rw [h1] at h0; cases h0), fun j hj => ?_⟩
    rw [h1] at hj
    obtain rfl : j = i := by simpa using hj
    refine wpOp_mono (fun a' w' hh => ?_) (wpOp_of_one ho h)
    obtain ⟨_, hS', hn⟩ := hh
    exact ⟨fun _ _ => hS', tree_sound hs t _ a' w' (closed_set hc hr') h2 hS' hn⟩
  | .fork i s j t, listed, a, w, hc, hB, hS, h => by
    simp only [treeOk, Bool.and_eq_true, beq_iff_eq] at hB
    obtain ⟨⟨⟨h1, hlen⟩, h2⟩, h3⟩ := hB
    have hri : i ∈ Region.ready md l.toArray listed := by rw [h1]; simp
    have hrj : j ∈ Region.ready md l.toArray listed := by rw [h1]; simp
    obtain ⟨o, ho⟩ := getD_size hri
    obtain ⟨o2, ho2⟩ := getD_size hrj
    unfold wpTree at h
    simp only [pick, pick_one ho, pick_one ho2, List.append_nil] at h
    refine ⟨fun h0 => (by rw [h1] at h0; cases h0), fun k hk => ?_⟩
    rw [h1] at hk
    have hk' : k = i ∨ k = j := by simpa using hk
    rcases hk' with rfl | rfl
    · refine wpOp_mono (fun a' w' hh => ?_) (wpOp_of_one ho h.1)
      obtain ⟨_, hS', hn⟩ := hh
      exact ⟨fun _ _ => hS', tree_sound hs s _ a' w' (closed_set hc hri) h2 hS' hn⟩
    · refine wpOp_mono (fun a' w' hh => ?_) (wpOp_of_one ho2 h.2)
      obtain ⟨_, hS', hn⟩ := hh
      refine ⟨fun _ _ => hS', ?_⟩
      have := tree_sound hs t _ a' w' (closed_set hc hrj) h3 hS' hn
      rw [← hlen] at this
      exact this

theorem region_tree {id : Nat} {a : Act} {w : World} (S : World → Prop) (t : Tree) (hm : P.follows .mixedOrders = true)
    (hB : (Region.noSelect l.toArray && treeOk .any l.toArray t (Array.replicate l.toArray.size false) && (t.len == l.toArray.size)) = true) (hS : S w.drew) (h : wpTree P l S Q t a w.drew) : (Code.region id l.toArray true).wp P Q a w := by
  simp only [Bool.and_eq_true, beq_iff_eq] at hB
  obtain ⟨⟨hs, hp⟩, hn⟩ := hB
  refine Code.wp_mono (Q := Calm Q) (fun e a w q => by cases e <;> first | exact q | exact q.elim) ?_
  refine wp_region_any hm (wpAny_of_X (S := S) (ex := []) _ _ _ _ ?_)
  have := tree_sound (md := .any) (P := P) (S := S) (Q := Q) hs t (Array.replicate l.toArray.size false) a w.drew
    (fun j oj _ hl => by rw [getD_replicate_false] at hl; cases hl) hp hS h
  rw [hn] at this
  exact this
theorem tree_done {a : Act} {w : World} (h : Q .normal a w) : wpTree P l S Q .done a w := h
theorem tree_st {is : List Nat} {t : Tree} {a : Act} {w : World} (h : ∀ K : Act → Prop, (∀ a', wpTree P l S Q t a' w → K a') → wpYield P l.toArray S K (pick l is) a) : wpTree P l S Q (.st is t) a w := h _ (fun _ h => h)
theorem tree_pu {is : List Nat} {t : Tree} {a : Act} {w : World} (h : ∀ K : Act → Prop, (∀ a', wpTree P l S Q t a' w → K a') → wpYield P l.toArray (fun _ => True) K (pick l is) a) : wpTree P l S Q (.pu is t) a w := h _ (fun _ h => h)
theorem tree_mv {i : Nat} {t : Tree} {a : Act} {w : World} (h : ∀ K : Act → World → Prop, (∀ a' w', S w' → wpTree P l S Q t a' w' → K a' w') → wpList P l.toArray (fun e a' w' => e = .normal ∧ K a' w') (pick l [i]) a w) : wpTree P l S Q (.mv i t) a w :=
  h (fun a' w' => S w' ∧ wpTree P l S Q t a' w') (fun _ _ h1 h2 => ⟨h1, h2⟩)
theorem tree_fork {i j : Nat} {s t : Tree} {a : Act} {w : World} (h1 : wpTree P l S Q (.mv i s) a w) (h2 : wpTree P l S Q (.mv j t) a w) : wpTree P l S Q (.fork i s j t) a w := ⟨h1, h2⟩
end
end Go.Proofs.Ytojnpaenpaobcaa
