/- The examples of the document: the kernel runs them. -/
import Derived.Test.YtbnapejkjaddoaaDoorWPL10
namespace Go.Proofs.YtbnapejkjaddoaaDoor
open Go.RowKit Go.Proofs
set_option maxRecDepth 100000
noncomputable section
theorem memo97 : MemoOk Tryd.prog (87, [.string ⟨#[97]⟩], .bool true) := memo_run progMixed (Fu := 1000) (d := 50) plansOk noSums_ok (by kernel_rfl) (by kernel_rfl) (by kernel_rfl)
theorem memo98 : MemoOk Tryd.prog (87, [.string ⟨#[98]⟩], .bool true) := memo_run progMixed (Fu := 1000) (d := 50) plansOk noSums_ok (by kernel_rfl) (by kernel_rfl) (by kernel_rfl)
theorem memo99 : MemoOk Tryd.prog (87, [.string ⟨#[99]⟩], .bool true) := memo_run progMixed (Fu := 1000) (d := 50) plansOk noSums_ok (by kernel_rfl) (by kernel_rfl) (by kernel_rfl)
theorem memo100 : MemoOk Tryd.prog (87, [.string ⟨#[100]⟩], .bool true) := memo_run progMixed (Fu := 1000) (d := 50) plansOk noSums_ok (by kernel_rfl) (by kernel_rfl) (by kernel_rfl)
theorem memo101 : MemoOk Tryd.prog (87, [.string ⟨#[101]⟩], .bool true) := memo_run progMixed (Fu := 1000) (d := 50) plansOk noSums_ok (by kernel_rfl) (by kernel_rfl) (by kernel_rfl)
theorem memo102 : MemoOk Tryd.prog (87, [.string ⟨#[102]⟩], .bool true) := memo_run progMixed (Fu := 1000) (d := 50) plansOk noSums_ok (by kernel_rfl) (by kernel_rfl) (by kernel_rfl)
def memo : Memo := [(87, [.string ⟨#[97]⟩], .bool true), (87, [.string ⟨#[98]⟩], .bool true), (87, [.string ⟨#[99]⟩], .bool true), (87, [.string ⟨#[100]⟩], .bool true), (87, [.string ⟨#[101]⟩], .bool true), (87, [.string ⟨#[102]⟩], .bool true)]
theorem memo_ok : ∀ e ∈ memo, MemoOk Tryd.prog e := by
  intro e he
  simp only [memo, List.mem_cons, List.mem_nil_iff, or_false] at he
  rcases he with rfl | rfl | rfl | rfl | rfl | rfl
  · exact memo97
  · exact memo98
  · exact memo99
  · exact memo100
  · exact memo101
  · exact memo102
theorem known_memo : MemoOk Tryd.prog (16, [], .bool true) := memo_run progMixed (Fu := 1000) (d := 50) plansOk (memoOf_ok memo_ok) (by kernel_rfl) (by kernel_rfl) (by kernel_rfl)
def known_S (_ : Nat) : Option Bool := some true
def known_E (F : Nat) : Ent := ⟨16, 0, ⟨[], []⟩, ⟨.one (.c (.t .bool)), []⟩, fun _ => known_S F⟩
theorem known_ok (F : Nat) : FnSem Tryd.prog 16 0 ⟨[], []⟩ ⟨.one (.c (.t .bool)), []⟩ (fun _ => known_S F) := by
  intro s t hst S F' W0 ι w vs hlen hden hh hcl
  obtain rfl := List.eq_nil_of_length_eq_zero hlen
  cases hst
  refine (known_memo.2 w hcl).mono ?_
  rintro e w' ⟨rfl, hb⟩
  exact ⟨ι, _, rfl, PreM.refl _ _, ⟨rfl, rfl⟩, hh.ext' hb, Nat.le_refl _⟩
def tab0 (F : Nat) : List Ent := [known_E F, trim_E F]
theorem tab0_ok (F : Nat) : EntsOk Tryd.prog (tab0 F) := ⟨⟨by kernel_rfl, known_ok F⟩, ⟨by kernel_rfl, trim_ok F⟩, trivial⟩
end
end Go.Proofs.YtbnapejkjaddoaaDoor
