/- Weigh. No condition. -/
import Derived.Test.YtojnpaenpaobcaaC6
namespace Go.Proofs.Ytojnpaenpaobcaa
open Go.RowKit

def weighE (p : Recipe) (counts : List Int) : Int := if checkE p != 0 then checkE p else if isChargeB p.lots counts then 0 else 3
def weighP (p : Recipe) (counts : List Int) : Pile := if weighE p counts = 0 then weighM p.lots counts else .zero
theorem isCharge_len {lots : List Lot} {counts : List Int} (h : isChargeB lots counts = true) : counts.length = lots.length := by
  simp [isChargeB] at h; exact h.2

set_option maxHeartbeats 1000000 in
theorem Weigh_c (p : Recipe) (counts : List Int) (a c : Option Addr) (cap cap' : Nat) (w : World) (hs : SlL w a cap p.lots) (hc : SlI w c cap' counts) :
    Calls Try.prog 16 #[.agg #[.slice a p.lots.length cap, .int .i64 p.mass.lo, .int .i64 p.mass.hi, .int .i64 p.target.a.lo, .int .i64 p.target.a.hi, .int .i64 p.target.b.lo, .int .i64 p.target.b.hi, .int .i64 p.target.c.lo, .int .i64 p.target.c.hi], .slice c counts.length cap'] w (Ret (.tuple #[.agg #[.int .i64 ((weighP p counts).mass), .int .i64 ((weighP p counts).con.a.lo), .int .i64 ((weighP p counts).con.a.hi), .int .i64 ((weighP p counts).con.b.lo), .int .i64 ((weighP p counts).con.b.hi), .int .i64 ((weighP p counts).con.c.lo), .int .i64 ((weighP p counts).con.c.hi)], .int .i64 (weighE p counts)]) w) := by
  have hle := hs.le; have hb := hs.big; have hle' := hc.le; have hb' := hc.big
  go_enter Try.func16, Try.ntmps16
  go_upto_region 1 with (fail)
  refine wp_at (fun W => Ext w W ∧ w.heap.size + 2 = W.heap.size ∧ W.heap[w.heap.size]? = some (.cells #[.slice a p.lots.length cap, .int .i64 p.mass.lo, .int .i64 p.mass.hi, .int .i64 p.target.a.lo, .int .i64 p.target.a.hi, .int .i64 p.target.b.lo, .int .i64 p.target.b.hi, .int .i64 p.target.c.lo, .int .i64 p.target.c.hi] 28 (0, 0)) ∧ W.heap[w.heap.size + 1]? = some (.cells #[.int .i64 0, .int .i64 0, .int .i64 0, .int .i64 0, .int .i64 0, .int .i64 0, .int .i64 0] 36 (0, 0))) ⟨by (repeat (with_reducible first | exact Ex.refl _ _ | assumption | refine Ex.alloc ?_ _ | refine Ex.drew ?_ | refine Ex.drewN ?_ _ | refine Ex.setCell ?_ (by first | (left; simp; done) | (right; simp; done) | (right; simp; omega)) _ | refine Ex.trans ?_ (by assumption))), by simp, blk_alloc (blk_new _ _), by have h := blk_new ((w).alloc (.cells #[.slice a p.lots.length cap, .int .i64 p.mass.lo, .int .i64 p.mass.hi, .int .i64 p.target.a.lo, .int .i64 p.target.a.hi, .int .i64 p.target.b.lo, .int .i64 p.target.b.hi, .int .i64 p.target.c.lo, .int .i64 p.target.c.hi] 28 (0, 0))) (.cells #[.int .i64 0, .int .i64 0, .int .i64 0, .int .i64 0, .int .i64 0, .int .i64 0, .int .i64 0] 36 (0, 0)); simpa using h⟩ (fun W hW => ?_)
  obtain ⟨hr0, hsz, hB0, hB1⟩ := hW
  have hr : Ex [] W W := Ex.refl _ _
  have f0_0 := cellE (S := []) hB0 (by simp) 0 rfl
  have f0_1 := cellE (S := []) hB0 (by simp) 1 rfl
  have f0_2 := cellE (S := []) hB0 (by simp) 2 rfl
  have f0_3 := cellE (S := []) hB0 (by simp) 3 rfl
  have f0_4 := cellE (S := []) hB0 (by simp) 4 rfl
  have f0_5 := cellE (S := []) hB0 (by simp) 5 rfl
  have f0_6 := cellE (S := []) hB0 (by simp) 6 rfl
  have f0_7 := cellE (S := []) hB0 (by simp) 7 rfl
  have f0_8 := cellE (S := []) hB0 (by simp) 8 rfl
  have f1_0 := cellE (S := []) hB1 (by simp) 0 rfl
  have f1_1 := cellE (S := []) hB1 (by simp) 1 rfl
  have f1_2 := cellE (S := []) hB1 (by simp) 2 rfl
  have f1_3 := cellE (S := []) hB1 (by simp) 3 rfl
  have f1_4 := cellE (S := []) hB1 (by simp) 4 rfl
  have f1_5 := cellE (S := []) hB1 (by simp) 5 rfl
  have f1_6 := cellE (S := []) hB1 (by simp) 6 rfl
  have z1_0 := freeE (S := []) hB1 (by simp) 0
  have z1_1 := freeE (S := []) hB1 (by simp) 1
  have z1_2 := freeE (S := []) hB1 (by simp) 2
  have z1_3 := freeE (S := []) hB1 (by simp) 3
  have z1_4 := freeE (S := []) hB1 (by simp) 4
  have z1_5 := freeE (S := []) hB1 (by simp) 5
  have z1_6 := freeE (S := []) hB1 (by simp) 6
  clear hB0
  have hsz' := Nat.le_of_eq hsz.symm; have hsz'' := Nat.le_of_eq hsz; clear hsz
  have hB1' := Lib.hid hB1; clear hB1
  cases hb0 : checkE p != 0
  case false =>
    cases hb1 : isChargeB p.lots counts
    case false =>
      go_wp2_with (first | (go_at_call 15; refine (check_c p _ _ _ (hs.ext hr0)).mono ?_; rintro e w1 ⟨rfl, h1⟩; replace h1 : Ex [] W w1 := Ex.trans (by first | (with_reducible assumption) | (repeat (with_reducible first | exact Ex.refl _ _ | assumption | refine Ex.alloc ?_ _ | refine Ex.drew ?_ | refine Ex.drewN ?_ _ | refine Ex.setCell ?_ (by first | (left; simp; done) | (right; simp; done) | (right; simp; omega)) _ | refine Ex.trans ?_ (by assumption)))) (h1.ex _)) | (go_at_call 56; refine (isCharge_c p counts _ _ _ _ _ (hs.ext (Ex.trans hr0 (by assumption))) (hc.ext (Ex.trans hr0 (by assumption)))).mono ?_; rintro e w1 ⟨rfl, h1⟩; replace h1 : Ex [] W w1 := Ex.trans (by first | (with_reducible assumption) | (repeat (with_reducible first | exact Ex.refl _ _ | assumption | refine Ex.alloc ?_ _ | refine Ex.drew ?_ | refine Ex.drewN ?_ _ | refine Ex.setCell ?_ (by first | (left; simp; done) | (right; simp; done) | (right; simp; omega)) _ | refine Ex.trans ?_ (by assumption)))) (h1.ex _)) | (go_at_call 57; refine (weigh_c p counts _ _ _ _ _ (hs.ext (Ex.trans hr0 (by assumption))) (hc.ext (Ex.trans hr0 (by assumption))) (Nat.le_of_eq (isCharge_len (by assumption)))).mono ?_; rintro e w1 ⟨rfl, h1⟩; replace h1 : Ex [] W w1 := Ex.trans (by first | (with_reducible assumption) | (repeat (with_reducible first | exact Ex.refl _ _ | assumption | refine Ex.alloc ?_ _ | refine Ex.drew ?_ | refine Ex.drewN ?_ _ | refine Ex.setCell ?_ (by first | (left; simp; done) | (right; simp; done) | (right; simp; omega)) _ | refine Ex.trans ?_ (by assumption)))) (h1.ex _)))
      (try simp only [Exit.inBlock, Exit.then])
      refine ret_at (fun X => Ext w X ∧ X.heap[w.heap.size + 1]? = some (.cells #[.int .i64 ((weighP p counts).mass), .int .i64 ((weighP p counts).con.a.lo), .int .i64 ((weighP p counts).con.a.hi), .int .i64 ((weighP p counts).con.b.lo), .int .i64 ((weighP p counts).con.b.hi), .int .i64 ((weighP p counts).con.c.lo), .int .i64 ((weighP p counts).con.c.hi)] 36 (0, 0))) ⟨by (repeat (with_reducible first | exact Ex.refl _ _ | assumption | exact Ex.trans hr0 (by assumption) | refine Ex.alloc ?_ _ | refine Ex.drew ?_ | refine Ex.drewN ?_ _ | refine Ex.setCell ?_ (by first | (left; simp; done) | (right; simp; done) | (right; simp; omega)) _ | refine Ex.trans ?_ (by assumption))), ?_⟩ (fun X hX => ?_)
      · refine blk_to (blk_set (blk_set (blk_set (blk_set (blk_set (blk_set (blk_set (Ex.heap (by assumption) (by simp) hB1'.out) 0 _) 1 _) 2 _) 3 _) 4 _) 5 _) 6 _) ?_
        first | (simp only [weighP, weighE, hb0, hb1]; simp [Pile.zero, Bnds.zero, Rng.zero]; done) | ((have hq : ¬ checkE p = 0 := (by simpa using hb0)); simp [weighP, weighE, hq, Pile.zero, Bnds.zero, Rng.zero])
      obtain ⟨hX1, hX2⟩ := hX
      have x0 := blk_cell (v := .int .i64 ((weighP p counts).mass)) hX2 0 rfl
      have x1 := blk_cell (v := .int .i64 ((weighP p counts).con.a.lo)) hX2 1 rfl
      have x2 := blk_cell (v := .int .i64 ((weighP p counts).con.a.hi)) hX2 2 rfl
      have x3 := blk_cell (v := .int .i64 ((weighP p counts).con.b.lo)) hX2 3 rfl
      have x4 := blk_cell (v := .int .i64 ((weighP p counts).con.b.hi)) hX2 4 rfl
      have x5 := blk_cell (v := .int .i64 ((weighP p counts).con.c.lo)) hX2 5 rfl
      have x6 := blk_cell (v := .int .i64 ((weighP p counts).con.c.hi)) hX2 6 rfl
      refine bodyPost_ret (v := .tuple #[.agg #[.int .i64 ((weighP p counts).mass), .int .i64 ((weighP p counts).con.a.lo), .int .i64 ((weighP p counts).con.a.hi), .int .i64 ((weighP p counts).con.b.lo), .int .i64 ((weighP p counts).con.b.hi), .int .i64 ((weighP p counts).con.c.lo), .int .i64 ((weighP p counts).con.c.hi)], .int .i64 (weighE p counts)]) (by simp [results, Try.results16, go_sem, x0, x1, x2, x3, x4, x5, x6]; try simp only [weighE, hb0, hb1, ↓reduceIte, Bool.false_eq_true]) rfl ⟨rfl, hX1⟩
    case true =>
      go_wp2_with (first | (go_at_call 15; refine (check_c p _ _ _ (hs.ext hr0)).mono ?_; rintro e w1 ⟨rfl, h1⟩; replace h1 : Ex [] W w1 := Ex.trans (by first | (with_reducible assumption) | (repeat (with_reducible first | exact Ex.refl _ _ | assumption | refine Ex.alloc ?_ _ | refine Ex.drew ?_ | refine Ex.drewN ?_ _ | refine Ex.setCell ?_ (by first | (left; simp; done) | (right; simp; done) | (right; simp; omega)) _ | refine Ex.trans ?_ (by assumption)))) (h1.ex _)) | (go_at_call 56; refine (isCharge_c p counts _ _ _ _ _ (hs.ext (Ex.trans hr0 (by assumption))) (hc.ext (Ex.trans hr0 (by assumption)))).mono ?_; rintro e w1 ⟨rfl, h1⟩; replace h1 : Ex [] W w1 := Ex.trans (by first | (with_reducible assumption) | (repeat (with_reducible first | exact Ex.refl _ _ | assumption | refine Ex.alloc ?_ _ | refine Ex.drew ?_ | refine Ex.drewN ?_ _ | refine Ex.setCell ?_ (by first | (left; simp; done) | (right; simp; done) | (right; simp; omega)) _ | refine Ex.trans ?_ (by assumption)))) (h1.ex _)) | (go_at_call 57; refine (weigh_c p counts _ _ _ _ _ (hs.ext (Ex.trans hr0 (by assumption))) (hc.ext (Ex.trans hr0 (by assumption))) (Nat.le_of_eq (isCharge_len (by assumption)))).mono ?_; rintro e w1 ⟨rfl, h1⟩; replace h1 : Ex [] W w1 := Ex.trans (by first | (with_reducible assumption) | (repeat (with_reducible first | exact Ex.refl _ _ | assumption | refine Ex.alloc ?_ _ | refine Ex.drew ?_ | refine Ex.drewN ?_ _ | refine Ex.setCell ?_ (by first | (left; simp; done) | (right; simp; done) | (right; simp; omega)) _ | refine Ex.trans ?_ (by assumption)))) (h1.ex _)))
      (try simp only [Exit.inBlock, Exit.then])
      refine ret_at (fun X => Ext w X ∧ X.heap[w.heap.size + 1]? = some (.cells #[.int .i64 ((weighP p counts).mass), .int .i64 ((weighP p counts).con.a.lo), .int .i64 ((weighP p counts).con.a.hi), .int .i64 ((weighP p counts).con.b.lo), .int .i64 ((weighP p counts).con.b.hi), .int .i64 ((weighP p counts).con.c.lo), .int .i64 ((weighP p counts).con.c.hi)] 36 (0, 0))) ⟨by (repeat (with_reducible first | exact Ex.refl _ _ | assumption | exact Ex.trans hr0 (by assumption) | refine Ex.alloc ?_ _ | refine Ex.drew ?_ | refine Ex.drewN ?_ _ | refine Ex.setCell ?_ (by first | (left; simp; done) | (right; simp; done) | (right; simp; omega)) _ | refine Ex.trans ?_ (by assumption))), ?_⟩ (fun X hX => ?_)
      · refine blk_to (blk_set (blk_set (blk_set (blk_set (blk_set (blk_set (blk_set (Ex.heap (by assumption) (by simp) hB1'.out) 0 _) 1 _) 2 _) 3 _) 4 _) 5 _) 6 _) ?_
        first | (simp only [weighP, weighE, hb0, hb1]; simp [Pile.zero, Bnds.zero, Rng.zero]; done) | ((have hq : ¬ checkE p = 0 := (by simpa using hb0)); simp [weighP, weighE, hq, Pile.zero, Bnds.zero, Rng.zero])
      obtain ⟨hX1, hX2⟩ := hX
      have x0 := blk_cell (v := .int .i64 ((weighP p counts).mass)) hX2 0 rfl
      have x1 := blk_cell (v := .int .i64 ((weighP p counts).con.a.lo)) hX2 1 rfl
      have x2 := blk_cell (v := .int .i64 ((weighP p counts).con.a.hi)) hX2 2 rfl
      have x3 := blk_cell (v := .int .i64 ((weighP p counts).con.b.lo)) hX2 3 rfl
      have x4 := blk_cell (v := .int .i64 ((weighP p counts).con.b.hi)) hX2 4 rfl
      have x5 := blk_cell (v := .int .i64 ((weighP p counts).con.c.lo)) hX2 5 rfl
      have x6 := blk_cell (v := .int .i64 ((weighP p counts).con.c.hi)) hX2 6 rfl
      refine bodyPost_ret (v := .tuple #[.agg #[.int .i64 ((weighP p counts).mass), .int .i64 ((weighP p counts).con.a.lo), .int .i64 ((weighP p counts).con.a.hi), .int .i64 ((weighP p counts).con.b.lo), .int .i64 ((weighP p counts).con.b.hi), .int .i64 ((weighP p counts).con.c.lo), .int .i64 ((weighP p counts).con.c.hi)], .int .i64 (weighE p counts)]) (by simp [results, Try.results16, go_sem, x0, x1, x2, x3, x4, x5, x6]; try simp only [weighE, hb0, hb1, ↓reduceIte, Bool.false_eq_true]) rfl ⟨rfl, hX1⟩
  case true =>
    go_wp2_with (first | (go_at_call 15; refine (check_c p _ _ _ (hs.ext hr0)).mono ?_; rintro e w1 ⟨rfl, h1⟩; replace h1 : Ex [] W w1 := Ex.trans (by first | (with_reducible assumption) | (repeat (with_reducible first | exact Ex.refl _ _ | assumption | refine Ex.alloc ?_ _ | refine Ex.drew ?_ | refine Ex.drewN ?_ _ | refine Ex.setCell ?_ (by first | (left; simp; done) | (right; simp; done) | (right; simp; omega)) _ | refine Ex.trans ?_ (by assumption)))) (h1.ex _)) | (go_at_call 56; refine (isCharge_c p counts _ _ _ _ _ (hs.ext (Ex.trans hr0 (by assumption))) (hc.ext (Ex.trans hr0 (by assumption)))).mono ?_; rintro e w1 ⟨rfl, h1⟩; replace h1 : Ex [] W w1 := Ex.trans (by first | (with_reducible assumption) | (repeat (with_reducible first | exact Ex.refl _ _ | assumption | refine Ex.alloc ?_ _ | refine Ex.drew ?_ | refine Ex.drewN ?_ _ | refine Ex.setCell ?_ (by first | (left; simp; done) | (right; simp; done) | (right; simp; omega)) _ | refine Ex.trans ?_ (by assumption)))) (h1.ex _)) | (go_at_call 57; refine (weigh_c p counts _ _ _ _ _ (hs.ext (Ex.trans hr0 (by assumption))) (hc.ext (Ex.trans hr0 (by assumption))) (Nat.le_of_eq (isCharge_len (by assumption)))).mono ?_; rintro e w1 ⟨rfl, h1⟩; replace h1 : Ex [] W w1 := Ex.trans (by first | (with_reducible assumption) | (repeat (with_reducible first | exact Ex.refl _ _ | assumption | refine Ex.alloc ?_ _ | refine Ex.drew ?_ | refine Ex.drewN ?_ _ | refine Ex.setCell ?_ (by first | (left; simp; done) | (right; simp; done) | (right; simp; omega)) _ | refine Ex.trans ?_ (by assumption)))) (h1.ex _)))
    (try simp only [Exit.inBlock, Exit.then])
    refine ret_at (fun X => Ext w X ∧ X.heap[w.heap.size + 1]? = some (.cells #[.int .i64 ((weighP p counts).mass), .int .i64 ((weighP p counts).con.a.lo), .int .i64 ((weighP p counts).con.a.hi), .int .i64 ((weighP p counts).con.b.lo), .int .i64 ((weighP p counts).con.b.hi), .int .i64 ((weighP p counts).con.c.lo), .int .i64 ((weighP p counts).con.c.hi)] 36 (0, 0))) ⟨by (repeat (with_reducible first | exact Ex.refl _ _ | assumption | exact Ex.trans hr0 (by assumption) | refine Ex.alloc ?_ _ | refine Ex.drew ?_ | refine Ex.drewN ?_ _ | refine Ex.setCell ?_ (by first | (left; simp; done) | (right; simp; done) | (right; simp; omega)) _ | refine Ex.trans ?_ (by assumption))), ?_⟩ (fun X hX => ?_)
    · refine blk_to (blk_set (blk_set (blk_set (blk_set (blk_set (blk_set (blk_set (Ex.heap (by assumption) (by simp) hB1'.out) 0 _) 1 _) 2 _) 3 _) 4 _) 5 _) 6 _) ?_
      first | (simp only [weighP, weighE, hb0]; simp [Pile.zero, Bnds.zero, Rng.zero]; done) | ((have hq : ¬ checkE p = 0 := (by simpa using hb0)); simp [weighP, weighE, hq, Pile.zero, Bnds.zero, Rng.zero])
    obtain ⟨hX1, hX2⟩ := hX
    have x0 := blk_cell (v := .int .i64 ((weighP p counts).mass)) hX2 0 rfl
    have x1 := blk_cell (v := .int .i64 ((weighP p counts).con.a.lo)) hX2 1 rfl
    have x2 := blk_cell (v := .int .i64 ((weighP p counts).con.a.hi)) hX2 2 rfl
    have x3 := blk_cell (v := .int .i64 ((weighP p counts).con.b.lo)) hX2 3 rfl
    have x4 := blk_cell (v := .int .i64 ((weighP p counts).con.b.hi)) hX2 4 rfl
    have x5 := blk_cell (v := .int .i64 ((weighP p counts).con.c.lo)) hX2 5 rfl
    have x6 := blk_cell (v := .int .i64 ((weighP p counts).con.c.hi)) hX2 6 rfl
    refine bodyPost_ret (v := .tuple #[.agg #[.int .i64 ((weighP p counts).mass), .int .i64 ((weighP p counts).con.a.lo), .int .i64 ((weighP p counts).con.a.hi), .int .i64 ((weighP p counts).con.b.lo), .int .i64 ((weighP p counts).con.b.hi), .int .i64 ((weighP p counts).con.c.lo), .int .i64 ((weighP p counts).con.c.hi)], .int .i64 (weighE p counts)]) (by simp [results, Try.results16, go_sem, x0, x1, x2, x3, x4, x5, x6]; try simp only [weighE, hb0, ↓reduceIte, Bool.false_eq_true]) rfl ⟨rfl, hX1⟩
end Go.Proofs.Ytojnpaenpaobcaa
