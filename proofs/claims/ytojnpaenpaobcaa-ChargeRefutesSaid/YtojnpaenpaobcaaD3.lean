/- The reference: Weigh. No condition. -/
import Derived.Test.YtojnpaenpaobcaaV
import Derived.Test.YtojnpaenpaobcaaProg
import Derived.Test.YtojnpaenpaobcaaD2
import Derived.Test.YtojnpaenpaobcaaC6
import Derived.Test.YtojnpaenpaobcaaB3
namespace Go.Proofs.Ytojnpaenpaobcaa
open Go.RowKit
def dWeigh_l3 (F : Nat) (lots : List Lot) (l : List Int) : Nat → Int → Pile → Option (Pile)
  | 0, _, _ => none
  | fuel3 + 1, t6, x2 => bif decide (t6 < (l.length : Int)) then (bif inB t6 l.length then (bif inB t6 lots.length then (dWeigh_l3 F lots l fuel3 (IntKind.i64.wrap (t6 + (1 : Int))) (⟨IntKind.i64.wrap (x2.mass + (IntKind.i64.wrap ((nth l 0 t6.toNat) * ((nth lots Lot.zero t6.toNat).mass)))), (⟨(⟨IntKind.i64.wrap (x2.con.a.lo + (IntKind.i64.wrap ((nth l 0 t6.toNat) * ((((nth lots Lot.zero t6.toNat).con).a).lo)))), IntKind.i64.wrap (x2.con.a.hi + (IntKind.i64.wrap ((nth l 0 t6.toNat) * ((((nth lots Lot.zero t6.toNat).con).a).hi))))⟩ : Rng), (⟨IntKind.i64.wrap (x2.con.b.lo + (IntKind.i64.wrap ((nth l 0 t6.toNat) * ((((nth lots Lot.zero t6.toNat).con).b).lo)))), IntKind.i64.wrap (x2.con.b.hi + (IntKind.i64.wrap ((nth l 0 t6.toNat) * ((((nth lots Lot.zero t6.toNat).con).b).hi))))⟩ : Rng), (⟨IntKind.i64.wrap (x2.con.c.lo + (IntKind.i64.wrap ((nth l 0 t6.toNat) * ((((nth lots Lot.zero t6.toNat).con).c).lo)))), IntKind.i64.wrap (x2.con.c.hi + (IntKind.i64.wrap ((nth l 0 t6.toNat) * ((((nth lots Lot.zero t6.toNat).con).c).hi))))⟩ : Rng)⟩ : Bnds)⟩ : Pile)) else none) else none) else (some x2)
def dWeigh_S (F : Nat) (lots : List Lot) (l : List Int) : Option (Pile) := ((dWeigh_l3 F lots l F (0 : Int) (⟨0, (⟨(⟨0, 0⟩ : Rng), (⟨0, 0⟩ : Rng), (⟨0, 0⟩ : Rng)⟩ : Bnds)⟩ : Pile))).bind (fun z1 => some z1)
set_option maxRecDepth 100000 in
set_option maxHeartbeats 4000000 in
theorem dWeigh_w (F : Nat) (lots : List Lot) (l : List Int) (a1 : Option Addr) (c1 : Nat) (a2 : Option Addr) (c2 : Nat) (w : World) (hs1 : Sl 9 Lot.cells w a1 c1 lots) (hs2 : Sl 1 intCells w a2 c2 l) (v : Pile) (h : dWeigh_S F lots l = some v) :
    Calls Try.prog 21 #[.slice a1 lots.length c1, .slice a2 l.length c2] w (Ret (.agg #[.int .i64 v.mass, .int .i64 v.con.a.lo, .int .i64 v.con.a.hi, .int .i64 v.con.b.lo, .int .i64 v.con.b.hi, .int .i64 v.con.c.lo, .int .i64 v.con.c.hi]) w) := by
  rw [dWeigh_S] at h
  refine At.enter Try.func21 rfl 78 [(0, .slice a1 lots.length c1), (1, .slice a2 l.length c2)] ([.sl a2 1 l.length (fun i_ => intCells (nth l 0 i_)), .sl a1 9 lots.length (fun i_ => Lot.cells (nth lots Lot.zero i_))]) [] (by kernel_rfl) ⟨rfl, rfl, trivial⟩ (Rep.sub (Rep.sl (Rep.sl (Rep.start w) Lot.zero hs1 (by simp [Ent.mut])) 0 hs2 (by simp [Ent.mut])) (by simp)) ?_
  refine At.seq ?_
  refine At.run [] [0, 1, 4] [true, true, true] (.normal) (fun B3 => [(0, .slice a1 lots.length c1), (1, .slice a2 l.length c2), (4, .pointer (some ⟨B3, 0, none⟩))]) (fun B3 => [.sl a2 1 l.length (fun i_ => intCells (nth l 0 i_)), .sl a1 9 lots.length (fun i_ => Lot.cells (nth lots Lot.zero i_)), .blk B3 [.int .i64 0, .int .i64 0, .int .i64 0, .int .i64 0, .int .i64 0, .int .i64 0, .int .i64 0] 36]) (fun B3 => []) (fun B3 => []) (fun B3 => by as_aux_lemma => kernel_rfl) (fun B3 => trivial) (fun B3 => ?_)
  refine Ends.seq ?_
  refine At.seq ?_
  refine At.run [(3, 0, 0), (3, 1, 0), (3, 2, 0), (3, 3, 0), (3, 4, 0), (3, 5, 0), (3, 6, 0)] [0, 1, 4, 5] [true, true, true, true] (.normal) (fun B6 => [(0, .slice a1 lots.length c1), (1, .slice a2 l.length c2), (4, .pointer (some ⟨B3, 0, none⟩)), (5, .pointer (some ⟨B6, 0, none⟩))]) (fun B6 => [.sl a2 1 l.length (fun i_ => intCells (nth l 0 i_)), .sl a1 9 lots.length (fun i_ => Lot.cells (nth lots Lot.zero i_)), .blk B3 [.int .i64 0, .int .i64 0, .int .i64 0, .int .i64 0, .int .i64 0, .int .i64 0, .int .i64 0] 36, .blk B6 [.int .i64 0, .int .i64 0, .int .i64 0, .int .i64 0, .int .i64 0, .int .i64 0, .int .i64 0] 36]) (fun B6 => [B6, 0, B6, 1, B6, 2, B6, 3, B6, 4, B6, 5, B6, 6]) (fun B6 => []) (fun B6 => by as_aux_lemma => kernel_rfl) (fun B6 => trivial) (fun B6 => ?_)
  refine Ends.seq ?_
  obtain ⟨o1, h, hr1⟩ := bd h
  refine At.seq_mid (σ := Pile) (fun s => o1 = s) (fun s => [(4, .pointer (some ⟨B3, 0, none⟩)), (5, .pointer (some ⟨B6, 0, none⟩))]) (fun s => [.blk B3 [.int .i64 0, .int .i64 0, .int .i64 0, .int .i64 0, .int .i64 0, .int .i64 0, .int .i64 0] 36, .blk B6 [.int .i64 s.mass, .int .i64 s.con.a.lo, .int .i64 s.con.a.hi, .int .i64 s.con.b.lo, .int .i64 s.con.b.hi, .int .i64 s.con.c.lo, .int .i64 s.con.c.hi] 36]) ?_ (fun s hI => ?_)
  · refine At.seq ?_
    refine At.runR [] [0, 1, 4, 5, 6] [true, true, true, true] (.normal) ([(0, .slice a1 lots.length c1), (1, .slice a2 l.length c2), (4, .pointer (some ⟨B3, 0, none⟩)), (5, .pointer (some ⟨B6, 0, none⟩)), (6, .int .i64 0)]) [] [] (fun _ => by as_aux_lemma => kernel_rfl) trivial ?_
    refine Ends.seq ?_
    refine At.block ?_
    refine At.loop (σ := Int × Pile) (fun n s => dWeigh_l3 F lots l n s.1 s.2 = some o1) (fun s => [(0, .slice a1 lots.length c1), (1, .slice a2 l.length c2), (4, .pointer (some ⟨B3, 0, none⟩)), (5, .pointer (some ⟨B6, 0, none⟩)), (6, .int .i64 s.1)]) (fun s => [.sl a2 1 l.length (fun i_ => intCells (nth l 0 i_)), .sl a1 9 lots.length (fun i_ => Lot.cells (nth lots Lot.zero i_)), .blk B3 [.int .i64 0, .int .i64 0, .int .i64 0, .int .i64 0, .int .i64 0, .int .i64 0, .int .i64 0] 36, .blk B6 [.int .i64 s.2.mass, .int .i64 s.2.con.a.lo, .int .i64 s.2.con.a.hi, .int .i64 s.2.con.b.lo, .int .i64 s.2.con.b.hi, .int .i64 s.2.con.c.lo, .int .i64 s.2.con.c.hi] 36]) F ((0 : Int), (⟨0, (⟨(⟨0, 0⟩ : Rng), (⟨0, 0⟩ : Rng), (⟨0, 0⟩ : Rng)⟩ : Bnds)⟩ : Pile)) h (by kernel_rfl) (by kernel_rfl) (fun n s hI => ?_)
    obtain ⟨t6, x2⟩ := s
    replace hI : dWeigh_l3 F lots l n t6 x2 = some o1 := hI
    rcases n with _ | fuel3
    · cases hI
    · rw [dWeigh_l3] at hI
      have h := hI
      clear hI
      refine At.seq ?_
      refine At.seq ?_
      refine At.runR [] [0, 1, 4, 5, 6, 12] [true, true, true, true] (.normal) ([(0, .slice a1 lots.length c1), (1, .slice a2 l.length c2), (4, .pointer (some ⟨B3, 0, none⟩)), (5, .pointer (some ⟨B6, 0, none⟩)), (6, .int .i64 t6), (12, .bool (decide (t6 < (l.length : Int))))]) [] [] (fun _ => by as_aux_lemma => kernel_rfl) trivial ?_
      refine Ends.seq ?_
      refine At.cond (decide (t6 < (l.length : Int))) (by kernel_rfl) (fun hc4 => ?_) (fun hc4 => ?_)
      · have h := br_t h hc4
        refine At.runR [] [0, 1, 4, 5, 6] [true, true, true, true] (.normal) ([(0, .slice a1 lots.length c1), (1, .slice a2 l.length c2), (4, .pointer (some ⟨B3, 0, none⟩)), (5, .pointer (some ⟨B6, 0, none⟩)), (6, .int .i64 t6)]) [] [] (fun _ => by as_aux_lemma => kernel_rfl) trivial ?_
        refine Ends.seq ?_
        obtain ⟨g5, h⟩ := gd h
        obtain ⟨g6, h⟩ := gd h
        refine At.run [(3, 0, 0), (0, 0, 0), (0, 0, t6.toNat), (1, 0, 0), (1, 1, t6.toNat), (3, 0, 0), (3, 1, 0), (0, 0, 0), (0, 0, t6.toNat), (1, 0, 0), (1, 2, t6.toNat), (3, 1, 0), (3, 2, 0), (0, 0, 0), (0, 0, t6.toNat), (1, 0, 0), (1, 3, t6.toNat), (3, 2, 0), (3, 3, 0), (0, 0, 0), (0, 0, t6.toNat), (1, 0, 0), (1, 4, t6.toNat), (3, 3, 0), (3, 4, 0), (0, 0, 0), (0, 0, t6.toNat), (1, 0, 0), (1, 5, t6.toNat), (3, 4, 0), (3, 5, 0), (0, 0, 0), (0, 0, t6.toNat), (1, 0, 0), (1, 6, t6.toNat), (3, 5, 0), (3, 6, 0), (0, 0, 0), (0, 0, t6.toNat), (1, 0, 0), (1, 7, t6.toNat), (3, 6, 0)] [0, 1, 4, 5, 6] [true, true, true, true] (.normal) (fun B24 => [(0, .slice a1 lots.length c1), (1, .slice a2 l.length c2), (4, .pointer (some ⟨B3, 0, none⟩)), (5, .pointer (some ⟨B6, 0, none⟩)), (6, .int .i64 (IntKind.i64.wrap (t6 + (1 : Int))))]) (fun B24 => [.sl a2 1 l.length (fun i_ => intCells (nth l 0 i_)), .sl a1 9 lots.length (fun i_ => Lot.cells (nth lots Lot.zero i_)), .blk B3 [.int .i64 0, .int .i64 0, .int .i64 0, .int .i64 0, .int .i64 0, .int .i64 0, .int .i64 0] 36, .blk B6 [.int .i64 (IntKind.i64.wrap (x2.mass + (IntKind.i64.wrap ((nth l 0 t6.toNat) * ((nth lots Lot.zero t6.toNat).mass))))), .int .i64 (IntKind.i64.wrap (x2.con.a.lo + (IntKind.i64.wrap ((nth l 0 t6.toNat) * ((((nth lots Lot.zero t6.toNat).con).a).lo))))), .int .i64 (IntKind.i64.wrap (x2.con.a.hi + (IntKind.i64.wrap ((nth l 0 t6.toNat) * ((((nth lots Lot.zero t6.toNat).con).a).hi))))), .int .i64 (IntKind.i64.wrap (x2.con.b.lo + (IntKind.i64.wrap ((nth l 0 t6.toNat) * ((((nth lots Lot.zero t6.toNat).con).b).lo))))), .int .i64 (IntKind.i64.wrap (x2.con.b.hi + (IntKind.i64.wrap ((nth l 0 t6.toNat) * ((((nth lots Lot.zero t6.toNat).con).b).hi))))), .int .i64 (IntKind.i64.wrap (x2.con.c.lo + (IntKind.i64.wrap ((nth l 0 t6.toNat) * ((((nth lots Lot.zero t6.toNat).con).c).lo))))), .int .i64 (IntKind.i64.wrap (x2.con.c.hi + (IntKind.i64.wrap ((nth l 0 t6.toNat) * ((((nth lots Lot.zero t6.toNat).con).c).hi)))))] 36]) (fun B24 => [B6, 0, slB a2, slO a2 + t6.toNat * 1 + 0, slB a1, slO a1 + t6.toNat * 9 + 1, B6, 0, B6, 1, slB a2, slO a2 + t6.toNat * 1 + 0, slB a1, slO a1 + t6.toNat * 9 + 2, B6, 1, B6, 2, slB a2, slO a2 + t6.toNat * 1 + 0, slB a1, slO a1 + t6.toNat * 9 + 3, B6, 2, B6, 3, slB a2, slO a2 + t6.toNat * 1 + 0, slB a1, slO a1 + t6.toNat * 9 + 4, B6, 3, B6, 4, slB a2, slO a2 + t6.toNat * 1 + 0, slB a1, slO a1 + t6.toNat * 9 + 5, B6, 4, B6, 5, slB a2, slO a2 + t6.toNat * 1 + 0, slB a1, slO a1 + t6.toNat * 9 + 6, B6, 5, B6, 6, slB a2, slO a2 + t6.toNat * 1 + 0, slB a1, slO a1 + t6.toNat * 9 + 7, B6, 6]) (fun B24 => [IdxOk a2 a2 l.length l.length t6, t6.toNat < l.length, IdxOk a1 a1 lots.length lots.length t6, t6.toNat < lots.length, IdxOk a2 a2 l.length l.length t6, t6.toNat < l.length, IdxOk a1 a1 lots.length lots.length t6, t6.toNat < lots.length, IdxOk a2 a2 l.length l.length t6, t6.toNat < l.length, IdxOk a1 a1 lots.length lots.length t6, t6.toNat < lots.length, IdxOk a2 a2 l.length l.length t6, t6.toNat < l.length, IdxOk a1 a1 lots.length lots.length t6, t6.toNat < lots.length, IdxOk a2 a2 l.length l.length t6, t6.toNat < l.length, IdxOk a1 a1 lots.length lots.length t6, t6.toNat < lots.length, IdxOk a2 a2 l.length l.length t6, t6.toNat < l.length, IdxOk a1 a1 lots.length lots.length t6, t6.toNat < lots.length, IdxOk a2 a2 l.length l.length t6, t6.toNat < l.length, IdxOk a1 a1 lots.length lots.length t6, t6.toNat < lots.length]) (fun B24 => by as_aux_lemma => kernel_rfl) (fun B24 => ⟨inB_idx g5, inB_lt g5, inB_idx g6, inB_lt g6, inB_idx g5, inB_lt g5, inB_idx g6, inB_lt g6, inB_idx g5, inB_lt g5, inB_idx g6, inB_lt g6, inB_idx g5, inB_lt g5, inB_idx g6, inB_lt g6, inB_idx g5, inB_lt g5, inB_idx g6, inB_lt g6, inB_idx g5, inB_lt g5, inB_idx g6, inB_lt g6, inB_idx g5, inB_lt g5, inB_idx g6, inB_lt g6, trivial⟩) (fun B24 => ?_)
        exact Ends.round fuel3 ((IntKind.i64.wrap (t6 + (1 : Int))), (⟨IntKind.i64.wrap (x2.mass + (IntKind.i64.wrap ((nth l 0 t6.toNat) * ((nth lots Lot.zero t6.toNat).mass)))), (⟨(⟨IntKind.i64.wrap (x2.con.a.lo + (IntKind.i64.wrap ((nth l 0 t6.toNat) * ((((nth lots Lot.zero t6.toNat).con).a).lo)))), IntKind.i64.wrap (x2.con.a.hi + (IntKind.i64.wrap ((nth l 0 t6.toNat) * ((((nth lots Lot.zero t6.toNat).con).a).hi))))⟩ : Rng), (⟨IntKind.i64.wrap (x2.con.b.lo + (IntKind.i64.wrap ((nth l 0 t6.toNat) * ((((nth lots Lot.zero t6.toNat).con).b).lo)))), IntKind.i64.wrap (x2.con.b.hi + (IntKind.i64.wrap ((nth l 0 t6.toNat) * ((((nth lots Lot.zero t6.toNat).con).b).hi))))⟩ : Rng), (⟨IntKind.i64.wrap (x2.con.c.lo + (IntKind.i64.wrap ((nth l 0 t6.toNat) * ((((nth lots Lot.zero t6.toNat).con).c).lo)))), IntKind.i64.wrap (x2.con.c.hi + (IntKind.i64.wrap ((nth l 0 t6.toNat) * ((((nth lots Lot.zero t6.toNat).con).c).hi))))⟩ : Rng)⟩ : Bnds)⟩ : Pile)) (Nat.lt_succ_self _) h (by kernel_rfl) (by kernel_rfl)
      · have h := br_f h hc4
        refine At.runR [] [4, 5] [true, true, true, true] (.exit 0) ([(4, .pointer (some ⟨B3, 0, none⟩)), (5, .pointer (some ⟨B6, 0, none⟩))]) [] [] (fun _ => by as_aux_lemma => kernel_rfl) trivial ?_
        refine Ends.then_exit ?_
        refine Ends.then_exit ?_
        refine Ends.block_hit ?_
        refine Ends.sel [4, 5] [2, 3] ([(4, .pointer (some ⟨B3, 0, none⟩)), (5, .pointer (some ⟨B6, 0, none⟩))]) ([.blk B3 [.int .i64 0, .int .i64 0, .int .i64 0, .int .i64 0, .int .i64 0, .int .i64 0, .int .i64 0] 36, .blk B6 [.int .i64 x2.mass, .int .i64 x2.con.a.lo, .int .i64 x2.con.a.hi, .int .i64 x2.con.b.lo, .int .i64 x2.con.b.hi, .int .i64 x2.con.c.lo, .int .i64 x2.con.c.hi] 36]) (by kernel_rfl) (by kernel_rfl) (by kernel_rfl) ?_
        exact Ends.mid x2 (Option.some.inj h).symm (by kernel_rfl) (by kernel_rfl)
  · revert hI; revert s; intro x hI
    replace hI : o1 = x := hI
    have h := hr1
    try rw [hI] at h
    refine At.run [(1, 0, 0), (1, 1, 0), (1, 2, 0), (1, 3, 0), (1, 4, 0), (1, 5, 0), (1, 6, 0), (0, 0, 0), (0, 1, 0), (0, 2, 0), (0, 3, 0), (0, 4, 0), (0, 5, 0), (0, 6, 0)] [4] [true, false] (.ret) (fun B9 => [(4, .pointer (some ⟨B3, 0, none⟩))]) (fun B9 => [.blk B3 [.int .i64 x.mass, .int .i64 x.con.a.lo, .int .i64 x.con.a.hi, .int .i64 x.con.b.lo, .int .i64 x.con.b.hi, .int .i64 x.con.c.lo, .int .i64 x.con.c.hi] 36]) (fun B9 => [B6, 0, B6, 1, B6, 2, B6, 3, B6, 4, B6, 5, B6, 6, B3, 0, B3, 1, B3, 2, B3, 3, B3, 4, B3, 5, B3, 6]) (fun B9 => []) (fun B9 => by as_aux_lemma => kernel_rfl) (fun B9 => trivial) (fun B9 => ?_)
    refine Ends.body [(0, 0, 0), (0, 1, 0), (0, 2, 0), (0, 3, 0), (0, 4, 0), (0, 5, 0), (0, 6, 0)] (.agg #[.int .i64 x.mass, .int .i64 x.con.a.lo, .int .i64 x.con.a.hi, .int .i64 x.con.b.lo, .int .i64 x.con.b.hi, .int .i64 x.con.c.lo, .int .i64 x.con.c.hi]) [B3, 0, B3, 1, B3, 2, B3, 3, B3, 4, B3, 5, B3, 6] (by kernel_rfl) (fun w9 hRep => ?_)
    obtain rfl := Option.some.inj h
    exact ⟨rfl, hRep.ext⟩
theorem dwrap (n : Int) : IntKind.i64.wrap n = wrap64 n := by unfold wrap64; exact IntKind.wrap_i64 n
theorem dweigh_l {F : Nat} {lots : List Lot} {l : List Int} (hn : l.length ≤ lots.length) (hb : l.length ≤ 9223372036854775807) : ∀ (d f k : Nat), k + d = l.length → d < f → dWeigh_l3 F lots l f (k : Int) (weighTo lots l k) = some (weighM lots l)
  | 0, f, k, hk, hf => by
    obtain ⟨f, rfl⟩ : ∃ g, f = g + 1 := ⟨f - 1, by omega⟩
    obtain rfl : k = l.length := by omega
    rw [dWeigh_l3, decide_eq_false (by omega), cond_false]; rfl
  | d + 1, f, k, hk, hf => by
    obtain ⟨f, rfl⟩ : ∃ g, f = g + 1 := ⟨f - 1, by omega⟩
    have ih := dweigh_l (F := F) hn hb d f (k + 1) (by omega) (by omega)
    have e1 : inB (k : Int) l.length = true := by simp [inB]; omega
    have e2 : inB (k : Int) lots.length = true := by simp [inB]; omega
    have e3 : wrap64 ((k : Int) + 1) = ((k + 1 : Nat) : Int) := by unfold wrap64; omega
    rw [dWeigh_l3, decide_eq_true (by omega), cond_true, e1, cond_true, e2, cond_true]
    simp only [dwrap, e3, Int.toNat_natCast]
    exact ih
theorem refWeigh_c (lots : List Lot) (counts : List Int) (a c : Option Addr) (cap cap' : Nat) (w : World) (hs : SlL w a cap lots) (hc : SlI w c cap' counts) (hn : counts.length ≤ lots.length) :
    Calls Try.prog 21 #[.slice a lots.length cap, .slice c counts.length cap'] w (Ret (.agg #[.int .i64 ((weighM lots counts).mass), .int .i64 ((weighM lots counts).con.a.lo), .int .i64 ((weighM lots counts).con.a.hi), .int .i64 ((weighM lots counts).con.b.lo), .int .i64 ((weighM lots counts).con.b.hi), .int .i64 ((weighM lots counts).con.c.lo), .int .i64 ((weighM lots counts).con.c.hi)]) w) := by
  have h1 := hc.le
  have h2 := hc.big
  refine dWeigh_w (counts.length + 1) lots counts a cap c cap' w hs hc (weighM lots counts) ?_
  have h := dweigh_l (F := counts.length + 1) hn (by omega) counts.length (counts.length + 1) 0 (by omega) (by omega)
  have h' : dWeigh_l3 (counts.length + 1) lots counts (counts.length + 1) (0 : Int) (⟨0, (⟨(⟨0, 0⟩ : Rng), (⟨0, 0⟩ : Rng), (⟨0, 0⟩ : Rng)⟩ : Bnds)⟩ : Pile) = some (weighM lots counts) := h
  rw [dWeigh_S, h']; rfl
end Go.Proofs.Ytojnpaenpaobcaa
