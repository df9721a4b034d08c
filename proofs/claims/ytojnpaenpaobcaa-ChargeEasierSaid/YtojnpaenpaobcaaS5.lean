/- ChargeEasier: its meaning, its walk, and the plain law. No condition. -/
import Derived.Test.YtojnpaenpaobcaaS6
namespace Go.Proofs.Ytojnpaenpaobcaa
open Go.RowKit
def bitAnd (k : IntKind) (x y : Int) : Int := k.wrap ((BitVec.ofInt k.bits x &&& BitVec.ofInt k.bits y).toNat : Int)
def bitOr (k : IntKind) (x y : Int) : Int := k.wrap ((BitVec.ofInt k.bits x ||| BitVec.ofInt k.bits y).toNat : Int)
def bitXor (k : IntKind) (x y : Int) : Int := k.wrap ((BitVec.ofInt k.bits x ^^^ BitVec.ofInt k.bits y).toNat : Int)
def bitAndNot (k : IntKind) (x y : Int) : Int := k.wrap ((BitVec.ofInt k.bits x &&& ~~~ (BitVec.ofInt k.bits y)).toNat : Int)
def leasier_l94 (F : Nat) (by_ : Int) : Nat → Int → (List Lot) → Option ((List Lot))
  | 0, _, _ => none
  | fuel94 + 1, t13, x91 => bif decide (t13 < (x91.length : Int)) then (((bif inB t13 x91.length then ((((((bif (bitAnd .u8 by_ (1 : Int)) == (1 : Int) then (some (decide (((((nth x91 Lot.zero t13.toNat).con).a).lo) < ((((nth x91 Lot.zero t13.toNat).con).a).hi)))) else (some false))).bind (fun z182 => bif z182 then (some (x91.set t13.toNat (⟨(nth x91 Lot.zero t13.toNat).count, (nth x91 Lot.zero t13.toNat).mass, (⟨(⟨IntKind.i64.wrap (((((nth x91 Lot.zero t13.toNat).con).a).lo) + (1 : Int)), (((nth x91 Lot.zero t13.toNat).con).a).hi⟩ : Rng), (((nth x91 Lot.zero t13.toNat).con).b), (((nth x91 Lot.zero t13.toNat).con).c)⟩ : Bnds), (nth x91 Lot.zero t13.toNat).cost⟩ : Lot))) else (some x91))).bind (fun z171 => bif inB t13 z171.length then (((bif (bitAnd .u8 by_ (2 : Int)) == (2 : Int) then (some (decide (((((nth z171 Lot.zero t13.toNat).con).a).lo) < ((((nth z171 Lot.zero t13.toNat).con).a).hi)))) else (some false))).bind (fun z178 => bif z178 then (some (z171.set t13.toNat (⟨(nth z171 Lot.zero t13.toNat).count, (nth z171 Lot.zero t13.toNat).mass, (⟨(⟨(((nth z171 Lot.zero t13.toNat).con).a).lo, IntKind.i64.wrap (((((nth z171 Lot.zero t13.toNat).con).a).hi) - (1 : Int))⟩ : Rng), (((nth z171 Lot.zero t13.toNat).con).b), (((nth z171 Lot.zero t13.toNat).con).c)⟩ : Bnds), (nth z171 Lot.zero t13.toNat).cost⟩ : Lot))) else (some z171))) else none)).bind (fun z113 => (((bif inB t13 z113.length then (((bif (bitAnd .u8 by_ (1 : Int)) == (1 : Int) then (some (decide (((((nth z113 Lot.zero t13.toNat).con).b).lo) < ((((nth z113 Lot.zero t13.toNat).con).b).hi)))) else (some false))).bind (fun z167 => bif z167 then (some (z113.set t13.toNat (⟨(nth z113 Lot.zero t13.toNat).count, (nth z113 Lot.zero t13.toNat).mass, (⟨(((nth z113 Lot.zero t13.toNat).con).a), (⟨IntKind.i64.wrap (((((nth z113 Lot.zero t13.toNat).con).b).lo) + (1 : Int)), (((nth z113 Lot.zero t13.toNat).con).b).hi⟩ : Rng), (((nth z113 Lot.zero t13.toNat).con).c)⟩ : Bnds), (nth z113 Lot.zero t13.toNat).cost⟩ : Lot))) else (some z113))) else none)).bind (fun z153 => bif inB t13 z153.length then (((bif (bitAnd .u8 by_ (2 : Int)) == (2 : Int) then (some (decide (((((nth z153 Lot.zero t13.toNat).con).b).lo) < ((((nth z153 Lot.zero t13.toNat).con).b).hi)))) else (some false))).bind (fun z160 => bif z160 then (some (z153.set t13.toNat (⟨(nth z153 Lot.zero t13.toNat).count, (nth z153 Lot.zero t13.toNat).mass, (⟨(((nth z153 Lot.zero t13.toNat).con).a), (⟨(((nth z153 Lot.zero t13.toNat).con).b).lo, IntKind.i64.wrap (((((nth z153 Lot.zero t13.toNat).con).b).hi) - (1 : Int))⟩ : Rng), (((nth z153 Lot.zero t13.toNat).con).c)⟩ : Bnds), (nth z153 Lot.zero t13.toNat).cost⟩ : Lot))) else (some z153))) else none)).bind (fun z120 => (((bif inB t13 z120.length then (((bif (bitAnd .u8 by_ (1 : Int)) == (1 : Int) then (some (decide (((((nth z120 Lot.zero t13.toNat).con).c).lo) < ((((nth z120 Lot.zero t13.toNat).con).c).hi)))) else (some false))).bind (fun z147 => bif z147 then (some (z120.set t13.toNat (⟨(nth z120 Lot.zero t13.toNat).count, (nth z120 Lot.zero t13.toNat).mass, (⟨(((nth z120 Lot.zero t13.toNat).con).a), (((nth z120 Lot.zero t13.toNat).con).b), (⟨IntKind.i64.wrap (((((nth z120 Lot.zero t13.toNat).con).c).lo) + (1 : Int)), (((nth z120 Lot.zero t13.toNat).con).c).hi⟩ : Rng)⟩ : Bnds), (nth z120 Lot.zero t13.toNat).cost⟩ : Lot))) else (some z120))) else none)).bind (fun z134 => bif inB t13 z134.length then (((bif (bitAnd .u8 by_ (2 : Int)) == (2 : Int) then (some (decide (((((nth z134 Lot.zero t13.toNat).con).c).lo) < ((((nth z134 Lot.zero t13.toNat).con).c).hi)))) else (some false))).bind (fun z141 => bif z141 then (some (z134.set t13.toNat (⟨(nth z134 Lot.zero t13.toNat).count, (nth z134 Lot.zero t13.toNat).mass, (⟨(((nth z134 Lot.zero t13.toNat).con).a), (((nth z134 Lot.zero t13.toNat).con).b), (⟨(((nth z134 Lot.zero t13.toNat).con).c).lo, IntKind.i64.wrap (((((nth z134 Lot.zero t13.toNat).con).c).hi) - (1 : Int))⟩ : Rng)⟩ : Bnds), (nth z134 Lot.zero t13.toNat).cost⟩ : Lot))) else (some z134))) else none)).bind (fun z127 => some z127)))).bind (fun z106 => ((bif (bitAnd .u8 by_ (4 : Int)) == (4 : Int) then (bif inB t13 z106.length then (some (decide (((nth z106 Lot.zero t13.toNat).count) < (1000 : Int)))) else none) else (some false))).bind (fun z107 => bif z107 then (bif inB t13 z106.length then (some (z106.set t13.toNat (⟨IntKind.i64.wrap (((nth z106 Lot.zero t13.toNat).count) + (1 : Int)), (nth z106 Lot.zero t13.toNat).mass, (⟨(((nth z106 Lot.zero t13.toNat).con).a), (((nth z106 Lot.zero t13.toNat).con).b), (((nth z106 Lot.zero t13.toNat).con).c)⟩ : Bnds), (nth z106 Lot.zero t13.toNat).cost⟩ : Lot))) else none) else (some z106)))) else none)).bind (fun z98 => leasier_l94 F by_ fuel94 (IntKind.i64.wrap (t13 + (1 : Int))) z98)) else (some x91)
def leasier_S (F : Nat) (p : Recipe) (counts : List Int) (by_ : Int) : Option (Bool) := ((bif decide ((p.lots.length : Int) > (10 : Int)) then (some true) else (some (decide ((counts.length : Int) > (12 : Int)))))).bind (fun z1 => bif z1 then (some true) else ((lown_S F p).bind (fun r_ => (lints_S F counts).bind (fun r_3 => (lown_S F p).bind (fun r_6 => (lown_S F p).bind (fun r_15 => ((leasier_l94 F by_ F (0 : Int) r_15.lots)).bind (fun z18 => (((((bif (bitAnd .u8 by_ (8 : Int)) == (8 : Int) then (some (decide (r_15.target.a.lo > (0 : Int)))) else (some false))).bind (fun z87 => bif z87 then (some (IntKind.i64.wrap (r_15.target.a.lo - (1 : Int)))) else (some r_15.target.a.lo))).bind (fun z81 => ((bif (bitAnd .u8 by_ (16 : Int)) == (16 : Int) then (some (decide (r_15.target.a.hi < (100000000 : Int)))) else (some false))).bind (fun z83 => bif z83 then (some (z81, (IntKind.i64.wrap (r_15.target.a.hi + (1 : Int))))) else (some (z81, r_15.target.a.hi))))).bind (fun z54 => ((((bif (bitAnd .u8 by_ (8 : Int)) == (8 : Int) then (some (decide (r_15.target.b.lo > (0 : Int)))) else (some false))).bind (fun z77 => bif z77 then (some (IntKind.i64.wrap (r_15.target.b.lo - (1 : Int)))) else (some r_15.target.b.lo))).bind (fun z71 => ((bif (bitAnd .u8 by_ (16 : Int)) == (16 : Int) then (some (decide (r_15.target.b.hi < (100000000 : Int)))) else (some false))).bind (fun z73 => bif z73 then (some (z71, (IntKind.i64.wrap (r_15.target.b.hi + (1 : Int))))) else (some (z71, r_15.target.b.hi))))).bind (fun z57 => ((((bif (bitAnd .u8 by_ (8 : Int)) == (8 : Int) then (some (decide (r_15.target.c.lo > (0 : Int)))) else (some false))).bind (fun z68 => bif z68 then (some (IntKind.i64.wrap (r_15.target.c.lo - (1 : Int)))) else (some r_15.target.c.lo))).bind (fun z63 => ((bif (bitAnd .u8 by_ (16 : Int)) == (16 : Int) then (some (decide (r_15.target.c.hi < (100000000 : Int)))) else (some false))).bind (fun z65 => bif z65 then (some (z63, (IntKind.i64.wrap (r_15.target.c.hi + (1 : Int))))) else (some (z63, r_15.target.c.hi))))).bind (fun z60 => some (z54.1, z54.2, z57.1, z57.2, z60.1, z60.2))))).bind (fun z19 => (((bif (bitAnd .u8 by_ (32 : Int)) == (32 : Int) then (some (decide (r_15.mass.lo > (0 : Int)))) else (some false))).bind (fun z51 => bif z51 then (some (IntKind.i64.wrap (r_15.mass.lo - (1 : Int)))) else (some r_15.mass.lo))).bind (fun z26 => (((bif (bitAnd .u8 by_ (64 : Int)) == (64 : Int) then (some (decide (r_15.mass.hi < (1000000000 : Int)))) else (some false))).bind (fun z48 => bif z48 then (some (IntKind.i64.wrap (r_15.mass.hi + (1 : Int)))) else (some r_15.mass.hi))).bind (fun z28 => (lints_S F counts).bind (fun r_30 => ((bif (weighE r_ r_3) == (0 : Int) then (bif (fitsK r_ r_3) == ((-1) : Int) then (bif (weighE (⟨z18, (⟨z26, z28⟩ : Rng), (⟨(⟨z19.1, z19.2.1⟩ : Rng), (⟨z19.2.2.1, z19.2.2.2.1⟩ : Rng), (⟨z19.2.2.2.2.1, z19.2.2.2.2.2⟩ : Rng)⟩ : Bnds)⟩ : Recipe) r_30) != (0 : Int) then (some true) else (some ((fitsK (⟨z18, (⟨z26, z28⟩ : Rng), (⟨(⟨z19.1, z19.2.1⟩ : Rng), (⟨z19.2.2.1, z19.2.2.2.1⟩ : Rng), (⟨z19.2.2.2.2.1, z19.2.2.2.2.2⟩ : Rng)⟩ : Bnds)⟩ : Recipe) r_30) != ((-1) : Int)))) else (some false)) else (some false))).bind (fun z33 => bif z33 then (some false) else (((bif (bestE r_6) == (0 : Int) then (bif (bestE (⟨z18, (⟨z26, z28⟩ : Rng), (⟨(⟨z19.1, z19.2.1⟩ : Rng), (⟨z19.2.2.1, z19.2.2.2.1⟩ : Rng), (⟨z19.2.2.2.2.1, z19.2.2.2.2.2⟩ : Rng)⟩ : Bnds)⟩ : Recipe)) != (8 : Int) then (bif (bestE (⟨z18, (⟨z26, z28⟩ : Rng), (⟨(⟨z19.1, z19.2.1⟩ : Rng), (⟨z19.2.2.1, z19.2.2.2.1⟩ : Rng), (⟨z19.2.2.2.2.1, z19.2.2.2.2.2⟩ : Rng)⟩ : Bnds)⟩ : Recipe)) != (0 : Int) then (some true) else (some (decide ((stC (bestM (⟨z18, (⟨z26, z28⟩ : Rng), (⟨(⟨z19.1, z19.2.1⟩ : Rng), (⟨z19.2.2.1, z19.2.2.2.1⟩ : Rng), (⟨z19.2.2.2.2.1, z19.2.2.2.2.2⟩ : Rng)⟩ : Bnds)⟩ : Recipe))) > (stC (bestM r_6)))))) else (some false)) else (some false))).bind (fun z39 => bif z39 then (some false) else (some true)))))))))))))))
set_option maxRecDepth 100000 in
set_option maxHeartbeats 4000000 in
theorem leasier_w (F : Nat) (p : Recipe) (counts : List Int) (by_ : Int) (a1 : Option Addr) (c1 : Nat) (a2 : Option Addr) (c2 : Nat) (w : World) (hs1 : Sl 9 Lot.cells w a1 c1 p.lots) (hs2 : Sl 1 intCells w a2 c2 counts) (v : Bool) (h : leasier_S F p counts by_ = some v) :
    Calls Try.prog 8 #[.agg #[.slice a1 p.lots.length c1, .int .i64 p.mass.lo, .int .i64 p.mass.hi, .int .i64 p.target.a.lo, .int .i64 p.target.a.hi, .int .i64 p.target.b.lo, .int .i64 p.target.b.hi, .int .i64 p.target.c.lo, .int .i64 p.target.c.hi], .slice a2 counts.length c2, .int .u8 by_] w (Ret (.bool v) w) := by
  rw [leasier_S] at h
  refine At.enter Try.func8 rfl 256 [(0, .agg #[.slice a1 p.lots.length c1, .int .i64 p.mass.lo, .int .i64 p.mass.hi, .int .i64 p.target.a.lo, .int .i64 p.target.a.hi, .int .i64 p.target.b.lo, .int .i64 p.target.b.hi, .int .i64 p.target.c.lo, .int .i64 p.target.c.hi]), (1, .slice a2 counts.length c2), (2, .int .u8 by_)] ([.sl a2 1 counts.length (fun i_ => intCells (nth counts 0 i_)), .sl a1 9 p.lots.length (fun i_ => Lot.cells (nth p.lots Lot.zero i_))]) [] (by kernel_rfl) ⟨rfl, rfl, rfl, trivial⟩ (Rep.sub (Rep.sl (Rep.sl (Rep.start w) Lot.zero hs1 (by simp [Ent.mut])) 0 hs2 (by simp [Ent.mut])) (by simp)) ?_
  refine At.seq ?_
  refine At.run [] [1, 2, 3] [true, true, true] (.normal) (fun B3 => [(1, .slice a2 counts.length c2), (2, .int .u8 by_), (3, .pointer (some ⟨B3, 0, none⟩))]) (fun B3 => [.sl a2 1 counts.length (fun i_ => intCells (nth counts 0 i_)), .sl a1 9 p.lots.length (fun i_ => Lot.cells (nth p.lots Lot.zero i_)), .blk B3 [.slice a1 p.lots.length c1, .int .i64 p.mass.lo, .int .i64 p.mass.hi, .int .i64 p.target.a.lo, .int .i64 p.target.a.hi, .int .i64 p.target.b.lo, .int .i64 p.target.b.hi, .int .i64 p.target.c.lo, .int .i64 p.target.c.hi] 28]) (fun B3 => []) (fun B3 => []) (fun B3 => by as_aux_lemma => kernel_rfl) (fun B3 => trivial) (fun B3 => ?_)
  refine Ends.seq ?_
  refine At.seq ?_
  obtain ⟨o1, h, hr1⟩ := bd h
  refine At.seq_mid (σ := Bool) (fun s => o1 = s) (fun s => [(1, .slice a2 counts.length c2), (2, .int .u8 by_), (3, .pointer (some ⟨B3, 0, none⟩)), (32, .bool s)]) (fun s => [.sl a2 1 counts.length (fun i_ => intCells (nth counts 0 i_)), .sl a1 9 p.lots.length (fun i_ => Lot.cells (nth p.lots Lot.zero i_)), .blk B3 [.slice a1 p.lots.length c1, .int .i64 p.mass.lo, .int .i64 p.mass.hi, .int .i64 p.target.a.lo, .int .i64 p.target.a.hi, .int .i64 p.target.b.lo, .int .i64 p.target.b.hi, .int .i64 p.target.c.lo, .int .i64 p.target.c.hi] 28]) ?_ (fun s hI => ?_)
  · refine At.region ?_
    refine AtL.runR 5 [(2, 0, 0)] [1, 2, 3, 28] [true, true, true] ([(1, .slice a2 counts.length c2), (2, .int .u8 by_), (3, .pointer (some ⟨B3, 0, none⟩)), (28, .bool (decide ((p.lots.length : Int) > (10 : Int))))]) [B3, 0] [] (fun _ => by as_aux_lemma => kernel_rfl) trivial ?_
    refine AtL.bool 28 (decide ((p.lots.length : Int) > (10 : Int))) (by kernel_rfl) (fun hc190 => ?_) (fun hc190 => ?_)
    · have h := br_t h hc190
      refine AtL.runR 4 [] [1, 2, 3, 32] [true, true, true] ([(1, .slice a2 counts.length c2), (2, .int .u8 by_), (3, .pointer (some ⟨B3, 0, none⟩)), (32, .bool true)]) [] [] (fun _ => by as_aux_lemma => kernel_rfl) trivial ?_
      refine AtL.nil (by kernel_rfl) ?_
      exact Ends.mid true (Option.some.inj h).symm (by kernel_rfl) (by kernel_rfl)
    · have h := br_f h hc190
      refine AtL.runR 4 [] [1, 2, 3, 32] [true, true, true] ([(1, .slice a2 counts.length c2), (2, .int .u8 by_), (3, .pointer (some ⟨B3, 0, none⟩)), (32, .bool (decide ((counts.length : Int) > (12 : Int))))]) [] [] (fun _ => by as_aux_lemma => kernel_rfl) trivial ?_
      refine AtL.nil (by kernel_rfl) ?_
      exact Ends.mid (decide ((counts.length : Int) > (12 : Int))) (Option.some.inj h).symm (by kernel_rfl) (by kernel_rfl)
  · revert hI; revert s; intro t32 hI
    replace hI : o1 = t32 := hI
    have h := hr1
    try rw [hI] at h
    refine At.cond (t32) (by kernel_rfl) (fun hc2 => ?_) (fun hc2 => ?_)
    · have h := br_t h hc2
      refine At.seq ?_
      refine At.region ?_
      refine AtL.call 12 #[] (some 33) (by kernel_rfl) _ (fun w8 hRep => known_c w8) ?_
      rintro w8 e w9 hRep ⟨rfl, hE⟩
      refine ⟨_, _, _, rfl, rfl, hRep.ext' hE, ?_⟩
      refine AtL.runR 1 [] [6] [true, true, true] ([(6, .bool true)]) [] [] (fun _ => by as_aux_lemma => kernel_rfl) trivial ?_
      refine AtL.nil (by kernel_rfl) ?_
      refine Ends.seq ?_
      refine At.runR [] [6] [true, true, true] (.ret) ([(6, .bool true)]) [] [] (fun _ => by as_aux_lemma => kernel_rfl) trivial ?_
      refine Ends.then_ret ?_
      refine Ends.body [] (.bool true) [] (by kernel_rfl) (fun w9 hRep => ?_)
      obtain rfl := Option.some.inj h
      exact ⟨rfl, hRep.ext⟩
    · have h := br_f h hc2
      refine At.runR [] [1, 2, 3] [true, true, true] (.normal) ([(1, .slice a2 counts.length c2), (2, .int .u8 by_), (3, .pointer (some ⟨B3, 0, none⟩))]) [] [] (fun _ => by as_aux_lemma => kernel_rfl) trivial ?_
      refine Ends.seq ?_
      refine At.seq ?_
      refine At.region ?_
      refine AtL.runR 1 [(2, 0, 0), (2, 1, 0), (2, 2, 0), (2, 3, 0), (2, 4, 0), (2, 5, 0), (2, 6, 0), (2, 7, 0), (2, 8, 0)] [1, 2, 3, 35] [true, true, true] ([(1, .slice a2 counts.length c2), (2, .int .u8 by_), (3, .pointer (some ⟨B3, 0, none⟩)), (35, .agg #[.slice a1 p.lots.length c1, .int .i64 p.mass.lo, .int .i64 p.mass.hi, .int .i64 p.target.a.lo, .int .i64 p.target.a.hi, .int .i64 p.target.b.lo, .int .i64 p.target.b.hi, .int .i64 p.target.c.lo, .int .i64 p.target.c.hi])]) [B3, 0, B3, 1, B3, 2, B3, 3, B3, 4, B3, 5, B3, 6, B3, 7, B3, 8] [] (fun _ => by as_aux_lemma => kernel_rfl) trivial ?_
      obtain ⟨r_, hs189, h⟩ := bd h
      refine AtL.call 13 #[.agg #[.slice a1 p.lots.length c1, .int .i64 p.mass.lo, .int .i64 p.mass.hi, .int .i64 p.target.a.lo, .int .i64 p.target.a.hi, .int .i64 p.target.b.lo, .int .i64 p.target.b.hi, .int .i64 p.target.c.lo, .int .i64 p.target.c.hi]] (some 36) (by kernel_rfl) _ (fun w8 hRep => lown_w F p a1 c1 w8 (hRep.toSl 1 rfl hs1.le hs1.big) _ hs189) ?_
      rintro w8 e w9 hRep ⟨a_, c_, rfl, hE⟩
      refine ⟨_, _, _, rfl, rfl, hRep.join hE (by simp [Ent.looks, Ent.mut]), ?_⟩
      refine AtL.runR 1 [] [1, 2, 3, 36, 37] [true, true, true, true] ([(1, .slice a2 counts.length c2), (2, .int .u8 by_), (3, .pointer (some ⟨B3, 0, none⟩)), (36, .agg #[.slice a_ r_.lots.length c_, .int .i64 r_.mass.lo, .int .i64 r_.mass.hi, .int .i64 r_.target.a.lo, .int .i64 r_.target.a.hi, .int .i64 r_.target.b.lo, .int .i64 r_.target.b.hi, .int .i64 r_.target.c.lo, .int .i64 r_.target.c.hi]), (37, .slice a2 counts.length c2)]) [] [] (fun _ => by as_aux_lemma => kernel_rfl) trivial ?_
      obtain ⟨r_3, hs188, h⟩ := bd h
      refine AtL.call 14 #[.slice a2 counts.length c2] (some 38) (by kernel_rfl) _ (fun w8 hRep => lints_w F counts a2 c2 w8 (hRep.toSl 0 rfl hs2.le hs2.big) _ hs188) ?_
      rintro w8 e w9 hRep ⟨a_4, c_5, rfl, hE⟩
      refine ⟨_, _, _, rfl, rfl, hRep.join hE (by simp [Ent.looks, Ent.mut]), ?_⟩
      refine AtL.call 17 #[.agg #[.slice a_ r_.lots.length c_, .int .i64 r_.mass.lo, .int .i64 r_.mass.hi, .int .i64 r_.target.a.lo, .int .i64 r_.target.a.hi, .int .i64 r_.target.b.lo, .int .i64 r_.target.b.hi, .int .i64 r_.target.c.lo, .int .i64 r_.target.c.hi], .slice a_4 r_3.length c_5] (some 39) (by kernel_rfl) _ (fun w8 hRep => fits_c r_ r_3 a_ a_4 c_ c_5 w8 (hRep.owSl 3 rfl xlen43) (hRep.owSl 4 rfl xlen3)) ?_
      rintro w8 e w9 hRep ⟨rfl, hE⟩
      refine ⟨_, _, _, rfl, rfl, hRep.ext' hE, ?_⟩
      refine AtL.runR 5 [] [1, 2, 3, 7, 8] [true, true, true, true, true] ([(1, .slice a2 counts.length c2), (2, .int .u8 by_), (3, .pointer (some ⟨B3, 0, none⟩)), (7, .int .i64 (fitsK r_ r_3)), (8, .int .i64 (weighE r_ r_3))]) [] [] (fun _ => by as_aux_lemma => kernel_rfl) trivial ?_
      refine AtL.nil (by kernel_rfl) ?_
      refine Ends.seq ?_
      refine At.seq ?_
      refine At.region ?_
      refine AtL.runR 1 [(2, 0, 0), (2, 1, 0), (2, 2, 0), (2, 3, 0), (2, 4, 0), (2, 5, 0), (2, 6, 0), (2, 7, 0), (2, 8, 0)] [1, 2, 3, 7, 8, 43] [true, true, true, true, true] ([(1, .slice a2 counts.length c2), (2, .int .u8 by_), (3, .pointer (some ⟨B3, 0, none⟩)), (7, .int .i64 (fitsK r_ r_3)), (8, .int .i64 (weighE r_ r_3)), (43, .agg #[.slice a1 p.lots.length c1, .int .i64 p.mass.lo, .int .i64 p.mass.hi, .int .i64 p.target.a.lo, .int .i64 p.target.a.hi, .int .i64 p.target.b.lo, .int .i64 p.target.b.hi, .int .i64 p.target.c.lo, .int .i64 p.target.c.hi])]) [B3, 0, B3, 1, B3, 2, B3, 3, B3, 4, B3, 5, B3, 6, B3, 7, B3, 8] [] (fun _ => by as_aux_lemma => kernel_rfl) trivial ?_
      obtain ⟨r_6, hs187, h⟩ := bd h
      refine AtL.call 13 #[.agg #[.slice a1 p.lots.length c1, .int .i64 p.mass.lo, .int .i64 p.mass.hi, .int .i64 p.target.a.lo, .int .i64 p.target.a.hi, .int .i64 p.target.b.lo, .int .i64 p.target.b.hi, .int .i64 p.target.c.lo, .int .i64 p.target.c.hi]] (some 44) (by kernel_rfl) _ (fun w8 hRep => lown_w F p a1 c1 w8 (hRep.toSl 1 rfl hs1.le hs1.big) _ hs187) ?_
      rintro w8 e w9 hRep ⟨a_7, c_8, rfl, hE⟩
      refine ⟨_, _, _, rfl, rfl, hRep.join hE (by simp [Ent.looks, Ent.mut]), ?_⟩
      refine AtL.freeze 2 B3 28 [.slice a1 p.lots.length c1, .int .i64 p.mass.lo, .int .i64 p.mass.hi, .int .i64 p.target.a.lo, .int .i64 p.target.a.hi, .int .i64 p.target.b.lo, .int .i64 p.target.b.hi, .int .i64 p.target.c.lo, .int .i64 p.target.c.hi] (by kernel_rfl) ?_
      refine AtL.freezeOw 3 Lot.cells Lot.zero a_ c_ 43 9 r_.lots (by kernel_rfl) xlen43 (fun hf9l hf9b => ?_)
      refine AtL.freezeOw 4 intCells 0 a_4 c_5 3 1 r_3 (by kernel_rfl) xlen3 (fun hf10l hf10b => ?_)
      refine AtL.freezeOw 5 Lot.cells Lot.zero a_7 c_8 43 9 r_6.lots (by kernel_rfl) xlen43 (fun hf11l hf11b => ?_)
      refine AtL.fit [1, 2, 3, 7, 8, 43, 44] ([(1, .slice a2 counts.length c2), (2, .int .u8 by_), (3, .pointer (some ⟨B3, 0, none⟩)), (7, .int .i64 (fitsK r_ r_3)), (8, .int .i64 (weighE r_ r_3)), (43, .agg #[.slice a1 p.lots.length c1, .int .i64 p.mass.lo, .int .i64 p.mass.hi, .int .i64 p.target.a.lo, .int .i64 p.target.a.hi, .int .i64 p.target.b.lo, .int .i64 p.target.b.hi, .int .i64 p.target.c.lo, .int .i64 p.target.c.hi]), (44, .agg #[.slice a_7 r_6.lots.length c_8, .int .i64 r_6.mass.lo, .int .i64 r_6.mass.hi, .int .i64 r_6.target.a.lo, .int .i64 r_6.target.a.hi, .int .i64 r_6.target.b.lo, .int .i64 r_6.target.b.hi, .int .i64 r_6.target.c.lo, .int .i64 r_6.target.c.hi])]) ([.sl a2 1 counts.length (fun i_ => intCells (nth counts 0 i_)), .sl a1 9 p.lots.length (fun i_ => Lot.cells (nth p.lots Lot.zero i_)), .sl (some ⟨B3, 0, none⟩) 9 1 (fun _ => [.slice a1 p.lots.length c1, .int .i64 p.mass.lo, .int .i64 p.mass.hi, .int .i64 p.target.a.lo, .int .i64 p.target.a.hi, .int .i64 p.target.b.lo, .int .i64 p.target.b.hi, .int .i64 p.target.c.lo, .int .i64 p.target.c.hi]), .sl a_ 9 r_.lots.length (fun i_ => Lot.cells (nth r_.lots Lot.zero i_)), .sl a_4 1 r_3.length (fun i_ => intCells (nth r_3 0 i_)), .sl a_7 9 r_6.lots.length (fun i_ => Lot.cells (nth r_6.lots Lot.zero i_))]) (by kernel_rfl) (by kernel_rfl) ?_
      refine AtL.call 24 #[.agg #[.slice a_7 r_6.lots.length c_8, .int .i64 r_6.mass.lo, .int .i64 r_6.mass.hi, .int .i64 r_6.target.a.lo, .int .i64 r_6.target.a.hi, .int .i64 r_6.target.b.lo, .int .i64 r_6.target.b.hi, .int .i64 r_6.target.c.lo, .int .i64 r_6.target.c.hi]] (some 45) (by kernel_rfl) _ (fun w8 hRep => best_c r_6 a_7 c_8 w8 (hRep.toSl 5 rfl hf11l hf11b)) ?_
      rintro w8 e w9 hRep ⟨a_13, c_14, rfl, hs12, hE⟩
      refine ⟨_, _, _, rfl, rfl, hRep.addSl hE (by simp [Ent.mut]) 0 hs12, ?_⟩
      refine AtL.runR 7 [] [1, 2, 3, 7, 8, 10, 11] [true, true, true, true, true, true, true] ([(1, .slice a2 counts.length c2), (2, .int .u8 by_), (3, .pointer (some ⟨B3, 0, none⟩)), (7, .int .i64 (fitsK r_ r_3)), (8, .int .i64 (weighE r_ r_3)), (10, .int .i64 (stC (bestM r_6))), (11, .int .i64 (bestE r_6))]) [] [] (fun _ => by as_aux_lemma => kernel_rfl) trivial ?_
      refine AtL.nil (by kernel_rfl) ?_
      refine Ends.seq ?_
      refine At.seq ?_
      refine At.region ?_
      refine AtL.runR 1 [(2, 0, 0), (2, 1, 0), (2, 2, 0), (2, 3, 0), (2, 4, 0), (2, 5, 0), (2, 6, 0), (2, 7, 0), (2, 8, 0)] [1, 2, 7, 8, 10, 11, 49] [true, true, true, true, true, true, true] ([(1, .slice a2 counts.length c2), (2, .int .u8 by_), (7, .int .i64 (fitsK r_ r_3)), (8, .int .i64 (weighE r_ r_3)), (10, .int .i64 (stC (bestM r_6))), (11, .int .i64 (bestE r_6)), (49, .agg #[.slice a1 p.lots.length c1, .int .i64 p.mass.lo, .int .i64 p.mass.hi, .int .i64 p.target.a.lo, .int .i64 p.target.a.hi, .int .i64 p.target.b.lo, .int .i64 p.target.b.hi, .int .i64 p.target.c.lo, .int .i64 p.target.c.hi])]) [B3, 0, B3, 1, B3, 2, B3, 3, B3, 4, B3, 5, B3, 6, B3, 7, B3, 8] [0 < 1, 0 < 1, 0 < 1, 0 < 1, 0 < 1, 0 < 1, 0 < 1, 0 < 1, 0 < 1] (fun _ => by as_aux_lemma => kernel_rfl) ⟨Nat.one_pos, Nat.one_pos, Nat.one_pos, Nat.one_pos, Nat.one_pos, Nat.one_pos, Nat.one_pos, Nat.one_pos, Nat.one_pos, trivial⟩ ?_
      obtain ⟨r_15, hs186, h⟩ := bd h
      refine AtL.call 13 #[.agg #[.slice a1 p.lots.length c1, .int .i64 p.mass.lo, .int .i64 p.mass.hi, .int .i64 p.target.a.lo, .int .i64 p.target.a.hi, .int .i64 p.target.b.lo, .int .i64 p.target.b.hi, .int .i64 p.target.c.lo, .int .i64 p.target.c.hi]] (some 50) (by kernel_rfl) _ (fun w8 hRep => lown_w F p a1 c1 w8 (hRep.toSl 1 rfl hs1.le hs1.big) _ hs186) ?_
      rintro w8 e w9 hRep ⟨a_16, c_17, rfl, hE⟩
      refine ⟨_, _, _, rfl, rfl, hRep.join hE (by simp [Ent.looks, Ent.mut]), ?_⟩
      refine AtL.run 2 [(8, 0, 0), (8, 1, 0), (8, 2, 0), (8, 3, 0), (8, 4, 0), (8, 5, 0), (8, 6, 0), (8, 7, 0), (8, 8, 0)] [1, 2, 7, 8, 10, 11, 12] [true, false, false, false, false, false, false, true, true] (fun B34 => [(1, .slice a2 counts.length c2), (2, .int .u8 by_), (7, .int .i64 (fitsK r_ r_3)), (8, .int .i64 (weighE r_ r_3)), (10, .int .i64 (stC (bestM r_6))), (11, .int .i64 (bestE r_6)), (12, .pointer (some ⟨B34, 0, none⟩))]) (fun B34 => [.sl a2 1 counts.length (fun i_ => intCells (nth counts 0 i_)), owE Lot.cells Lot.zero a_16 c_17 43 9 r_15.lots, .blk B34 [.slice a_16 r_15.lots.length c_17, .int .i64 r_15.mass.lo, .int .i64 r_15.mass.hi, .int .i64 r_15.target.a.lo, .int .i64 r_15.target.a.hi, .int .i64 r_15.target.b.lo, .int .i64 r_15.target.b.hi, .int .i64 r_15.target.c.lo, .int .i64 r_15.target.c.hi] 28]) (fun B34 => [B34, 0, B34, 1, B34, 2, B34, 3, B34, 4, B34, 5, B34, 6, B34, 7, B34, 8]) (fun B34 => []) (fun B34 => by as_aux_lemma => kernel_rfl) (fun B34 => trivial) (fun B34 => ?_)
      refine AtL.nil (by kernel_rfl) ?_
      refine Ends.seq ?_
      obtain ⟨o18, h, hr18⟩ := bd h
      refine At.seq_mid (σ := (List Lot) × (Option Addr) × Nat) (fun s => o18 = s.1) (fun s => [(1, .slice a2 counts.length c2), (2, .int .u8 by_), (7, .int .i64 (fitsK r_ r_3)), (8, .int .i64 (weighE r_ r_3)), (10, .int .i64 (stC (bestM r_6))), (11, .int .i64 (bestE r_6)), (12, .pointer (some ⟨B34, 0, none⟩))]) (fun s => [.sl a2 1 counts.length (fun i_ => intCells (nth counts 0 i_)), .blk B34 [.slice s.2.1 s.1.length s.2.2, .int .i64 r_15.mass.lo, .int .i64 r_15.mass.hi, .int .i64 r_15.target.a.lo, .int .i64 r_15.target.a.hi, .int .i64 r_15.target.b.lo, .int .i64 r_15.target.b.hi, .int .i64 r_15.target.c.lo, .int .i64 r_15.target.c.hi] 28, owE Lot.cells Lot.zero s.2.1 s.2.2 43 9 s.1]) ?_ (fun s hI => ?_)
      · refine At.seq ?_
        refine At.runR [] [1, 2, 7, 8, 10, 11, 12, 13] [true, true, true] (.normal) ([(1, .slice a2 counts.length c2), (2, .int .u8 by_), (7, .int .i64 (fitsK r_ r_3)), (8, .int .i64 (weighE r_ r_3)), (10, .int .i64 (stC (bestM r_6))), (11, .int .i64 (bestE r_6)), (12, .pointer (some ⟨B34, 0, none⟩)), (13, .int .i64 0)]) [] [] (fun _ => by as_aux_lemma => kernel_rfl) trivial ?_
        refine Ends.seq ?_
        refine At.block ?_
        refine At.sel [1, 2, 7, 8, 10, 11, 12, 13] [0, 2, 1] ([(1, .slice a2 counts.length c2), (2, .int .u8 by_), (7, .int .i64 (fitsK r_ r_3)), (8, .int .i64 (weighE r_ r_3)), (10, .int .i64 (stC (bestM r_6))), (11, .int .i64 (bestE r_6)), (12, .pointer (some ⟨B34, 0, none⟩)), (13, .int .i64 0)]) ([.sl a2 1 counts.length (fun i_ => intCells (nth counts 0 i_)), .blk B34 [.slice a_16 r_15.lots.length c_17, .int .i64 r_15.mass.lo, .int .i64 r_15.mass.hi, .int .i64 r_15.target.a.lo, .int .i64 r_15.target.a.hi, .int .i64 r_15.target.b.lo, .int .i64 r_15.target.b.hi, .int .i64 r_15.target.c.lo, .int .i64 r_15.target.c.hi] 28, owE Lot.cells Lot.zero a_16 c_17 43 9 r_15.lots]) (by kernel_rfl) (by kernel_rfl) (by kernel_rfl) ?_
        refine At.loop (σ := Int × (List Lot) × (Option Addr) × Nat) (fun n s => leasier_l94 F by_ n s.1 s.2.1 = some o18) (fun s => [(1, .slice a2 counts.length c2), (2, .int .u8 by_), (7, .int .i64 (fitsK r_ r_3)), (8, .int .i64 (weighE r_ r_3)), (10, .int .i64 (stC (bestM r_6))), (11, .int .i64 (bestE r_6)), (12, .pointer (some ⟨B34, 0, none⟩)), (13, .int .i64 s.1)]) (fun s => [.sl a2 1 counts.length (fun i_ => intCells (nth counts 0 i_)), .blk B34 [.slice s.2.2.1 s.2.1.length s.2.2.2, .int .i64 r_15.mass.lo, .int .i64 r_15.mass.hi, .int .i64 r_15.target.a.lo, .int .i64 r_15.target.a.hi, .int .i64 r_15.target.b.lo, .int .i64 r_15.target.b.hi, .int .i64 r_15.target.c.lo, .int .i64 r_15.target.c.hi] 28, owE Lot.cells Lot.zero s.2.2.1 s.2.2.2 43 9 s.2.1]) F ((0 : Int), r_15.lots, a_16, c_17) h (by kernel_rfl) (by kernel_rfl) (fun n s hI => ?_)
        obtain ⟨t13, x91, a_x92, c_x93⟩ := s
        replace hI : leasier_l94 F by_ n t13 x91 = some o18 := hI
        rcases n with _ | fuel94
        · cases hI
        · rw [leasier_l94] at hI
          have h := hI
          clear hI
          refine At.seq ?_
          refine At.seq ?_
          refine At.runR [(1, 0, 0)] [1, 2, 7, 8, 10, 11, 12, 13, 55] [true, true, true] (.normal) ([(1, .slice a2 counts.length c2), (2, .int .u8 by_), (7, .int .i64 (fitsK r_ r_3)), (8, .int .i64 (weighE r_ r_3)), (10, .int .i64 (stC (bestM r_6))), (11, .int .i64 (bestE r_6)), (12, .pointer (some ⟨B34, 0, none⟩)), (13, .int .i64 t13), (55, .bool (decide (t13 < (x91.length : Int))))]) [B34, 0] [] (fun _ => by as_aux_lemma => kernel_rfl) trivial ?_
          refine Ends.seq ?_
          refine At.cond (decide (t13 < (x91.length : Int))) (by kernel_rfl) (fun hc95 => ?_) (fun hc95 => ?_)
          · have h := br_t h hc95
            refine At.runR [] [1, 2, 7, 8, 10, 11, 12, 13] [true, true, true] (.normal) ([(1, .slice a2 counts.length c2), (2, .int .u8 by_), (7, .int .i64 (fitsK r_ r_3)), (8, .int .i64 (weighE r_ r_3)), (10, .int .i64 (stC (bestM r_6))), (11, .int .i64 (bestE r_6)), (12, .pointer (some ⟨B34, 0, none⟩)), (13, .int .i64 t13)]) [] [] (fun _ => by as_aux_lemma => kernel_rfl) trivial ?_
            refine Ends.seq ?_
            obtain ⟨o98, h, hr98⟩ := bd h
            refine At.seq_mid (σ := (List Lot) × (Option Addr) × Nat) (fun s => o98 = s.1) (fun s => [(1, .slice a2 counts.length c2), (2, .int .u8 by_), (7, .int .i64 (fitsK r_ r_3)), (8, .int .i64 (weighE r_ r_3)), (10, .int .i64 (stC (bestM r_6))), (11, .int .i64 (bestE r_6)), (12, .pointer (some ⟨B34, 0, none⟩)), (13, .int .i64 t13)]) (fun s => [.sl a2 1 counts.length (fun i_ => intCells (nth counts 0 i_)), .blk B34 [.slice s.2.1 s.1.length s.2.2, .int .i64 r_15.mass.lo, .int .i64 r_15.mass.hi, .int .i64 r_15.target.a.lo, .int .i64 r_15.target.a.hi, .int .i64 r_15.target.b.lo, .int .i64 r_15.target.b.hi, .int .i64 r_15.target.c.lo, .int .i64 r_15.target.c.hi] 28, owE Lot.cells Lot.zero s.2.1 s.2.2 43 9 s.1]) ?_ (fun s hI => ?_)
            · refine At.block ?_
              refine At.seq ?_
              obtain ⟨g105, h⟩ := gd h
              refine At.runR [(1, 0, 0), (2, 0, 0)] [1, 2, 7, 8, 10, 11, 12, 13, 14] [true, true, true] (.normal) ([(1, .slice a2 counts.length c2), (2, .int .u8 by_), (7, .int .i64 (fitsK r_ r_3)), (8, .int .i64 (weighE r_ r_3)), (10, .int .i64 (stC (bestM r_6))), (11, .int .i64 (bestE r_6)), (12, .pointer (some ⟨B34, 0, none⟩)), (13, .int .i64 t13), (14, .pointer (some ⟨slB a_x92, slO a_x92 + t13.toNat * 9, none⟩))]) [B34, 0] [IdxOk a_x92 a_x92 x91.length x91.length t13] (fun _ => by as_aux_lemma => kernel_rfl) ⟨inB_idx g105, trivial⟩ ?_
              refine Ends.seq ?_
              obtain ⟨o106, h, hr106⟩ := bd h
              refine At.seq_mid (σ := (List Lot) × (Option Addr) × Nat) (fun s => o106 = s.1) (fun s => [(1, .slice a2 counts.length c2), (2, .int .u8 by_), (7, .int .i64 (fitsK r_ r_3)), (8, .int .i64 (weighE r_ r_3)), (10, .int .i64 (stC (bestM r_6))), (11, .int .i64 (bestE r_6)), (12, .pointer (some ⟨B34, 0, none⟩)), (13, .int .i64 t13), (14, .pointer (some ⟨slB s.2.1, slO s.2.1 + t13.toNat * 9, none⟩))]) (fun s => [.sl a2 1 counts.length (fun i_ => intCells (nth counts 0 i_)), .blk B34 [.slice s.2.1 s.1.length s.2.2, .int .i64 r_15.mass.lo, .int .i64 r_15.mass.hi, .int .i64 r_15.target.a.lo, .int .i64 r_15.target.a.hi, .int .i64 r_15.target.b.lo, .int .i64 r_15.target.b.hi, .int .i64 r_15.target.c.lo, .int .i64 r_15.target.c.hi] 28, owE Lot.cells Lot.zero s.2.1 s.2.2 43 9 s.1]) ?_ (fun s hI => ?_)
              · refine At.seq ?_
                refine At.runR [] [1, 2, 7, 8, 10, 11, 12, 13, 14, 15] [true, true, true] (.normal) ([(1, .slice a2 counts.length c2), (2, .int .u8 by_), (7, .int .i64 (fitsK r_ r_3)), (8, .int .i64 (weighE r_ r_3)), (10, .int .i64 (stC (bestM r_6))), (11, .int .i64 (bestE r_6)), (12, .pointer (some ⟨B34, 0, none⟩)), (13, .int .i64 t13), (14, .pointer (some ⟨slB a_x92, slO a_x92 + t13.toNat * 9, none⟩)), (15, .int .i64 0)]) [] [] (fun _ => by as_aux_lemma => kernel_rfl) trivial ?_
                refine Ends.seq ?_
                refine At.block ?_
                refine At.unroll 13 ?_
                refine AtR.succ ?_
                refine At.seq ?_
                refine At.runR [] [1, 2, 7, 8, 10, 11, 12, 13, 14, 15] [true, true, true] (.normal) ([(1, .slice a2 counts.length c2), (2, .int .u8 by_), (7, .int .i64 (fitsK r_ r_3)), (8, .int .i64 (weighE r_ r_3)), (10, .int .i64 (stC (bestM r_6))), (11, .int .i64 (bestE r_6)), (12, .pointer (some ⟨B34, 0, none⟩)), (13, .int .i64 t13), (14, .pointer (some ⟨slB a_x92, slO a_x92 + t13.toNat * 9, none⟩)), (15, .int .i64 0)]) [] [] (fun _ => by as_aux_lemma => kernel_rfl) trivial ?_
                refine Ends.seq ?_
                obtain ⟨o113, h, hr113⟩ := bd h
                refine At.seq_mid (σ := (List Lot) × (Option Addr) × Nat) (fun s => o113 = s.1) (fun s => [(1, .slice a2 counts.length c2), (2, .int .u8 by_), (7, .int .i64 (fitsK r_ r_3)), (8, .int .i64 (weighE r_ r_3)), (10, .int .i64 (stC (bestM r_6))), (11, .int .i64 (bestE r_6)), (12, .pointer (some ⟨B34, 0, none⟩)), (13, .int .i64 t13), (14, .pointer (some ⟨slB s.2.1, slO s.2.1 + t13.toNat * 9, none⟩)), (15, .int .i64 0)]) (fun s => [.sl a2 1 counts.length (fun i_ => intCells (nth counts 0 i_)), .blk B34 [.slice s.2.1 s.1.length s.2.2, .int .i64 r_15.mass.lo, .int .i64 r_15.mass.hi, .int .i64 r_15.target.a.lo, .int .i64 r_15.target.a.hi, .int .i64 r_15.target.b.lo, .int .i64 r_15.target.b.hi, .int .i64 r_15.target.c.lo, .int .i64 r_15.target.c.hi] 28, owE Lot.cells Lot.zero s.2.1 s.2.2 43 9 s.1]) ?_ (fun s hI => ?_)
                · refine At.block ?_
                  obtain ⟨o171, h, hr171⟩ := bd h
                  refine At.seq_mid (σ := (List Lot) × (Option Addr) × Nat) (fun s => o171 = s.1) (fun s => [(1, .slice a2 counts.length c2), (2, .int .u8 by_), (7, .int .i64 (fitsK r_ r_3)), (8, .int .i64 (weighE r_ r_3)), (10, .int .i64 (stC (bestM r_6))), (11, .int .i64 (bestE r_6)), (12, .pointer (some ⟨B34, 0, none⟩)), (13, .int .i64 t13), (14, .pointer (some ⟨slB s.2.1, slO s.2.1 + t13.toNat * 9, none⟩)), (15, .int .i64 0)]) (fun s => [.sl a2 1 counts.length (fun i_ => intCells (nth counts 0 i_)), .blk B34 [.slice s.2.1 s.1.length s.2.2, .int .i64 r_15.mass.lo, .int .i64 r_15.mass.hi, .int .i64 r_15.target.a.lo, .int .i64 r_15.target.a.hi, .int .i64 r_15.target.b.lo, .int .i64 r_15.target.b.hi, .int .i64 r_15.target.c.lo, .int .i64 r_15.target.c.hi] 28, owE Lot.cells Lot.zero s.2.1 s.2.2 43 9 s.1]) ?_ (fun s hI => ?_)
                  · refine At.seq ?_
                    refine At.run [(2, 2, t13.toNat), (2, 3, t13.toNat), (3, 0, 0), (3, 1, 0)] [1, 2, 7, 8, 10, 11, 12, 13, 14, 15, 16] [true, true, true, true] (.normal) (fun B347 => [(1, .slice a2 counts.length c2), (2, .int .u8 by_), (7, .int .i64 (fitsK r_ r_3)), (8, .int .i64 (weighE r_ r_3)), (10, .int .i64 (stC (bestM r_6))), (11, .int .i64 (bestE r_6)), (12, .pointer (some ⟨B34, 0, none⟩)), (13, .int .i64 t13), (14, .pointer (some ⟨slB a_x92, slO a_x92 + t13.toNat * 9, none⟩)), (15, .int .i64 0), (16, .pointer (some ⟨B347, 0, none⟩))]) (fun B347 => [.sl a2 1 counts.length (fun i_ => intCells (nth counts 0 i_)), .blk B34 [.slice a_x92 x91.length c_x93, .int .i64 r_15.mass.lo, .int .i64 r_15.mass.hi, .int .i64 r_15.target.a.lo, .int .i64 r_15.target.a.hi, .int .i64 r_15.target.b.lo, .int .i64 r_15.target.b.hi, .int .i64 r_15.target.c.lo, .int .i64 r_15.target.c.hi] 28, owE Lot.cells Lot.zero a_x92 c_x93 43 9 x91, .blk B347 [.int .i64 ((((nth x91 Lot.zero t13.toNat).con).a).lo), .int .i64 ((((nth x91 Lot.zero t13.toNat).con).a).hi)] 24]) (fun B347 => [slB a_x92, slO a_x92 + t13.toNat * 9 + 2, slB a_x92, slO a_x92 + t13.toNat * 9 + 3, B347, 0, B347, 1]) (fun B347 => [t13.toNat < x91.length, t13.toNat < x91.length]) (fun B347 => by as_aux_lemma => kernel_rfl) (fun B347 => ⟨inB_lt g105, inB_lt g105, trivial⟩) (fun B347 => ?_)
                    refine Ends.seq ?_
                    obtain ⟨o182, h, hr182⟩ := bd h
                    refine At.seq_mid (σ := Bool) (fun s => o182 = s) (fun s => [(1, .slice a2 counts.length c2), (2, .int .u8 by_), (7, .int .i64 (fitsK r_ r_3)), (8, .int .i64 (weighE r_ r_3)), (10, .int .i64 (stC (bestM r_6))), (11, .int .i64 (bestE r_6)), (12, .pointer (some ⟨B34, 0, none⟩)), (13, .int .i64 t13), (14, .pointer (some ⟨slB a_x92, slO a_x92 + t13.toNat * 9, none⟩)), (15, .int .i64 0), (81, .bool s)]) (fun s => [.sl a2 1 counts.length (fun i_ => intCells (nth counts 0 i_)), .blk B34 [.slice a_x92 x91.length c_x93, .int .i64 r_15.mass.lo, .int .i64 r_15.mass.hi, .int .i64 r_15.target.a.lo, .int .i64 r_15.target.a.hi, .int .i64 r_15.target.b.lo, .int .i64 r_15.target.b.hi, .int .i64 r_15.target.c.lo, .int .i64 r_15.target.c.hi] 28, owE Lot.cells Lot.zero a_x92 c_x93 43 9 x91]) ?_ (fun s hI => ?_)
                    · refine At.region ?_
                      refine AtL.runR 4 [] [1, 2, 7, 8, 10, 11, 12, 13, 14, 15, 16, 75] [true, true, true, true] ([(1, .slice a2 counts.length c2), (2, .int .u8 by_), (7, .int .i64 (fitsK r_ r_3)), (8, .int .i64 (weighE r_ r_3)), (10, .int .i64 (stC (bestM r_6))), (11, .int .i64 (bestE r_6)), (12, .pointer (some ⟨B34, 0, none⟩)), (13, .int .i64 t13), (14, .pointer (some ⟨slB a_x92, slO a_x92 + t13.toNat * 9, none⟩)), (15, .int .i64 0), (16, .pointer (some ⟨B347, 0, none⟩)), (75, .bool ((bitAnd .u8 by_ (1 : Int)) == (1 : Int)))]) [] [] (fun _ => by as_aux_lemma => kernel_rfl) trivial ?_
                      refine AtL.bool 75 ((bitAnd .u8 by_ (1 : Int)) == (1 : Int)) (by kernel_rfl) (fun hc185 => ?_) (fun hc185 => ?_)
                      · have h := br_t h hc185
                        refine AtL.runR 6 [(3, 0, 0), (3, 1, 0)] [1, 2, 7, 8, 10, 11, 12, 13, 14, 15, 81] [true, true, true, true] ([(1, .slice a2 counts.length c2), (2, .int .u8 by_), (7, .int .i64 (fitsK r_ r_3)), (8, .int .i64 (weighE r_ r_3)), (10, .int .i64 (stC (bestM r_6))), (11, .int .i64 (bestE r_6)), (12, .pointer (some ⟨B34, 0, none⟩)), (13, .int .i64 t13), (14, .pointer (some ⟨slB a_x92, slO a_x92 + t13.toNat * 9, none⟩)), (15, .int .i64 0), (81, .bool (decide (((((nth x91 Lot.zero t13.toNat).con).a).lo) < ((((nth x91 Lot.zero t13.toNat).con).a).hi))))]) [B347, 0, B347, 1] [] (fun _ => by as_aux_lemma => kernel_rfl) trivial ?_
                        refine AtL.nil (by kernel_rfl) ?_
                        refine Ends.sel [1, 2, 7, 8, 10, 11, 12, 13, 14, 15, 81] [0, 1, 2] ([(1, .slice a2 counts.length c2), (2, .int .u8 by_), (7, .int .i64 (fitsK r_ r_3)), (8, .int .i64 (weighE r_ r_3)), (10, .int .i64 (stC (bestM r_6))), (11, .int .i64 (bestE r_6)), (12, .pointer (some ⟨B34, 0, none⟩)), (13, .int .i64 t13), (14, .pointer (some ⟨slB a_x92, slO a_x92 + t13.toNat * 9, none⟩)), (15, .int .i64 0), (81, .bool (decide (((((nth x91 Lot.zero t13.toNat).con).a).lo) < ((((nth x91 Lot.zero t13.toNat).con).a).hi))))]) ([.sl a2 1 counts.length (fun i_ => intCells (nth counts 0 i_)), .blk B34 [.slice a_x92 x91.length c_x93, .int .i64 r_15.mass.lo, .int .i64 r_15.mass.hi, .int .i64 r_15.target.a.lo, .int .i64 r_15.target.a.hi, .int .i64 r_15.target.b.lo, .int .i64 r_15.target.b.hi, .int .i64 r_15.target.c.lo, .int .i64 r_15.target.c.hi] 28, owE Lot.cells Lot.zero a_x92 c_x93 43 9 x91]) (by kernel_rfl) (by kernel_rfl) (by kernel_rfl) ?_
                        exact Ends.mid (decide (((((nth x91 Lot.zero t13.toNat).con).a).lo) < ((((nth x91 Lot.zero t13.toNat).con).a).hi))) (Option.some.inj h).symm (by kernel_rfl) (by kernel_rfl)
                      · have h := br_f h hc185
                        refine AtL.runR 6 [] [1, 2, 7, 8, 10, 11, 12, 13, 14, 15, 81] [true, true, true, true] ([(1, .slice a2 counts.length c2), (2, .int .u8 by_), (7, .int .i64 (fitsK r_ r_3)), (8, .int .i64 (weighE r_ r_3)), (10, .int .i64 (stC (bestM r_6))), (11, .int .i64 (bestE r_6)), (12, .pointer (some ⟨B34, 0, none⟩)), (13, .int .i64 t13), (14, .pointer (some ⟨slB a_x92, slO a_x92 + t13.toNat * 9, none⟩)), (15, .int .i64 0), (81, .bool false)]) [] [] (fun _ => by as_aux_lemma => kernel_rfl) trivial ?_
                        refine AtL.nil (by kernel_rfl) ?_
                        refine Ends.sel [1, 2, 7, 8, 10, 11, 12, 13, 14, 15, 81] [0, 1, 2] ([(1, .slice a2 counts.length c2), (2, .int .u8 by_), (7, .int .i64 (fitsK r_ r_3)), (8, .int .i64 (weighE r_ r_3)), (10, .int .i64 (stC (bestM r_6))), (11, .int .i64 (bestE r_6)), (12, .pointer (some ⟨B34, 0, none⟩)), (13, .int .i64 t13), (14, .pointer (some ⟨slB a_x92, slO a_x92 + t13.toNat * 9, none⟩)), (15, .int .i64 0), (81, .bool false)]) ([.sl a2 1 counts.length (fun i_ => intCells (nth counts 0 i_)), .blk B34 [.slice a_x92 x91.length c_x93, .int .i64 r_15.mass.lo, .int .i64 r_15.mass.hi, .int .i64 r_15.target.a.lo, .int .i64 r_15.target.a.hi, .int .i64 r_15.target.b.lo, .int .i64 r_15.target.b.hi, .int .i64 r_15.target.c.lo, .int .i64 r_15.target.c.hi] 28, owE Lot.cells Lot.zero a_x92 c_x93 43 9 x91]) (by kernel_rfl) (by kernel_rfl) (by kernel_rfl) ?_
                        exact Ends.mid false (Option.some.inj h).symm (by kernel_rfl) (by kernel_rfl)
                    · revert hI; revert s; intro t81183 hI
                      replace hI : o182 = t81183 := hI
                      have h := hr182
                      try rw [hI] at h
                      refine At.cond (t81183) (by kernel_rfl) (fun hc184 => ?_) (fun hc184 => ?_)
                      · have h := br_t h hc184
                        refine At.plan ([.sl a2 1 counts.length (fun i_ => intCells (nth counts 0 i_)), .blk B34 [.slice a_x92 x91.length c_x93, .int .i64 r_15.mass.lo, .int .i64 r_15.mass.hi, .int .i64 r_15.target.a.lo, .int .i64 r_15.target.a.hi, .int .i64 r_15.target.b.lo, .int .i64 r_15.target.b.hi, .int .i64 r_15.target.c.lo, .int .i64 r_15.target.c.hi] 28, owE Lot.cells Lot.zero a_x92 c_x93 43 9 x91]) [0, 1, 2] (by kernel_rfl) (by kernel_rfl) [.st [0, 1, 2, 3, 4, 5, 6, 7, 8, 9, 10, 11], .tl [12]] (by kernel_rfl) (by kernel_rfl) ?_
                        refine AtP.st ?_
                        refine AtY.run 12 [(2, 2, t13.toNat)] [1, 2, 7, 8, 10, 11, 12, 13, 14, 15, 89, 93] ([(1, .slice a2 counts.length c2), (2, .int .u8 by_), (7, .int .i64 (fitsK r_ r_3)), (8, .int .i64 (weighE r_ r_3)), (10, .int .i64 (stC (bestM r_6))), (11, .int .i64 (bestE r_6)), (12, .pointer (some ⟨B34, 0, none⟩)), (13, .int .i64 t13), (14, .pointer (some ⟨slB a_x92, slO a_x92 + t13.toNat * 9, none⟩)), (15, .int .i64 0), (89, .int .i64 (IntKind.i64.wrap (((((nth x91 Lot.zero t13.toNat).con).a).lo) + (1 : Int)))), (93, .pointer (some ⟨slB a_x92, slO a_x92 + t13.toNat * 9 + 2, none⟩))]) [slB a_x92, slO a_x92 + t13.toNat * 9 + 2] [t13.toNat < x91.length] (by as_aux_lemma => kernel_rfl) ⟨inB_lt g105, trivial⟩ ?_
                        refine AtY.nil (by kernel_rfl) ?_
                        refine AtP.tl ?_
                        refine AtL.storeOw 2 Lot.zero a_x92 c_x93 43 9 x91 (by kernel_rfl) xlen43 t13.toNat (inB_lt g105) 2 (by decide) (⟨(nth x91 Lot.zero t13.toNat).count, (nth x91 Lot.zero t13.toNat).mass, (⟨(⟨IntKind.i64.wrap (((((nth x91 Lot.zero t13.toNat).con).a).lo) + (1 : Int)), (((nth x91 Lot.zero t13.toNat).con).a).hi⟩ : Rng), (((nth x91 Lot.zero t13.toNat).con).b), (((nth x91 Lot.zero t13.toNat).con).c)⟩ : Bnds), (nth x91 Lot.zero t13.toNat).cost⟩ : Lot) (.int .i64 (IntKind.i64.wrap (((((nth x91 Lot.zero t13.toNat).con).a).lo) + (1 : Int)))) (by kernel_rfl) ⟨slB a_x92, slO a_x92 + t13.toNat * 9 + 2, none⟩ (by kernel_rfl) (by kernel_rfl) ?_
                        refine AtL.fit2 ([(1, .slice a2 counts.length c2), (2, .int .u8 by_), (7, .int .i64 (fitsK r_ r_3)), (8, .int .i64 (weighE r_ r_3)), (10, .int .i64 (stC (bestM r_6))), (11, .int .i64 (bestE r_6)), (12, .pointer (some ⟨B34, 0, none⟩)), (13, .int .i64 t13), (14, .pointer (some ⟨slB a_x92, slO a_x92 + t13.toNat * 9, none⟩)), (15, .int .i64 0), (89, .int .i64 (IntKind.i64.wrap (((((nth x91 Lot.zero t13.toNat).con).a).lo) + (1 : Int)))), (93, .pointer (some ⟨slB a_x92, slO a_x92 + t13.toNat * 9 + 2, none⟩))]) ([.sl a2 1 counts.length (fun i_ => intCells (nth counts 0 i_)), .blk B34 [.slice a_x92 ((x91.set t13.toNat (⟨(nth x91 Lot.zero t13.toNat).count, (nth x91 Lot.zero t13.toNat).mass, (⟨(⟨IntKind.i64.wrap (((((nth x91 Lot.zero t13.toNat).con).a).lo) + (1 : Int)), (((nth x91 Lot.zero t13.toNat).con).a).hi⟩ : Rng), (((nth x91 Lot.zero t13.toNat).con).b), (((nth x91 Lot.zero t13.toNat).con).c)⟩ : Bnds), (nth x91 Lot.zero t13.toNat).cost⟩ : Lot)).length) c_x93, .int .i64 r_15.mass.lo, .int .i64 r_15.mass.hi, .int .i64 r_15.target.a.lo, .int .i64 r_15.target.a.hi, .int .i64 r_15.target.b.lo, .int .i64 r_15.target.b.hi, .int .i64 r_15.target.c.lo, .int .i64 r_15.target.c.hi] 28, owE Lot.cells Lot.zero a_x92 c_x93 43 9 (x91.set t13.toNat (⟨(nth x91 Lot.zero t13.toNat).count, (nth x91 Lot.zero t13.toNat).mass, (⟨(⟨IntKind.i64.wrap (((((nth x91 Lot.zero t13.toNat).con).a).lo) + (1 : Int)), (((nth x91 Lot.zero t13.toNat).con).a).hi⟩ : Rng), (((nth x91 Lot.zero t13.toNat).con).b), (((nth x91 Lot.zero t13.toNat).con).c)⟩ : Bnds), (nth x91 Lot.zero t13.toNat).cost⟩ : Lot))]) (by kernel_rfl) (by simp only [List.length_set, List.set_cons_zero, List.set_cons_succ]) ?_
                        refine AtL.nil (by kernel_rfl) ?_
                        refine Ends.tl ?_
                        refine AtP.nil ?_
                        refine Ends.weak [1, 2, 7, 8, 10, 11, 12, 13, 14, 15] [true, true, true] ([(1, .slice a2 counts.length c2), (2, .int .u8 by_), (7, .int .i64 (fitsK r_ r_3)), (8, .int .i64 (weighE r_ r_3)), (10, .int .i64 (stC (bestM r_6))), (11, .int .i64 (bestE r_6)), (12, .pointer (some ⟨B34, 0, none⟩)), (13, .int .i64 t13), (14, .pointer (some ⟨slB a_x92, slO a_x92 + t13.toNat * 9, none⟩)), (15, .int .i64 0)]) ([.sl a2 1 counts.length (fun i_ => intCells (nth counts 0 i_)), .blk B34 [.slice a_x92 ((x91.set t13.toNat (⟨(nth x91 Lot.zero t13.toNat).count, (nth x91 Lot.zero t13.toNat).mass, (⟨(⟨IntKind.i64.wrap (((((nth x91 Lot.zero t13.toNat).con).a).lo) + (1 : Int)), (((nth x91 Lot.zero t13.toNat).con).a).hi⟩ : Rng), (((nth x91 Lot.zero t13.toNat).con).b), (((nth x91 Lot.zero t13.toNat).con).c)⟩ : Bnds), (nth x91 Lot.zero t13.toNat).cost⟩ : Lot)).length) c_x93, .int .i64 r_15.mass.lo, .int .i64 r_15.mass.hi, .int .i64 r_15.target.a.lo, .int .i64 r_15.target.a.hi, .int .i64 r_15.target.b.lo, .int .i64 r_15.target.b.hi, .int .i64 r_15.target.c.lo, .int .i64 r_15.target.c.hi] 28, owE Lot.cells Lot.zero a_x92 c_x93 43 9 (x91.set t13.toNat (⟨(nth x91 Lot.zero t13.toNat).count, (nth x91 Lot.zero t13.toNat).mass, (⟨(⟨IntKind.i64.wrap (((((nth x91 Lot.zero t13.toNat).con).a).lo) + (1 : Int)), (((nth x91 Lot.zero t13.toNat).con).a).hi⟩ : Rng), (((nth x91 Lot.zero t13.toNat).con).b), (((nth x91 Lot.zero t13.toNat).con).c)⟩ : Bnds), (nth x91 Lot.zero t13.toNat).cost⟩ : Lot))]) (by kernel_rfl) (by kernel_rfl) ?_
                        exact Ends.mid ((x91.set t13.toNat (⟨(nth x91 Lot.zero t13.toNat).count, (nth x91 Lot.zero t13.toNat).mass, (⟨(⟨IntKind.i64.wrap (((((nth x91 Lot.zero t13.toNat).con).a).lo) + (1 : Int)), (((nth x91 Lot.zero t13.toNat).con).a).hi⟩ : Rng), (((nth x91 Lot.zero t13.toNat).con).b), (((nth x91 Lot.zero t13.toNat).con).c)⟩ : Bnds), (nth x91 Lot.zero t13.toNat).cost⟩ : Lot)), a_x92, c_x93) (Option.some.inj h).symm (by kernel_rfl) (by kernel_rfl)
                      · have h := br_f h hc184
                        refine At.runR [] [1, 2, 7, 8, 10, 11, 12, 13, 14, 15] [true, true, true] (.normal) ([(1, .slice a2 counts.length c2), (2, .int .u8 by_), (7, .int .i64 (fitsK r_ r_3)), (8, .int .i64 (weighE r_ r_3)), (10, .int .i64 (stC (bestM r_6))), (11, .int .i64 (bestE r_6)), (12, .pointer (some ⟨B34, 0, none⟩)), (13, .int .i64 t13), (14, .pointer (some ⟨slB a_x92, slO a_x92 + t13.toNat * 9, none⟩)), (15, .int .i64 0)]) [] [] (fun _ => by as_aux_lemma => kernel_rfl) trivial ?_
                        exact Ends.mid (x91, a_x92, c_x93) (Option.some.inj h).symm (by kernel_rfl) (by kernel_rfl)
                  · obtain ⟨t14172, a_t14173, c_t14174⟩ := s
                    replace hI : o171 = t14172 := hI
                    have h := hr171
                    try rw [hI] at h
                    refine At.seq ?_
                    obtain ⟨g177, h⟩ := gd h
                    refine At.run [(2, 2, t13.toNat), (2, 3, t13.toNat), (3, 0, 0), (3, 1, 0)] [1, 2, 7, 8, 10, 11, 12, 13, 14, 15, 17] [true, true, true, true] (.normal) (fun B332 => [(1, .slice a2 counts.length c2), (2, .int .u8 by_), (7, .int .i64 (fitsK r_ r_3)), (8, .int .i64 (weighE r_ r_3)), (10, .int .i64 (stC (bestM r_6))), (11, .int .i64 (bestE r_6)), (12, .pointer (some ⟨B34, 0, none⟩)), (13, .int .i64 t13), (14, .pointer (some ⟨slB a_t14173, slO a_t14173 + t13.toNat * 9, none⟩)), (15, .int .i64 0), (17, .pointer (some ⟨B332, 0, none⟩))]) (fun B332 => [.sl a2 1 counts.length (fun i_ => intCells (nth counts 0 i_)), .blk B34 [.slice a_t14173 t14172.length c_t14174, .int .i64 r_15.mass.lo, .int .i64 r_15.mass.hi, .int .i64 r_15.target.a.lo, .int .i64 r_15.target.a.hi, .int .i64 r_15.target.b.lo, .int .i64 r_15.target.b.hi, .int .i64 r_15.target.c.lo, .int .i64 r_15.target.c.hi] 28, owE Lot.cells Lot.zero a_t14173 c_t14174 43 9 t14172, .blk B332 [.int .i64 ((((nth t14172 Lot.zero t13.toNat).con).a).lo), .int .i64 ((((nth t14172 Lot.zero t13.toNat).con).a).hi)] 24]) (fun B332 => [slB a_t14173, slO a_t14173 + t13.toNat * 9 + 2, slB a_t14173, slO a_t14173 + t13.toNat * 9 + 3, B332, 0, B332, 1]) (fun B332 => [t13.toNat < t14172.length, t13.toNat < t14172.length]) (fun B332 => by as_aux_lemma => kernel_rfl) (fun B332 => ⟨inB_lt g177, inB_lt g177, trivial⟩) (fun B332 => ?_)
                    refine Ends.seq ?_
                    obtain ⟨o178, h, hr178⟩ := bd h
                    refine At.seq_mid (σ := Bool) (fun s => o178 = s) (fun s => [(1, .slice a2 counts.length c2), (2, .int .u8 by_), (7, .int .i64 (fitsK r_ r_3)), (8, .int .i64 (weighE r_ r_3)), (10, .int .i64 (stC (bestM r_6))), (11, .int .i64 (bestE r_6)), (12, .pointer (some ⟨B34, 0, none⟩)), (13, .int .i64 t13), (14, .pointer (some ⟨slB a_t14173, slO a_t14173 + t13.toNat * 9, none⟩)), (15, .int .i64 0), (109, .bool s)]) (fun s => [.sl a2 1 counts.length (fun i_ => intCells (nth counts 0 i_)), .blk B34 [.slice a_t14173 t14172.length c_t14174, .int .i64 r_15.mass.lo, .int .i64 r_15.mass.hi, .int .i64 r_15.target.a.lo, .int .i64 r_15.target.a.hi, .int .i64 r_15.target.b.lo, .int .i64 r_15.target.b.hi, .int .i64 r_15.target.c.lo, .int .i64 r_15.target.c.hi] 28, owE Lot.cells Lot.zero a_t14173 c_t14174 43 9 t14172]) ?_ (fun s hI => ?_)
                    · refine At.region ?_
                      refine AtL.runR 4 [] [1, 2, 7, 8, 10, 11, 12, 13, 14, 15, 17, 103] [true, true, true, true] ([(1, .slice a2 counts.length c2), (2, .int .u8 by_), (7, .int .i64 (fitsK r_ r_3)), (8, .int .i64 (weighE r_ r_3)), (10, .int .i64 (stC (bestM r_6))), (11, .int .i64 (bestE r_6)), (12, .pointer (some ⟨B34, 0, none⟩)), (13, .int .i64 t13), (14, .pointer (some ⟨slB a_t14173, slO a_t14173 + t13.toNat * 9, none⟩)), (15, .int .i64 0), (17, .pointer (some ⟨B332, 0, none⟩)), (103, .bool ((bitAnd .u8 by_ (2 : Int)) == (2 : Int)))]) [] [] (fun _ => by as_aux_lemma => kernel_rfl) trivial ?_
                      refine AtL.bool 103 ((bitAnd .u8 by_ (2 : Int)) == (2 : Int)) (by kernel_rfl) (fun hc181 => ?_) (fun hc181 => ?_)
                      · have h := br_t h hc181
                        refine AtL.runR 6 [(3, 0, 0), (3, 1, 0)] [1, 2, 7, 8, 10, 11, 12, 13, 14, 15, 109] [true, true, true, true] ([(1, .slice a2 counts.length c2), (2, .int .u8 by_), (7, .int .i64 (fitsK r_ r_3)), (8, .int .i64 (weighE r_ r_3)), (10, .int .i64 (stC (bestM r_6))), (11, .int .i64 (bestE r_6)), (12, .pointer (some ⟨B34, 0, none⟩)), (13, .int .i64 t13), (14, .pointer (some ⟨slB a_t14173, slO a_t14173 + t13.toNat * 9, none⟩)), (15, .int .i64 0), (109, .bool (decide (((((nth t14172 Lot.zero t13.toNat).con).a).lo) < ((((nth t14172 Lot.zero t13.toNat).con).a).hi))))]) [B332, 0, B332, 1] [] (fun _ => by as_aux_lemma => kernel_rfl) trivial ?_
                        refine AtL.nil (by kernel_rfl) ?_
                        refine Ends.sel [1, 2, 7, 8, 10, 11, 12, 13, 14, 15, 109] [0, 1, 2] ([(1, .slice a2 counts.length c2), (2, .int .u8 by_), (7, .int .i64 (fitsK r_ r_3)), (8, .int .i64 (weighE r_ r_3)), (10, .int .i64 (stC (bestM r_6))), (11, .int .i64 (bestE r_6)), (12, .pointer (some ⟨B34, 0, none⟩)), (13, .int .i64 t13), (14, .pointer (some ⟨slB a_t14173, slO a_t14173 + t13.toNat * 9, none⟩)), (15, .int .i64 0), (109, .bool (decide (((((nth t14172 Lot.zero t13.toNat).con).a).lo) < ((((nth t14172 Lot.zero t13.toNat).con).a).hi))))]) ([.sl a2 1 counts.length (fun i_ => intCells (nth counts 0 i_)), .blk B34 [.slice a_t14173 t14172.length c_t14174, .int .i64 r_15.mass.lo, .int .i64 r_15.mass.hi, .int .i64 r_15.target.a.lo, .int .i64 r_15.target.a.hi, .int .i64 r_15.target.b.lo, .int .i64 r_15.target.b.hi, .int .i64 r_15.target.c.lo, .int .i64 r_15.target.c.hi] 28, owE Lot.cells Lot.zero a_t14173 c_t14174 43 9 t14172]) (by kernel_rfl) (by kernel_rfl) (by kernel_rfl) ?_
                        exact Ends.mid (decide (((((nth t14172 Lot.zero t13.toNat).con).a).lo) < ((((nth t14172 Lot.zero t13.toNat).con).a).hi))) (Option.some.inj h).symm (by kernel_rfl) (by kernel_rfl)
                      · have h := br_f h hc181
                        refine AtL.runR 6 [] [1, 2, 7, 8, 10, 11, 12, 13, 14, 15, 109] [true, true, true, true] ([(1, .slice a2 counts.length c2), (2, .int .u8 by_), (7, .int .i64 (fitsK r_ r_3)), (8, .int .i64 (weighE r_ r_3)), (10, .int .i64 (stC (bestM r_6))), (11, .int .i64 (bestE r_6)), (12, .pointer (some ⟨B34, 0, none⟩)), (13, .int .i64 t13), (14, .pointer (some ⟨slB a_t14173, slO a_t14173 + t13.toNat * 9, none⟩)), (15, .int .i64 0), (109, .bool false)]) [] [] (fun _ => by as_aux_lemma => kernel_rfl) trivial ?_
                        refine AtL.nil (by kernel_rfl) ?_
                        refine Ends.sel [1, 2, 7, 8, 10, 11, 12, 13, 14, 15, 109] [0, 1, 2] ([(1, .slice a2 counts.length c2), (2, .int .u8 by_), (7, .int .i64 (fitsK r_ r_3)), (8, .int .i64 (weighE r_ r_3)), (10, .int .i64 (stC (bestM r_6))), (11, .int .i64 (bestE r_6)), (12, .pointer (some ⟨B34, 0, none⟩)), (13, .int .i64 t13), (14, .pointer (some ⟨slB a_t14173, slO a_t14173 + t13.toNat * 9, none⟩)), (15, .int .i64 0), (109, .bool false)]) ([.sl a2 1 counts.length (fun i_ => intCells (nth counts 0 i_)), .blk B34 [.slice a_t14173 t14172.length c_t14174, .int .i64 r_15.mass.lo, .int .i64 r_15.mass.hi, .int .i64 r_15.target.a.lo, .int .i64 r_15.target.a.hi, .int .i64 r_15.target.b.lo, .int .i64 r_15.target.b.hi, .int .i64 r_15.target.c.lo, .int .i64 r_15.target.c.hi] 28, owE Lot.cells Lot.zero a_t14173 c_t14174 43 9 t14172]) (by kernel_rfl) (by kernel_rfl) (by kernel_rfl) ?_
                        exact Ends.mid false (Option.some.inj h).symm (by kernel_rfl) (by kernel_rfl)
                    · revert hI; revert s; intro t109179 hI
                      replace hI : o178 = t109179 := hI
                      have h := hr178
                      try rw [hI] at h
                      refine At.cond (t109179) (by kernel_rfl) (fun hc180 => ?_) (fun hc180 => ?_)
                      · have h := br_t h hc180
                        refine At.plan ([.sl a2 1 counts.length (fun i_ => intCells (nth counts 0 i_)), .blk B34 [.slice a_t14173 t14172.length c_t14174, .int .i64 r_15.mass.lo, .int .i64 r_15.mass.hi, .int .i64 r_15.target.a.lo, .int .i64 r_15.target.a.hi, .int .i64 r_15.target.b.lo, .int .i64 r_15.target.b.hi, .int .i64 r_15.target.c.lo, .int .i64 r_15.target.c.hi] 28, owE Lot.cells Lot.zero a_t14173 c_t14174 43 9 t14172]) [0, 1, 2] (by kernel_rfl) (by kernel_rfl) [.st [0, 1, 2, 3, 4, 5, 6, 7, 8, 9, 10, 11], .tl [12]] (by kernel_rfl) (by kernel_rfl) ?_
                        refine AtP.st ?_
                        refine AtY.run 12 [(2, 3, t13.toNat)] [1, 2, 7, 8, 10, 11, 12, 13, 14, 15, 117, 121] ([(1, .slice a2 counts.length c2), (2, .int .u8 by_), (7, .int .i64 (fitsK r_ r_3)), (8, .int .i64 (weighE r_ r_3)), (10, .int .i64 (stC (bestM r_6))), (11, .int .i64 (bestE r_6)), (12, .pointer (some ⟨B34, 0, none⟩)), (13, .int .i64 t13), (14, .pointer (some ⟨slB a_t14173, slO a_t14173 + t13.toNat * 9, none⟩)), (15, .int .i64 0), (117, .int .i64 (IntKind.i64.wrap (((((nth t14172 Lot.zero t13.toNat).con).a).hi) - (1 : Int)))), (121, .pointer (some ⟨slB a_t14173, slO a_t14173 + t13.toNat * 9 + 3, none⟩))]) [slB a_t14173, slO a_t14173 + t13.toNat * 9 + 3] [t13.toNat < t14172.length] (by as_aux_lemma => kernel_rfl) ⟨inB_lt g177, trivial⟩ ?_
                        refine AtY.nil (by kernel_rfl) ?_
                        refine AtP.tl ?_
                        refine AtL.storeOw 2 Lot.zero a_t14173 c_t14174 43 9 t14172 (by kernel_rfl) xlen43 t13.toNat (inB_lt g177) 3 (by decide) (⟨(nth t14172 Lot.zero t13.toNat).count, (nth t14172 Lot.zero t13.toNat).mass, (⟨(⟨(((nth t14172 Lot.zero t13.toNat).con).a).lo, IntKind.i64.wrap (((((nth t14172 Lot.zero t13.toNat).con).a).hi) - (1 : Int))⟩ : Rng), (((nth t14172 Lot.zero t13.toNat).con).b), (((nth t14172 Lot.zero t13.toNat).con).c)⟩ : Bnds), (nth t14172 Lot.zero t13.toNat).cost⟩ : Lot) (.int .i64 (IntKind.i64.wrap (((((nth t14172 Lot.zero t13.toNat).con).a).hi) - (1 : Int)))) (by kernel_rfl) ⟨slB a_t14173, slO a_t14173 + t13.toNat * 9 + 3, none⟩ (by kernel_rfl) (by kernel_rfl) ?_
                        refine AtL.fit2 ([(1, .slice a2 counts.length c2), (2, .int .u8 by_), (7, .int .i64 (fitsK r_ r_3)), (8, .int .i64 (weighE r_ r_3)), (10, .int .i64 (stC (bestM r_6))), (11, .int .i64 (bestE r_6)), (12, .pointer (some ⟨B34, 0, none⟩)), (13, .int .i64 t13), (14, .pointer (some ⟨slB a_t14173, slO a_t14173 + t13.toNat * 9, none⟩)), (15, .int .i64 0), (117, .int .i64 (IntKind.i64.wrap (((((nth t14172 Lot.zero t13.toNat).con).a).hi) - (1 : Int)))), (121, .pointer (some ⟨slB a_t14173, slO a_t14173 + t13.toNat * 9 + 3, none⟩))]) ([.sl a2 1 counts.length (fun i_ => intCells (nth counts 0 i_)), .blk B34 [.slice a_t14173 ((t14172.set t13.toNat (⟨(nth t14172 Lot.zero t13.toNat).count, (nth t14172 Lot.zero t13.toNat).mass, (⟨(⟨(((nth t14172 Lot.zero t13.toNat).con).a).lo, IntKind.i64.wrap (((((nth t14172 Lot.zero t13.toNat).con).a).hi) - (1 : Int))⟩ : Rng), (((nth t14172 Lot.zero t13.toNat).con).b), (((nth t14172 Lot.zero t13.toNat).con).c)⟩ : Bnds), (nth t14172 Lot.zero t13.toNat).cost⟩ : Lot)).length) c_t14174, .int .i64 r_15.mass.lo, .int .i64 r_15.mass.hi, .int .i64 r_15.target.a.lo, .int .i64 r_15.target.a.hi, .int .i64 r_15.target.b.lo, .int .i64 r_15.target.b.hi, .int .i64 r_15.target.c.lo, .int .i64 r_15.target.c.hi] 28, owE Lot.cells Lot.zero a_t14173 c_t14174 43 9 (t14172.set t13.toNat (⟨(nth t14172 Lot.zero t13.toNat).count, (nth t14172 Lot.zero t13.toNat).mass, (⟨(⟨(((nth t14172 Lot.zero t13.toNat).con).a).lo, IntKind.i64.wrap (((((nth t14172 Lot.zero t13.toNat).con).a).hi) - (1 : Int))⟩ : Rng), (((nth t14172 Lot.zero t13.toNat).con).b), (((nth t14172 Lot.zero t13.toNat).con).c)⟩ : Bnds), (nth t14172 Lot.zero t13.toNat).cost⟩ : Lot))]) (by kernel_rfl) (by simp only [List.length_set, List.set_cons_zero, List.set_cons_succ]) ?_
                        refine AtL.nil (by kernel_rfl) ?_
                        refine Ends.tl ?_
                        refine AtP.nil ?_
                        refine Ends.weak [1, 2, 7, 8, 10, 11, 12, 13, 14, 15] [true, true, true] ([(1, .slice a2 counts.length c2), (2, .int .u8 by_), (7, .int .i64 (fitsK r_ r_3)), (8, .int .i64 (weighE r_ r_3)), (10, .int .i64 (stC (bestM r_6))), (11, .int .i64 (bestE r_6)), (12, .pointer (some ⟨B34, 0, none⟩)), (13, .int .i64 t13), (14, .pointer (some ⟨slB a_t14173, slO a_t14173 + t13.toNat * 9, none⟩)), (15, .int .i64 0)]) ([.sl a2 1 counts.length (fun i_ => intCells (nth counts 0 i_)), .blk B34 [.slice a_t14173 ((t14172.set t13.toNat (⟨(nth t14172 Lot.zero t13.toNat).count, (nth t14172 Lot.zero t13.toNat).mass, (⟨(⟨(((nth t14172 Lot.zero t13.toNat).con).a).lo, IntKind.i64.wrap (((((nth t14172 Lot.zero t13.toNat).con).a).hi) - (1 : Int))⟩ : Rng), (((nth t14172 Lot.zero t13.toNat).con).b), (((nth t14172 Lot.zero t13.toNat).con).c)⟩ : Bnds), (nth t14172 Lot.zero t13.toNat).cost⟩ : Lot)).length) c_t14174, .int .i64 r_15.mass.lo, .int .i64 r_15.mass.hi, .int .i64 r_15.target.a.lo, .int .i64 r_15.target.a.hi, .int .i64 r_15.target.b.lo, .int .i64 r_15.target.b.hi, .int .i64 r_15.target.c.lo, .int .i64 r_15.target.c.hi] 28, owE Lot.cells Lot.zero a_t14173 c_t14174 43 9 (t14172.set t13.toNat (⟨(nth t14172 Lot.zero t13.toNat).count, (nth t14172 Lot.zero t13.toNat).mass, (⟨(⟨(((nth t14172 Lot.zero t13.toNat).con).a).lo, IntKind.i64.wrap (((((nth t14172 Lot.zero t13.toNat).con).a).hi) - (1 : Int))⟩ : Rng), (((nth t14172 Lot.zero t13.toNat).con).b), (((nth t14172 Lot.zero t13.toNat).con).c)⟩ : Bnds), (nth t14172 Lot.zero t13.toNat).cost⟩ : Lot))]) (by kernel_rfl) (by kernel_rfl) ?_
                        refine Ends.block_normal ?_
                        exact Ends.mid ((t14172.set t13.toNat (⟨(nth t14172 Lot.zero t13.toNat).count, (nth t14172 Lot.zero t13.toNat).mass, (⟨(⟨(((nth t14172 Lot.zero t13.toNat).con).a).lo, IntKind.i64.wrap (((((nth t14172 Lot.zero t13.toNat).con).a).hi) - (1 : Int))⟩ : Rng), (((nth t14172 Lot.zero t13.toNat).con).b), (((nth t14172 Lot.zero t13.toNat).con).c)⟩ : Bnds), (nth t14172 Lot.zero t13.toNat).cost⟩ : Lot)), a_t14173, c_t14174) (Option.some.inj h).symm (by kernel_rfl) (by kernel_rfl)
                      · have h := br_f h hc180
                        refine At.runR [] [1, 2, 7, 8, 10, 11, 12, 13, 14, 15] [true, true, true] (.normal) ([(1, .slice a2 counts.length c2), (2, .int .u8 by_), (7, .int .i64 (fitsK r_ r_3)), (8, .int .i64 (weighE r_ r_3)), (10, .int .i64 (stC (bestM r_6))), (11, .int .i64 (bestE r_6)), (12, .pointer (some ⟨B34, 0, none⟩)), (13, .int .i64 t13), (14, .pointer (some ⟨slB a_t14173, slO a_t14173 + t13.toNat * 9, none⟩)), (15, .int .i64 0)]) [] [] (fun _ => by as_aux_lemma => kernel_rfl) trivial ?_
                        refine Ends.block_normal ?_
                        exact Ends.mid (t14172, a_t14173, c_t14174) (Option.some.inj h).symm (by kernel_rfl) (by kernel_rfl)
                · obtain ⟨t14114, a_t14115, c_t14116⟩ := s
                  replace hI : o113 = t14114 := hI
                  have h := hr113
                  try rw [hI] at h
                  refine At.runR [] [1, 2, 7, 8, 10, 11, 12, 13, 14, 15] [true, true, true] (.normal) ([(1, .slice a2 counts.length c2), (2, .int .u8 by_), (7, .int .i64 (fitsK r_ r_3)), (8, .int .i64 (weighE r_ r_3)), (10, .int .i64 (stC (bestM r_6))), (11, .int .i64 (bestE r_6)), (12, .pointer (some ⟨B34, 0, none⟩)), (13, .int .i64 t13), (14, .pointer (some ⟨slB a_t14115, slO a_t14115 + t13.toNat * 9, none⟩)), (15, .int .i64 1)]) [] [] (fun _ => by as_aux_lemma => kernel_rfl) trivial ?_
                  refine Ends.rounds ?_
                  refine AtR.succ ?_
                  refine At.seq ?_
                  refine At.runR [] [1, 2, 7, 8, 10, 11, 12, 13, 14, 15] [true, true, true] (.normal) ([(1, .slice a2 counts.length c2), (2, .int .u8 by_), (7, .int .i64 (fitsK r_ r_3)), (8, .int .i64 (weighE r_ r_3)), (10, .int .i64 (stC (bestM r_6))), (11, .int .i64 (bestE r_6)), (12, .pointer (some ⟨B34, 0, none⟩)), (13, .int .i64 t13), (14, .pointer (some ⟨slB a_t14115, slO a_t14115 + t13.toNat * 9, none⟩)), (15, .int .i64 1)]) [] [] (fun _ => by as_aux_lemma => kernel_rfl) trivial ?_
                  refine Ends.seq ?_
                  obtain ⟨o120, h, hr120⟩ := bd h
                  refine At.seq_mid (σ := (List Lot) × (Option Addr) × Nat) (fun s => o120 = s.1) (fun s => [(1, .slice a2 counts.length c2), (2, .int .u8 by_), (7, .int .i64 (fitsK r_ r_3)), (8, .int .i64 (weighE r_ r_3)), (10, .int .i64 (stC (bestM r_6))), (11, .int .i64 (bestE r_6)), (12, .pointer (some ⟨B34, 0, none⟩)), (13, .int .i64 t13), (14, .pointer (some ⟨slB s.2.1, slO s.2.1 + t13.toNat * 9, none⟩)), (15, .int .i64 1)]) (fun s => [.sl a2 1 counts.length (fun i_ => intCells (nth counts 0 i_)), .blk B34 [.slice s.2.1 s.1.length s.2.2, .int .i64 r_15.mass.lo, .int .i64 r_15.mass.hi, .int .i64 r_15.target.a.lo, .int .i64 r_15.target.a.hi, .int .i64 r_15.target.b.lo, .int .i64 r_15.target.b.hi, .int .i64 r_15.target.c.lo, .int .i64 r_15.target.c.hi] 28, owE Lot.cells Lot.zero s.2.1 s.2.2 43 9 s.1]) ?_ (fun s hI => ?_)
                  · refine At.block ?_
                    obtain ⟨o153, h, hr153⟩ := bd h
                    refine At.seq_mid (σ := (List Lot) × (Option Addr) × Nat) (fun s => o153 = s.1) (fun s => [(1, .slice a2 counts.length c2), (2, .int .u8 by_), (7, .int .i64 (fitsK r_ r_3)), (8, .int .i64 (weighE r_ r_3)), (10, .int .i64 (stC (bestM r_6))), (11, .int .i64 (bestE r_6)), (12, .pointer (some ⟨B34, 0, none⟩)), (13, .int .i64 t13), (14, .pointer (some ⟨slB s.2.1, slO s.2.1 + t13.toNat * 9, none⟩)), (15, .int .i64 1)]) (fun s => [.sl a2 1 counts.length (fun i_ => intCells (nth counts 0 i_)), .blk B34 [.slice s.2.1 s.1.length s.2.2, .int .i64 r_15.mass.lo, .int .i64 r_15.mass.hi, .int .i64 r_15.target.a.lo, .int .i64 r_15.target.a.hi, .int .i64 r_15.target.b.lo, .int .i64 r_15.target.b.hi, .int .i64 r_15.target.c.lo, .int .i64 r_15.target.c.hi] 28, owE Lot.cells Lot.zero s.2.1 s.2.2 43 9 s.1]) ?_ (fun s hI => ?_)
                    · refine At.seq ?_
                      obtain ⟨g166, h⟩ := gd h
                      refine At.run [(2, 4, t13.toNat), (2, 5, t13.toNat), (3, 0, 0), (3, 1, 0)] [1, 2, 7, 8, 10, 11, 12, 13, 14, 15, 16] [true, true, true, true] (.normal) (fun B314 => [(1, .slice a2 counts.length c2), (2, .int .u8 by_), (7, .int .i64 (fitsK r_ r_3)), (8, .int .i64 (weighE r_ r_3)), (10, .int .i64 (stC (bestM r_6))), (11, .int .i64 (bestE r_6)), (12, .pointer (some ⟨B34, 0, none⟩)), (13, .int .i64 t13), (14, .pointer (some ⟨slB a_t14115, slO a_t14115 + t13.toNat * 9, none⟩)), (15, .int .i64 1), (16, .pointer (some ⟨B314, 0, none⟩))]) (fun B314 => [.sl a2 1 counts.length (fun i_ => intCells (nth counts 0 i_)), .blk B34 [.slice a_t14115 t14114.length c_t14116, .int .i64 r_15.mass.lo, .int .i64 r_15.mass.hi, .int .i64 r_15.target.a.lo, .int .i64 r_15.target.a.hi, .int .i64 r_15.target.b.lo, .int .i64 r_15.target.b.hi, .int .i64 r_15.target.c.lo, .int .i64 r_15.target.c.hi] 28, owE Lot.cells Lot.zero a_t14115 c_t14116 43 9 t14114, .blk B314 [.int .i64 ((((nth t14114 Lot.zero t13.toNat).con).b).lo), .int .i64 ((((nth t14114 Lot.zero t13.toNat).con).b).hi)] 24]) (fun B314 => [slB a_t14115, slO a_t14115 + t13.toNat * 9 + 4, slB a_t14115, slO a_t14115 + t13.toNat * 9 + 5, B314, 0, B314, 1]) (fun B314 => [t13.toNat < t14114.length, t13.toNat < t14114.length]) (fun B314 => by as_aux_lemma => kernel_rfl) (fun B314 => ⟨inB_lt g166, inB_lt g166, trivial⟩) (fun B314 => ?_)
                      refine Ends.seq ?_
                      obtain ⟨o167, h, hr167⟩ := bd h
                      refine At.seq_mid (σ := Bool) (fun s => o167 = s) (fun s => [(1, .slice a2 counts.length c2), (2, .int .u8 by_), (7, .int .i64 (fitsK r_ r_3)), (8, .int .i64 (weighE r_ r_3)), (10, .int .i64 (stC (bestM r_6))), (11, .int .i64 (bestE r_6)), (12, .pointer (some ⟨B34, 0, none⟩)), (13, .int .i64 t13), (14, .pointer (some ⟨slB a_t14115, slO a_t14115 + t13.toNat * 9, none⟩)), (15, .int .i64 1), (81, .bool s)]) (fun s => [.sl a2 1 counts.length (fun i_ => intCells (nth counts 0 i_)), .blk B34 [.slice a_t14115 t14114.length c_t14116, .int .i64 r_15.mass.lo, .int .i64 r_15.mass.hi, .int .i64 r_15.target.a.lo, .int .i64 r_15.target.a.hi, .int .i64 r_15.target.b.lo, .int .i64 r_15.target.b.hi, .int .i64 r_15.target.c.lo, .int .i64 r_15.target.c.hi] 28, owE Lot.cells Lot.zero a_t14115 c_t14116 43 9 t14114]) ?_ (fun s hI => ?_)
                      · refine At.region ?_
                        refine AtL.runR 4 [] [1, 2, 7, 8, 10, 11, 12, 13, 14, 15, 16, 75] [true, true, true, true] ([(1, .slice a2 counts.length c2), (2, .int .u8 by_), (7, .int .i64 (fitsK r_ r_3)), (8, .int .i64 (weighE r_ r_3)), (10, .int .i64 (stC (bestM r_6))), (11, .int .i64 (bestE r_6)), (12, .pointer (some ⟨B34, 0, none⟩)), (13, .int .i64 t13), (14, .pointer (some ⟨slB a_t14115, slO a_t14115 + t13.toNat * 9, none⟩)), (15, .int .i64 1), (16, .pointer (some ⟨B314, 0, none⟩)), (75, .bool ((bitAnd .u8 by_ (1 : Int)) == (1 : Int)))]) [] [] (fun _ => by as_aux_lemma => kernel_rfl) trivial ?_
                        refine AtL.bool 75 ((bitAnd .u8 by_ (1 : Int)) == (1 : Int)) (by kernel_rfl) (fun hc170 => ?_) (fun hc170 => ?_)
                        · have h := br_t h hc170
                          refine AtL.runR 6 [(3, 0, 0), (3, 1, 0)] [1, 2, 7, 8, 10, 11, 12, 13, 14, 15, 81] [true, true, true, true] ([(1, .slice a2 counts.length c2), (2, .int .u8 by_), (7, .int .i64 (fitsK r_ r_3)), (8, .int .i64 (weighE r_ r_3)), (10, .int .i64 (stC (bestM r_6))), (11, .int .i64 (bestE r_6)), (12, .pointer (some ⟨B34, 0, none⟩)), (13, .int .i64 t13), (14, .pointer (some ⟨slB a_t14115, slO a_t14115 + t13.toNat * 9, none⟩)), (15, .int .i64 1), (81, .bool (decide (((((nth t14114 Lot.zero t13.toNat).con).b).lo) < ((((nth t14114 Lot.zero t13.toNat).con).b).hi))))]) [B314, 0, B314, 1] [] (fun _ => by as_aux_lemma => kernel_rfl) trivial ?_
                          refine AtL.nil (by kernel_rfl) ?_
                          refine Ends.sel [1, 2, 7, 8, 10, 11, 12, 13, 14, 15, 81] [0, 1, 2] ([(1, .slice a2 counts.length c2), (2, .int .u8 by_), (7, .int .i64 (fitsK r_ r_3)), (8, .int .i64 (weighE r_ r_3)), (10, .int .i64 (stC (bestM r_6))), (11, .int .i64 (bestE r_6)), (12, .pointer (some ⟨B34, 0, none⟩)), (13, .int .i64 t13), (14, .pointer (some ⟨slB a_t14115, slO a_t14115 + t13.toNat * 9, none⟩)), (15, .int .i64 1), (81, .bool (decide (((((nth t14114 Lot.zero t13.toNat).con).b).lo) < ((((nth t14114 Lot.zero t13.toNat).con).b).hi))))]) ([.sl a2 1 counts.length (fun i_ => intCells (nth counts 0 i_)), .blk B34 [.slice a_t14115 t14114.length c_t14116, .int .i64 r_15.mass.lo, .int .i64 r_15.mass.hi, .int .i64 r_15.target.a.lo, .int .i64 r_15.target.a.hi, .int .i64 r_15.target.b.lo, .int .i64 r_15.target.b.hi, .int .i64 r_15.target.c.lo, .int .i64 r_15.target.c.hi] 28, owE Lot.cells Lot.zero a_t14115 c_t14116 43 9 t14114]) (by kernel_rfl) (by kernel_rfl) (by kernel_rfl) ?_
                          exact Ends.mid (decide (((((nth t14114 Lot.zero t13.toNat).con).b).lo) < ((((nth t14114 Lot.zero t13.toNat).con).b).hi))) (Option.some.inj h).symm (by kernel_rfl) (by kernel_rfl)
                        · have h := br_f h hc170
                          refine AtL.runR 6 [] [1, 2, 7, 8, 10, 11, 12, 13, 14, 15, 81] [true, true, true, true] ([(1, .slice a2 counts.length c2), (2, .int .u8 by_), (7, .int .i64 (fitsK r_ r_3)), (8, .int .i64 (weighE r_ r_3)), (10, .int .i64 (stC (bestM r_6))), (11, .int .i64 (bestE r_6)), (12, .pointer (some ⟨B34, 0, none⟩)), (13, .int .i64 t13), (14, .pointer (some ⟨slB a_t14115, slO a_t14115 + t13.toNat * 9, none⟩)), (15, .int .i64 1), (81, .bool false)]) [] [] (fun _ => by as_aux_lemma => kernel_rfl) trivial ?_
                          refine AtL.nil (by kernel_rfl) ?_
                          refine Ends.sel [1, 2, 7, 8, 10, 11, 12, 13, 14, 15, 81] [0, 1, 2] ([(1, .slice a2 counts.length c2), (2, .int .u8 by_), (7, .int .i64 (fitsK r_ r_3)), (8, .int .i64 (weighE r_ r_3)), (10, .int .i64 (stC (bestM r_6))), (11, .int .i64 (bestE r_6)), (12, .pointer (some ⟨B34, 0, none⟩)), (13, .int .i64 t13), (14, .pointer (some ⟨slB a_t14115, slO a_t14115 + t13.toNat * 9, none⟩)), (15, .int .i64 1), (81, .bool false)]) ([.sl a2 1 counts.length (fun i_ => intCells (nth counts 0 i_)), .blk B34 [.slice a_t14115 t14114.length c_t14116, .int .i64 r_15.mass.lo, .int .i64 r_15.mass.hi, .int .i64 r_15.target.a.lo, .int .i64 r_15.target.a.hi, .int .i64 r_15.target.b.lo, .int .i64 r_15.target.b.hi, .int .i64 r_15.target.c.lo, .int .i64 r_15.target.c.hi] 28, owE Lot.cells Lot.zero a_t14115 c_t14116 43 9 t14114]) (by kernel_rfl) (by kernel_rfl) (by kernel_rfl) ?_
                          exact Ends.mid false (Option.some.inj h).symm (by kernel_rfl) (by kernel_rfl)
                      · revert hI; revert s; intro t81168 hI
                        replace hI : o167 = t81168 := hI
                        have h := hr167
                        try rw [hI] at h
                        refine At.cond (t81168) (by kernel_rfl) (fun hc169 => ?_) (fun hc169 => ?_)
                        · have h := br_t h hc169
                          refine At.plan ([.sl a2 1 counts.length (fun i_ => intCells (nth counts 0 i_)), .blk B34 [.slice a_t14115 t14114.length c_t14116, .int .i64 r_15.mass.lo, .int .i64 r_15.mass.hi, .int .i64 r_15.target.a.lo, .int .i64 r_15.target.a.hi, .int .i64 r_15.target.b.lo, .int .i64 r_15.target.b.hi, .int .i64 r_15.target.c.lo, .int .i64 r_15.target.c.hi] 28, owE Lot.cells Lot.zero a_t14115 c_t14116 43 9 t14114]) [0, 1, 2] (by kernel_rfl) (by kernel_rfl) [.st [0, 1, 2, 3, 4, 5, 6, 7, 8, 9, 10, 11], .tl [12]] (by kernel_rfl) (by kernel_rfl) ?_
                          refine AtP.st ?_
                          refine AtY.run 12 [(2, 4, t13.toNat)] [1, 2, 7, 8, 10, 11, 12, 13, 14, 15, 89, 93] ([(1, .slice a2 counts.length c2), (2, .int .u8 by_), (7, .int .i64 (fitsK r_ r_3)), (8, .int .i64 (weighE r_ r_3)), (10, .int .i64 (stC (bestM r_6))), (11, .int .i64 (bestE r_6)), (12, .pointer (some ⟨B34, 0, none⟩)), (13, .int .i64 t13), (14, .pointer (some ⟨slB a_t14115, slO a_t14115 + t13.toNat * 9, none⟩)), (15, .int .i64 1), (89, .int .i64 (IntKind.i64.wrap (((((nth t14114 Lot.zero t13.toNat).con).b).lo) + (1 : Int)))), (93, .pointer (some ⟨slB a_t14115, slO a_t14115 + t13.toNat * 9 + 4, none⟩))]) [slB a_t14115, slO a_t14115 + t13.toNat * 9 + 4] [t13.toNat < t14114.length] (by as_aux_lemma => kernel_rfl) ⟨inB_lt g166, trivial⟩ ?_
                          refine AtY.nil (by kernel_rfl) ?_
                          refine AtP.tl ?_
                          refine AtL.storeOw 2 Lot.zero a_t14115 c_t14116 43 9 t14114 (by kernel_rfl) xlen43 t13.toNat (inB_lt g166) 4 (by decide) (⟨(nth t14114 Lot.zero t13.toNat).count, (nth t14114 Lot.zero t13.toNat).mass, (⟨(((nth t14114 Lot.zero t13.toNat).con).a), (⟨IntKind.i64.wrap (((((nth t14114 Lot.zero t13.toNat).con).b).lo) + (1 : Int)), (((nth t14114 Lot.zero t13.toNat).con).b).hi⟩ : Rng), (((nth t14114 Lot.zero t13.toNat).con).c)⟩ : Bnds), (nth t14114 Lot.zero t13.toNat).cost⟩ : Lot) (.int .i64 (IntKind.i64.wrap (((((nth t14114 Lot.zero t13.toNat).con).b).lo) + (1 : Int)))) (by kernel_rfl) ⟨slB a_t14115, slO a_t14115 + t13.toNat * 9 + 4, none⟩ (by kernel_rfl) (by kernel_rfl) ?_
                          refine AtL.fit2 ([(1, .slice a2 counts.length c2), (2, .int .u8 by_), (7, .int .i64 (fitsK r_ r_3)), (8, .int .i64 (weighE r_ r_3)), (10, .int .i64 (stC (bestM r_6))), (11, .int .i64 (bestE r_6)), (12, .pointer (some ⟨B34, 0, none⟩)), (13, .int .i64 t13), (14, .pointer (some ⟨slB a_t14115, slO a_t14115 + t13.toNat * 9, none⟩)), (15, .int .i64 1), (89, .int .i64 (IntKind.i64.wrap (((((nth t14114 Lot.zero t13.toNat).con).b).lo) + (1 : Int)))), (93, .pointer (some ⟨slB a_t14115, slO a_t14115 + t13.toNat * 9 + 4, none⟩))]) ([.sl a2 1 counts.length (fun i_ => intCells (nth counts 0 i_)), .blk B34 [.slice a_t14115 ((t14114.set t13.toNat (⟨(nth t14114 Lot.zero t13.toNat).count, (nth t14114 Lot.zero t13.toNat).mass, (⟨(((nth t14114 Lot.zero t13.toNat).con).a), (⟨IntKind.i64.wrap (((((nth t14114 Lot.zero t13.toNat).con).b).lo) + (1 : Int)), (((nth t14114 Lot.zero t13.toNat).con).b).hi⟩ : Rng), (((nth t14114 Lot.zero t13.toNat).con).c)⟩ : Bnds), (nth t14114 Lot.zero t13.toNat).cost⟩ : Lot)).length) c_t14116, .int .i64 r_15.mass.lo, .int .i64 r_15.mass.hi, .int .i64 r_15.target.a.lo, .int .i64 r_15.target.a.hi, .int .i64 r_15.target.b.lo, .int .i64 r_15.target.b.hi, .int .i64 r_15.target.c.lo, .int .i64 r_15.target.c.hi] 28, owE Lot.cells Lot.zero a_t14115 c_t14116 43 9 (t14114.set t13.toNat (⟨(nth t14114 Lot.zero t13.toNat).count, (nth t14114 Lot.zero t13.toNat).mass, (⟨(((nth t14114 Lot.zero t13.toNat).con).a), (⟨IntKind.i64.wrap (((((nth t14114 Lot.zero t13.toNat).con).b).lo) + (1 : Int)), (((nth t14114 Lot.zero t13.toNat).con).b).hi⟩ : Rng), (((nth t14114 Lot.zero t13.toNat).con).c)⟩ : Bnds), (nth t14114 Lot.zero t13.toNat).cost⟩ : Lot))]) (by kernel_rfl) (by simp only [List.length_set, List.set_cons_zero, List.set_cons_succ]) ?_
                          refine AtL.nil (by kernel_rfl) ?_
                          refine Ends.tl ?_
                          refine AtP.nil ?_
                          refine Ends.weak [1, 2, 7, 8, 10, 11, 12, 13, 14, 15] [true, true, true] ([(1, .slice a2 counts.length c2), (2, .int .u8 by_), (7, .int .i64 (fitsK r_ r_3)), (8, .int .i64 (weighE r_ r_3)), (10, .int .i64 (stC (bestM r_6))), (11, .int .i64 (bestE r_6)), (12, .pointer (some ⟨B34, 0, none⟩)), (13, .int .i64 t13), (14, .pointer (some ⟨slB a_t14115, slO a_t14115 + t13.toNat * 9, none⟩)), (15, .int .i64 1)]) ([.sl a2 1 counts.length (fun i_ => intCells (nth counts 0 i_)), .blk B34 [.slice a_t14115 ((t14114.set t13.toNat (⟨(nth t14114 Lot.zero t13.toNat).count, (nth t14114 Lot.zero t13.toNat).mass, (⟨(((nth t14114 Lot.zero t13.toNat).con).a), (⟨IntKind.i64.wrap (((((nth t14114 Lot.zero t13.toNat).con).b).lo) + (1 : Int)), (((nth t14114 Lot.zero t13.toNat).con).b).hi⟩ : Rng), (((nth t14114 Lot.zero t13.toNat).con).c)⟩ : Bnds), (nth t14114 Lot.zero t13.toNat).cost⟩ : Lot)).length) c_t14116, .int .i64 r_15.mass.lo, .int .i64 r_15.mass.hi, .int .i64 r_15.target.a.lo, .int .i64 r_15.target.a.hi, .int .i64 r_15.target.b.lo, .int .i64 r_15.target.b.hi, .int .i64 r_15.target.c.lo, .int .i64 r_15.target.c.hi] 28, owE Lot.cells Lot.zero a_t14115 c_t14116 43 9 (t14114.set t13.toNat (⟨(nth t14114 Lot.zero t13.toNat).count, (nth t14114 Lot.zero t13.toNat).mass, (⟨(((nth t14114 Lot.zero t13.toNat).con).a), (⟨IntKind.i64.wrap (((((nth t14114 Lot.zero t13.toNat).con).b).lo) + (1 : Int)), (((nth t14114 Lot.zero t13.toNat).con).b).hi⟩ : Rng), (((nth t14114 Lot.zero t13.toNat).con).c)⟩ : Bnds), (nth t14114 Lot.zero t13.toNat).cost⟩ : Lot))]) (by kernel_rfl) (by kernel_rfl) ?_
                          exact Ends.mid ((t14114.set t13.toNat (⟨(nth t14114 Lot.zero t13.toNat).count, (nth t14114 Lot.zero t13.toNat).mass, (⟨(((nth t14114 Lot.zero t13.toNat).con).a), (⟨IntKind.i64.wrap (((((nth t14114 Lot.zero t13.toNat).con).b).lo) + (1 : Int)), (((nth t14114 Lot.zero t13.toNat).con).b).hi⟩ : Rng), (((nth t14114 Lot.zero t13.toNat).con).c)⟩ : Bnds), (nth t14114 Lot.zero t13.toNat).cost⟩ : Lot)), a_t14115, c_t14116) (Option.some.inj h).symm (by kernel_rfl) (by kernel_rfl)
                        · have h := br_f h hc169
                          refine At.runR [] [1, 2, 7, 8, 10, 11, 12, 13, 14, 15] [true, true, true] (.normal) ([(1, .slice a2 counts.length c2), (2, .int .u8 by_), (7, .int .i64 (fitsK r_ r_3)), (8, .int .i64 (weighE r_ r_3)), (10, .int .i64 (stC (bestM r_6))), (11, .int .i64 (bestE r_6)), (12, .pointer (some ⟨B34, 0, none⟩)), (13, .int .i64 t13), (14, .pointer (some ⟨slB a_t14115, slO a_t14115 + t13.toNat * 9, none⟩)), (15, .int .i64 1)]) [] [] (fun _ => by as_aux_lemma => kernel_rfl) trivial ?_
                          exact Ends.mid (t14114, a_t14115, c_t14116) (Option.some.inj h).symm (by kernel_rfl) (by kernel_rfl)
                    · obtain ⟨t14154, a_t14155, c_t14156⟩ := s
                      replace hI : o153 = t14154 := hI
                      have h := hr153
                      try rw [hI] at h
                      refine At.seq ?_
                      obtain ⟨g159, h⟩ := gd h
                      refine At.run [(2, 4, t13.toNat), (2, 5, t13.toNat), (3, 0, 0), (3, 1, 0)] [1, 2, 7, 8, 10, 11, 12, 13, 14, 15, 17] [true, true, true, true] (.normal) (fun B299 => [(1, .slice a2 counts.length c2), (2, .int .u8 by_), (7, .int .i64 (fitsK r_ r_3)), (8, .int .i64 (weighE r_ r_3)), (10, .int .i64 (stC (bestM r_6))), (11, .int .i64 (bestE r_6)), (12, .pointer (some ⟨B34, 0, none⟩)), (13, .int .i64 t13), (14, .pointer (some ⟨slB a_t14155, slO a_t14155 + t13.toNat * 9, none⟩)), (15, .int .i64 1), (17, .pointer (some ⟨B299, 0, none⟩))]) (fun B299 => [.sl a2 1 counts.length (fun i_ => intCells (nth counts 0 i_)), .blk B34 [.slice a_t14155 t14154.length c_t14156, .int .i64 r_15.mass.lo, .int .i64 r_15.mass.hi, .int .i64 r_15.target.a.lo, .int .i64 r_15.target.a.hi, .int .i64 r_15.target.b.lo, .int .i64 r_15.target.b.hi, .int .i64 r_15.target.c.lo, .int .i64 r_15.target.c.hi] 28, owE Lot.cells Lot.zero a_t14155 c_t14156 43 9 t14154, .blk B299 [.int .i64 ((((nth t14154 Lot.zero t13.toNat).con).b).lo), .int .i64 ((((nth t14154 Lot.zero t13.toNat).con).b).hi)] 24]) (fun B299 => [slB a_t14155, slO a_t14155 + t13.toNat * 9 + 4, slB a_t14155, slO a_t14155 + t13.toNat * 9 + 5, B299, 0, B299, 1]) (fun B299 => [t13.toNat < t14154.length, t13.toNat < t14154.length]) (fun B299 => by as_aux_lemma => kernel_rfl) (fun B299 => ⟨inB_lt g159, inB_lt g159, trivial⟩) (fun B299 => ?_)
                      refine Ends.seq ?_
                      obtain ⟨o160, h, hr160⟩ := bd h
                      refine At.seq_mid (σ := Bool) (fun s => o160 = s) (fun s => [(1, .slice a2 counts.length c2), (2, .int .u8 by_), (7, .int .i64 (fitsK r_ r_3)), (8, .int .i64 (weighE r_ r_3)), (10, .int .i64 (stC (bestM r_6))), (11, .int .i64 (bestE r_6)), (12, .pointer (some ⟨B34, 0, none⟩)), (13, .int .i64 t13), (14, .pointer (some ⟨slB a_t14155, slO a_t14155 + t13.toNat * 9, none⟩)), (15, .int .i64 1), (109, .bool s)]) (fun s => [.sl a2 1 counts.length (fun i_ => intCells (nth counts 0 i_)), .blk B34 [.slice a_t14155 t14154.length c_t14156, .int .i64 r_15.mass.lo, .int .i64 r_15.mass.hi, .int .i64 r_15.target.a.lo, .int .i64 r_15.target.a.hi, .int .i64 r_15.target.b.lo, .int .i64 r_15.target.b.hi, .int .i64 r_15.target.c.lo, .int .i64 r_15.target.c.hi] 28, owE Lot.cells Lot.zero a_t14155 c_t14156 43 9 t14154]) ?_ (fun s hI => ?_)
                      · refine At.region ?_
                        refine AtL.runR 4 [] [1, 2, 7, 8, 10, 11, 12, 13, 14, 15, 17, 103] [true, true, true, true] ([(1, .slice a2 counts.length c2), (2, .int .u8 by_), (7, .int .i64 (fitsK r_ r_3)), (8, .int .i64 (weighE r_ r_3)), (10, .int .i64 (stC (bestM r_6))), (11, .int .i64 (bestE r_6)), (12, .pointer (some ⟨B34, 0, none⟩)), (13, .int .i64 t13), (14, .pointer (some ⟨slB a_t14155, slO a_t14155 + t13.toNat * 9, none⟩)), (15, .int .i64 1), (17, .pointer (some ⟨B299, 0, none⟩)), (103, .bool ((bitAnd .u8 by_ (2 : Int)) == (2 : Int)))]) [] [] (fun _ => by as_aux_lemma => kernel_rfl) trivial ?_
                        refine AtL.bool 103 ((bitAnd .u8 by_ (2 : Int)) == (2 : Int)) (by kernel_rfl) (fun hc163 => ?_) (fun hc163 => ?_)
                        · have h := br_t h hc163
                          refine AtL.runR 6 [(3, 0, 0), (3, 1, 0)] [1, 2, 7, 8, 10, 11, 12, 13, 14, 15, 109] [true, true, true, true] ([(1, .slice a2 counts.length c2), (2, .int .u8 by_), (7, .int .i64 (fitsK r_ r_3)), (8, .int .i64 (weighE r_ r_3)), (10, .int .i64 (stC (bestM r_6))), (11, .int .i64 (bestE r_6)), (12, .pointer (some ⟨B34, 0, none⟩)), (13, .int .i64 t13), (14, .pointer (some ⟨slB a_t14155, slO a_t14155 + t13.toNat * 9, none⟩)), (15, .int .i64 1), (109, .bool (decide (((((nth t14154 Lot.zero t13.toNat).con).b).lo) < ((((nth t14154 Lot.zero t13.toNat).con).b).hi))))]) [B299, 0, B299, 1] [] (fun _ => by as_aux_lemma => kernel_rfl) trivial ?_
                          refine AtL.nil (by kernel_rfl) ?_
                          refine Ends.sel [1, 2, 7, 8, 10, 11, 12, 13, 14, 15, 109] [0, 1, 2] ([(1, .slice a2 counts.length c2), (2, .int .u8 by_), (7, .int .i64 (fitsK r_ r_3)), (8, .int .i64 (weighE r_ r_3)), (10, .int .i64 (stC (bestM r_6))), (11, .int .i64 (bestE r_6)), (12, .pointer (some ⟨B34, 0, none⟩)), (13, .int .i64 t13), (14, .pointer (some ⟨slB a_t14155, slO a_t14155 + t13.toNat * 9, none⟩)), (15, .int .i64 1), (109, .bool (decide (((((nth t14154 Lot.zero t13.toNat).con).b).lo) < ((((nth t14154 Lot.zero t13.toNat).con).b).hi))))]) ([.sl a2 1 counts.length (fun i_ => intCells (nth counts 0 i_)), .blk B34 [.slice a_t14155 t14154.length c_t14156, .int .i64 r_15.mass.lo, .int .i64 r_15.mass.hi, .int .i64 r_15.target.a.lo, .int .i64 r_15.target.a.hi, .int .i64 r_15.target.b.lo, .int .i64 r_15.target.b.hi, .int .i64 r_15.target.c.lo, .int .i64 r_15.target.c.hi] 28, owE Lot.cells Lot.zero a_t14155 c_t14156 43 9 t14154]) (by kernel_rfl) (by kernel_rfl) (by kernel_rfl) ?_
                          exact Ends.mid (decide (((((nth t14154 Lot.zero t13.toNat).con).b).lo) < ((((nth t14154 Lot.zero t13.toNat).con).b).hi))) (Option.some.inj h).symm (by kernel_rfl) (by kernel_rfl)
                        · have h := br_f h hc163
                          refine AtL.runR 6 [] [1, 2, 7, 8, 10, 11, 12, 13, 14, 15, 109] [true, true, true, true] ([(1, .slice a2 counts.length c2), (2, .int .u8 by_), (7, .int .i64 (fitsK r_ r_3)), (8, .int .i64 (weighE r_ r_3)), (10, .int .i64 (stC (bestM r_6))), (11, .int .i64 (bestE r_6)), (12, .pointer (some ⟨B34, 0, none⟩)), (13, .int .i64 t13), (14, .pointer (some ⟨slB a_t14155, slO a_t14155 + t13.toNat * 9, none⟩)), (15, .int .i64 1), (109, .bool false)]) [] [] (fun _ => by as_aux_lemma => kernel_rfl) trivial ?_
                          refine AtL.nil (by kernel_rfl) ?_
                          refine Ends.sel [1, 2, 7, 8, 10, 11, 12, 13, 14, 15, 109] [0, 1, 2] ([(1, .slice a2 counts.length c2), (2, .int .u8 by_), (7, .int .i64 (fitsK r_ r_3)), (8, .int .i64 (weighE r_ r_3)), (10, .int .i64 (stC (bestM r_6))), (11, .int .i64 (bestE r_6)), (12, .pointer (some ⟨B34, 0, none⟩)), (13, .int .i64 t13), (14, .pointer (some ⟨slB a_t14155, slO a_t14155 + t13.toNat * 9, none⟩)), (15, .int .i64 1), (109, .bool false)]) ([.sl a2 1 counts.length (fun i_ => intCells (nth counts 0 i_)), .blk B34 [.slice a_t14155 t14154.length c_t14156, .int .i64 r_15.mass.lo, .int .i64 r_15.mass.hi, .int .i64 r_15.target.a.lo, .int .i64 r_15.target.a.hi, .int .i64 r_15.target.b.lo, .int .i64 r_15.target.b.hi, .int .i64 r_15.target.c.lo, .int .i64 r_15.target.c.hi] 28, owE Lot.cells Lot.zero a_t14155 c_t14156 43 9 t14154]) (by kernel_rfl) (by kernel_rfl) (by kernel_rfl) ?_
                          exact Ends.mid false (Option.some.inj h).symm (by kernel_rfl) (by kernel_rfl)
                      · revert hI; revert s; intro t109161 hI
                        replace hI : o160 = t109161 := hI
                        have h := hr160
                        try rw [hI] at h
                        refine At.cond (t109161) (by kernel_rfl) (fun hc162 => ?_) (fun hc162 => ?_)
                        · have h := br_t h hc162
                          refine At.plan ([.sl a2 1 counts.length (fun i_ => intCells (nth counts 0 i_)), .blk B34 [.slice a_t14155 t14154.length c_t14156, .int .i64 r_15.mass.lo, .int .i64 r_15.mass.hi, .int .i64 r_15.target.a.lo, .int .i64 r_15.target.a.hi, .int .i64 r_15.target.b.lo, .int .i64 r_15.target.b.hi, .int .i64 r_15.target.c.lo, .int .i64 r_15.target.c.hi] 28, owE Lot.cells Lot.zero a_t14155 c_t14156 43 9 t14154]) [0, 1, 2] (by kernel_rfl) (by kernel_rfl) [.st [0, 1, 2, 3, 4, 5, 6, 7, 8, 9, 10, 11], .tl [12]] (by kernel_rfl) (by kernel_rfl) ?_
                          refine AtP.st ?_
                          refine AtY.run 12 [(2, 5, t13.toNat)] [1, 2, 7, 8, 10, 11, 12, 13, 14, 15, 117, 121] ([(1, .slice a2 counts.length c2), (2, .int .u8 by_), (7, .int .i64 (fitsK r_ r_3)), (8, .int .i64 (weighE r_ r_3)), (10, .int .i64 (stC (bestM r_6))), (11, .int .i64 (bestE r_6)), (12, .pointer (some ⟨B34, 0, none⟩)), (13, .int .i64 t13), (14, .pointer (some ⟨slB a_t14155, slO a_t14155 + t13.toNat * 9, none⟩)), (15, .int .i64 1), (117, .int .i64 (IntKind.i64.wrap (((((nth t14154 Lot.zero t13.toNat).con).b).hi) - (1 : Int)))), (121, .pointer (some ⟨slB a_t14155, slO a_t14155 + t13.toNat * 9 + 5, none⟩))]) [slB a_t14155, slO a_t14155 + t13.toNat * 9 + 5] [t13.toNat < t14154.length] (by as_aux_lemma => kernel_rfl) ⟨inB_lt g159, trivial⟩ ?_
                          refine AtY.nil (by kernel_rfl) ?_
                          refine AtP.tl ?_
                          refine AtL.storeOw 2 Lot.zero a_t14155 c_t14156 43 9 t14154 (by kernel_rfl) xlen43 t13.toNat (inB_lt g159) 5 (by decide) (⟨(nth t14154 Lot.zero t13.toNat).count, (nth t14154 Lot.zero t13.toNat).mass, (⟨(((nth t14154 Lot.zero t13.toNat).con).a), (⟨(((nth t14154 Lot.zero t13.toNat).con).b).lo, IntKind.i64.wrap (((((nth t14154 Lot.zero t13.toNat).con).b).hi) - (1 : Int))⟩ : Rng), (((nth t14154 Lot.zero t13.toNat).con).c)⟩ : Bnds), (nth t14154 Lot.zero t13.toNat).cost⟩ : Lot) (.int .i64 (IntKind.i64.wrap (((((nth t14154 Lot.zero t13.toNat).con).b).hi) - (1 : Int)))) (by kernel_rfl) ⟨slB a_t14155, slO a_t14155 + t13.toNat * 9 + 5, none⟩ (by kernel_rfl) (by kernel_rfl) ?_
                          refine AtL.fit2 ([(1, .slice a2 counts.length c2), (2, .int .u8 by_), (7, .int .i64 (fitsK r_ r_3)), (8, .int .i64 (weighE r_ r_3)), (10, .int .i64 (stC (bestM r_6))), (11, .int .i64 (bestE r_6)), (12, .pointer (some ⟨B34, 0, none⟩)), (13, .int .i64 t13), (14, .pointer (some ⟨slB a_t14155, slO a_t14155 + t13.toNat * 9, none⟩)), (15, .int .i64 1), (117, .int .i64 (IntKind.i64.wrap (((((nth t14154 Lot.zero t13.toNat).con).b).hi) - (1 : Int)))), (121, .pointer (some ⟨slB a_t14155, slO a_t14155 + t13.toNat * 9 + 5, none⟩))]) ([.sl a2 1 counts.length (fun i_ => intCells (nth counts 0 i_)), .blk B34 [.slice a_t14155 ((t14154.set t13.toNat (⟨(nth t14154 Lot.zero t13.toNat).count, (nth t14154 Lot.zero t13.toNat).mass, (⟨(((nth t14154 Lot.zero t13.toNat).con).a), (⟨(((nth t14154 Lot.zero t13.toNat).con).b).lo, IntKind.i64.wrap (((((nth t14154 Lot.zero t13.toNat).con).b).hi) - (1 : Int))⟩ : Rng), (((nth t14154 Lot.zero t13.toNat).con).c)⟩ : Bnds), (nth t14154 Lot.zero t13.toNat).cost⟩ : Lot)).length) c_t14156, .int .i64 r_15.mass.lo, .int .i64 r_15.mass.hi, .int .i64 r_15.target.a.lo, .int .i64 r_15.target.a.hi, .int .i64 r_15.target.b.lo, .int .i64 r_15.target.b.hi, .int .i64 r_15.target.c.lo, .int .i64 r_15.target.c.hi] 28, owE Lot.cells Lot.zero a_t14155 c_t14156 43 9 (t14154.set t13.toNat (⟨(nth t14154 Lot.zero t13.toNat).count, (nth t14154 Lot.zero t13.toNat).mass, (⟨(((nth t14154 Lot.zero t13.toNat).con).a), (⟨(((nth t14154 Lot.zero t13.toNat).con).b).lo, IntKind.i64.wrap (((((nth t14154 Lot.zero t13.toNat).con).b).hi) - (1 : Int))⟩ : Rng), (((nth t14154 Lot.zero t13.toNat).con).c)⟩ : Bnds), (nth t14154 Lot.zero t13.toNat).cost⟩ : Lot))]) (by kernel_rfl) (by simp only [List.length_set, List.set_cons_zero, List.set_cons_succ]) ?_
                          refine AtL.nil (by kernel_rfl) ?_
                          refine Ends.tl ?_
                          refine AtP.nil ?_
                          refine Ends.weak [1, 2, 7, 8, 10, 11, 12, 13, 14, 15] [true, true, true] ([(1, .slice a2 counts.length c2), (2, .int .u8 by_), (7, .int .i64 (fitsK r_ r_3)), (8, .int .i64 (weighE r_ r_3)), (10, .int .i64 (stC (bestM r_6))), (11, .int .i64 (bestE r_6)), (12, .pointer (some ⟨B34, 0, none⟩)), (13, .int .i64 t13), (14, .pointer (some ⟨slB a_t14155, slO a_t14155 + t13.toNat * 9, none⟩)), (15, .int .i64 1)]) ([.sl a2 1 counts.length (fun i_ => intCells (nth counts 0 i_)), .blk B34 [.slice a_t14155 ((t14154.set t13.toNat (⟨(nth t14154 Lot.zero t13.toNat).count, (nth t14154 Lot.zero t13.toNat).mass, (⟨(((nth t14154 Lot.zero t13.toNat).con).a), (⟨(((nth t14154 Lot.zero t13.toNat).con).b).lo, IntKind.i64.wrap (((((nth t14154 Lot.zero t13.toNat).con).b).hi) - (1 : Int))⟩ : Rng), (((nth t14154 Lot.zero t13.toNat).con).c)⟩ : Bnds), (nth t14154 Lot.zero t13.toNat).cost⟩ : Lot)).length) c_t14156, .int .i64 r_15.mass.lo, .int .i64 r_15.mass.hi, .int .i64 r_15.target.a.lo, .int .i64 r_15.target.a.hi, .int .i64 r_15.target.b.lo, .int .i64 r_15.target.b.hi, .int .i64 r_15.target.c.lo, .int .i64 r_15.target.c.hi] 28, owE Lot.cells Lot.zero a_t14155 c_t14156 43 9 (t14154.set t13.toNat (⟨(nth t14154 Lot.zero t13.toNat).count, (nth t14154 Lot.zero t13.toNat).mass, (⟨(((nth t14154 Lot.zero t13.toNat).con).a), (⟨(((nth t14154 Lot.zero t13.toNat).con).b).lo, IntKind.i64.wrap (((((nth t14154 Lot.zero t13.toNat).con).b).hi) - (1 : Int))⟩ : Rng), (((nth t14154 Lot.zero t13.toNat).con).c)⟩ : Bnds), (nth t14154 Lot.zero t13.toNat).cost⟩ : Lot))]) (by kernel_rfl) (by kernel_rfl) ?_
                          refine Ends.block_normal ?_
                          exact Ends.mid ((t14154.set t13.toNat (⟨(nth t14154 Lot.zero t13.toNat).count, (nth t14154 Lot.zero t13.toNat).mass, (⟨(((nth t14154 Lot.zero t13.toNat).con).a), (⟨(((nth t14154 Lot.zero t13.toNat).con).b).lo, IntKind.i64.wrap (((((nth t14154 Lot.zero t13.toNat).con).b).hi) - (1 : Int))⟩ : Rng), (((nth t14154 Lot.zero t13.toNat).con).c)⟩ : Bnds), (nth t14154 Lot.zero t13.toNat).cost⟩ : Lot)), a_t14155, c_t14156) (Option.some.inj h).symm (by kernel_rfl) (by kernel_rfl)
                        · have h := br_f h hc162
                          refine At.runR [] [1, 2, 7, 8, 10, 11, 12, 13, 14, 15] [true, true, true] (.normal) ([(1, .slice a2 counts.length c2), (2, .int .u8 by_), (7, .int .i64 (fitsK r_ r_3)), (8, .int .i64 (weighE r_ r_3)), (10, .int .i64 (stC (bestM r_6))), (11, .int .i64 (bestE r_6)), (12, .pointer (some ⟨B34, 0, none⟩)), (13, .int .i64 t13), (14, .pointer (some ⟨slB a_t14155, slO a_t14155 + t13.toNat * 9, none⟩)), (15, .int .i64 1)]) [] [] (fun _ => by as_aux_lemma => kernel_rfl) trivial ?_
                          refine Ends.block_normal ?_
                          exact Ends.mid (t14154, a_t14155, c_t14156) (Option.some.inj h).symm (by kernel_rfl) (by kernel_rfl)
                  · obtain ⟨t14121, a_t14122, c_t14123⟩ := s
                    replace hI : o120 = t14121 := hI
                    have h := hr120
                    try rw [hI] at h
                    refine At.runR [] [1, 2, 7, 8, 10, 11, 12, 13, 14, 15] [true, true, true] (.normal) ([(1, .slice a2 counts.length c2), (2, .int .u8 by_), (7, .int .i64 (fitsK r_ r_3)), (8, .int .i64 (weighE r_ r_3)), (10, .int .i64 (stC (bestM r_6))), (11, .int .i64 (bestE r_6)), (12, .pointer (some ⟨B34, 0, none⟩)), (13, .int .i64 t13), (14, .pointer (some ⟨slB a_t14122, slO a_t14122 + t13.toNat * 9, none⟩)), (15, .int .i64 2)]) [] [] (fun _ => by as_aux_lemma => kernel_rfl) trivial ?_
                    refine Ends.rounds ?_
                    refine AtR.succ ?_
                    refine At.seq ?_
                    refine At.runR [] [1, 2, 7, 8, 10, 11, 12, 13, 14, 15] [true, true, true] (.normal) ([(1, .slice a2 counts.length c2), (2, .int .u8 by_), (7, .int .i64 (fitsK r_ r_3)), (8, .int .i64 (weighE r_ r_3)), (10, .int .i64 (stC (bestM r_6))), (11, .int .i64 (bestE r_6)), (12, .pointer (some ⟨B34, 0, none⟩)), (13, .int .i64 t13), (14, .pointer (some ⟨slB a_t14122, slO a_t14122 + t13.toNat * 9, none⟩)), (15, .int .i64 2)]) [] [] (fun _ => by as_aux_lemma => kernel_rfl) trivial ?_
                    refine Ends.seq ?_
                    obtain ⟨o127, h, hr127⟩ := bd h
                    refine At.seq_mid (σ := (List Lot) × (Option Addr) × Nat) (fun s => o127 = s.1) (fun s => [(1, .slice a2 counts.length c2), (2, .int .u8 by_), (7, .int .i64 (fitsK r_ r_3)), (8, .int .i64 (weighE r_ r_3)), (10, .int .i64 (stC (bestM r_6))), (11, .int .i64 (bestE r_6)), (12, .pointer (some ⟨B34, 0, none⟩)), (13, .int .i64 t13), (14, .pointer (some ⟨slB s.2.1, slO s.2.1 + t13.toNat * 9, none⟩)), (15, .int .i64 2)]) (fun s => [.sl a2 1 counts.length (fun i_ => intCells (nth counts 0 i_)), .blk B34 [.slice s.2.1 s.1.length s.2.2, .int .i64 r_15.mass.lo, .int .i64 r_15.mass.hi, .int .i64 r_15.target.a.lo, .int .i64 r_15.target.a.hi, .int .i64 r_15.target.b.lo, .int .i64 r_15.target.b.hi, .int .i64 r_15.target.c.lo, .int .i64 r_15.target.c.hi] 28, owE Lot.cells Lot.zero s.2.1 s.2.2 43 9 s.1]) ?_ (fun s hI => ?_)
                    · refine At.block ?_
                      obtain ⟨o134, h, hr134⟩ := bd h
                      refine At.seq_mid (σ := (List Lot) × (Option Addr) × Nat) (fun s => o134 = s.1) (fun s => [(1, .slice a2 counts.length c2), (2, .int .u8 by_), (7, .int .i64 (fitsK r_ r_3)), (8, .int .i64 (weighE r_ r_3)), (10, .int .i64 (stC (bestM r_6))), (11, .int .i64 (bestE r_6)), (12, .pointer (some ⟨B34, 0, none⟩)), (13, .int .i64 t13), (14, .pointer (some ⟨slB s.2.1, slO s.2.1 + t13.toNat * 9, none⟩)), (15, .int .i64 2)]) (fun s => [.sl a2 1 counts.length (fun i_ => intCells (nth counts 0 i_)), .blk B34 [.slice s.2.1 s.1.length s.2.2, .int .i64 r_15.mass.lo, .int .i64 r_15.mass.hi, .int .i64 r_15.target.a.lo, .int .i64 r_15.target.a.hi, .int .i64 r_15.target.b.lo, .int .i64 r_15.target.b.hi, .int .i64 r_15.target.c.lo, .int .i64 r_15.target.c.hi] 28, owE Lot.cells Lot.zero s.2.1 s.2.2 43 9 s.1]) ?_ (fun s hI => ?_)
                      · refine At.seq ?_
                        obtain ⟨g146, h⟩ := gd h
                        refine At.run [(2, 6, t13.toNat), (2, 7, t13.toNat), (3, 0, 0), (3, 1, 0)] [1, 2, 7, 8, 10, 11, 12, 13, 14, 15, 16] [true, true, true, true] (.normal) (fun B281 => [(1, .slice a2 counts.length c2), (2, .int .u8 by_), (7, .int .i64 (fitsK r_ r_3)), (8, .int .i64 (weighE r_ r_3)), (10, .int .i64 (stC (bestM r_6))), (11, .int .i64 (bestE r_6)), (12, .pointer (some ⟨B34, 0, none⟩)), (13, .int .i64 t13), (14, .pointer (some ⟨slB a_t14122, slO a_t14122 + t13.toNat * 9, none⟩)), (15, .int .i64 2), (16, .pointer (some ⟨B281, 0, none⟩))]) (fun B281 => [.sl a2 1 counts.length (fun i_ => intCells (nth counts 0 i_)), .blk B34 [.slice a_t14122 t14121.length c_t14123, .int .i64 r_15.mass.lo, .int .i64 r_15.mass.hi, .int .i64 r_15.target.a.lo, .int .i64 r_15.target.a.hi, .int .i64 r_15.target.b.lo, .int .i64 r_15.target.b.hi, .int .i64 r_15.target.c.lo, .int .i64 r_15.target.c.hi] 28, owE Lot.cells Lot.zero a_t14122 c_t14123 43 9 t14121, .blk B281 [.int .i64 ((((nth t14121 Lot.zero t13.toNat).con).c).lo), .int .i64 ((((nth t14121 Lot.zero t13.toNat).con).c).hi)] 24]) (fun B281 => [slB a_t14122, slO a_t14122 + t13.toNat * 9 + 6, slB a_t14122, slO a_t14122 + t13.toNat * 9 + 7, B281, 0, B281, 1]) (fun B281 => [t13.toNat < t14121.length, t13.toNat < t14121.length]) (fun B281 => by as_aux_lemma => kernel_rfl) (fun B281 => ⟨inB_lt g146, inB_lt g146, trivial⟩) (fun B281 => ?_)
                        refine Ends.seq ?_
                        obtain ⟨o147, h, hr147⟩ := bd h
                        refine At.seq_mid (σ := Bool) (fun s => o147 = s) (fun s => [(1, .slice a2 counts.length c2), (2, .int .u8 by_), (7, .int .i64 (fitsK r_ r_3)), (8, .int .i64 (weighE r_ r_3)), (10, .int .i64 (stC (bestM r_6))), (11, .int .i64 (bestE r_6)), (12, .pointer (some ⟨B34, 0, none⟩)), (13, .int .i64 t13), (14, .pointer (some ⟨slB a_t14122, slO a_t14122 + t13.toNat * 9, none⟩)), (15, .int .i64 2), (81, .bool s)]) (fun s => [.sl a2 1 counts.length (fun i_ => intCells (nth counts 0 i_)), .blk B34 [.slice a_t14122 t14121.length c_t14123, .int .i64 r_15.mass.lo, .int .i64 r_15.mass.hi, .int .i64 r_15.target.a.lo, .int .i64 r_15.target.a.hi, .int .i64 r_15.target.b.lo, .int .i64 r_15.target.b.hi, .int .i64 r_15.target.c.lo, .int .i64 r_15.target.c.hi] 28, owE Lot.cells Lot.zero a_t14122 c_t14123 43 9 t14121]) ?_ (fun s hI => ?_)
                        · refine At.region ?_
                          refine AtL.runR 4 [] [1, 2, 7, 8, 10, 11, 12, 13, 14, 15, 16, 75] [true, true, true, true] ([(1, .slice a2 counts.length c2), (2, .int .u8 by_), (7, .int .i64 (fitsK r_ r_3)), (8, .int .i64 (weighE r_ r_3)), (10, .int .i64 (stC (bestM r_6))), (11, .int .i64 (bestE r_6)), (12, .pointer (some ⟨B34, 0, none⟩)), (13, .int .i64 t13), (14, .pointer (some ⟨slB a_t14122, slO a_t14122 + t13.toNat * 9, none⟩)), (15, .int .i64 2), (16, .pointer (some ⟨B281, 0, none⟩)), (75, .bool ((bitAnd .u8 by_ (1 : Int)) == (1 : Int)))]) [] [] (fun _ => by as_aux_lemma => kernel_rfl) trivial ?_
                          refine AtL.bool 75 ((bitAnd .u8 by_ (1 : Int)) == (1 : Int)) (by kernel_rfl) (fun hc149 => ?_) (fun hc149 => ?_)
                          · have h := br_t h hc149
                            refine AtL.runR 6 [(3, 0, 0), (3, 1, 0)] [1, 2, 7, 8, 10, 11, 12, 13, 14, 15, 81] [true, true, true, true] ([(1, .slice a2 counts.length c2), (2, .int .u8 by_), (7, .int .i64 (fitsK r_ r_3)), (8, .int .i64 (weighE r_ r_3)), (10, .int .i64 (stC (bestM r_6))), (11, .int .i64 (bestE r_6)), (12, .pointer (some ⟨B34, 0, none⟩)), (13, .int .i64 t13), (14, .pointer (some ⟨slB a_t14122, slO a_t14122 + t13.toNat * 9, none⟩)), (15, .int .i64 2), (81, .bool (decide (((((nth t14121 Lot.zero t13.toNat).con).c).lo) < ((((nth t14121 Lot.zero t13.toNat).con).c).hi))))]) [B281, 0, B281, 1] [] (fun _ => by as_aux_lemma => kernel_rfl) trivial ?_
                            refine AtL.nil (by kernel_rfl) ?_
                            refine Ends.sel [1, 2, 7, 8, 10, 11, 12, 13, 14, 15, 81] [0, 1, 2] ([(1, .slice a2 counts.length c2), (2, .int .u8 by_), (7, .int .i64 (fitsK r_ r_3)), (8, .int .i64 (weighE r_ r_3)), (10, .int .i64 (stC (bestM r_6))), (11, .int .i64 (bestE r_6)), (12, .pointer (some ⟨B34, 0, none⟩)), (13, .int .i64 t13), (14, .pointer (some ⟨slB a_t14122, slO a_t14122 + t13.toNat * 9, none⟩)), (15, .int .i64 2), (81, .bool (decide (((((nth t14121 Lot.zero t13.toNat).con).c).lo) < ((((nth t14121 Lot.zero t13.toNat).con).c).hi))))]) ([.sl a2 1 counts.length (fun i_ => intCells (nth counts 0 i_)), .blk B34 [.slice a_t14122 t14121.length c_t14123, .int .i64 r_15.mass.lo, .int .i64 r_15.mass.hi, .int .i64 r_15.target.a.lo, .int .i64 r_15.target.a.hi, .int .i64 r_15.target.b.lo, .int .i64 r_15.target.b.hi, .int .i64 r_15.target.c.lo, .int .i64 r_15.target.c.hi] 28, owE Lot.cells Lot.zero a_t14122 c_t14123 43 9 t14121]) (by kernel_rfl) (by kernel_rfl) (by kernel_rfl) ?_
                            exact Ends.mid (decide (((((nth t14121 Lot.zero t13.toNat).con).c).lo) < ((((nth t14121 Lot.zero t13.toNat).con).c).hi))) (Option.some.inj h).symm (by kernel_rfl) (by kernel_rfl)
                          · have h := br_f h hc149
                            refine AtL.runR 6 [] [1, 2, 7, 8, 10, 11, 12, 13, 14, 15, 81] [true, true, true, true] ([(1, .slice a2 counts.length c2), (2, .int .u8 by_), (7, .int .i64 (fitsK r_ r_3)), (8, .int .i64 (weighE r_ r_3)), (10, .int .i64 (stC (bestM r_6))), (11, .int .i64 (bestE r_6)), (12, .pointer (some ⟨B34, 0, none⟩)), (13, .int .i64 t13), (14, .pointer (some ⟨slB a_t14122, slO a_t14122 + t13.toNat * 9, none⟩)), (15, .int .i64 2), (81, .bool false)]) [] [] (fun _ => by as_aux_lemma => kernel_rfl) trivial ?_
                            refine AtL.nil (by kernel_rfl) ?_
                            refine Ends.sel [1, 2, 7, 8, 10, 11, 12, 13, 14, 15, 81] [0, 1, 2] ([(1, .slice a2 counts.length c2), (2, .int .u8 by_), (7, .int .i64 (fitsK r_ r_3)), (8, .int .i64 (weighE r_ r_3)), (10, .int .i64 (stC (bestM r_6))), (11, .int .i64 (bestE r_6)), (12, .pointer (some ⟨B34, 0, none⟩)), (13, .int .i64 t13), (14, .pointer (some ⟨slB a_t14122, slO a_t14122 + t13.toNat * 9, none⟩)), (15, .int .i64 2), (81, .bool false)]) ([.sl a2 1 counts.length (fun i_ => intCells (nth counts 0 i_)), .blk B34 [.slice a_t14122 t14121.length c_t14123, .int .i64 r_15.mass.lo, .int .i64 r_15.mass.hi, .int .i64 r_15.target.a.lo, .int .i64 r_15.target.a.hi, .int .i64 r_15.target.b.lo, .int .i64 r_15.target.b.hi, .int .i64 r_15.target.c.lo, .int .i64 r_15.target.c.hi] 28, owE Lot.cells Lot.zero a_t14122 c_t14123 43 9 t14121]) (by kernel_rfl) (by kernel_rfl) (by kernel_rfl) ?_
                            exact Ends.mid false (Option.some.inj h).symm (by kernel_rfl) (by kernel_rfl)
                        · revert hI; revert s; intro t81 hI
                          replace hI : o147 = t81 := hI
                          have h := hr147
                          try rw [hI] at h
                          refine At.cond (t81) (by kernel_rfl) (fun hc148 => ?_) (fun hc148 => ?_)
                          · have h := br_t h hc148
                            refine At.plan ([.sl a2 1 counts.length (fun i_ => intCells (nth counts 0 i_)), .blk B34 [.slice a_t14122 t14121.length c_t14123, .int .i64 r_15.mass.lo, .int .i64 r_15.mass.hi, .int .i64 r_15.target.a.lo, .int .i64 r_15.target.a.hi, .int .i64 r_15.target.b.lo, .int .i64 r_15.target.b.hi, .int .i64 r_15.target.c.lo, .int .i64 r_15.target.c.hi] 28, owE Lot.cells Lot.zero a_t14122 c_t14123 43 9 t14121]) [0, 1, 2] (by kernel_rfl) (by kernel_rfl) [.st [0, 1, 2, 3, 4, 5, 6, 7, 8, 9, 10, 11], .tl [12]] (by kernel_rfl) (by kernel_rfl) ?_
                            refine AtP.st ?_
                            refine AtY.run 12 [(2, 6, t13.toNat)] [1, 2, 7, 8, 10, 11, 12, 13, 14, 15, 89, 93] ([(1, .slice a2 counts.length c2), (2, .int .u8 by_), (7, .int .i64 (fitsK r_ r_3)), (8, .int .i64 (weighE r_ r_3)), (10, .int .i64 (stC (bestM r_6))), (11, .int .i64 (bestE r_6)), (12, .pointer (some ⟨B34, 0, none⟩)), (13, .int .i64 t13), (14, .pointer (some ⟨slB a_t14122, slO a_t14122 + t13.toNat * 9, none⟩)), (15, .int .i64 2), (89, .int .i64 (IntKind.i64.wrap (((((nth t14121 Lot.zero t13.toNat).con).c).lo) + (1 : Int)))), (93, .pointer (some ⟨slB a_t14122, slO a_t14122 + t13.toNat * 9 + 6, none⟩))]) [slB a_t14122, slO a_t14122 + t13.toNat * 9 + 6] [t13.toNat < t14121.length] (by as_aux_lemma => kernel_rfl) ⟨inB_lt g146, trivial⟩ ?_
                            refine AtY.nil (by kernel_rfl) ?_
                            refine AtP.tl ?_
                            refine AtL.storeOw 2 Lot.zero a_t14122 c_t14123 43 9 t14121 (by kernel_rfl) xlen43 t13.toNat (inB_lt g146) 6 (by decide) (⟨(nth t14121 Lot.zero t13.toNat).count, (nth t14121 Lot.zero t13.toNat).mass, (⟨(((nth t14121 Lot.zero t13.toNat).con).a), (((nth t14121 Lot.zero t13.toNat).con).b), (⟨IntKind.i64.wrap (((((nth t14121 Lot.zero t13.toNat).con).c).lo) + (1 : Int)), (((nth t14121 Lot.zero t13.toNat).con).c).hi⟩ : Rng)⟩ : Bnds), (nth t14121 Lot.zero t13.toNat).cost⟩ : Lot) (.int .i64 (IntKind.i64.wrap (((((nth t14121 Lot.zero t13.toNat).con).c).lo) + (1 : Int)))) (by kernel_rfl) ⟨slB a_t14122, slO a_t14122 + t13.toNat * 9 + 6, none⟩ (by kernel_rfl) (by kernel_rfl) ?_
                            refine AtL.fit2 ([(1, .slice a2 counts.length c2), (2, .int .u8 by_), (7, .int .i64 (fitsK r_ r_3)), (8, .int .i64 (weighE r_ r_3)), (10, .int .i64 (stC (bestM r_6))), (11, .int .i64 (bestE r_6)), (12, .pointer (some ⟨B34, 0, none⟩)), (13, .int .i64 t13), (14, .pointer (some ⟨slB a_t14122, slO a_t14122 + t13.toNat * 9, none⟩)), (15, .int .i64 2), (89, .int .i64 (IntKind.i64.wrap (((((nth t14121 Lot.zero t13.toNat).con).c).lo) + (1 : Int)))), (93, .pointer (some ⟨slB a_t14122, slO a_t14122 + t13.toNat * 9 + 6, none⟩))]) ([.sl a2 1 counts.length (fun i_ => intCells (nth counts 0 i_)), .blk B34 [.slice a_t14122 ((t14121.set t13.toNat (⟨(nth t14121 Lot.zero t13.toNat).count, (nth t14121 Lot.zero t13.toNat).mass, (⟨(((nth t14121 Lot.zero t13.toNat).con).a), (((nth t14121 Lot.zero t13.toNat).con).b), (⟨IntKind.i64.wrap (((((nth t14121 Lot.zero t13.toNat).con).c).lo) + (1 : Int)), (((nth t14121 Lot.zero t13.toNat).con).c).hi⟩ : Rng)⟩ : Bnds), (nth t14121 Lot.zero t13.toNat).cost⟩ : Lot)).length) c_t14123, .int .i64 r_15.mass.lo, .int .i64 r_15.mass.hi, .int .i64 r_15.target.a.lo, .int .i64 r_15.target.a.hi, .int .i64 r_15.target.b.lo, .int .i64 r_15.target.b.hi, .int .i64 r_15.target.c.lo, .int .i64 r_15.target.c.hi] 28, owE Lot.cells Lot.zero a_t14122 c_t14123 43 9 (t14121.set t13.toNat (⟨(nth t14121 Lot.zero t13.toNat).count, (nth t14121 Lot.zero t13.toNat).mass, (⟨(((nth t14121 Lot.zero t13.toNat).con).a), (((nth t14121 Lot.zero t13.toNat).con).b), (⟨IntKind.i64.wrap (((((nth t14121 Lot.zero t13.toNat).con).c).lo) + (1 : Int)), (((nth t14121 Lot.zero t13.toNat).con).c).hi⟩ : Rng)⟩ : Bnds), (nth t14121 Lot.zero t13.toNat).cost⟩ : Lot))]) (by kernel_rfl) (by simp only [List.length_set, List.set_cons_zero, List.set_cons_succ]) ?_
                            refine AtL.nil (by kernel_rfl) ?_
                            refine Ends.tl ?_
                            refine AtP.nil ?_
                            refine Ends.weak [1, 2, 7, 8, 10, 11, 12, 13, 14, 15] [true, true, true] ([(1, .slice a2 counts.length c2), (2, .int .u8 by_), (7, .int .i64 (fitsK r_ r_3)), (8, .int .i64 (weighE r_ r_3)), (10, .int .i64 (stC (bestM r_6))), (11, .int .i64 (bestE r_6)), (12, .pointer (some ⟨B34, 0, none⟩)), (13, .int .i64 t13), (14, .pointer (some ⟨slB a_t14122, slO a_t14122 + t13.toNat * 9, none⟩)), (15, .int .i64 2)]) ([.sl a2 1 counts.length (fun i_ => intCells (nth counts 0 i_)), .blk B34 [.slice a_t14122 ((t14121.set t13.toNat (⟨(nth t14121 Lot.zero t13.toNat).count, (nth t14121 Lot.zero t13.toNat).mass, (⟨(((nth t14121 Lot.zero t13.toNat).con).a), (((nth t14121 Lot.zero t13.toNat).con).b), (⟨IntKind.i64.wrap (((((nth t14121 Lot.zero t13.toNat).con).c).lo) + (1 : Int)), (((nth t14121 Lot.zero t13.toNat).con).c).hi⟩ : Rng)⟩ : Bnds), (nth t14121 Lot.zero t13.toNat).cost⟩ : Lot)).length) c_t14123, .int .i64 r_15.mass.lo, .int .i64 r_15.mass.hi, .int .i64 r_15.target.a.lo, .int .i64 r_15.target.a.hi, .int .i64 r_15.target.b.lo, .int .i64 r_15.target.b.hi, .int .i64 r_15.target.c.lo, .int .i64 r_15.target.c.hi] 28, owE Lot.cells Lot.zero a_t14122 c_t14123 43 9 (t14121.set t13.toNat (⟨(nth t14121 Lot.zero t13.toNat).count, (nth t14121 Lot.zero t13.toNat).mass, (⟨(((nth t14121 Lot.zero t13.toNat).con).a), (((nth t14121 Lot.zero t13.toNat).con).b), (⟨IntKind.i64.wrap (((((nth t14121 Lot.zero t13.toNat).con).c).lo) + (1 : Int)), (((nth t14121 Lot.zero t13.toNat).con).c).hi⟩ : Rng)⟩ : Bnds), (nth t14121 Lot.zero t13.toNat).cost⟩ : Lot))]) (by kernel_rfl) (by kernel_rfl) ?_
                            exact Ends.mid ((t14121.set t13.toNat (⟨(nth t14121 Lot.zero t13.toNat).count, (nth t14121 Lot.zero t13.toNat).mass, (⟨(((nth t14121 Lot.zero t13.toNat).con).a), (((nth t14121 Lot.zero t13.toNat).con).b), (⟨IntKind.i64.wrap (((((nth t14121 Lot.zero t13.toNat).con).c).lo) + (1 : Int)), (((nth t14121 Lot.zero t13.toNat).con).c).hi⟩ : Rng)⟩ : Bnds), (nth t14121 Lot.zero t13.toNat).cost⟩ : Lot)), a_t14122, c_t14123) (Option.some.inj h).symm (by kernel_rfl) (by kernel_rfl)
                          · have h := br_f h hc148
                            refine At.runR [] [1, 2, 7, 8, 10, 11, 12, 13, 14, 15] [true, true, true] (.normal) ([(1, .slice a2 counts.length c2), (2, .int .u8 by_), (7, .int .i64 (fitsK r_ r_3)), (8, .int .i64 (weighE r_ r_3)), (10, .int .i64 (stC (bestM r_6))), (11, .int .i64 (bestE r_6)), (12, .pointer (some ⟨B34, 0, none⟩)), (13, .int .i64 t13), (14, .pointer (some ⟨slB a_t14122, slO a_t14122 + t13.toNat * 9, none⟩)), (15, .int .i64 2)]) [] [] (fun _ => by as_aux_lemma => kernel_rfl) trivial ?_
                            exact Ends.mid (t14121, a_t14122, c_t14123) (Option.some.inj h).symm (by kernel_rfl) (by kernel_rfl)
                      · obtain ⟨t14135, a_t14136, c_t14137⟩ := s
                        replace hI : o134 = t14135 := hI
                        have h := hr134
                        try rw [hI] at h
                        refine At.seq ?_
                        obtain ⟨g140, h⟩ := gd h
                        refine At.run [(2, 6, t13.toNat), (2, 7, t13.toNat), (3, 0, 0), (3, 1, 0)] [1, 2, 7, 8, 10, 11, 12, 13, 14, 15, 17] [true, true, true, true] (.normal) (fun B266 => [(1, .slice a2 counts.length c2), (2, .int .u8 by_), (7, .int .i64 (fitsK r_ r_3)), (8, .int .i64 (weighE r_ r_3)), (10, .int .i64 (stC (bestM r_6))), (11, .int .i64 (bestE r_6)), (12, .pointer (some ⟨B34, 0, none⟩)), (13, .int .i64 t13), (14, .pointer (some ⟨slB a_t14136, slO a_t14136 + t13.toNat * 9, none⟩)), (15, .int .i64 2), (17, .pointer (some ⟨B266, 0, none⟩))]) (fun B266 => [.sl a2 1 counts.length (fun i_ => intCells (nth counts 0 i_)), .blk B34 [.slice a_t14136 t14135.length c_t14137, .int .i64 r_15.mass.lo, .int .i64 r_15.mass.hi, .int .i64 r_15.target.a.lo, .int .i64 r_15.target.a.hi, .int .i64 r_15.target.b.lo, .int .i64 r_15.target.b.hi, .int .i64 r_15.target.c.lo, .int .i64 r_15.target.c.hi] 28, owE Lot.cells Lot.zero a_t14136 c_t14137 43 9 t14135, .blk B266 [.int .i64 ((((nth t14135 Lot.zero t13.toNat).con).c).lo), .int .i64 ((((nth t14135 Lot.zero t13.toNat).con).c).hi)] 24]) (fun B266 => [slB a_t14136, slO a_t14136 + t13.toNat * 9 + 6, slB a_t14136, slO a_t14136 + t13.toNat * 9 + 7, B266, 0, B266, 1]) (fun B266 => [t13.toNat < t14135.length, t13.toNat < t14135.length]) (fun B266 => by as_aux_lemma => kernel_rfl) (fun B266 => ⟨inB_lt g140, inB_lt g140, trivial⟩) (fun B266 => ?_)
                        refine Ends.seq ?_
                        obtain ⟨o141, h, hr141⟩ := bd h
                        refine At.seq_mid (σ := Bool) (fun s => o141 = s) (fun s => [(1, .slice a2 counts.length c2), (2, .int .u8 by_), (7, .int .i64 (fitsK r_ r_3)), (8, .int .i64 (weighE r_ r_3)), (10, .int .i64 (stC (bestM r_6))), (11, .int .i64 (bestE r_6)), (12, .pointer (some ⟨B34, 0, none⟩)), (13, .int .i64 t13), (14, .pointer (some ⟨slB a_t14136, slO a_t14136 + t13.toNat * 9, none⟩)), (15, .int .i64 2), (109, .bool s)]) (fun s => [.sl a2 1 counts.length (fun i_ => intCells (nth counts 0 i_)), .blk B34 [.slice a_t14136 t14135.length c_t14137, .int .i64 r_15.mass.lo, .int .i64 r_15.mass.hi, .int .i64 r_15.target.a.lo, .int .i64 r_15.target.a.hi, .int .i64 r_15.target.b.lo, .int .i64 r_15.target.b.hi, .int .i64 r_15.target.c.lo, .int .i64 r_15.target.c.hi] 28, owE Lot.cells Lot.zero a_t14136 c_t14137 43 9 t14135]) ?_ (fun s hI => ?_)
                        · refine At.region ?_
                          refine AtL.runR 4 [] [1, 2, 7, 8, 10, 11, 12, 13, 14, 15, 17, 103] [true, true, true, true] ([(1, .slice a2 counts.length c2), (2, .int .u8 by_), (7, .int .i64 (fitsK r_ r_3)), (8, .int .i64 (weighE r_ r_3)), (10, .int .i64 (stC (bestM r_6))), (11, .int .i64 (bestE r_6)), (12, .pointer (some ⟨B34, 0, none⟩)), (13, .int .i64 t13), (14, .pointer (some ⟨slB a_t14136, slO a_t14136 + t13.toNat * 9, none⟩)), (15, .int .i64 2), (17, .pointer (some ⟨B266, 0, none⟩)), (103, .bool ((bitAnd .u8 by_ (2 : Int)) == (2 : Int)))]) [] [] (fun _ => by as_aux_lemma => kernel_rfl) trivial ?_
                          refine AtL.bool 103 ((bitAnd .u8 by_ (2 : Int)) == (2 : Int)) (by kernel_rfl) (fun hc143 => ?_) (fun hc143 => ?_)
                          · have h := br_t h hc143
                            refine AtL.runR 6 [(3, 0, 0), (3, 1, 0)] [1, 2, 7, 8, 10, 11, 12, 13, 14, 15, 109] [true, true, true, true] ([(1, .slice a2 counts.length c2), (2, .int .u8 by_), (7, .int .i64 (fitsK r_ r_3)), (8, .int .i64 (weighE r_ r_3)), (10, .int .i64 (stC (bestM r_6))), (11, .int .i64 (bestE r_6)), (12, .pointer (some ⟨B34, 0, none⟩)), (13, .int .i64 t13), (14, .pointer (some ⟨slB a_t14136, slO a_t14136 + t13.toNat * 9, none⟩)), (15, .int .i64 2), (109, .bool (decide (((((nth t14135 Lot.zero t13.toNat).con).c).lo) < ((((nth t14135 Lot.zero t13.toNat).con).c).hi))))]) [B266, 0, B266, 1] [] (fun _ => by as_aux_lemma => kernel_rfl) trivial ?_
                            refine AtL.nil (by kernel_rfl) ?_
                            refine Ends.sel [1, 2, 7, 8, 10, 11, 12, 13, 14, 15, 109] [0, 1, 2] ([(1, .slice a2 counts.length c2), (2, .int .u8 by_), (7, .int .i64 (fitsK r_ r_3)), (8, .int .i64 (weighE r_ r_3)), (10, .int .i64 (stC (bestM r_6))), (11, .int .i64 (bestE r_6)), (12, .pointer (some ⟨B34, 0, none⟩)), (13, .int .i64 t13), (14, .pointer (some ⟨slB a_t14136, slO a_t14136 + t13.toNat * 9, none⟩)), (15, .int .i64 2), (109, .bool (decide (((((nth t14135 Lot.zero t13.toNat).con).c).lo) < ((((nth t14135 Lot.zero t13.toNat).con).c).hi))))]) ([.sl a2 1 counts.length (fun i_ => intCells (nth counts 0 i_)), .blk B34 [.slice a_t14136 t14135.length c_t14137, .int .i64 r_15.mass.lo, .int .i64 r_15.mass.hi, .int .i64 r_15.target.a.lo, .int .i64 r_15.target.a.hi, .int .i64 r_15.target.b.lo, .int .i64 r_15.target.b.hi, .int .i64 r_15.target.c.lo, .int .i64 r_15.target.c.hi] 28, owE Lot.cells Lot.zero a_t14136 c_t14137 43 9 t14135]) (by kernel_rfl) (by kernel_rfl) (by kernel_rfl) ?_
                            exact Ends.mid (decide (((((nth t14135 Lot.zero t13.toNat).con).c).lo) < ((((nth t14135 Lot.zero t13.toNat).con).c).hi))) (Option.some.inj h).symm (by kernel_rfl) (by kernel_rfl)
                          · have h := br_f h hc143
                            refine AtL.runR 6 [] [1, 2, 7, 8, 10, 11, 12, 13, 14, 15, 109] [true, true, true, true] ([(1, .slice a2 counts.length c2), (2, .int .u8 by_), (7, .int .i64 (fitsK r_ r_3)), (8, .int .i64 (weighE r_ r_3)), (10, .int .i64 (stC (bestM r_6))), (11, .int .i64 (bestE r_6)), (12, .pointer (some ⟨B34, 0, none⟩)), (13, .int .i64 t13), (14, .pointer (some ⟨slB a_t14136, slO a_t14136 + t13.toNat * 9, none⟩)), (15, .int .i64 2), (109, .bool false)]) [] [] (fun _ => by as_aux_lemma => kernel_rfl) trivial ?_
                            refine AtL.nil (by kernel_rfl) ?_
                            refine Ends.sel [1, 2, 7, 8, 10, 11, 12, 13, 14, 15, 109] [0, 1, 2] ([(1, .slice a2 counts.length c2), (2, .int .u8 by_), (7, .int .i64 (fitsK r_ r_3)), (8, .int .i64 (weighE r_ r_3)), (10, .int .i64 (stC (bestM r_6))), (11, .int .i64 (bestE r_6)), (12, .pointer (some ⟨B34, 0, none⟩)), (13, .int .i64 t13), (14, .pointer (some ⟨slB a_t14136, slO a_t14136 + t13.toNat * 9, none⟩)), (15, .int .i64 2), (109, .bool false)]) ([.sl a2 1 counts.length (fun i_ => intCells (nth counts 0 i_)), .blk B34 [.slice a_t14136 t14135.length c_t14137, .int .i64 r_15.mass.lo, .int .i64 r_15.mass.hi, .int .i64 r_15.target.a.lo, .int .i64 r_15.target.a.hi, .int .i64 r_15.target.b.lo, .int .i64 r_15.target.b.hi, .int .i64 r_15.target.c.lo, .int .i64 r_15.target.c.hi] 28, owE Lot.cells Lot.zero a_t14136 c_t14137 43 9 t14135]) (by kernel_rfl) (by kernel_rfl) (by kernel_rfl) ?_
                            exact Ends.mid false (Option.some.inj h).symm (by kernel_rfl) (by kernel_rfl)
                        · revert hI; revert s; intro t109 hI
                          replace hI : o141 = t109 := hI
                          have h := hr141
                          try rw [hI] at h
                          refine At.cond (t109) (by kernel_rfl) (fun hc142 => ?_) (fun hc142 => ?_)
                          · have h := br_t h hc142
                            refine At.plan ([.sl a2 1 counts.length (fun i_ => intCells (nth counts 0 i_)), .blk B34 [.slice a_t14136 t14135.length c_t14137, .int .i64 r_15.mass.lo, .int .i64 r_15.mass.hi, .int .i64 r_15.target.a.lo, .int .i64 r_15.target.a.hi, .int .i64 r_15.target.b.lo, .int .i64 r_15.target.b.hi, .int .i64 r_15.target.c.lo, .int .i64 r_15.target.c.hi] 28, owE Lot.cells Lot.zero a_t14136 c_t14137 43 9 t14135]) [0, 1, 2] (by kernel_rfl) (by kernel_rfl) [.st [0, 1, 2, 3, 4, 5, 6, 7, 8, 9, 10, 11], .tl [12]] (by kernel_rfl) (by kernel_rfl) ?_
                            refine AtP.st ?_
                            refine AtY.run 12 [(2, 7, t13.toNat)] [1, 2, 7, 8, 10, 11, 12, 13, 14, 15, 117, 121] ([(1, .slice a2 counts.length c2), (2, .int .u8 by_), (7, .int .i64 (fitsK r_ r_3)), (8, .int .i64 (weighE r_ r_3)), (10, .int .i64 (stC (bestM r_6))), (11, .int .i64 (bestE r_6)), (12, .pointer (some ⟨B34, 0, none⟩)), (13, .int .i64 t13), (14, .pointer (some ⟨slB a_t14136, slO a_t14136 + t13.toNat * 9, none⟩)), (15, .int .i64 2), (117, .int .i64 (IntKind.i64.wrap (((((nth t14135 Lot.zero t13.toNat).con).c).hi) - (1 : Int)))), (121, .pointer (some ⟨slB a_t14136, slO a_t14136 + t13.toNat * 9 + 7, none⟩))]) [slB a_t14136, slO a_t14136 + t13.toNat * 9 + 7] [t13.toNat < t14135.length] (by as_aux_lemma => kernel_rfl) ⟨inB_lt g140, trivial⟩ ?_
                            refine AtY.nil (by kernel_rfl) ?_
                            refine AtP.tl ?_
                            refine AtL.storeOw 2 Lot.zero a_t14136 c_t14137 43 9 t14135 (by kernel_rfl) xlen43 t13.toNat (inB_lt g140) 7 (by decide) (⟨(nth t14135 Lot.zero t13.toNat).count, (nth t14135 Lot.zero t13.toNat).mass, (⟨(((nth t14135 Lot.zero t13.toNat).con).a), (((nth t14135 Lot.zero t13.toNat).con).b), (⟨(((nth t14135 Lot.zero t13.toNat).con).c).lo, IntKind.i64.wrap (((((nth t14135 Lot.zero t13.toNat).con).c).hi) - (1 : Int))⟩ : Rng)⟩ : Bnds), (nth t14135 Lot.zero t13.toNat).cost⟩ : Lot) (.int .i64 (IntKind.i64.wrap (((((nth t14135 Lot.zero t13.toNat).con).c).hi) - (1 : Int)))) (by kernel_rfl) ⟨slB a_t14136, slO a_t14136 + t13.toNat * 9 + 7, none⟩ (by kernel_rfl) (by kernel_rfl) ?_
                            refine AtL.fit2 ([(1, .slice a2 counts.length c2), (2, .int .u8 by_), (7, .int .i64 (fitsK r_ r_3)), (8, .int .i64 (weighE r_ r_3)), (10, .int .i64 (stC (bestM r_6))), (11, .int .i64 (bestE r_6)), (12, .pointer (some ⟨B34, 0, none⟩)), (13, .int .i64 t13), (14, .pointer (some ⟨slB a_t14136, slO a_t14136 + t13.toNat * 9, none⟩)), (15, .int .i64 2), (117, .int .i64 (IntKind.i64.wrap (((((nth t14135 Lot.zero t13.toNat).con).c).hi) - (1 : Int)))), (121, .pointer (some ⟨slB a_t14136, slO a_t14136 + t13.toNat * 9 + 7, none⟩))]) ([.sl a2 1 counts.length (fun i_ => intCells (nth counts 0 i_)), .blk B34 [.slice a_t14136 ((t14135.set t13.toNat (⟨(nth t14135 Lot.zero t13.toNat).count, (nth t14135 Lot.zero t13.toNat).mass, (⟨(((nth t14135 Lot.zero t13.toNat).con).a), (((nth t14135 Lot.zero t13.toNat).con).b), (⟨(((nth t14135 Lot.zero t13.toNat).con).c).lo, IntKind.i64.wrap (((((nth t14135 Lot.zero t13.toNat).con).c).hi) - (1 : Int))⟩ : Rng)⟩ : Bnds), (nth t14135 Lot.zero t13.toNat).cost⟩ : Lot)).length) c_t14137, .int .i64 r_15.mass.lo, .int .i64 r_15.mass.hi, .int .i64 r_15.target.a.lo, .int .i64 r_15.target.a.hi, .int .i64 r_15.target.b.lo, .int .i64 r_15.target.b.hi, .int .i64 r_15.target.c.lo, .int .i64 r_15.target.c.hi] 28, owE Lot.cells Lot.zero a_t14136 c_t14137 43 9 (t14135.set t13.toNat (⟨(nth t14135 Lot.zero t13.toNat).count, (nth t14135 Lot.zero t13.toNat).mass, (⟨(((nth t14135 Lot.zero t13.toNat).con).a), (((nth t14135 Lot.zero t13.toNat).con).b), (⟨(((nth t14135 Lot.zero t13.toNat).con).c).lo, IntKind.i64.wrap (((((nth t14135 Lot.zero t13.toNat).con).c).hi) - (1 : Int))⟩ : Rng)⟩ : Bnds), (nth t14135 Lot.zero t13.toNat).cost⟩ : Lot))]) (by kernel_rfl) (by simp only [List.length_set, List.set_cons_zero, List.set_cons_succ]) ?_
                            refine AtL.nil (by kernel_rfl) ?_
                            refine Ends.tl ?_
                            refine AtP.nil ?_
                            refine Ends.weak [1, 2, 7, 8, 10, 11, 12, 13, 14, 15] [true, true, true] ([(1, .slice a2 counts.length c2), (2, .int .u8 by_), (7, .int .i64 (fitsK r_ r_3)), (8, .int .i64 (weighE r_ r_3)), (10, .int .i64 (stC (bestM r_6))), (11, .int .i64 (bestE r_6)), (12, .pointer (some ⟨B34, 0, none⟩)), (13, .int .i64 t13), (14, .pointer (some ⟨slB a_t14136, slO a_t14136 + t13.toNat * 9, none⟩)), (15, .int .i64 2)]) ([.sl a2 1 counts.length (fun i_ => intCells (nth counts 0 i_)), .blk B34 [.slice a_t14136 ((t14135.set t13.toNat (⟨(nth t14135 Lot.zero t13.toNat).count, (nth t14135 Lot.zero t13.toNat).mass, (⟨(((nth t14135 Lot.zero t13.toNat).con).a), (((nth t14135 Lot.zero t13.toNat).con).b), (⟨(((nth t14135 Lot.zero t13.toNat).con).c).lo, IntKind.i64.wrap (((((nth t14135 Lot.zero t13.toNat).con).c).hi) - (1 : Int))⟩ : Rng)⟩ : Bnds), (nth t14135 Lot.zero t13.toNat).cost⟩ : Lot)).length) c_t14137, .int .i64 r_15.mass.lo, .int .i64 r_15.mass.hi, .int .i64 r_15.target.a.lo, .int .i64 r_15.target.a.hi, .int .i64 r_15.target.b.lo, .int .i64 r_15.target.b.hi, .int .i64 r_15.target.c.lo, .int .i64 r_15.target.c.hi] 28, owE Lot.cells Lot.zero a_t14136 c_t14137 43 9 (t14135.set t13.toNat (⟨(nth t14135 Lot.zero t13.toNat).count, (nth t14135 Lot.zero t13.toNat).mass, (⟨(((nth t14135 Lot.zero t13.toNat).con).a), (((nth t14135 Lot.zero t13.toNat).con).b), (⟨(((nth t14135 Lot.zero t13.toNat).con).c).lo, IntKind.i64.wrap (((((nth t14135 Lot.zero t13.toNat).con).c).hi) - (1 : Int))⟩ : Rng)⟩ : Bnds), (nth t14135 Lot.zero t13.toNat).cost⟩ : Lot))]) (by kernel_rfl) (by kernel_rfl) ?_
                            refine Ends.block_normal ?_
                            exact Ends.mid ((t14135.set t13.toNat (⟨(nth t14135 Lot.zero t13.toNat).count, (nth t14135 Lot.zero t13.toNat).mass, (⟨(((nth t14135 Lot.zero t13.toNat).con).a), (((nth t14135 Lot.zero t13.toNat).con).b), (⟨(((nth t14135 Lot.zero t13.toNat).con).c).lo, IntKind.i64.wrap (((((nth t14135 Lot.zero t13.toNat).con).c).hi) - (1 : Int))⟩ : Rng)⟩ : Bnds), (nth t14135 Lot.zero t13.toNat).cost⟩ : Lot)), a_t14136, c_t14137) (Option.some.inj h).symm (by kernel_rfl) (by kernel_rfl)
                          · have h := br_f h hc142
                            refine At.runR [] [1, 2, 7, 8, 10, 11, 12, 13, 14, 15] [true, true, true] (.normal) ([(1, .slice a2 counts.length c2), (2, .int .u8 by_), (7, .int .i64 (fitsK r_ r_3)), (8, .int .i64 (weighE r_ r_3)), (10, .int .i64 (stC (bestM r_6))), (11, .int .i64 (bestE r_6)), (12, .pointer (some ⟨B34, 0, none⟩)), (13, .int .i64 t13), (14, .pointer (some ⟨slB a_t14136, slO a_t14136 + t13.toNat * 9, none⟩)), (15, .int .i64 2)]) [] [] (fun _ => by as_aux_lemma => kernel_rfl) trivial ?_
                            refine Ends.block_normal ?_
                            exact Ends.mid (t14135, a_t14136, c_t14137) (Option.some.inj h).symm (by kernel_rfl) (by kernel_rfl)
                    · obtain ⟨t14128, a_t14129, c_t14130⟩ := s
                      replace hI : o127 = t14128 := hI
                      have h := hr127
                      try rw [hI] at h
                      refine At.runR [] [1, 2, 7, 8, 10, 11, 12, 13, 14, 15] [true, true, true] (.normal) ([(1, .slice a2 counts.length c2), (2, .int .u8 by_), (7, .int .i64 (fitsK r_ r_3)), (8, .int .i64 (weighE r_ r_3)), (10, .int .i64 (stC (bestM r_6))), (11, .int .i64 (bestE r_6)), (12, .pointer (some ⟨B34, 0, none⟩)), (13, .int .i64 t13), (14, .pointer (some ⟨slB a_t14129, slO a_t14129 + t13.toNat * 9, none⟩)), (15, .int .i64 3)]) [] [] (fun _ => by as_aux_lemma => kernel_rfl) trivial ?_
                      refine Ends.rounds ?_
                      refine AtR.succ ?_
                      refine At.runR [] [1, 2, 7, 8, 10, 11, 12, 13, 14] [true, true, true] (.exit 2) ([(1, .slice a2 counts.length c2), (2, .int .u8 by_), (7, .int .i64 (fitsK r_ r_3)), (8, .int .i64 (weighE r_ r_3)), (10, .int .i64 (stC (bestM r_6))), (11, .int .i64 (bestE r_6)), (12, .pointer (some ⟨B34, 0, none⟩)), (13, .int .i64 t13), (14, .pointer (some ⟨slB a_t14129, slO a_t14129 + t13.toNat * 9, none⟩))]) [] [] (fun _ => by as_aux_lemma => kernel_rfl) trivial ?_
                      refine Ends.then_exit ?_
                      refine Ends.block_hit ?_
                      exact Ends.mid (t14128, a_t14129, c_t14130) (Option.some.inj h).symm (by kernel_rfl) (by kernel_rfl)
              · obtain ⟨t14, a_t14, c_t14⟩ := s
                replace hI : o106 = t14 := hI
                have h := hr106
                try rw [hI] at h
                obtain ⟨o107, h, hr107⟩ := bd h
                refine At.seq_mid (σ := Bool) (fun s => o107 = s) (fun s => [(1, .slice a2 counts.length c2), (2, .int .u8 by_), (7, .int .i64 (fitsK r_ r_3)), (8, .int .i64 (weighE r_ r_3)), (10, .int .i64 (stC (bestM r_6))), (11, .int .i64 (bestE r_6)), (12, .pointer (some ⟨B34, 0, none⟩)), (13, .int .i64 t13), (14, .pointer (some ⟨slB a_t14, slO a_t14 + t13.toNat * 9, none⟩)), (131, .bool s)]) (fun s => [.sl a2 1 counts.length (fun i_ => intCells (nth counts 0 i_)), .blk B34 [.slice a_t14 t14.length c_t14, .int .i64 r_15.mass.lo, .int .i64 r_15.mass.hi, .int .i64 r_15.target.a.lo, .int .i64 r_15.target.a.hi, .int .i64 r_15.target.b.lo, .int .i64 r_15.target.b.hi, .int .i64 r_15.target.c.lo, .int .i64 r_15.target.c.hi] 28, owE Lot.cells Lot.zero a_t14 c_t14 43 9 t14]) ?_ (fun s hI => ?_)
                · refine At.region ?_
                  refine AtL.runR 4 [] [1, 2, 7, 8, 10, 11, 12, 13, 14, 125] [true, true, true] ([(1, .slice a2 counts.length c2), (2, .int .u8 by_), (7, .int .i64 (fitsK r_ r_3)), (8, .int .i64 (weighE r_ r_3)), (10, .int .i64 (stC (bestM r_6))), (11, .int .i64 (bestE r_6)), (12, .pointer (some ⟨B34, 0, none⟩)), (13, .int .i64 t13), (14, .pointer (some ⟨slB a_t14, slO a_t14 + t13.toNat * 9, none⟩)), (125, .bool ((bitAnd .u8 by_ (4 : Int)) == (4 : Int)))]) [] [] (fun _ => by as_aux_lemma => kernel_rfl) trivial ?_
                  refine AtL.bool 125 ((bitAnd .u8 by_ (4 : Int)) == (4 : Int)) (by kernel_rfl) (fun hc111 => ?_) (fun hc111 => ?_)
                  · have h := br_t h hc111
                    obtain ⟨g112, h⟩ := gd h
                    refine AtL.runR 6 [(2, 0, t13.toNat)] [1, 2, 7, 8, 10, 11, 12, 13, 14, 131] [true, true, true] ([(1, .slice a2 counts.length c2), (2, .int .u8 by_), (7, .int .i64 (fitsK r_ r_3)), (8, .int .i64 (weighE r_ r_3)), (10, .int .i64 (stC (bestM r_6))), (11, .int .i64 (bestE r_6)), (12, .pointer (some ⟨B34, 0, none⟩)), (13, .int .i64 t13), (14, .pointer (some ⟨slB a_t14, slO a_t14 + t13.toNat * 9, none⟩)), (131, .bool (decide (((nth t14 Lot.zero t13.toNat).count) < (1000 : Int))))]) [slB a_t14, slO a_t14 + t13.toNat * 9 + 0] [t13.toNat < t14.length] (fun _ => by as_aux_lemma => kernel_rfl) ⟨inB_lt g112, trivial⟩ ?_
                    refine AtL.nil (by kernel_rfl) ?_
                    exact Ends.mid (decide (((nth t14 Lot.zero t13.toNat).count) < (1000 : Int))) (Option.some.inj h).symm (by kernel_rfl) (by kernel_rfl)
                  · have h := br_f h hc111
                    refine AtL.runR 6 [] [1, 2, 7, 8, 10, 11, 12, 13, 14, 131] [true, true, true] ([(1, .slice a2 counts.length c2), (2, .int .u8 by_), (7, .int .i64 (fitsK r_ r_3)), (8, .int .i64 (weighE r_ r_3)), (10, .int .i64 (stC (bestM r_6))), (11, .int .i64 (bestE r_6)), (12, .pointer (some ⟨B34, 0, none⟩)), (13, .int .i64 t13), (14, .pointer (some ⟨slB a_t14, slO a_t14 + t13.toNat * 9, none⟩)), (131, .bool false)]) [] [] (fun _ => by as_aux_lemma => kernel_rfl) trivial ?_
                    refine AtL.nil (by kernel_rfl) ?_
                    exact Ends.mid false (Option.some.inj h).symm (by kernel_rfl) (by kernel_rfl)
                · revert hI; revert s; intro t131 hI
                  replace hI : o107 = t131 := hI
                  have h := hr107
                  try rw [hI] at h
                  refine At.cond (t131) (by kernel_rfl) (fun hc108 => ?_) (fun hc108 => ?_)
                  · have h := br_t h hc108
                    refine At.region ?_
                    obtain ⟨g110, h⟩ := gd h
                    refine AtL.runR 7 [(2, 0, t13.toNat)] [1, 2, 7, 8, 10, 11, 12, 13, 136, 138] [true, true, true] ([(1, .slice a2 counts.length c2), (2, .int .u8 by_), (7, .int .i64 (fitsK r_ r_3)), (8, .int .i64 (weighE r_ r_3)), (10, .int .i64 (stC (bestM r_6))), (11, .int .i64 (bestE r_6)), (12, .pointer (some ⟨B34, 0, none⟩)), (13, .int .i64 t13), (136, .int .i64 (IntKind.i64.wrap (((nth t14 Lot.zero t13.toNat).count) + (1 : Int)))), (138, .pointer (some ⟨slB a_t14, slO a_t14 + t13.toNat * 9, none⟩))]) [slB a_t14, slO a_t14 + t13.toNat * 9 + 0] [t13.toNat < t14.length] (fun _ => by as_aux_lemma => kernel_rfl) ⟨inB_lt g110, trivial⟩ ?_
                    refine AtL.storeOw 2 Lot.zero a_t14 c_t14 43 9 t14 (by kernel_rfl) xlen43 t13.toNat (inB_lt g110) 0 (by decide) (⟨IntKind.i64.wrap (((nth t14 Lot.zero t13.toNat).count) + (1 : Int)), (nth t14 Lot.zero t13.toNat).mass, (⟨(((nth t14 Lot.zero t13.toNat).con).a), (((nth t14 Lot.zero t13.toNat).con).b), (((nth t14 Lot.zero t13.toNat).con).c)⟩ : Bnds), (nth t14 Lot.zero t13.toNat).cost⟩ : Lot) (.int .i64 (IntKind.i64.wrap (((nth t14 Lot.zero t13.toNat).count) + (1 : Int)))) (by kernel_rfl) ⟨slB a_t14, slO a_t14 + t13.toNat * 9, none⟩ (by kernel_rfl) (by kernel_rfl) ?_
                    refine AtL.fit2 ([(1, .slice a2 counts.length c2), (2, .int .u8 by_), (7, .int .i64 (fitsK r_ r_3)), (8, .int .i64 (weighE r_ r_3)), (10, .int .i64 (stC (bestM r_6))), (11, .int .i64 (bestE r_6)), (12, .pointer (some ⟨B34, 0, none⟩)), (13, .int .i64 t13), (136, .int .i64 (IntKind.i64.wrap (((nth t14 Lot.zero t13.toNat).count) + (1 : Int)))), (138, .pointer (some ⟨slB a_t14, slO a_t14 + t13.toNat * 9, none⟩))]) ([.sl a2 1 counts.length (fun i_ => intCells (nth counts 0 i_)), .blk B34 [.slice a_t14 ((t14.set t13.toNat (⟨IntKind.i64.wrap (((nth t14 Lot.zero t13.toNat).count) + (1 : Int)), (nth t14 Lot.zero t13.toNat).mass, (⟨(((nth t14 Lot.zero t13.toNat).con).a), (((nth t14 Lot.zero t13.toNat).con).b), (((nth t14 Lot.zero t13.toNat).con).c)⟩ : Bnds), (nth t14 Lot.zero t13.toNat).cost⟩ : Lot)).length) c_t14, .int .i64 r_15.mass.lo, .int .i64 r_15.mass.hi, .int .i64 r_15.target.a.lo, .int .i64 r_15.target.a.hi, .int .i64 r_15.target.b.lo, .int .i64 r_15.target.b.hi, .int .i64 r_15.target.c.lo, .int .i64 r_15.target.c.hi] 28, owE Lot.cells Lot.zero a_t14 c_t14 43 9 (t14.set t13.toNat (⟨IntKind.i64.wrap (((nth t14 Lot.zero t13.toNat).count) + (1 : Int)), (nth t14 Lot.zero t13.toNat).mass, (⟨(((nth t14 Lot.zero t13.toNat).con).a), (((nth t14 Lot.zero t13.toNat).con).b), (((nth t14 Lot.zero t13.toNat).con).c)⟩ : Bnds), (nth t14 Lot.zero t13.toNat).cost⟩ : Lot))]) (by kernel_rfl) (by simp only [List.length_set, List.set_cons_zero, List.set_cons_succ]) ?_
                    refine AtL.nil (by kernel_rfl) ?_
                    refine Ends.block_normal ?_
                    refine Ends.sel [1, 2, 7, 8, 10, 11, 12, 13] [0, 1, 2] ([(1, .slice a2 counts.length c2), (2, .int .u8 by_), (7, .int .i64 (fitsK r_ r_3)), (8, .int .i64 (weighE r_ r_3)), (10, .int .i64 (stC (bestM r_6))), (11, .int .i64 (bestE r_6)), (12, .pointer (some ⟨B34, 0, none⟩)), (13, .int .i64 t13)]) ([.sl a2 1 counts.length (fun i_ => intCells (nth counts 0 i_)), .blk B34 [.slice a_t14 ((t14.set t13.toNat (⟨IntKind.i64.wrap (((nth t14 Lot.zero t13.toNat).count) + (1 : Int)), (nth t14 Lot.zero t13.toNat).mass, (⟨(((nth t14 Lot.zero t13.toNat).con).a), (((nth t14 Lot.zero t13.toNat).con).b), (((nth t14 Lot.zero t13.toNat).con).c)⟩ : Bnds), (nth t14 Lot.zero t13.toNat).cost⟩ : Lot)).length) c_t14, .int .i64 r_15.mass.lo, .int .i64 r_15.mass.hi, .int .i64 r_15.target.a.lo, .int .i64 r_15.target.a.hi, .int .i64 r_15.target.b.lo, .int .i64 r_15.target.b.hi, .int .i64 r_15.target.c.lo, .int .i64 r_15.target.c.hi] 28, owE Lot.cells Lot.zero a_t14 c_t14 43 9 (t14.set t13.toNat (⟨IntKind.i64.wrap (((nth t14 Lot.zero t13.toNat).count) + (1 : Int)), (nth t14 Lot.zero t13.toNat).mass, (⟨(((nth t14 Lot.zero t13.toNat).con).a), (((nth t14 Lot.zero t13.toNat).con).b), (((nth t14 Lot.zero t13.toNat).con).c)⟩ : Bnds), (nth t14 Lot.zero t13.toNat).cost⟩ : Lot))]) (by kernel_rfl) (by kernel_rfl) (by kernel_rfl) ?_
                    exact Ends.mid ((t14.set t13.toNat (⟨IntKind.i64.wrap (((nth t14 Lot.zero t13.toNat).count) + (1 : Int)), (nth t14 Lot.zero t13.toNat).mass, (⟨(((nth t14 Lot.zero t13.toNat).con).a), (((nth t14 Lot.zero t13.toNat).con).b), (((nth t14 Lot.zero t13.toNat).con).c)⟩ : Bnds), (nth t14 Lot.zero t13.toNat).cost⟩ : Lot)), a_t14, c_t14) (Option.some.inj h).symm (by kernel_rfl) (by kernel_rfl)
                  · have h := br_f h hc108
                    refine At.runR [] [1, 2, 7, 8, 10, 11, 12, 13] [true, true, true] (.normal) ([(1, .slice a2 counts.length c2), (2, .int .u8 by_), (7, .int .i64 (fitsK r_ r_3)), (8, .int .i64 (weighE r_ r_3)), (10, .int .i64 (stC (bestM r_6))), (11, .int .i64 (bestE r_6)), (12, .pointer (some ⟨B34, 0, none⟩)), (13, .int .i64 t13)]) [] [] (fun _ => by as_aux_lemma => kernel_rfl) trivial ?_
                    refine Ends.block_normal ?_
                    exact Ends.mid (t14, a_t14, c_t14) (Option.some.inj h).symm (by kernel_rfl) (by kernel_rfl)
            · obtain ⟨x99, a_x100, c_x101⟩ := s
              replace hI : o98 = x99 := hI
              have h := hr98
              try rw [hI] at h
              refine At.runR [] [1, 2, 7, 8, 10, 11, 12, 13] [true, true, true] (.normal) ([(1, .slice a2 counts.length c2), (2, .int .u8 by_), (7, .int .i64 (fitsK r_ r_3)), (8, .int .i64 (weighE r_ r_3)), (10, .int .i64 (stC (bestM r_6))), (11, .int .i64 (bestE r_6)), (12, .pointer (some ⟨B34, 0, none⟩)), (13, .int .i64 (IntKind.i64.wrap (t13 + (1 : Int))))]) [] [] (fun _ => by as_aux_lemma => kernel_rfl) trivial ?_
              exact Ends.round fuel94 ((IntKind.i64.wrap (t13 + (1 : Int))), x99, a_x100, c_x101) (Nat.lt_succ_self _) h (by kernel_rfl) (by kernel_rfl)
          · have h := br_f h hc95
            refine At.runR [] [1, 2, 7, 8, 10, 11, 12] [true, true, true] (.exit 0) ([(1, .slice a2 counts.length c2), (2, .int .u8 by_), (7, .int .i64 (fitsK r_ r_3)), (8, .int .i64 (weighE r_ r_3)), (10, .int .i64 (stC (bestM r_6))), (11, .int .i64 (bestE r_6)), (12, .pointer (some ⟨B34, 0, none⟩))]) [] [] (fun _ => by as_aux_lemma => kernel_rfl) trivial ?_
            refine Ends.then_exit ?_
            refine Ends.then_exit ?_
            refine Ends.block_hit ?_
            exact Ends.mid (x91, a_x92, c_x93) (Option.some.inj h).symm (by kernel_rfl) (by kernel_rfl)
      · obtain ⟨x, a_x, c_x⟩ := s
        replace hI : o18 = x := hI
        have h := hr18
        try rw [hI] at h
        obtain ⟨o19, h, hr19⟩ := bd h
        refine At.seq_mid (σ := Int × Int × Int × Int × Int × Int) (fun s => o19 = (s.1, s.2.1, s.2.2.1, s.2.2.2.1, s.2.2.2.2.1, s.2.2.2.2.2)) (fun s => [(1, .slice a2 counts.length c2), (2, .int .u8 by_), (7, .int .i64 (fitsK r_ r_3)), (8, .int .i64 (weighE r_ r_3)), (10, .int .i64 (stC (bestM r_6))), (11, .int .i64 (bestE r_6)), (12, .pointer (some ⟨B34, 0, none⟩))]) (fun s => [.sl a2 1 counts.length (fun i_ => intCells (nth counts 0 i_)), .blk B34 [.slice a_x x.length c_x, .int .i64 r_15.mass.lo, .int .i64 r_15.mass.hi, .int .i64 s.1, .int .i64 s.2.1, .int .i64 s.2.2.1, .int .i64 s.2.2.2.1, .int .i64 s.2.2.2.2.1, .int .i64 s.2.2.2.2.2] 28, owE Lot.cells Lot.zero a_x c_x 43 9 x]) ?_ (fun s hI => ?_)
        · refine At.seq ?_
          refine At.runR [] [1, 2, 7, 8, 10, 11, 12, 18] [true, true, true] (.normal) ([(1, .slice a2 counts.length c2), (2, .int .u8 by_), (7, .int .i64 (fitsK r_ r_3)), (8, .int .i64 (weighE r_ r_3)), (10, .int .i64 (stC (bestM r_6))), (11, .int .i64 (bestE r_6)), (12, .pointer (some ⟨B34, 0, none⟩)), (18, .int .i64 0)]) [] [] (fun _ => by as_aux_lemma => kernel_rfl) trivial ?_
          refine Ends.seq ?_
          refine At.block ?_
          refine At.unroll 13 ?_
          refine AtR.succ ?_
          refine At.seq ?_
          refine At.runR [] [1, 2, 7, 8, 10, 11, 12, 18] [true, true, true] (.normal) ([(1, .slice a2 counts.length c2), (2, .int .u8 by_), (7, .int .i64 (fitsK r_ r_3)), (8, .int .i64 (weighE r_ r_3)), (10, .int .i64 (stC (bestM r_6))), (11, .int .i64 (bestE r_6)), (12, .pointer (some ⟨B34, 0, none⟩)), (18, .int .i64 0)]) [] [] (fun _ => by as_aux_lemma => kernel_rfl) trivial ?_
          refine Ends.seq ?_
          obtain ⟨o54, h, hr54⟩ := bd h
          refine At.seq_mid (σ := Int × Int) (fun s => o54 = (s.1, s.2)) (fun s => [(1, .slice a2 counts.length c2), (2, .int .u8 by_), (7, .int .i64 (fitsK r_ r_3)), (8, .int .i64 (weighE r_ r_3)), (10, .int .i64 (stC (bestM r_6))), (11, .int .i64 (bestE r_6)), (12, .pointer (some ⟨B34, 0, none⟩)), (18, .int .i64 0)]) (fun s => [.sl a2 1 counts.length (fun i_ => intCells (nth counts 0 i_)), .blk B34 [.slice a_x x.length c_x, .int .i64 r_15.mass.lo, .int .i64 r_15.mass.hi, .int .i64 s.1, .int .i64 s.2, .int .i64 r_15.target.b.lo, .int .i64 r_15.target.b.hi, .int .i64 r_15.target.c.lo, .int .i64 r_15.target.c.hi] 28, owE Lot.cells Lot.zero a_x c_x 43 9 x]) ?_ (fun s hI => ?_)
          · refine At.block ?_
            obtain ⟨o81, h, hr81⟩ := bd h
            refine At.seq_mid (σ := Int) (fun s => o81 = s) (fun s => [(1, .slice a2 counts.length c2), (2, .int .u8 by_), (7, .int .i64 (fitsK r_ r_3)), (8, .int .i64 (weighE r_ r_3)), (10, .int .i64 (stC (bestM r_6))), (11, .int .i64 (bestE r_6)), (12, .pointer (some ⟨B34, 0, none⟩)), (18, .int .i64 0)]) (fun s => [.sl a2 1 counts.length (fun i_ => intCells (nth counts 0 i_)), .blk B34 [.slice a_x x.length c_x, .int .i64 r_15.mass.lo, .int .i64 r_15.mass.hi, .int .i64 s, .int .i64 r_15.target.a.hi, .int .i64 r_15.target.b.lo, .int .i64 r_15.target.b.hi, .int .i64 r_15.target.c.lo, .int .i64 r_15.target.c.hi] 28, owE Lot.cells Lot.zero a_x c_x 43 9 x]) ?_ (fun s hI => ?_)
            · obtain ⟨o87, h, hr87⟩ := bd h
              refine At.seq_mid (σ := Bool) (fun s => o87 = s) (fun s => [(1, .slice a2 counts.length c2), (2, .int .u8 by_), (7, .int .i64 (fitsK r_ r_3)), (8, .int .i64 (weighE r_ r_3)), (10, .int .i64 (stC (bestM r_6))), (11, .int .i64 (bestE r_6)), (12, .pointer (some ⟨B34, 0, none⟩)), (18, .int .i64 0), (153, .bool s)]) (fun s => [.sl a2 1 counts.length (fun i_ => intCells (nth counts 0 i_)), .blk B34 [.slice a_x x.length c_x, .int .i64 r_15.mass.lo, .int .i64 r_15.mass.hi, .int .i64 r_15.target.a.lo, .int .i64 r_15.target.a.hi, .int .i64 r_15.target.b.lo, .int .i64 r_15.target.b.hi, .int .i64 r_15.target.c.lo, .int .i64 r_15.target.c.hi] 28, owE Lot.cells Lot.zero a_x c_x 43 9 x]) ?_ (fun s hI => ?_)
              · refine At.region ?_
                refine AtL.runR 4 [] [1, 2, 7, 8, 10, 11, 12, 18, 146] [true, true, true] ([(1, .slice a2 counts.length c2), (2, .int .u8 by_), (7, .int .i64 (fitsK r_ r_3)), (8, .int .i64 (weighE r_ r_3)), (10, .int .i64 (stC (bestM r_6))), (11, .int .i64 (bestE r_6)), (12, .pointer (some ⟨B34, 0, none⟩)), (18, .int .i64 0), (146, .bool ((bitAnd .u8 by_ (8 : Int)) == (8 : Int)))]) [] [] (fun _ => by as_aux_lemma => kernel_rfl) trivial ?_
                refine AtL.bool 146 ((bitAnd .u8 by_ (8 : Int)) == (8 : Int)) (by kernel_rfl) (fun hc90 => ?_) (fun hc90 => ?_)
                · have h := br_t h hc90
                  refine AtL.runR 7 [(1, 3, 0)] [1, 2, 7, 8, 10, 11, 12, 18, 153] [true, true, true] ([(1, .slice a2 counts.length c2), (2, .int .u8 by_), (7, .int .i64 (fitsK r_ r_3)), (8, .int .i64 (weighE r_ r_3)), (10, .int .i64 (stC (bestM r_6))), (11, .int .i64 (bestE r_6)), (12, .pointer (some ⟨B34, 0, none⟩)), (18, .int .i64 0), (153, .bool (decide (r_15.target.a.lo > (0 : Int))))]) [B34, 3] [] (fun _ => by as_aux_lemma => kernel_rfl) trivial ?_
                  refine AtL.nil (by kernel_rfl) ?_
                  exact Ends.mid (decide (r_15.target.a.lo > (0 : Int))) (Option.some.inj h).symm (by kernel_rfl) (by kernel_rfl)
                · have h := br_f h hc90
                  refine AtL.runR 7 [] [1, 2, 7, 8, 10, 11, 12, 18, 153] [true, true, true] ([(1, .slice a2 counts.length c2), (2, .int .u8 by_), (7, .int .i64 (fitsK r_ r_3)), (8, .int .i64 (weighE r_ r_3)), (10, .int .i64 (stC (bestM r_6))), (11, .int .i64 (bestE r_6)), (12, .pointer (some ⟨B34, 0, none⟩)), (18, .int .i64 0), (153, .bool false)]) [] [] (fun _ => by as_aux_lemma => kernel_rfl) trivial ?_
                  refine AtL.nil (by kernel_rfl) ?_
                  exact Ends.mid false (Option.some.inj h).symm (by kernel_rfl) (by kernel_rfl)
              · revert hI; revert s; intro t15388 hI
                replace hI : o87 = t15388 := hI
                have h := hr87
                try rw [hI] at h
                refine At.cond (t15388) (by kernel_rfl) (fun hc89 => ?_) (fun hc89 => ?_)
                · have h := br_t h hc89
                  refine At.run [(1, 3, 0), (1, 3, 0)] [1, 2, 7, 8, 10, 11, 12, 18] [true, true, true] (.normal) (fun B197 => [(1, .slice a2 counts.length c2), (2, .int .u8 by_), (7, .int .i64 (fitsK r_ r_3)), (8, .int .i64 (weighE r_ r_3)), (10, .int .i64 (stC (bestM r_6))), (11, .int .i64 (bestE r_6)), (12, .pointer (some ⟨B34, 0, none⟩)), (18, .int .i64 0)]) (fun B197 => [.sl a2 1 counts.length (fun i_ => intCells (nth counts 0 i_)), .blk B34 [.slice a_x x.length c_x, .int .i64 r_15.mass.lo, .int .i64 r_15.mass.hi, .int .i64 (IntKind.i64.wrap (r_15.target.a.lo - (1 : Int))), .int .i64 r_15.target.a.hi, .int .i64 r_15.target.b.lo, .int .i64 r_15.target.b.hi, .int .i64 r_15.target.c.lo, .int .i64 r_15.target.c.hi] 28, owE Lot.cells Lot.zero a_x c_x 43 9 x]) (fun B197 => [B34, 3, B34, 3]) (fun B197 => []) (fun B197 => by as_aux_lemma => kernel_rfl) (fun B197 => trivial) (fun B197 => ?_)
                  exact Ends.mid (IntKind.i64.wrap (r_15.target.a.lo - (1 : Int))) (Option.some.inj h).symm (by kernel_rfl) (by kernel_rfl)
                · have h := br_f h hc89
                  refine At.runR [] [1, 2, 7, 8, 10, 11, 12, 18] [true, true, true] (.normal) ([(1, .slice a2 counts.length c2), (2, .int .u8 by_), (7, .int .i64 (fitsK r_ r_3)), (8, .int .i64 (weighE r_ r_3)), (10, .int .i64 (stC (bestM r_6))), (11, .int .i64 (bestE r_6)), (12, .pointer (some ⟨B34, 0, none⟩)), (18, .int .i64 0)]) [] [] (fun _ => by as_aux_lemma => kernel_rfl) trivial ?_
                  exact Ends.mid r_15.target.a.lo (Option.some.inj h).symm (by kernel_rfl) (by kernel_rfl)
            · revert hI; revert s; intro x82 hI
              replace hI : o81 = x82 := hI
              have h := hr81
              try rw [hI] at h
              obtain ⟨o83, h, hr83⟩ := bd h
              refine At.seq_mid (σ := Bool) (fun s => o83 = s) (fun s => [(1, .slice a2 counts.length c2), (2, .int .u8 by_), (7, .int .i64 (fitsK r_ r_3)), (8, .int .i64 (weighE r_ r_3)), (10, .int .i64 (stC (bestM r_6))), (11, .int .i64 (bestE r_6)), (12, .pointer (some ⟨B34, 0, none⟩)), (18, .int .i64 0), (173, .bool s)]) (fun s => [.sl a2 1 counts.length (fun i_ => intCells (nth counts 0 i_)), .blk B34 [.slice a_x x.length c_x, .int .i64 r_15.mass.lo, .int .i64 r_15.mass.hi, .int .i64 x82, .int .i64 r_15.target.a.hi, .int .i64 r_15.target.b.lo, .int .i64 r_15.target.b.hi, .int .i64 r_15.target.c.lo, .int .i64 r_15.target.c.hi] 28, owE Lot.cells Lot.zero a_x c_x 43 9 x]) ?_ (fun s hI => ?_)
              · refine At.region ?_
                refine AtL.runR 4 [] [1, 2, 7, 8, 10, 11, 12, 18, 166] [true, true, true] ([(1, .slice a2 counts.length c2), (2, .int .u8 by_), (7, .int .i64 (fitsK r_ r_3)), (8, .int .i64 (weighE r_ r_3)), (10, .int .i64 (stC (bestM r_6))), (11, .int .i64 (bestE r_6)), (12, .pointer (some ⟨B34, 0, none⟩)), (18, .int .i64 0), (166, .bool ((bitAnd .u8 by_ (16 : Int)) == (16 : Int)))]) [] [] (fun _ => by as_aux_lemma => kernel_rfl) trivial ?_
                refine AtL.bool 166 ((bitAnd .u8 by_ (16 : Int)) == (16 : Int)) (by kernel_rfl) (fun hc86 => ?_) (fun hc86 => ?_)
                · have h := br_t h hc86
                  refine AtL.runR 7 [(1, 4, 0)] [1, 2, 7, 8, 10, 11, 12, 18, 173] [true, true, true] ([(1, .slice a2 counts.length c2), (2, .int .u8 by_), (7, .int .i64 (fitsK r_ r_3)), (8, .int .i64 (weighE r_ r_3)), (10, .int .i64 (stC (bestM r_6))), (11, .int .i64 (bestE r_6)), (12, .pointer (some ⟨B34, 0, none⟩)), (18, .int .i64 0), (173, .bool (decide (r_15.target.a.hi < (100000000 : Int))))]) [B34, 4] [] (fun _ => by as_aux_lemma => kernel_rfl) trivial ?_
                  refine AtL.nil (by kernel_rfl) ?_
                  exact Ends.mid (decide (r_15.target.a.hi < (100000000 : Int))) (Option.some.inj h).symm (by kernel_rfl) (by kernel_rfl)
                · have h := br_f h hc86
                  refine AtL.runR 7 [] [1, 2, 7, 8, 10, 11, 12, 18, 173] [true, true, true] ([(1, .slice a2 counts.length c2), (2, .int .u8 by_), (7, .int .i64 (fitsK r_ r_3)), (8, .int .i64 (weighE r_ r_3)), (10, .int .i64 (stC (bestM r_6))), (11, .int .i64 (bestE r_6)), (12, .pointer (some ⟨B34, 0, none⟩)), (18, .int .i64 0), (173, .bool false)]) [] [] (fun _ => by as_aux_lemma => kernel_rfl) trivial ?_
                  refine AtL.nil (by kernel_rfl) ?_
                  exact Ends.mid false (Option.some.inj h).symm (by kernel_rfl) (by kernel_rfl)
              · revert hI; revert s; intro t17384 hI
                replace hI : o83 = t17384 := hI
                have h := hr83
                try rw [hI] at h
                refine At.cond (t17384) (by kernel_rfl) (fun hc85 => ?_) (fun hc85 => ?_)
                · have h := br_t h hc85
                  refine At.run [(1, 4, 0), (1, 4, 0)] [1, 2, 7, 8, 10, 11, 12, 18] [true, true, true] (.normal) (fun B188 => [(1, .slice a2 counts.length c2), (2, .int .u8 by_), (7, .int .i64 (fitsK r_ r_3)), (8, .int .i64 (weighE r_ r_3)), (10, .int .i64 (stC (bestM r_6))), (11, .int .i64 (bestE r_6)), (12, .pointer (some ⟨B34, 0, none⟩)), (18, .int .i64 0)]) (fun B188 => [.sl a2 1 counts.length (fun i_ => intCells (nth counts 0 i_)), .blk B34 [.slice a_x x.length c_x, .int .i64 r_15.mass.lo, .int .i64 r_15.mass.hi, .int .i64 x82, .int .i64 (IntKind.i64.wrap (r_15.target.a.hi + (1 : Int))), .int .i64 r_15.target.b.lo, .int .i64 r_15.target.b.hi, .int .i64 r_15.target.c.lo, .int .i64 r_15.target.c.hi] 28, owE Lot.cells Lot.zero a_x c_x 43 9 x]) (fun B188 => [B34, 4, B34, 4]) (fun B188 => []) (fun B188 => by as_aux_lemma => kernel_rfl) (fun B188 => trivial) (fun B188 => ?_)
                  refine Ends.block_normal ?_
                  exact Ends.mid (x82, (IntKind.i64.wrap (r_15.target.a.hi + (1 : Int)))) (Option.some.inj h).symm (by kernel_rfl) (by kernel_rfl)
                · have h := br_f h hc85
                  refine At.runR [] [1, 2, 7, 8, 10, 11, 12, 18] [true, true, true] (.normal) ([(1, .slice a2 counts.length c2), (2, .int .u8 by_), (7, .int .i64 (fitsK r_ r_3)), (8, .int .i64 (weighE r_ r_3)), (10, .int .i64 (stC (bestM r_6))), (11, .int .i64 (bestE r_6)), (12, .pointer (some ⟨B34, 0, none⟩)), (18, .int .i64 0)]) [] [] (fun _ => by as_aux_lemma => kernel_rfl) trivial ?_
                  refine Ends.block_normal ?_
                  exact Ends.mid (x82, r_15.target.a.hi) (Option.some.inj h).symm (by kernel_rfl) (by kernel_rfl)
          · obtain ⟨x55, x56⟩ := s
            replace hI : o54 = (x55, x56) := hI
            have h := hr54
            try rw [hI] at h
            refine At.runR [] [1, 2, 7, 8, 10, 11, 12, 18] [true, true, true] (.normal) ([(1, .slice a2 counts.length c2), (2, .int .u8 by_), (7, .int .i64 (fitsK r_ r_3)), (8, .int .i64 (weighE r_ r_3)), (10, .int .i64 (stC (bestM r_6))), (11, .int .i64 (bestE r_6)), (12, .pointer (some ⟨B34, 0, none⟩)), (18, .int .i64 1)]) [] [] (fun _ => by as_aux_lemma => kernel_rfl) trivial ?_
            refine Ends.rounds ?_
            refine AtR.succ ?_
            refine At.seq ?_
            refine At.runR [] [1, 2, 7, 8, 10, 11, 12, 18] [true, true, true] (.normal) ([(1, .slice a2 counts.length c2), (2, .int .u8 by_), (7, .int .i64 (fitsK r_ r_3)), (8, .int .i64 (weighE r_ r_3)), (10, .int .i64 (stC (bestM r_6))), (11, .int .i64 (bestE r_6)), (12, .pointer (some ⟨B34, 0, none⟩)), (18, .int .i64 1)]) [] [] (fun _ => by as_aux_lemma => kernel_rfl) trivial ?_
            refine Ends.seq ?_
            obtain ⟨o57, h, hr57⟩ := bd h
            refine At.seq_mid (σ := Int × Int) (fun s => o57 = (s.1, s.2)) (fun s => [(1, .slice a2 counts.length c2), (2, .int .u8 by_), (7, .int .i64 (fitsK r_ r_3)), (8, .int .i64 (weighE r_ r_3)), (10, .int .i64 (stC (bestM r_6))), (11, .int .i64 (bestE r_6)), (12, .pointer (some ⟨B34, 0, none⟩)), (18, .int .i64 1)]) (fun s => [.sl a2 1 counts.length (fun i_ => intCells (nth counts 0 i_)), .blk B34 [.slice a_x x.length c_x, .int .i64 r_15.mass.lo, .int .i64 r_15.mass.hi, .int .i64 x55, .int .i64 x56, .int .i64 s.1, .int .i64 s.2, .int .i64 r_15.target.c.lo, .int .i64 r_15.target.c.hi] 28, owE Lot.cells Lot.zero a_x c_x 43 9 x]) ?_ (fun s hI => ?_)
            · refine At.block ?_
              obtain ⟨o71, h, hr71⟩ := bd h
              refine At.seq_mid (σ := Int) (fun s => o71 = s) (fun s => [(1, .slice a2 counts.length c2), (2, .int .u8 by_), (7, .int .i64 (fitsK r_ r_3)), (8, .int .i64 (weighE r_ r_3)), (10, .int .i64 (stC (bestM r_6))), (11, .int .i64 (bestE r_6)), (12, .pointer (some ⟨B34, 0, none⟩)), (18, .int .i64 1)]) (fun s => [.sl a2 1 counts.length (fun i_ => intCells (nth counts 0 i_)), .blk B34 [.slice a_x x.length c_x, .int .i64 r_15.mass.lo, .int .i64 r_15.mass.hi, .int .i64 x55, .int .i64 x56, .int .i64 s, .int .i64 r_15.target.b.hi, .int .i64 r_15.target.c.lo, .int .i64 r_15.target.c.hi] 28, owE Lot.cells Lot.zero a_x c_x 43 9 x]) ?_ (fun s hI => ?_)
              · obtain ⟨o77, h, hr77⟩ := bd h
                refine At.seq_mid (σ := Bool) (fun s => o77 = s) (fun s => [(1, .slice a2 counts.length c2), (2, .int .u8 by_), (7, .int .i64 (fitsK r_ r_3)), (8, .int .i64 (weighE r_ r_3)), (10, .int .i64 (stC (bestM r_6))), (11, .int .i64 (bestE r_6)), (12, .pointer (some ⟨B34, 0, none⟩)), (18, .int .i64 1), (153, .bool s)]) (fun s => [.sl a2 1 counts.length (fun i_ => intCells (nth counts 0 i_)), .blk B34 [.slice a_x x.length c_x, .int .i64 r_15.mass.lo, .int .i64 r_15.mass.hi, .int .i64 x55, .int .i64 x56, .int .i64 r_15.target.b.lo, .int .i64 r_15.target.b.hi, .int .i64 r_15.target.c.lo, .int .i64 r_15.target.c.hi] 28, owE Lot.cells Lot.zero a_x c_x 43 9 x]) ?_ (fun s hI => ?_)
                · refine At.region ?_
                  refine AtL.runR 4 [] [1, 2, 7, 8, 10, 11, 12, 18, 146] [true, true, true] ([(1, .slice a2 counts.length c2), (2, .int .u8 by_), (7, .int .i64 (fitsK r_ r_3)), (8, .int .i64 (weighE r_ r_3)), (10, .int .i64 (stC (bestM r_6))), (11, .int .i64 (bestE r_6)), (12, .pointer (some ⟨B34, 0, none⟩)), (18, .int .i64 1), (146, .bool ((bitAnd .u8 by_ (8 : Int)) == (8 : Int)))]) [] [] (fun _ => by as_aux_lemma => kernel_rfl) trivial ?_
                  refine AtL.bool 146 ((bitAnd .u8 by_ (8 : Int)) == (8 : Int)) (by kernel_rfl) (fun hc80 => ?_) (fun hc80 => ?_)
                  · have h := br_t h hc80
                    refine AtL.runR 7 [(1, 5, 0)] [1, 2, 7, 8, 10, 11, 12, 18, 153] [true, true, true] ([(1, .slice a2 counts.length c2), (2, .int .u8 by_), (7, .int .i64 (fitsK r_ r_3)), (8, .int .i64 (weighE r_ r_3)), (10, .int .i64 (stC (bestM r_6))), (11, .int .i64 (bestE r_6)), (12, .pointer (some ⟨B34, 0, none⟩)), (18, .int .i64 1), (153, .bool (decide (r_15.target.b.lo > (0 : Int))))]) [B34, 5] [] (fun _ => by as_aux_lemma => kernel_rfl) trivial ?_
                    refine AtL.nil (by kernel_rfl) ?_
                    exact Ends.mid (decide (r_15.target.b.lo > (0 : Int))) (Option.some.inj h).symm (by kernel_rfl) (by kernel_rfl)
                  · have h := br_f h hc80
                    refine AtL.runR 7 [] [1, 2, 7, 8, 10, 11, 12, 18, 153] [true, true, true] ([(1, .slice a2 counts.length c2), (2, .int .u8 by_), (7, .int .i64 (fitsK r_ r_3)), (8, .int .i64 (weighE r_ r_3)), (10, .int .i64 (stC (bestM r_6))), (11, .int .i64 (bestE r_6)), (12, .pointer (some ⟨B34, 0, none⟩)), (18, .int .i64 1), (153, .bool false)]) [] [] (fun _ => by as_aux_lemma => kernel_rfl) trivial ?_
                    refine AtL.nil (by kernel_rfl) ?_
                    exact Ends.mid false (Option.some.inj h).symm (by kernel_rfl) (by kernel_rfl)
                · revert hI; revert s; intro t15378 hI
                  replace hI : o77 = t15378 := hI
                  have h := hr77
                  try rw [hI] at h
                  refine At.cond (t15378) (by kernel_rfl) (fun hc79 => ?_) (fun hc79 => ?_)
                  · have h := br_t h hc79
                    refine At.run [(1, 5, 0), (1, 5, 0)] [1, 2, 7, 8, 10, 11, 12, 18] [true, true, true] (.normal) (fun B176 => [(1, .slice a2 counts.length c2), (2, .int .u8 by_), (7, .int .i64 (fitsK r_ r_3)), (8, .int .i64 (weighE r_ r_3)), (10, .int .i64 (stC (bestM r_6))), (11, .int .i64 (bestE r_6)), (12, .pointer (some ⟨B34, 0, none⟩)), (18, .int .i64 1)]) (fun B176 => [.sl a2 1 counts.length (fun i_ => intCells (nth counts 0 i_)), .blk B34 [.slice a_x x.length c_x, .int .i64 r_15.mass.lo, .int .i64 r_15.mass.hi, .int .i64 x55, .int .i64 x56, .int .i64 (IntKind.i64.wrap (r_15.target.b.lo - (1 : Int))), .int .i64 r_15.target.b.hi, .int .i64 r_15.target.c.lo, .int .i64 r_15.target.c.hi] 28, owE Lot.cells Lot.zero a_x c_x 43 9 x]) (fun B176 => [B34, 5, B34, 5]) (fun B176 => []) (fun B176 => by as_aux_lemma => kernel_rfl) (fun B176 => trivial) (fun B176 => ?_)
                    exact Ends.mid (IntKind.i64.wrap (r_15.target.b.lo - (1 : Int))) (Option.some.inj h).symm (by kernel_rfl) (by kernel_rfl)
                  · have h := br_f h hc79
                    refine At.runR [] [1, 2, 7, 8, 10, 11, 12, 18] [true, true, true] (.normal) ([(1, .slice a2 counts.length c2), (2, .int .u8 by_), (7, .int .i64 (fitsK r_ r_3)), (8, .int .i64 (weighE r_ r_3)), (10, .int .i64 (stC (bestM r_6))), (11, .int .i64 (bestE r_6)), (12, .pointer (some ⟨B34, 0, none⟩)), (18, .int .i64 1)]) [] [] (fun _ => by as_aux_lemma => kernel_rfl) trivial ?_
                    exact Ends.mid r_15.target.b.lo (Option.some.inj h).symm (by kernel_rfl) (by kernel_rfl)
              · revert hI; revert s; intro x72 hI
                replace hI : o71 = x72 := hI
                have h := hr71
                try rw [hI] at h
                obtain ⟨o73, h, hr73⟩ := bd h
                refine At.seq_mid (σ := Bool) (fun s => o73 = s) (fun s => [(1, .slice a2 counts.length c2), (2, .int .u8 by_), (7, .int .i64 (fitsK r_ r_3)), (8, .int .i64 (weighE r_ r_3)), (10, .int .i64 (stC (bestM r_6))), (11, .int .i64 (bestE r_6)), (12, .pointer (some ⟨B34, 0, none⟩)), (18, .int .i64 1), (173, .bool s)]) (fun s => [.sl a2 1 counts.length (fun i_ => intCells (nth counts 0 i_)), .blk B34 [.slice a_x x.length c_x, .int .i64 r_15.mass.lo, .int .i64 r_15.mass.hi, .int .i64 x55, .int .i64 x56, .int .i64 x72, .int .i64 r_15.target.b.hi, .int .i64 r_15.target.c.lo, .int .i64 r_15.target.c.hi] 28, owE Lot.cells Lot.zero a_x c_x 43 9 x]) ?_ (fun s hI => ?_)
                · refine At.region ?_
                  refine AtL.runR 4 [] [1, 2, 7, 8, 10, 11, 12, 18, 166] [true, true, true] ([(1, .slice a2 counts.length c2), (2, .int .u8 by_), (7, .int .i64 (fitsK r_ r_3)), (8, .int .i64 (weighE r_ r_3)), (10, .int .i64 (stC (bestM r_6))), (11, .int .i64 (bestE r_6)), (12, .pointer (some ⟨B34, 0, none⟩)), (18, .int .i64 1), (166, .bool ((bitAnd .u8 by_ (16 : Int)) == (16 : Int)))]) [] [] (fun _ => by as_aux_lemma => kernel_rfl) trivial ?_
                  refine AtL.bool 166 ((bitAnd .u8 by_ (16 : Int)) == (16 : Int)) (by kernel_rfl) (fun hc76 => ?_) (fun hc76 => ?_)
                  · have h := br_t h hc76
                    refine AtL.runR 7 [(1, 6, 0)] [1, 2, 7, 8, 10, 11, 12, 18, 173] [true, true, true] ([(1, .slice a2 counts.length c2), (2, .int .u8 by_), (7, .int .i64 (fitsK r_ r_3)), (8, .int .i64 (weighE r_ r_3)), (10, .int .i64 (stC (bestM r_6))), (11, .int .i64 (bestE r_6)), (12, .pointer (some ⟨B34, 0, none⟩)), (18, .int .i64 1), (173, .bool (decide (r_15.target.b.hi < (100000000 : Int))))]) [B34, 6] [] (fun _ => by as_aux_lemma => kernel_rfl) trivial ?_
                    refine AtL.nil (by kernel_rfl) ?_
                    exact Ends.mid (decide (r_15.target.b.hi < (100000000 : Int))) (Option.some.inj h).symm (by kernel_rfl) (by kernel_rfl)
                  · have h := br_f h hc76
                    refine AtL.runR 7 [] [1, 2, 7, 8, 10, 11, 12, 18, 173] [true, true, true] ([(1, .slice a2 counts.length c2), (2, .int .u8 by_), (7, .int .i64 (fitsK r_ r_3)), (8, .int .i64 (weighE r_ r_3)), (10, .int .i64 (stC (bestM r_6))), (11, .int .i64 (bestE r_6)), (12, .pointer (some ⟨B34, 0, none⟩)), (18, .int .i64 1), (173, .bool false)]) [] [] (fun _ => by as_aux_lemma => kernel_rfl) trivial ?_
                    refine AtL.nil (by kernel_rfl) ?_
                    exact Ends.mid false (Option.some.inj h).symm (by kernel_rfl) (by kernel_rfl)
                · revert hI; revert s; intro t17374 hI
                  replace hI : o73 = t17374 := hI
                  have h := hr73
                  try rw [hI] at h
                  refine At.cond (t17374) (by kernel_rfl) (fun hc75 => ?_) (fun hc75 => ?_)
                  · have h := br_t h hc75
                    refine At.run [(1, 6, 0), (1, 6, 0)] [1, 2, 7, 8, 10, 11, 12, 18] [true, true, true] (.normal) (fun B167 => [(1, .slice a2 counts.length c2), (2, .int .u8 by_), (7, .int .i64 (fitsK r_ r_3)), (8, .int .i64 (weighE r_ r_3)), (10, .int .i64 (stC (bestM r_6))), (11, .int .i64 (bestE r_6)), (12, .pointer (some ⟨B34, 0, none⟩)), (18, .int .i64 1)]) (fun B167 => [.sl a2 1 counts.length (fun i_ => intCells (nth counts 0 i_)), .blk B34 [.slice a_x x.length c_x, .int .i64 r_15.mass.lo, .int .i64 r_15.mass.hi, .int .i64 x55, .int .i64 x56, .int .i64 x72, .int .i64 (IntKind.i64.wrap (r_15.target.b.hi + (1 : Int))), .int .i64 r_15.target.c.lo, .int .i64 r_15.target.c.hi] 28, owE Lot.cells Lot.zero a_x c_x 43 9 x]) (fun B167 => [B34, 6, B34, 6]) (fun B167 => []) (fun B167 => by as_aux_lemma => kernel_rfl) (fun B167 => trivial) (fun B167 => ?_)
                    refine Ends.block_normal ?_
                    exact Ends.mid (x72, (IntKind.i64.wrap (r_15.target.b.hi + (1 : Int)))) (Option.some.inj h).symm (by kernel_rfl) (by kernel_rfl)
                  · have h := br_f h hc75
                    refine At.runR [] [1, 2, 7, 8, 10, 11, 12, 18] [true, true, true] (.normal) ([(1, .slice a2 counts.length c2), (2, .int .u8 by_), (7, .int .i64 (fitsK r_ r_3)), (8, .int .i64 (weighE r_ r_3)), (10, .int .i64 (stC (bestM r_6))), (11, .int .i64 (bestE r_6)), (12, .pointer (some ⟨B34, 0, none⟩)), (18, .int .i64 1)]) [] [] (fun _ => by as_aux_lemma => kernel_rfl) trivial ?_
                    refine Ends.block_normal ?_
                    exact Ends.mid (x72, r_15.target.b.hi) (Option.some.inj h).symm (by kernel_rfl) (by kernel_rfl)
            · obtain ⟨x58, x59⟩ := s
              replace hI : o57 = (x58, x59) := hI
              have h := hr57
              try rw [hI] at h
              refine At.runR [] [1, 2, 7, 8, 10, 11, 12, 18] [true, true, true] (.normal) ([(1, .slice a2 counts.length c2), (2, .int .u8 by_), (7, .int .i64 (fitsK r_ r_3)), (8, .int .i64 (weighE r_ r_3)), (10, .int .i64 (stC (bestM r_6))), (11, .int .i64 (bestE r_6)), (12, .pointer (some ⟨B34, 0, none⟩)), (18, .int .i64 2)]) [] [] (fun _ => by as_aux_lemma => kernel_rfl) trivial ?_
              refine Ends.rounds ?_
              refine AtR.succ ?_
              refine At.seq ?_
              refine At.runR [] [1, 2, 7, 8, 10, 11, 12, 18] [true, true, true] (.normal) ([(1, .slice a2 counts.length c2), (2, .int .u8 by_), (7, .int .i64 (fitsK r_ r_3)), (8, .int .i64 (weighE r_ r_3)), (10, .int .i64 (stC (bestM r_6))), (11, .int .i64 (bestE r_6)), (12, .pointer (some ⟨B34, 0, none⟩)), (18, .int .i64 2)]) [] [] (fun _ => by as_aux_lemma => kernel_rfl) trivial ?_
              refine Ends.seq ?_
              obtain ⟨o60, h, hr60⟩ := bd h
              refine At.seq_mid (σ := Int × Int) (fun s => o60 = (s.1, s.2)) (fun s => [(1, .slice a2 counts.length c2), (2, .int .u8 by_), (7, .int .i64 (fitsK r_ r_3)), (8, .int .i64 (weighE r_ r_3)), (10, .int .i64 (stC (bestM r_6))), (11, .int .i64 (bestE r_6)), (12, .pointer (some ⟨B34, 0, none⟩)), (18, .int .i64 2)]) (fun s => [.sl a2 1 counts.length (fun i_ => intCells (nth counts 0 i_)), .blk B34 [.slice a_x x.length c_x, .int .i64 r_15.mass.lo, .int .i64 r_15.mass.hi, .int .i64 x55, .int .i64 x56, .int .i64 x58, .int .i64 x59, .int .i64 s.1, .int .i64 s.2] 28, owE Lot.cells Lot.zero a_x c_x 43 9 x]) ?_ (fun s hI => ?_)
              · refine At.block ?_
                obtain ⟨o63, h, hr63⟩ := bd h
                refine At.seq_mid (σ := Int) (fun s => o63 = s) (fun s => [(1, .slice a2 counts.length c2), (2, .int .u8 by_), (7, .int .i64 (fitsK r_ r_3)), (8, .int .i64 (weighE r_ r_3)), (10, .int .i64 (stC (bestM r_6))), (11, .int .i64 (bestE r_6)), (12, .pointer (some ⟨B34, 0, none⟩)), (18, .int .i64 2)]) (fun s => [.sl a2 1 counts.length (fun i_ => intCells (nth counts 0 i_)), .blk B34 [.slice a_x x.length c_x, .int .i64 r_15.mass.lo, .int .i64 r_15.mass.hi, .int .i64 x55, .int .i64 x56, .int .i64 x58, .int .i64 x59, .int .i64 s, .int .i64 r_15.target.c.hi] 28, owE Lot.cells Lot.zero a_x c_x 43 9 x]) ?_ (fun s hI => ?_)
                · obtain ⟨o68, h, hr68⟩ := bd h
                  refine At.seq_mid (σ := Bool) (fun s => o68 = s) (fun s => [(1, .slice a2 counts.length c2), (2, .int .u8 by_), (7, .int .i64 (fitsK r_ r_3)), (8, .int .i64 (weighE r_ r_3)), (10, .int .i64 (stC (bestM r_6))), (11, .int .i64 (bestE r_6)), (12, .pointer (some ⟨B34, 0, none⟩)), (18, .int .i64 2), (153, .bool s)]) (fun s => [.sl a2 1 counts.length (fun i_ => intCells (nth counts 0 i_)), .blk B34 [.slice a_x x.length c_x, .int .i64 r_15.mass.lo, .int .i64 r_15.mass.hi, .int .i64 x55, .int .i64 x56, .int .i64 x58, .int .i64 x59, .int .i64 r_15.target.c.lo, .int .i64 r_15.target.c.hi] 28, owE Lot.cells Lot.zero a_x c_x 43 9 x]) ?_ (fun s hI => ?_)
                  · refine At.region ?_
                    refine AtL.runR 4 [] [1, 2, 7, 8, 10, 11, 12, 18, 146] [true, true, true] ([(1, .slice a2 counts.length c2), (2, .int .u8 by_), (7, .int .i64 (fitsK r_ r_3)), (8, .int .i64 (weighE r_ r_3)), (10, .int .i64 (stC (bestM r_6))), (11, .int .i64 (bestE r_6)), (12, .pointer (some ⟨B34, 0, none⟩)), (18, .int .i64 2), (146, .bool ((bitAnd .u8 by_ (8 : Int)) == (8 : Int)))]) [] [] (fun _ => by as_aux_lemma => kernel_rfl) trivial ?_
                    refine AtL.bool 146 ((bitAnd .u8 by_ (8 : Int)) == (8 : Int)) (by kernel_rfl) (fun hc70 => ?_) (fun hc70 => ?_)
                    · have h := br_t h hc70
                      refine AtL.runR 7 [(1, 7, 0)] [1, 2, 7, 8, 10, 11, 12, 18, 153] [true, true, true] ([(1, .slice a2 counts.length c2), (2, .int .u8 by_), (7, .int .i64 (fitsK r_ r_3)), (8, .int .i64 (weighE r_ r_3)), (10, .int .i64 (stC (bestM r_6))), (11, .int .i64 (bestE r_6)), (12, .pointer (some ⟨B34, 0, none⟩)), (18, .int .i64 2), (153, .bool (decide (r_15.target.c.lo > (0 : Int))))]) [B34, 7] [] (fun _ => by as_aux_lemma => kernel_rfl) trivial ?_
                      refine AtL.nil (by kernel_rfl) ?_
                      exact Ends.mid (decide (r_15.target.c.lo > (0 : Int))) (Option.some.inj h).symm (by kernel_rfl) (by kernel_rfl)
                    · have h := br_f h hc70
                      refine AtL.runR 7 [] [1, 2, 7, 8, 10, 11, 12, 18, 153] [true, true, true] ([(1, .slice a2 counts.length c2), (2, .int .u8 by_), (7, .int .i64 (fitsK r_ r_3)), (8, .int .i64 (weighE r_ r_3)), (10, .int .i64 (stC (bestM r_6))), (11, .int .i64 (bestE r_6)), (12, .pointer (some ⟨B34, 0, none⟩)), (18, .int .i64 2), (153, .bool false)]) [] [] (fun _ => by as_aux_lemma => kernel_rfl) trivial ?_
                      refine AtL.nil (by kernel_rfl) ?_
                      exact Ends.mid false (Option.some.inj h).symm (by kernel_rfl) (by kernel_rfl)
                  · revert hI; revert s; intro t153 hI
                    replace hI : o68 = t153 := hI
                    have h := hr68
                    try rw [hI] at h
                    refine At.cond (t153) (by kernel_rfl) (fun hc69 => ?_) (fun hc69 => ?_)
                    · have h := br_t h hc69
                      refine At.run [(1, 7, 0), (1, 7, 0)] [1, 2, 7, 8, 10, 11, 12, 18] [true, true, true] (.normal) (fun B155 => [(1, .slice a2 counts.length c2), (2, .int .u8 by_), (7, .int .i64 (fitsK r_ r_3)), (8, .int .i64 (weighE r_ r_3)), (10, .int .i64 (stC (bestM r_6))), (11, .int .i64 (bestE r_6)), (12, .pointer (some ⟨B34, 0, none⟩)), (18, .int .i64 2)]) (fun B155 => [.sl a2 1 counts.length (fun i_ => intCells (nth counts 0 i_)), .blk B34 [.slice a_x x.length c_x, .int .i64 r_15.mass.lo, .int .i64 r_15.mass.hi, .int .i64 x55, .int .i64 x56, .int .i64 x58, .int .i64 x59, .int .i64 (IntKind.i64.wrap (r_15.target.c.lo - (1 : Int))), .int .i64 r_15.target.c.hi] 28, owE Lot.cells Lot.zero a_x c_x 43 9 x]) (fun B155 => [B34, 7, B34, 7]) (fun B155 => []) (fun B155 => by as_aux_lemma => kernel_rfl) (fun B155 => trivial) (fun B155 => ?_)
                      exact Ends.mid (IntKind.i64.wrap (r_15.target.c.lo - (1 : Int))) (Option.some.inj h).symm (by kernel_rfl) (by kernel_rfl)
                    · have h := br_f h hc69
                      refine At.runR [] [1, 2, 7, 8, 10, 11, 12, 18] [true, true, true] (.normal) ([(1, .slice a2 counts.length c2), (2, .int .u8 by_), (7, .int .i64 (fitsK r_ r_3)), (8, .int .i64 (weighE r_ r_3)), (10, .int .i64 (stC (bestM r_6))), (11, .int .i64 (bestE r_6)), (12, .pointer (some ⟨B34, 0, none⟩)), (18, .int .i64 2)]) [] [] (fun _ => by as_aux_lemma => kernel_rfl) trivial ?_
                      exact Ends.mid r_15.target.c.lo (Option.some.inj h).symm (by kernel_rfl) (by kernel_rfl)
                · revert hI; revert s; intro x64 hI
                  replace hI : o63 = x64 := hI
                  have h := hr63
                  try rw [hI] at h
                  obtain ⟨o65, h, hr65⟩ := bd h
                  refine At.seq_mid (σ := Bool) (fun s => o65 = s) (fun s => [(1, .slice a2 counts.length c2), (2, .int .u8 by_), (7, .int .i64 (fitsK r_ r_3)), (8, .int .i64 (weighE r_ r_3)), (10, .int .i64 (stC (bestM r_6))), (11, .int .i64 (bestE r_6)), (12, .pointer (some ⟨B34, 0, none⟩)), (18, .int .i64 2), (173, .bool s)]) (fun s => [.sl a2 1 counts.length (fun i_ => intCells (nth counts 0 i_)), .blk B34 [.slice a_x x.length c_x, .int .i64 r_15.mass.lo, .int .i64 r_15.mass.hi, .int .i64 x55, .int .i64 x56, .int .i64 x58, .int .i64 x59, .int .i64 x64, .int .i64 r_15.target.c.hi] 28, owE Lot.cells Lot.zero a_x c_x 43 9 x]) ?_ (fun s hI => ?_)
                  · refine At.region ?_
                    refine AtL.runR 4 [] [1, 2, 7, 8, 10, 11, 12, 18, 166] [true, true, true] ([(1, .slice a2 counts.length c2), (2, .int .u8 by_), (7, .int .i64 (fitsK r_ r_3)), (8, .int .i64 (weighE r_ r_3)), (10, .int .i64 (stC (bestM r_6))), (11, .int .i64 (bestE r_6)), (12, .pointer (some ⟨B34, 0, none⟩)), (18, .int .i64 2), (166, .bool ((bitAnd .u8 by_ (16 : Int)) == (16 : Int)))]) [] [] (fun _ => by as_aux_lemma => kernel_rfl) trivial ?_
                    refine AtL.bool 166 ((bitAnd .u8 by_ (16 : Int)) == (16 : Int)) (by kernel_rfl) (fun hc67 => ?_) (fun hc67 => ?_)
                    · have h := br_t h hc67
                      refine AtL.runR 7 [(1, 8, 0)] [1, 2, 7, 8, 10, 11, 12, 18, 173] [true, true, true] ([(1, .slice a2 counts.length c2), (2, .int .u8 by_), (7, .int .i64 (fitsK r_ r_3)), (8, .int .i64 (weighE r_ r_3)), (10, .int .i64 (stC (bestM r_6))), (11, .int .i64 (bestE r_6)), (12, .pointer (some ⟨B34, 0, none⟩)), (18, .int .i64 2), (173, .bool (decide (r_15.target.c.hi < (100000000 : Int))))]) [B34, 8] [] (fun _ => by as_aux_lemma => kernel_rfl) trivial ?_
                      refine AtL.nil (by kernel_rfl) ?_
                      exact Ends.mid (decide (r_15.target.c.hi < (100000000 : Int))) (Option.some.inj h).symm (by kernel_rfl) (by kernel_rfl)
                    · have h := br_f h hc67
                      refine AtL.runR 7 [] [1, 2, 7, 8, 10, 11, 12, 18, 173] [true, true, true] ([(1, .slice a2 counts.length c2), (2, .int .u8 by_), (7, .int .i64 (fitsK r_ r_3)), (8, .int .i64 (weighE r_ r_3)), (10, .int .i64 (stC (bestM r_6))), (11, .int .i64 (bestE r_6)), (12, .pointer (some ⟨B34, 0, none⟩)), (18, .int .i64 2), (173, .bool false)]) [] [] (fun _ => by as_aux_lemma => kernel_rfl) trivial ?_
                      refine AtL.nil (by kernel_rfl) ?_
                      exact Ends.mid false (Option.some.inj h).symm (by kernel_rfl) (by kernel_rfl)
                  · revert hI; revert s; intro t173 hI
                    replace hI : o65 = t173 := hI
                    have h := hr65
                    try rw [hI] at h
                    refine At.cond (t173) (by kernel_rfl) (fun hc66 => ?_) (fun hc66 => ?_)
                    · have h := br_t h hc66
                      refine At.run [(1, 8, 0), (1, 8, 0)] [1, 2, 7, 8, 10, 11, 12, 18] [true, true, true] (.normal) (fun B146 => [(1, .slice a2 counts.length c2), (2, .int .u8 by_), (7, .int .i64 (fitsK r_ r_3)), (8, .int .i64 (weighE r_ r_3)), (10, .int .i64 (stC (bestM r_6))), (11, .int .i64 (bestE r_6)), (12, .pointer (some ⟨B34, 0, none⟩)), (18, .int .i64 2)]) (fun B146 => [.sl a2 1 counts.length (fun i_ => intCells (nth counts 0 i_)), .blk B34 [.slice a_x x.length c_x, .int .i64 r_15.mass.lo, .int .i64 r_15.mass.hi, .int .i64 x55, .int .i64 x56, .int .i64 x58, .int .i64 x59, .int .i64 x64, .int .i64 (IntKind.i64.wrap (r_15.target.c.hi + (1 : Int)))] 28, owE Lot.cells Lot.zero a_x c_x 43 9 x]) (fun B146 => [B34, 8, B34, 8]) (fun B146 => []) (fun B146 => by as_aux_lemma => kernel_rfl) (fun B146 => trivial) (fun B146 => ?_)
                      refine Ends.block_normal ?_
                      exact Ends.mid (x64, (IntKind.i64.wrap (r_15.target.c.hi + (1 : Int)))) (Option.some.inj h).symm (by kernel_rfl) (by kernel_rfl)
                    · have h := br_f h hc66
                      refine At.runR [] [1, 2, 7, 8, 10, 11, 12, 18] [true, true, true] (.normal) ([(1, .slice a2 counts.length c2), (2, .int .u8 by_), (7, .int .i64 (fitsK r_ r_3)), (8, .int .i64 (weighE r_ r_3)), (10, .int .i64 (stC (bestM r_6))), (11, .int .i64 (bestE r_6)), (12, .pointer (some ⟨B34, 0, none⟩)), (18, .int .i64 2)]) [] [] (fun _ => by as_aux_lemma => kernel_rfl) trivial ?_
                      refine Ends.block_normal ?_
                      exact Ends.mid (x64, r_15.target.c.hi) (Option.some.inj h).symm (by kernel_rfl) (by kernel_rfl)
              · obtain ⟨x61, x62⟩ := s
                replace hI : o60 = (x61, x62) := hI
                have h := hr60
                try rw [hI] at h
                refine At.runR [] [1, 2, 7, 8, 10, 11, 12, 18] [true, true, true] (.normal) ([(1, .slice a2 counts.length c2), (2, .int .u8 by_), (7, .int .i64 (fitsK r_ r_3)), (8, .int .i64 (weighE r_ r_3)), (10, .int .i64 (stC (bestM r_6))), (11, .int .i64 (bestE r_6)), (12, .pointer (some ⟨B34, 0, none⟩)), (18, .int .i64 3)]) [] [] (fun _ => by as_aux_lemma => kernel_rfl) trivial ?_
                refine Ends.rounds ?_
                refine AtR.succ ?_
                refine At.runR [] [1, 2, 7, 8, 10, 11, 12] [true, true, true] (.exit 4) ([(1, .slice a2 counts.length c2), (2, .int .u8 by_), (7, .int .i64 (fitsK r_ r_3)), (8, .int .i64 (weighE r_ r_3)), (10, .int .i64 (stC (bestM r_6))), (11, .int .i64 (bestE r_6)), (12, .pointer (some ⟨B34, 0, none⟩))]) [] [] (fun _ => by as_aux_lemma => kernel_rfl) trivial ?_
                refine Ends.then_exit ?_
                refine Ends.block_hit ?_
                exact Ends.mid (x55, x56, x58, x59, x61, x62) (Option.some.inj h).symm (by kernel_rfl) (by kernel_rfl)
        · obtain ⟨x20, x21, x22, x23, x24, x25⟩ := s
          replace hI : o19 = (x20, x21, x22, x23, x24, x25) := hI
          have h := hr19
          try rw [hI] at h
          obtain ⟨o26, h, hr26⟩ := bd h
          refine At.seq_mid (σ := Int) (fun s => o26 = s) (fun s => [(1, .slice a2 counts.length c2), (2, .int .u8 by_), (7, .int .i64 (fitsK r_ r_3)), (8, .int .i64 (weighE r_ r_3)), (10, .int .i64 (stC (bestM r_6))), (11, .int .i64 (bestE r_6)), (12, .pointer (some ⟨B34, 0, none⟩))]) (fun s => [.sl a2 1 counts.length (fun i_ => intCells (nth counts 0 i_)), .blk B34 [.slice a_x x.length c_x, .int .i64 s, .int .i64 r_15.mass.hi, .int .i64 x20, .int .i64 x21, .int .i64 x22, .int .i64 x23, .int .i64 x24, .int .i64 x25] 28, owE Lot.cells Lot.zero a_x c_x 43 9 x]) ?_ (fun s hI => ?_)
          · obtain ⟨o51, h, hr51⟩ := bd h
            refine At.seq_mid (σ := Bool) (fun s => o51 = s) (fun s => [(1, .slice a2 counts.length c2), (2, .int .u8 by_), (7, .int .i64 (fitsK r_ r_3)), (8, .int .i64 (weighE r_ r_3)), (10, .int .i64 (stC (bestM r_6))), (11, .int .i64 (bestE r_6)), (12, .pointer (some ⟨B34, 0, none⟩)), (191, .bool s)]) (fun s => [.sl a2 1 counts.length (fun i_ => intCells (nth counts 0 i_)), .blk B34 [.slice a_x x.length c_x, .int .i64 r_15.mass.lo, .int .i64 r_15.mass.hi, .int .i64 x20, .int .i64 x21, .int .i64 x22, .int .i64 x23, .int .i64 x24, .int .i64 x25] 28, owE Lot.cells Lot.zero a_x c_x 43 9 x]) ?_ (fun s hI => ?_)
            · refine At.region ?_
              refine AtL.runR 4 [] [1, 2, 7, 8, 10, 11, 12, 186] [true, true, true] ([(1, .slice a2 counts.length c2), (2, .int .u8 by_), (7, .int .i64 (fitsK r_ r_3)), (8, .int .i64 (weighE r_ r_3)), (10, .int .i64 (stC (bestM r_6))), (11, .int .i64 (bestE r_6)), (12, .pointer (some ⟨B34, 0, none⟩)), (186, .bool ((bitAnd .u8 by_ (32 : Int)) == (32 : Int)))]) [] [] (fun _ => by as_aux_lemma => kernel_rfl) trivial ?_
              refine AtL.bool 186 ((bitAnd .u8 by_ (32 : Int)) == (32 : Int)) (by kernel_rfl) (fun hc53 => ?_) (fun hc53 => ?_)
              · have h := br_t h hc53
                refine AtL.runR 5 [(1, 1, 0)] [1, 2, 7, 8, 10, 11, 12, 191] [true, true, true] ([(1, .slice a2 counts.length c2), (2, .int .u8 by_), (7, .int .i64 (fitsK r_ r_3)), (8, .int .i64 (weighE r_ r_3)), (10, .int .i64 (stC (bestM r_6))), (11, .int .i64 (bestE r_6)), (12, .pointer (some ⟨B34, 0, none⟩)), (191, .bool (decide (r_15.mass.lo > (0 : Int))))]) [B34, 1] [] (fun _ => by as_aux_lemma => kernel_rfl) trivial ?_
                refine AtL.nil (by kernel_rfl) ?_
                exact Ends.mid (decide (r_15.mass.lo > (0 : Int))) (Option.some.inj h).symm (by kernel_rfl) (by kernel_rfl)
              · have h := br_f h hc53
                refine AtL.runR 5 [] [1, 2, 7, 8, 10, 11, 12, 191] [true, true, true] ([(1, .slice a2 counts.length c2), (2, .int .u8 by_), (7, .int .i64 (fitsK r_ r_3)), (8, .int .i64 (weighE r_ r_3)), (10, .int .i64 (stC (bestM r_6))), (11, .int .i64 (bestE r_6)), (12, .pointer (some ⟨B34, 0, none⟩)), (191, .bool false)]) [] [] (fun _ => by as_aux_lemma => kernel_rfl) trivial ?_
                refine AtL.nil (by kernel_rfl) ?_
                exact Ends.mid false (Option.some.inj h).symm (by kernel_rfl) (by kernel_rfl)
            · revert hI; revert s; intro t191 hI
              replace hI : o51 = t191 := hI
              have h := hr51
              try rw [hI] at h
              refine At.cond (t191) (by kernel_rfl) (fun hc52 => ?_) (fun hc52 => ?_)
              · have h := br_t h hc52
                refine At.run [(1, 1, 0), (1, 1, 0)] [1, 2, 7, 8, 10, 11, 12] [true, true, true] (.normal) (fun B109 => [(1, .slice a2 counts.length c2), (2, .int .u8 by_), (7, .int .i64 (fitsK r_ r_3)), (8, .int .i64 (weighE r_ r_3)), (10, .int .i64 (stC (bestM r_6))), (11, .int .i64 (bestE r_6)), (12, .pointer (some ⟨B34, 0, none⟩))]) (fun B109 => [.sl a2 1 counts.length (fun i_ => intCells (nth counts 0 i_)), .blk B34 [.slice a_x x.length c_x, .int .i64 (IntKind.i64.wrap (r_15.mass.lo - (1 : Int))), .int .i64 r_15.mass.hi, .int .i64 x20, .int .i64 x21, .int .i64 x22, .int .i64 x23, .int .i64 x24, .int .i64 x25] 28, owE Lot.cells Lot.zero a_x c_x 43 9 x]) (fun B109 => [B34, 1, B34, 1]) (fun B109 => []) (fun B109 => by as_aux_lemma => kernel_rfl) (fun B109 => trivial) (fun B109 => ?_)
                exact Ends.mid (IntKind.i64.wrap (r_15.mass.lo - (1 : Int))) (Option.some.inj h).symm (by kernel_rfl) (by kernel_rfl)
              · have h := br_f h hc52
                refine At.runR [] [1, 2, 7, 8, 10, 11, 12] [true, true, true] (.normal) ([(1, .slice a2 counts.length c2), (2, .int .u8 by_), (7, .int .i64 (fitsK r_ r_3)), (8, .int .i64 (weighE r_ r_3)), (10, .int .i64 (stC (bestM r_6))), (11, .int .i64 (bestE r_6)), (12, .pointer (some ⟨B34, 0, none⟩))]) [] [] (fun _ => by as_aux_lemma => kernel_rfl) trivial ?_
                exact Ends.mid r_15.mass.lo (Option.some.inj h).symm (by kernel_rfl) (by kernel_rfl)
          · revert hI; revert s; intro x27 hI
            replace hI : o26 = x27 := hI
            have h := hr26
            try rw [hI] at h
            obtain ⟨o28, h, hr28⟩ := bd h
            refine At.seq_mid (σ := Int) (fun s => o28 = s) (fun s => [(1, .slice a2 counts.length c2), (7, .int .i64 (fitsK r_ r_3)), (8, .int .i64 (weighE r_ r_3)), (10, .int .i64 (stC (bestM r_6))), (11, .int .i64 (bestE r_6)), (12, .pointer (some ⟨B34, 0, none⟩))]) (fun s => [.sl a2 1 counts.length (fun i_ => intCells (nth counts 0 i_)), .blk B34 [.slice a_x x.length c_x, .int .i64 x27, .int .i64 s, .int .i64 x20, .int .i64 x21, .int .i64 x22, .int .i64 x23, .int .i64 x24, .int .i64 x25] 28, owE Lot.cells Lot.zero a_x c_x 43 9 x]) ?_ (fun s hI => ?_)
            · obtain ⟨o48, h, hr48⟩ := bd h
              refine At.seq_mid (σ := Bool) (fun s => o48 = s) (fun s => [(1, .slice a2 counts.length c2), (7, .int .i64 (fitsK r_ r_3)), (8, .int .i64 (weighE r_ r_3)), (10, .int .i64 (stC (bestM r_6))), (11, .int .i64 (bestE r_6)), (12, .pointer (some ⟨B34, 0, none⟩)), (206, .bool s)]) (fun s => [.sl a2 1 counts.length (fun i_ => intCells (nth counts 0 i_)), .blk B34 [.slice a_x x.length c_x, .int .i64 x27, .int .i64 r_15.mass.hi, .int .i64 x20, .int .i64 x21, .int .i64 x22, .int .i64 x23, .int .i64 x24, .int .i64 x25] 28, owE Lot.cells Lot.zero a_x c_x 43 9 x]) ?_ (fun s hI => ?_)
              · refine At.region ?_
                refine AtL.runR 4 [] [1, 7, 8, 10, 11, 12, 201] [true, true, true] ([(1, .slice a2 counts.length c2), (7, .int .i64 (fitsK r_ r_3)), (8, .int .i64 (weighE r_ r_3)), (10, .int .i64 (stC (bestM r_6))), (11, .int .i64 (bestE r_6)), (12, .pointer (some ⟨B34, 0, none⟩)), (201, .bool ((bitAnd .u8 by_ (64 : Int)) == (64 : Int)))]) [] [] (fun _ => by as_aux_lemma => kernel_rfl) trivial ?_
                refine AtL.bool 201 ((bitAnd .u8 by_ (64 : Int)) == (64 : Int)) (by kernel_rfl) (fun hc50 => ?_) (fun hc50 => ?_)
                · have h := br_t h hc50
                  refine AtL.runR 5 [(1, 2, 0)] [1, 7, 8, 10, 11, 12, 206] [true, true, true] ([(1, .slice a2 counts.length c2), (7, .int .i64 (fitsK r_ r_3)), (8, .int .i64 (weighE r_ r_3)), (10, .int .i64 (stC (bestM r_6))), (11, .int .i64 (bestE r_6)), (12, .pointer (some ⟨B34, 0, none⟩)), (206, .bool (decide (r_15.mass.hi < (1000000000 : Int))))]) [B34, 2] [] (fun _ => by as_aux_lemma => kernel_rfl) trivial ?_
                  refine AtL.nil (by kernel_rfl) ?_
                  exact Ends.mid (decide (r_15.mass.hi < (1000000000 : Int))) (Option.some.inj h).symm (by kernel_rfl) (by kernel_rfl)
                · have h := br_f h hc50
                  refine AtL.runR 5 [] [1, 7, 8, 10, 11, 12, 206] [true, true, true] ([(1, .slice a2 counts.length c2), (7, .int .i64 (fitsK r_ r_3)), (8, .int .i64 (weighE r_ r_3)), (10, .int .i64 (stC (bestM r_6))), (11, .int .i64 (bestE r_6)), (12, .pointer (some ⟨B34, 0, none⟩)), (206, .bool false)]) [] [] (fun _ => by as_aux_lemma => kernel_rfl) trivial ?_
                  refine AtL.nil (by kernel_rfl) ?_
                  exact Ends.mid false (Option.some.inj h).symm (by kernel_rfl) (by kernel_rfl)
              · revert hI; revert s; intro t206 hI
                replace hI : o48 = t206 := hI
                have h := hr48
                try rw [hI] at h
                refine At.cond (t206) (by kernel_rfl) (fun hc49 => ?_) (fun hc49 => ?_)
                · have h := br_t h hc49
                  refine At.run [(1, 2, 0), (1, 2, 0)] [1, 7, 8, 10, 11, 12] [true, true, true] (.normal) (fun B100 => [(1, .slice a2 counts.length c2), (7, .int .i64 (fitsK r_ r_3)), (8, .int .i64 (weighE r_ r_3)), (10, .int .i64 (stC (bestM r_6))), (11, .int .i64 (bestE r_6)), (12, .pointer (some ⟨B34, 0, none⟩))]) (fun B100 => [.sl a2 1 counts.length (fun i_ => intCells (nth counts 0 i_)), .blk B34 [.slice a_x x.length c_x, .int .i64 x27, .int .i64 (IntKind.i64.wrap (r_15.mass.hi + (1 : Int))), .int .i64 x20, .int .i64 x21, .int .i64 x22, .int .i64 x23, .int .i64 x24, .int .i64 x25] 28, owE Lot.cells Lot.zero a_x c_x 43 9 x]) (fun B100 => [B34, 2, B34, 2]) (fun B100 => []) (fun B100 => by as_aux_lemma => kernel_rfl) (fun B100 => trivial) (fun B100 => ?_)
                  exact Ends.mid (IntKind.i64.wrap (r_15.mass.hi + (1 : Int))) (Option.some.inj h).symm (by kernel_rfl) (by kernel_rfl)
                · have h := br_f h hc49
                  refine At.runR [] [1, 7, 8, 10, 11, 12] [true, true, true] (.normal) ([(1, .slice a2 counts.length c2), (7, .int .i64 (fitsK r_ r_3)), (8, .int .i64 (weighE r_ r_3)), (10, .int .i64 (stC (bestM r_6))), (11, .int .i64 (bestE r_6)), (12, .pointer (some ⟨B34, 0, none⟩))]) [] [] (fun _ => by as_aux_lemma => kernel_rfl) trivial ?_
                  exact Ends.mid r_15.mass.hi (Option.some.inj h).symm (by kernel_rfl) (by kernel_rfl)
            · revert hI; revert s; intro x29 hI
              replace hI : o28 = x29 := hI
              have h := hr28
              try rw [hI] at h
              refine At.seq ?_
              refine At.seq ?_
              refine At.plan ([.sl a2 1 counts.length (fun i_ => intCells (nth counts 0 i_)), .blk B34 [.slice a_x x.length c_x, .int .i64 x27, .int .i64 x29, .int .i64 x20, .int .i64 x21, .int .i64 x22, .int .i64 x23, .int .i64 x24, .int .i64 x25] 28]) [0, 1] (by kernel_rfl) (by kernel_rfl) [.pu [1], .st [0], .mv 2, .mv 3, .pu [4, 5, 6, 7, 8]] (by kernel_rfl) (by kernel_rfl) ?_
              refine AtP.pu ?_
              refine AtY.runp 1 [7, 8, 10, 11, 12, 215] ([(7, .int .i64 (fitsK r_ r_3)), (8, .int .i64 (weighE r_ r_3)), (10, .int .i64 (stC (bestM r_6))), (11, .int .i64 (bestE r_6)), (12, .pointer (some ⟨B34, 0, none⟩)), (215, .slice a2 counts.length c2)]) [] (by as_aux_lemma => kernel_rfl) trivial ?_
              refine AtY.nil (by kernel_rfl) ?_
              refine AtP.st ?_
              refine AtY.run 1 [(1, 0, 0), (1, 1, 0), (1, 2, 0), (1, 3, 0), (1, 4, 0), (1, 5, 0), (1, 6, 0), (1, 7, 0), (1, 8, 0)] [7, 8, 10, 11, 12, 214, 215] ([(7, .int .i64 (fitsK r_ r_3)), (8, .int .i64 (weighE r_ r_3)), (10, .int .i64 (stC (bestM r_6))), (11, .int .i64 (bestE r_6)), (12, .pointer (some ⟨B34, 0, none⟩)), (214, .agg #[.slice a_x x.length c_x, .int .i64 x27, .int .i64 x29, .int .i64 x20, .int .i64 x21, .int .i64 x22, .int .i64 x23, .int .i64 x24, .int .i64 x25]), (215, .slice a2 counts.length c2)]) [B34, 0, B34, 1, B34, 2, B34, 3, B34, 4, B34, 5, B34, 6, B34, 7, B34, 8] [] (by as_aux_lemma => kernel_rfl) trivial ?_
              refine AtY.nil (by kernel_rfl) ?_
              refine AtP.mv ?_
              obtain ⟨r_30, hs47, h⟩ := bd h
              refine AtL.call 14 #[.slice a2 counts.length c2] (some 216) (by kernel_rfl) _ (fun w8 hRep => lints_w F counts a2 c2 w8 (hRep.toSl 0 rfl hs2.le hs2.big) _ hs47) ?_
              rintro w8 e w9 hRep ⟨a_31, c_32, rfl, hE⟩
              refine ⟨_, _, _, rfl, rfl, hRep.join hE (by simp [Ent.looks, Ent.mut]), ?_⟩
              refine AtL.nil (by kernel_rfl) ?_
              refine Ends.mv [0, 1] (by kernel_rfl) (by kernel_rfl) ?_
              refine AtP.mv ?_
              refine AtL.call 17 #[.agg #[.slice a_x x.length c_x, .int .i64 x27, .int .i64 x29, .int .i64 x20, .int .i64 x21, .int .i64 x22, .int .i64 x23, .int .i64 x24, .int .i64 x25], .slice a_31 r_30.length c_32] (some 217) (by kernel_rfl) _ (fun w8 hRep => fits_c (⟨x, (⟨x27, x29⟩ : Rng), (⟨(⟨x20, x21⟩ : Rng), (⟨x22, x23⟩ : Rng), (⟨x24, x25⟩ : Rng)⟩ : Bnds)⟩ : Recipe) r_30 a_x a_31 c_x c_32 w8 (hRep.owSl 2 rfl xlen43) (hRep.owSl 3 rfl xlen3)) ?_
              rintro w8 e w9 hRep ⟨rfl, hE⟩
              refine ⟨_, _, _, rfl, rfl, hRep.ext' hE, ?_⟩
              refine AtL.nil (by kernel_rfl) ?_
              refine Ends.mv [0, 1] (by kernel_rfl) (by kernel_rfl) ?_
              refine AtP.pu ?_
              refine AtY.runp 5 [7, 8, 10, 11, 12, 19, 20] ([(7, .int .i64 (fitsK r_ r_3)), (8, .int .i64 (weighE r_ r_3)), (10, .int .i64 (stC (bestM r_6))), (11, .int .i64 (bestE r_6)), (12, .pointer (some ⟨B34, 0, none⟩)), (19, .int .i64 (fitsK (⟨x, (⟨x27, x29⟩ : Rng), (⟨(⟨x20, x21⟩ : Rng), (⟨x22, x23⟩ : Rng), (⟨x24, x25⟩ : Rng)⟩ : Bnds)⟩ : Recipe) r_30)), (20, .int .i64 (weighE (⟨x, (⟨x27, x29⟩ : Rng), (⟨(⟨x20, x21⟩ : Rng), (⟨x22, x23⟩ : Rng), (⟨x24, x25⟩ : Rng)⟩ : Bnds)⟩ : Recipe) r_30))]) [] (by as_aux_lemma => kernel_rfl) trivial ?_
              refine AtY.nil (by kernel_rfl) ?_
              refine AtP.nil ?_
              refine Ends.weak [7, 8, 10, 11, 12, 19, 20] [true, true, true, false] ([(7, .int .i64 (fitsK r_ r_3)), (8, .int .i64 (weighE r_ r_3)), (10, .int .i64 (stC (bestM r_6))), (11, .int .i64 (bestE r_6)), (12, .pointer (some ⟨B34, 0, none⟩)), (19, .int .i64 (fitsK (⟨x, (⟨x27, x29⟩ : Rng), (⟨(⟨x20, x21⟩ : Rng), (⟨x22, x23⟩ : Rng), (⟨x24, x25⟩ : Rng)⟩ : Bnds)⟩ : Recipe) r_30)), (20, .int .i64 (weighE (⟨x, (⟨x27, x29⟩ : Rng), (⟨(⟨x20, x21⟩ : Rng), (⟨x22, x23⟩ : Rng), (⟨x24, x25⟩ : Rng)⟩ : Bnds)⟩ : Recipe) r_30))]) ([.sl a2 1 counts.length (fun i_ => intCells (nth counts 0 i_)), .blk B34 [.slice a_x x.length c_x, .int .i64 x27, .int .i64 x29, .int .i64 x20, .int .i64 x21, .int .i64 x22, .int .i64 x23, .int .i64 x24, .int .i64 x25] 28, owE Lot.cells Lot.zero a_x c_x 43 9 x]) (by kernel_rfl) (by kernel_rfl) ?_
              refine Ends.seq ?_
              obtain ⟨o33, h, hr33⟩ := bd h
              refine At.seq_mid (σ := Bool) (fun s => o33 = s) (fun s => [(10, .int .i64 (stC (bestM r_6))), (11, .int .i64 (bestE r_6)), (12, .pointer (some ⟨B34, 0, none⟩)), (233, .bool s)]) (fun s => [.blk B34 [.slice a_x x.length c_x, .int .i64 x27, .int .i64 x29, .int .i64 x20, .int .i64 x21, .int .i64 x22, .int .i64 x23, .int .i64 x24, .int .i64 x25] 28, owE Lot.cells Lot.zero a_x c_x 43 9 x]) ?_ (fun s hI => ?_)
              · refine At.region ?_
                refine AtL.runR 3 [] [7, 10, 11, 12, 19, 20, 222] [true, true, true] ([(7, .int .i64 (fitsK r_ r_3)), (10, .int .i64 (stC (bestM r_6))), (11, .int .i64 (bestE r_6)), (12, .pointer (some ⟨B34, 0, none⟩)), (19, .int .i64 (fitsK (⟨x, (⟨x27, x29⟩ : Rng), (⟨(⟨x20, x21⟩ : Rng), (⟨x22, x23⟩ : Rng), (⟨x24, x25⟩ : Rng)⟩ : Bnds)⟩ : Recipe) r_30)), (20, .int .i64 (weighE (⟨x, (⟨x27, x29⟩ : Rng), (⟨(⟨x20, x21⟩ : Rng), (⟨x22, x23⟩ : Rng), (⟨x24, x25⟩ : Rng)⟩ : Bnds)⟩ : Recipe) r_30)), (222, .bool ((weighE r_ r_3) == (0 : Int)))]) [] [] (fun _ => by as_aux_lemma => kernel_rfl) trivial ?_
                refine AtL.bool 222 ((weighE r_ r_3) == (0 : Int)) (by kernel_rfl) (fun hc44 => ?_) (fun hc44 => ?_)
                · have h := br_t h hc44
                  refine AtL.runR 4 [] [10, 11, 12, 19, 20, 226] [true, true, true] ([(10, .int .i64 (stC (bestM r_6))), (11, .int .i64 (bestE r_6)), (12, .pointer (some ⟨B34, 0, none⟩)), (19, .int .i64 (fitsK (⟨x, (⟨x27, x29⟩ : Rng), (⟨(⟨x20, x21⟩ : Rng), (⟨x22, x23⟩ : Rng), (⟨x24, x25⟩ : Rng)⟩ : Bnds)⟩ : Recipe) r_30)), (20, .int .i64 (weighE (⟨x, (⟨x27, x29⟩ : Rng), (⟨(⟨x20, x21⟩ : Rng), (⟨x22, x23⟩ : Rng), (⟨x24, x25⟩ : Rng)⟩ : Bnds)⟩ : Recipe) r_30)), (226, .bool ((fitsK r_ r_3) == ((-1) : Int)))]) [] [] (fun _ => by as_aux_lemma => kernel_rfl) trivial ?_
                  refine AtL.bool 226 ((fitsK r_ r_3) == ((-1) : Int)) (by kernel_rfl) (fun hc45 => ?_) (fun hc45 => ?_)
                  · have h := br_t h hc45
                    refine AtL.runR 3 [] [10, 11, 12, 19, 226, 229] [true, true, true] ([(10, .int .i64 (stC (bestM r_6))), (11, .int .i64 (bestE r_6)), (12, .pointer (some ⟨B34, 0, none⟩)), (19, .int .i64 (fitsK (⟨x, (⟨x27, x29⟩ : Rng), (⟨(⟨x20, x21⟩ : Rng), (⟨x22, x23⟩ : Rng), (⟨x24, x25⟩ : Rng)⟩ : Bnds)⟩ : Recipe) r_30)), (226, .bool true), (229, .bool ((weighE (⟨x, (⟨x27, x29⟩ : Rng), (⟨(⟨x20, x21⟩ : Rng), (⟨x22, x23⟩ : Rng), (⟨x24, x25⟩ : Rng)⟩ : Bnds)⟩ : Recipe) r_30) != (0 : Int)))]) [] [] (fun _ => by as_aux_lemma => kernel_rfl) trivial ?_
                    refine AtL.bool 229 ((weighE (⟨x, (⟨x27, x29⟩ : Rng), (⟨(⟨x20, x21⟩ : Rng), (⟨x22, x23⟩ : Rng), (⟨x24, x25⟩ : Rng)⟩ : Bnds)⟩ : Recipe) r_30) != (0 : Int)) (by kernel_rfl) (fun hc46 => ?_) (fun hc46 => ?_)
                    · have h := br_t h hc46
                      refine AtL.runR 4 [] [10, 11, 12, 233] [true, true, true] ([(10, .int .i64 (stC (bestM r_6))), (11, .int .i64 (bestE r_6)), (12, .pointer (some ⟨B34, 0, none⟩)), (233, .bool true)]) [] [] (fun _ => by as_aux_lemma => kernel_rfl) trivial ?_
                      refine AtL.nil (by kernel_rfl) ?_
                      refine Ends.sel [10, 11, 12, 233] [1, 2] ([(10, .int .i64 (stC (bestM r_6))), (11, .int .i64 (bestE r_6)), (12, .pointer (some ⟨B34, 0, none⟩)), (233, .bool true)]) ([.blk B34 [.slice a_x x.length c_x, .int .i64 x27, .int .i64 x29, .int .i64 x20, .int .i64 x21, .int .i64 x22, .int .i64 x23, .int .i64 x24, .int .i64 x25] 28, owE Lot.cells Lot.zero a_x c_x 43 9 x]) (by kernel_rfl) (by kernel_rfl) (by kernel_rfl) ?_
                      exact Ends.mid true (Option.some.inj h).symm (by kernel_rfl) (by kernel_rfl)
                    · have h := br_f h hc46
                      refine AtL.runR 4 [] [10, 11, 12, 233] [true, true, true] ([(10, .int .i64 (stC (bestM r_6))), (11, .int .i64 (bestE r_6)), (12, .pointer (some ⟨B34, 0, none⟩)), (233, .bool ((fitsK (⟨x, (⟨x27, x29⟩ : Rng), (⟨(⟨x20, x21⟩ : Rng), (⟨x22, x23⟩ : Rng), (⟨x24, x25⟩ : Rng)⟩ : Bnds)⟩ : Recipe) r_30) != ((-1) : Int)))]) [] [] (fun _ => by as_aux_lemma => kernel_rfl) trivial ?_
                      refine AtL.nil (by kernel_rfl) ?_
                      refine Ends.sel [10, 11, 12, 233] [1, 2] ([(10, .int .i64 (stC (bestM r_6))), (11, .int .i64 (bestE r_6)), (12, .pointer (some ⟨B34, 0, none⟩)), (233, .bool ((fitsK (⟨x, (⟨x27, x29⟩ : Rng), (⟨(⟨x20, x21⟩ : Rng), (⟨x22, x23⟩ : Rng), (⟨x24, x25⟩ : Rng)⟩ : Bnds)⟩ : Recipe) r_30) != ((-1) : Int)))]) ([.blk B34 [.slice a_x x.length c_x, .int .i64 x27, .int .i64 x29, .int .i64 x20, .int .i64 x21, .int .i64 x22, .int .i64 x23, .int .i64 x24, .int .i64 x25] 28, owE Lot.cells Lot.zero a_x c_x 43 9 x]) (by kernel_rfl) (by kernel_rfl) (by kernel_rfl) ?_
                      exact Ends.mid ((fitsK (⟨x, (⟨x27, x29⟩ : Rng), (⟨(⟨x20, x21⟩ : Rng), (⟨x22, x23⟩ : Rng), (⟨x24, x25⟩ : Rng)⟩ : Bnds)⟩ : Recipe) r_30) != ((-1) : Int)) (Option.some.inj h).symm (by kernel_rfl) (by kernel_rfl)
                  · have h := br_f h hc45
                    refine AtL.runR 7 [] [10, 11, 12, 233] [true, true, true] ([(10, .int .i64 (stC (bestM r_6))), (11, .int .i64 (bestE r_6)), (12, .pointer (some ⟨B34, 0, none⟩)), (233, .bool false)]) [] [] (fun _ => by as_aux_lemma => kernel_rfl) trivial ?_
                    refine AtL.nil (by kernel_rfl) ?_
                    refine Ends.sel [10, 11, 12, 233] [1, 2] ([(10, .int .i64 (stC (bestM r_6))), (11, .int .i64 (bestE r_6)), (12, .pointer (some ⟨B34, 0, none⟩)), (233, .bool false)]) ([.blk B34 [.slice a_x x.length c_x, .int .i64 x27, .int .i64 x29, .int .i64 x20, .int .i64 x21, .int .i64 x22, .int .i64 x23, .int .i64 x24, .int .i64 x25] 28, owE Lot.cells Lot.zero a_x c_x 43 9 x]) (by kernel_rfl) (by kernel_rfl) (by kernel_rfl) ?_
                    exact Ends.mid false (Option.some.inj h).symm (by kernel_rfl) (by kernel_rfl)
                · have h := br_f h hc44
                  refine AtL.runR 11 [] [10, 11, 12, 233] [true, true, true] ([(10, .int .i64 (stC (bestM r_6))), (11, .int .i64 (bestE r_6)), (12, .pointer (some ⟨B34, 0, none⟩)), (233, .bool false)]) [] [] (fun _ => by as_aux_lemma => kernel_rfl) trivial ?_
                  refine AtL.nil (by kernel_rfl) ?_
                  refine Ends.sel [10, 11, 12, 233] [1, 2] ([(10, .int .i64 (stC (bestM r_6))), (11, .int .i64 (bestE r_6)), (12, .pointer (some ⟨B34, 0, none⟩)), (233, .bool false)]) ([.blk B34 [.slice a_x x.length c_x, .int .i64 x27, .int .i64 x29, .int .i64 x20, .int .i64 x21, .int .i64 x22, .int .i64 x23, .int .i64 x24, .int .i64 x25] 28, owE Lot.cells Lot.zero a_x c_x 43 9 x]) (by kernel_rfl) (by kernel_rfl) (by kernel_rfl) ?_
                  exact Ends.mid false (Option.some.inj h).symm (by kernel_rfl) (by kernel_rfl)
              · revert hI; revert s; intro t233 hI
                replace hI : o33 = t233 := hI
                have h := hr33
                try rw [hI] at h
                refine At.cond (t233) (by kernel_rfl) (fun hc34 => ?_) (fun hc34 => ?_)
                · have h := br_t h hc34
                  refine At.runR [] [6] [true, true] (.ret) ([(6, .bool false)]) [] [] (fun _ => by as_aux_lemma => kernel_rfl) trivial ?_
                  refine Ends.then_ret ?_
                  refine Ends.body [] (.bool false) [] (by kernel_rfl) (fun w9 hRep => ?_)
                  obtain rfl := Option.some.inj h
                  exact ⟨rfl, hRep.ext⟩
                · have h := br_f h hc34
                  refine At.runR [] [10, 11, 12] [true, true] (.normal) ([(10, .int .i64 (stC (bestM r_6))), (11, .int .i64 (bestE r_6)), (12, .pointer (some ⟨B34, 0, none⟩))]) [] [] (fun _ => by as_aux_lemma => kernel_rfl) trivial ?_
                  refine Ends.seq ?_
                  refine At.seq ?_
                  refine At.seq ?_
                  refine At.region ?_
                  refine AtL.runR 1 [(0, 0, 0), (0, 1, 0), (0, 2, 0), (0, 3, 0), (0, 4, 0), (0, 5, 0), (0, 6, 0), (0, 7, 0), (0, 8, 0)] [10, 11, 235] [true, true] ([(10, .int .i64 (stC (bestM r_6))), (11, .int .i64 (bestE r_6)), (235, .agg #[.slice a_x x.length c_x, .int .i64 x27, .int .i64 x29, .int .i64 x20, .int .i64 x21, .int .i64 x22, .int .i64 x23, .int .i64 x24, .int .i64 x25])]) [B34, 0, B34, 1, B34, 2, B34, 3, B34, 4, B34, 5, B34, 6, B34, 7, B34, 8] [] (fun _ => by as_aux_lemma => kernel_rfl) trivial ?_
                  refine AtL.freeze 0 B34 28 [.slice a_x x.length c_x, .int .i64 x27, .int .i64 x29, .int .i64 x20, .int .i64 x21, .int .i64 x22, .int .i64 x23, .int .i64 x24, .int .i64 x25] (by kernel_rfl) ?_
                  refine AtL.freezeOw 1 Lot.cells Lot.zero a_x c_x 43 9 x (by kernel_rfl) xlen43 (fun hf35l hf35b => ?_)
                  refine AtL.fit [10, 11, 235] ([(10, .int .i64 (stC (bestM r_6))), (11, .int .i64 (bestE r_6)), (235, .agg #[.slice a_x x.length c_x, .int .i64 x27, .int .i64 x29, .int .i64 x20, .int .i64 x21, .int .i64 x22, .int .i64 x23, .int .i64 x24, .int .i64 x25])]) ([.sl (some ⟨B34, 0, none⟩) 9 1 (fun _ => [.slice a_x x.length c_x, .int .i64 x27, .int .i64 x29, .int .i64 x20, .int .i64 x21, .int .i64 x22, .int .i64 x23, .int .i64 x24, .int .i64 x25]), .sl a_x 9 x.length (fun i_ => Lot.cells (nth x Lot.zero i_))]) (by kernel_rfl) (by kernel_rfl) ?_
                  refine AtL.call 24 #[.agg #[.slice a_x x.length c_x, .int .i64 x27, .int .i64 x29, .int .i64 x20, .int .i64 x21, .int .i64 x22, .int .i64 x23, .int .i64 x24, .int .i64 x25]] (some 236) (by kernel_rfl) _ (fun w8 hRep => best_c (⟨x, (⟨x27, x29⟩ : Rng), (⟨(⟨x20, x21⟩ : Rng), (⟨x22, x23⟩ : Rng), (⟨x24, x25⟩ : Rng)⟩ : Bnds)⟩ : Recipe) a_x c_x w8 (hRep.toSl 1 rfl hf35l hf35b)) ?_
                  rintro w8 e w9 hRep ⟨a_37, c_38, rfl, hs36, hE⟩
                  refine ⟨_, _, _, rfl, rfl, hRep.addSl hE (by simp [Ent.mut]) 0 hs36, ?_⟩
                  refine AtL.runR 7 [] [10, 11, 22, 23] [true, true, true] ([(10, .int .i64 (stC (bestM r_6))), (11, .int .i64 (bestE r_6)), (22, .int .i64 (stC (bestM (⟨x, (⟨x27, x29⟩ : Rng), (⟨(⟨x20, x21⟩ : Rng), (⟨x22, x23⟩ : Rng), (⟨x24, x25⟩ : Rng)⟩ : Bnds)⟩ : Recipe)))), (23, .int .i64 (bestE (⟨x, (⟨x27, x29⟩ : Rng), (⟨(⟨x20, x21⟩ : Rng), (⟨x22, x23⟩ : Rng), (⟨x24, x25⟩ : Rng)⟩ : Bnds)⟩ : Recipe)))]) [] [] (fun _ => by as_aux_lemma => kernel_rfl) trivial ?_
                  refine AtL.nil (by kernel_rfl) ?_
                  refine Ends.seq ?_
                  obtain ⟨o39, h, hr39⟩ := bd h
                  refine At.seq_mid (σ := Bool) (fun s => o39 = s) (fun s => [(254, .bool s)]) (fun s => []) ?_ (fun s hI => ?_)
                  · refine At.region ?_
                    refine AtL.runR 3 [] [10, 22, 23, 242] [true, true, true] ([(10, .int .i64 (stC (bestM r_6))), (22, .int .i64 (stC (bestM (⟨x, (⟨x27, x29⟩ : Rng), (⟨(⟨x20, x21⟩ : Rng), (⟨x22, x23⟩ : Rng), (⟨x24, x25⟩ : Rng)⟩ : Bnds)⟩ : Recipe)))), (23, .int .i64 (bestE (⟨x, (⟨x27, x29⟩ : Rng), (⟨(⟨x20, x21⟩ : Rng), (⟨x22, x23⟩ : Rng), (⟨x24, x25⟩ : Rng)⟩ : Bnds)⟩ : Recipe))), (242, .bool ((bestE r_6) == (0 : Int)))]) [] [] (fun _ => by as_aux_lemma => kernel_rfl) trivial ?_
                    refine AtL.bool 242 ((bestE r_6) == (0 : Int)) (by kernel_rfl) (fun hc41 => ?_) (fun hc41 => ?_)
                    · have h := br_t h hc41
                      refine AtL.runR 4 [] [10, 22, 23, 246] [true, true, true] ([(10, .int .i64 (stC (bestM r_6))), (22, .int .i64 (stC (bestM (⟨x, (⟨x27, x29⟩ : Rng), (⟨(⟨x20, x21⟩ : Rng), (⟨x22, x23⟩ : Rng), (⟨x24, x25⟩ : Rng)⟩ : Bnds)⟩ : Recipe)))), (23, .int .i64 (bestE (⟨x, (⟨x27, x29⟩ : Rng), (⟨(⟨x20, x21⟩ : Rng), (⟨x22, x23⟩ : Rng), (⟨x24, x25⟩ : Rng)⟩ : Bnds)⟩ : Recipe))), (246, .bool ((bestE (⟨x, (⟨x27, x29⟩ : Rng), (⟨(⟨x20, x21⟩ : Rng), (⟨x22, x23⟩ : Rng), (⟨x24, x25⟩ : Rng)⟩ : Bnds)⟩ : Recipe)) != (8 : Int)))]) [] [] (fun _ => by as_aux_lemma => kernel_rfl) trivial ?_
                      refine AtL.bool 246 ((bestE (⟨x, (⟨x27, x29⟩ : Rng), (⟨(⟨x20, x21⟩ : Rng), (⟨x22, x23⟩ : Rng), (⟨x24, x25⟩ : Rng)⟩ : Bnds)⟩ : Recipe)) != (8 : Int)) (by kernel_rfl) (fun hc42 => ?_) (fun hc42 => ?_)
                      · have h := br_t h hc42
                        refine AtL.runR 3 [] [10, 22, 246, 249] [true, true, true] ([(10, .int .i64 (stC (bestM r_6))), (22, .int .i64 (stC (bestM (⟨x, (⟨x27, x29⟩ : Rng), (⟨(⟨x20, x21⟩ : Rng), (⟨x22, x23⟩ : Rng), (⟨x24, x25⟩ : Rng)⟩ : Bnds)⟩ : Recipe)))), (246, .bool true), (249, .bool ((bestE (⟨x, (⟨x27, x29⟩ : Rng), (⟨(⟨x20, x21⟩ : Rng), (⟨x22, x23⟩ : Rng), (⟨x24, x25⟩ : Rng)⟩ : Bnds)⟩ : Recipe)) != (0 : Int)))]) [] [] (fun _ => by as_aux_lemma => kernel_rfl) trivial ?_
                        refine AtL.bool 249 ((bestE (⟨x, (⟨x27, x29⟩ : Rng), (⟨(⟨x20, x21⟩ : Rng), (⟨x22, x23⟩ : Rng), (⟨x24, x25⟩ : Rng)⟩ : Bnds)⟩ : Recipe)) != (0 : Int)) (by kernel_rfl) (fun hc43 => ?_) (fun hc43 => ?_)
                        · have h := br_t h hc43
                          refine AtL.runR 5 [] [254] [true, true, true] ([(254, .bool true)]) [] [] (fun _ => by as_aux_lemma => kernel_rfl) trivial ?_
                          refine AtL.nil (by kernel_rfl) ?_
                          refine Ends.sel [254] [] ([(254, .bool true)]) ([]) (by kernel_rfl) (by kernel_rfl) (by kernel_rfl) ?_
                          exact Ends.mid true (Option.some.inj h).symm (by kernel_rfl) (by kernel_rfl)
                        · have h := br_f h hc43
                          refine AtL.runR 5 [] [254] [true, true, true] ([(254, .bool (decide ((stC (bestM (⟨x, (⟨x27, x29⟩ : Rng), (⟨(⟨x20, x21⟩ : Rng), (⟨x22, x23⟩ : Rng), (⟨x24, x25⟩ : Rng)⟩ : Bnds)⟩ : Recipe))) > (stC (bestM r_6)))))]) [] [] (fun _ => by as_aux_lemma => kernel_rfl) trivial ?_
                          refine AtL.nil (by kernel_rfl) ?_
                          refine Ends.sel [254] [] ([(254, .bool (decide ((stC (bestM (⟨x, (⟨x27, x29⟩ : Rng), (⟨(⟨x20, x21⟩ : Rng), (⟨x22, x23⟩ : Rng), (⟨x24, x25⟩ : Rng)⟩ : Bnds)⟩ : Recipe))) > (stC (bestM r_6)))))]) ([]) (by kernel_rfl) (by kernel_rfl) (by kernel_rfl) ?_
                          exact Ends.mid (decide ((stC (bestM (⟨x, (⟨x27, x29⟩ : Rng), (⟨(⟨x20, x21⟩ : Rng), (⟨x22, x23⟩ : Rng), (⟨x24, x25⟩ : Rng)⟩ : Bnds)⟩ : Recipe))) > (stC (bestM r_6)))) (Option.some.inj h).symm (by kernel_rfl) (by kernel_rfl)
                      · have h := br_f h hc42
                        refine AtL.runR 8 [] [254] [true, true, true] ([(254, .bool false)]) [] [] (fun _ => by as_aux_lemma => kernel_rfl) trivial ?_
                        refine AtL.nil (by kernel_rfl) ?_
                        refine Ends.sel [254] [] ([(254, .bool false)]) ([]) (by kernel_rfl) (by kernel_rfl) (by kernel_rfl) ?_
                        exact Ends.mid false (Option.some.inj h).symm (by kernel_rfl) (by kernel_rfl)
                    · have h := br_f h hc41
                      refine AtL.runR 12 [] [254] [true, true, true] ([(254, .bool false)]) [] [] (fun _ => by as_aux_lemma => kernel_rfl) trivial ?_
                      refine AtL.nil (by kernel_rfl) ?_
                      refine Ends.sel [254] [] ([(254, .bool false)]) ([]) (by kernel_rfl) (by kernel_rfl) (by kernel_rfl) ?_
                      exact Ends.mid false (Option.some.inj h).symm (by kernel_rfl) (by kernel_rfl)
                  · revert hI; revert s; intro t254 hI
                    replace hI : o39 = t254 := hI
                    have h := hr39
                    try rw [hI] at h
                    refine At.cond (t254) (by kernel_rfl) (fun hc40 => ?_) (fun hc40 => ?_)
                    · have h := br_t h hc40
                      refine At.runR [] [6] [] (.ret) ([(6, .bool false)]) [] [] (fun _ => by as_aux_lemma => kernel_rfl) trivial ?_
                      refine Ends.then_ret ?_
                      refine Ends.body [] (.bool false) [] (by kernel_rfl) (fun w9 hRep => ?_)
                      obtain rfl := Option.some.inj h
                      exact ⟨rfl, hRep.ext⟩
                    · have h := br_f h hc40
                      refine At.runR [] [] [] (.normal) ([]) [] [] (fun _ => by as_aux_lemma => kernel_rfl) trivial ?_
                      refine Ends.seq ?_
                      refine At.seq ?_
                      refine At.region ?_
                      refine AtL.call 12 #[] (some 255) (by kernel_rfl) _ (fun w8 hRep => known_c w8) ?_
                      rintro w8 e w9 hRep ⟨rfl, hE⟩
                      refine ⟨_, _, _, rfl, rfl, hRep.ext' hE, ?_⟩
                      refine AtL.runR 1 [] [6] [] ([(6, .bool true)]) [] [] (fun _ => by as_aux_lemma => kernel_rfl) trivial ?_
                      refine AtL.nil (by kernel_rfl) ?_
                      refine Ends.seq ?_
                      refine At.runR [] [6] [] (.ret) ([(6, .bool true)]) [] [] (fun _ => by as_aux_lemma => kernel_rfl) trivial ?_
                      refine Ends.body [] (.bool true) [] (by kernel_rfl) (fun w9 hRep => ?_)
                      obtain rfl := Option.some.inj h
                      exact ⟨rfl, hRep.ext⟩

theorem isLot_iff {l : Lot} : isLotB l = true ↔ (0 ≤ l.count ∧ l.count ≤ 1000) ∧ (1 ≤ l.mass ∧ l.mass ≤ 1000000) ∧ ((0 ≤ l.con.a.lo ∧ l.con.a.lo ≤ l.con.a.hi ∧ l.con.a.hi ≤ 100000000) ∧ (0 ≤ l.con.b.lo ∧ l.con.b.lo ≤ l.con.b.hi ∧ l.con.b.hi ≤ 100000000) ∧ (0 ≤ l.con.c.lo ∧ l.con.c.lo ≤ l.con.c.hi ∧ l.con.c.hi ≤ 100000000)) ∧ (0 ≤ l.cost ∧ l.cost ≤ 1000000) := by
  unfold isLotB withinB areBoundsB isRangeB
  simp only [Bool.and_eq_true, decide_eq_true_eq]
  constructor
  · intro h; omega
  · intro h; omega
/-- One lot is easier than another one: more pieces, narrower contents. -/
structure Nar (l m : Lot) : Prop where
  hn : l.count ≤ m.count
  hm : m.mass = l.mass
  hk : m.cost = l.cost
  ha : l.con.a.lo ≤ m.con.a.lo ∧ m.con.a.hi ≤ l.con.a.hi
  hb : l.con.b.lo ≤ m.con.b.lo ∧ m.con.b.hi ≤ l.con.b.hi
  hc : l.con.c.lo ≤ m.con.c.lo ∧ m.con.c.hi ≤ l.con.c.hi
theorem Nar.refl (l : Lot) : Nar l l := ⟨by omega, rfl, rfl, by omega, by omega, by omega⟩
theorem Nar.trans {l m n : Lot} (h : Nar l m) (g : Nar m n) : Nar l n := by
  obtain ⟨a1, a2, a3, a4, a5, a6⟩ := h
  obtain ⟨b1, b2, b3, b4, b5, b6⟩ := g
  exact ⟨by omega, by rw [b2, a2], by rw [b3, a3], by omega, by omega, by omega⟩
def R (l m : Lot) : Prop := isLotB l = true → isLotB m = true ∧ Nar l m
theorem R.refl (l : Lot) : R l l := fun h => ⟨h, Nar.refl l⟩
theorem R.trans {l m n : Lot} (h : R l m) (g : R m n) : R l n := fun hl => by
  obtain ⟨a, b⟩ := h hl
  obtain ⟨c, d⟩ := g a
  exact ⟨c, b.trans d⟩
theorem nth_set_self {α : Type} (x : List α) (d l : α) {i : Nat} (hi : i < x.length) : nth (x.set i l) d i = l := by simp [nth, List.getD, hi]
theorem nth_set_ne {α : Type} (x : List α) (d l : α) {i j : Nat} (h : i ≠ j) : nth (x.set i l) d j = nth x d j := by simp [nth, List.getD, h]
theorem set_nth_self {α : Type} (x : List α) (d : α) {i : Nat} (hi : i < x.length) : x.set i (nth x d i) = x := by
  rw [← nth_eq x d i hi]; exact List.set_getElem_self hi
theorem stp {x : List Lot} {i : Nat} (l l' : Lot) (c d : Bool) (h : d = true → R l l') :
    ∃ l2, R l l2 ∧ ((bif c then some d else some false).bind (fun z => bif z then some (x.set i l') else some (x.set i l))) = some (x.set i l2) := by
  cases c
  · exact ⟨l, R.refl l, rfl⟩
  · cases d
    · exact ⟨l, R.refl l, rfl⟩
    · exact ⟨l', h rfl, rfl⟩
theorem lot_step {F : Nat} {by_ : Int} {x : List Lot} {i f : Nat} (hi : i < x.length) (hl : x.length ≤ 1000) : ∃ l', R (nth x .zero i) l' ∧ leasier_l94 F by_ (f + 1) (i : Int) x = leasier_l94 F by_ f ((i + 1 : Nat) : Int) (x.set i l') := by
  have e0 : decide ((i : Int) < (x.length : Int)) = true := by simp; omega
  have e1 : inB (i : Int) x.length = true := by simp [inB]; omega
  have e2 : IntKind.i64.wrap ((i : Int) + 1) = ((i + 1 : Nat) : Int) := by rw [wrapK_id (by omega)]; omega
  rw [leasier_l94, e0, cond_true, e1, cond_true, e2, Int.toNat_natCast]
  obtain ⟨l0, hl0⟩ : ∃ l0, l0 = nth x Lot.zero i := ⟨_, rfl⟩
  have ex : x = x.set i l0 := by rw [hl0, set_nth_self x _ hi]
  rw [← hl0]
  have W : ∀ n : Int, -9223372036854775808 ≤ n ∧ n ≤ 9223372036854775807 → IntKind.i64.wrap n = n := fun n h => wrapK_id h
  obtain ⟨l1, r1, E1⟩ := stp (x := x) (i := i) l0 (⟨l0.count, l0.mass, (⟨(⟨IntKind.i64.wrap (l0.con.a.lo + (1 : Int)), l0.con.a.hi⟩ : Rng), l0.con.b, l0.con.c⟩ : Bnds), l0.cost⟩ : Lot) ((bitAnd .u8 by_ (1 : Int)) == (1 : Int)) (decide (l0.con.a.lo < l0.con.a.hi)) (fun h hv => by
    simp only [decide_eq_true_eq] at h
    have v := isLot_iff.1 hv
    rw [W _ (by omega)]
    exact ⟨isLot_iff.2 (by simp only; omega), ⟨by simp, rfl, rfl, by simp only; omega, by simp, by simp⟩⟩)
  rw [← ex] at E1
  rw [E1]
  simp only [Option.bind_some, List.length_set, e1, cond_true, nth_set_self x _ _ hi, List.set_set]
  obtain ⟨l2, r2, E2⟩ := stp (x := x) (i := i) l1 (⟨l1.count, l1.mass, (⟨(⟨l1.con.a.lo, IntKind.i64.wrap (l1.con.a.hi - (1 : Int))⟩ : Rng), l1.con.b, l1.con.c⟩ : Bnds), l1.cost⟩ : Lot) ((bitAnd .u8 by_ (2 : Int)) == (2 : Int)) (decide (l1.con.a.lo < l1.con.a.hi)) (fun h hv => by
    simp only [decide_eq_true_eq] at h
    have v := isLot_iff.1 hv
    rw [W _ (by omega)]
    exact ⟨isLot_iff.2 (by simp only; omega), ⟨by simp, rfl, rfl, by simp only; omega, by simp, by simp⟩⟩)
  rw [E2]
  simp only [Option.bind_some, List.length_set, e1, cond_true, nth_set_self x _ _ hi, List.set_set]
  obtain ⟨l3, r3, E3⟩ := stp (x := x) (i := i) l2 (⟨l2.count, l2.mass, (⟨l2.con.a, (⟨IntKind.i64.wrap (l2.con.b.lo + (1 : Int)), l2.con.b.hi⟩ : Rng), l2.con.c⟩ : Bnds), l2.cost⟩ : Lot) ((bitAnd .u8 by_ (1 : Int)) == (1 : Int)) (decide (l2.con.b.lo < l2.con.b.hi)) (fun h hv => by
    simp only [decide_eq_true_eq] at h
    have v := isLot_iff.1 hv
    rw [W _ (by omega)]
    exact ⟨isLot_iff.2 (by simp only; omega), ⟨by simp, rfl, rfl, by simp, by simp only; omega, by simp⟩⟩)
  rw [E3]
  simp only [Option.bind_some, List.length_set, e1, cond_true, nth_set_self x _ _ hi, List.set_set]
  obtain ⟨l4, r4, E4⟩ := stp (x := x) (i := i) l3 (⟨l3.count, l3.mass, (⟨l3.con.a, (⟨l3.con.b.lo, IntKind.i64.wrap (l3.con.b.hi - (1 : Int))⟩ : Rng), l3.con.c⟩ : Bnds), l3.cost⟩ : Lot) ((bitAnd .u8 by_ (2 : Int)) == (2 : Int)) (decide (l3.con.b.lo < l3.con.b.hi)) (fun h hv => by
    simp only [decide_eq_true_eq] at h
    have v := isLot_iff.1 hv
    rw [W _ (by omega)]
    exact ⟨isLot_iff.2 (by simp only; omega), ⟨by simp, rfl, rfl, by simp, by simp only; omega, by simp⟩⟩)
  rw [E4]
  simp only [Option.bind_some, List.length_set, e1, cond_true, nth_set_self x _ _ hi, List.set_set]
  obtain ⟨l5, r5, E5⟩ := stp (x := x) (i := i) l4 (⟨l4.count, l4.mass, (⟨l4.con.a, l4.con.b, (⟨IntKind.i64.wrap (l4.con.c.lo + (1 : Int)), l4.con.c.hi⟩ : Rng)⟩ : Bnds), l4.cost⟩ : Lot) ((bitAnd .u8 by_ (1 : Int)) == (1 : Int)) (decide (l4.con.c.lo < l4.con.c.hi)) (fun h hv => by
    simp only [decide_eq_true_eq] at h
    have v := isLot_iff.1 hv
    rw [W _ (by omega)]
    exact ⟨isLot_iff.2 (by simp only; omega), ⟨by simp, rfl, rfl, by simp, by simp, by simp only; omega⟩⟩)
  rw [E5]
  simp only [Option.bind_some, List.length_set, e1, cond_true, nth_set_self x _ _ hi, List.set_set]
  obtain ⟨l6, r6, E6⟩ := stp (x := x) (i := i) l5 (⟨l5.count, l5.mass, (⟨l5.con.a, l5.con.b, (⟨l5.con.c.lo, IntKind.i64.wrap (l5.con.c.hi - (1 : Int))⟩ : Rng)⟩ : Bnds), l5.cost⟩ : Lot) ((bitAnd .u8 by_ (2 : Int)) == (2 : Int)) (decide (l5.con.c.lo < l5.con.c.hi)) (fun h hv => by
    simp only [decide_eq_true_eq] at h
    have v := isLot_iff.1 hv
    rw [W _ (by omega)]
    exact ⟨isLot_iff.2 (by simp only; omega), ⟨by simp, rfl, rfl, by simp, by simp, by simp only; omega⟩⟩)
  rw [E6]
  simp only [Option.bind_some, List.length_set, e1, cond_true, nth_set_self x _ _ hi, List.set_set]
  obtain ⟨l7, r7, E7⟩ := stp (x := x) (i := i) l6 (⟨IntKind.i64.wrap (l6.count + (1 : Int)), l6.mass, (⟨l6.con.a, l6.con.b, l6.con.c⟩ : Bnds), l6.cost⟩ : Lot) ((bitAnd .u8 by_ (4 : Int)) == (4 : Int)) (decide (l6.count < 1000)) (fun h hv => by
    simp only [decide_eq_true_eq] at h
    have v := isLot_iff.1 hv
    rw [W _ (by omega)]
    exact ⟨isLot_iff.2 (by simp only; omega), ⟨by simp only; omega, rfl, rfl, by simp, by simp, by simp⟩⟩)
  rw [E7]
  simp only [Option.bind_some]
  exact ⟨l7, hl0 ▸ ((((((r1.trans r2).trans r3).trans r4).trans r5).trans r6).trans r7), rfl⟩
theorem lots_l {F : Nat} {by_ : Int} : ∀ (d f i : Nat) (x : List Lot), x.length ≤ 1000 → i + d = x.length → d < f → ∃ y, leasier_l94 F by_ f (i : Int) x = some y ∧ y.length = x.length ∧ (∀ j, j < i → nth y .zero j = nth x .zero j) ∧ ∀ j, i ≤ j → j < x.length → R (nth x .zero j) (nth y .zero j)
  | 0, f, i, x, hl, hi, hf => by
    obtain ⟨f, rfl⟩ : ∃ g, f = g + 1 := ⟨f - 1, by omega⟩
    have e0 : decide ((i : Int) < (x.length : Int)) = false := by simp; omega
    rw [leasier_l94, e0]
    exact ⟨x, rfl, rfl, fun _ _ => rfl, fun j h1 h2 => by omega⟩
  | d + 1, f, i, x, hl, hi, hf => by
    obtain ⟨f, rfl⟩ : ∃ g, f = g + 1 := ⟨f - 1, by omega⟩
    have hix : i < x.length := by omega
    obtain ⟨l', hr, e⟩ := lot_step (F := F) (by_ := by_) (f := f) hix hl
    obtain ⟨y, h1, h2, h3, h4⟩ := lots_l (F := F) (by_ := by_) d f (i + 1) (x.set i l') (by simpa using hl) (by simp; omega) (by omega)
    refine ⟨y, by rw [e]; exact h1, by rw [h2]; simp, fun j hj => ?_, fun j hj1 hj2 => ?_⟩
    · rw [h3 j (by omega), nth_set_ne x _ _ (by omega)]
    · by_cases hji : j = i
      · subst hji
        rw [h3 j (by omega), nth_set_self x _ _ hix]; exact hr
      · have := h4 j (by omega) (by simpa using hj2)
        rwa [nth_set_ne x _ _ (by omega)] at this
/-- One bound more or the same. -/
theorem val_stp {β : Type} (g : Int → β) (A A' : Int) (c d : Bool) : ∃ B, (B = A ∨ (d = true ∧ B = A')) ∧ ((bif c then some d else some false).bind (fun z => bif z then some (g A') else some (g A))) = some (g B) := by
  cases c
  · exact ⟨A, .inl rfl, rfl⟩
  · cases d
    · exact ⟨A, .inl rfl, rfl⟩
    · exact ⟨A', .inr ⟨rfl, rfl⟩, rfl⟩
/-- A range no narrower. -/
structure Wd (lim : Int) (x y : Rng) : Prop where
  lo : y.lo = x.lo ∨ (decide (x.lo > 0) = true ∧ y.lo = IntKind.i64.wrap (x.lo - 1))
  hi : y.hi = x.hi ∨ (decide (x.hi < lim) = true ∧ y.hi = IntKind.i64.wrap (x.hi + 1))
theorem Wd.ok {lim : Int} {x y : Rng} (h : Wd lim x y) (hl : lim ≤ 1000000000) (hx : 0 ≤ x.lo ∧ x.lo ≤ x.hi ∧ x.hi ≤ lim) : (0 ≤ y.lo ∧ y.lo ≤ y.hi ∧ y.hi ≤ lim) ∧ y.lo ≤ x.lo ∧ x.hi ≤ y.hi := by
  have h1 : y.lo = x.lo ∨ (x.lo > 0 ∧ y.lo = x.lo - 1) := by
    rcases h.lo with e | ⟨e, e2⟩
    · exact .inl e
    · rw [decide_eq_true_eq] at e
      rw [wrapK_id (by omega)] at e2
      exact .inr ⟨e, e2⟩
  have h2 : y.hi = x.hi ∨ (x.hi < lim ∧ y.hi = x.hi + 1) := by
    rcases h.hi with e | ⟨e, e2⟩
    · exact .inl e
    · rw [decide_eq_true_eq] at e
      rw [wrapK_id (by omega)] at e2
      exact .inr ⟨e, e2⟩
  omega
/-- A recipe no harder. -/
structure Ez (p q : Recipe) : Prop where
  len : q.lots.length = p.lots.length
  lot : ∀ j, 0 ≤ j → j < p.lots.length → R (nth p.lots .zero j) (nth q.lots .zero j)
  m : Wd 1000000000 p.mass q.mass
  a : Wd 100000000 p.target.a q.target.a
  b : Wd 100000000 p.target.b q.target.b
  c : Wd 100000000 p.target.c q.target.c
theorem isRange_of {n a b : Int} (h : 0 ≤ n ∧ n ≤ a ∧ a ≤ b) : isRangeB n a b = true := by
  unfold isRangeB; simp only [Bool.and_eq_true, decide_eq_true_eq]; omega
theorem check_of {p : Recipe} (hl : p.lots.length ≤ 6) (h : ∀ l ∈ p.lots, isLotB l = true) (hm : isRangeB p.mass.lo p.mass.hi 1000000000 = true) (ht : areBoundsB p.target = true) : checkE p = 0 := by
  unfold checkE
  rw [if_neg (by omega), if_neg]
  simp only [hm, ht, Bool.or_eq_true, Bool.not_true, Bool.false_eq_true, or_false]
  rw [List.any_eq_true]
  rintro ⟨l, h1, h2⟩
  rw [h l h1] at h2
  cases h2
theorem Ez.wide {p q : Recipe} (e : Ez p q) (h : checkE p = 0) : checkE q = 0 ∧ (∀ j, j < p.lots.length → Nar (nth p.lots .zero j) (nth q.lots .zero j)) ∧ (q.mass.lo ≤ p.mass.lo ∧ p.mass.hi ≤ q.mass.hi) ∧ (q.target.a.lo ≤ p.target.a.lo ∧ p.target.a.hi ≤ q.target.a.hi) ∧ (q.target.b.lo ≤ p.target.b.lo ∧ p.target.b.hi ≤ q.target.b.hi) ∧ (q.target.c.lo ≤ p.target.c.lo ∧ p.target.c.hi ≤ q.target.c.hi) := by
  have hl := check_len h
  obtain ⟨hm, ht⟩ := check_rest h
  obtain ⟨ta, tb, tc⟩ := bounds_are ht
  obtain ⟨m1, m2⟩ := e.m.ok (by omega) hm
  obtain ⟨a1, a2⟩ := e.a.ok (by omega) ta
  obtain ⟨b1, b2⟩ := e.b.ok (by omega) tb
  obtain ⟨c1, c2⟩ := e.c.ok (by omega) tc
  have key : ∀ j, j < p.lots.length → isLotB (nth q.lots .zero j) = true ∧ Nar (nth p.lots .zero j) (nth q.lots .zero j) := fun j hj => by
    refine e.lot j (by omega) hj ?_
    rw [← nth_eq p.lots .zero j hj]
    exact check_lot h _ (List.getElem_mem hj)
  refine ⟨check_of (by rw [e.len]; exact hl) (fun l hlm => ?_) (isRange_of m1) ?_, fun j hj => (key j hj).2, m2, a2, b2, c2⟩
  · obtain ⟨j, hj, rfl⟩ := List.getElem_of_mem hlm
    rw [nth_eq q.lots .zero j hj]
    exact (key j (by rw [← e.len]; exact hj)).1
  · unfold areBoundsB
    rw [isRange_of a1, isRange_of b1, isRange_of c1]; rfl
theorem ez_charge {p q : Recipe} (hlen : q.lots.length = p.lots.length) (hn : ∀ j, j < p.lots.length → Nar (nth p.lots .zero j) (nth q.lots .zero j)) {c : List Int} : ∀ k, okTo p.lots c k = true → okTo q.lots c k = true ∧ costTo q.lots c k = costTo p.lots c k
  | 0, _ => ⟨rfl, rfl⟩
  | k + 1, h => by
    obtain ⟨hl, h1, h2⟩ := okTo_at h (Nat.lt_succ_self k)
    obtain ⟨a, b⟩ := ez_charge hlen hn k (okTo_mono p.lots c (by omega) h)
    have n := hn k hl
    have nn := n.hn
    refine ⟨?_, ?_⟩
    · rw [okTo]
      simp only [a, withinB, Bool.true_and, Bool.and_eq_true, decide_eq_true_eq]
      omega
    · rw [costTo, costTo, b, n.hk]
/-- One pile lies within another one. -/
structure PileIn (x y : Pile) : Prop where
  m : y.mass = x.mass
  a : x.con.a.lo ≤ y.con.a.lo ∧ y.con.a.hi ≤ x.con.a.hi
  b : x.con.b.lo ≤ y.con.b.lo ∧ y.con.b.hi ≤ x.con.b.hi
  c : x.con.c.lo ≤ y.con.c.lo ∧ y.con.c.hi ≤ x.con.c.hi
theorem mul_mono {n a b : Int} (hn : 0 ≤ n) (h : a ≤ b) : n * a ≤ n * b := Int.mul_le_mul_of_nonneg_left h hn
theorem ez_pile {p q : Recipe} (hp : checkE p = 0) (hq : checkE q = 0) (hlen : q.lots.length = p.lots.length) (hn : ∀ j, j < p.lots.length → Nar (nth p.lots .zero j) (nth q.lots .zero j)) {c : List Int} : ∀ k, k ≤ 6 → okTo p.lots c k = true → PileIn (weighTo p.lots c k) (weighTo q.lots c k)
  | 0, _, _ => ⟨rfl, ⟨Int.le_refl _, Int.le_refl _⟩, ⟨Int.le_refl _, Int.le_refl _⟩, ⟨Int.le_refl _, Int.le_refl _⟩⟩
  | k + 1, hk, h => by
    obtain ⟨hl, h1, h2⟩ := okTo_at h (Nat.lt_succ_self k)
    obtain ⟨i1, i2, i3, i4⟩ := ez_pile hp hq hlen hn k (by omega) (okTo_mono p.lots c (by omega) h)
    obtain ⟨n1, n2, n3, n4, n5, n6⟩ := hn k hl
    obtain ⟨a1, a2, a3, a4, a5, a6, a7⟩ := weigh_ex hp (show k < 6 by omega) h
    obtain ⟨b1, b2, b3, b4, b5, b6, b7⟩ := weigh_ex hq (show k < 6 by omega) (ez_charge hlen hn (k + 1) h).1
    have c2 := mul_mono h1 n4.1; have c3 := mul_mono h1 n4.2
    have c4 := mul_mono h1 n5.1; have c5 := mul_mono h1 n5.2
    have c6 := mul_mono h1 n6.1; have c7 := mul_mono h1 n6.2
    refine ⟨?_, by omega, by omega, by omega⟩
    rw [a1, b1, n2, i1]
theorem ez_true {p q : Recipe} (e : Ez p q) (hp : checkE p = 0) {c : List Int} (hc : isChargeB p.lots c = true) (ht : TruePile p (weighM p.lots c)) : checkE q = 0 ∧ isChargeB q.lots c = true ∧ TruePile q (weighM q.lots c) ∧ costM q.lots c = costM p.lots c := by
  obtain ⟨hq, hn, hm, ha, hb, hk⟩ := e.wide hp
  have hlen := isCharge_len hc
  have hl := check_len hp
  have ho := isCharge_ok hc
  obtain ⟨o1, o2⟩ := ez_charge e.len hn _ ho
  refine ⟨hq, ?_, ?_, o2⟩
  · unfold isChargeB
    rw [o1, e.len, hlen]; simp
  · obtain ⟨i1, i2, i3, i4⟩ := ez_pile hp hq e.len hn c.length (by omega) ho
    obtain ⟨t1, t2, t3, t4, t5, t6, t7, t8⟩ := ht
    have m0 := (weigh_bd hp hc).m.1
    unfold weighM at *
    have c1 := Int.mul_le_mul_of_nonneg_right ha.1 m0; have c2 := Int.mul_le_mul_of_nonneg_right ha.2 m0
    have c3 := Int.mul_le_mul_of_nonneg_right hb.1 m0; have c4 := Int.mul_le_mul_of_nonneg_right hb.2 m0
    have c5 := Int.mul_le_mul_of_nonneg_right hk.1 m0; have c6 := Int.mul_le_mul_of_nonneg_right hk.2 m0
    refine ⟨by rw [i1]; omega, by rw [i1]; omega, ?_, ?_, ?_, ?_, ?_, ?_⟩ <;> rw [i1] <;> omega
theorem easier_S {F : Nat} {p : Recipe} {counts : List Int} {by_ : Int} (hF : 1001 < F) : leasier_S F p counts by_ = some true := by
  unfold leasier_S
  by_cases l1 : p.lots.length ≤ 10
  · have e0 : decide ((p.lots.length : Int) > 10) = false := by simp; omega
    rw [e0]
    by_cases l2 : counts.length ≤ 12
    · have e1 : decide ((counts.length : Int) > 12) = false := by simp; omega
      rw [e1]
      simp only [cond_false, Option.bind_some]
      rw [own_S (by omega), ints_S (by omega)]
      simp only [Option.bind_some]
      obtain ⟨y, h1, h2, _, h4⟩ := lots_l (F := F) (by_ := by_) p.lots.length F 0 p.lots (by omega) (by omega) (by omega)
      have h1' : leasier_l94 F by_ F (0 : Int) p.lots = some y := h1
      rw [h1']
      simp only [Option.bind_some]
      obtain ⟨v1, w1, E1⟩ := val_stp (fun b => b) p.target.a.lo (IntKind.i64.wrap (p.target.a.lo - 1)) ((bitAnd .u8 by_ (8 : Int)) == (8 : Int)) (decide (p.target.a.lo > 0))
      rw [E1]
      simp only [Option.bind_some]
      obtain ⟨v2, w2, E2⟩ := val_stp (fun b => (v1, b)) p.target.a.hi (IntKind.i64.wrap (p.target.a.hi + 1)) ((bitAnd .u8 by_ (16 : Int)) == (16 : Int)) (decide (p.target.a.hi < 100000000))
      rw [E2]
      simp only [Option.bind_some]
      obtain ⟨v3, w3, E3⟩ := val_stp (fun b => b) p.target.b.lo (IntKind.i64.wrap (p.target.b.lo - 1)) ((bitAnd .u8 by_ (8 : Int)) == (8 : Int)) (decide (p.target.b.lo > 0))
      rw [E3]
      simp only [Option.bind_some]
      obtain ⟨v4, w4, E4⟩ := val_stp (fun b => (v3, b)) p.target.b.hi (IntKind.i64.wrap (p.target.b.hi + 1)) ((bitAnd .u8 by_ (16 : Int)) == (16 : Int)) (decide (p.target.b.hi < 100000000))
      rw [E4]
      simp only [Option.bind_some]
      obtain ⟨v5, w5, E5⟩ := val_stp (fun b => b) p.target.c.lo (IntKind.i64.wrap (p.target.c.lo - 1)) ((bitAnd .u8 by_ (8 : Int)) == (8 : Int)) (decide (p.target.c.lo > 0))
      rw [E5]
      simp only [Option.bind_some]
      obtain ⟨v6, w6, E6⟩ := val_stp (fun b => (v5, b)) p.target.c.hi (IntKind.i64.wrap (p.target.c.hi + 1)) ((bitAnd .u8 by_ (16 : Int)) == (16 : Int)) (decide (p.target.c.hi < 100000000))
      rw [E6]
      simp only [Option.bind_some]
      obtain ⟨v7, w7, E7⟩ := val_stp (fun b => b) p.mass.lo (IntKind.i64.wrap (p.mass.lo - 1)) ((bitAnd .u8 by_ (32 : Int)) == (32 : Int)) (decide (p.mass.lo > 0))
      rw [E7]
      simp only [Option.bind_some]
      obtain ⟨v8, w8, E8⟩ := val_stp (fun b => b) p.mass.hi (IntKind.i64.wrap (p.mass.hi + 1)) ((bitAnd .u8 by_ (64 : Int)) == (64 : Int)) (decide (p.mass.hi < 1000000000))
      rw [E8]
      simp only [Option.bind_some]
      obtain ⟨q, hq⟩ : ∃ q : Recipe, q = (⟨y, ⟨v7, v8⟩, ⟨⟨v1, v2⟩, ⟨v3, v4⟩, ⟨v5, v6⟩⟩⟩ : Recipe) := ⟨_, rfl⟩
      have ez : Ez p q := by
        subst hq
        exact ⟨h2, h4, ⟨w7, w8⟩, ⟨w1, w2⟩, ⟨w3, w4⟩, ⟨w5, w6⟩⟩
      rw [← hq]
      clear hq
      have A : (bif (weighE p counts) == (0 : Int) then (bif (fitsK p counts) == ((-1) : Int) then (bif (weighE q counts) != (0 : Int) then (some true) else (some ((fitsK q counts) != ((-1) : Int)))) else (some false)) else (some false)) = some false := by
        by_cases h1 : weighE p counts = 0
        · by_cases h2 : fitsK p counts = -1
          · obtain ⟨a, b⟩ := weighE_zero h1
            obtain ⟨c1, c2, c3, _⟩ := ez_true ez a b ((fits_pile a b).1 h2)
            rw [h1, h2, weighE_ok c1 c2, (fits_pile c1 c2).2 c3]; rfl
          · rw [h1, show (fitsK p counts == -1) = false by simpa using h2]; rfl
        · rw [show (weighE p counts == 0) = false by simpa using h1]; rfl
      rw [A]
      simp only [Option.bind_some, cond_false]
      by_cases hb : bestE p = 0
      · obtain ⟨hp, s, hs1, hs2⟩ := bestE_zero hb
        obtain ⟨b1, b2, b3⟩ := best_is hp hs2
        obtain ⟨c1, c2, c3, c4⟩ := ez_true ez hp b1 ((meets_pile hp b1).1 b2)
        have hm2 := (meets_pile c1 c2).2 c3
        obtain ⟨t, ht⟩ := Option.isSome_iff_exists.1 (best_of_meets c1 c2 hm2)
        have hle := best_min c1 ht c2 hm2
        rw [hb]
        by_cases hmq : manyM q = true
        · have : bestE q = 8 := by simp [bestE, c1, hmq]
          rw [this]; rfl
        · have e1 : bestE q = 0 := by simp [bestE, c1, hmq, ht]
          have e2 : bestM q = some t := by simp [bestM, c1, hmq, ht]
          rw [e1, e2, hs1, show stC (some t) = t.2 from rfl, show stC (some s) = s.2 from rfl]
          have e3 : decide (t.2 > s.2) = false := by rw [decide_eq_false_iff_not]; omega
          rw [e3]; rfl
      · rw [show (bestE p == 0) = false by simpa using hb]; rfl
    · have e1 : decide ((counts.length : Int) > 12) = true := by simp; omega
      rw [e1]; rfl
  · have e0 : decide ((p.lots.length : Int) > 10) = true := by simp; omega
    rw [e0]; rfl
end Go.Proofs.Ytojnpaenpaobcaa
