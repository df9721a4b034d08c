/- The reference: in, bounds. No condition. -/
import Derived.Test.YtojnpaenpaobcaaV
import Derived.Test.YtojnpaenpaobcaaProg
import Derived.Test.YtojnpaenpaobcaaC8
import Derived.Test.YtojnpaenpaobcaaR3
namespace Go.Proofs.Ytojnpaenpaobcaa
open Go.RowKit
def dIn_S (F : Nat) (n_ : Int) (lo : Int) (hi : Int) : Option (Bool) := ((bif decide (n_ ≥ lo) then (some (decide (n_ ≤ hi))) else (some false))).bind (fun z1 => some z1)
set_option maxRecDepth 100000 in
set_option maxHeartbeats 4000000 in
theorem dIn_w (F : Nat) (n_ : Int) (lo : Int) (hi : Int) (w : World) (v : Bool) (h : dIn_S F n_ lo hi = some v) :
    Calls Try.prog 64 #[.int .i64 n_, .int .i64 lo, .int .i64 hi] w (Ret (.bool v) w) := by
  rw [dIn_S] at h
  refine At.enter Try.func64 rfl 15 [(0, .int .i64 n_), (1, .int .i64 lo), (2, .int .i64 hi)] ([]) [] (by kernel_rfl) ⟨rfl, rfl, rfl, trivial⟩ (Rep.sub (Rep.start w) (by simp)) ?_
  refine At.seq ?_
  refine At.runR [] [0, 1, 2] [] (.normal) ([(0, .int .i64 n_), (1, .int .i64 lo), (2, .int .i64 hi)]) [] [] (fun _ => by as_aux_lemma => kernel_rfl) trivial ?_
  refine Ends.seq ?_
  obtain ⟨o1, h, hr1⟩ := bd h
  refine At.seq_mid (σ := Bool) (fun s => o1 = s) (fun s => [(6, .bool s)]) (fun s => []) ?_ (fun s hI => ?_)
  · refine At.region ?_
    refine AtL.runR 4 [] [0, 2, 10] [] ([(0, .int .i64 n_), (2, .int .i64 hi), (10, .bool (decide (n_ ≥ lo)))]) [] [] (fun _ => by as_aux_lemma => kernel_rfl) trivial ?_
    refine AtL.bool 10 (decide (n_ ≥ lo)) (by kernel_rfl) (fun hc2 => ?_) (fun hc2 => ?_)
    · have h := br_t h hc2
      refine AtL.runR 5 [] [6] [] ([(6, .bool (decide (n_ ≤ hi)))]) [] [] (fun _ => by as_aux_lemma => kernel_rfl) trivial ?_
      refine AtL.nil (by kernel_rfl) ?_
      exact Ends.mid (decide (n_ ≤ hi)) (Option.some.inj h).symm (by kernel_rfl) (by kernel_rfl)
    · have h := br_f h hc2
      refine AtL.runR 5 [] [6] [] ([(6, .bool false)]) [] [] (fun _ => by as_aux_lemma => kernel_rfl) trivial ?_
      refine AtL.nil (by kernel_rfl) ?_
      exact Ends.mid false (Option.some.inj h).symm (by kernel_rfl) (by kernel_rfl)
  · revert hI; revert s; intro t6 hI
    replace hI : o1 = t6 := hI
    have h := hr1
    try rw [hI] at h
    refine At.runR [] [6] [] (.ret) ([(6, .bool t6)]) [] [] (fun _ => by as_aux_lemma => kernel_rfl) trivial ?_
    refine Ends.body [] (.bool t6) [] (by kernel_rfl) (fun w9 hRep => ?_)
    obtain rfl := Option.some.inj h
    exact ⟨rfl, hRep.ext⟩
def dBounds_S (F : Nat) (b : Bnds) : Option (Bool) := (((bif decide (b.a.lo < (0 : Int)) then (some true) else (bif decide (b.a.lo > b.a.hi) then (some true) else (some (decide (b.a.hi > (100000000 : Int))))))).bind (fun z2 => bif z2 then (some (.inl false)) else (((bif decide (b.b.lo < (0 : Int)) then (some true) else (bif decide (b.b.lo > b.b.hi) then (some true) else (some (decide (b.b.hi > (100000000 : Int))))))).bind (fun z4 => bif z4 then (some (.inl false)) else (((bif decide (b.c.lo < (0 : Int)) then (some true) else (bif decide (b.c.lo > b.c.hi) then (some true) else (some (decide (b.c.hi > (100000000 : Int))))))).bind (fun z7 => bif z7 then (some (.inl false)) else (some (.inr ())))))))).bind (onSum (fun r => some r) (fun _ => some true))
set_option maxRecDepth 100000 in
set_option maxHeartbeats 4000000 in
theorem dBounds_w (F : Nat) (b : Bnds) (w : World) (v : Bool) (h : dBounds_S F b = some v) :
    Calls Try.prog 63 #[.agg #[.int .i64 b.a.lo, .int .i64 b.a.hi, .int .i64 b.b.lo, .int .i64 b.b.hi, .int .i64 b.c.lo, .int .i64 b.c.hi]] w (Ret (.bool v) w) := by
  rw [dBounds_S] at h
  refine At.enter Try.func63 rfl 31 [(0, .agg #[.int .i64 b.a.lo, .int .i64 b.a.hi, .int .i64 b.b.lo, .int .i64 b.b.hi, .int .i64 b.c.lo, .int .i64 b.c.hi])] ([]) [] (by kernel_rfl) ⟨rfl, trivial⟩ (Rep.sub (Rep.start w) (by simp)) ?_
  refine At.seq ?_
  refine At.run [] [1] [true] (.normal) (fun B3 => [(1, .pointer (some ⟨B3, 0, none⟩))]) (fun B3 => [.blk B3 [.int .i64 b.a.lo, .int .i64 b.a.hi, .int .i64 b.b.lo, .int .i64 b.b.hi, .int .i64 b.c.lo, .int .i64 b.c.hi] 26]) (fun B3 => []) (fun B3 => []) (fun B3 => by as_aux_lemma => kernel_rfl) (fun B3 => trivial) (fun B3 => ?_)
  refine Ends.seq ?_
  obtain ⟨o1, h, hr1⟩ := bd h
  refine At.seq_mid (σ := Unit) (fun s => o1 = (.inr ())) (fun s => []) (fun s => []) ?_ (fun s hI => ?_)
  · refine At.seq ?_
    refine At.runR [] [1, 3] [true] (.normal) ([(1, .pointer (some ⟨B3, 0, none⟩)), (3, .int .i64 0)]) [] [] (fun _ => by as_aux_lemma => kernel_rfl) trivial ?_
    refine Ends.seq ?_
    refine At.block ?_
    refine At.unroll 13 ?_
    refine AtR.succ ?_
    refine At.seq ?_
    refine At.runR [] [1, 3] [true] (.normal) ([(1, .pointer (some ⟨B3, 0, none⟩)), (3, .int .i64 0)]) [] [] (fun _ => by as_aux_lemma => kernel_rfl) trivial ?_
    refine Ends.seq ?_
    refine At.seq ?_
    refine At.block ?_
    obtain ⟨o2, h, hr2⟩ := bd h
    refine At.seq_mid (σ := Bool) (fun s => o2 = s) (fun s => [(1, .pointer (some ⟨B3, 0, none⟩)), (3, .int .i64 0), (30, .bool s)]) (fun s => [.blk B3 [.int .i64 b.a.lo, .int .i64 b.a.hi, .int .i64 b.b.lo, .int .i64 b.b.hi, .int .i64 b.c.lo, .int .i64 b.c.hi] 26]) ?_ (fun s hI => ?_)
    · refine At.plan ([.blk B3 [.int .i64 b.a.lo, .int .i64 b.a.hi, .int .i64 b.b.lo, .int .i64 b.b.hi, .int .i64 b.c.lo, .int .i64 b.c.hi] 26]) [0] (by kernel_rfl) (by kernel_rfl) [.st [0, 1, 2, 3, 4, 5, 6, 7, 8, 9, 10, 11, 12, 13, 14, 15, 16, 17, 18, 19, 20, 21, 22]] (by kernel_rfl) (by kernel_rfl) ?_
      refine AtP.st ?_
      refine AtY.run 6 [(0, 0, 0)] [1, 3, 13] ([(1, .pointer (some ⟨B3, 0, none⟩)), (3, .int .i64 0), (13, .bool (decide (b.a.lo < (0 : Int))))]) [B3, 0] [] (by as_aux_lemma => kernel_rfl) trivial ?_
      refine AtY.bool 13 (decide (b.a.lo < (0 : Int))) (by kernel_rfl) (fun hc14 => ?_) (fun hc14 => ?_)
      · have h := br_t h hc14
        refine AtY.run 17 [] [1, 3, 30] ([(1, .pointer (some ⟨B3, 0, none⟩)), (3, .int .i64 0), (30, .bool true)]) [] [] (by as_aux_lemma => kernel_rfl) trivial ?_
        refine AtY.nil (by kernel_rfl) ?_
        refine AtP.nil ?_
        exact Ends.mid true (Option.some.inj h).symm (by kernel_rfl) (by kernel_rfl)
      · have h := br_f h hc14
        refine AtY.run 11 [(0, 0, 0), (0, 1, 0)] [1, 3, 24] ([(1, .pointer (some ⟨B3, 0, none⟩)), (3, .int .i64 0), (24, .bool (decide (b.a.lo > b.a.hi)))]) [B3, 0, B3, 1] [] (by as_aux_lemma => kernel_rfl) trivial ?_
        refine AtY.bool 24 (decide (b.a.lo > b.a.hi)) (by kernel_rfl) (fun hc15 => ?_) (fun hc15 => ?_)
        · have h := br_t h hc15
          refine AtY.run 6 [] [1, 3, 30] ([(1, .pointer (some ⟨B3, 0, none⟩)), (3, .int .i64 0), (30, .bool true)]) [] [] (by as_aux_lemma => kernel_rfl) trivial ?_
          refine AtY.nil (by kernel_rfl) ?_
          refine AtP.nil ?_
          exact Ends.mid true (Option.some.inj h).symm (by kernel_rfl) (by kernel_rfl)
        · have h := br_f h hc15
          refine AtY.run 6 [(0, 1, 0)] [1, 3, 30] ([(1, .pointer (some ⟨B3, 0, none⟩)), (3, .int .i64 0), (30, .bool (decide (b.a.hi > (100000000 : Int))))]) [B3, 1] [] (by as_aux_lemma => kernel_rfl) trivial ?_
          refine AtY.nil (by kernel_rfl) ?_
          refine AtP.nil ?_
          exact Ends.mid (decide (b.a.hi > (100000000 : Int))) (Option.some.inj h).symm (by kernel_rfl) (by kernel_rfl)
    · revert hI; revert s; intro t30 hI
      replace hI : o2 = t30 := hI
      have h := hr2
      try rw [hI] at h
      refine At.cond (t30) (by kernel_rfl) (fun hc3 => ?_) (fun hc3 => ?_)
      · have h := br_t h hc3
        refine At.runR [] [2] [true] (.ret) ([(2, .bool false)]) [] [] (fun _ => by as_aux_lemma => kernel_rfl) trivial ?_
        refine Ends.block_ret ?_
        refine Ends.then_ret ?_
        refine Ends.then_ret ?_
        refine Ends.block_ret ?_
        refine Ends.then_ret ?_
        obtain rfl := Option.some.inj h
        have h := hr1
        refine Ends.body [] (.bool false) [] (by kernel_rfl) (fun w9 hRep => ?_)
        obtain rfl := Option.some.inj h
        exact ⟨rfl, hRep.ext⟩
      · have h := br_f h hc3
        refine At.runR [] [1, 3] [true] (.normal) ([(1, .pointer (some ⟨B3, 0, none⟩)), (3, .int .i64 0)]) [] [] (fun _ => by as_aux_lemma => kernel_rfl) trivial ?_
        refine Ends.block_normal ?_
        refine Ends.seq ?_
        refine At.runR [] [1, 3] [true] (.normal) ([(1, .pointer (some ⟨B3, 0, none⟩)), (3, .int .i64 1)]) [] [] (fun _ => by as_aux_lemma => kernel_rfl) trivial ?_
        refine Ends.rounds ?_
        refine AtR.succ ?_
        refine At.seq ?_
        refine At.runR [] [1, 3] [true] (.normal) ([(1, .pointer (some ⟨B3, 0, none⟩)), (3, .int .i64 1)]) [] [] (fun _ => by as_aux_lemma => kernel_rfl) trivial ?_
        refine Ends.seq ?_
        refine At.seq ?_
        refine At.block ?_
        obtain ⟨o4, h, hr4⟩ := bd h
        refine At.seq_mid (σ := Bool) (fun s => o4 = s) (fun s => [(1, .pointer (some ⟨B3, 0, none⟩)), (3, .int .i64 1), (30, .bool s)]) (fun s => [.blk B3 [.int .i64 b.a.lo, .int .i64 b.a.hi, .int .i64 b.b.lo, .int .i64 b.b.hi, .int .i64 b.c.lo, .int .i64 b.c.hi] 26]) ?_ (fun s hI => ?_)
        · refine At.plan ([.blk B3 [.int .i64 b.a.lo, .int .i64 b.a.hi, .int .i64 b.b.lo, .int .i64 b.b.hi, .int .i64 b.c.lo, .int .i64 b.c.hi] 26]) [0] (by kernel_rfl) (by kernel_rfl) [.st [0, 1, 2, 3, 4, 5, 6, 7, 8, 9, 10, 11, 12, 13, 14, 15, 16, 17, 18, 19, 20, 21, 22]] (by kernel_rfl) (by kernel_rfl) ?_
          refine AtP.st ?_
          refine AtY.run 6 [(0, 2, 0)] [1, 3, 13] ([(1, .pointer (some ⟨B3, 0, none⟩)), (3, .int .i64 1), (13, .bool (decide (b.b.lo < (0 : Int))))]) [B3, 2] [] (by as_aux_lemma => kernel_rfl) trivial ?_
          refine AtY.bool 13 (decide (b.b.lo < (0 : Int))) (by kernel_rfl) (fun hc12 => ?_) (fun hc12 => ?_)
          · have h := br_t h hc12
            refine AtY.run 17 [] [1, 3, 30] ([(1, .pointer (some ⟨B3, 0, none⟩)), (3, .int .i64 1), (30, .bool true)]) [] [] (by as_aux_lemma => kernel_rfl) trivial ?_
            refine AtY.nil (by kernel_rfl) ?_
            refine AtP.nil ?_
            exact Ends.mid true (Option.some.inj h).symm (by kernel_rfl) (by kernel_rfl)
          · have h := br_f h hc12
            refine AtY.run 11 [(0, 2, 0), (0, 3, 0)] [1, 3, 24] ([(1, .pointer (some ⟨B3, 0, none⟩)), (3, .int .i64 1), (24, .bool (decide (b.b.lo > b.b.hi)))]) [B3, 2, B3, 3] [] (by as_aux_lemma => kernel_rfl) trivial ?_
            refine AtY.bool 24 (decide (b.b.lo > b.b.hi)) (by kernel_rfl) (fun hc13 => ?_) (fun hc13 => ?_)
            · have h := br_t h hc13
              refine AtY.run 6 [] [1, 3, 30] ([(1, .pointer (some ⟨B3, 0, none⟩)), (3, .int .i64 1), (30, .bool true)]) [] [] (by as_aux_lemma => kernel_rfl) trivial ?_
              refine AtY.nil (by kernel_rfl) ?_
              refine AtP.nil ?_
              exact Ends.mid true (Option.some.inj h).symm (by kernel_rfl) (by kernel_rfl)
            · have h := br_f h hc13
              refine AtY.run 6 [(0, 3, 0)] [1, 3, 30] ([(1, .pointer (some ⟨B3, 0, none⟩)), (3, .int .i64 1), (30, .bool (decide (b.b.hi > (100000000 : Int))))]) [B3, 3] [] (by as_aux_lemma => kernel_rfl) trivial ?_
              refine AtY.nil (by kernel_rfl) ?_
              refine AtP.nil ?_
              exact Ends.mid (decide (b.b.hi > (100000000 : Int))) (Option.some.inj h).symm (by kernel_rfl) (by kernel_rfl)
        · revert hI; revert s; intro t305 hI
          replace hI : o4 = t305 := hI
          have h := hr4
          try rw [hI] at h
          refine At.cond (t305) (by kernel_rfl) (fun hc6 => ?_) (fun hc6 => ?_)
          · have h := br_t h hc6
            refine At.runR [] [2] [true] (.ret) ([(2, .bool false)]) [] [] (fun _ => by as_aux_lemma => kernel_rfl) trivial ?_
            refine Ends.block_ret ?_
            refine Ends.then_ret ?_
            refine Ends.then_ret ?_
            refine Ends.block_ret ?_
            refine Ends.then_ret ?_
            obtain rfl := Option.some.inj h
            have h := hr1
            refine Ends.body [] (.bool false) [] (by kernel_rfl) (fun w9 hRep => ?_)
            obtain rfl := Option.some.inj h
            exact ⟨rfl, hRep.ext⟩
          · have h := br_f h hc6
            refine At.runR [] [1, 3] [true] (.normal) ([(1, .pointer (some ⟨B3, 0, none⟩)), (3, .int .i64 1)]) [] [] (fun _ => by as_aux_lemma => kernel_rfl) trivial ?_
            refine Ends.block_normal ?_
            refine Ends.seq ?_
            refine At.runR [] [1, 3] [true] (.normal) ([(1, .pointer (some ⟨B3, 0, none⟩)), (3, .int .i64 2)]) [] [] (fun _ => by as_aux_lemma => kernel_rfl) trivial ?_
            refine Ends.rounds ?_
            refine AtR.succ ?_
            refine At.seq ?_
            refine At.runR [] [1, 3] [true] (.normal) ([(1, .pointer (some ⟨B3, 0, none⟩)), (3, .int .i64 2)]) [] [] (fun _ => by as_aux_lemma => kernel_rfl) trivial ?_
            refine Ends.seq ?_
            refine At.seq ?_
            refine At.block ?_
            obtain ⟨o7, h, hr7⟩ := bd h
            refine At.seq_mid (σ := Bool) (fun s => o7 = s) (fun s => [(1, .pointer (some ⟨B3, 0, none⟩)), (3, .int .i64 2), (30, .bool s)]) (fun s => [.blk B3 [.int .i64 b.a.lo, .int .i64 b.a.hi, .int .i64 b.b.lo, .int .i64 b.b.hi, .int .i64 b.c.lo, .int .i64 b.c.hi] 26]) ?_ (fun s hI => ?_)
            · refine At.plan ([.blk B3 [.int .i64 b.a.lo, .int .i64 b.a.hi, .int .i64 b.b.lo, .int .i64 b.b.hi, .int .i64 b.c.lo, .int .i64 b.c.hi] 26]) [0] (by kernel_rfl) (by kernel_rfl) [.st [0, 1, 2, 3, 4, 5, 6, 7, 8, 9, 10, 11, 12, 13, 14, 15, 16, 17, 18, 19, 20, 21, 22]] (by kernel_rfl) (by kernel_rfl) ?_
              refine AtP.st ?_
              refine AtY.run 6 [(0, 4, 0)] [1, 3, 13] ([(1, .pointer (some ⟨B3, 0, none⟩)), (3, .int .i64 2), (13, .bool (decide (b.c.lo < (0 : Int))))]) [B3, 4] [] (by as_aux_lemma => kernel_rfl) trivial ?_
              refine AtY.bool 13 (decide (b.c.lo < (0 : Int))) (by kernel_rfl) (fun hc10 => ?_) (fun hc10 => ?_)
              · have h := br_t h hc10
                refine AtY.run 17 [] [1, 3, 30] ([(1, .pointer (some ⟨B3, 0, none⟩)), (3, .int .i64 2), (30, .bool true)]) [] [] (by as_aux_lemma => kernel_rfl) trivial ?_
                refine AtY.nil (by kernel_rfl) ?_
                refine AtP.nil ?_
                exact Ends.mid true (Option.some.inj h).symm (by kernel_rfl) (by kernel_rfl)
              · have h := br_f h hc10
                refine AtY.run 11 [(0, 4, 0), (0, 5, 0)] [1, 3, 24] ([(1, .pointer (some ⟨B3, 0, none⟩)), (3, .int .i64 2), (24, .bool (decide (b.c.lo > b.c.hi)))]) [B3, 4, B3, 5] [] (by as_aux_lemma => kernel_rfl) trivial ?_
                refine AtY.bool 24 (decide (b.c.lo > b.c.hi)) (by kernel_rfl) (fun hc11 => ?_) (fun hc11 => ?_)
                · have h := br_t h hc11
                  refine AtY.run 6 [] [1, 3, 30] ([(1, .pointer (some ⟨B3, 0, none⟩)), (3, .int .i64 2), (30, .bool true)]) [] [] (by as_aux_lemma => kernel_rfl) trivial ?_
                  refine AtY.nil (by kernel_rfl) ?_
                  refine AtP.nil ?_
                  exact Ends.mid true (Option.some.inj h).symm (by kernel_rfl) (by kernel_rfl)
                · have h := br_f h hc11
                  refine AtY.run 6 [(0, 5, 0)] [1, 3, 30] ([(1, .pointer (some ⟨B3, 0, none⟩)), (3, .int .i64 2), (30, .bool (decide (b.c.hi > (100000000 : Int))))]) [B3, 5] [] (by as_aux_lemma => kernel_rfl) trivial ?_
                  refine AtY.nil (by kernel_rfl) ?_
                  refine AtP.nil ?_
                  exact Ends.mid (decide (b.c.hi > (100000000 : Int))) (Option.some.inj h).symm (by kernel_rfl) (by kernel_rfl)
            · revert hI; revert s; intro t308 hI
              replace hI : o7 = t308 := hI
              have h := hr7
              try rw [hI] at h
              refine At.cond (t308) (by kernel_rfl) (fun hc9 => ?_) (fun hc9 => ?_)
              · have h := br_t h hc9
                refine At.runR [] [2] [true] (.ret) ([(2, .bool false)]) [] [] (fun _ => by as_aux_lemma => kernel_rfl) trivial ?_
                refine Ends.block_ret ?_
                refine Ends.then_ret ?_
                refine Ends.then_ret ?_
                refine Ends.block_ret ?_
                refine Ends.then_ret ?_
                obtain rfl := Option.some.inj h
                have h := hr1
                refine Ends.body [] (.bool false) [] (by kernel_rfl) (fun w9 hRep => ?_)
                obtain rfl := Option.some.inj h
                exact ⟨rfl, hRep.ext⟩
              · have h := br_f h hc9
                refine At.runR [] [1, 3] [true] (.normal) ([(1, .pointer (some ⟨B3, 0, none⟩)), (3, .int .i64 2)]) [] [] (fun _ => by as_aux_lemma => kernel_rfl) trivial ?_
                refine Ends.block_normal ?_
                refine Ends.seq ?_
                refine At.runR [] [1, 3] [true] (.normal) ([(1, .pointer (some ⟨B3, 0, none⟩)), (3, .int .i64 3)]) [] [] (fun _ => by as_aux_lemma => kernel_rfl) trivial ?_
                refine Ends.rounds ?_
                refine AtR.succ ?_
                refine At.runR [] [] [true] (.exit 0) ([]) [] [] (fun _ => by as_aux_lemma => kernel_rfl) trivial ?_
                refine Ends.then_exit ?_
                refine Ends.block_hit ?_
                refine Ends.sel [] [] ([]) ([]) (by kernel_rfl) (by kernel_rfl) (by kernel_rfl) ?_
                exact Ends.mid () (Option.some.inj h).symm (by kernel_rfl) (by kernel_rfl)
  · replace hI : o1 = (.inr ()) := hI
    have h := hr1
    try rw [hI] at h
    refine At.runR [] [2] [] (.ret) ([(2, .bool true)]) [] [] (fun _ => by as_aux_lemma => kernel_rfl) trivial ?_
    refine Ends.body [] (.bool true) [] (by kernel_rfl) (fun w9 hRep => ?_)
    obtain rfl := Option.some.inj h
    exact ⟨rfl, hRep.ext⟩
theorem refIn_c (n a b : Int) (w : World) :
    Calls Try.prog 64 #[.int .i64 n, .int .i64 a, .int .i64 b] w (Ret (.bool (withinB n a b)) w) := by
  refine dIn_w 0 n a b w _ ?_
  unfold dIn_S withinB
  have e : decide (n ≥ a) = decide (a ≤ n) := rfl
  rw [e]
  cases decide (a ≤ n) <;> cases decide (n ≤ b) <;> rfl
theorem bounds_S (F : Nat) (b : Bnds) : dBounds_S F b = some (areBoundsB b) := by
  have r : ∀ x y z : Int, isRangeB x y z = (!decide (x < 0) && (!decide (x > y) && !decide (y > z))) := fun x y z => by
    unfold isRangeB
    rw [Bool.eq_iff_iff]
    simp only [Bool.and_eq_true, decide_eq_true_eq, Bool.not_eq_true', decide_eq_false_iff_not]
    omega
  unfold dBounds_S areBoundsB
  rw [r, r, r]
  generalize decide (b.a.lo < 0) = x1
  generalize decide (b.a.lo > b.a.hi) = x2
  generalize decide (b.a.hi > 100000000) = x3
  generalize decide (b.b.lo < 0) = y1
  generalize decide (b.b.lo > b.b.hi) = y2
  generalize decide (b.b.hi > 100000000) = y3
  generalize decide (b.c.lo < 0) = z1
  generalize decide (b.c.lo > b.c.hi) = z2
  generalize decide (b.c.hi > 100000000) = z3
  cases x1 <;> cases x2 <;> cases x3 <;> cases y1 <;> cases y2 <;> cases y3 <;> cases z1 <;> cases z2 <;> cases z3 <;> rfl
theorem refBounds_c (b : Bnds) (w : World) : Calls Try.prog 63 #[.agg #[.int .i64 b.a.lo, .int .i64 b.a.hi, .int .i64 b.b.lo, .int .i64 b.b.hi, .int .i64 b.c.lo, .int .i64 b.c.hi]] w (Ret (.bool (areBoundsB b)) w) := dBounds_w 0 b w _ (bounds_S 0 b)
end Go.Proofs.Ytojnpaenpaobcaa
