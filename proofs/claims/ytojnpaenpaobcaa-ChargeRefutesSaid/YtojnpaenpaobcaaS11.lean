/- What ChargeRefutes means, and that it is computed. No condition. -/
import Derived.Test.YtojnpaenpaobcaaS9
import Derived.Test.YtojnpaenpaobcaaV
import Derived.Test.YtojnpaenpaobcaaProg
import Derived.Test.YtojnpaenpaobcaaK4
import Derived.Test.YtojnpaenpaobcaaS1
import Derived.Test.YtojnpaenpaobcaaD3
import Derived.Test.YtojnpaenpaobcaaD4
namespace Go.Proofs.Ytojnpaenpaobcaa
open Go.RowKit
def lsamep_l3 (F : Nat) (l : List Split) (m : List Split) : Nat → Int → Option (Sum (Bool) (Unit))
 | 0, _ => none
 | fuel3 + 1, i => bif decide (i < (l.length : Int)) then (bif inB i l.length then (bif inB i m.length then (bif !((((nth l Split.zero i.toNat).lot) == ((nth m Split.zero i.toNat).lot)) && ((((nth l Split.zero i.toNat).at_) == ((nth m Split.zero i.toNat).at_)) && (((nth l Split.zero i.toNat).reason) == ((nth m Split.zero i.toNat).reason)))) then (some (.inl false)) else (lsamep_l3 F l m fuel3 (IntKind.i64.wrap (i + (1 : Int))))) else none) else none) else (some (.inr ()))
def lsamep_S (F : Nat) (l : List Split) (m : List Split) : Option (Bool) := bif (l.length : Int) != (m.length : Int) then (some false) else (((lsamep_l3 F l m F (0 : Int))).bind (onSum (fun r => some r) (fun _ => some true)))
set_option maxRecDepth 100000 in
set_option maxHeartbeats 4000000 in
theorem lsamep_w (F : Nat) (l : List Split) (m : List Split) (a1 : Option Addr) (c1 : Nat) (a2 : Option Addr) (c2 : Nat) (w : World) (hs1 : Sl 3 Split.cells w a1 c1 l) (hs2 : Sl 3 Split.cells w a2 c2 m) (v : Bool) (h : lsamep_S F l m = some v) :
  Calls Try.prog 30 #[.slice a1 l.length c1, .slice a2 m.length c2] w (Ret (.bool v) w) := by
 rw [lsamep_S] at h
 refine At.enter Try.func30 rfl 26 [(0, .slice a1 l.length c1), (1, .slice a2 m.length c2)] ([.sl a2 3 m.length (fun i_ => Split.cells (nth m Split.zero i_)), .sl a1 3 l.length (fun i_ => Split.cells (nth l Split.zero i_))]) [] (by kernel_rfl) ⟨rfl, rfl, trivial⟩ (Rep.sub (Rep.sl (Rep.sl (Rep.start w) Split.zero hs1 (by simp [Ent.mut])) Split.zero hs2 (by simp [Ent.mut])) (by simp)) ?_
 refine At.seq ?_
 refine At.runR [] [0, 1] [true, true] (.normal) ([(0, .slice a1 l.length c1), (1, .slice a2 m.length c2)]) [] [] (fun _ => by as_aux_lemma => kernel_rfl) trivial ?_
 refine Ends.seq ?_
 refine At.seq ?_
 refine At.seq ?_
 refine At.runR [] [0, 1, 10] [true, true] (.normal) ([(0, .slice a1 l.length c1), (1, .slice a2 m.length c2), (10, .bool ((l.length : Int) != (m.length : Int)))]) [] [] (fun _ => by as_aux_lemma => kernel_rfl) trivial ?_
 refine Ends.seq ?_
 refine At.cond ((l.length : Int) != (m.length : Int)) (by kernel_rfl) (fun hc1 => ?_) (fun hc1 => ?_)
 ·have h := br_t h hc1
  refine At.runR [] [4] [true, true] (.ret) ([(4, .bool false)]) [] [] (fun _ => by as_aux_lemma => kernel_rfl) trivial ?_
  refine Ends.then_ret ?_
  refine Ends.body [] (.bool false) [] (by kernel_rfl) (fun w9 hRep => ?_)
  obtain rfl := Option.some.inj h
  exact ⟨rfl, hRep.ext⟩
 ·have h := br_f h hc1
  refine At.runR [] [0, 1] [true, true] (.normal) ([(0, .slice a1 l.length c1), (1, .slice a2 m.length c2)]) [] [] (fun _ => by as_aux_lemma => kernel_rfl) trivial ?_
  refine Ends.seq ?_
  obtain ⟨o2, h, hr2⟩ := bd h
  refine At.seq_mid (σ := Unit) (fun s => o2 = (.inr ())) (fun s => []) (fun s => []) ?_ (fun s hI => ?_)
  ·refine At.seq ?_
   refine At.runR [] [0, 1, 5] [true, true] (.normal) ([(0, .slice a1 l.length c1), (1, .slice a2 m.length c2), (5, .int .i64 0)]) [] [] (fun _ => by as_aux_lemma => kernel_rfl) trivial ?_
   refine Ends.seq ?_
   refine At.block ?_
   refine At.loop (σ := Int) (fun n s => lsamep_l3 F l m n s = some o2) (fun s => [(0, .slice a1 l.length c1), (1, .slice a2 m.length c2), (5, .int .i64 s)]) (fun s => [.sl a2 3 m.length (fun i_ => Split.cells (nth m Split.zero i_)), .sl a1 3 l.length (fun i_ => Split.cells (nth l Split.zero i_))]) F (0 : Int) h (by kernel_rfl) (by kernel_rfl) (fun n s hI => ?_)
   revert hI; revert s; intro i hI
   replace hI : lsamep_l3 F l m n i = some o2 := hI
   rcases n with _ | fuel3
   ·cases hI
   ·rw [lsamep_l3] at hI
    have h := hI
    clear hI
    refine At.seq ?_
    refine At.seq ?_
    refine At.runR [] [0, 1, 5, 14] [true, true] (.normal) ([(0, .slice a1 l.length c1), (1, .slice a2 m.length c2), (5, .int .i64 i), (14, .bool (decide (i < (l.length : Int))))]) [] [] (fun _ => by as_aux_lemma => kernel_rfl) trivial ?_
    refine Ends.seq ?_
    refine At.cond (decide (i < (l.length : Int))) (by kernel_rfl) (fun hc4 => ?_) (fun hc4 => ?_)
    ·have h := br_t h hc4
     refine At.runR [] [0, 1, 5] [true, true] (.normal) ([(0, .slice a1 l.length c1), (1, .slice a2 m.length c2), (5, .int .i64 i)]) [] [] (fun _ => by as_aux_lemma => kernel_rfl) trivial ?_
     refine Ends.seq ?_
     refine At.seq ?_
     refine At.block ?_
     refine At.seq ?_
     obtain ⟨g15, h⟩ := gd h
     obtain ⟨g16, h⟩ := gd h
     refine At.runR [(1, 0, 0), (1, 0, i.toNat), (1, 1, i.toNat), (1, 2, i.toNat), (0, 0, 0), (0, 0, i.toNat), (0, 1, i.toNat), (0, 2, i.toNat)] [0, 1, 5, 25] [true, true] (.normal) ([(0, .slice a1 l.length c1), (1, .slice a2 m.length c2), (5, .int .i64 i), (25, .bool (!((((nth l Split.zero i.toNat).lot) == ((nth m Split.zero i.toNat).lot)) && ((((nth l Split.zero i.toNat).at_) == ((nth m Split.zero i.toNat).at_)) && (((nth l Split.zero i.toNat).reason) == ((nth m Split.zero i.toNat).reason))))))]) [slB a1, slO a1 + i.toNat * 3 + 0, slB a1, slO a1 + i.toNat * 3 + 1, slB a1, slO a1 + i.toNat * 3 + 2, slB a2, slO a2 + i.toNat * 3 + 0, slB a2, slO a2 + i.toNat * 3 + 1, slB a2, slO a2 + i.toNat * 3 + 2] [IdxOk a1 a1 l.length l.length i, i.toNat < l.length, i.toNat < l.length, i.toNat < l.length, IdxOk a2 a2 m.length m.length i, i.toNat < m.length, i.toNat < m.length, i.toNat < m.length] (fun _ => by as_aux_lemma => kernel_rfl) ⟨inB_idx g15, inB_lt g15, inB_lt g15, inB_lt g15, inB_idx g16, inB_lt g16, inB_lt g16, inB_lt g16, trivial⟩ ?_
     refine Ends.seq ?_
     refine At.cond (!((((nth l Split.zero i.toNat).lot) == ((nth m Split.zero i.toNat).lot)) && ((((nth l Split.zero i.toNat).at_) == ((nth m Split.zero i.toNat).at_)) && (((nth l Split.zero i.toNat).reason) == ((nth m Split.zero i.toNat).reason))))) (by kernel_rfl) (fun hc17 => ?_) (fun hc17 => ?_)
     ·have h := br_t h hc17
      refine At.runR [] [4] [true, true] (.ret) ([(4, .bool false)]) [] [] (fun _ => by as_aux_lemma => kernel_rfl) trivial ?_
      refine Ends.block_ret ?_
      refine Ends.then_ret ?_
      refine Ends.then_ret ?_
      refine Ends.block_ret ?_
      refine Ends.then_ret ?_
      obtain rfl := Option.some.inj h
      have h := hr2
      refine Ends.body [] (.bool false) [] (by kernel_rfl) (fun w9 hRep => ?_)
      obtain rfl := Option.some.inj h
      exact ⟨rfl, hRep.ext⟩
     ·have h := br_f h hc17
      refine At.runR [] [0, 1, 5] [true, true] (.normal) ([(0, .slice a1 l.length c1), (1, .slice a2 m.length c2), (5, .int .i64 i)]) [] [] (fun _ => by as_aux_lemma => kernel_rfl) trivial ?_
      refine Ends.block_normal ?_
      refine Ends.seq ?_
      refine At.runR [] [0, 1, 5] [true, true] (.normal) ([(0, .slice a1 l.length c1), (1, .slice a2 m.length c2), (5, .int .i64 (IntKind.i64.wrap (i + (1 : Int))))]) [] [] (fun _ => by as_aux_lemma => kernel_rfl) trivial ?_
      exact Ends.round fuel3 (IntKind.i64.wrap (i + (1 : Int))) (Nat.lt_succ_self _) h (by kernel_rfl) (by kernel_rfl)
    ·have h := br_f h hc4
     refine At.runR [] [] [true, true] (.exit 0) ([]) [] [] (fun _ => by as_aux_lemma => kernel_rfl) trivial ?_
     refine Ends.then_exit ?_
     refine Ends.then_exit ?_
     refine Ends.block_hit ?_
     refine Ends.sel [] [] ([]) ([]) (by kernel_rfl) (by kernel_rfl) (by kernel_rfl) ?_
     exact Ends.mid () (Option.some.inj h).symm (by kernel_rfl) (by kernel_rfl)
  ·replace hI : o2 = (.inr ()) := hI
   have h := hr2
   try rw [hI] at h
   refine At.runR [] [4] [] (.ret) ([(4, .bool true)]) [] [] (fun _ => by as_aux_lemma => kernel_rfl) trivial ?_
   refine Ends.body [] (.bool true) [] (by kernel_rfl) (fun w9 hRep => ?_)
   obtain rfl := Option.some.inj h
   exact ⟨rfl, hRep.ext⟩
def lrefutes_S (F : Nat) (p : Recipe) (d : Doubt) : Option (Bool) := ((bif decide ((p.lots.length : Int) > (10 : Int)) then (some true) else (bif (checkE p) == (0 : Int) then ((rMany_S F p).bind (fun r_74 => bif decide (r_74 > (300 : Int)) then ((lslow_S F p).bind (fun r_76 => bif r_76 then (some true) else (bif decide ((d.proof.length : Int) > (0 : Int)) then (some true) else (some (decide ((d.proof.length : Int) > (60 : Int))))))) else (some (decide ((d.proof.length : Int) > (60 : Int)))))) else (some (decide ((d.proof.length : Int) > (60 : Int))))))).bind (fun z1 => bif z1 then (some true) else ((lown_S F p).bind (fun r_ => bif lenOk (([] : List Split).length) d.proof.length then (((bif d.own then (bif lenOk (([] : List Split).length) (refuteL r_).length then (bif decide (((([] : List Split) ++ (refuteL r_)).length : Int) > (0 : Int)) then (bif ((([] : List Split) ++ (refuteL r_)).length : Int) != 0 then (bif inB ((IntKind.i64.wrap d.at_).tmod ((([] : List Split) ++ (refuteL r_)).length : Int)) ((([] : List Split) ++ (refuteL r_)).length) then ((some ((([] : List Split) ++ (refuteL r_)).set ((IntKind.i64.wrap d.at_).tmod ((([] : List Split) ++ (refuteL r_)).length : Int)).toNat (⟨IntKind.i64.wrap (((nth (([] : List Split) ++ (refuteL r_)) Split.zero ((IntKind.i64.wrap d.at_).tmod ((([] : List Split) ++ (refuteL r_)).length : Int)).toNat).lot) + d.change.lot), (nth (([] : List Split) ++ (refuteL r_)) Split.zero ((IntKind.i64.wrap d.at_).tmod ((([] : List Split) ++ (refuteL r_)).length : Int)).toNat).at_, (nth (([] : List Split) ++ (refuteL r_)) Split.zero ((IntKind.i64.wrap d.at_).tmod ((([] : List Split) ++ (refuteL r_)).length : Int)).toNat).reason⟩ : Split))).bind (fun x => bif inB ((IntKind.i64.wrap d.at_).tmod ((([] : List Split) ++ (refuteL r_)).length : Int)) x.length then ((some (x.set ((IntKind.i64.wrap d.at_).tmod ((([] : List Split) ++ (refuteL r_)).length : Int)).toNat (⟨(nth x Split.zero ((IntKind.i64.wrap d.at_).tmod ((([] : List Split) ++ (refuteL r_)).length : Int)).toNat).lot, IntKind.i64.wrap (((nth (([] : List Split) ++ (refuteL r_)) Split.zero ((IntKind.i64.wrap d.at_).tmod ((([] : List Split) ++ (refuteL r_)).length : Int)).toNat).at_) + d.change.at_), (nth x Split.zero ((IntKind.i64.wrap d.at_).tmod ((([] : List Split) ++ (refuteL r_)).length : Int)).toNat).reason⟩ : Split))).bind (fun x66 => bif inB ((IntKind.i64.wrap d.at_).tmod ((([] : List Split) ++ (refuteL r_)).length : Int)) x66.length then ((some (x66.set ((IntKind.i64.wrap d.at_).tmod ((([] : List Split) ++ (refuteL r_)).length : Int)).toNat (⟨(nth x66 Split.zero ((IntKind.i64.wrap d.at_).tmod ((([] : List Split) ++ (refuteL r_)).length : Int)).toNat).lot, (nth x66 Split.zero ((IntKind.i64.wrap d.at_).tmod ((([] : List Split) ++ (refuteL r_)).length : Int)).toNat).at_, IntKind.i64.wrap (((nth (([] : List Split) ++ (refuteL r_)) Split.zero ((IntKind.i64.wrap d.at_).tmod ((([] : List Split) ++ (refuteL r_)).length : Int)).toNat).reason) + d.change.reason)⟩ : Split))).bind (fun x69 => some x69)) else none)) else none)) else none) else none) else (some (([] : List Split) ++ (refuteL r_)))) else none) else (some (([] : List Split) ++ d.proof)))).bind (fun z10 => (lown_S F p).bind (fun r_11 => bif lenOk (([] : List Split).length) z10.length then (bif (checkE p) != (0 : Int) then (((bif (refuteE r_) == (checkE p) then (bif (checkE r_11) == (checkE p) then (bif ((refuteL r_).length : Int) == (0 : Int) then (bif !(refutesB r_11 (([] : List Split) ++ z10)) then (some true) else (some false)) else (some false)) else (some false)) else (some false))).bind (fun z18 => some z18)) else ((rMany_S F p).bind (fun r_23 => bif decide (r_23 > (20000 : Int)) then (((bif (refuteE r_) == (8 : Int) then (bif ((refuteL r_).length : Int) == (0 : Int) then (bif (checkE r_11) == (0 : Int) then (bif !(refutesB r_11 (([] : List Split) ++ z10)) then (some true) else (some false)) else (some false)) else (some false)) else (some false))).bind (fun z25 => some z25)) else ((rRefute_S F p).bind (fun r_31 => ((bif !r_31.2 then (((bif (refuteE r_) != (21 : Int) then (some true) else (some (((refuteL r_).length : Int) != (0 : Int))))).bind (fun z42 => bif z42 then (some (.inl false)) else (some (.inr ())))) else (((bif (refuteE r_) != (0 : Int) then (some true) else ((lsamep_S F (refuteL r_) r_31.1).bind (fun r_48 => some (!r_48))))).bind (fun z45 => bif z45 then (some (.inl false)) else (some (.inr ())))))).bind (onSum (fun r => some r) (fun _ => ((bif (checkE r_11) == (0 : Int) then ((rRefutes_S F p z10).bind (fun r_38 => bif (refutesB r_11 (([] : List Split) ++ z10)) == r_38 then (some true) else (some false))) else (some false))).bind (fun z35 => some z35)))))))) else none))) else none)))
set_option maxRecDepth 100000 in
set_option maxHeartbeats 4000000 in
theorem lrefutes_w (F : Nat) (p : Recipe) (d : Doubt) (a1 : Option Addr) (c1 : Nat) (a2 : Option Addr) (c2 : Nat) (w : World) (hs1 : Sl 9 Lot.cells w a1 c1 p.lots) (hs2 : Sl 3 Split.cells w a2 c2 d.proof) (v : Bool) (h : lrefutes_S F p d = some v) :
  Calls Try.prog 5 #[.agg #[.slice a1 p.lots.length c1, .int .i64 p.mass.lo, .int .i64 p.mass.hi, .int .i64 p.target.a.lo, .int .i64 p.target.a.hi, .int .i64 p.target.b.lo, .int .i64 p.target.b.hi, .int .i64 p.target.c.lo, .int .i64 p.target.c.hi], .agg #[.slice a2 d.proof.length c2, .bool d.own, .int .u8 d.at_, .int .i64 d.change.lot, .int .i64 d.change.at_, .int .i64 d.change.reason]] w (Ret (.bool v) w) := by
 rw [lrefutes_S] at h
 refine At.enter Try.func5 rfl 192 [(0, .agg (rcL a1 c1 p).toArray), (1, .agg #[.slice a2 d.proof.length c2, .bool d.own, .int .u8 d.at_, .int .i64 d.change.lot, .int .i64 d.change.at_, .int .i64 d.change.reason])] ([.sl a2 3 d.proof.length (fun i_ => Split.cells (nth d.proof Split.zero i_)), .sl a1 9 p.lots.length (fun i_ => Lot.cells (nth p.lots Lot.zero i_))]) [] (by kernel_rfl) ⟨rfl, rfl, trivial⟩ (Rep.sub (Rep.sl (Rep.sl (Rep.start w) Lot.zero hs1 (by simp [Ent.mut])) Split.zero hs2 (by simp [Ent.mut])) (by simp)) ?_
 refine At.seq ?_
 refine At.run [] [2, 3] [true, true, true, true] (.normal) (fun B3 => [(2, .pointer (some ⟨B3, 0, none⟩)), (3, .pointer (some ⟨(B3 + 1), 0, none⟩))]) (fun B3 => [.sl a2 3 d.proof.length (fun i_ => Split.cells (nth d.proof Split.zero i_)), .sl a1 9 p.lots.length (fun i_ => Lot.cells (nth p.lots Lot.zero i_)), .blk B3 (rcL a1 c1 p) 28, .blk (B3 + 1) [.slice a2 d.proof.length c2, .bool d.own, .int .u8 d.at_, .int .i64 d.change.lot, .int .i64 d.change.at_, .int .i64 d.change.reason] 57]) (fun B3 => []) (fun B3 => []) (fun B3 => by as_aux_lemma => kernel_rfl) (fun B3 => trivial) (fun B3 => ?_)
 refine Ends.seq ?_
 refine At.seq ?_
 obtain ⟨o1, h, hr1⟩ := bd h
 refine At.seq_mid (σ := Bool) (fun s => o1 = s) (fun s => [(2, .pointer (some ⟨B3, 0, none⟩)), (3, .pointer (some ⟨(B3 + 1), 0, none⟩)), (43, .bool s)]) (fun s => [.sl a2 3 d.proof.length (fun i_ => Split.cells (nth d.proof Split.zero i_)), .sl a1 9 p.lots.length (fun i_ => Lot.cells (nth p.lots Lot.zero i_)), .blk B3 (rcL a1 c1 p) 28, .blk (B3 + 1) [.slice a2 d.proof.length c2, .bool d.own, .int .u8 d.at_, .int .i64 d.change.lot, .int .i64 d.change.at_, .int .i64 d.change.reason] 57]) ?_ (fun s hI => ?_)
 ·refine At.region ?_
  refine AtL.runR 5 [(2, 0, 0)] [2, 3, 18] [true, true, true, true] ([(2, .pointer (some ⟨B3, 0, none⟩)), (3, .pointer (some ⟨(B3 + 1), 0, none⟩)), (18, .bool (decide ((p.lots.length : Int) > (10 : Int))))]) [B3, 0] [] (fun _ => by as_aux_lemma => kernel_rfl) trivial ?_
  refine AtL.bool 18 (decide ((p.lots.length : Int) > (10 : Int))) (by kernel_rfl) (fun hc72 => ?_) (fun hc72 => ?_)
  ·have h := br_t h hc72
   refine AtL.runR 25 [] [2, 3, 43] [true, true, true, true] ([(2, .pointer (some ⟨B3, 0, none⟩)), (3, .pointer (some ⟨(B3 + 1), 0, none⟩)), (43, .bool true)]) [] [] (fun _ => by as_aux_lemma => kernel_rfl) trivial ?_
   refine AtL.nil (by kernel_rfl) ?_
   exact Ends.mid true (Option.some.inj h).symm (by kernel_rfl) (by kernel_rfl)
  ·have h := br_f h hc72
   refine AtL.runR 1 [(2, 0, 0), (2, 1, 0), (2, 2, 0), (2, 3, 0), (2, 4, 0), (2, 5, 0), (2, 6, 0), (2, 7, 0), (2, 8, 0)] [2, 3, 18, 19] [true, true, true, true] ([(2, .pointer (some ⟨B3, 0, none⟩)), (3, .pointer (some ⟨(B3 + 1), 0, none⟩)), (18, .bool false), (19, .agg (rcL a1 c1 p).toArray)]) [B3, 0, B3, 1, B3, 2, B3, 3, B3, 4, B3, 5, B3, 6, B3, 7, B3, 8] [] (fun _ => by as_aux_lemma => kernel_rfl) trivial ?_
   refine AtL.call 18 #[.agg (rcL a1 c1 p).toArray] (some 20) (by kernel_rfl) _ (fun w8 hRep => refCheck_c p a1 c1 w8 (hRep.toSl 1 rfl hs1.le hs1.big)) ?_
   rintro w8 e w9 hRep ⟨rfl, hE⟩
   refine ⟨_, _, _, rfl, rfl, hRep.ext' hE, ?_⟩
   refine AtL.runR 2 [] [2, 3, 18, 22] [true, true, true, true] ([(2, .pointer (some ⟨B3, 0, none⟩)), (3, .pointer (some ⟨(B3 + 1), 0, none⟩)), (18, .bool false), (22, .bool ((checkE p) == (0 : Int)))]) [] [] (fun _ => by as_aux_lemma => kernel_rfl) trivial ?_
   refine AtL.bool 22 ((checkE p) == (0 : Int)) (by kernel_rfl) (fun hc73 => ?_) (fun hc73 => ?_)
   ·have h := br_t h hc73
    refine AtL.runR 1 [(2, 0, 0), (2, 1, 0), (2, 2, 0), (2, 3, 0), (2, 4, 0), (2, 5, 0), (2, 6, 0), (2, 7, 0), (2, 8, 0)] [2, 3, 18, 22, 23] [true, true, true, true] ([(2, .pointer (some ⟨B3, 0, none⟩)), (3, .pointer (some ⟨(B3 + 1), 0, none⟩)), (18, .bool false), (22, .bool true), (23, .agg (rcL a1 c1 p).toArray)]) [B3, 0, B3, 1, B3, 2, B3, 3, B3, 4, B3, 5, B3, 6, B3, 7, B3, 8] [] (fun _ => by as_aux_lemma => kernel_rfl) trivial ?_
    obtain ⟨r_74, hs80, h⟩ := bd h
    refine AtL.call 25 #[.agg (rcL a1 c1 p).toArray] (some 24) (by kernel_rfl) _ (fun w8 hRep => rMany_w F p a1 c1 w8 (hRep.toSl 1 rfl hs1.le hs1.big) _ hs80) ?_
    rintro w8 e w9 hRep ⟨rfl, hE⟩
    refine ⟨_, _, _, rfl, rfl, hRep.ext' hE, ?_⟩
    refine AtL.runR 3 [] [2, 3, 18, 27] [true, true, true, true] ([(2, .pointer (some ⟨B3, 0, none⟩)), (3, .pointer (some ⟨(B3 + 1), 0, none⟩)), (18, .bool false), (27, .bool (decide (r_74 > (300 : Int))))]) [] [] (fun _ => by as_aux_lemma => kernel_rfl) trivial ?_
    refine AtL.bool 27 (decide (r_74 > (300 : Int))) (by kernel_rfl) (fun hc75 => ?_) (fun hc75 => ?_)
    ·have h := br_t h hc75
     refine AtL.runR 1 [(2, 0, 0), (2, 1, 0), (2, 2, 0), (2, 3, 0), (2, 4, 0), (2, 5, 0), (2, 6, 0), (2, 7, 0), (2, 8, 0)] [2, 3, 18, 27, 28] [true, true, true, true] ([(2, .pointer (some ⟨B3, 0, none⟩)), (3, .pointer (some ⟨(B3 + 1), 0, none⟩)), (18, .bool false), (27, .bool true), (28, .agg (rcL a1 c1 p).toArray)]) [B3, 0, B3, 1, B3, 2, B3, 3, B3, 4, B3, 5, B3, 6, B3, 7, B3, 8] [] (fun _ => by as_aux_lemma => kernel_rfl) trivial ?_
     obtain ⟨r_76, hs79, h⟩ := bd h
     refine AtL.call 23 #[.agg (rcL a1 c1 p).toArray] (some 29) (by kernel_rfl) _ (fun w8 hRep => lslow_w F p a1 c1 w8 (hRep.toSl 1 rfl hs1.le hs1.big) _ hs79) ?_
     rintro w8 e w9 hRep ⟨rfl, hE⟩
     refine ⟨_, _, _, rfl, rfl, hRep.ext' hE, ?_⟩
     refine AtL.runR 1 [] [2, 3, 18, 27, 30] [true, true, true, true] ([(2, .pointer (some ⟨B3, 0, none⟩)), (3, .pointer (some ⟨(B3 + 1), 0, none⟩)), (18, .bool false), (27, .bool true), (30, .bool r_76)]) [] [] (fun _ => by as_aux_lemma => kernel_rfl) trivial ?_
     refine AtL.bool 30 (r_76) (by kernel_rfl) (fun hc77 => ?_) (fun hc77 => ?_)
     ·have h := br_t h hc77
      refine AtL.runR 13 [] [2, 3, 43] [true, true, true, true] ([(2, .pointer (some ⟨B3, 0, none⟩)), (3, .pointer (some ⟨(B3 + 1), 0, none⟩)), (43, .bool true)]) [] [] (fun _ => by as_aux_lemma => kernel_rfl) trivial ?_
      refine AtL.nil (by kernel_rfl) ?_
      exact Ends.mid true (Option.some.inj h).symm (by kernel_rfl) (by kernel_rfl)
     ·have h := br_f h hc77
      refine AtL.runR 8 [(3, 0, 0)] [2, 3, 38] [true, true, true, true] ([(2, .pointer (some ⟨B3, 0, none⟩)), (3, .pointer (some ⟨(B3 + 1), 0, none⟩)), (38, .bool (decide ((d.proof.length : Int) > (0 : Int))))]) [(B3 + 1), 0] [] (fun _ => by as_aux_lemma => kernel_rfl) trivial ?_
      refine AtL.bool 38 (decide ((d.proof.length : Int) > (0 : Int))) (by kernel_rfl) (fun hc78 => ?_) (fun hc78 => ?_)
      ·have h := br_t h hc78
       refine AtL.runR 5 [] [2, 3, 43] [true, true, true, true] ([(2, .pointer (some ⟨B3, 0, none⟩)), (3, .pointer (some ⟨(B3 + 1), 0, none⟩)), (43, .bool true)]) [] [] (fun _ => by as_aux_lemma => kernel_rfl) trivial ?_
       refine AtL.nil (by kernel_rfl) ?_
       exact Ends.mid true (Option.some.inj h).symm (by kernel_rfl) (by kernel_rfl)
      ·have h := br_f h hc78
       refine AtL.runR 5 [(3, 0, 0)] [2, 3, 43] [true, true, true, true] ([(2, .pointer (some ⟨B3, 0, none⟩)), (3, .pointer (some ⟨(B3 + 1), 0, none⟩)), (43, .bool (decide ((d.proof.length : Int) > (60 : Int))))]) [(B3 + 1), 0] [] (fun _ => by as_aux_lemma => kernel_rfl) trivial ?_
       refine AtL.nil (by kernel_rfl) ?_
       exact Ends.mid (decide ((d.proof.length : Int) > (60 : Int))) (Option.some.inj h).symm (by kernel_rfl) (by kernel_rfl)
    ·have h := br_f h hc75
     refine AtL.runR 16 [(3, 0, 0)] [2, 3, 43] [true, true, true, true] ([(2, .pointer (some ⟨B3, 0, none⟩)), (3, .pointer (some ⟨(B3 + 1), 0, none⟩)), (43, .bool (decide ((d.proof.length : Int) > (60 : Int))))]) [(B3 + 1), 0] [] (fun _ => by as_aux_lemma => kernel_rfl) trivial ?_
     refine AtL.nil (by kernel_rfl) ?_
     exact Ends.mid (decide ((d.proof.length : Int) > (60 : Int))) (Option.some.inj h).symm (by kernel_rfl) (by kernel_rfl)
   ·have h := br_f h hc73
    refine AtL.runR 21 [(3, 0, 0)] [2, 3, 43] [true, true, true, true] ([(2, .pointer (some ⟨B3, 0, none⟩)), (3, .pointer (some ⟨(B3 + 1), 0, none⟩)), (43, .bool (decide ((d.proof.length : Int) > (60 : Int))))]) [(B3 + 1), 0] [] (fun _ => by as_aux_lemma => kernel_rfl) trivial ?_
    refine AtL.nil (by kernel_rfl) ?_
    exact Ends.mid (decide ((d.proof.length : Int) > (60 : Int))) (Option.some.inj h).symm (by kernel_rfl) (by kernel_rfl)
 ·revert hI; revert s; intro t43 hI
  replace hI : o1 = t43 := hI
  have h := hr1
  try rw [hI] at h
  refine At.cond (t43) (by kernel_rfl) (fun hc2 => ?_) (fun hc2 => ?_)
  ·have h := br_t h hc2
   refine At.seq ?_
   refine At.region ?_
   refine AtL.call 12 #[] (some 44) (by kernel_rfl) _ (fun w8 hRep => known_c w8) ?_
   rintro w8 e w9 hRep ⟨rfl, hE⟩
   refine ⟨_, _, _, rfl, rfl, hRep.ext' hE, ?_⟩
   refine AtL.runR 1 [] [4] [true, true, true, true] ([(4, .bool true)]) [] [] (fun _ => by as_aux_lemma => kernel_rfl) trivial ?_
   refine AtL.nil (by kernel_rfl) ?_
   refine Ends.seq ?_
   refine At.runR [] [4] [true, true, true, true] (.ret) ([(4, .bool true)]) [] [] (fun _ => by as_aux_lemma => kernel_rfl) trivial ?_
   refine Ends.then_ret ?_
   refine Ends.body [] (.bool true) [] (by kernel_rfl) (fun w9 hRep => ?_)
   obtain rfl := Option.some.inj h
   exact ⟨rfl, hRep.ext⟩
  ·have h := br_f h hc2
   refine At.runR [] [2, 3] [true, true, true, true] (.normal) ([(2, .pointer (some ⟨B3, 0, none⟩)), (3, .pointer (some ⟨(B3 + 1), 0, none⟩))]) [] [] (fun _ => by as_aux_lemma => kernel_rfl) trivial ?_
   refine Ends.seq ?_
   refine At.seq ?_
   refine At.region ?_
   refine AtL.runR 1 [(2, 0, 0), (2, 1, 0), (2, 2, 0), (2, 3, 0), (2, 4, 0), (2, 5, 0), (2, 6, 0), (2, 7, 0), (2, 8, 0)] [2, 3, 46] [true, true, true, true] ([(2, .pointer (some ⟨B3, 0, none⟩)), (3, .pointer (some ⟨(B3 + 1), 0, none⟩)), (46, .agg (rcL a1 c1 p).toArray)]) [B3, 0, B3, 1, B3, 2, B3, 3, B3, 4, B3, 5, B3, 6, B3, 7, B3, 8] [] (fun _ => by as_aux_lemma => kernel_rfl) trivial ?_
   obtain ⟨r_, hs71, h⟩ := bd h
   refine AtL.call 13 #[.agg (rcL a1 c1 p).toArray] (some 47) (by kernel_rfl) _ (fun w8 hRep => lown_w F p a1 c1 w8 (hRep.toSl 1 rfl hs1.le hs1.big) _ hs71) ?_
   rintro w8 e w9 hRep ⟨a_, c_, rfl, hE⟩
   refine ⟨_, _, _, rfl, rfl, hRep.join hE (by simp [Ent.fresh]), ?_⟩
   refine AtL.freeze 2 B3 28 (rcL a1 c1 p) (by kernel_rfl) ?_
   refine AtL.freeze 3 (B3 + 1) 57 [.slice a2 d.proof.length c2, .bool d.own, .int .u8 d.at_, .int .i64 d.change.lot, .int .i64 d.change.at_, .int .i64 d.change.reason] (by kernel_rfl) ?_
   refine AtL.freezeOw 4 Lot.cells Lot.zero a_ c_ 43 9 r_.lots (by kernel_rfl) xlen43 (fun hf3l hf3b => ?_)
   refine AtL.fit [2, 3, 46, 47] ([(2, .pointer (some ⟨B3, 0, none⟩)), (3, .pointer (some ⟨(B3 + 1), 0, none⟩)), (46, .agg (rcL a1 c1 p).toArray), (47, .agg (rcL a_ c_ r_).toArray)]) ([.sl a2 3 d.proof.length (fun i_ => Split.cells (nth d.proof Split.zero i_)), .sl a1 9 p.lots.length (fun i_ => Lot.cells (nth p.lots Lot.zero i_)), .sl (some ⟨B3, 0, none⟩) 9 1 (fun _ => (rcL a1 c1 p)), .sl (some ⟨(B3 + 1), 0, none⟩) 6 1 (fun _ => [.slice a2 d.proof.length c2, .bool d.own, .int .u8 d.at_, .int .i64 d.change.lot, .int .i64 d.change.at_, .int .i64 d.change.reason]), .sl a_ 9 r_.lots.length (fun i_ => Lot.cells (nth r_.lots Lot.zero i_))]) (by kernel_rfl) (by kernel_rfl) ?_
   refine AtL.call 27 #[.agg (rcL a_ c_ r_).toArray] (some 48) (by kernel_rfl) _ (fun w8 hRep => refute_c r_ a_ c_ w8 (hRep.toSl 4 rfl hf3l hf3b)) ?_
   rintro w8 e w9 hRep ⟨a_5, c_6, rfl, hs4, hE⟩
   refine ⟨_, _, _, rfl, rfl, hRep.addSl hE (by simp [Ent.mut]) Split.zero hs4, ?_⟩
   refine AtL.runR 5 [] [2, 3, 5, 6] [true, true, true, true, true, true] ([(2, .pointer (some ⟨B3, 0, none⟩)), (3, .pointer (some ⟨(B3 + 1), 0, none⟩)), (5, .slice a_5 ((refuteL r_).length) c_6), (6, .int .i64 (refuteE r_))]) [] [] (fun _ => by as_aux_lemma => kernel_rfl) trivial ?_
   refine AtL.nil (by kernel_rfl) ?_
   refine Ends.seq ?_
   refine At.seq ?_
   refine At.region ?_
   refine AtL.run 3 [(3, 0, 0)] [2, 3, 5, 6, 51, 53] [true, true, true, true, false, true, true] (fun B26 => [(2, .pointer (some ⟨B3, 0, none⟩)), (3, .pointer (some ⟨(B3 + 1), 0, none⟩)), (5, .slice a_5 ((refuteL r_).length) c_6), (6, .int .i64 (refuteE r_)), (51, .slice (some ⟨B26, 0, none⟩) 0 0), (53, .slice a2 d.proof.length c2)]) (fun B26 => [.sl a2 3 d.proof.length (fun i_ => Split.cells (nth d.proof Split.zero i_)), .sl a1 9 p.lots.length (fun i_ => Lot.cells (nth p.lots Lot.zero i_)), .sl (some ⟨B3, 0, none⟩) 9 1 (fun _ => (rcL a1 c1 p)), .sl (some ⟨(B3 + 1), 0, none⟩) 6 1 (fun _ => [.slice a2 d.proof.length c2, .bool d.own, .int .u8 d.at_, .int .i64 d.change.lot, .int .i64 d.change.at_, .int .i64 d.change.reason]), .sl a_5 3 ((refuteL r_).length) (fun i_ => Split.cells (nth (refuteL r_) Split.zero i_)), .blk B26 [] 55]) (fun B26 => [(B3 + 1), 0]) (fun B26 => [0 < 1]) (fun B26 => by as_aux_lemma => kernel_rfl) (fun B26 => ⟨Nat.one_pos, trivial⟩) (fun B26 => ?_)
   refine AtL.addRow 5 B26 55 [] (by kernel_rfl) Split.cells Split.zero 3 ([] : List Split) xlen55 (by kernel_rfl) (Nat.le_of_ble_eq_true rfl) (by simp) ?_
   obtain ⟨g7, h⟩ := gd h
   refine AtL.append Split.zero xei55 xlen55 xone55 (by decide) (some 54) 5 (some ⟨B26, 0, none⟩) (([] : List Split).length) ([] : List Split) (by kernel_rfl) a2 d.proof.length c2 d.proof (by kernel_rfl) (by kernel_rfl) ((Adds.sl_ (i := 0) (d := Split.zero) (by kernel_rfl) hs2.le hs2.big)) (lenOk_le g7) (fun a_8 c_9 K9 hK9 => ?_)
   obtain rfl := Option.some.inj hK9
   refine AtL.fit [2, 3, 5, 6, 53, 54] ([(2, .pointer (some ⟨B3, 0, none⟩)), (3, .pointer (some ⟨(B3 + 1), 0, none⟩)), (5, .slice a_5 ((refuteL r_).length) c_6), (6, .int .i64 (refuteE r_)), (53, .slice a2 d.proof.length c2), (54, .slice a_8 ((([] : List Split) ++ d.proof).length) c_9)]) ([.sl a2 3 d.proof.length (fun i_ => Split.cells (nth d.proof Split.zero i_)), .sl a1 9 p.lots.length (fun i_ => Lot.cells (nth p.lots Lot.zero i_)), .sl (some ⟨B3, 0, none⟩) 9 1 (fun _ => (rcL a1 c1 p)), .sl (some ⟨(B3 + 1), 0, none⟩) 6 1 (fun _ => [.slice a2 d.proof.length c2, .bool d.own, .int .u8 d.at_, .int .i64 d.change.lot, .int .i64 d.change.at_, .int .i64 d.change.reason]), .sl a_5 3 ((refuteL r_).length) (fun i_ => Split.cells (nth (refuteL r_) Split.zero i_)), owE Split.cells Split.zero a_8 c_9 55 3 (([] : List Split) ++ d.proof)]) (by kernel_rfl) (by kernel_rfl) ?_
   refine AtL.runR 1 [] [2, 3, 5, 6, 7] [true, true, true, true, true, true] ([(2, .pointer (some ⟨B3, 0, none⟩)), (3, .pointer (some ⟨(B3 + 1), 0, none⟩)), (5, .slice a_5 ((refuteL r_).length) c_6), (6, .int .i64 (refuteE r_)), (7, .slice a_8 ((([] : List Split) ++ d.proof).length) c_9)]) [] [] (fun _ => by as_aux_lemma => kernel_rfl) trivial ?_
   refine AtL.nil (by kernel_rfl) ?_
   refine Ends.seq ?_
   obtain ⟨o10, h, hr10⟩ := bd h
   refine At.seq_mid (σ := (List Split) × (Option Addr) × Nat) (fun s => o10 = s.1) (fun s => [(2, .pointer (some ⟨B3, 0, none⟩)), (5, .slice a_5 ((refuteL r_).length) c_6), (6, .int .i64 (refuteE r_)), (7, .slice s.2.1 s.1.length s.2.2)]) (fun s => [.sl a1 9 p.lots.length (fun i_ => Lot.cells (nth p.lots Lot.zero i_)), .sl (some ⟨B3, 0, none⟩) 9 1 (fun _ => (rcL a1 c1 p)), .sl a_5 3 ((refuteL r_).length) (fun i_ => Split.cells (nth (refuteL r_) Split.zero i_)), owE Split.cells Split.zero s.2.1 s.2.2 55 3 s.1]) ?_ (fun s hI => ?_)
   ·refine At.seq ?_
    refine At.runR [(3, 1, 0)] [2, 3, 5, 6, 7, 56] [true, true, true, true, true, true] (.normal) ([(2, .pointer (some ⟨B3, 0, none⟩)), (3, .pointer (some ⟨(B3 + 1), 0, none⟩)), (5, .slice a_5 ((refuteL r_).length) c_6), (6, .int .i64 (refuteE r_)), (7, .slice a_8 ((([] : List Split) ++ d.proof).length) c_9), (56, .bool d.own)]) [(B3 + 1), 1] [0 < 1] (fun _ => by as_aux_lemma => kernel_rfl) ⟨Nat.one_pos, trivial⟩ ?_
    refine Ends.seq ?_
    refine At.cond (d.own) (by kernel_rfl) (fun hc53 => ?_) (fun hc53 => ?_)
    ·have h := br_t h hc53
     refine At.seq ?_
     refine At.region ?_
     refine AtL.run 2 [] [2, 3, 5, 6, 57, 58] [true, true, true, true, true, false, true] (fun B141 => [(2, .pointer (some ⟨B3, 0, none⟩)), (3, .pointer (some ⟨(B3 + 1), 0, none⟩)), (5, .slice a_5 ((refuteL r_).length) c_6), (6, .int .i64 (refuteE r_)), (57, .slice (some ⟨B141, 0, none⟩) 0 0), (58, .slice a_5 ((refuteL r_).length) c_6)]) (fun B141 => [.sl a2 3 d.proof.length (fun i_ => Split.cells (nth d.proof Split.zero i_)), .sl a1 9 p.lots.length (fun i_ => Lot.cells (nth p.lots Lot.zero i_)), .sl (some ⟨B3, 0, none⟩) 9 1 (fun _ => (rcL a1 c1 p)), .sl (some ⟨(B3 + 1), 0, none⟩) 6 1 (fun _ => [.slice a2 d.proof.length c2, .bool d.own, .int .u8 d.at_, .int .i64 d.change.lot, .int .i64 d.change.at_, .int .i64 d.change.reason]), .sl a_5 3 ((refuteL r_).length) (fun i_ => Split.cells (nth (refuteL r_) Split.zero i_)), .blk B141 [] 55]) (fun B141 => []) (fun B141 => []) (fun B141 => by as_aux_lemma => kernel_rfl) (fun B141 => trivial) (fun B141 => ?_)
     refine AtL.addRow 5 B141 55 [] (by kernel_rfl) Split.cells Split.zero 3 ([] : List Split) xlen55 (by kernel_rfl) (Nat.le_of_ble_eq_true rfl) (by simp) ?_
     obtain ⟨g54, h⟩ := gd h
     refine AtL.append Split.zero xei55 xlen55 xone55 (by decide) (some 59) 5 (some ⟨B141, 0, none⟩) (([] : List Split).length) ([] : List Split) (by kernel_rfl) a_5 ((refuteL r_).length) c_6 (refuteL r_) (by kernel_rfl) (by kernel_rfl) ((Adds.sl_ (i := 4) (d := Split.zero) (by kernel_rfl) hs4.le hs4.big)) (lenOk_le g54) (fun a_55 c_56 K9 hK9 => ?_)
     obtain rfl := Option.some.inj hK9
     refine AtL.fit [2, 3, 5, 6, 58, 59] ([(2, .pointer (some ⟨B3, 0, none⟩)), (3, .pointer (some ⟨(B3 + 1), 0, none⟩)), (5, .slice a_5 ((refuteL r_).length) c_6), (6, .int .i64 (refuteE r_)), (58, .slice a_5 ((refuteL r_).length) c_6), (59, .slice a_55 ((([] : List Split) ++ (refuteL r_)).length) c_56)]) ([.sl a2 3 d.proof.length (fun i_ => Split.cells (nth d.proof Split.zero i_)), .sl a1 9 p.lots.length (fun i_ => Lot.cells (nth p.lots Lot.zero i_)), .sl (some ⟨B3, 0, none⟩) 9 1 (fun _ => (rcL a1 c1 p)), .sl (some ⟨(B3 + 1), 0, none⟩) 6 1 (fun _ => [.slice a2 d.proof.length c2, .bool d.own, .int .u8 d.at_, .int .i64 d.change.lot, .int .i64 d.change.at_, .int .i64 d.change.reason]), .sl a_5 3 ((refuteL r_).length) (fun i_ => Split.cells (nth (refuteL r_) Split.zero i_)), owE Split.cells Split.zero a_55 c_56 55 3 (([] : List Split) ++ (refuteL r_))]) (by kernel_rfl) (by kernel_rfl) ?_
     refine AtL.runR 1 [] [2, 3, 5, 6, 7] [true, true, true, true, true, true] ([(2, .pointer (some ⟨B3, 0, none⟩)), (3, .pointer (some ⟨(B3 + 1), 0, none⟩)), (5, .slice a_5 ((refuteL r_).length) c_6), (6, .int .i64 (refuteE r_)), (7, .slice a_55 ((([] : List Split) ++ (refuteL r_)).length) c_56)]) [] [] (fun _ => by as_aux_lemma => kernel_rfl) trivial ?_
     refine AtL.nil (by kernel_rfl) ?_
     refine Ends.seq ?_
     refine At.seq ?_
     refine At.runR [] [2, 3, 5, 6, 7, 62] [true, true, true, true, true, true] (.normal) ([(2, .pointer (some ⟨B3, 0, none⟩)), (3, .pointer (some ⟨(B3 + 1), 0, none⟩)), (5, .slice a_5 ((refuteL r_).length) c_6), (6, .int .i64 (refuteE r_)), (7, .slice a_55 ((([] : List Split) ++ (refuteL r_)).length) c_56), (62, .bool (decide (((([] : List Split) ++ (refuteL r_)).length : Int) > (0 : Int))))]) [] [] (fun _ => by as_aux_lemma => kernel_rfl) trivial ?_
     refine Ends.seq ?_
     refine At.cond (decide (((([] : List Split) ++ (refuteL r_)).length : Int) > (0 : Int))) (by kernel_rfl) (fun hc57 => ?_) (fun hc57 => ?_)
     ·have h := br_t h hc57
      refine At.seq ?_
      obtain ⟨g62, h⟩ := gd h
      obtain ⟨g63, h⟩ := gd h
      refine At.runR [(3, 2, 0), (5, 0, 0)] [2, 3, 5, 6, 7, 8] [true, true, true, true, true, true] (.normal) ([(2, .pointer (some ⟨B3, 0, none⟩)), (3, .pointer (some ⟨(B3 + 1), 0, none⟩)), (5, .slice a_5 ((refuteL r_).length) c_6), (6, .int .i64 (refuteE r_)), (7, .slice a_55 ((([] : List Split) ++ (refuteL r_)).length) c_56), (8, .pointer (some ⟨slB a_55, slO a_55 + ((IntKind.i64.wrap d.at_).tmod ((([] : List Split) ++ (refuteL r_)).length : Int)).toNat * 3, none⟩))]) [(B3 + 1), 2] [0 < 1, ((([] : List Split) ++ (refuteL r_)).length : Int) ≠ 0, IdxOk a_55 a_55 ((([] : List Split) ++ (refuteL r_)).length) ((([] : List Split) ++ (refuteL r_)).length) ((IntKind.i64.wrap d.at_).tmod ((([] : List Split) ++ (refuteL r_)).length : Int))] (fun _ => by as_aux_lemma => kernel_rfl) ⟨Nat.one_pos, bne_ne g62, inB_idx g63, trivial⟩ ?_
      refine Ends.seq ?_
      refine At.plan2 ([.sl a2 3 d.proof.length (fun i_ => Split.cells (nth d.proof Split.zero i_)), .sl a1 9 p.lots.length (fun i_ => Lot.cells (nth p.lots Lot.zero i_)), .sl (some ⟨B3, 0, none⟩) 9 1 (fun _ => (rcL a1 c1 p)), .sl (some ⟨(B3 + 1), 0, none⟩) 6 1 (fun _ => [.slice a2 d.proof.length c2, .bool d.own, .int .u8 d.at_, .int .i64 d.change.lot, .int .i64 d.change.at_, .int .i64 d.change.reason]), .sl a_5 3 ((refuteL r_).length) (fun i_ => Split.cells (nth (refuteL r_) Split.zero i_)), owE Split.cells Split.zero a_55 c_56 55 3 (([] : List Split) ++ (refuteL r_))]) [0, 1, 2, 3, 4, 5] (by kernel_rfl) (by kernel_rfl) ([.sl a2 3 d.proof.length (fun i_ => Split.cells (nth d.proof Split.zero i_)), .sl a1 9 p.lots.length (fun i_ => Lot.cells (nth p.lots Lot.zero i_)), .sl (some ⟨B3, 0, none⟩) 9 1 (fun _ => (rcL a1 c1 p)), .sl (some ⟨(B3 + 1), 0, none⟩) 6 1 (fun _ => [.slice a2 d.proof.length c2, .bool d.own, .int .u8 d.at_, .int .i64 d.change.lot, .int .i64 d.change.at_, .int .i64 d.change.reason]), .sl a_5 3 ((refuteL r_).length) (fun i_ => Split.cells (nth (refuteL r_) Split.zero i_))]) [0, 1, 2, 3, 4] (by kernel_rfl) (by kernel_rfl) [.pu [0, 1, 2, 3, 4, 5, 7, 8, 11, 12, 13, 15, 16, 19, 20, 21, 23, 24], .st [6], .wk [9], .st [14], .wk [17], .st [22], .wk [25], .pu [10, 18, 26, 27, 28], .tm 29, .pu [30, 31], .tm 32, .pu [33, 34], .tm 35] (by kernel_rfl) (by kernel_rfl) ?_
      refine AtQ.pu ?_
      refine AtY.runp 18 [2, 5, 6, 7, 71, 72, 73, 76, 79, 84, 87, 92, 95] ([(2, .pointer (some ⟨B3, 0, none⟩)), (5, .slice a_5 ((refuteL r_).length) c_6), (6, .int .i64 (refuteE r_)), (7, .slice a_55 ((([] : List Split) ++ (refuteL r_)).length) c_56), (71, .pointer (some ⟨slB a_55, slO a_55 + ((IntKind.i64.wrap d.at_).tmod ((([] : List Split) ++ (refuteL r_)).length : Int)).toNat * 3, none⟩)), (72, .pointer (some ⟨slB a_55, slO a_55 + ((IntKind.i64.wrap d.at_).tmod ((([] : List Split) ++ (refuteL r_)).length : Int)).toNat * 3, none⟩)), (73, .pointer (some ⟨slB a_55, slO a_55 + ((IntKind.i64.wrap d.at_).tmod ((([] : List Split) ++ (refuteL r_)).length : Int)).toNat * 3, none⟩)), (76, .pointer (some ⟨slB a_55, slO a_55 + ((IntKind.i64.wrap d.at_).tmod ((([] : List Split) ++ (refuteL r_)).length : Int)).toNat * 3, none⟩)), (79, .pointer (some ⟨(B3 + 1), 3, none⟩)), (84, .pointer (some ⟨slB a_55, slO a_55 + ((IntKind.i64.wrap d.at_).tmod ((([] : List Split) ++ (refuteL r_)).length : Int)).toNat * 3 + 1, none⟩)), (87, .pointer (some ⟨(B3 + 1), 4, none⟩)), (92, .pointer (some ⟨slB a_55, slO a_55 + ((IntKind.i64.wrap d.at_).tmod ((([] : List Split) ++ (refuteL r_)).length : Int)).toNat * 3 + 2, none⟩)), (95, .pointer (some ⟨(B3 + 1), 5, none⟩))]) [] (by as_aux_lemma => kernel_rfl) trivial ?_
      refine AtY.nilq (by kernel_rfl) ?_
      refine AtQ.st ?_
      refine AtY.run 1 [(5, 0, ((IntKind.i64.wrap d.at_).tmod ((([] : List Split) ++ (refuteL r_)).length : Int)).toNat)] [2, 5, 6, 7, 71, 72, 73, 77, 79, 84, 87, 92, 95] ([(2, .pointer (some ⟨B3, 0, none⟩)), (5, .slice a_5 ((refuteL r_).length) c_6), (6, .int .i64 (refuteE r_)), (7, .slice a_55 ((([] : List Split) ++ (refuteL r_)).length) c_56), (71, .pointer (some ⟨slB a_55, slO a_55 + ((IntKind.i64.wrap d.at_).tmod ((([] : List Split) ++ (refuteL r_)).length : Int)).toNat * 3, none⟩)), (72, .pointer (some ⟨slB a_55, slO a_55 + ((IntKind.i64.wrap d.at_).tmod ((([] : List Split) ++ (refuteL r_)).length : Int)).toNat * 3, none⟩)), (73, .pointer (some ⟨slB a_55, slO a_55 + ((IntKind.i64.wrap d.at_).tmod ((([] : List Split) ++ (refuteL r_)).length : Int)).toNat * 3, none⟩)), (77, .int .i64 ((nth (([] : List Split) ++ (refuteL r_)) Split.zero ((IntKind.i64.wrap d.at_).tmod ((([] : List Split) ++ (refuteL r_)).length : Int)).toNat).lot)), (79, .pointer (some ⟨(B3 + 1), 3, none⟩)), (84, .pointer (some ⟨slB a_55, slO a_55 + ((IntKind.i64.wrap d.at_).tmod ((([] : List Split) ++ (refuteL r_)).length : Int)).toNat * 3 + 1, none⟩)), (87, .pointer (some ⟨(B3 + 1), 4, none⟩)), (92, .pointer (some ⟨slB a_55, slO a_55 + ((IntKind.i64.wrap d.at_).tmod ((([] : List Split) ++ (refuteL r_)).length : Int)).toNat * 3 + 2, none⟩)), (95, .pointer (some ⟨(B3 + 1), 5, none⟩))]) [slB a_55, slO a_55 + ((IntKind.i64.wrap d.at_).tmod ((([] : List Split) ++ (refuteL r_)).length : Int)).toNat * 3 + 0] [((IntKind.i64.wrap d.at_).tmod ((([] : List Split) ++ (refuteL r_)).length : Int)).toNat < (([] : List Split) ++ (refuteL r_)).length] (by as_aux_lemma => kernel_rfl) ⟨inB_lt g63, trivial⟩ ?_
      refine AtY.nilq (by kernel_rfl) ?_
      refine AtQ.wk ?_
      refine AtY.run 1 [(3, 3, 0)] [2, 5, 6, 7, 71, 72, 73, 77, 80, 84, 87, 92, 95] ([(2, .pointer (some ⟨B3, 0, none⟩)), (5, .slice a_5 ((refuteL r_).length) c_6), (6, .int .i64 (refuteE r_)), (7, .slice a_55 ((([] : List Split) ++ (refuteL r_)).length) c_56), (71, .pointer (some ⟨slB a_55, slO a_55 + ((IntKind.i64.wrap d.at_).tmod ((([] : List Split) ++ (refuteL r_)).length : Int)).toNat * 3, none⟩)), (72, .pointer (some ⟨slB a_55, slO a_55 + ((IntKind.i64.wrap d.at_).tmod ((([] : List Split) ++ (refuteL r_)).length : Int)).toNat * 3, none⟩)), (73, .pointer (some ⟨slB a_55, slO a_55 + ((IntKind.i64.wrap d.at_).tmod ((([] : List Split) ++ (refuteL r_)).length : Int)).toNat * 3, none⟩)), (77, .int .i64 ((nth (([] : List Split) ++ (refuteL r_)) Split.zero ((IntKind.i64.wrap d.at_).tmod ((([] : List Split) ++ (refuteL r_)).length : Int)).toNat).lot)), (80, .int .i64 d.change.lot), (84, .pointer (some ⟨slB a_55, slO a_55 + ((IntKind.i64.wrap d.at_).tmod ((([] : List Split) ++ (refuteL r_)).length : Int)).toNat * 3 + 1, none⟩)), (87, .pointer (some ⟨(B3 + 1), 4, none⟩)), (92, .pointer (some ⟨slB a_55, slO a_55 + ((IntKind.i64.wrap d.at_).tmod ((([] : List Split) ++ (refuteL r_)).length : Int)).toNat * 3 + 2, none⟩)), (95, .pointer (some ⟨(B3 + 1), 5, none⟩))]) [(B3 + 1), 3] [0 < 1] (by as_aux_lemma => kernel_rfl) ⟨Nat.one_pos, trivial⟩ ?_
      refine AtY.nilq (by kernel_rfl) ?_
      refine AtQ.st ?_
      refine AtY.run 1 [(5, 1, ((IntKind.i64.wrap d.at_).tmod ((([] : List Split) ++ (refuteL r_)).length : Int)).toNat)] [2, 5, 6, 7, 71, 72, 73, 77, 80, 85, 87, 92, 95] ([(2, .pointer (some ⟨B3, 0, none⟩)), (5, .slice a_5 ((refuteL r_).length) c_6), (6, .int .i64 (refuteE r_)), (7, .slice a_55 ((([] : List Split) ++ (refuteL r_)).length) c_56), (71, .pointer (some ⟨slB a_55, slO a_55 + ((IntKind.i64.wrap d.at_).tmod ((([] : List Split) ++ (refuteL r_)).length : Int)).toNat * 3, none⟩)), (72, .pointer (some ⟨slB a_55, slO a_55 + ((IntKind.i64.wrap d.at_).tmod ((([] : List Split) ++ (refuteL r_)).length : Int)).toNat * 3, none⟩)), (73, .pointer (some ⟨slB a_55, slO a_55 + ((IntKind.i64.wrap d.at_).tmod ((([] : List Split) ++ (refuteL r_)).length : Int)).toNat * 3, none⟩)), (77, .int .i64 ((nth (([] : List Split) ++ (refuteL r_)) Split.zero ((IntKind.i64.wrap d.at_).tmod ((([] : List Split) ++ (refuteL r_)).length : Int)).toNat).lot)), (80, .int .i64 d.change.lot), (85, .int .i64 ((nth (([] : List Split) ++ (refuteL r_)) Split.zero ((IntKind.i64.wrap d.at_).tmod ((([] : List Split) ++ (refuteL r_)).length : Int)).toNat).at_)), (87, .pointer (some ⟨(B3 + 1), 4, none⟩)), (92, .pointer (some ⟨slB a_55, slO a_55 + ((IntKind.i64.wrap d.at_).tmod ((([] : List Split) ++ (refuteL r_)).length : Int)).toNat * 3 + 2, none⟩)), (95, .pointer (some ⟨(B3 + 1), 5, none⟩))]) [slB a_55, slO a_55 + ((IntKind.i64.wrap d.at_).tmod ((([] : List Split) ++ (refuteL r_)).length : Int)).toNat * 3 + 1] [((IntKind.i64.wrap d.at_).tmod ((([] : List Split) ++ (refuteL r_)).length : Int)).toNat < (([] : List Split) ++ (refuteL r_)).length] (by as_aux_lemma => kernel_rfl) ⟨inB_lt g63, trivial⟩ ?_
      refine AtY.nilq (by kernel_rfl) ?_
      refine AtQ.wk ?_
      refine AtY.run 1 [(3, 4, 0)] [2, 5, 6, 7, 71, 72, 73, 77, 80, 85, 88, 92, 95] ([(2, .pointer (some ⟨B3, 0, none⟩)), (5, .slice a_5 ((refuteL r_).length) c_6), (6, .int .i64 (refuteE r_)), (7, .slice a_55 ((([] : List Split) ++ (refuteL r_)).length) c_56), (71, .pointer (some ⟨slB a_55, slO a_55 + ((IntKind.i64.wrap d.at_).tmod ((([] : List Split) ++ (refuteL r_)).length : Int)).toNat * 3, none⟩)), (72, .pointer (some ⟨slB a_55, slO a_55 + ((IntKind.i64.wrap d.at_).tmod ((([] : List Split) ++ (refuteL r_)).length : Int)).toNat * 3, none⟩)), (73, .pointer (some ⟨slB a_55, slO a_55 + ((IntKind.i64.wrap d.at_).tmod ((([] : List Split) ++ (refuteL r_)).length : Int)).toNat * 3, none⟩)), (77, .int .i64 ((nth (([] : List Split) ++ (refuteL r_)) Split.zero ((IntKind.i64.wrap d.at_).tmod ((([] : List Split) ++ (refuteL r_)).length : Int)).toNat).lot)), (80, .int .i64 d.change.lot), (85, .int .i64 ((nth (([] : List Split) ++ (refuteL r_)) Split.zero ((IntKind.i64.wrap d.at_).tmod ((([] : List Split) ++ (refuteL r_)).length : Int)).toNat).at_)), (88, .int .i64 d.change.at_), (92, .pointer (some ⟨slB a_55, slO a_55 + ((IntKind.i64.wrap d.at_).tmod ((([] : List Split) ++ (refuteL r_)).length : Int)).toNat * 3 + 2, none⟩)), (95, .pointer (some ⟨(B3 + 1), 5, none⟩))]) [(B3 + 1), 4] [0 < 1] (by as_aux_lemma => kernel_rfl) ⟨Nat.one_pos, trivial⟩ ?_
      refine AtY.nilq (by kernel_rfl) ?_
      refine AtQ.st ?_
      refine AtY.run 1 [(5, 2, ((IntKind.i64.wrap d.at_).tmod ((([] : List Split) ++ (refuteL r_)).length : Int)).toNat)] [2, 5, 6, 7, 71, 72, 73, 77, 80, 85, 88, 93, 95] ([(2, .pointer (some ⟨B3, 0, none⟩)), (5, .slice a_5 ((refuteL r_).length) c_6), (6, .int .i64 (refuteE r_)), (7, .slice a_55 ((([] : List Split) ++ (refuteL r_)).length) c_56), (71, .pointer (some ⟨slB a_55, slO a_55 + ((IntKind.i64.wrap d.at_).tmod ((([] : List Split) ++ (refuteL r_)).length : Int)).toNat * 3, none⟩)), (72, .pointer (some ⟨slB a_55, slO a_55 + ((IntKind.i64.wrap d.at_).tmod ((([] : List Split) ++ (refuteL r_)).length : Int)).toNat * 3, none⟩)), (73, .pointer (some ⟨slB a_55, slO a_55 + ((IntKind.i64.wrap d.at_).tmod ((([] : List Split) ++ (refuteL r_)).length : Int)).toNat * 3, none⟩)), (77, .int .i64 ((nth (([] : List Split) ++ (refuteL r_)) Split.zero ((IntKind.i64.wrap d.at_).tmod ((([] : List Split) ++ (refuteL r_)).length : Int)).toNat).lot)), (80, .int .i64 d.change.lot), (85, .int .i64 ((nth (([] : List Split) ++ (refuteL r_)) Split.zero ((IntKind.i64.wrap d.at_).tmod ((([] : List Split) ++ (refuteL r_)).length : Int)).toNat).at_)), (88, .int .i64 d.change.at_), (93, .int .i64 ((nth (([] : List Split) ++ (refuteL r_)) Split.zero ((IntKind.i64.wrap d.at_).tmod ((([] : List Split) ++ (refuteL r_)).length : Int)).toNat).reason)), (95, .pointer (some ⟨(B3 + 1), 5, none⟩))]) [slB a_55, slO a_55 + ((IntKind.i64.wrap d.at_).tmod ((([] : List Split) ++ (refuteL r_)).length : Int)).toNat * 3 + 2] [((IntKind.i64.wrap d.at_).tmod ((([] : List Split) ++ (refuteL r_)).length : Int)).toNat < (([] : List Split) ++ (refuteL r_)).length] (by as_aux_lemma => kernel_rfl) ⟨inB_lt g63, trivial⟩ ?_
      refine AtY.nilq (by kernel_rfl) ?_
      refine AtQ.wk ?_
      refine AtY.run 1 [(3, 5, 0)] [2, 5, 6, 7, 71, 72, 73, 77, 80, 85, 88, 93, 96] ([(2, .pointer (some ⟨B3, 0, none⟩)), (5, .slice a_5 ((refuteL r_).length) c_6), (6, .int .i64 (refuteE r_)), (7, .slice a_55 ((([] : List Split) ++ (refuteL r_)).length) c_56), (71, .pointer (some ⟨slB a_55, slO a_55 + ((IntKind.i64.wrap d.at_).tmod ((([] : List Split) ++ (refuteL r_)).length : Int)).toNat * 3, none⟩)), (72, .pointer (some ⟨slB a_55, slO a_55 + ((IntKind.i64.wrap d.at_).tmod ((([] : List Split) ++ (refuteL r_)).length : Int)).toNat * 3, none⟩)), (73, .pointer (some ⟨slB a_55, slO a_55 + ((IntKind.i64.wrap d.at_).tmod ((([] : List Split) ++ (refuteL r_)).length : Int)).toNat * 3, none⟩)), (77, .int .i64 ((nth (([] : List Split) ++ (refuteL r_)) Split.zero ((IntKind.i64.wrap d.at_).tmod ((([] : List Split) ++ (refuteL r_)).length : Int)).toNat).lot)), (80, .int .i64 d.change.lot), (85, .int .i64 ((nth (([] : List Split) ++ (refuteL r_)) Split.zero ((IntKind.i64.wrap d.at_).tmod ((([] : List Split) ++ (refuteL r_)).length : Int)).toNat).at_)), (88, .int .i64 d.change.at_), (93, .int .i64 ((nth (([] : List Split) ++ (refuteL r_)) Split.zero ((IntKind.i64.wrap d.at_).tmod ((([] : List Split) ++ (refuteL r_)).length : Int)).toNat).reason)), (96, .int .i64 d.change.reason)]) [(B3 + 1), 5] [0 < 1] (by as_aux_lemma => kernel_rfl) ⟨Nat.one_pos, trivial⟩ ?_
      refine AtY.nilq (by kernel_rfl) ?_
      refine AtQ.pu ?_
      refine AtY.runp 5 [2, 5, 6, 7, 72, 73, 81, 89, 97, 99] ([(2, .pointer (some ⟨B3, 0, none⟩)), (5, .slice a_5 ((refuteL r_).length) c_6), (6, .int .i64 (refuteE r_)), (7, .slice a_55 ((([] : List Split) ++ (refuteL r_)).length) c_56), (72, .pointer (some ⟨slB a_55, slO a_55 + ((IntKind.i64.wrap d.at_).tmod ((([] : List Split) ++ (refuteL r_)).length : Int)).toNat * 3, none⟩)), (73, .pointer (some ⟨slB a_55, slO a_55 + ((IntKind.i64.wrap d.at_).tmod ((([] : List Split) ++ (refuteL r_)).length : Int)).toNat * 3, none⟩)), (81, .int .i64 (IntKind.i64.wrap (((nth (([] : List Split) ++ (refuteL r_)) Split.zero ((IntKind.i64.wrap d.at_).tmod ((([] : List Split) ++ (refuteL r_)).length : Int)).toNat).lot) + d.change.lot))), (89, .int .i64 (IntKind.i64.wrap (((nth (([] : List Split) ++ (refuteL r_)) Split.zero ((IntKind.i64.wrap d.at_).tmod ((([] : List Split) ++ (refuteL r_)).length : Int)).toNat).at_) + d.change.at_))), (97, .int .i64 (IntKind.i64.wrap (((nth (([] : List Split) ++ (refuteL r_)) Split.zero ((IntKind.i64.wrap d.at_).tmod ((([] : List Split) ++ (refuteL r_)).length : Int)).toNat).reason) + d.change.reason))), (99, .pointer (some ⟨slB a_55, slO a_55 + ((IntKind.i64.wrap d.at_).tmod ((([] : List Split) ++ (refuteL r_)).length : Int)).toNat * 3, none⟩))]) [] (by as_aux_lemma => kernel_rfl) trivial ?_
      refine AtY.nilq (by kernel_rfl) ?_
      refine AtQ.tm ?_
      obtain ⟨x, hz64, h⟩ := bd h
      replace hz64 := Option.some.inj hz64
      refine AtL.storeOw 5 Split.zero a_55 c_56 55 3 (([] : List Split) ++ (refuteL r_)) (by kernel_rfl) xlen55 (((IntKind.i64.wrap d.at_).tmod ((([] : List Split) ++ (refuteL r_)).length : Int)).toNat) (inB_lt g63) 0 (by decide) (⟨IntKind.i64.wrap (((nth (([] : List Split) ++ (refuteL r_)) Split.zero ((IntKind.i64.wrap d.at_).tmod ((([] : List Split) ++ (refuteL r_)).length : Int)).toNat).lot) + d.change.lot), (nth (([] : List Split) ++ (refuteL r_)) Split.zero ((IntKind.i64.wrap d.at_).tmod ((([] : List Split) ++ (refuteL r_)).length : Int)).toNat).at_, (nth (([] : List Split) ++ (refuteL r_)) Split.zero ((IntKind.i64.wrap d.at_).tmod ((([] : List Split) ++ (refuteL r_)).length : Int)).toNat).reason⟩ : Split) (.int .i64 (IntKind.i64.wrap (((nth (([] : List Split) ++ (refuteL r_)) Split.zero ((IntKind.i64.wrap d.at_).tmod ((([] : List Split) ++ (refuteL r_)).length : Int)).toNat).lot) + d.change.lot))) (by kernel_rfl) ⟨slB a_55, slO a_55 + ((IntKind.i64.wrap d.at_).tmod ((([] : List Split) ++ (refuteL r_)).length : Int)).toNat * 3, none⟩ (by kernel_rfl) (by kernel_rfl) ?_
      refine AtL.fit2 ([(2, .pointer (some ⟨B3, 0, none⟩)), (5, .slice a_5 ((refuteL r_).length) c_6), (6, .int .i64 (refuteE r_)), (7, .slice a_55 x.length c_56), (72, .pointer (some ⟨slB a_55, slO a_55 + ((IntKind.i64.wrap d.at_).tmod ((([] : List Split) ++ (refuteL r_)).length : Int)).toNat * 3, none⟩)), (73, .pointer (some ⟨slB a_55, slO a_55 + ((IntKind.i64.wrap d.at_).tmod ((([] : List Split) ++ (refuteL r_)).length : Int)).toNat * 3, none⟩)), (81, .int .i64 (IntKind.i64.wrap (((nth (([] : List Split) ++ (refuteL r_)) Split.zero ((IntKind.i64.wrap d.at_).tmod ((([] : List Split) ++ (refuteL r_)).length : Int)).toNat).lot) + d.change.lot))), (89, .int .i64 (IntKind.i64.wrap (((nth (([] : List Split) ++ (refuteL r_)) Split.zero ((IntKind.i64.wrap d.at_).tmod ((([] : List Split) ++ (refuteL r_)).length : Int)).toNat).at_) + d.change.at_))), (97, .int .i64 (IntKind.i64.wrap (((nth (([] : List Split) ++ (refuteL r_)) Split.zero ((IntKind.i64.wrap d.at_).tmod ((([] : List Split) ++ (refuteL r_)).length : Int)).toNat).reason) + d.change.reason))), (99, .pointer (some ⟨slB a_55, slO a_55 + ((IntKind.i64.wrap d.at_).tmod ((([] : List Split) ++ (refuteL r_)).length : Int)).toNat * 3, none⟩))]) ([.sl a2 3 d.proof.length (fun i_ => Split.cells (nth d.proof Split.zero i_)), .sl a1 9 p.lots.length (fun i_ => Lot.cells (nth p.lots Lot.zero i_)), .sl (some ⟨B3, 0, none⟩) 9 1 (fun _ => (rcL a1 c1 p)), .sl (some ⟨(B3 + 1), 0, none⟩) 6 1 (fun _ => [.slice a2 d.proof.length c2, .bool d.own, .int .u8 d.at_, .int .i64 d.change.lot, .int .i64 d.change.at_, .int .i64 d.change.reason]), .sl a_5 3 ((refuteL r_).length) (fun i_ => Split.cells (nth (refuteL r_) Split.zero i_)), owE Split.cells Split.zero a_55 c_56 55 3 x]) (by subst hz64; simp only [List.length_set]) (by subst hz64; kernel_rfl) ?_
      refine AtL.nil (by kernel_rfl) ?_
      refine Ends.qtm [0, 1, 2, 3, 4] (by kernel_rfl) (by kernel_rfl) ?_
      refine AtQ.pu ?_
      refine AtY.runp 2 [2, 5, 6, 7, 73, 89, 97, 101] ([(2, .pointer (some ⟨B3, 0, none⟩)), (5, .slice a_5 ((refuteL r_).length) c_6), (6, .int .i64 (refuteE r_)), (7, .slice a_55 x.length c_56), (73, .pointer (some ⟨slB a_55, slO a_55 + ((IntKind.i64.wrap d.at_).tmod ((([] : List Split) ++ (refuteL r_)).length : Int)).toNat * 3, none⟩)), (89, .int .i64 (IntKind.i64.wrap (((nth (([] : List Split) ++ (refuteL r_)) Split.zero ((IntKind.i64.wrap d.at_).tmod ((([] : List Split) ++ (refuteL r_)).length : Int)).toNat).at_) + d.change.at_))), (97, .int .i64 (IntKind.i64.wrap (((nth (([] : List Split) ++ (refuteL r_)) Split.zero ((IntKind.i64.wrap d.at_).tmod ((([] : List Split) ++ (refuteL r_)).length : Int)).toNat).reason) + d.change.reason))), (101, .pointer (some ⟨slB a_55, slO a_55 + ((IntKind.i64.wrap d.at_).tmod ((([] : List Split) ++ (refuteL r_)).length : Int)).toNat * 3 + 1, none⟩))]) [] (by as_aux_lemma => kernel_rfl) trivial ?_
      refine AtY.nilq (by kernel_rfl) ?_
      refine AtQ.tm ?_
      obtain ⟨g65, h⟩ := gd h
      obtain ⟨x66, hz67, h⟩ := bd h
      replace hz67 := Option.some.inj hz67
      refine AtL.storeOw 5 Split.zero a_55 c_56 55 3 x (by kernel_rfl) xlen55 (((IntKind.i64.wrap d.at_).tmod ((([] : List Split) ++ (refuteL r_)).length : Int)).toNat) (inB_lt g65) 1 (by decide) (⟨(nth x Split.zero ((IntKind.i64.wrap d.at_).tmod ((([] : List Split) ++ (refuteL r_)).length : Int)).toNat).lot, IntKind.i64.wrap (((nth (([] : List Split) ++ (refuteL r_)) Split.zero ((IntKind.i64.wrap d.at_).tmod ((([] : List Split) ++ (refuteL r_)).length : Int)).toNat).at_) + d.change.at_), (nth x Split.zero ((IntKind.i64.wrap d.at_).tmod ((([] : List Split) ++ (refuteL r_)).length : Int)).toNat).reason⟩ : Split) (.int .i64 (IntKind.i64.wrap (((nth (([] : List Split) ++ (refuteL r_)) Split.zero ((IntKind.i64.wrap d.at_).tmod ((([] : List Split) ++ (refuteL r_)).length : Int)).toNat).at_) + d.change.at_))) (by kernel_rfl) ⟨slB a_55, slO a_55 + ((IntKind.i64.wrap d.at_).tmod ((([] : List Split) ++ (refuteL r_)).length : Int)).toNat * 3 + 1, none⟩ (by kernel_rfl) (by kernel_rfl) ?_
      refine AtL.fit2 ([(2, .pointer (some ⟨B3, 0, none⟩)), (5, .slice a_5 ((refuteL r_).length) c_6), (6, .int .i64 (refuteE r_)), (7, .slice a_55 x66.length c_56), (73, .pointer (some ⟨slB a_55, slO a_55 + ((IntKind.i64.wrap d.at_).tmod ((([] : List Split) ++ (refuteL r_)).length : Int)).toNat * 3, none⟩)), (89, .int .i64 (IntKind.i64.wrap (((nth (([] : List Split) ++ (refuteL r_)) Split.zero ((IntKind.i64.wrap d.at_).tmod ((([] : List Split) ++ (refuteL r_)).length : Int)).toNat).at_) + d.change.at_))), (97, .int .i64 (IntKind.i64.wrap (((nth (([] : List Split) ++ (refuteL r_)) Split.zero ((IntKind.i64.wrap d.at_).tmod ((([] : List Split) ++ (refuteL r_)).length : Int)).toNat).reason) + d.change.reason))), (101, .pointer (some ⟨slB a_55, slO a_55 + ((IntKind.i64.wrap d.at_).tmod ((([] : List Split) ++ (refuteL r_)).length : Int)).toNat * 3 + 1, none⟩))]) ([.sl a2 3 d.proof.length (fun i_ => Split.cells (nth d.proof Split.zero i_)), .sl a1 9 p.lots.length (fun i_ => Lot.cells (nth p.lots Lot.zero i_)), .sl (some ⟨B3, 0, none⟩) 9 1 (fun _ => (rcL a1 c1 p)), .sl (some ⟨(B3 + 1), 0, none⟩) 6 1 (fun _ => [.slice a2 d.proof.length c2, .bool d.own, .int .u8 d.at_, .int .i64 d.change.lot, .int .i64 d.change.at_, .int .i64 d.change.reason]), .sl a_5 3 ((refuteL r_).length) (fun i_ => Split.cells (nth (refuteL r_) Split.zero i_)), owE Split.cells Split.zero a_55 c_56 55 3 x66]) (by subst hz67; simp only [List.length_set]) (by subst hz67; kernel_rfl) ?_
      refine AtL.nil (by kernel_rfl) ?_
      refine Ends.qtm [0, 1, 2, 3, 4] (by kernel_rfl) (by kernel_rfl) ?_
      refine AtQ.pu ?_
      refine AtY.runp 2 [2, 5, 6, 7, 97, 103] ([(2, .pointer (some ⟨B3, 0, none⟩)), (5, .slice a_5 ((refuteL r_).length) c_6), (6, .int .i64 (refuteE r_)), (7, .slice a_55 x66.length c_56), (97, .int .i64 (IntKind.i64.wrap (((nth (([] : List Split) ++ (refuteL r_)) Split.zero ((IntKind.i64.wrap d.at_).tmod ((([] : List Split) ++ (refuteL r_)).length : Int)).toNat).reason) + d.change.reason))), (103, .pointer (some ⟨slB a_55, slO a_55 + ((IntKind.i64.wrap d.at_).tmod ((([] : List Split) ++ (refuteL r_)).length : Int)).toNat * 3 + 2, none⟩))]) [] (by as_aux_lemma => kernel_rfl) trivial ?_
      refine AtY.nilq (by kernel_rfl) ?_
      refine AtQ.tm ?_
      obtain ⟨g68, h⟩ := gd h
      obtain ⟨x69, hz70, h⟩ := bd h
      replace hz70 := Option.some.inj hz70
      refine AtL.storeOw 5 Split.zero a_55 c_56 55 3 x66 (by kernel_rfl) xlen55 (((IntKind.i64.wrap d.at_).tmod ((([] : List Split) ++ (refuteL r_)).length : Int)).toNat) (inB_lt g68) 2 (by decide) (⟨(nth x66 Split.zero ((IntKind.i64.wrap d.at_).tmod ((([] : List Split) ++ (refuteL r_)).length : Int)).toNat).lot, (nth x66 Split.zero ((IntKind.i64.wrap d.at_).tmod ((([] : List Split) ++ (refuteL r_)).length : Int)).toNat).at_, IntKind.i64.wrap (((nth (([] : List Split) ++ (refuteL r_)) Split.zero ((IntKind.i64.wrap d.at_).tmod ((([] : List Split) ++ (refuteL r_)).length : Int)).toNat).reason) + d.change.reason)⟩ : Split) (.int .i64 (IntKind.i64.wrap (((nth (([] : List Split) ++ (refuteL r_)) Split.zero ((IntKind.i64.wrap d.at_).tmod ((([] : List Split) ++ (refuteL r_)).length : Int)).toNat).reason) + d.change.reason))) (by kernel_rfl) ⟨slB a_55, slO a_55 + ((IntKind.i64.wrap d.at_).tmod ((([] : List Split) ++ (refuteL r_)).length : Int)).toNat * 3 + 2, none⟩ (by kernel_rfl) (by kernel_rfl) ?_
      refine AtL.fit2 ([(2, .pointer (some ⟨B3, 0, none⟩)), (5, .slice a_5 ((refuteL r_).length) c_6), (6, .int .i64 (refuteE r_)), (7, .slice a_55 x69.length c_56), (97, .int .i64 (IntKind.i64.wrap (((nth (([] : List Split) ++ (refuteL r_)) Split.zero ((IntKind.i64.wrap d.at_).tmod ((([] : List Split) ++ (refuteL r_)).length : Int)).toNat).reason) + d.change.reason))), (103, .pointer (some ⟨slB a_55, slO a_55 + ((IntKind.i64.wrap d.at_).tmod ((([] : List Split) ++ (refuteL r_)).length : Int)).toNat * 3 + 2, none⟩))]) ([.sl a2 3 d.proof.length (fun i_ => Split.cells (nth d.proof Split.zero i_)), .sl a1 9 p.lots.length (fun i_ => Lot.cells (nth p.lots Lot.zero i_)), .sl (some ⟨B3, 0, none⟩) 9 1 (fun _ => (rcL a1 c1 p)), .sl (some ⟨(B3 + 1), 0, none⟩) 6 1 (fun _ => [.slice a2 d.proof.length c2, .bool d.own, .int .u8 d.at_, .int .i64 d.change.lot, .int .i64 d.change.at_, .int .i64 d.change.reason]), .sl a_5 3 ((refuteL r_).length) (fun i_ => Split.cells (nth (refuteL r_) Split.zero i_)), owE Split.cells Split.zero a_55 c_56 55 3 x69]) (by subst hz70; simp only [List.length_set]) (by subst hz70; kernel_rfl) ?_
      refine AtL.nil (by kernel_rfl) ?_
      refine Ends.qtm [0, 1, 2, 3, 4] (by kernel_rfl) (by kernel_rfl) ?_
      refine AtQ.nil ?_
      refine Ends.weak [2, 5, 6, 7] [true, true, true, true, true, true] ([(2, .pointer (some ⟨B3, 0, none⟩)), (5, .slice a_5 ((refuteL r_).length) c_6), (6, .int .i64 (refuteE r_)), (7, .slice a_55 x69.length c_56)]) ([.sl a2 3 d.proof.length (fun i_ => Split.cells (nth d.proof Split.zero i_)), .sl a1 9 p.lots.length (fun i_ => Lot.cells (nth p.lots Lot.zero i_)), .sl (some ⟨B3, 0, none⟩) 9 1 (fun _ => (rcL a1 c1 p)), .sl (some ⟨(B3 + 1), 0, none⟩) 6 1 (fun _ => [.slice a2 d.proof.length c2, .bool d.own, .int .u8 d.at_, .int .i64 d.change.lot, .int .i64 d.change.at_, .int .i64 d.change.reason]), .sl a_5 3 ((refuteL r_).length) (fun i_ => Split.cells (nth (refuteL r_) Split.zero i_)), owE Split.cells Split.zero a_55 c_56 55 3 x69]) (by kernel_rfl) (by kernel_rfl) ?_
      refine Ends.sel [2, 5, 6, 7] [1, 2, 4, 5] ([(2, .pointer (some ⟨B3, 0, none⟩)), (5, .slice a_5 ((refuteL r_).length) c_6), (6, .int .i64 (refuteE r_)), (7, .slice a_55 x69.length c_56)]) ([.sl a1 9 p.lots.length (fun i_ => Lot.cells (nth p.lots Lot.zero i_)), .sl (some ⟨B3, 0, none⟩) 9 1 (fun _ => (rcL a1 c1 p)), .sl a_5 3 ((refuteL r_).length) (fun i_ => Split.cells (nth (refuteL r_) Split.zero i_)), owE Split.cells Split.zero a_55 c_56 55 3 x69]) (by kernel_rfl) (by kernel_rfl) (by kernel_rfl) ?_
      exact Ends.mid (x69, a_55, c_56) (Option.some.inj h).symm (by kernel_rfl) (by kernel_rfl)
     ·have h := br_f h hc57
      refine At.runR [] [2, 5, 6, 7] [true, true, true, true, true, true] (.normal) ([(2, .pointer (some ⟨B3, 0, none⟩)), (5, .slice a_5 ((refuteL r_).length) c_6), (6, .int .i64 (refuteE r_)), (7, .slice a_55 ((([] : List Split) ++ (refuteL r_)).length) c_56)]) [] [] (fun _ => by as_aux_lemma => kernel_rfl) trivial ?_
      refine Ends.sel [2, 5, 6, 7] [1, 2, 4, 5] ([(2, .pointer (some ⟨B3, 0, none⟩)), (5, .slice a_5 ((refuteL r_).length) c_6), (6, .int .i64 (refuteE r_)), (7, .slice a_55 ((([] : List Split) ++ (refuteL r_)).length) c_56)]) ([.sl a1 9 p.lots.length (fun i_ => Lot.cells (nth p.lots Lot.zero i_)), .sl (some ⟨B3, 0, none⟩) 9 1 (fun _ => (rcL a1 c1 p)), .sl a_5 3 ((refuteL r_).length) (fun i_ => Split.cells (nth (refuteL r_) Split.zero i_)), owE Split.cells Split.zero a_55 c_56 55 3 (([] : List Split) ++ (refuteL r_))]) (by kernel_rfl) (by kernel_rfl) (by kernel_rfl) ?_
      exact Ends.mid ((([] : List Split) ++ (refuteL r_)), a_55, c_56) (Option.some.inj h).symm (by kernel_rfl) (by kernel_rfl)
    ·have h := br_f h hc53
     refine At.runR [] [2, 5, 6, 7] [true, true, true, true, true, true] (.normal) ([(2, .pointer (some ⟨B3, 0, none⟩)), (5, .slice a_5 ((refuteL r_).length) c_6), (6, .int .i64 (refuteE r_)), (7, .slice a_8 ((([] : List Split) ++ d.proof).length) c_9)]) [] [] (fun _ => by as_aux_lemma => kernel_rfl) trivial ?_
     refine Ends.sel [2, 5, 6, 7] [1, 2, 4, 5] ([(2, .pointer (some ⟨B3, 0, none⟩)), (5, .slice a_5 ((refuteL r_).length) c_6), (6, .int .i64 (refuteE r_)), (7, .slice a_8 ((([] : List Split) ++ d.proof).length) c_9)]) ([.sl a1 9 p.lots.length (fun i_ => Lot.cells (nth p.lots Lot.zero i_)), .sl (some ⟨B3, 0, none⟩) 9 1 (fun _ => (rcL a1 c1 p)), .sl a_5 3 ((refuteL r_).length) (fun i_ => Split.cells (nth (refuteL r_) Split.zero i_)), owE Split.cells Split.zero a_8 c_9 55 3 (([] : List Split) ++ d.proof)]) (by kernel_rfl) (by kernel_rfl) (by kernel_rfl) ?_
     exact Ends.mid ((([] : List Split) ++ d.proof), a_8, c_9) (Option.some.inj h).symm (by kernel_rfl) (by kernel_rfl)
   ·obtain ⟨t7, a_t7, c_t7⟩ := s
    replace hI : o10 = t7 := hI
    have h := hr10
    try rw [hI] at h
    refine At.seq ?_
    refine At.region ?_
    refine AtL.runR 1 [(1, 0, 0), (1, 1, 0), (1, 2, 0), (1, 3, 0), (1, 4, 0), (1, 5, 0), (1, 6, 0), (1, 7, 0), (1, 8, 0)] [2, 5, 6, 7, 105] [true, true, true, true] ([(2, .pointer (some ⟨B3, 0, none⟩)), (5, .slice a_5 ((refuteL r_).length) c_6), (6, .int .i64 (refuteE r_)), (7, .slice a_t7 t7.length c_t7), (105, .agg (rcL a1 c1 p).toArray)]) [B3, 0, B3, 1, B3, 2, B3, 3, B3, 4, B3, 5, B3, 6, B3, 7, B3, 8] [0 < 1, 0 < 1, 0 < 1, 0 < 1, 0 < 1, 0 < 1, 0 < 1, 0 < 1, 0 < 1] (fun _ => by as_aux_lemma => kernel_rfl) ⟨Nat.one_pos, Nat.one_pos, Nat.one_pos, Nat.one_pos, Nat.one_pos, Nat.one_pos, Nat.one_pos, Nat.one_pos, Nat.one_pos, trivial⟩ ?_
    obtain ⟨r_11, hs52, h⟩ := bd h
    refine AtL.call 13 #[.agg (rcL a1 c1 p).toArray] (some 106) (by kernel_rfl) _ (fun w8 hRep => lown_w F p a1 c1 w8 (hRep.toSl 0 rfl hs1.le hs1.big) _ hs52) ?_
    rintro w8 e w9 hRep ⟨a_12, c_13, rfl, hE⟩
    refine ⟨_, _, _, rfl, rfl, hRep.join hE (by simp [Ent.fresh]), ?_⟩
    refine AtL.run 2 [] [2, 5, 6, 7, 106, 107, 108] [true, true, true, true, true, true] (fun B34 => [(2, .pointer (some ⟨B3, 0, none⟩)), (5, .slice a_5 ((refuteL r_).length) c_6), (6, .int .i64 (refuteE r_)), (7, .slice a_t7 t7.length c_t7), (106, .agg (rcL a_12 c_13 r_11).toArray), (107, .slice (some ⟨B34, 0, none⟩) 0 0), (108, .slice a_t7 t7.length c_t7)]) (fun B34 => [.sl a1 9 p.lots.length (fun i_ => Lot.cells (nth p.lots Lot.zero i_)), .sl (some ⟨B3, 0, none⟩) 9 1 (fun _ => (rcL a1 c1 p)), .sl a_5 3 ((refuteL r_).length) (fun i_ => Split.cells (nth (refuteL r_) Split.zero i_)), owE Split.cells Split.zero a_t7 c_t7 55 3 t7, owE Lot.cells Lot.zero a_12 c_13 43 9 r_11.lots, .blk B34 [] 55]) (fun B34 => []) (fun B34 => []) (fun B34 => by as_aux_lemma => kernel_rfl) (fun B34 => trivial) (fun B34 => ?_)
    refine AtL.addRow 5 B34 55 [] (by kernel_rfl) Split.cells Split.zero 3 ([] : List Split) xlen55 (by kernel_rfl) (Nat.le_of_ble_eq_true rfl) (by simp) ?_
    obtain ⟨g14, h⟩ := gd h
    refine AtL.append Split.zero xei55 xlen55 xone55 (by decide) (some 109) 5 (some ⟨B34, 0, none⟩) (([] : List Split).length) ([] : List Split) (by kernel_rfl) a_t7 t7.length c_t7 t7 (by kernel_rfl) (by kernel_rfl) ((Adds.ow (i := 3) (d := Split.zero) (T := 55) (by kernel_rfl) xlen55)) (lenOk_le g14) (fun a_15 c_16 K9 hK9 => ?_)
    obtain rfl := Option.some.inj hK9
    refine AtL.fit [2, 5, 6, 7, 106, 108, 109] ([(2, .pointer (some ⟨B3, 0, none⟩)), (5, .slice a_5 ((refuteL r_).length) c_6), (6, .int .i64 (refuteE r_)), (7, .slice a_t7 t7.length c_t7), (106, .agg (rcL a_12 c_13 r_11).toArray), (108, .slice a_t7 t7.length c_t7), (109, .slice a_15 ((([] : List Split) ++ t7).length) c_16)]) ([.sl a1 9 p.lots.length (fun i_ => Lot.cells (nth p.lots Lot.zero i_)), .sl (some ⟨B3, 0, none⟩) 9 1 (fun _ => (rcL a1 c1 p)), .sl a_5 3 ((refuteL r_).length) (fun i_ => Split.cells (nth (refuteL r_) Split.zero i_)), owE Split.cells Split.zero a_t7 c_t7 55 3 t7, owE Lot.cells Lot.zero a_12 c_13 43 9 r_11.lots, owE Split.cells Split.zero a_15 c_16 55 3 (([] : List Split) ++ t7)]) (by kernel_rfl) (by kernel_rfl) ?_
    refine AtL.call 28 #[.agg (rcL a_12 c_13 r_11).toArray, .slice a_15 ((([] : List Split) ++ t7).length) c_16] (some 110) (by kernel_rfl) _ (fun w8 hRep => refutes_c r_11 a_12 c_13 (([] : List Split) ++ t7) a_15 c_16 w8 (hRep.owSl 4 rfl xlen43) (hRep.owSl 5 rfl xlen55)) ?_
    rintro w8 e w9 hRep ⟨rfl, hE⟩
    refine ⟨_, _, _, rfl, rfl, hRep.ext' hE, ?_⟩
    refine AtL.runR 5 [] [2, 5, 6, 7, 9, 10] [true, true, true, true, true, true] ([(2, .pointer (some ⟨B3, 0, none⟩)), (5, .slice a_5 ((refuteL r_).length) c_6), (6, .int .i64 (refuteE r_)), (7, .slice a_t7 t7.length c_t7), (9, .bool (refutesB r_11 (([] : List Split) ++ t7))), (10, .int .i64 (checkE r_11))]) [] [] (fun _ => by as_aux_lemma => kernel_rfl) trivial ?_
    refine AtL.nil (by kernel_rfl) ?_
    refine Ends.seq ?_
    refine At.seq ?_
    refine At.region ?_
    refine AtL.runR 1 [(1, 0, 0), (1, 1, 0), (1, 2, 0), (1, 3, 0), (1, 4, 0), (1, 5, 0), (1, 6, 0), (1, 7, 0), (1, 8, 0)] [2, 5, 6, 7, 9, 10, 113] [true, true, true, true, true, true] ([(2, .pointer (some ⟨B3, 0, none⟩)), (5, .slice a_5 ((refuteL r_).length) c_6), (6, .int .i64 (refuteE r_)), (7, .slice a_t7 t7.length c_t7), (9, .bool (refutesB r_11 (([] : List Split) ++ t7))), (10, .int .i64 (checkE r_11)), (113, .agg (rcL a1 c1 p).toArray)]) [B3, 0, B3, 1, B3, 2, B3, 3, B3, 4, B3, 5, B3, 6, B3, 7, B3, 8] [0 < 1, 0 < 1, 0 < 1, 0 < 1, 0 < 1, 0 < 1, 0 < 1, 0 < 1, 0 < 1] (fun _ => by as_aux_lemma => kernel_rfl) ⟨Nat.one_pos, Nat.one_pos, Nat.one_pos, Nat.one_pos, Nat.one_pos, Nat.one_pos, Nat.one_pos, Nat.one_pos, Nat.one_pos, trivial⟩ ?_
    refine AtL.call 18 #[.agg (rcL a1 c1 p).toArray] (some 114) (by kernel_rfl) _ (fun w8 hRep => refCheck_c p a1 c1 w8 (hRep.toSl 0 rfl hs1.le hs1.big)) ?_
    rintro w8 e w9 hRep ⟨rfl, hE⟩
    refine ⟨_, _, _, rfl, rfl, hRep.ext' hE, ?_⟩
    refine AtL.runR 1 [] [2, 5, 6, 7, 9, 10, 11] [true, true, true, true, true, true] ([(2, .pointer (some ⟨B3, 0, none⟩)), (5, .slice a_5 ((refuteL r_).length) c_6), (6, .int .i64 (refuteE r_)), (7, .slice a_t7 t7.length c_t7), (9, .bool (refutesB r_11 (([] : List Split) ++ t7))), (10, .int .i64 (checkE r_11)), (11, .int .i64 (checkE p))]) [] [] (fun _ => by as_aux_lemma => kernel_rfl) trivial ?_
    refine AtL.nil (by kernel_rfl) ?_
    refine Ends.seq ?_
    refine At.seq ?_
    refine At.seq ?_
    refine At.runR [] [2, 5, 6, 7, 9, 10, 11, 116] [true, true, true, true, true, true] (.normal) ([(2, .pointer (some ⟨B3, 0, none⟩)), (5, .slice a_5 ((refuteL r_).length) c_6), (6, .int .i64 (refuteE r_)), (7, .slice a_t7 t7.length c_t7), (9, .bool (refutesB r_11 (([] : List Split) ++ t7))), (10, .int .i64 (checkE r_11)), (11, .int .i64 (checkE p)), (116, .bool ((checkE p) != (0 : Int)))]) [] [] (fun _ => by as_aux_lemma => kernel_rfl) trivial ?_
    refine Ends.seq ?_
    refine At.cond ((checkE p) != (0 : Int)) (by kernel_rfl) (fun hc17 => ?_) (fun hc17 => ?_)
    ·have h := br_t h hc17
     obtain ⟨o18, h, hr18⟩ := bd h
     refine At.seq_mid (σ := Bool) (fun s => o18 = s) (fun s => [(4, .bool s)]) (fun s => []) ?_ (fun s hI => ?_)
     ·refine At.region ?_
      refine AtL.runR 4 [] [5, 9, 10, 11, 120] [true, true, true, true, true, true] ([(5, .slice a_5 ((refuteL r_).length) c_6), (9, .bool (refutesB r_11 (([] : List Split) ++ t7))), (10, .int .i64 (checkE r_11)), (11, .int .i64 (checkE p)), (120, .bool ((refuteE r_) == (checkE p)))]) [] [] (fun _ => by as_aux_lemma => kernel_rfl) trivial ?_
      refine AtL.bool 120 ((refuteE r_) == (checkE p)) (by kernel_rfl) (fun hc19 => ?_) (fun hc19 => ?_)
      ·have h := br_t h hc19
       refine AtL.runR 5 [] [5, 9, 125] [true, true, true, true, true, true] ([(5, .slice a_5 ((refuteL r_).length) c_6), (9, .bool (refutesB r_11 (([] : List Split) ++ t7))), (125, .bool ((checkE r_11) == (checkE p)))]) [] [] (fun _ => by as_aux_lemma => kernel_rfl) trivial ?_
       refine AtL.bool 125 ((checkE r_11) == (checkE p)) (by kernel_rfl) (fun hc20 => ?_) (fun hc20 => ?_)
       ·have h := br_t h hc20
        refine AtL.runR 5 [] [9, 130] [true, true, true, true, true, true] ([(9, .bool (refutesB r_11 (([] : List Split) ++ t7))), (130, .bool (((refuteL r_).length : Int) == (0 : Int)))]) [] [] (fun _ => by as_aux_lemma => kernel_rfl) trivial ?_
        refine AtL.bool 130 (((refuteL r_).length : Int) == (0 : Int)) (by kernel_rfl) (fun hc21 => ?_) (fun hc21 => ?_)
        ·have h := br_t h hc21
         refine AtL.runR 4 [] [134] [true, true, true, true, true, true] ([(134, .bool (!(refutesB r_11 (([] : List Split) ++ t7))))]) [] [] (fun _ => by as_aux_lemma => kernel_rfl) trivial ?_
         refine AtL.bool 134 (!(refutesB r_11 (([] : List Split) ++ t7))) (by kernel_rfl) (fun hc22 => ?_) (fun hc22 => ?_)
         ·have h := br_t h hc22
          refine AtL.call 12 #[] (some 135) (by kernel_rfl) _ (fun w8 hRep => known_c w8) ?_
          rintro w8 e w9 hRep ⟨rfl, hE⟩
          refine ⟨_, _, _, rfl, rfl, hRep.ext' hE, ?_⟩
          refine AtL.runR 2 [] [4] [true, true, true, true, true, true] ([(4, .bool true)]) [] [] (fun _ => by as_aux_lemma => kernel_rfl) trivial ?_
          refine AtL.nil (by kernel_rfl) ?_
          refine Ends.sel [4] [] ([(4, .bool true)]) ([]) (by kernel_rfl) (by kernel_rfl) (by kernel_rfl) ?_
          exact Ends.mid true (Option.some.inj h).symm (by kernel_rfl) (by kernel_rfl)
         ·have h := br_f h hc22
          refine AtL.runR 3 [] [4] [true, true, true, true, true, true] ([(4, .bool false)]) [] [] (fun _ => by as_aux_lemma => kernel_rfl) trivial ?_
          refine AtL.nil (by kernel_rfl) ?_
          refine Ends.sel [4] [] ([(4, .bool false)]) ([]) (by kernel_rfl) (by kernel_rfl) (by kernel_rfl) ?_
          exact Ends.mid false (Option.some.inj h).symm (by kernel_rfl) (by kernel_rfl)
        ·have h := br_f h hc21
         refine AtL.runR 7 [] [4] [true, true, true, true, true, true] ([(4, .bool false)]) [] [] (fun _ => by as_aux_lemma => kernel_rfl) trivial ?_
         refine AtL.nil (by kernel_rfl) ?_
         refine Ends.sel [4] [] ([(4, .bool false)]) ([]) (by kernel_rfl) (by kernel_rfl) (by kernel_rfl) ?_
         exact Ends.mid false (Option.some.inj h).symm (by kernel_rfl) (by kernel_rfl)
       ·have h := br_f h hc20
        refine AtL.runR 12 [] [4] [true, true, true, true, true, true] ([(4, .bool false)]) [] [] (fun _ => by as_aux_lemma => kernel_rfl) trivial ?_
        refine AtL.nil (by kernel_rfl) ?_
        refine Ends.sel [4] [] ([(4, .bool false)]) ([]) (by kernel_rfl) (by kernel_rfl) (by kernel_rfl) ?_
        exact Ends.mid false (Option.some.inj h).symm (by kernel_rfl) (by kernel_rfl)
      ·have h := br_f h hc19
       refine AtL.runR 17 [] [4] [true, true, true, true, true, true] ([(4, .bool false)]) [] [] (fun _ => by as_aux_lemma => kernel_rfl) trivial ?_
       refine AtL.nil (by kernel_rfl) ?_
       refine Ends.sel [4] [] ([(4, .bool false)]) ([]) (by kernel_rfl) (by kernel_rfl) (by kernel_rfl) ?_
       exact Ends.mid false (Option.some.inj h).symm (by kernel_rfl) (by kernel_rfl)
     ·revert hI; revert s; intro t4 hI
      replace hI : o18 = t4 := hI
      have h := hr18
      try rw [hI] at h
      refine At.runR [] [4] [] (.ret) ([(4, .bool t4)]) [] [] (fun _ => by as_aux_lemma => kernel_rfl) trivial ?_
      refine Ends.then_ret ?_
      refine Ends.body [] (.bool t4) [] (by kernel_rfl) (fun w9 hRep => ?_)
      obtain rfl := Option.some.inj h
      exact ⟨rfl, hRep.ext⟩
    ·have h := br_f h hc17
     refine At.runR [] [2, 5, 6, 7, 9, 10] [true, true, true, true, true, true] (.normal) ([(2, .pointer (some ⟨B3, 0, none⟩)), (5, .slice a_5 ((refuteL r_).length) c_6), (6, .int .i64 (refuteE r_)), (7, .slice a_t7 t7.length c_t7), (9, .bool (refutesB r_11 (([] : List Split) ++ t7))), (10, .int .i64 (checkE r_11))]) [] [] (fun _ => by as_aux_lemma => kernel_rfl) trivial ?_
     refine Ends.seq ?_
     refine At.seq ?_
     refine At.seq ?_
     refine At.region ?_
     refine AtL.runR 1 [(1, 0, 0), (1, 1, 0), (1, 2, 0), (1, 3, 0), (1, 4, 0), (1, 5, 0), (1, 6, 0), (1, 7, 0), (1, 8, 0)] [2, 5, 6, 7, 9, 10, 137] [true, true, true, true, true, true] ([(2, .pointer (some ⟨B3, 0, none⟩)), (5, .slice a_5 ((refuteL r_).length) c_6), (6, .int .i64 (refuteE r_)), (7, .slice a_t7 t7.length c_t7), (9, .bool (refutesB r_11 (([] : List Split) ++ t7))), (10, .int .i64 (checkE r_11)), (137, .agg (rcL a1 c1 p).toArray)]) [B3, 0, B3, 1, B3, 2, B3, 3, B3, 4, B3, 5, B3, 6, B3, 7, B3, 8] [0 < 1, 0 < 1, 0 < 1, 0 < 1, 0 < 1, 0 < 1, 0 < 1, 0 < 1, 0 < 1] (fun _ => by as_aux_lemma => kernel_rfl) ⟨Nat.one_pos, Nat.one_pos, Nat.one_pos, Nat.one_pos, Nat.one_pos, Nat.one_pos, Nat.one_pos, Nat.one_pos, Nat.one_pos, trivial⟩ ?_
     obtain ⟨r_23, hs51, h⟩ := bd h
     refine AtL.call 25 #[.agg (rcL a1 c1 p).toArray] (some 138) (by kernel_rfl) _ (fun w8 hRep => rMany_w F p a1 c1 w8 (hRep.toSl 0 rfl hs1.le hs1.big) _ hs51) ?_
     rintro w8 e w9 hRep ⟨rfl, hE⟩
     refine ⟨_, _, _, rfl, rfl, hRep.ext' hE, ?_⟩
     refine AtL.runR 1 [] [2, 5, 6, 7, 9, 10, 139] [true, true, true, true, true, true] ([(2, .pointer (some ⟨B3, 0, none⟩)), (5, .slice a_5 ((refuteL r_).length) c_6), (6, .int .i64 (refuteE r_)), (7, .slice a_t7 t7.length c_t7), (9, .bool (refutesB r_11 (([] : List Split) ++ t7))), (10, .int .i64 (checkE r_11)), (139, .bool (decide (r_23 > (20000 : Int))))]) [] [] (fun _ => by as_aux_lemma => kernel_rfl) trivial ?_
     refine AtL.nil (by kernel_rfl) ?_
     refine Ends.seq ?_
     refine At.cond (decide (r_23 > (20000 : Int))) (by kernel_rfl) (fun hc24 => ?_) (fun hc24 => ?_)
     ·have h := br_t h hc24
      obtain ⟨o25, h, hr25⟩ := bd h
      refine At.seq_mid (σ := Bool) (fun s => o25 = s) (fun s => [(4, .bool s)]) (fun s => []) ?_ (fun s hI => ?_)
      ·refine At.region ?_
       refine AtL.runR 3 [] [5, 9, 10, 142] [true, true, true, true, true, true] ([(5, .slice a_5 ((refuteL r_).length) c_6), (9, .bool (refutesB r_11 (([] : List Split) ++ t7))), (10, .int .i64 (checkE r_11)), (142, .bool ((refuteE r_) == (8 : Int)))]) [] [] (fun _ => by as_aux_lemma => kernel_rfl) trivial ?_
       refine AtL.bool 142 ((refuteE r_) == (8 : Int)) (by kernel_rfl) (fun hc27 => ?_) (fun hc27 => ?_)
       ·have h := br_t h hc27
        refine AtL.runR 5 [] [9, 10, 147] [true, true, true, true, true, true] ([(9, .bool (refutesB r_11 (([] : List Split) ++ t7))), (10, .int .i64 (checkE r_11)), (147, .bool (((refuteL r_).length : Int) == (0 : Int)))]) [] [] (fun _ => by as_aux_lemma => kernel_rfl) trivial ?_
        refine AtL.bool 147 (((refuteL r_).length : Int) == (0 : Int)) (by kernel_rfl) (fun hc28 => ?_) (fun hc28 => ?_)
        ·have h := br_t h hc28
         refine AtL.runR 4 [] [9, 151] [true, true, true, true, true, true] ([(9, .bool (refutesB r_11 (([] : List Split) ++ t7))), (151, .bool ((checkE r_11) == (0 : Int)))]) [] [] (fun _ => by as_aux_lemma => kernel_rfl) trivial ?_
         refine AtL.bool 151 ((checkE r_11) == (0 : Int)) (by kernel_rfl) (fun hc29 => ?_) (fun hc29 => ?_)
         ·have h := br_t h hc29
          refine AtL.runR 4 [] [155] [true, true, true, true, true, true] ([(155, .bool (!(refutesB r_11 (([] : List Split) ++ t7))))]) [] [] (fun _ => by as_aux_lemma => kernel_rfl) trivial ?_
          refine AtL.bool 155 (!(refutesB r_11 (([] : List Split) ++ t7))) (by kernel_rfl) (fun hc30 => ?_) (fun hc30 => ?_)
          ·have h := br_t h hc30
           refine AtL.call 12 #[] (some 156) (by kernel_rfl) _ (fun w8 hRep => known_c w8) ?_
           rintro w8 e w9 hRep ⟨rfl, hE⟩
           refine ⟨_, _, _, rfl, rfl, hRep.ext' hE, ?_⟩
           refine AtL.runR 2 [] [4] [true, true, true, true, true, true] ([(4, .bool true)]) [] [] (fun _ => by as_aux_lemma => kernel_rfl) trivial ?_
           refine AtL.nil (by kernel_rfl) ?_
           refine Ends.sel [4] [] ([(4, .bool true)]) ([]) (by kernel_rfl) (by kernel_rfl) (by kernel_rfl) ?_
           exact Ends.mid true (Option.some.inj h).symm (by kernel_rfl) (by kernel_rfl)
          ·have h := br_f h hc30
           refine AtL.runR 3 [] [4] [true, true, true, true, true, true] ([(4, .bool false)]) [] [] (fun _ => by as_aux_lemma => kernel_rfl) trivial ?_
           refine AtL.nil (by kernel_rfl) ?_
           refine Ends.sel [4] [] ([(4, .bool false)]) ([]) (by kernel_rfl) (by kernel_rfl) (by kernel_rfl) ?_
           exact Ends.mid false (Option.some.inj h).symm (by kernel_rfl) (by kernel_rfl)
         ·have h := br_f h hc29
          refine AtL.runR 7 [] [4] [true, true, true, true, true, true] ([(4, .bool false)]) [] [] (fun _ => by as_aux_lemma => kernel_rfl) trivial ?_
          refine AtL.nil (by kernel_rfl) ?_
          refine Ends.sel [4] [] ([(4, .bool false)]) ([]) (by kernel_rfl) (by kernel_rfl) (by kernel_rfl) ?_
          exact Ends.mid false (Option.some.inj h).symm (by kernel_rfl) (by kernel_rfl)
        ·have h := br_f h hc28
         refine AtL.runR 11 [] [4] [true, true, true, true, true, true] ([(4, .bool false)]) [] [] (fun _ => by as_aux_lemma => kernel_rfl) trivial ?_
         refine AtL.nil (by kernel_rfl) ?_
         refine Ends.sel [4] [] ([(4, .bool false)]) ([]) (by kernel_rfl) (by kernel_rfl) (by kernel_rfl) ?_
         exact Ends.mid false (Option.some.inj h).symm (by kernel_rfl) (by kernel_rfl)
       ·have h := br_f h hc27
        refine AtL.runR 16 [] [4] [true, true, true, true, true, true] ([(4, .bool false)]) [] [] (fun _ => by as_aux_lemma => kernel_rfl) trivial ?_
        refine AtL.nil (by kernel_rfl) ?_
        refine Ends.sel [4] [] ([(4, .bool false)]) ([]) (by kernel_rfl) (by kernel_rfl) (by kernel_rfl) ?_
        exact Ends.mid false (Option.some.inj h).symm (by kernel_rfl) (by kernel_rfl)
      ·revert hI; revert s; intro t426 hI
       replace hI : o25 = t426 := hI
       have h := hr25
       try rw [hI] at h
       refine At.runR [] [4] [] (.ret) ([(4, .bool t426)]) [] [] (fun _ => by as_aux_lemma => kernel_rfl) trivial ?_
       refine Ends.then_ret ?_
       refine Ends.body [] (.bool t426) [] (by kernel_rfl) (fun w9 hRep => ?_)
       obtain rfl := Option.some.inj h
       exact ⟨rfl, hRep.ext⟩
     ·have h := br_f h hc24
      refine At.runR [] [2, 5, 6, 7, 9, 10] [true, true, true, true, true, true] (.normal) ([(2, .pointer (some ⟨B3, 0, none⟩)), (5, .slice a_5 ((refuteL r_).length) c_6), (6, .int .i64 (refuteE r_)), (7, .slice a_t7 t7.length c_t7), (9, .bool (refutesB r_11 (([] : List Split) ++ t7))), (10, .int .i64 (checkE r_11))]) [] [] (fun _ => by as_aux_lemma => kernel_rfl) trivial ?_
      refine Ends.seq ?_
      refine At.seq ?_
      refine At.region ?_
      refine AtL.runR 1 [(1, 0, 0), (1, 1, 0), (1, 2, 0), (1, 3, 0), (1, 4, 0), (1, 5, 0), (1, 6, 0), (1, 7, 0), (1, 8, 0)] [2, 5, 6, 7, 9, 10, 159] [true, true, true, true, true, true] ([(2, .pointer (some ⟨B3, 0, none⟩)), (5, .slice a_5 ((refuteL r_).length) c_6), (6, .int .i64 (refuteE r_)), (7, .slice a_t7 t7.length c_t7), (9, .bool (refutesB r_11 (([] : List Split) ++ t7))), (10, .int .i64 (checkE r_11)), (159, .agg (rcL a1 c1 p).toArray)]) [B3, 0, B3, 1, B3, 2, B3, 3, B3, 4, B3, 5, B3, 6, B3, 7, B3, 8] [0 < 1, 0 < 1, 0 < 1, 0 < 1, 0 < 1, 0 < 1, 0 < 1, 0 < 1, 0 < 1] (fun _ => by as_aux_lemma => kernel_rfl) ⟨Nat.one_pos, Nat.one_pos, Nat.one_pos, Nat.one_pos, Nat.one_pos, Nat.one_pos, Nat.one_pos, Nat.one_pos, Nat.one_pos, trivial⟩ ?_
      obtain ⟨r_31, hs50, h⟩ := bd h
      refine AtL.call 29 #[.agg (rcL a1 c1 p).toArray] (some 160) (by kernel_rfl) _ (fun w8 hRep => rRefute_w F p a1 c1 w8 (hRep.toSl 0 rfl hs1.le hs1.big) _ hs50) ?_
      rintro w8 e w9 hRep ⟨a_32, c_33, rfl, hE⟩
      refine ⟨_, _, _, rfl, rfl, hRep.join hE (by simp [Ent.fresh]), ?_⟩
      refine AtL.runR 5 [] [2, 5, 6, 7, 9, 10, 12, 13] [true, true, true, true, true, true, true] ([(2, .pointer (some ⟨B3, 0, none⟩)), (5, .slice a_5 ((refuteL r_).length) c_6), (6, .int .i64 (refuteE r_)), (7, .slice a_t7 t7.length c_t7), (9, .bool (refutesB r_11 (([] : List Split) ++ t7))), (10, .int .i64 (checkE r_11)), (12, .slice a_32 r_31.1.length c_33), (13, .bool r_31.2)]) [] [] (fun _ => by as_aux_lemma => kernel_rfl) trivial ?_
      refine AtL.nil (by kernel_rfl) ?_
      refine Ends.seq ?_
      obtain ⟨o34, h, hr34⟩ := bd h
      refine At.seq_mid (σ := Unit) (fun s => o34 = (.inr ())) (fun s => [(2, .pointer (some ⟨B3, 0, none⟩)), (7, .slice a_t7 t7.length c_t7), (9, .bool (refutesB r_11 (([] : List Split) ++ t7))), (10, .int .i64 (checkE r_11))]) (fun s => [.sl a1 9 p.lots.length (fun i_ => Lot.cells (nth p.lots Lot.zero i_)), .sl (some ⟨B3, 0, none⟩) 9 1 (fun _ => (rcL a1 c1 p)), owE Split.cells Split.zero a_t7 c_t7 55 3 t7]) ?_ (fun s hI => ?_)
      ·refine At.seq ?_
       refine At.runR [] [2, 5, 6, 7, 9, 10, 12, 164] [true, true, true, true, true, true, true] (.normal) ([(2, .pointer (some ⟨B3, 0, none⟩)), (5, .slice a_5 ((refuteL r_).length) c_6), (6, .int .i64 (refuteE r_)), (7, .slice a_t7 t7.length c_t7), (9, .bool (refutesB r_11 (([] : List Split) ++ t7))), (10, .int .i64 (checkE r_11)), (12, .slice a_32 r_31.1.length c_33), (164, .bool (!r_31.2))]) [] [] (fun _ => by as_aux_lemma => kernel_rfl) trivial ?_
       refine Ends.seq ?_
       refine At.cond (!r_31.2) (by kernel_rfl) (fun hc41 => ?_) (fun hc41 => ?_)
       ·have h := br_t h hc41
        obtain ⟨o42, h, hr42⟩ := bd h
        refine At.seq_mid (σ := Bool) (fun s => o42 = s) (fun s => [(2, .pointer (some ⟨B3, 0, none⟩)), (7, .slice a_t7 t7.length c_t7), (9, .bool (refutesB r_11 (([] : List Split) ++ t7))), (10, .int .i64 (checkE r_11)), (171, .bool s)]) (fun s => [.sl a1 9 p.lots.length (fun i_ => Lot.cells (nth p.lots Lot.zero i_)), .sl (some ⟨B3, 0, none⟩) 9 1 (fun _ => (rcL a1 c1 p)), owE Split.cells Split.zero a_t7 c_t7 55 3 t7]) ?_ (fun s hI => ?_)
        ·refine At.region ?_
         refine AtL.runR 3 [] [2, 5, 7, 9, 10, 167] [true, true, true, true, true, true, true] ([(2, .pointer (some ⟨B3, 0, none⟩)), (5, .slice a_5 ((refuteL r_).length) c_6), (7, .slice a_t7 t7.length c_t7), (9, .bool (refutesB r_11 (([] : List Split) ++ t7))), (10, .int .i64 (checkE r_11)), (167, .bool ((refuteE r_) != (21 : Int)))]) [] [] (fun _ => by as_aux_lemma => kernel_rfl) trivial ?_
         refine AtL.bool 167 ((refuteE r_) != (21 : Int)) (by kernel_rfl) (fun hc44 => ?_) (fun hc44 => ?_)
         ·have h := br_t h hc44
          refine AtL.runR 4 [] [2, 7, 9, 10, 171] [true, true, true, true, true, true, true] ([(2, .pointer (some ⟨B3, 0, none⟩)), (7, .slice a_t7 t7.length c_t7), (9, .bool (refutesB r_11 (([] : List Split) ++ t7))), (10, .int .i64 (checkE r_11)), (171, .bool true)]) [] [] (fun _ => by as_aux_lemma => kernel_rfl) trivial ?_
          refine AtL.nil (by kernel_rfl) ?_
          refine Ends.sel [2, 7, 9, 10, 171] [0, 1, 3] ([(2, .pointer (some ⟨B3, 0, none⟩)), (7, .slice a_t7 t7.length c_t7), (9, .bool (refutesB r_11 (([] : List Split) ++ t7))), (10, .int .i64 (checkE r_11)), (171, .bool true)]) ([.sl a1 9 p.lots.length (fun i_ => Lot.cells (nth p.lots Lot.zero i_)), .sl (some ⟨B3, 0, none⟩) 9 1 (fun _ => (rcL a1 c1 p)), owE Split.cells Split.zero a_t7 c_t7 55 3 t7]) (by kernel_rfl) (by kernel_rfl) (by kernel_rfl) ?_
          exact Ends.mid true (Option.some.inj h).symm (by kernel_rfl) (by kernel_rfl)
         ·have h := br_f h hc44
          refine AtL.runR 4 [] [2, 7, 9, 10, 171] [true, true, true, true, true, true, true] ([(2, .pointer (some ⟨B3, 0, none⟩)), (7, .slice a_t7 t7.length c_t7), (9, .bool (refutesB r_11 (([] : List Split) ++ t7))), (10, .int .i64 (checkE r_11)), (171, .bool (((refuteL r_).length : Int) != (0 : Int)))]) [] [] (fun _ => by as_aux_lemma => kernel_rfl) trivial ?_
          refine AtL.nil (by kernel_rfl) ?_
          refine Ends.sel [2, 7, 9, 10, 171] [0, 1, 3] ([(2, .pointer (some ⟨B3, 0, none⟩)), (7, .slice a_t7 t7.length c_t7), (9, .bool (refutesB r_11 (([] : List Split) ++ t7))), (10, .int .i64 (checkE r_11)), (171, .bool (((refuteL r_).length : Int) != (0 : Int)))]) ([.sl a1 9 p.lots.length (fun i_ => Lot.cells (nth p.lots Lot.zero i_)), .sl (some ⟨B3, 0, none⟩) 9 1 (fun _ => (rcL a1 c1 p)), owE Split.cells Split.zero a_t7 c_t7 55 3 t7]) (by kernel_rfl) (by kernel_rfl) (by kernel_rfl) ?_
          exact Ends.mid (((refuteL r_).length : Int) != (0 : Int)) (Option.some.inj h).symm (by kernel_rfl) (by kernel_rfl)
        ·revert hI; revert s; intro t171 hI
         replace hI : o42 = t171 := hI
         have h := hr42
         try rw [hI] at h
         refine At.cond (t171) (by kernel_rfl) (fun hc43 => ?_) (fun hc43 => ?_)
         ·have h := br_t h hc43
          refine At.runR [] [4] [true, true, true] (.ret) ([(4, .bool false)]) [] [] (fun _ => by as_aux_lemma => kernel_rfl) trivial ?_
          refine Ends.then_ret ?_
          obtain rfl := Option.some.inj h
          have h := hr34
          refine Ends.body [] (.bool false) [] (by kernel_rfl) (fun w9 hRep => ?_)
          obtain rfl := Option.some.inj h
          exact ⟨rfl, hRep.ext⟩
         ·have h := br_f h hc43
          refine At.runR [] [2, 7, 9, 10] [true, true, true] (.normal) ([(2, .pointer (some ⟨B3, 0, none⟩)), (7, .slice a_t7 t7.length c_t7), (9, .bool (refutesB r_11 (([] : List Split) ++ t7))), (10, .int .i64 (checkE r_11))]) [] [] (fun _ => by as_aux_lemma => kernel_rfl) trivial ?_
          exact Ends.mid () (Option.some.inj h).symm (by kernel_rfl) (by kernel_rfl)
       ·have h := br_f h hc41
        obtain ⟨o45, h, hr45⟩ := bd h
        refine At.seq_mid (σ := Bool) (fun s => o45 = s) (fun s => [(2, .pointer (some ⟨B3, 0, none⟩)), (7, .slice a_t7 t7.length c_t7), (9, .bool (refutesB r_11 (([] : List Split) ++ t7))), (10, .int .i64 (checkE r_11)), (179, .bool s)]) (fun s => [.sl a1 9 p.lots.length (fun i_ => Lot.cells (nth p.lots Lot.zero i_)), .sl (some ⟨B3, 0, none⟩) 9 1 (fun _ => (rcL a1 c1 p)), owE Split.cells Split.zero a_t7 c_t7 55 3 t7]) ?_ (fun s hI => ?_)
        ·refine At.region ?_
         refine AtL.runR 3 [] [2, 5, 7, 9, 10, 12, 174] [true, true, true, true, true, true, true] ([(2, .pointer (some ⟨B3, 0, none⟩)), (5, .slice a_5 ((refuteL r_).length) c_6), (7, .slice a_t7 t7.length c_t7), (9, .bool (refutesB r_11 (([] : List Split) ++ t7))), (10, .int .i64 (checkE r_11)), (12, .slice a_32 r_31.1.length c_33), (174, .bool ((refuteE r_) != (0 : Int)))]) [] [] (fun _ => by as_aux_lemma => kernel_rfl) trivial ?_
         refine AtL.bool 174 ((refuteE r_) != (0 : Int)) (by kernel_rfl) (fun hc47 => ?_) (fun hc47 => ?_)
         ·have h := br_t h hc47
          refine AtL.runR 5 [] [2, 7, 9, 10, 179] [true, true, true, true, true, true, true] ([(2, .pointer (some ⟨B3, 0, none⟩)), (7, .slice a_t7 t7.length c_t7), (9, .bool (refutesB r_11 (([] : List Split) ++ t7))), (10, .int .i64 (checkE r_11)), (179, .bool true)]) [] [] (fun _ => by as_aux_lemma => kernel_rfl) trivial ?_
          refine AtL.nil (by kernel_rfl) ?_
          refine Ends.sel [2, 7, 9, 10, 179] [0, 1, 3] ([(2, .pointer (some ⟨B3, 0, none⟩)), (7, .slice a_t7 t7.length c_t7), (9, .bool (refutesB r_11 (([] : List Split) ++ t7))), (10, .int .i64 (checkE r_11)), (179, .bool true)]) ([.sl a1 9 p.lots.length (fun i_ => Lot.cells (nth p.lots Lot.zero i_)), .sl (some ⟨B3, 0, none⟩) 9 1 (fun _ => (rcL a1 c1 p)), owE Split.cells Split.zero a_t7 c_t7 55 3 t7]) (by kernel_rfl) (by kernel_rfl) (by kernel_rfl) ?_
          exact Ends.mid true (Option.some.inj h).symm (by kernel_rfl) (by kernel_rfl)
         ·have h := br_f h hc47
          refine AtL.runR 2 [] [2, 7, 9, 10, 174, 175, 176] [true, true, true, true, true, true, true] ([(2, .pointer (some ⟨B3, 0, none⟩)), (7, .slice a_t7 t7.length c_t7), (9, .bool (refutesB r_11 (([] : List Split) ++ t7))), (10, .int .i64 (checkE r_11)), (174, .bool false), (175, .slice a_5 ((refuteL r_).length) c_6), (176, .slice a_32 r_31.1.length c_33)]) [] [] (fun _ => by as_aux_lemma => kernel_rfl) trivial ?_
          obtain ⟨r_48, hs49, h⟩ := bd h
          refine AtL.call 30 #[.slice a_5 ((refuteL r_).length) c_6, .slice a_32 r_31.1.length c_33] (some 177) (by kernel_rfl) _ (fun w8 hRep => lsamep_w F (refuteL r_) r_31.1 a_5 c_6 a_32 c_33 w8 (hRep.toSl 2 rfl hs4.le hs4.big) (hRep.owSl 6 rfl xlen55) _ hs49) ?_
          rintro w8 e w9 hRep ⟨rfl, hE⟩
          refine ⟨_, _, _, rfl, rfl, hRep.ext' hE, ?_⟩
          refine AtL.runR 2 [] [2, 7, 9, 10, 179] [true, true, true, true, true, true, true] ([(2, .pointer (some ⟨B3, 0, none⟩)), (7, .slice a_t7 t7.length c_t7), (9, .bool (refutesB r_11 (([] : List Split) ++ t7))), (10, .int .i64 (checkE r_11)), (179, .bool (!r_48))]) [] [] (fun _ => by as_aux_lemma => kernel_rfl) trivial ?_
          refine AtL.nil (by kernel_rfl) ?_
          refine Ends.sel [2, 7, 9, 10, 179] [0, 1, 3] ([(2, .pointer (some ⟨B3, 0, none⟩)), (7, .slice a_t7 t7.length c_t7), (9, .bool (refutesB r_11 (([] : List Split) ++ t7))), (10, .int .i64 (checkE r_11)), (179, .bool (!r_48))]) ([.sl a1 9 p.lots.length (fun i_ => Lot.cells (nth p.lots Lot.zero i_)), .sl (some ⟨B3, 0, none⟩) 9 1 (fun _ => (rcL a1 c1 p)), owE Split.cells Split.zero a_t7 c_t7 55 3 t7]) (by kernel_rfl) (by kernel_rfl) (by kernel_rfl) ?_
          exact Ends.mid (!r_48) (Option.some.inj h).symm (by kernel_rfl) (by kernel_rfl)
        ·revert hI; revert s; intro t179 hI
         replace hI : o45 = t179 := hI
         have h := hr45
         try rw [hI] at h
         refine At.cond (t179) (by kernel_rfl) (fun hc46 => ?_) (fun hc46 => ?_)
         ·have h := br_t h hc46
          refine At.runR [] [4] [true, true, true] (.ret) ([(4, .bool false)]) [] [] (fun _ => by as_aux_lemma => kernel_rfl) trivial ?_
          refine Ends.then_ret ?_
          obtain rfl := Option.some.inj h
          have h := hr34
          refine Ends.body [] (.bool false) [] (by kernel_rfl) (fun w9 hRep => ?_)
          obtain rfl := Option.some.inj h
          exact ⟨rfl, hRep.ext⟩
         ·have h := br_f h hc46
          refine At.runR [] [2, 7, 9, 10] [true, true, true] (.normal) ([(2, .pointer (some ⟨B3, 0, none⟩)), (7, .slice a_t7 t7.length c_t7), (9, .bool (refutesB r_11 (([] : List Split) ++ t7))), (10, .int .i64 (checkE r_11))]) [] [] (fun _ => by as_aux_lemma => kernel_rfl) trivial ?_
          exact Ends.mid () (Option.some.inj h).symm (by kernel_rfl) (by kernel_rfl)
      ·replace hI : o34 = (.inr ()) := hI
       have h := hr34
       try rw [hI] at h
       obtain ⟨o35, h, hr35⟩ := bd h
       refine At.seq_mid (σ := Bool) (fun s => o35 = s) (fun s => [(4, .bool s)]) (fun s => []) ?_ (fun s hI => ?_)
       ·refine At.region ?_
        refine AtL.runR 3 [] [2, 7, 9, 182] [true, true, true] ([(2, .pointer (some ⟨B3, 0, none⟩)), (7, .slice a_t7 t7.length c_t7), (9, .bool (refutesB r_11 (([] : List Split) ++ t7))), (182, .bool ((checkE r_11) == (0 : Int)))]) [] [] (fun _ => by as_aux_lemma => kernel_rfl) trivial ?_
        refine AtL.bool 182 ((checkE r_11) == (0 : Int)) (by kernel_rfl) (fun hc37 => ?_) (fun hc37 => ?_)
        ·have h := br_t h hc37
         refine AtL.runR 3 [(1, 0, 0), (1, 1, 0), (1, 2, 0), (1, 3, 0), (1, 4, 0), (1, 5, 0), (1, 6, 0), (1, 7, 0), (1, 8, 0)] [182, 183, 184, 185] [true, true, true] ([(182, .bool true), (183, .bool (refutesB r_11 (([] : List Split) ++ t7))), (184, .agg (rcL a1 c1 p).toArray), (185, .slice a_t7 t7.length c_t7)]) [B3, 0, B3, 1, B3, 2, B3, 3, B3, 4, B3, 5, B3, 6, B3, 7, B3, 8] [0 < 1, 0 < 1, 0 < 1, 0 < 1, 0 < 1, 0 < 1, 0 < 1, 0 < 1, 0 < 1] (fun _ => by as_aux_lemma => kernel_rfl) ⟨Nat.one_pos, Nat.one_pos, Nat.one_pos, Nat.one_pos, Nat.one_pos, Nat.one_pos, Nat.one_pos, Nat.one_pos, Nat.one_pos, trivial⟩ ?_
         obtain ⟨r_38, hs40, h⟩ := bd h
         refine AtL.call 31 #[.agg (rcL a1 c1 p).toArray, .slice a_t7 t7.length c_t7] (some 186) (by kernel_rfl) _ (fun w8 hRep => rRefutes_w F p t7 a1 c1 a_t7 c_t7 w8 (hRep.toSl 0 rfl hs1.le hs1.big) (hRep.owSl 2 rfl xlen55) _ hs40) ?_
         rintro w8 e w9 hRep ⟨rfl, hE⟩
         refine ⟨_, _, _, rfl, rfl, hRep.ext' hE, ?_⟩
         refine AtL.runR 3 [] [189] [true, true, true] ([(189, .bool ((refutesB r_11 (([] : List Split) ++ t7)) == r_38))]) [] [] (fun _ => by as_aux_lemma => kernel_rfl) trivial ?_
         refine AtL.bool 189 ((refutesB r_11 (([] : List Split) ++ t7)) == r_38) (by kernel_rfl) (fun hc39 => ?_) (fun hc39 => ?_)
         ·have h := br_t h hc39
          refine AtL.call 12 #[] (some 190) (by kernel_rfl) _ (fun w8 hRep => known_c w8) ?_
          rintro w8 e w9 hRep ⟨rfl, hE⟩
          refine ⟨_, _, _, rfl, rfl, hRep.ext' hE, ?_⟩
          refine AtL.runR 2 [] [4] [true, true, true] ([(4, .bool true)]) [] [] (fun _ => by as_aux_lemma => kernel_rfl) trivial ?_
          refine AtL.nil (by kernel_rfl) ?_
          refine Ends.sel [4] [] ([(4, .bool true)]) ([]) (by kernel_rfl) (by kernel_rfl) (by kernel_rfl) ?_
          exact Ends.mid true (Option.some.inj h).symm (by kernel_rfl) (by kernel_rfl)
         ·have h := br_f h hc39
          refine AtL.runR 3 [] [4] [true, true, true] ([(4, .bool false)]) [] [] (fun _ => by as_aux_lemma => kernel_rfl) trivial ?_
          refine AtL.nil (by kernel_rfl) ?_
          refine Ends.sel [4] [] ([(4, .bool false)]) ([]) (by kernel_rfl) (by kernel_rfl) (by kernel_rfl) ?_
          exact Ends.mid false (Option.some.inj h).symm (by kernel_rfl) (by kernel_rfl)
        ·have h := br_f h hc37
         refine AtL.runR 10 [] [4] [true, true, true] ([(4, .bool false)]) [] [] (fun _ => by as_aux_lemma => kernel_rfl) trivial ?_
         refine AtL.nil (by kernel_rfl) ?_
         refine Ends.sel [4] [] ([(4, .bool false)]) ([]) (by kernel_rfl) (by kernel_rfl) (by kernel_rfl) ?_
         exact Ends.mid false (Option.some.inj h).symm (by kernel_rfl) (by kernel_rfl)
       ·revert hI; revert s; intro t436 hI
        replace hI : o35 = t436 := hI
        have h := hr35
        try rw [hI] at h
        refine At.runR [] [4] [] (.ret) ([(4, .bool t436)]) [] [] (fun _ => by as_aux_lemma => kernel_rfl) trivial ?_
        refine Ends.body [] (.bool t436) [] (by kernel_rfl) (fun w9 hRep => ?_)
        obtain rfl := Option.some.inj h
        exact ⟨rfl, hRep.ext⟩
end Go.Proofs.Ytojnpaenpaobcaa
