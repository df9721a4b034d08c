/- By an AI agent. No person has read it. -/
import Derived.Test.YtdcekiigkplmgaaWXT3
namespace Go.Proofs.Ytdcekiigkplmgaa
open Go.RowKit
set_option maxRecDepth 100000
set_option maxHeartbeats 4000000
noncomputable section
abbrev len64_n : Nat := 1
def len64_S (F : Nat) (x : Int) : Option (Int) := (ob (bif (decide (x ≥ (4294967296 : Int))) then (some ((Int.fdiv x (4294967296 : Int)), (32 : Int))) else (some (x, (0 : Int)))) (fun s1 => (ob (bif (decide (s1.1 ≥ (65536 : Int))) then (some ((Int.fdiv s1.1 (65536 : Int)), (IntKind.wrap IntKind.i64 (s1.2 + (16 : Int))))) else (some (s1.1, s1.2))) (fun s2 => (bif (decide (s2.1 ≥ (256 : Int))) then (bif (inB (IntKind.wrap IntKind.u8 (Int.fdiv s2.1 (256 : Int))) 256) then (some (IntKind.wrap IntKind.i64 ((IntKind.wrap IntKind.i64 (s2.2 + (8 : Int))) + (IntKind.wrap IntKind.i64 (bAt (ByteArray.mk (Array.mk (List.append (List.append (0 :: (1 :: (2 :: (2 :: (3 :: (3 :: (3 :: (3 :: (4 :: (4 :: (4 :: (4 :: (4 :: (4 :: (4 :: (4 :: (5 :: (5 :: (5 :: (5 :: (5 :: (5 :: (5 :: (5 :: (5 :: (5 :: (5 :: (5 :: (5 :: (5 :: (5 :: (5 :: (6 :: (6 :: (6 :: (6 :: (6 :: (6 :: (6 :: (6 :: (6 :: (6 :: (6 :: (6 :: (6 :: (6 :: (6 :: (6 :: (6 :: (6 :: (6 :: (6 :: (6 :: (6 :: (6 :: (6 :: (6 :: (6 :: (6 :: (6 :: (6 :: (6 :: (6 :: (6 :: [])))))))))))))))))))))))))))))))))))))))))))))))))))))))))))))))) (7 :: (7 :: (7 :: (7 :: (7 :: (7 :: (7 :: (7 :: (7 :: (7 :: (7 :: (7 :: (7 :: (7 :: (7 :: (7 :: (7 :: (7 :: (7 :: (7 :: (7 :: (7 :: (7 :: (7 :: (7 :: (7 :: (7 :: (7 :: (7 :: (7 :: (7 :: (7 :: (7 :: (7 :: (7 :: (7 :: (7 :: (7 :: (7 :: (7 :: (7 :: (7 :: (7 :: (7 :: (7 :: (7 :: (7 :: (7 :: (7 :: (7 :: (7 :: (7 :: (7 :: (7 :: (7 :: (7 :: (7 :: (7 :: (7 :: (7 :: (7 :: (7 :: (7 :: (7 :: []))))))))))))))))))))))))))))))))))))))))))))))))))))))))))))))))) (List.append (8 :: (8 :: (8 :: (8 :: (8 :: (8 :: (8 :: (8 :: (8 :: (8 :: (8 :: (8 :: (8 :: (8 :: (8 :: (8 :: (8 :: (8 :: (8 :: (8 :: (8 :: (8 :: (8 :: (8 :: (8 :: (8 :: (8 :: (8 :: (8 :: (8 :: (8 :: (8 :: (8 :: (8 :: (8 :: (8 :: (8 :: (8 :: (8 :: (8 :: (8 :: (8 :: (8 :: (8 :: (8 :: (8 :: (8 :: (8 :: (8 :: (8 :: (8 :: (8 :: (8 :: (8 :: (8 :: (8 :: (8 :: (8 :: (8 :: (8 :: (8 :: (8 :: (8 :: (8 :: [])))))))))))))))))))))))))))))))))))))))))))))))))))))))))))))))) (8 :: (8 :: (8 :: (8 :: (8 :: (8 :: (8 :: (8 :: (8 :: (8 :: (8 :: (8 :: (8 :: (8 :: (8 :: (8 :: (8 :: (8 :: (8 :: (8 :: (8 :: (8 :: (8 :: (8 :: (8 :: (8 :: (8 :: (8 :: (8 :: (8 :: (8 :: (8 :: (8 :: (8 :: (8 :: (8 :: (8 :: (8 :: (8 :: (8 :: (8 :: (8 :: (8 :: (8 :: (8 :: (8 :: (8 :: (8 :: (8 :: (8 :: (8 :: (8 :: (8 :: (8 :: (8 :: (8 :: (8 :: (8 :: (8 :: (8 :: (8 :: (8 :: (8 :: (8 :: [])))))))))))))))))))))))))))))))))))))))))))))))))))))))))))))))))))) (IntKind.wrap IntKind.u8 (Int.fdiv s2.1 (256 : Int))).toNat))))) else none) else (bif (inB (IntKind.wrap IntKind.u8 s2.1) 256) then (some (IntKind.wrap IntKind.i64 (s2.2 + (IntKind.wrap IntKind.i64 (bAt (ByteArray.mk (Array.mk (List.append (List.append (0 :: (1 :: (2 :: (2 :: (3 :: (3 :: (3 :: (3 :: (4 :: (4 :: (4 :: (4 :: (4 :: (4 :: (4 :: (4 :: (5 :: (5 :: (5 :: (5 :: (5 :: (5 :: (5 :: (5 :: (5 :: (5 :: (5 :: (5 :: (5 :: (5 :: (5 :: (5 :: (6 :: (6 :: (6 :: (6 :: (6 :: (6 :: (6 :: (6 :: (6 :: (6 :: (6 :: (6 :: (6 :: (6 :: (6 :: (6 :: (6 :: (6 :: (6 :: (6 :: (6 :: (6 :: (6 :: (6 :: (6 :: (6 :: (6 :: (6 :: (6 :: (6 :: (6 :: (6 :: [])))))))))))))))))))))))))))))))))))))))))))))))))))))))))))))))) (7 :: (7 :: (7 :: (7 :: (7 :: (7 :: (7 :: (7 :: (7 :: (7 :: (7 :: (7 :: (7 :: (7 :: (7 :: (7 :: (7 :: (7 :: (7 :: (7 :: (7 :: (7 :: (7 :: (7 :: (7 :: (7 :: (7 :: (7 :: (7 :: (7 :: (7 :: (7 :: (7 :: (7 :: (7 :: (7 :: (7 :: (7 :: (7 :: (7 :: (7 :: (7 :: (7 :: (7 :: (7 :: (7 :: (7 :: (7 :: (7 :: (7 :: (7 :: (7 :: (7 :: (7 :: (7 :: (7 :: (7 :: (7 :: (7 :: (7 :: (7 :: (7 :: (7 :: (7 :: []))))))))))))))))))))))))))))))))))))))))))))))))))))))))))))))))) (List.append (8 :: (8 :: (8 :: (8 :: (8 :: (8 :: (8 :: (8 :: (8 :: (8 :: (8 :: (8 :: (8 :: (8 :: (8 :: (8 :: (8 :: (8 :: (8 :: (8 :: (8 :: (8 :: (8 :: (8 :: (8 :: (8 :: (8 :: (8 :: (8 :: (8 :: (8 :: (8 :: (8 :: (8 :: (8 :: (8 :: (8 :: (8 :: (8 :: (8 :: (8 :: (8 :: (8 :: (8 :: (8 :: (8 :: (8 :: (8 :: (8 :: (8 :: (8 :: (8 :: (8 :: (8 :: (8 :: (8 :: (8 :: (8 :: (8 :: (8 :: (8 :: (8 :: (8 :: (8 :: [])))))))))))))))))))))))))))))))))))))))))))))))))))))))))))))))) (8 :: (8 :: (8 :: (8 :: (8 :: (8 :: (8 :: (8 :: (8 :: (8 :: (8 :: (8 :: (8 :: (8 :: (8 :: (8 :: (8 :: (8 :: (8 :: (8 :: (8 :: (8 :: (8 :: (8 :: (8 :: (8 :: (8 :: (8 :: (8 :: (8 :: (8 :: (8 :: (8 :: (8 :: (8 :: (8 :: (8 :: (8 :: (8 :: (8 :: (8 :: (8 :: (8 :: (8 :: (8 :: (8 :: (8 :: (8 :: (8 :: (8 :: (8 :: (8 :: (8 :: (8 :: (8 :: (8 :: (8 :: (8 :: (8 :: (8 :: (8 :: (8 :: (8 :: (8 :: [])))))))))))))))))))))))))))))))))))))))))))))))))))))))))))))))))))) (IntKind.wrap IntKind.u8 s2.1).toNat))))) else none))))))
abbrev len64_I : Sch := ⟨[(0, .c (.t (.int .u64)))], []⟩
abbrev len64_O : FSch := ⟨.one (.c (.t (.int .i64))), []⟩
def len64_E (F : Nat) : Ent := ⟨120, 1, len64_I, len64_O, fun s => len64_S F s, []⟩
theorem len64_ok (F : Nat) : FnSem Try.prog 120 1 len64_I len64_O (fun s => len64_S F s) :=
  fn_ok (call := callD Try.prog 70 plans (mul64h_T F) 20) (Fu := 70) (pl := plOf plans 120) (d := 1000) (an := (.two .no (.two (.join [(.normal, ⟨[(0, .c (.t (.int .u64))), (2, .c (.t (.int .i64)))], []⟩)] .no) (.two (.join [(.normal, ⟨[(0, .c (.t (.int .u64))), (2, .c (.t (.int .i64)))], []⟩)] .no) .no)))) (callD_ok progMixed 70 plansOk (mul64h_T_ok F) 20) progMixed (by kernel_rfl) (anP_ok (c := bodyOf Try.prog 120) (p := []) (⟨trivial, ⟨trivial, ⟨trivial, trivial⟩⟩⟩)) (fun s => by kernel_rfl)
def len64_T (F : Nat) : List Ent := len64_E F :: mul64h_T F
theorem len64_T_ok (F : Nat) : EntsOk Try.prog (len64_T F) := ⟨⟨by kernel_rfl, len64_ok F⟩, mul64h_T_ok F⟩
abbrev lz64_n : Nat := 1
def lz64_S (F : Nat) (x : Int) : Option (Int) := (ob (len64_S F x) (fun r => (some (IntKind.wrap IntKind.i64 ((64 : Int) - r)))))
abbrev lz64_I : Sch := ⟨[(0, .c (.t (.int .u64)))], []⟩
abbrev lz64_O : FSch := ⟨.one (.c (.t (.int .i64))), []⟩
def lz64_E (F : Nat) : Ent := ⟨111, 1, lz64_I, lz64_O, fun s => lz64_S F s, []⟩
theorem lz64_ok (F : Nat) : FnSem Try.prog 111 1 lz64_I lz64_O (fun s => lz64_S F s) :=
  fn_ok (call := callD Try.prog 70 plans (len64_T F) 20) (Fu := 70) (pl := plOf plans 111) (d := 1000) (an := .no) (callD_ok progMixed 70 plansOk (len64_T_ok F) 20) progMixed (by kernel_rfl) (anP_ok (c := bodyOf Try.prog 111) (p := []) (trivial)) (fun s => by kernel_rfl)
def lz64_T (F : Nat) : List Ent := lz64_E F :: len64_T F
theorem lz64_T_ok (F : Nat) : EntsOk Try.prog (lz64_T F) := ⟨⟨by kernel_rfl, lz64_ok F⟩, len64_T_ok F⟩
abbrev div64_n : Nat := 3
def div64_L0 (F : Nat) : Nat → Int → Int → Int → Int → Int → Int → Int → Int → Int → Option ((Int × (Int × (Int × (Int × (Int × (Int × (Int × Int))))))))
  | 0, _, _, _, _, _, _, _, _, _ => none
  | n_ + 1, y1, s1, yn1, yn0, un32, un1, un0, q1, rhat => (ob (bif (decide (q1 ≥ (4294967296 : Int))) then (some (.inl (y1, s1, yn1, yn0, un32, un1, un0, q1, rhat))) else (bif (decide ((IntKind.wrap IntKind.u64 (q1 * yn0)) > (IntKind.wrap IntKind.u64 ((IntKind.wrap IntKind.u64 ((4294967296 : Int) * rhat)) + un1)))) then (some (.inl (y1, s1, yn1, yn0, un32, un1, un0, q1, rhat))) else (some (.inr (y1, s1, yn1, yn0, un32, un1, un0, q1))))) (fun o_ => su o_ (fun s2 => (bif (decide ((IntKind.wrap IntKind.u64 (s2.2.2.2.2.2.2.2.2 + s2.2.2.1)) ≥ (4294967296 : Int))) then (some (s2.1, s2.2.1, s2.2.2.1, s2.2.2.2.1, s2.2.2.2.2.1, s2.2.2.2.2.2.1, s2.2.2.2.2.2.2.1, (IntKind.wrap IntKind.u64 (s2.2.2.2.2.2.2.2.1 - (1 : Int))))) else (div64_L0 F n_ s2.1 s2.2.1 s2.2.2.1 s2.2.2.2.1 s2.2.2.2.2.1 s2.2.2.2.2.2.1 s2.2.2.2.2.2.2.1 (IntKind.wrap IntKind.u64 (s2.2.2.2.2.2.2.2.1 - (1 : Int))) (IntKind.wrap IntKind.u64 (s2.2.2.2.2.2.2.2.2 + s2.2.2.1))))) (fun s3 => (some (s3.1, s3.2.1, s3.2.2.1, s3.2.2.2.1, s3.2.2.2.2.1, s3.2.2.2.2.2.1, s3.2.2.2.2.2.2.1, s3.2.2.2.2.2.2.2)))))
abbrev div64_L0_s : Sch := ⟨[(2, .c (.t (.int .u64))), (8, .c (.t (.int .u64))), (9, .c (.t (.int .u64))), (10, .c (.t (.int .u64))), (11, .c (.t (.int .u64))), (13, .c (.t (.int .u64))), (14, .c (.t (.int .u64))), (15, .c (.t (.int .u64))), (16, .c (.t (.int .u64)))], []⟩
abbrev div64_L0_o : Outs := [((.exit 0), ⟨[(2, .c (.t (.int .u64))), (8, .c (.t (.int .u64))), (9, .c (.t (.int .u64))), (10, .c (.t (.int .u64))), (11, .c (.t (.int .u64))), (13, .c (.t (.int .u64))), (14, .c (.t (.int .u64))), (15, .c (.t (.int .u64)))], []⟩)]
theorem div64_L0_ok (F : Nat) : ∀ n, LoopSem Try.prog 0 (tmpsOf Try.prog 96 div64_n) (subAt (bodyOf Try.prog 96) [1, 1, 1, 1, 1, 1, 1, 1, 1, 1, 1, 1, 1, 1, 0, 0, 0]) div64_L0_s div64_L0_o (fun s => (div64_L0 F n s.1 s.2.1 s.2.2.1 s.2.2.2.1 s.2.2.2.2.1 s.2.2.2.2.2.1 s.2.2.2.2.2.2.1 s.2.2.2.2.2.2.2.1 s.2.2.2.2.2.2.2.2)) :=
  loop_ok (m := 0) (N := tmpsOf Try.prog 96 div64_n) (S := div64_L0_s) (o := div64_L0_o) (call := callD Try.prog 70 plans (lz64_T F) 20) (Fu := 70) (pl := (plOf plans 96)) (d := 1000) (an := (.two (.join [(.normal, ⟨[(2, .c (.t (.int .u64))), (8, .c (.t (.int .u64))), (9, .c (.t (.int .u64))), (10, .c (.t (.int .u64))), (11, .c (.t (.int .u64))), (13, .c (.t (.int .u64))), (14, .c (.t (.int .u64))), (15, .c (.t (.int .u64))), (16, .c (.t (.int .u64)))], []⟩), ((.exit 0), ⟨[(2, .c (.t (.int .u64))), (8, .c (.t (.int .u64))), (9, .c (.t (.int .u64))), (10, .c (.t (.int .u64))), (11, .c (.t (.int .u64))), (13, .c (.t (.int .u64))), (14, .c (.t (.int .u64))), (15, .c (.t (.int .u64)))], []⟩)] .no) .no)) (M := fun n (s : div64_L0_s.ty) => (div64_L0 F n s.1 s.2.1 s.2.2.1 s.2.2.2.1 s.2.2.2.2.1 s.2.2.2.2.2.1 s.2.2.2.2.2.2.1 s.2.2.2.2.2.2.2.1 s.2.2.2.2.2.2.2.2)) (callD_ok progMixed 70 plansOk (lz64_T_ok F) 20) progMixed (anP_ok (c := bodyOf Try.prog 96) (p := [1, 1, 1, 1, 1, 1, 1, 1, 1, 1, 1, 1, 1, 1, 0, 0, 0]) (⟨trivial, trivial⟩)) (by kernel_rfl) (fun _ => rfl) (fun n s => by
    show (div64_L0 F (n + 1) s.1 s.2.1 s.2.2.1 s.2.2.2.1 s.2.2.2.2.1 s.2.2.2.2.2.1 s.2.2.2.2.2.2.1 s.2.2.2.2.2.2.2.1 s.2.2.2.2.2.2.2.2) = _
    kernel_rfl)
def div64_L1 (F : Nat) : Nat → Int → Int → Int → Int → Int → Int → Int → Int → Int → Option ((Int × (Int × (Int × (Int × (Int × Int))))))
  | 0, _, _, _, _, _, _, _, _, _ => none
  | n_ + 1, y2, s5, yn11, yn01, un01, q11, rhat1, un21, q0 => (ob (bif (decide (q0 ≥ (4294967296 : Int))) then (some (.inl (y2, s5, yn11, yn01, un01, q11, rhat1, un21, q0))) else (bif (decide ((IntKind.wrap IntKind.u64 (q0 * yn01)) > (IntKind.wrap IntKind.u64 ((IntKind.wrap IntKind.u64 ((4294967296 : Int) * rhat1)) + un01)))) then (some (.inl (y2, s5, yn11, yn01, un01, q11, rhat1, un21, q0))) else (some (.inr (y2, s5, un01, q11, un21, q0))))) (fun o_ => su o_ (fun s6 => (bif (decide ((IntKind.wrap IntKind.u64 (s6.2.2.2.2.2.2.1 + s6.2.2.1)) ≥ (4294967296 : Int))) then (some (s6.1, s6.2.1, s6.2.2.2.2.1, s6.2.2.2.2.2.1, s6.2.2.2.2.2.2.2.1, (IntKind.wrap IntKind.u64 (s6.2.2.2.2.2.2.2.2 - (1 : Int))))) else (div64_L1 F n_ s6.1 s6.2.1 s6.2.2.1 s6.2.2.2.1 s6.2.2.2.2.1 s6.2.2.2.2.2.1 (IntKind.wrap IntKind.u64 (s6.2.2.2.2.2.2.1 + s6.2.2.1)) s6.2.2.2.2.2.2.2.1 (IntKind.wrap IntKind.u64 (s6.2.2.2.2.2.2.2.2 - (1 : Int)))))) (fun s7 => (some (s7.1, s7.2.1, s7.2.2.1, s7.2.2.2.1, s7.2.2.2.2.1, s7.2.2.2.2.2)))))
abbrev div64_L1_s : Sch := ⟨[(2, .c (.t (.int .u64))), (8, .c (.t (.int .u64))), (9, .c (.t (.int .u64))), (10, .c (.t (.int .u64))), (14, .c (.t (.int .u64))), (15, .c (.t (.int .u64))), (16, .c (.t (.int .u64))), (17, .c (.t (.int .u64))), (18, .c (.t (.int .u64)))], []⟩
abbrev div64_L1_o : Outs := [((.exit 2), ⟨[(2, .c (.t (.int .u64))), (8, .c (.t (.int .u64))), (14, .c (.t (.int .u64))), (15, .c (.t (.int .u64))), (17, .c (.t (.int .u64))), (18, .c (.t (.int .u64)))], []⟩)]
theorem div64_L1_ok (F : Nat) : ∀ n, LoopSem Try.prog 0 (tmpsOf Try.prog 96 div64_n) (subAt (bodyOf Try.prog 96) [1, 1, 1, 1, 1, 1, 1, 1, 1, 1, 1, 1, 1, 1, 1, 1, 1, 1, 0, 0, 0]) div64_L1_s div64_L1_o (fun s => (div64_L1 F n s.1 s.2.1 s.2.2.1 s.2.2.2.1 s.2.2.2.2.1 s.2.2.2.2.2.1 s.2.2.2.2.2.2.1 s.2.2.2.2.2.2.2.1 s.2.2.2.2.2.2.2.2)) :=
  loop_ok (m := 0) (N := tmpsOf Try.prog 96 div64_n) (S := div64_L1_s) (o := div64_L1_o) (call := callD Try.prog 70 plans (lz64_T F) 20) (Fu := 70) (pl := (plOf plans 96)) (d := 1000) (an := (.two (.join [(.normal, ⟨[(2, .c (.t (.int .u64))), (8, .c (.t (.int .u64))), (9, .c (.t (.int .u64))), (10, .c (.t (.int .u64))), (14, .c (.t (.int .u64))), (15, .c (.t (.int .u64))), (16, .c (.t (.int .u64))), (17, .c (.t (.int .u64))), (18, .c (.t (.int .u64)))], []⟩), ((.exit 2), ⟨[(2, .c (.t (.int .u64))), (8, .c (.t (.int .u64))), (14, .c (.t (.int .u64))), (15, .c (.t (.int .u64))), (17, .c (.t (.int .u64))), (18, .c (.t (.int .u64)))], []⟩)] .no) .no)) (M := fun n (s : div64_L1_s.ty) => (div64_L1 F n s.1 s.2.1 s.2.2.1 s.2.2.2.1 s.2.2.2.2.1 s.2.2.2.2.2.1 s.2.2.2.2.2.2.1 s.2.2.2.2.2.2.2.1 s.2.2.2.2.2.2.2.2)) (callD_ok progMixed 70 plansOk (lz64_T_ok F) 20) progMixed (anP_ok (c := bodyOf Try.prog 96) (p := [1, 1, 1, 1, 1, 1, 1, 1, 1, 1, 1, 1, 1, 1, 1, 1, 1, 1, 0, 0, 0]) (⟨trivial, trivial⟩)) (by kernel_rfl) (fun _ => rfl) (fun n s => by
    show (div64_L1 F (n + 1) s.1 s.2.1 s.2.2.1 s.2.2.2.1 s.2.2.2.2.1 s.2.2.2.2.2.1 s.2.2.2.2.2.2.1 s.2.2.2.2.2.2.2.1 s.2.2.2.2.2.2.2.2) = _
    kernel_rfl)
def div64_S (F : Nat) (hi : Int) (lo : Int) (y : Int) : Option ((Int × Int)) := (bif (y == (0 : Int)) then none else (bif (decide (y ≤ hi)) then none else (bif (hi == (0 : Int)) then (bif (!(y == (0 : Int))) then (bif (!(y == (0 : Int))) then (some ((IntKind.wrap IntKind.u64 (Int.tdiv lo y)), (Int.tmod lo y))) else none) else none) else (ob (lz64_S F y) (fun r => (bif (decide ((0 : Int) ≤ (IntKind.wrap IntKind.u64 r))) then (bif (decide ((0 : Int) ≤ (IntKind.wrap IntKind.u64 r))) then (bif (decide ((0 : Int) ≤ (IntKind.wrap IntKind.u64 ((64 : Int) - (IntKind.wrap IntKind.u64 r))))) then (bif (decide ((0 : Int) ≤ (IntKind.wrap IntKind.u64 r))) then (bif (!((Int.fdiv (IntKind.wrap IntKind.u64 (y * ((2 : Int) ^ (Min.min (IntKind.wrap IntKind.u64 r).toNat 64)))) (4294967296 : Int)) == (0 : Int))) then (ob (div64_L0 F F (IntKind.wrap IntKind.u64 (y * ((2 : Int) ^ (Min.min (IntKind.wrap IntKind.u64 r).toNat 64)))) (IntKind.wrap IntKind.u64 r) (Int.fdiv (IntKind.wrap IntKind.u64 (y * ((2 : Int) ^ (Min.min (IntKind.wrap IntKind.u64 r).toNat 64)))) (4294967296 : Int)) (IntKind.wrap IntKind.u64 ((BitVec.toNat ((BitVec.ofInt 64 (IntKind.wrap IntKind.u64 (y * ((2 : Int) ^ (Min.min (IntKind.wrap IntKind.u64 r).toNat 64))))) &&& (BitVec.ofInt 64 (4294967295 : Int)))) : Int)) (IntKind.wrap IntKind.u64 (((BitVec.toNat ((BitVec.ofInt 64 (IntKind.wrap IntKind.u64 (hi * ((2 : Int) ^ (Min.min (IntKind.wrap IntKind.u64 r).toNat 64))))) ||| (BitVec.ofInt 64 (Int.fdiv lo ((2 : Int) ^ (Min.min (IntKind.wrap IntKind.u64 ((64 : Int) - (IntKind.wrap IntKind.u64 r))).toNat 64)))))) : Nat) : Int)) (Int.fdiv (IntKind.wrap IntKind.u64 (lo * ((2 : Int) ^ (Min.min (IntKind.wrap IntKind.u64 r).toNat 64)))) (4294967296 : Int)) (IntKind.wrap IntKind.u64 ((BitVec.toNat ((BitVec.ofInt 64 (IntKind.wrap IntKind.u64 (lo * ((2 : Int) ^ (Min.min (IntKind.wrap IntKind.u64 r).toNat 64))))) &&& (BitVec.ofInt 64 (4294967295 : Int)))) : Int)) (IntKind.wrap IntKind.u64 (Int.tdiv (IntKind.wrap IntKind.u64 (((BitVec.toNat ((BitVec.ofInt 64 (IntKind.wrap IntKind.u64 (hi * ((2 : Int) ^ (Min.min (IntKind.wrap IntKind.u64 r).toNat 64))))) ||| (BitVec.ofInt 64 (Int.fdiv lo ((2 : Int) ^ (Min.min (IntKind.wrap IntKind.u64 ((64 : Int) - (IntKind.wrap IntKind.u64 r))).toNat 64)))))) : Nat) : Int)) (Int.fdiv (IntKind.wrap IntKind.u64 (y * ((2 : Int) ^ (Min.min (IntKind.wrap IntKind.u64 r).toNat 64)))) (4294967296 : Int)))) (IntKind.wrap IntKind.u64 ((IntKind.wrap IntKind.u64 (((BitVec.toNat ((BitVec.ofInt 64 (IntKind.wrap IntKind.u64 (hi * ((2 : Int) ^ (Min.min (IntKind.wrap IntKind.u64 r).toNat 64))))) ||| (BitVec.ofInt 64 (Int.fdiv lo ((2 : Int) ^ (Min.min (IntKind.wrap IntKind.u64 ((64 : Int) - (IntKind.wrap IntKind.u64 r))).toNat 64)))))) : Nat) : Int)) - (IntKind.wrap IntKind.u64 ((IntKind.wrap IntKind.u64 (Int.tdiv (IntKind.wrap IntKind.u64 (((BitVec.toNat ((BitVec.ofInt 64 (IntKind.wrap IntKind.u64 (hi * ((2 : Int) ^ (Min.min (IntKind.wrap IntKind.u64 r).toNat 64))))) ||| (BitVec.ofInt 64 (Int.fdiv lo ((2 : Int) ^ (Min.min (IntKind.wrap IntKind.u64 ((64 : Int) - (IntKind.wrap IntKind.u64 r))).toNat 64)))))) : Nat) : Int)) (Int.fdiv (IntKind.wrap IntKind.u64 (y * ((2 : Int) ^ (Min.min (IntKind.wrap IntKind.u64 r).toNat 64)))) (4294967296 : Int)))) * (Int.fdiv (IntKind.wrap IntKind.u64 (y * ((2 : Int) ^ (Min.min (IntKind.wrap IntKind.u64 r).toNat 64)))) (4294967296 : Int))))))) (fun s4 => (bif (!(s4.2.2.1 == (0 : Int))) then (ob (div64_L1 F F s4.1 s4.2.1 s4.2.2.1 s4.2.2.2.1 s4.2.2.2.2.2.2.1 s4.2.2.2.2.2.2.2 (IntKind.wrap IntKind.u64 ((IntKind.wrap IntKind.u64 ((IntKind.wrap IntKind.u64 ((IntKind.wrap IntKind.u64 (s4.2.2.2.2.1 * (4294967296 : Int))) + s4.2.2.2.2.2.1)) - (IntKind.wrap IntKind.u64 (s4.2.2.2.2.2.2.2 * s4.1)))) - (IntKind.wrap IntKind.u64 ((IntKind.wrap IntKind.u64 (Int.tdiv (IntKind.wrap IntKind.u64 ((IntKind.wrap IntKind.u64 ((IntKind.wrap IntKind.u64 (s4.2.2.2.2.1 * (4294967296 : Int))) + s4.2.2.2.2.2.1)) - (IntKind.wrap IntKind.u64 (s4.2.2.2.2.2.2.2 * s4.1)))) s4.2.2.1)) * s4.2.2.1)))) (IntKind.wrap IntKind.u64 ((IntKind.wrap IntKind.u64 ((IntKind.wrap IntKind.u64 (s4.2.2.2.2.1 * (4294967296 : Int))) + s4.2.2.2.2.2.1)) - (IntKind.wrap IntKind.u64 (s4.2.2.2.2.2.2.2 * s4.1)))) (IntKind.wrap IntKind.u64 (Int.tdiv (IntKind.wrap IntKind.u64 ((IntKind.wrap IntKind.u64 ((IntKind.wrap IntKind.u64 (s4.2.2.2.2.1 * (4294967296 : Int))) + s4.2.2.2.2.2.1)) - (IntKind.wrap IntKind.u64 (s4.2.2.2.2.2.2.2 * s4.1)))) s4.2.2.1))) (fun s8 => (bif (decide ((0 : Int) ≤ s8.2.1)) then (some ((IntKind.wrap IntKind.u64 ((IntKind.wrap IntKind.u64 (s8.2.2.2.1 * (4294967296 : Int))) + s8.2.2.2.2.2)), (Int.fdiv (IntKind.wrap IntKind.u64 ((IntKind.wrap IntKind.u64 ((IntKind.wrap IntKind.u64 (s8.2.2.2.2.1 * (4294967296 : Int))) + s8.2.2.1)) - (IntKind.wrap IntKind.u64 (s8.2.2.2.2.2 * s8.1)))) ((2 : Int) ^ (Min.min s8.2.1.toNat 64))))) else none))) else none))) else none) else none) else none) else none) else none))))))
abbrev div64_I : Sch := ⟨[(0, .c (.t (.int .u64))), (1, .c (.t (.int .u64))), (2, .c (.t (.int .u64)))], []⟩
abbrev div64_O : FSch := ⟨.tu [(false, [.t (.int .u64)]), (false, [.t (.int .u64)])], []⟩
def div64_E (F : Nat) : Ent := ⟨96, 3, div64_I, div64_O, fun s => div64_S F s.1 s.2.1 s.2.2, []⟩
theorem div64_ok (F : Nat) : FnSem Try.prog 96 3 div64_I div64_O (fun s => div64_S F s.1 s.2.1 s.2.2) :=
  fn_ok (call := callD Try.prog 70 plans (lz64_T F) 20) (Fu := 70) (pl := plOf plans 96) (d := 1000) (an := (.two .no (.two .no (.two .no (.two .no (.two .no (.two .no (.two .no (.two .no (.two .no (.two .no (.two .no (.two .no (.two .no (.two .no (.two (.one (.loop div64_L0_s div64_L0_o (fun s => (div64_L0 F F s.1 s.2.1 s.2.2.1 s.2.2.2.1 s.2.2.2.2.1 s.2.2.2.2.2.1 s.2.2.2.2.2.2.1 s.2.2.2.2.2.2.2.1 s.2.2.2.2.2.2.2.2)))) (.two .no (.two .no (.two .no (.two (.one (.loop div64_L1_s div64_L1_o (fun s => (div64_L1 F F s.1 s.2.1 s.2.2.1 s.2.2.2.1 s.2.2.2.2.1 s.2.2.2.2.2.1 s.2.2.2.2.2.2.1 s.2.2.2.2.2.2.2.1 s.2.2.2.2.2.2.2.2)))) .no)))))))))))))))))))) (callD_ok progMixed 70 plansOk (lz64_T_ok F) 20) progMixed (by kernel_rfl) (anP_ok (c := bodyOf Try.prog 96) (p := []) (⟨trivial, ⟨trivial, ⟨trivial, ⟨trivial, ⟨trivial, ⟨trivial, ⟨trivial, ⟨trivial, ⟨trivial, ⟨trivial, ⟨trivial, ⟨trivial, ⟨trivial, ⟨trivial, ⟨(div64_L0_ok F F), ⟨trivial, ⟨trivial, ⟨trivial, ⟨(div64_L1_ok F F), trivial⟩⟩⟩⟩⟩⟩⟩⟩⟩⟩⟩⟩⟩⟩⟩⟩⟩⟩⟩)) (fun s => by kernel_rfl)
def div64_T (F : Nat) : List Ent := div64_E F :: lz64_T F
theorem div64_T_ok (F : Nat) : EntsOk Try.prog (div64_T F) := ⟨⟨by kernel_rfl, div64_ok F⟩, lz64_T_ok F⟩
abbrev prod_n : Nat := 2
def prod_S (F : Nat) (a : Int) (b : Int) : Option ((Int × (Int × Bool))) := (ob (magn_S F a) (fun r => (ob (magn_S F b) (fun r1 => (ob (mul64h_S F r.1 r1.1) (fun r2 => (bif (!(r.2 == r1.2)) then (some (r2.1, (r2.2, ((IntKind.wrap IntKind.u64 ((BitVec.toNat ((BitVec.ofInt 64 r2.1) ||| (BitVec.ofInt 64 r2.2))) : Int)) != (0 : Int))))) else (some (r2.1, (r2.2, false))))))))))
abbrev prod_I : Sch := ⟨[(0, .c (.t (.int .i64))), (1, .c (.t (.int .i64)))], []⟩
abbrev prod_O : FSch := ⟨.one (.ag [.t (.pair (.int .u64) (.pair (.int .u64) .bool))]), []⟩
def prod_E (F : Nat) : Ent := ⟨61, 2, prod_I, prod_O, fun s => prod_S F s.1 s.2, []⟩
theorem prod_ok (F : Nat) : FnSem Try.prog 61 2 prod_I prod_O (fun s => prod_S F s.1 s.2) :=
  fn_ok (call := callD Try.prog 70 plans (div64_T F) 20) (Fu := 70) (pl := plOf plans 61) (d := 1000) (an := .no) (callD_ok progMixed 70 plansOk (div64_T_ok F) 20) progMixed (by kernel_rfl) (anP_ok (c := bodyOf Try.prog 61) (p := []) (trivial)) (fun s => by kernel_rfl)
def prod_T (F : Nat) : List Ent := prod_E F :: div64_T F
theorem prod_T_ok (F : Nat) : EntsOk Try.prog (prod_T F) := ⟨⟨by kernel_rfl, prod_ok F⟩, div64_T_ok F⟩
abbrev over_n : Nat := 2
def over_S (F : Nat) (w : (Int × (Int × Bool))) (c : Int) : Option ((Int × (Int × Bool))) := (bif (decide (w.1 ≥ (IntKind.wrap IntKind.u64 c))) then (some ((0 : Int), (0 : Int), false)) else (ob (div64_S F w.1 w.2.1 (IntKind.wrap IntKind.u64 c)) (fun r => (bif (decide (r.1 > (1000000000000000 : Int))) then (some ((0 : Int), (0 : Int), false)) else (ob (bif w.2.2 then (some (c, (IntKind.wrap IntKind.i64 ((0 : Int) - (IntKind.wrap IntKind.i64 r.1))), (IntKind.wrap IntKind.i64 ((0 : Int) - (IntKind.wrap IntKind.i64 r.2))))) else (some (c, (IntKind.wrap IntKind.i64 r.1), (IntKind.wrap IntKind.i64 r.2)))) (fun s1 => (bif (decide (s1.2.2 < (0 : Int))) then (some ((IntKind.wrap IntKind.i64 (s1.2.1 - (1 : Int))), (IntKind.wrap IntKind.i64 (s1.2.2 + s1.1)), true)) else (some (s1.2.1, s1.2.2, true)))))))))
abbrev over_I : Sch := ⟨[(0, .ag [.t (.pair (.int .u64) (.pair (.int .u64) .bool))]), (1, .c (.t (.int .i64)))], []⟩
abbrev over_O : FSch := ⟨.tu [(false, [.t (.int .i64)]), (false, [.t (.int .i64)]), (false, [.t .bool])], []⟩
def over_E (F : Nat) : Ent := ⟨62, 2, over_I, over_O, fun s => over_S F s.1 s.2, []⟩
theorem over_ok (F : Nat) : FnSem Try.prog 62 2 over_I over_O (fun s => over_S F s.1 s.2) :=
  fn_ok (call := callD Try.prog 70 plans (prod_T F) 20) (Fu := 70) (pl := plOf plans 62) (d := 1000) (an := (.two .no (.two .no (.two .no (.two .no (.two .no (.two (.join [(.normal, ⟨[(1, .c (.t (.int .i64))), (4, .c (.t (.int .i64))), (5, .c (.t (.int .i64)))], []⟩)] .no) .no))))))) (callD_ok progMixed 70 plansOk (prod_T_ok F) 20) progMixed (by kernel_rfl) (anP_ok (c := bodyOf Try.prog 62) (p := []) (⟨trivial, ⟨trivial, ⟨trivial, ⟨trivial, ⟨trivial, ⟨trivial, trivial⟩⟩⟩⟩⟩⟩)) (fun s => by kernel_rfl)
def over_T (F : Nat) : List Ent := over_E F :: prod_T F
theorem over_T_ok (F : Nat) : EntsOk Try.prog (over_T F) := ⟨⟨by kernel_rfl, over_ok F⟩, prod_T_ok F⟩
abbrev indexI_n : Nat := 2
def indexI_L0 (F : Nat) (t7 : Int) (g0 : (List Int)) : Nat → Int → Option ((Int × (List Int)) ⊕ (List Int))
  | 0, _ => none
  | n_ + 1, t8 => (bif (decide (t8 < t7)) then (bif (inB t8 (g0.length - 0)) then (bif (decide ((nth g0 (0 : Int) t8.toNat) < (-1000000000000000 : Int))) then (some (.inl (t8, g0))) else (bif (decide ((nth g0 (0 : Int) t8.toNat) > (1000000000000000 : Int))) then (some (.inl (t8, g0))) else (indexI_L0 F t7 g0 n_ (IntKind.wrap IntKind.i64 (t8 + (1 : Int)))))) else none) else (some (.inr g0)))
abbrev indexI_L0_s : Sch := ⟨[(0, .c (.k (.sl 0 1))), (1, .c (.k (.lit (.func (.func 93) ⟨[]⟩ ⟨[]⟩)))), (7, .c (.t (.int .i64))), (8, .c (.t (.int .i64)))], [.ro (.int .i64)]⟩
abbrev indexI_L0_o : Outs := [(.ret, ⟨[(4, .c (.t (.int .i64)))], [.ro (.int .i64)]⟩), ((.exit 0), ⟨[], [.ro (.int .i64)]⟩)]
theorem indexI_L0_ok (F : Nat) : ∀ n, LoopSem Try.prog 1 (tmpsOf Try.prog 58 indexI_n) (subAt (bodyOf Try.prog 58) [1, 0, 1, 0, 0]) indexI_L0_s indexI_L0_o (fun s => (indexI_L0 F s.1.1 s.2 n s.1.2)) :=
  loop_ok (m := 1) (N := tmpsOf Try.prog 58 indexI_n) (S := indexI_L0_s) (o := indexI_L0_o) (call := callD Try.prog 70 plans (over_T F) 20) (Fu := 70) (pl := (plOf plans 58)) (d := 1000) (an := .no) (M := fun n (s : indexI_L0_s.ty) => (indexI_L0 F s.1.1 s.2 n s.1.2)) (callD_ok progMixed 70 plansOk (over_T_ok F) 20) progMixed (anP_ok (c := bodyOf Try.prog 58) (p := [1, 0, 1, 0, 0]) (trivial)) (by kernel_rfl) (fun _ => rfl) (fun n s => by
    show (indexI_L0 F s.1.1 s.2 (n + 1) s.1.2) = _
    kernel_rfl)
def indexI_S (F : Nat) (s1 : (List Int)) : Option (Int) := (ob (indexI_L0 F ((s1.length - 0) : Int) s1 F (0 : Int)) (fun o_ => su o_ (fun s2 => (some s2.1)) (fun s3 => (some (-1 : Int)))))
abbrev indexI_I : Sch := ⟨[(0, .c (.k (.sl 0 1))), (1, .c (.k (.lit (.func (.func 93) ⟨[]⟩ ⟨[]⟩))))], [.ro (.int .i64)]⟩
abbrev indexI_O : FSch := ⟨.one (.c (.t (.int .i64))), [.dead]⟩
def indexI_E (F : Nat) : Ent := ⟨58, 2, indexI_I, indexI_O, fun s => indexI_S F s, []⟩
theorem indexI_ok (F : Nat) : FnSem Try.prog 58 2 indexI_I indexI_O (fun s => indexI_S F s) :=
  fn_ok (call := callD Try.prog 70 plans (over_T F) 20) (Fu := 70) (pl := plOf plans 58) (d := 1000) (an := (.two .no (.two (.two .no (.one (.loop indexI_L0_s indexI_L0_o (fun s => (indexI_L0 F s.1.1 s.2 F s.1.2))))) .no))) (callD_ok progMixed 70 plansOk (over_T_ok F) 20) progMixed (by kernel_rfl) (anP_ok (c := bodyOf Try.prog 58) (p := []) (⟨trivial, ⟨⟨trivial, (indexI_L0_ok F F)⟩, trivial⟩⟩)) (fun s => by kernel_rfl)
def indexI_T (F : Nat) : List Ent := indexI_E F :: over_T F
theorem indexI_T_ok (F : Nat) : EntsOk Try.prog (indexI_T F) := ⟨⟨by kernel_rfl, indexI_ok F⟩, over_T_ok F⟩
abbrev contI_n : Nat := 2
def contI_S (F : Nat) (s1 : (List Int)) : Option (Bool) := (ob (indexI_S F s1) (fun r => (some (decide (r ≥ (0 : Int))))))
abbrev contI_I : Sch := ⟨[(0, .c (.k (.sl 0 1))), (1, .c (.k (.lit (.func (.func 93) ⟨[]⟩ ⟨[]⟩))))], [.ro (.int .i64)]⟩
abbrev contI_O : FSch := ⟨.one (.c (.t .bool)), [.dead]⟩
def contI_E (F : Nat) : Ent := ⟨22, 2, contI_I, contI_O, fun s => contI_S F s, []⟩
theorem contI_ok (F : Nat) : FnSem Try.prog 22 2 contI_I contI_O (fun s => contI_S F s) :=
  fn_ok (call := callD Try.prog 70 plans (indexI_T F) 20) (Fu := 70) (pl := plOf plans 22) (d := 1000) (an := .no) (callD_ok progMixed 70 plansOk (indexI_T_ok F) 20) progMixed (by kernel_rfl) (anP_ok (c := bodyOf Try.prog 22) (p := []) (trivial)) (fun s => by kernel_rfl)
def contI_T (F : Nat) : List Ent := contI_E F :: indexI_T F
theorem contI_T_ok (F : Nat) : EntsOk Try.prog (contI_T F) := ⟨⟨by kernel_rfl, contI_ok F⟩, indexI_T_ok F⟩
abbrev isN_n : Nat := 1
def isN_S (F : Nat) (l : (List Int)) : Option (Bool) := (ob (contI_S F l) (fun r => (some (!r))))
abbrev isN_I : Sch := ⟨[(0, .c (.k (.sl 0 1)))], [.ro (.int .i64)]⟩
abbrev isN_O : FSch := ⟨.one (.c (.t .bool)), [.dead]⟩
def isN_E (F : Nat) : Ent := ⟨60, 1, isN_I, isN_O, fun s => isN_S F s, []⟩
theorem isN_ok (F : Nat) : FnSem Try.prog 60 1 isN_I isN_O (fun s => isN_S F s) :=
  fn_ok (call := callD Try.prog 70 plans (contI_T F) 20) (Fu := 70) (pl := plOf plans 60) (d := 1000) (an := .no) (callD_ok progMixed 70 plansOk (contI_T_ok F) 20) progMixed (by kernel_rfl) (anP_ok (c := bodyOf Try.prog 60) (p := []) (trivial)) (fun s => by kernel_rfl)
def isN_T (F : Nat) : List Ent := isN_E F :: contI_T F
theorem isN_T_ok (F : Nat) : EntsOk Try.prog (isN_T F) := ⟨⟨by kernel_rfl, isN_ok F⟩, contI_T_ok F⟩
abbrev indexV_n : Nat := 2
def indexV_L0 (F : Nat) (t7 : Int) (g0 : (List (Int × Int))) : Nat → Int → Option ((Int × (List (Int × Int))) ⊕ (List (Int × Int)))
  | 0, _ => none
  | n_ + 1, t8 => (bif (decide (t8 < t7)) then (bif (inB t8 (g0.length - 0)) then (ob (isN_S F ((nth g0 (TC.dflt (TC.pair (TC.int IntKind.i64) (TC.int IntKind.i64))) t8.toNat).1 :: ((nth g0 (TC.dflt (TC.pair (TC.int IntKind.i64) (TC.int IntKind.i64))) t8.toNat).2 :: []))) (fun r => (bif (!r) then (some (.inl (t8, g0))) else (bif (decide ((nth g0 (TC.dflt (TC.pair (TC.int IntKind.i64) (TC.int IntKind.i64))) t8.toNat).1 > (nth g0 (TC.dflt (TC.pair (TC.int IntKind.i64) (TC.int IntKind.i64))) t8.toNat).2)) then (some (.inl (t8, g0))) else (indexV_L0 F t7 g0 n_ (IntKind.wrap IntKind.i64 (t8 + (1 : Int)))))))) else none) else (some (.inr g0)))
abbrev indexV_L0_s : Sch := ⟨[(0, .c (.k (.sl 0 2))), (1, .c (.k (.lit (.func (.func 59) ⟨[]⟩ ⟨[]⟩)))), (7, .c (.t (.int .i64))), (8, .c (.t (.int .i64)))], [.ro (.pair (.int .i64) (.int .i64))]⟩
abbrev indexV_L0_o : Outs := [(.ret, ⟨[(4, .c (.t (.int .i64)))], [.ro (.pair (.int .i64) (.int .i64))]⟩), ((.exit 0), ⟨[], [.ro (.pair (.int .i64) (.int .i64))]⟩)]
theorem indexV_L0_ok (F : Nat) : ∀ n, LoopSem Try.prog 1 (tmpsOf Try.prog 85 indexV_n) (subAt (bodyOf Try.prog 85) [1, 0, 1, 0, 0]) indexV_L0_s indexV_L0_o (fun s => (indexV_L0 F s.1.1 s.2 n s.1.2)) :=
  loop_ok (m := 1) (N := tmpsOf Try.prog 85 indexV_n) (S := indexV_L0_s) (o := indexV_L0_o) (call := callD Try.prog 70 plans (isN_T F) 20) (Fu := 70) (pl := (plOf plans 85)) (d := 1000) (an := .no) (M := fun n (s : indexV_L0_s.ty) => (indexV_L0 F s.1.1 s.2 n s.1.2)) (callD_ok progMixed 70 plansOk (isN_T_ok F) 20) progMixed (anP_ok (c := bodyOf Try.prog 85) (p := [1, 0, 1, 0, 0]) (trivial)) (by kernel_rfl) (fun _ => rfl) (fun n s => by
    show (indexV_L0 F s.1.1 s.2 (n + 1) s.1.2) = _
    kernel_rfl)
def indexV_S (F : Nat) (s1 : (List (Int × Int))) : Option (Int) := (ob (indexV_L0 F ((s1.length - 0) : Int) s1 F (0 : Int)) (fun o_ => su o_ (fun s2 => (some s2.1)) (fun s3 => (some (-1 : Int)))))
abbrev indexV_I : Sch := ⟨[(0, .c (.k (.sl 0 2))), (1, .c (.k (.lit (.func (.func 59) ⟨[]⟩ ⟨[]⟩))))], [.ro (.pair (.int .i64) (.int .i64))]⟩
abbrev indexV_O : FSch := ⟨.one (.c (.t (.int .i64))), [.dead]⟩
def indexV_E (F : Nat) : Ent := ⟨85, 2, indexV_I, indexV_O, fun s => indexV_S F s, []⟩
theorem indexV_ok (F : Nat) : FnSem Try.prog 85 2 indexV_I indexV_O (fun s => indexV_S F s) :=
  fn_ok (call := callD Try.prog 70 plans (isN_T F) 20) (Fu := 70) (pl := plOf plans 85) (d := 1000) (an := (.two .no (.two (.two .no (.one (.loop indexV_L0_s indexV_L0_o (fun s => (indexV_L0 F s.1.1 s.2 F s.1.2))))) .no))) (callD_ok progMixed 70 plansOk (isN_T_ok F) 20) progMixed (by kernel_rfl) (anP_ok (c := bodyOf Try.prog 85) (p := []) (⟨trivial, ⟨⟨trivial, (indexV_L0_ok F F)⟩, trivial⟩⟩)) (fun s => by kernel_rfl)
def indexV_T (F : Nat) : List Ent := indexV_E F :: isN_T F
theorem indexV_T_ok (F : Nat) : EntsOk Try.prog (indexV_T F) := ⟨⟨by kernel_rfl, indexV_ok F⟩, isN_T_ok F⟩
abbrev contV_n : Nat := 2
def contV_S (F : Nat) (s1 : (List (Int × Int))) : Option (Bool) := (ob (indexV_S F s1) (fun r => (some (decide (r ≥ (0 : Int))))))
abbrev contV_I : Sch := ⟨[(0, .c (.k (.sl 0 2))), (1, .c (.k (.lit (.func (.func 59) ⟨[]⟩ ⟨[]⟩))))], [.ro (.pair (.int .i64) (.int .i64))]⟩
abbrev contV_O : FSch := ⟨.one (.c (.t .bool)), [.dead]⟩
def contV_E (F : Nat) : Ent := ⟨48, 2, contV_I, contV_O, fun s => contV_S F s, []⟩
theorem contV_ok (F : Nat) : FnSem Try.prog 48 2 contV_I contV_O (fun s => contV_S F s) :=
  fn_ok (call := callD Try.prog 70 plans (indexV_T F) 20) (Fu := 70) (pl := plOf plans 48) (d := 1000) (an := .no) (callD_ok progMixed 70 plansOk (indexV_T_ok F) 20) progMixed (by kernel_rfl) (anP_ok (c := bodyOf Try.prog 48) (p := []) (trivial)) (fun s => by kernel_rfl)
def contV_T (F : Nat) : List Ent := contV_E F :: indexV_T F
theorem contV_T_ok (F : Nat) : EntsOk Try.prog (contV_T F) := ⟨⟨by kernel_rfl, contV_ok F⟩, indexV_T_ok F⟩
abbrev valid_n : Nat := 1
def valid_S (F : Nat) (l : (List (Int × Int))) : Option (Bool) := (ob (contV_S F l) (fun r => (some (!r))))
abbrev valid_I : Sch := ⟨[(0, .c (.k (.sl 0 2)))], [.ro (.pair (.int .i64) (.int .i64))]⟩
abbrev valid_O : FSch := ⟨.one (.c (.t .bool)), [.dead]⟩
def valid_E (F : Nat) : Ent := ⟨24, 1, valid_I, valid_O, fun s => valid_S F s, []⟩
theorem valid_ok (F : Nat) : FnSem Try.prog 24 1 valid_I valid_O (fun s => valid_S F s) :=
  fn_ok (call := callD Try.prog 70 plans (contV_T F) 20) (Fu := 70) (pl := plOf plans 24) (d := 1000) (an := .no) (callD_ok progMixed 70 plansOk (contV_T_ok F) 20) progMixed (by kernel_rfl) (anP_ok (c := bodyOf Try.prog 24) (p := []) (trivial)) (fun s => by kernel_rfl)
def valid_T (F : Nat) : List Ent := valid_E F :: contV_T F
theorem valid_T_ok (F : Nat) : EntsOk Try.prog (valid_T F) := ⟨⟨by kernel_rfl, valid_ok F⟩, contV_T_ok F⟩
abbrev uchk_n : Nat := 1
def uchk_S (F : Nat) (l : (List (Int × Int))) : Option (Int) := (bif (decide (((l.length - 0) : Int) > (100 : Int))) then (some (5 : Int)) else (ob (valid_S F l) (fun r => (bif (!r) then (some (2 : Int)) else (some (0 : Int))))))
abbrev uchk_I : Sch := ⟨[(0, .c (.k (.sl 0 2)))], [.ro (.pair (.int .i64) (.int .i64))]⟩
abbrev uchk_O : FSch := ⟨.one (.c (.t (.int .i64))), [.dead]⟩
def uchk_E (F : Nat) : Ent := ⟨27, 1, uchk_I, uchk_O, fun s => uchk_S F s, []⟩
theorem uchk_ok (F : Nat) : FnSem Try.prog 27 1 uchk_I uchk_O (fun s => uchk_S F s) :=
  fn_ok (call := callD Try.prog 70 plans (valid_T F) 20) (Fu := 70) (pl := plOf plans 27) (d := 1000) (an := .no) (callD_ok progMixed 70 plansOk (valid_T_ok F) 20) progMixed (by kernel_rfl) (anP_ok (c := bodyOf Try.prog 27) (p := []) (trivial)) (fun s => by kernel_rfl)
def uchk_T (F : Nat) : List Ent := uchk_E F :: valid_T F
theorem uchk_T_ok (F : Nat) : EntsOk Try.prog (uchk_T F) := ⟨⟨by kernel_rfl, uchk_ok F⟩, valid_T_ok F⟩
abbrev fits_n : Nat := 2
def fits_S (F : Nat) (low : Int) (high : Int) : Option (((Int × Int) × Int)) := (ob (isN_S F (low :: (high :: []))) (fun r => (bif (!r) then (some (((0 : Int), (0 : Int)), (10 : Int))) else (some ((low, high), (0 : Int))))))
abbrev fits_I : Sch := ⟨[(0, .c (.t (.int .i64))), (1, .c (.t (.int .i64)))], []⟩
abbrev fits_O : FSch := ⟨.tu [(true, [.t (.pair (.int .i64) (.int .i64))]), (false, [.t (.int .i64)])], []⟩
def fits_E (F : Nat) : Ent := ⟨28, 2, fits_I, fits_O, fun s => fits_S F s.1 s.2, []⟩
theorem fits_ok (F : Nat) : FnSem Try.prog 28 2 fits_I fits_O (fun s => fits_S F s.1 s.2) :=
  fn_ok (call := callD Try.prog 70 plans (uchk_T F) 20) (Fu := 70) (pl := plOf plans 28) (d := 1000) (an := .no) (callD_ok progMixed 70 plansOk (uchk_T_ok F) 20) progMixed (by kernel_rfl) (anP_ok (c := bodyOf Try.prog 28) (p := []) (trivial)) (fun s => by kernel_rfl)
def fits_T (F : Nat) : List Ent := fits_E F :: uchk_T F
theorem fits_T_ok (F : Nat) : EntsOk Try.prog (fits_T F) := ⟨⟨by kernel_rfl, fits_ok F⟩, uchk_T_ok F⟩
abbrev added_n : Nat := 1
def added_L0 (F : Nat) (t7 : Int) (g0 : (List (Int × Int))) : Nat → Int → Int → Int → Option (((Int × Int) × (List (Int × Int))))
  | 0, _, _, _ => none
  | n_ + 1, low, high, t8 => (bif (decide (t8 < t7)) then (bif (inB t8 (g0.length - 0)) then (added_L0 F t7 g0 n_ (IntKind.wrap IntKind.i64 (low + (nth g0 (TC.dflt (TC.pair (TC.int IntKind.i64) (TC.int IntKind.i64))) t8.toNat).1)) (IntKind.wrap IntKind.i64 (high + (nth g0 (TC.dflt (TC.pair (TC.int IntKind.i64) (TC.int IntKind.i64))) t8.toNat).2)) (IntKind.wrap IntKind.i64 (t8 + (1 : Int)))) else none) else (some ((low, high), g0)))
abbrev added_L0_s : Sch := ⟨[(2, .c (.t (.int .i64))), (3, .c (.t (.int .i64))), (6, .c (.k (.sl 0 2))), (7, .c (.t (.int .i64))), (8, .c (.t (.int .i64)))], [.ro (.pair (.int .i64) (.int .i64))]⟩
abbrev added_L0_o : Outs := [((.exit 0), ⟨[(2, .c (.t (.int .i64))), (3, .c (.t (.int .i64)))], [.ro (.pair (.int .i64) (.int .i64))]⟩)]
theorem added_L0_ok (F : Nat) : ∀ n, LoopSem Try.prog 1 (tmpsOf Try.prog 29 added_n) (subAt (bodyOf Try.prog 29) [1, 0, 1, 0, 0]) added_L0_s added_L0_o (fun s => (added_L0 F s.1.2.2.1 s.2 n s.1.1 s.1.2.1 s.1.2.2.2)) :=
  loop_ok (m := 1) (N := tmpsOf Try.prog 29 added_n) (S := added_L0_s) (o := added_L0_o) (call := callD Try.prog 70 plans (fits_T F) 20) (Fu := 70) (pl := (plOf plans 29)) (d := 1000) (an := .no) (M := fun n (s : added_L0_s.ty) => (added_L0 F s.1.2.2.1 s.2 n s.1.1 s.1.2.1 s.1.2.2.2)) (callD_ok progMixed 70 plansOk (fits_T_ok F) 20) progMixed (anP_ok (c := bodyOf Try.prog 29) (p := [1, 0, 1, 0, 0]) (trivial)) (by kernel_rfl) (fun _ => rfl) (fun n s => by
    show (added_L0 F s.1.2.2.1 s.2 (n + 1) s.1.1 s.1.2.1 s.1.2.2.2) = _
    kernel_rfl)
def added_S (F : Nat) (l : (List (Int × Int))) : Option ((Int × Int)) := (ob (added_L0 F ((l.length - 0) : Int) l F (0 : Int) (0 : Int) (0 : Int)) (fun s1 => (some (s1.1.1, s1.1.2))))
abbrev added_I : Sch := ⟨[(0, .c (.k (.sl 0 2)))], [.ro (.pair (.int .i64) (.int .i64))]⟩
abbrev added_O : FSch := ⟨.tu [(false, [.t (.int .i64)]), (false, [.t (.int .i64)])], [.dead]⟩
def added_E (F : Nat) : Ent := ⟨29, 1, added_I, added_O, fun s => added_S F s, []⟩
theorem added_ok (F : Nat) : FnSem Try.prog 29 1 added_I added_O (fun s => added_S F s) :=
  fn_ok (call := callD Try.prog 70 plans (fits_T F) 20) (Fu := 70) (pl := plOf plans 29) (d := 1000) (an := (.two .no (.two (.two .no (.one (.loop added_L0_s added_L0_o (fun s => (added_L0 F s.1.2.2.1 s.2 F s.1.1 s.1.2.1 s.1.2.2.2))))) .no))) (callD_ok progMixed 70 plansOk (fits_T_ok F) 20) progMixed (by kernel_rfl) (anP_ok (c := bodyOf Try.prog 29) (p := []) (⟨trivial, ⟨⟨trivial, (added_L0_ok F F)⟩, trivial⟩⟩)) (fun s => by kernel_rfl)
def added_T (F : Nat) : List Ent := added_E F :: fits_T F
theorem added_T_ok (F : Nat) : EntsOk Try.prog (added_T F) := ⟨⟨by kernel_rfl, added_ok F⟩, fits_T_ok F⟩
abbrev usum_n : Nat := 1
def usum_S (F : Nat) (l : (List (Int × Int))) : Option (((Int × Int) × Int)) := (ob (uchk_S F l) (fun r => (bif (r != (0 : Int)) then (some (((0 : Int), (0 : Int)), r)) else (ob (added_S F l) (fun r1 => (ob (fits_S F r1.1 r1.2) (fun r2 => (some (r2.1, r2.2)))))))))
abbrev usum_I : Sch := ⟨[(0, .c (.k (.sl 0 2)))], [.ro (.pair (.int .i64) (.int .i64))]⟩
abbrev usum_O : FSch := ⟨.tu [(true, [.t (.pair (.int .i64) (.int .i64))]), (false, [.t (.int .i64)])], [.dead]⟩
def usum_E (F : Nat) : Ent := ⟨10, 1, usum_I, usum_O, fun s => usum_S F s, []⟩
theorem usum_ok (F : Nat) : FnSem Try.prog 10 1 usum_I usum_O (fun s => usum_S F s) :=
  fn_ok (call := callD Try.prog 70 plans (added_T F) 20) (Fu := 70) (pl := plOf plans 10) (d := 1000) (an := .no) (callD_ok progMixed 70 plansOk (added_T_ok F) 20) progMixed (by kernel_rfl) (anP_ok (c := bodyOf Try.prog 10) (p := []) (trivial)) (fun s => by kernel_rfl)
def usum_T (F : Nat) : List Ent := usum_E F :: added_T F
theorem usum_T_ok (F : Nat) : EntsOk Try.prog (usum_T F) := ⟨⟨by kernel_rfl, usum_ok F⟩, added_T_ok F⟩
abbrev less_n : Nat := 2
def less_S (F : Nat) (a : (Int × Int)) (b : (Int × Int)) : Option (((Int × Int) × Int)) := (ob (valid_S F (a :: (b :: []))) (fun r => (bif (!r) then (some (((0 : Int), (0 : Int)), (2 : Int))) else (ob (fits_S F (IntKind.wrap IntKind.i64 (a.1 - b.2)) (IntKind.wrap IntKind.i64 (a.2 - b.1))) (fun r1 => (some (r1.1, r1.2)))))))
abbrev less_I : Sch := ⟨[(0, .ag [.t (.pair (.int .i64) (.int .i64))]), (1, .ag [.t (.pair (.int .i64) (.int .i64))])], []⟩
abbrev less_O : FSch := ⟨.tu [(true, [.t (.pair (.int .i64) (.int .i64))]), (false, [.t (.int .i64)])], []⟩
def less_E (F : Nat) : Ent := ⟨45, 2, less_I, less_O, fun s => less_S F s.1 s.2, []⟩
theorem less_ok (F : Nat) : FnSem Try.prog 45 2 less_I less_O (fun s => less_S F s.1 s.2) :=
  fn_ok (call := callD Try.prog 70 plans (usum_T F) 20) (Fu := 70) (pl := plOf plans 45) (d := 1000) (an := .no) (callD_ok progMixed 70 plansOk (usum_T_ok F) 20) progMixed (by kernel_rfl) (anP_ok (c := bodyOf Try.prog 45) (p := []) (trivial)) (fun s => by kernel_rfl)
def less_T (F : Nat) : List Ent := less_E F :: usum_T F
theorem less_T_ok (F : Nat) : EntsOk Try.prog (less_T F) := ⟨⟨by kernel_rfl, less_ok F⟩, usum_T_ok F⟩
abbrev hadd_n : Nat := 4
def hadd_S (F : Nat) (a : Int) (b : Int) (c : Int) (h : ((Int × Int) × (Bool × Bool))) : Option (((Int × Int) × (Bool × Bool))) := (ob (prod_S F a b) (fun r => (ob (over_S F r c) (fun r1 => (bif (!r1.2.2) then (some (h.1, (h.2.1, true))) else (ob (bif (decide (r1.2.1 > (0 : Int))) then (some ((r1.1, (IntKind.wrap IntKind.i64 (r1.1 + (1 : Int)))), h)) else (some ((r1.1, r1.1), h))) (fun s1 => (bif (!s1.2.2.1) then (some (((if s1.1.1 < s1.1.1 then s1.1.1 else s1.1.1), (if s1.1.2 > s1.1.2 then s1.1.2 else s1.1.2)), (true, s1.2.2.2))) else (some (((if s1.1.1 < s1.2.1.1 then s1.1.1 else s1.2.1.1), (if s1.1.2 > s1.2.1.2 then s1.1.2 else s1.2.1.2)), s1.2.2))))))))))
abbrev hadd_I : Sch := ⟨[(0, .c (.k (.pt 0 0 0 0))), (1, .c (.t (.int .i64))), (2, .c (.t (.int .i64))), (3, .c (.t (.int .i64)))], [.blk 86 [.t (.pair (.pair (.int .i64) (.int .i64)) (.pair .bool .bool))]]⟩
abbrev hadd_O : FSch := ⟨.tu [], [.blk 86 [.t (.pair (.pair (.int .i64) (.int .i64)) (.pair .bool .bool))]]⟩
def hadd_E (F : Nat) : Ent := ⟨25, 4, hadd_I, hadd_O, fun s => hadd_S F s.1.1 s.1.2.1 s.1.2.2 s.2, []⟩
theorem hadd_ok (F : Nat) : FnSem Try.prog 25 4 hadd_I hadd_O (fun s => hadd_S F s.1.1 s.1.2.1 s.1.2.2 s.2) :=
  fn_ok (call := callD Try.prog 70 plans (less_T F) 20) (Fu := 70) (pl := plOf plans 25) (d := 1000) (an := (.two .no (.two .no (.two .no (.two (.join [(.normal, ⟨[(0, .c (.k (.pt 0 0 0 0))), (8, .c (.t (.int .i64))), (11, .c (.t (.int .i64)))], [.blk 86 [.t (.pair (.pair (.int .i64) (.int .i64)) (.pair .bool .bool))]]⟩)] .no) .no))))) (callD_ok progMixed 70 plansOk (less_T_ok F) 20) progMixed (by kernel_rfl) (anP_ok (c := bodyOf Try.prog 25) (p := []) (⟨trivial, ⟨trivial, ⟨trivial, ⟨trivial, trivial⟩⟩⟩⟩)) (fun s => by kernel_rfl)
def hadd_T (F : Nat) : List Ent := hadd_E F :: less_T F
theorem hadd_T_ok (F : Nat) : EntsOk Try.prog (hadd_T F) := ⟨⟨by kernel_rfl, hadd_ok F⟩, less_T_ok F⟩
abbrev hres_n : Nat := 1
def hres_S (F : Nat) (h : ((Int × Int) × (Bool × Bool))) : Option ((((Int × Int) × Int) × ((Int × Int) × (Bool × Bool)))) := (bif h.2.2 then (some ((((0 : Int), (0 : Int)), (10 : Int)), h)) else (ob (fits_S F h.1.1 h.1.2) (fun r => (some ((r.1, r.2), h)))))
abbrev hres_I : Sch := ⟨[(0, .c (.k (.pt 0 0 0 0)))], [.blk 86 [.t (.pair (.pair (.int .i64) (.int .i64)) (.pair .bool .bool))]]⟩
abbrev hres_O : FSch := ⟨.tu [(true, [.t (.pair (.int .i64) (.int .i64))]), (false, [.t (.int .i64)])], [.blk 86 [.t (.pair (.pair (.int .i64) (.int .i64)) (.pair .bool .bool))]]⟩
def hres_E (F : Nat) : Ent := ⟨26, 1, hres_I, hres_O, fun s => hres_S F s, []⟩
theorem hres_ok (F : Nat) : FnSem Try.prog 26 1 hres_I hres_O (fun s => hres_S F s) :=
  fn_ok (call := callD Try.prog 70 plans (hadd_T F) 20) (Fu := 70) (pl := plOf plans 26) (d := 1000) (an := .no) (callD_ok progMixed 70 plansOk (hadd_T_ok F) 20) progMixed (by kernel_rfl) (anP_ok (c := bodyOf Try.prog 26) (p := []) (trivial)) (fun s => by kernel_rfl)
def hres_T (F : Nat) : List Ent := hres_E F :: hadd_T F
theorem hres_T_ok (F : Nat) : EntsOk Try.prog (hres_T F) := ⟨⟨by kernel_rfl, hres_ok F⟩, hadd_T_ok F⟩
abbrev times_n : Nat := 3
def times_S (F : Nat) (a : (Int × Int)) (b : (Int × Int)) (unit : Int) : Option (((Int × Int) × Int)) := (ob (valid_S F (a :: (b :: []))) (fun r => (bif (!r) then (some (((0 : Int), (0 : Int)), (2 : Int))) else (bif (decide (unit < (1 : Int))) then (some (((0 : Int), (0 : Int)), (3 : Int))) else (bif (decide (unit > (1000000000000000 : Int))) then (some (((0 : Int), (0 : Int)), (3 : Int))) else (ob (hadd_S F a.1 b.1 unit (((0 : Int), (0 : Int)), (false, false))) (fun r1 => (ob (hadd_S F a.1 b.2 unit r1) (fun r2 => (ob (hadd_S F a.2 b.1 unit r2) (fun r3 => (ob (hadd_S F a.2 b.2 unit r3) (fun r4 => (ob (hres_S F r4) (fun r5 => (some (r5.1.1, r5.1.2)))))))))))))))))
abbrev times_I : Sch := ⟨[(0, .ag [.t (.pair (.int .i64) (.int .i64))]), (1, .ag [.t (.pair (.int .i64) (.int .i64))]), (2, .c (.t (.int .i64)))], []⟩
abbrev times_O : FSch := ⟨.tu [(true, [.t (.pair (.int .i64) (.int .i64))]), (false, [.t (.int .i64)])], []⟩
def times_E (F : Nat) : Ent := ⟨9, 3, times_I, times_O, fun s => times_S F s.1 s.2.1 s.2.2, []⟩
theorem times_ok (F : Nat) : FnSem Try.prog 9 3 times_I times_O (fun s => times_S F s.1 s.2.1 s.2.2) :=
  fn_ok (call := callD Try.prog 70 plans (hres_T F) 20) (Fu := 70) (pl := plOf plans 9) (d := 1000) (an := (.two .no (.two .no (.two .no (.two (.two .no (.one (.rnd (.two .no (.two (.two .no .no) (.two (.one (.two .no (.two .no (.one (.one (.two .no (.two (.two .no .no) .no))))))) .no))) (.rnd (.two .no (.two (.two .no .no) (.two (.one (.two .no (.two .no (.one (.one (.two .no (.two (.two .no .no) .no))))))) .no))) (.rnd (.two .no (.two (.two .no .no) .no)) .no))))) .no))))) (callD_ok progMixed 70 plansOk (hres_T_ok F) 20) progMixed (by kernel_rfl) (anP_ok (c := bodyOf Try.prog 9) (p := []) (⟨trivial, ⟨trivial, ⟨trivial, ⟨⟨trivial, ⟨⟨trivial, ⟨⟨trivial, trivial⟩, ⟨⟨trivial, ⟨trivial, ⟨trivial, ⟨⟨trivial, trivial⟩, trivial⟩⟩⟩⟩, trivial⟩⟩⟩, ⟨⟨trivial, ⟨⟨trivial, trivial⟩, ⟨⟨trivial, ⟨trivial, ⟨trivial, ⟨⟨trivial, trivial⟩, trivial⟩⟩⟩⟩, trivial⟩⟩⟩, ⟨⟨trivial, ⟨⟨trivial, trivial⟩, trivial⟩⟩, trivial⟩⟩⟩⟩, trivial⟩⟩⟩⟩)) (fun s => by kernel_rfl)
def times_T (F : Nat) : List Ent := times_E F :: hres_T F
theorem times_T_ok (F : Nat) : EntsOk Try.prog (times_T F) := ⟨⟨by kernel_rfl, times_ok F⟩, hres_T_ok F⟩

end
end Go.Proofs.Ytdcekiigkplmgaa
