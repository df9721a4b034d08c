/- Ranges of three substances are compared. No condition. -/
import Derived.Test.YtojnpaenpaobcaaC5
namespace Go.Proofs.Ytojnpaenpaobcaa
open Go.RowKit

theorem info26 : Try.prog.underlying 26 = some (.array 3 24) := by kernel_rfl
theorem info24 : (Try.prog.info? 24).map (fun i => i.size) = some 2 := by kernel_rfl
theorem run_equalIn_rng (d : Nat) (a b a' b' : Int) (w : World) :
    (Op.equalIn (d + 2) 24 (.agg #[.int .i64 a, .int .i64 b]) (.agg #[.int .i64 a', .int .i64 b'])).run Try.prog w = .ok ((a == a') && (b == b')) w := by
  cases h1 : (a == a') <;> cases h2 : (b == b') <;> go_simp
theorem part_bnds (a b c e f g : Int) (w : World) :
    (part 24 #[.int .i64 a, .int .i64 b, .int .i64 c, .int .i64 e, .int .i64 f, .int .i64 g] 0).run Try.prog w = .ok (.agg #[.int .i64 a, .int .i64 b]) w ∧ (part 24 #[.int .i64 a, .int .i64 b, .int .i64 c, .int .i64 e, .int .i64 f, .int .i64 g] 2).run Try.prog w = .ok (.agg #[.int .i64 c, .int .i64 e]) w ∧ (part 24 #[.int .i64 a, .int .i64 b, .int .i64 c, .int .i64 e, .int .i64 f, .int .i64 g] 4).run Try.prog w = .ok (.agg #[.int .i64 f, .int .i64 g]) w :=
  ⟨by kernel_rfl, by kernel_rfl, by kernel_rfl⟩
set_option maxHeartbeats 1000000 in
theorem run_equalIn_bnds (d : Nat) (a b c e f g a' b' c' e' f' g' : Int) (w : World) :
    (Op.equalIn (d + 3) 26 (.agg #[.int .i64 a, .int .i64 b, .int .i64 c, .int .i64 e, .int .i64 f, .int .i64 g]) (.agg #[.int .i64 a', .int .i64 b', .int .i64 c', .int .i64 e', .int .i64 f', .int .i64 g'])).run Try.prog w = .ok (((a == a') && (b == b')) && (((c == c') && (e == e')) && ((f == f') && (g == g')))) w := by
  obtain ⟨i, hi, hs⟩ : ∃ i, Try.prog.info? 24 = some i ∧ i.size = 2 := by
    cases h : Try.prog.info? 24 with
    | none => have := info24; rw [h] at this; cases this
    | some i => have := info24; rw [h] at this; exact ⟨i, rfl, by simpa using this⟩
  rw [Op.equalIn]
  simp only [Sem.run_bind, run_underlying info26, Result.andThen_ok, sizeOf, typeInfo, run_program, hi, Sem.run_pure, hs]
  simp only [Std.Legacy.Range.forIn_eq_forIn_range', Std.Legacy.Range.size, Nat.sub_zero, Nat.reduceAdd, Nat.reduceSub, Nat.reduceDiv, List.range'_succ, List.range'_zero, List.forIn_cons, List.forIn_nil, Nat.reduceMul]
  have p0 := fun w => (part_bnds a b c e f g w).1
  have p2 := fun w => (part_bnds a b c e f g w).2.1
  have p4 := fun w => (part_bnds a b c e f g w).2.2
  have q0 := fun w => (part_bnds a' b' c' e' f' g' w).1
  have q2 := fun w => (part_bnds a' b' c' e' f' g' w).2.1
  have q4 := fun w => (part_bnds a' b' c' e' f' g' w).2.2
  have r0 := fun w => run_equalIn_rng d a b a' b' w
  have r2 := fun w => run_equalIn_rng d c e c' e' w
  have r4 := fun w => run_equalIn_rng d f g f' g' w
  generalize (a == a' && b == b') = b1 at *
  generalize (c == c' && e == e') = b2 at *
  generalize (f == f' && g == g') = b3 at *
  clear hi hs
  cases b1 <;> cases b2 <;> cases b3 <;> simp [Sem.run_bind, p0, p2, p4, q0, q2, q4, r0, r2, r4]
end Go.Proofs.Ytojnpaenpaobcaa
