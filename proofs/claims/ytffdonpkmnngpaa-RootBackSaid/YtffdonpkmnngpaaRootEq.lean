/- A root is equal to itself. Bound to this program. -/
import Derived.Test.YtffdonpkmnngpaaRootTake
import Derived.ChangeKeysEq
namespace Go.Proofs.Ytffdonpkmnngpaa.PRootAll
open Go Go.RowKit Go.Proofs Go.Proofs.YtffdonpkmnngpaaW.PrintWords Go.Proofs.YtffdonpkmnngpaaW.PrintLast Go.Proofs.YtffdonpkmnngpaaW.PrintMore
set_option linter.unusedVariables false
set_option linter.unusedSimpArgs false
theorem pair_self (d : Nat) (a b : Int) (w : World) : (Op.equalIn (d + 2) 41 (.agg #[.int .i64 a, .int .u64 b]) (.agg #[.int .i64 a, .int .u64 b])).run Try.prog w = .ok true w := by
  have hu41 := Try.underlying41
  have hu2 := Try.underlying2
  have hu39 := Try.underlying39
  have q1 : (a == a) = true := beq_self_eq_true _
  have q2 : (b == b) = true := beq_self_eq_true _
  go_simp
theorem arr_self (p0 q0 p1 q1 p2 q2 p3 q3 p4 q4 : Int) (w : World) : (Op.equalIn 9999 42 (.agg #[.int .i64 p0, .int .u64 q0, .int .i64 p1, .int .u64 q1, .int .i64 p2, .int .u64 q2, .int .i64 p3, .int .u64 q3, .int .i64 p4, .int .u64 q4]) (.agg #[.int .i64 p0, .int .u64 q0, .int .i64 p1, .int .u64 q1, .int .i64 p2, .int .u64 q2, .int .i64 p3, .int .u64 q3, .int .i64 p4, .int .u64 q4])).run Try.prog w = .ok true w := by
  obtain ⟨i, hi⟩ := Option.isSome_iff_exists.1 (show (Try.prog.info? 41).isSome = true by kernel_rfl)
  have k41 : Try.prog.cellsOf 41 = 2 := by kernel_rfl
  have x0 : ∀ w : World, (part 41 #[.int .i64 p0, .int .u64 q0, .int .i64 p1, .int .u64 q1, .int .i64 p2, .int .u64 q2, .int .i64 p3, .int .u64 q3, .int .i64 p4, .int .u64 q4] 0).run Try.prog w = .ok (.agg #[.int .i64 p0, .int .u64 q0]) w := fun _ => by kernel_rfl
  have x1 : ∀ w : World, (part 41 #[.int .i64 p0, .int .u64 q0, .int .i64 p1, .int .u64 q1, .int .i64 p2, .int .u64 q2, .int .i64 p3, .int .u64 q3, .int .i64 p4, .int .u64 q4] 2).run Try.prog w = .ok (.agg #[.int .i64 p1, .int .u64 q1]) w := fun _ => by kernel_rfl
  have x2 : ∀ w : World, (part 41 #[.int .i64 p0, .int .u64 q0, .int .i64 p1, .int .u64 q1, .int .i64 p2, .int .u64 q2, .int .i64 p3, .int .u64 q3, .int .i64 p4, .int .u64 q4] 4).run Try.prog w = .ok (.agg #[.int .i64 p2, .int .u64 q2]) w := fun _ => by kernel_rfl
  have x3 : ∀ w : World, (part 41 #[.int .i64 p0, .int .u64 q0, .int .i64 p1, .int .u64 q1, .int .i64 p2, .int .u64 q2, .int .i64 p3, .int .u64 q3, .int .i64 p4, .int .u64 q4] 6).run Try.prog w = .ok (.agg #[.int .i64 p3, .int .u64 q3]) w := fun _ => by kernel_rfl
  have x4 : ∀ w : World, (part 41 #[.int .i64 p0, .int .u64 q0, .int .i64 p1, .int .u64 q1, .int .i64 p2, .int .u64 q2, .int .i64 p3, .int .u64 q3, .int .i64 p4, .int .u64 q4] 8).run Try.prog w = .ok (.agg #[.int .i64 p4, .int .u64 q4]) w := fun _ => by kernel_rfl
  rw [show (9999 : Nat) = 9998 + 1 from rfl, run_equalIn_array w 9998 _ _ Try.underlying42 hi, k41]
  simp only [show List.range 5 = [0, 1, 2, 3, 4] from rfl, Op.eqItems, Sem.run_bind, Nat.zero_mul, Nat.reduceMul, x0, x1, x2, x3, x4, Result.andThen_ok, show (9998 : Nat) = 9996 + 2 from rfl, pair_self, Bool.not_true, Bool.false_eq_true, if_false, Sem.run_pure]
end Go.Proofs.Ytffdonpkmnngpaa.PRootAll
