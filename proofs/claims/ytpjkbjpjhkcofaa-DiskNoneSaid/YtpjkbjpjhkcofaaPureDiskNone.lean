/- DiskNone: the evaluator finds it true, whatever the name, the offset and the number, so it is. No condition. -/
import Derived.Test.YtpjkbjpjhkcofaaEvP
import Derived.Test.YtpjkbjpjhkcofaaEvAr
namespace Go.Proofs.Ytpjkbjpjhkcofaa.Pure
open Go Go.RowKit Go.Proofs Go.Proofs.Ytpjkbjpjhkcofaa.Ev
theorem found (s : ByteArray) (off n : Int) : isTrue (acall Try.prog (XC.mk 99999 57 71 55) 30 10 [.string s, .int .i64 off, .int .i64 n] AH.empty) = true := by kernel_rfl
theorem walk (s : ByteArray) (off n : Int) (w : World) (_ : s.size ≤ 140737488351232) (_ : (Lit.int .i64 off).wf = true) (_ : (Lit.int .i64 n).wf = true) : Calls Try.prog 10 #[.string s, .int .i64 off, .int .i64 n] w fun e w' => e = .returned (.bool true) ∧ Below w.heap.size w w' :=
  closed_args mixed_here cmp_here (fun v hv => by simp at hv; rcases hv with rfl | rfl | rfl <;> rfl) (found s off n) w
end Go.Proofs.Ytpjkbjpjhkcofaa.Pure
