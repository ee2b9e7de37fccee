/- DiskFails: the evaluator finds it true of every byte, so it is. No condition. -/
import Derived.Test.YtpjkbjpjhkcofaaEvP
import Derived.Test.YtpjkbjpjhkcofaaStDiskFails
namespace Go.Proofs.Ytpjkbjpjhkcofaa.Pure
open Go Go.RowKit Go.Proofs Go.Proofs.Ytpjkbjpjhkcofaa.Ev
theorem byte0 {n : Int} (hw : (Lit.int .u8 n).wf = true) : 0 ≤ n := by
  simp [Lit.wf, IntKind.min, IntKind.max, IntKind.signed, IntKind.bits] at hw
  omega
theorem walk (n : Int) (w : World) (hw : (Lit.int .u8 n).wf = true) : Calls Try.prog 11 #[.int .u8 n] w fun e w' => e = .returned (.bool true) ∧ Below w.heap.size w w' := closed_args mixed_here cmp_here (fun v hv => by simp at hv; subst hv; rfl) (StDiskFails.found n (byte0 hw)) w
end Go.Proofs.Ytpjkbjpjhkcofaa.Pure
