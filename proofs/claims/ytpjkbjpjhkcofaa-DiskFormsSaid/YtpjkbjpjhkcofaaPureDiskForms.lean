/- DiskForms: a closed law: the evaluator finds it true, so it is. No condition. -/
import Derived.Test.YtpjkbjpjhkcofaaEvP
import Derived.Test.YtpjkbjpjhkcofaaStDiskForms
namespace Go.Proofs.Ytpjkbjpjhkcofaa.Pure
open Go Go.RowKit Go.Proofs Go.Proofs.Ytpjkbjpjhkcofaa.Ev
theorem walk (w : World) : Calls Try.prog 9 #[] w fun e w' => e = .returned (.bool true) ∧ Below w.heap.size w w' := closed_ok mixed_here cmp_here StDiskForms.found w
end Go.Proofs.Ytpjkbjpjhkcofaa.Pure
