/- EventForms: a closed law: the evaluator finds it true, so it is. No condition. -/
import Derived.Test.YtfgeffmlfbeodaaEvP
namespace Go.Proofs.Ytfgeffmlfbeodaa.Pure
open Go Go.RowKit Go.Proofs Go.Proofs.Ytfgeffmlfbeodaa.Ev
theorem found : isTrue (acall Try.prog 118 30 5 [] AH.empty) = true := by decide +kernel
theorem walk (w : World) : Calls Try.prog 5 #[] w fun e w' => e = .returned (.bool true) ∧ Below w.heap.size w w' := closed_ok mixed_here cmp_here found w
end Go.Proofs.Ytfgeffmlfbeodaa.Pure
