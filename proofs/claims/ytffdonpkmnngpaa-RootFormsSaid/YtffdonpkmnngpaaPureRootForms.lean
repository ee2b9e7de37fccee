/- RootForms: a closed law: the evaluator finds it true, so it is. No condition. -/
import Derived.Test.YtffdonpkmnngpaaEvP
import Derived.Test.YtffdonpkmnngpaaStRootForms
namespace Go.Proofs.Ytffdonpkmnngpaa.Pure
open Go Go.RowKit Go.Proofs Go.Proofs.Ytffdonpkmnngpaa.Ev
theorem walk (w : World) : Calls Try.prog 12 #[] w fun e w' => e = .returned (.bool true) ∧ Below w.heap.size w w' := closed_ok mixed_here cmp_here StRootForms.found w
end Go.Proofs.Ytffdonpkmnngpaa.Pure
