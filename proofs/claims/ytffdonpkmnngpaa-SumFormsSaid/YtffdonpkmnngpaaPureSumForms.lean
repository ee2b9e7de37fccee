/- The closed statement SumForms: the printed function, run with 400 rounds, says true. No condition. -/
import Derived.Test.YtffdonpkmnngpaaPSumFormsx1
namespace Go.Proofs.Ytffdonpkmnngpaa.Pure
open Go.RowKit Go.Proofs.Ytffdonpkmnngpaa.PSumForms Go.Proofs.YtffdonpkmnngpaaW.PrintWords Go.Proofs.YtffdonpkmnngpaaW.PrintLast

/-- YOURS: ∃ k, pandectlaw2_SumForms.f k  = some true
What it reaches (each with k first where it has rounds; `.mono`: more rounds tell the same; `.l0`, ..: its loops, with `.mono_l`): sum_Sum.f, pandectlaw2_begun.f, pandectlaw2_SumForms.f -/
theorem SumForms : pandectlaw2_SumForms.Pure := by
  exact ⟨400, by decide +kernel⟩

end Go.Proofs.Ytffdonpkmnngpaa.Pure
