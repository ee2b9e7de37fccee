/- PageForms: a closed run, reckoned by the kernel. No condition. -/
import Derived.Test.YtffdonpkmnngpaaPPageFormsx6
import Derived.Test.YtffdonpkmnngpaaCrc
namespace Go.Proofs.Ytffdonpkmnngpaa.Pure
open Go.RowKit Go.Proofs.Ytffdonpkmnngpaa.PPageForms Go.Proofs.YtffdonpkmnngpaaW.PrintWords Go.Proofs.YtffdonpkmnngpaaW.PrintLast
set_option linter.unusedVariables false

theorem PageForms : pandectlaw21_PageForms.Pure := ⟨2000, by decide +kernel⟩

end Go.Proofs.Ytffdonpkmnngpaa.Pure
