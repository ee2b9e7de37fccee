import Derived.Test.YtfgeffmlfbeodaaPHeadFormsx8
/- The plain law of HeadForms: a closed run, reckoned by the kernel. -/
namespace Go.Proofs.Ytfgeffmlfbeodaa.Pure
open Go.RowKit Go.Proofs.Ytfgeffmlfbeodaa.PHeadForms Go.Proofs.YtfgeffmlfbeodaaW.PrintWords Go.Proofs.YtfgeffmlfbeodaaW.PrintLast

theorem HeadForms : pandectlaw8_HeadForms.Pure := ⟨300, by decide +kernel⟩

end Go.Proofs.Ytfgeffmlfbeodaa.Pure
