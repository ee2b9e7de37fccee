/- EV, part P: what the evaluator asks of this program: the comparison of bytes, and that orders are drawn. No condition. -/
import Derived.Test.YtfgeffmlfbeodaaEvMb
import Derived.Test.YtfgeffmlfbeodaaProg
namespace Go.Proofs.Ytfgeffmlfbeodaa.Ev
open Go Go.Proofs
theorem cmp_here : CmpOk Try.prog 118 := ⟨fun fn h => by rw [Try.func118] at h; cases h; exact ⟨by decide +kernel, by decide +kernel, by rfl, by rfl⟩⟩
theorem mixed_here : Try.prog.follows .mixedOrders = true := by kernel_rfl
end Go.Proofs.Ytfgeffmlfbeodaa.Ev
