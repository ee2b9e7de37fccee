/- EV, part P: what the evaluator asks of this program: the comparison of bytes, and that orders are drawn. No condition. -/
import Derived.Test.YtffdonpkmnngpaaEvMb
import Derived.Test.YtffdonpkmnngpaaProg
namespace Go.Proofs.Ytffdonpkmnngpaa.Ev
open Go Go.Proofs
theorem cmp_here : CmpOk Try.prog 99999 := ⟨fun fn h => by rw [show Try.prog.funcs[99999]? = none from by kernel_rfl] at h; cases h⟩
theorem mixed_here : Try.prog.follows .mixedOrders = true := by kernel_rfl
end Go.Proofs.Ytffdonpkmnngpaa.Ev
