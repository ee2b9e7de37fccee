/- KeyForms: a closed run: what the callees answer is reckoned by the kernel. No condition. -/
import Derived.Test.YtfgeffmlfbeodaaWalkKeyForms
import Derived.Test.YtfgeffmlfbeodaaCrc
namespace Go.Proofs.Ytfgeffmlfbeodaa.Pure
open Go.RowKit Go.Proofs.Ytfgeffmlfbeodaa.PKeyForms Go.Proofs.YtfgeffmlfbeodaaW.PrintWords Go.Proofs.YtfgeffmlfbeodaaW.PrintLast
set_option linter.unusedVariables false

theorem begun_true (k : Nat) (hk : 400 ≤ k) : pandectlaw6_begun.f k = some true :=
  at_rounds (g := pandectlaw6_begun.f) pandectlaw6_begun.mono hk (by decide +kernel)
def bads : List ByteArray := [⟨#[]⟩, ⟨#[97, 32, 98]⟩, ⟨#[97, 0]⟩, ⟨#[127]⟩, ⟨#[115, 101, 118, 101, 110, 116, 101, 101, 110, 45, 98, 121, 116, 101, 115, 45, 120]⟩, ⟨#[195, 164]⟩]
def nones : List ByteArray := [⟨#[]⟩, ⟨#[0, 0, 0, 0, 0, 0, 0, 0, 0]⟩, ⟨#[97, 0, 128, 0, 0, 0, 0, 0, 0, 0]⟩, ⟨#[97, 1, 0, 0, 0, 0, 0, 0, 0, 0]⟩, ⟨#[97, 0, 0, 0, 0, 0, 0, 0, 0]⟩]
theorem walk (w : World) : Calls Try.prog 15 #[] w fun e w' => e = .returned (.bool true) ∧ Below w.heap.size w w' := by
  have h0 := begun_true 400 (Nat.le_refl _)
  refine main_ 400 bads nones rfl rfl ?_ ?_ [97, 98, 0, 0, 0, 0, 0, 0, 0, 1, 2] (by decide +kernel) (by decide +kernel) (by decide +kernel) (by decide +kernel) (by decide +kernel) [98] (by decide +kernel) (by decide +kernel) (by decide +kernel) (by decide +kernel) w h0
  · intro i hi h6
    obtain ⟨i, rfl⟩ := Int.eq_ofNat_of_zero_le hi
    have hi' : i = 0 ∨ i = 1 ∨ i = 2 ∨ i = 3 ∨ i = 4 ∨ i = 5 := by omega
    rcases hi' with rfl | rfl | rfl | rfl | rfl | rfl <;> decide +kernel
  · intro i hi h5
    obtain ⟨i, rfl⟩ := Int.eq_ofNat_of_zero_le hi
    have hi' : i = 0 ∨ i = 1 ∨ i = 2 ∨ i = 3 ∨ i = 4 := by omega
    rcases hi' with rfl | rfl | rfl | rfl | rfl <;> exact ⟨by decide +kernel, by decide +kernel⟩

end Go.Proofs.Ytfgeffmlfbeodaa.Pure
