/- DiskNames: a run in pieces, the arguments letters: states and pieces, written by a program. No condition. -/
import Derived.Test.YtpjkbjpjhkcofaaStDiskNamesb
import Derived.Test.YtpjkbjpjhkcofaaStDiskNamesc
namespace Go.Proofs.Ytpjkbjpjhkcofaa.StDiskNames
open Go Go.RowKit Go.Proofs Go.Proofs.Ytpjkbjpjhkcofaa.Ev
set_option maxRecDepth 100000
theorem found (k r : Nat) (hk : k < 10) (hr : r ≤ k) : isTrue (acall Go.Proofs.Try.prog xcN 30 6 [.chan (some (100 + k)), .chan (some (200 + 10 * k + r))] AH.empty) = true := by
  have hk : k = 0 ∨ k = 1 ∨ k = 2 ∨ k = 3 ∨ k = 4 ∨ k = 5 ∨ k = 6 ∨ k = 7 ∨ k = 8 ∨ k = 9 := by omega
  rcases hk with rfl | rfl | rfl | rfl | rfl | rfl | rfl | rfl | rfl | rfl
  · have hr : r = 0 := by omega
    rcases hr with rfl
    · exact t0_0
  · have hr : r = 0 ∨ r = 1 := by omega
    rcases hr with rfl | rfl
    · exact t1_0
    · exact t1_1
  · have hr : r = 0 ∨ r = 1 ∨ r = 2 := by omega
    rcases hr with rfl | rfl | rfl
    · exact t2_0
    · exact t2_1
    · exact t2_2
  · have hr : r = 0 ∨ r = 1 ∨ r = 2 ∨ r = 3 := by omega
    rcases hr with rfl | rfl | rfl | rfl
    · exact t3_0
    · exact t3_1
    · exact t3_2
    · exact t3_3
  · have hr : r = 0 ∨ r = 1 ∨ r = 2 ∨ r = 3 ∨ r = 4 := by omega
    rcases hr with rfl | rfl | rfl | rfl | rfl
    · exact t4_0
    · exact t4_1
    · exact t4_2
    · exact t4_3
    · exact t4_4
  · have hr : r = 0 ∨ r = 1 ∨ r = 2 ∨ r = 3 ∨ r = 4 ∨ r = 5 := by omega
    rcases hr with rfl | rfl | rfl | rfl | rfl | rfl
    · exact t5_0
    · exact t5_1
    · exact t5_2
    · exact t5_3
    · exact t5_4
    · exact t5_5
  · have hr : r = 0 ∨ r = 1 ∨ r = 2 ∨ r = 3 ∨ r = 4 ∨ r = 5 ∨ r = 6 := by omega
    rcases hr with rfl | rfl | rfl | rfl | rfl | rfl | rfl
    · exact t6_0
    · exact t6_1
    · exact t6_2
    · exact t6_3
    · exact t6_4
    · exact t6_5
    · exact t6_6
  · have hr : r = 0 ∨ r = 1 ∨ r = 2 ∨ r = 3 ∨ r = 4 ∨ r = 5 ∨ r = 6 ∨ r = 7 := by omega
    rcases hr with rfl | rfl | rfl | rfl | rfl | rfl | rfl | rfl
    · exact t7_0
    · exact t7_1
    · exact t7_2
    · exact t7_3
    · exact t7_4
    · exact t7_5
    · exact t7_6
    · exact t7_7
  · have hr : r = 0 ∨ r = 1 ∨ r = 2 ∨ r = 3 ∨ r = 4 ∨ r = 5 ∨ r = 6 ∨ r = 7 ∨ r = 8 := by omega
    rcases hr with rfl | rfl | rfl | rfl | rfl | rfl | rfl | rfl | rfl
    · exact t8_0
    · exact t8_1
    · exact t8_2
    · exact t8_3
    · exact t8_4
    · exact t8_5
    · exact t8_6
    · exact t8_7
    · exact t8_8
  · have hr : r = 0 ∨ r = 1 ∨ r = 2 ∨ r = 3 ∨ r = 4 ∨ r = 5 ∨ r = 6 ∨ r = 7 ∨ r = 8 ∨ r = 9 := by omega
    rcases hr with rfl | rfl | rfl | rfl | rfl | rfl | rfl | rfl | rfl | rfl
    · exact t9_0
    · exact t9_1
    · exact t9_2
    · exact t9_3
    · exact t9_4
    · exact t9_5
    · exact t9_6
    · exact t9_7
    · exact t9_8
    · exact t9_9

end Go.Proofs.Ytpjkbjpjhkcofaa.StDiskNames
