/- DiskNames: a run in pieces, the arguments letters: states and pieces, written by a program. No condition. -/
import Derived.Test.YtpjkbjpjhkcofaaStDiskNamesa
namespace Go.Proofs.Ytpjkbjpjhkcofaa.StDiskNames
open Go Go.RowKit Go.Proofs Go.Proofs.Ytpjkbjpjhkcofaa.Ev
set_option maxRecDepth 100000
theorem t8_0 : isTrue (acall Go.Proofs.Try.prog xcN 30 6 [.chan (some 108), .chan (some 280)] AH.empty) = true := at3 _ _ (by decide +kernel)
theorem t8_1 : isTrue (acall Go.Proofs.Try.prog xcN 30 6 [.chan (some 108), .chan (some 281)] AH.empty) = true := at3 _ _ (by decide +kernel)
theorem t8_2 : isTrue (acall Go.Proofs.Try.prog xcN 30 6 [.chan (some 108), .chan (some 282)] AH.empty) = true := at3 _ _ (by decide +kernel)
theorem t8_3 : isTrue (acall Go.Proofs.Try.prog xcN 30 6 [.chan (some 108), .chan (some 283)] AH.empty) = true := at3 _ _ (by decide +kernel)
theorem t8_4 : isTrue (acall Go.Proofs.Try.prog xcN 30 6 [.chan (some 108), .chan (some 284)] AH.empty) = true := at3 _ _ (by decide +kernel)
theorem t8_5 : isTrue (acall Go.Proofs.Try.prog xcN 30 6 [.chan (some 108), .chan (some 285)] AH.empty) = true := at3 _ _ (by decide +kernel)
theorem t8_6 : isTrue (acall Go.Proofs.Try.prog xcN 30 6 [.chan (some 108), .chan (some 286)] AH.empty) = true := at3 _ _ (by decide +kernel)
theorem t8_7 : isTrue (acall Go.Proofs.Try.prog xcN 30 6 [.chan (some 108), .chan (some 287)] AH.empty) = true := at3 _ _ (by decide +kernel)
theorem t8_8 : isTrue (acall Go.Proofs.Try.prog xcN 30 6 [.chan (some 108), .chan (some 288)] AH.empty) = true := at3 _ _ (by decide +kernel)
theorem t9_0 : isTrue (acall Go.Proofs.Try.prog xcN 30 6 [.chan (some 109), .chan (some 290)] AH.empty) = true := at3 _ _ (by decide +kernel)
theorem t9_1 : isTrue (acall Go.Proofs.Try.prog xcN 30 6 [.chan (some 109), .chan (some 291)] AH.empty) = true := at3 _ _ (by decide +kernel)
theorem t9_2 : isTrue (acall Go.Proofs.Try.prog xcN 30 6 [.chan (some 109), .chan (some 292)] AH.empty) = true := at3 _ _ (by decide +kernel)
theorem t9_3 : isTrue (acall Go.Proofs.Try.prog xcN 30 6 [.chan (some 109), .chan (some 293)] AH.empty) = true := at3 _ _ (by decide +kernel)
theorem t9_4 : isTrue (acall Go.Proofs.Try.prog xcN 30 6 [.chan (some 109), .chan (some 294)] AH.empty) = true := at3 _ _ (by decide +kernel)
theorem t9_5 : isTrue (acall Go.Proofs.Try.prog xcN 30 6 [.chan (some 109), .chan (some 295)] AH.empty) = true := at3 _ _ (by decide +kernel)
theorem t9_6 : isTrue (acall Go.Proofs.Try.prog xcN 30 6 [.chan (some 109), .chan (some 296)] AH.empty) = true := at3 _ _ (by decide +kernel)
theorem t9_7 : isTrue (acall Go.Proofs.Try.prog xcN 30 6 [.chan (some 109), .chan (some 297)] AH.empty) = true := at3 _ _ (by decide +kernel)
theorem t9_8 : isTrue (acall Go.Proofs.Try.prog xcN 30 6 [.chan (some 109), .chan (some 298)] AH.empty) = true := at3 _ _ (by decide +kernel)
theorem t9_9 : isTrue (acall Go.Proofs.Try.prog xcN 30 6 [.chan (some 109), .chan (some 299)] AH.empty) = true := at3 _ _ (by decide +kernel)
end Go.Proofs.Ytpjkbjpjhkcofaa.StDiskNames
