/- DiskNames: a run in pieces, the arguments letters: states and pieces, written by a program. No condition. -/
import Derived.Test.YtpjkbjpjhkcofaaProg
import Derived.Test.YtpjkbjpjhkcofaaEvAr
import Derived.Test.YtpjkbjpjhkcofaaStDiskNamesd
namespace Go.Proofs.Ytpjkbjpjhkcofaa.StDiskNames
open Go Go.RowKit Go.Proofs Go.Proofs.Ytpjkbjpjhkcofaa.Ev
set_option maxRecDepth 100000
theorem s0 (n c : Nat) : acode Go.Proofs.Try.prog xcN (acall Go.Proofs.Try.prog xcN 29) 0 99999 (cl (bodyOf Try.f6)) (e0 n c) h0 = some (.normal, e1 n c, h1, KO, KO) := by kernel_rfl
theorem s1 (n c : Nat) : acode Go.Proofs.Try.prog xcN (acall Go.Proofs.Try.prog xcN 29) 0 99998 (cl (cr (bodyOf Try.f6))) (e1 n c) h1 = some (.normal, e2 n c, h2, KO, KO) := by kernel_rfl
theorem s2 (n c : Nat) : acode Go.Proofs.Try.prog xcN (acall Go.Proofs.Try.prog xcN 29) 0 99997 (cl (cr (cr (bodyOf Try.f6)))) (e2 n c) h2 = some (.normal, e3 n c, h3, KO, KO) := by kernel_rfl
theorem at3 (n c : Nat) (h : retTrue Go.Proofs.Try.prog Try.f6 (acode Go.Proofs.Try.prog xcN (acall Go.Proofs.Try.prog xcN 29) 0 99997 (cr (cr (cr (bodyOf Try.f6)))) (e3 n c) h3) = true) : isTrue (acall Go.Proofs.Try.prog xcN 30 6 [.chan (some n), .chan (some c)] AH.empty) = true := by
  refine whole_args (d := 29) (fn := Try.f6) (c := bodyOf Try.f6) Try.func6 (by kernel_rfl) (by decide +kernel) (by decide) (by decide) ?_
  have e : ([.chan (some n), .chan (some c)] : List Value) ++ List.replicate (Try.f6.ntmps - ([.chan (some n), .chan (some c)] : List Value).length) undef = e0 n c := rfl
  rw [e]
  change retTrue Go.Proofs.Try.prog Try.f6 (acode Go.Proofs.Try.prog xcN (acall Go.Proofs.Try.prog xcN 29) 0 100000 (bodyOf Try.f6) (e0 n c) h0) = true
  rw [show (100000 : Nat) = 99999 + 1 from rfl, seq_on (n := 99999) (by kernel_rfl) (s0 n c)]
  rw [show (99999 : Nat) = 99998 + 1 from rfl, seq_on (n := 99998) (by kernel_rfl) (s1 n c)]
  rw [show (99998 : Nat) = 99997 + 1 from rfl, seq_on (n := 99997) (by kernel_rfl) (s2 n c)]
  exact h
end Go.Proofs.Ytpjkbjpjhkcofaa.StDiskNames
