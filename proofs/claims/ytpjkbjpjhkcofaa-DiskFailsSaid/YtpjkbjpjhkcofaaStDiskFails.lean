/- DiskFails: a run in pieces, the argument a letter: its states, written by a program. No condition. -/
import Derived.Test.YtpjkbjpjhkcofaaProg
import Derived.Test.YtpjkbjpjhkcofaaEvAr
import Derived.Test.YtpjkbjpjhkcofaaStDiskFailsd
namespace Go.Proofs.Ytpjkbjpjhkcofaa.StDiskFails
open Go Go.RowKit Go.Proofs Go.Proofs.Ytpjkbjpjhkcofaa.Ev
set_option maxRecDepth 100000
theorem s0 (n : Int) : acode Go.Proofs.Try.prog (XC.mk 99999 57 71 55) (acall Go.Proofs.Try.prog (XC.mk 99999 57 71 55) 29) 0 99999 (cl (bodyOf Try.f11)) (e0 n) h0 = some (.normal, e1 n, h1, KO, KO) := by kernel_rfl
theorem s1 (n : Int) : acode Go.Proofs.Try.prog (XC.mk 99999 57 71 55) (acall Go.Proofs.Try.prog (XC.mk 99999 57 71 55) 29) 0 99998 (cl (cr (bodyOf Try.f11))) (e1 n) h1 = some (.normal, e2 n, h2, KO, KO) := by kernel_rfl
theorem s2 (n : Int) : acode Go.Proofs.Try.prog (XC.mk 99999 57 71 55) (acall Go.Proofs.Try.prog (XC.mk 99999 57 71 55) 29) 0 99997 (cl (cr (cr (bodyOf Try.f11)))) (e2 n) h2 = some (.normal, e3 n, h3, KO, KO) := by kernel_rfl
theorem s3 (n : Int) : acode Go.Proofs.Try.prog (XC.mk 99999 57 71 55) (acall Go.Proofs.Try.prog (XC.mk 99999 57 71 55) 29) 0 99996 (cl (cr (cr (cr (bodyOf Try.f11))))) (e3 n) h3 = some (.normal, e4 n (Int.tmod n 12), h3, KO, KO) := by kernel_rfl
theorem t0 (n : Int) : retTrue Go.Proofs.Try.prog Try.f11 (acode Go.Proofs.Try.prog (XC.mk 99999 57 71 55) (acall Go.Proofs.Try.prog (XC.mk 99999 57 71 55) 29) 0 99996 (cr (cr (cr (cr (bodyOf Try.f11))))) (e4 n 0) h3) = true := by kernel_rfl
theorem t1 (n : Int) : retTrue Go.Proofs.Try.prog Try.f11 (acode Go.Proofs.Try.prog (XC.mk 99999 57 71 55) (acall Go.Proofs.Try.prog (XC.mk 99999 57 71 55) 29) 0 99996 (cr (cr (cr (cr (bodyOf Try.f11))))) (e4 n 1) h3) = true := by kernel_rfl
theorem t2 (n : Int) : retTrue Go.Proofs.Try.prog Try.f11 (acode Go.Proofs.Try.prog (XC.mk 99999 57 71 55) (acall Go.Proofs.Try.prog (XC.mk 99999 57 71 55) 29) 0 99996 (cr (cr (cr (cr (bodyOf Try.f11))))) (e4 n 2) h3) = true := by kernel_rfl
theorem t3 (n : Int) : retTrue Go.Proofs.Try.prog Try.f11 (acode Go.Proofs.Try.prog (XC.mk 99999 57 71 55) (acall Go.Proofs.Try.prog (XC.mk 99999 57 71 55) 29) 0 99996 (cr (cr (cr (cr (bodyOf Try.f11))))) (e4 n 3) h3) = true := by kernel_rfl
theorem t4 (n : Int) : retTrue Go.Proofs.Try.prog Try.f11 (acode Go.Proofs.Try.prog (XC.mk 99999 57 71 55) (acall Go.Proofs.Try.prog (XC.mk 99999 57 71 55) 29) 0 99996 (cr (cr (cr (cr (bodyOf Try.f11))))) (e4 n 4) h3) = true := by kernel_rfl
theorem t5 (n : Int) : retTrue Go.Proofs.Try.prog Try.f11 (acode Go.Proofs.Try.prog (XC.mk 99999 57 71 55) (acall Go.Proofs.Try.prog (XC.mk 99999 57 71 55) 29) 0 99996 (cr (cr (cr (cr (bodyOf Try.f11))))) (e4 n 5) h3) = true := by kernel_rfl
theorem t6 (n : Int) : retTrue Go.Proofs.Try.prog Try.f11 (acode Go.Proofs.Try.prog (XC.mk 99999 57 71 55) (acall Go.Proofs.Try.prog (XC.mk 99999 57 71 55) 29) 0 99996 (cr (cr (cr (cr (bodyOf Try.f11))))) (e4 n 6) h3) = true := by kernel_rfl
theorem t7 (n : Int) : retTrue Go.Proofs.Try.prog Try.f11 (acode Go.Proofs.Try.prog (XC.mk 99999 57 71 55) (acall Go.Proofs.Try.prog (XC.mk 99999 57 71 55) 29) 0 99996 (cr (cr (cr (cr (bodyOf Try.f11))))) (e4 n 7) h3) = true := by kernel_rfl
theorem t8 (n : Int) : retTrue Go.Proofs.Try.prog Try.f11 (acode Go.Proofs.Try.prog (XC.mk 99999 57 71 55) (acall Go.Proofs.Try.prog (XC.mk 99999 57 71 55) 29) 0 99996 (cr (cr (cr (cr (bodyOf Try.f11))))) (e4 n 8) h3) = true := by kernel_rfl
theorem t9 (n : Int) : retTrue Go.Proofs.Try.prog Try.f11 (acode Go.Proofs.Try.prog (XC.mk 99999 57 71 55) (acall Go.Proofs.Try.prog (XC.mk 99999 57 71 55) 29) 0 99996 (cr (cr (cr (cr (bodyOf Try.f11))))) (e4 n 9) h3) = true := by kernel_rfl
theorem t10 (n : Int) : retTrue Go.Proofs.Try.prog Try.f11 (acode Go.Proofs.Try.prog (XC.mk 99999 57 71 55) (acall Go.Proofs.Try.prog (XC.mk 99999 57 71 55) 29) 0 99996 (cr (cr (cr (cr (bodyOf Try.f11))))) (e4 n 10) h3) = true := by kernel_rfl
theorem t11 (n : Int) : retTrue Go.Proofs.Try.prog Try.f11 (acode Go.Proofs.Try.prog (XC.mk 99999 57 71 55) (acall Go.Proofs.Try.prog (XC.mk 99999 57 71 55) 29) 0 99996 (cr (cr (cr (cr (bodyOf Try.f11))))) (e4 n 11) h3) = true := by kernel_rfl
theorem rest (n : Int) (h0 : 0 ≤ n) : retTrue Go.Proofs.Try.prog Try.f11 (acode Go.Proofs.Try.prog (XC.mk 99999 57 71 55) (acall Go.Proofs.Try.prog (XC.mk 99999 57 71 55) 29) 0 99996 (cr (cr (cr (cr (bodyOf Try.f11))))) (e4 n (Int.tmod n 12)) h3) = true := by
  rw [Int.tmod_eq_emod_of_nonneg h0]
  have hk : n % 12 = 0 ∨ n % 12 = 1 ∨ n % 12 = 2 ∨ n % 12 = 3 ∨ n % 12 = 4 ∨ n % 12 = 5 ∨ n % 12 = 6 ∨ n % 12 = 7 ∨ n % 12 = 8 ∨ n % 12 = 9 ∨ n % 12 = 10 ∨ n % 12 = 11 := by omega
  rcases hk with h | h | h | h | h | h | h | h | h | h | h | h <;> rw [h]
  · exact t0 n
  · exact t1 n
  · exact t2 n
  · exact t3 n
  · exact t4 n
  · exact t5 n
  · exact t6 n
  · exact t7 n
  · exact t8 n
  · exact t9 n
  · exact t10 n
  · exact t11 n
theorem found (n : Int) (hn : 0 ≤ n) : isTrue (acall Go.Proofs.Try.prog (XC.mk 99999 57 71 55) 30 11 [.int .u8 n] AH.empty) = true := by
  refine whole_args (d := 29) (fn := Try.f11) (c := bodyOf Try.f11) Try.func11 (by kernel_rfl) (by decide +kernel) (by decide) (by decide) ?_
  have e : ([.int .u8 n] : List Value) ++ List.replicate (Try.f11.ntmps - ([.int .u8 n] : List Value).length) undef = e0 n := rfl
  rw [e]
  change retTrue Go.Proofs.Try.prog Try.f11 (acode Go.Proofs.Try.prog (XC.mk 99999 57 71 55) (acall Go.Proofs.Try.prog (XC.mk 99999 57 71 55) 29) 0 100000 (bodyOf Try.f11) (e0 n) h0) = true
  rw [show (100000 : Nat) = 99999 + 1 from rfl, seq_on (n := 99999) (by kernel_rfl) (s0 n)]
  rw [show (99999 : Nat) = 99998 + 1 from rfl, seq_on (n := 99998) (by kernel_rfl) (s1 n)]
  rw [show (99998 : Nat) = 99997 + 1 from rfl, seq_on (n := 99997) (by kernel_rfl) (s2 n)]
  rw [show (99997 : Nat) = 99996 + 1 from rfl, seq_on (n := 99996) (by kernel_rfl) (s3 n)]
  exact rest n hn
end Go.Proofs.Ytpjkbjpjhkcofaa.StDiskFails
