/- RootForms: a long closed run, in pieces: its states, written by a program. No condition. -/
import Derived.Test.YtffdonpkmnngpaaProg
import Derived.Test.YtffdonpkmnngpaaStRootFormsdb
namespace Go.Proofs.Ytffdonpkmnngpaa.StRootForms
open Go Go.RowKit Go.Proofs Go.Proofs.Ytffdonpkmnngpaa.Ev
set_option maxRecDepth 100000
theorem s1 : acode Go.Proofs.Try.prog 99999 (acall Go.Proofs.Try.prog 99999 29) 0 99999 (cl (bodyOf Try.f12)) e0 h0 = some (.normal, e1, h1, KO, KO) := by kernel_rfl
theorem s2 : acode Go.Proofs.Try.prog 99999 (acall Go.Proofs.Try.prog 99999 29) 0 99998 (cl (cr (bodyOf Try.f12))) e1 h1 = some (.normal, e2, h2, KO, KO) := by kernel_rfl
theorem s3 : acode Go.Proofs.Try.prog 99999 (acall Go.Proofs.Try.prog 99999 29) 0 99997 (cl (cr (cr (bodyOf Try.f12)))) e2 h2 = some (.normal, e3, h3, KO, KO) := by kernel_rfl
theorem s4 : acode Go.Proofs.Try.prog 99999 (acall Go.Proofs.Try.prog 99999 29) 0 99996 (cl (cr (cr (cr (bodyOf Try.f12))))) e3 h3 = some (.normal, e4, h4, KO, KO) := by kernel_rfl
theorem s5 : acode Go.Proofs.Try.prog 99999 (acall Go.Proofs.Try.prog 99999 29) 0 99995 (cl (cr (cr (cr (cr (bodyOf Try.f12)))))) e4 h4 = some (.normal, e5, h5, KO, KO) := by kernel_rfl
theorem s6 : acode Go.Proofs.Try.prog 99999 (acall Go.Proofs.Try.prog 99999 29) 0 99994 (cl (cr (cr (cr (cr (cr (bodyOf Try.f12))))))) e5 h5 = some (.normal, e6, h6, KO, KO) := by kernel_rfl
theorem s7 : acode Go.Proofs.Try.prog 99999 (acall Go.Proofs.Try.prog 99999 29) 0 99993 (cl (cr (cr (cr (cr (cr (cr (bodyOf Try.f12)))))))) e6 h6 = some (.normal, e7, h7, KO, KO) := by kernel_rfl
theorem s8 : acode Go.Proofs.Try.prog 99999 (acall Go.Proofs.Try.prog 99999 29) 0 99992 (cl (cr (cr (cr (cr (cr (cr (cr (bodyOf Try.f12))))))))) e7 h7 = some (.normal, e8, h8, KO, KO) := by kernel_rfl
theorem s9 : acode Go.Proofs.Try.prog 99999 (acall Go.Proofs.Try.prog 99999 29) 0 99991 (cl (cr (cr (cr (cr (cr (cr (cr (cr (bodyOf Try.f12)))))))))) e8 h8 = some (.normal, e9, h9, KO, KO) := by kernel_rfl
theorem s10 : acode Go.Proofs.Try.prog 99999 (acall Go.Proofs.Try.prog 99999 29) 0 99989 (cl (cl (cr (cr (cr (cr (cr (cr (cr (cr (cr (bodyOf Try.f12)))))))))))) e9 h9 = some (.normal, e10, h10, KO, KO) := by kernel_rfl
theorem t11 : aiter Go.Proofs.Try.prog 99999 (acall Go.Proofs.Try.prog 99999 29) (cl (cl (cr (cl (cr (cr (cr (cr (cr (cr (cr (cr (cr (bodyOf Try.f12)))))))))))))) 25 99988 e10 h10 = some (e11, h11) := by kernel_rfl
theorem t12 : aiter Go.Proofs.Try.prog 99999 (acall Go.Proofs.Try.prog 99999 29) (cl (cl (cr (cl (cr (cr (cr (cr (cr (cr (cr (cr (cr (bodyOf Try.f12)))))))))))))) 25 99963 e11 h11 = some (e12, h12) := by kernel_rfl
theorem t13 : aiter Go.Proofs.Try.prog 99999 (acall Go.Proofs.Try.prog 99999 29) (cl (cl (cr (cl (cr (cr (cr (cr (cr (cr (cr (cr (cr (bodyOf Try.f12)))))))))))))) 25 99938 e12 h12 = some (e13, h13) := by kernel_rfl
theorem t14 : aiter Go.Proofs.Try.prog 99999 (acall Go.Proofs.Try.prog 99999 29) (cl (cl (cr (cl (cr (cr (cr (cr (cr (cr (cr (cr (cr (bodyOf Try.f12)))))))))))))) 25 99913 e13 h13 = some (e14, h14) := by kernel_rfl
theorem s15 : acode Go.Proofs.Try.prog 99999 (acall Go.Proofs.Try.prog 99999 29) 0 99887 (cl (cl (cr (cl (cr (cr (cr (cr (cr (cr (cr (cr (cr (bodyOf Try.f12)))))))))))))) e14 h14 = some ((.exit 2), e15, h15, KO, KO) := by kernel_rfl
theorem l14_15 : acode Go.Proofs.Try.prog 99999 (acall Go.Proofs.Try.prog 99999 29) 0 99888 (cl (cr (cl (cr (cr (cr (cr (cr (cr (cr (cr (cr (bodyOf Try.f12))))))))))))) e14 h14 = some ((.exit 2), e15, h15, KO, KO) := step_loop' (n := 99887) (by kernel_rfl) s15 (by intro h; cases h)
theorem u13_15 : acode Go.Proofs.Try.prog 99999 (acall Go.Proofs.Try.prog 99999 29) 0 99913 (cl (cr (cl (cr (cr (cr (cr (cr (cr (cr (cr (cr (bodyOf Try.f12))))))))))))) e13 h13 = some ((.exit 2), e15, h15, KO, KO) := step_iter' (n := 99888) (by kernel_rfl) 25 t14 l14_15
theorem u12_15 : acode Go.Proofs.Try.prog 99999 (acall Go.Proofs.Try.prog 99999 29) 0 99938 (cl (cr (cl (cr (cr (cr (cr (cr (cr (cr (cr (cr (bodyOf Try.f12))))))))))))) e12 h12 = some ((.exit 2), e15, h15, KO, KO) := step_iter' (n := 99913) (by kernel_rfl) 25 t13 u13_15
theorem u11_15 : acode Go.Proofs.Try.prog 99999 (acall Go.Proofs.Try.prog 99999 29) 0 99963 (cl (cr (cl (cr (cr (cr (cr (cr (cr (cr (cr (cr (bodyOf Try.f12))))))))))))) e11 h11 = some ((.exit 2), e15, h15, KO, KO) := step_iter' (n := 99938) (by kernel_rfl) 25 t12 u12_15
theorem u10_15 : acode Go.Proofs.Try.prog 99999 (acall Go.Proofs.Try.prog 99999 29) 0 99988 (cl (cr (cl (cr (cr (cr (cr (cr (cr (cr (cr (cr (bodyOf Try.f12))))))))))))) e10 h10 = some ((.exit 2), e15, h15, KO, KO) := step_iter' (n := 99963) (by kernel_rfl) 25 t11 u11_15
theorem b10_15 : acode Go.Proofs.Try.prog 99999 (acall Go.Proofs.Try.prog 99999 29) 0 99989 (cr (cl (cr (cr (cr (cr (cr (cr (cr (cr (cr (bodyOf Try.f12)))))))))))) e10 h10 = some (.normal, e15, h15, KO, KO) := step_block' (n := 99988) (id := 2) (by kernel_rfl) u10_15
theorem q9_15 : acode Go.Proofs.Try.prog 99999 (acall Go.Proofs.Try.prog 99999 29) 0 99990 (cl (cr (cr (cr (cr (cr (cr (cr (cr (cr (bodyOf Try.f12))))))))))) e9 h9 = some (.normal, e15, h15, KO, KO) := step_seq' (n := 99989) (by kernel_rfl) s10 b10_15
theorem s16 : acode Go.Proofs.Try.prog 99999 (acall Go.Proofs.Try.prog 99999 29) 0 99990 (cr (cr (cr (cr (cr (cr (cr (cr (cr (cr (bodyOf Try.f12))))))))))) e15 h15 = some (.ret, e16, h16, KO, KO) := by kernel_rfl
theorem q9_16 : acode Go.Proofs.Try.prog 99999 (acall Go.Proofs.Try.prog 99999 29) 0 99991 (cr (cr (cr (cr (cr (cr (cr (cr (cr (bodyOf Try.f12)))))))))) e9 h9 = some (.ret, e16, h16, KO, KO) := step_seq' (n := 99990) (by kernel_rfl) q9_15 s16
theorem q8_16 : acode Go.Proofs.Try.prog 99999 (acall Go.Proofs.Try.prog 99999 29) 0 99992 (cr (cr (cr (cr (cr (cr (cr (cr (bodyOf Try.f12))))))))) e8 h8 = some (.ret, e16, h16, KO, KO) := step_seq' (n := 99991) (by kernel_rfl) s9 q9_16
theorem q7_16 : acode Go.Proofs.Try.prog 99999 (acall Go.Proofs.Try.prog 99999 29) 0 99993 (cr (cr (cr (cr (cr (cr (cr (bodyOf Try.f12)))))))) e7 h7 = some (.ret, e16, h16, KO, KO) := step_seq' (n := 99992) (by kernel_rfl) s8 q8_16
theorem q6_16 : acode Go.Proofs.Try.prog 99999 (acall Go.Proofs.Try.prog 99999 29) 0 99994 (cr (cr (cr (cr (cr (cr (bodyOf Try.f12))))))) e6 h6 = some (.ret, e16, h16, KO, KO) := step_seq' (n := 99993) (by kernel_rfl) s7 q7_16
theorem q5_16 : acode Go.Proofs.Try.prog 99999 (acall Go.Proofs.Try.prog 99999 29) 0 99995 (cr (cr (cr (cr (cr (bodyOf Try.f12)))))) e5 h5 = some (.ret, e16, h16, KO, KO) := step_seq' (n := 99994) (by kernel_rfl) s6 q6_16
theorem q4_16 : acode Go.Proofs.Try.prog 99999 (acall Go.Proofs.Try.prog 99999 29) 0 99996 (cr (cr (cr (cr (bodyOf Try.f12))))) e4 h4 = some (.ret, e16, h16, KO, KO) := step_seq' (n := 99995) (by kernel_rfl) s5 q5_16
theorem q3_16 : acode Go.Proofs.Try.prog 99999 (acall Go.Proofs.Try.prog 99999 29) 0 99997 (cr (cr (cr (bodyOf Try.f12)))) e3 h3 = some (.ret, e16, h16, KO, KO) := step_seq' (n := 99996) (by kernel_rfl) s4 q4_16
theorem q2_16 : acode Go.Proofs.Try.prog 99999 (acall Go.Proofs.Try.prog 99999 29) 0 99998 (cr (cr (bodyOf Try.f12))) e2 h2 = some (.ret, e16, h16, KO, KO) := step_seq' (n := 99997) (by kernel_rfl) s3 q3_16
theorem q1_16 : acode Go.Proofs.Try.prog 99999 (acall Go.Proofs.Try.prog 99999 29) 0 99999 (cr (bodyOf Try.f12)) e1 h1 = some (.ret, e16, h16, KO, KO) := step_seq' (n := 99998) (by kernel_rfl) s2 q2_16
theorem q0_16 : acode Go.Proofs.Try.prog 99999 (acall Go.Proofs.Try.prog 99999 29) 0 100000 (bodyOf Try.f12) e0 h0 = some (.ret, e16, h16, KO, KO) := step_seq' (n := 99999) (by kernel_rfl) s1 q1_16
theorem found : isTrue (acall Go.Proofs.Try.prog 99999 30 12 [] AH.empty) = true := whole (d := 29) (fn := Try.f12) (c := bodyOf Try.f12) (rs := []) Try.func12 (by kernel_rfl) (by decide +kernel) q0_16 (by kernel_rfl)
end Go.Proofs.Ytffdonpkmnngpaa.StRootForms
