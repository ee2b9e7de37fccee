/- EventAll: events, and their bytes, are as the document says. No condition. -/
import Derived.Test.YtfgeffmlfbeodaaPureEventAllA
import Derived.Test.YtfgeffmlfbeodaaCrc
namespace Go.Proofs.Ytfgeffmlfbeodaa.Pure
open Go.RowKit Go.Proofs.Ytfgeffmlfbeodaa.PEventAll Go.Proofs.YtfgeffmlfbeodaaW.PrintWords Go.Proofs.YtfgeffmlfbeodaaW.PrintLast
set_option linter.unusedVariables false

open Go Go.Proofs Go.Proofs.Ytfgeffmlfbeodaa.Crc Go.Proofs.Ytfgeffmlfbeodaa.Names Go.Proofs.Ytfgeffmlfbeodaa.Stru Go.Proofs.Ytfgeffmlfbeodaa.Rd
open Go.Proofs.Ytfgeffmlfbeodaa.Rf (rtk)
theorem take_ref (k : Nat) (hk : 200 ≤ k) (l : List Int) (hb : Bytes8 l) (hl : l.length ≤ 200) (A0 : Option Addr) (c0 : Nat) (W : World) (hr0 : Kd.C (Kd.int .u8) W A0 l.length l) (hc0 : l.length ≤ c0) (o1 : Int) (o2 : ByteArray) (o3 : Int) (o4 : ByteArray) (o5 : List Int) (o6 : Int) (hev : evOf l = (o1, o2, o3, o4, o5, o6)) :
    Calls Try.prog 21 #[.slice A0 l.length c0] W fun e w' => ∃ v : Value, e = .returned (.tuple #[.agg #[.int .i64 o1, .string o2, .int .i64 o3, .string o4, v], .int .i64 o6]) ∧ Kd.R (Kd.int .u8) 5 w' W.heap.size (fun k => W.heap.size ≤ k) v o5 ∧ Below W.heap.size W w' := by
  rcases i1 : rtk l false 8 with ⟨x1, r1, s1⟩
  rcases i2 : rtk r1 s1 8 with ⟨x2, r2, s2⟩
  rcases i3 : rtk r2 s2 1 with ⟨y3, t3, f3⟩
  rcases j3 : rtk t3 f3 (nm y3) with ⟨x3, r3, s3⟩
  rcases i4 : rtk r3 s3 1 with ⟨y4, t4, f4⟩
  rcases j4 : rtk t4 f4 (nm y4) with ⟨x4, r4, s4⟩
  rcases i5 : rtk r4 s4 1 with ⟨y5, t5, f5⟩
  rcases j5 : rtk t5 f5 (nm y5) with ⟨x5, r5, s5⟩
  have d1 := rtk_bytes hb false 8
  have l1 := rtk_len l false 8
  rw [i1] at d1 l1
  have d2 := rtk_bytes d1.2 s1 8
  have l2 := rtk_len r1 s1 8
  rw [i2] at d2 l2
  have c3 := rtk_bytes d2.2 s2 1
  rw [i3] at c3
  have d3 := rtk_bytes c3.2 f3 (nm y3)
  rw [j3] at d3
  have c4 := rtk_bytes d3.2 s3 1
  rw [i4] at c4
  have d4 := rtk_bytes c4.2 f4 (nm y4)
  rw [j4] at d4
  have z3 := sh_le r2 s2 k hk d2.2
  rw [i3] at z3
  have z4 := sh_le r3 s3 k hk d3.2
  rw [i4] at z4
  have z5 := sh_le r4 s4 k hk d4.2
  rw [i5] at z5
  have n1 := num_nm x1 d1.1 (by exact l1) k (by omega)
  have n2 := num_nm x2 d2.1 (by exact l2) k (by omega)
  have hw := whole l hb
  unfold rtx at hw
  simp only [i1, i2, i3, j3, i4, j4, i5, j5] at hw
  refine takeEvent k A0 c0 l W hr0 hc0 x1 r1 x2 r2 y3 t3 x3 r3 y4 t4 x4 r4 y5 t5 x5 r5 s1 s2 f3 s3 f4 s4 f5 s5 (nm x1) (nm x2) (nm y3) (nm y4) (nm y5) i1 n1 i2 n2 i3 z3.1 z3.2 j3 i4 z4.1 z4.2 j4 i5 z5.1 z5.2 j5 o1 o2 o3 o4 o5 o6 ?_
  rw [← hev]
  clear n1 n2 z3 z4 z5
  rcases hw with ⟨h1, h2⟩ | ⟨x1', x2', s, t, d, rest, h1, h2, h3, h4, h5, n1, n2, hl', q1, q2, q3, q4, g1, g2, g3, g4, g5⟩
  · left
    refine ⟨h2, ?_⟩
    unfold evOf; rw [if_pos h1]; rfl
  · right
    have hlen := congrArg List.length hl'
    simp only [List.length_append, List.length_cons] at hlen
    obtain ⟨rfl, rfl, rfl⟩ : x1 = x1' ∧ r1 = q1 ∧ s1 = false := by simpa using g1
    rw [i2] at g2
    obtain ⟨rfl, rfl, rfl⟩ : x2 = x2' ∧ r2 = q2 ∧ s2 = false := by simpa using g2
    simp only [i3, j3] at g3
    obtain ⟨rfl, rfl, rfl⟩ : x3 = s ∧ r3 = q3 ∧ s3 = false := by simpa using g3
    simp only [i4, j4] at g4
    obtain ⟨rfl, rfl, rfl⟩ : x4 = t ∧ r4 = q4 ∧ s4 = false := by simpa using g4
    simp only [i5, j5] at g5
    obtain ⟨rfl, rfl, rfl⟩ : x5 = d ∧ r5 = rest ∧ s5 = false := by simpa using g5
    have hev : evOf l = if r5 = [] then (if mayE (wrap64 (nm x1)) (strOfNums x3) (wrap64 (nm x2)) (strOfNums x4) x5 = true then (wrap64 (nm x1), strOfNums x3, wrap64 (nm x2), strOfNums x4, x5, 0) else zero6) else zero6 := by
      unfold evOf; rw [h1, h2, h3, h4, h5]; simp only; rw [if_neg (by decide)]
    by_cases c : r5 = []
    · right
      refine ⟨rfl, c, _, mayref k hk _ _ _ _ _ (by rw [str_u]; omega) (by rw [str_u]; omega), ?_⟩
      rw [hev, if_pos c]
      rfl
    · left
      refine ⟨rfl, c, ?_⟩
      rw [hev, if_neg c]; rfl

end Go.Proofs.Ytfgeffmlfbeodaa.Pure
