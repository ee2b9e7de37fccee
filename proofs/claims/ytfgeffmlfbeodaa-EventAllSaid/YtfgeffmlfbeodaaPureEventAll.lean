/- EventAll: events, and their bytes, are as the document says. No condition. -/
import Derived.Test.YtfgeffmlfbeodaaWalkEventAll
import Derived.Test.YtfgeffmlfbeodaaPureEventAllB
import Derived.Test.YtfgeffmlfbeodaaCrc
namespace Go.Proofs.Ytfgeffmlfbeodaa.Pure
open Go.RowKit Go.Proofs.Ytfgeffmlfbeodaa.PEventAll Go.Proofs.YtfgeffmlfbeodaaW.PrintWords Go.Proofs.YtfgeffmlfbeodaaW.PrintLast
set_option linter.unusedVariables false

open Go Go.Proofs Go.Proofs.Ytfgeffmlfbeodaa.Crc Go.Proofs.Ytfgeffmlfbeodaa.Names Go.Proofs.Ytfgeffmlfbeodaa.Stru Go.Proofs.Ytfgeffmlfbeodaa.Rd
open Go.Proofs.Ytfgeffmlfbeodaa.Rf (rtk)
theorem same_same (v1 : Int) (s : ByteArray) (v2 : Int) (t : ByteArray) (d : List Int) (u1 : Int) (a : ByteArray) (u2 : Int) (b : ByteArray) (e : List Int) : ∃ q, event_Same.f v1 s v2 t d u1 a u2 b e = some q ∧ pandectref6_SameEvent.f v1 s v2 t d u1 a u2 b e = some q := by
  refine ⟨(event_Same.f v1 s v2 t d u1 a u2 b e).getD false, ?_, ?_⟩ <;> unfold event_Same.f bytes_Equal.f <;> (try unfold pandectref6_SameEvent.f) <;> split <;> (try split) <;> (try split) <;> (try split) <;> simp_all
theorem pre_C {W : World} {A : Option Addr} {l z : List Int} (h : Kd.C (Kd.int .u8) W A (l ++ z).length (l ++ z)) : Kd.C (Kd.int .u8) W A l.length l := by
  have := Kd.C_take (m := l.length) h (by simp)
  rw [List.take_left] at this
  exact this
theorem walk (v1 : Int) (s : ByteArray) (v2 : Int) (t : ByteArray) (ad : Option Addr) (len cap : Nat) (z : List Int) (u1 : Int) (s' : ByteArray) (u2 : Int) (t' : ByteArray) (ad' : Option Addr) (len' cap' : Nat) (z' : List Int) (a6 : Option Addr) (len6 cap6 : Nat) (z6 : List Int) (w : World)
    (w0 : (Lit.int .i64 v1).wf = true) (w1 : s.size ≤ 140737488351232) (w2 : (Lit.int .i64 v2).wf = true) (w3 : t.size ≤ 140737488351232) (w4 : IsRow .u8 w ad len cap z) (w0' : (Lit.int .i64 u1).wf = true) (w1' : s'.size ≤ 140737488351232) (w2' : (Lit.int .i64 u2).wf = true) (w3' : t'.size ≤ 140737488351232) (w4' : IsRow .u8 w ad' len' cap' z')
    (w6 : (a6 = none ∧ len6 = 0 ∧ cap6 = 0 ∧ z6 = []) ∨ ∃ x, a6 = some x ∧ len6 ≤ cap6 ∧ cap6 ≤ maxLen ∧ z6.length = cap6 ∧ (∀ i, i < z6.length → w.cell? (x.add i) = some (.int .u8 (z6.getD i 0))) ∧ ∀ n ∈ z6, (Lit.int .u8 n).wf = true) (y6 : len6 * 1 ≤ 140737488351232) :
    Calls Try.prog 3 #[.agg #[.int .i64 v1, .string s, .int .i64 v2, .string t, .slice ad len cap], .agg #[.int .i64 u1, .string s', .int .i64 u2, .string t', .slice ad' len' cap'], .slice a6 len6 cap6] w fun e w' => e = .returned (.bool true) ∧ Below w.heap.size w w' := by
  obtain ⟨l, rfl, hr, hmx, hw, hc⟩ := ReadsInt.ofRowC w4
  obtain ⟨l', rfl, hr', hmx', hw', hc'⟩ := ReadsInt.ofRowC w4'
  obtain ⟨l6, rfl, hr6, hmx6, hw6, hc6⟩ := ReadsInt.ofRowC w6
  have hC : Kd.C (Kd.int .u8) w ad l.length l := Kd.C_of_reads (d := (0 : Int)) (h1 := fun _ => rfl) hr
  have hC' : Kd.C (Kd.int .u8) w ad' l'.length l' := Kd.C_of_reads (d := (0 : Int)) (h1 := fun _ => rfl) hr'
  have hC6 : Kd.C (Kd.int .u8) w a6 l6.length l6 := Kd.C_of_reads (d := (0 : Int)) (h1 := fun _ => rfl) hr6
  have hb := bytes_of hw
  have hb6 := bytes_of hw6
  have b1 := (wf_i64 w0).2
  have b2 := (wf_i64 w2).2
  clear w0 w2 w0' w2' w4 w4' w6 hr hr' hr6
  by_cases j1 : (l.length : Int) > 150
  · exact walk_heavy 400 v1 s v2 t ad cap l u1 s' u2 t' ad' cap' l' a6 cap6 l6 w hC hc hC' hc' hC6 hc6 (by omega) (by omega) (by omega) (by omega) (.inl j1)
  by_cases j2 : (l'.length : Int) > 150
  · exact walk_heavy 400 v1 s v2 t ad cap l u1 s' u2 t' ad' cap' l' a6 cap6 l6 w hC hc hC' hc' hC6 hc6 (by omega) (by omega) (by omega) (by omega) (.inr (.inl j2))
  by_cases j3 : (l6.length : Int) > 200
  · exact walk_heavy 400 v1 s v2 t ad cap l u1 s' u2 t' ad' cap' l' a6 cap6 l6 w hC hc hC' hc' hC6 hc6 (by omega) (by omega) (by omega) (by omega) (.inr (.inr (.inl j3)))
  by_cases j4 : (s.size : Int) + (t.size : Int) + (s'.size : Int) + (t'.size : Int) > 120
  · exact walk_heavy 400 v1 s v2 t ad cap l u1 s' u2 t' ad' cap' l' a6 cap6 l6 w hC hc hC' hc' hC6 hc6 (by omega) (by omega) (by omega) (by omega) (.inr (.inr (.inr j4)))
  have hT := take_ev 400 (by omega) l6 hb6 (by omega)
  have hR := take_ref 400 (by omega) l6 hb6 (by omega)
  rcases hev : evOf l6 with ⟨p1, p2, p3, p4, p5, p6⟩
  rw [hev] at hT
  obtain ⟨X, hp, hpr⟩ := puts_ 400 (by omega) v1 s v2 t l hb (by omega) (by omega) b1 b2
  obtain ⟨q, hq, hqr⟩ := same_same v1 s v2 t l u1 s' u2 t' l'
  exact walk_light 400 v1 s v2 t ad cap l u1 s' u2 t' ad' cap' l' a6 cap6 l6 w hC hc hC' hc' hC6 hc6 (by omega) (by omega) (by omega) (by omega) j1 j2 j3 j4 (l6 ++ [224, 225, 226, 227, 228, 229]) X (mayE v1 s v2 t l) q
    p1 p2 p3 p4 p5 p6
    (loan l6 (by omega) 400 (by omega)) (by simp) (fun W A h => pre_C h) hT
    (fun A0 c0 W h1 h2 => hR A0 c0 W h1 h2 p1 p2 p3 p4 p5 p6 hev) (may_eq v1 s v2 t l) (mayref 400 (by omega) v1 s v2 t l (by omega) (by omega)) hp hpr (same_ref _ _ _ _ _) hq hqr (same_self _ _ _ _ _) (kept l6)

end Go.Proofs.Ytfgeffmlfbeodaa.Pure
