/- root.Take's reader: what is read next. Bound to this program. -/
import Derived.Test.YtffdonpkmnngpaaRootPut
import Derived.Test.YtffdonpkmnngpaaRP
namespace Go.Proofs.Ytffdonpkmnngpaa.PRootAll
open Go Go.RowKit Go.Proofs Go.Proofs.Ytffdonpkmnngpaa.RG Go.Proofs.Ytffdonpkmnngpaa.RP Go.Proofs.YtffdonpkmnngpaaW.PrintWords Go.Proofs.YtffdonpkmnngpaaW.PrintLast Go.Proofs.YtffdonpkmnngpaaW.PrintMore
set_option linter.unusedVariables false
set_option linter.unusedSimpArgs false
/-- The row that is still to be read lies in block g. -/
structure St (w0 : World) (g : Nat) (xs : List Int) (w : World) : Prop where
  below : Below w0.heap.size w0 w
  le : w0.heap.size ≤ g
  blk : ∃ A c, w.heap[g]? = some (.cells #[.slice A xs.length c] 22 (0, 0)) ∧ xs.length ≤ c ∧ Kd.C (Kd.int .u8) w0 A xs.length xs
theorem St.next {w0 : World} {g : Nat} {xs : List Int} {w w' : World} (h : St w0 g xs w) (hb : Below w.heap.size w w') : St w0 g xs w' := by
  obtain ⟨h1, h2, A, c, h3, h4⟩ := h
  exact ⟨below_then h1 h1.size hb, h2, A, c, blk_below h3 hb, h4⟩
theorem drop_rd (y : List Int) (x : Int) (h0 : 0 ≤ x) (h1 : x < (y.length : Int)) : y.drop x.toNat = rd y x :: y.drop (x.toNat + 1) := by
  have h : x.toNat < y.length := by omega
  rw [List.drop_eq_getElem_cons h]
  congr 1
  simp [rd, h0, h]
/-- One byte more of a number. -/
def ustep (v c : Int) : Int := bits .or .u64 (IntKind.u64.wrap (v * 256)) (IntKind.u64.wrap c)
def numu (xs : List Int) : Int := xs.foldl ustep 0
set_option maxHeartbeats 4000000 in
set_option maxRecDepth 100000 in
theorem next_ (w0 w : World) (g : Nat) (xs : List Int) (hS : St w0 g xs w) (h8 : 8 ≤ xs.length) :
    Calls Try.prog 48 #[.pointer (some ⟨g, 0, none⟩)] w fun e w' => e = .returned (.int .u64 (numu (xs.take 8))) ∧ KeepBut w w' g none ∧ St w0 g (xs.drop 8) w' := by
  obtain ⟨hb0, hle, A, c, hblk, hc, hC⟩ := hS
  have HB0 := Aside0.mk hb0
  have HLE := Aside0.mk hle
  have HB := Aside0.mk (Below.refl w.heap.size w)
  have BK := Aside0.mk hblk
  have HCC := Aside0.mk hc
  have hz0 := (blk_cell BK.out 0).trans rfl
  have hf0 := blk_frozen BK.out 0
  have hmax : xs.length ≤ 9223372036854775807 := hC.2.1
  obtain ⟨i0, hi0, _, hsz, _⟩ := info_parts info5
  obtain ⟨y, hy⟩ : ∃ y : List Int, y = xs.take 8 := ⟨_, rfl⟩
  obtain ⟨y2, hy2⟩ : ∃ y : List Int, y = xs.drop 8 := ⟨_, rfl⟩
  have hyl : y.length = 8 := by rw [hy, List.length_take]; omega
  obtain ⟨hcut1, hA1, hC1⟩ := print_take_of (P := Try.prog) (Value.int .u8) 0 22 5 .i64 Try.underlying22 hi0 hsz A c xs 8 (by omega) (by omega) hc
  obtain ⟨A2, hcut2, hA2, hC2⟩ := print_drop_of (P := Try.prog) (Value.int .u8) 0 22 5 .i64 Try.underlying22 hi0 hsz A c xs 8 (by omega) (by omega) hc
  simp only [Int.reduceToNat] at hcut1 hA1 hC1 hcut2 hA2 hC2
  rw [← hy] at hcut1 hA1 hC1
  rw [← hy2] at hcut2 hA2 hC2
  rw [← hy, ← hy2]
  have HR : Aside0 (Kd.C (Kd.int .u8) w A y.length y) := Aside0.mk (Kd.C_below (Kd.C_of_reads (h1 := fun _ => rfl) (hA1 _ (Kd.reads_of_C hC))) hb0)
  have HC2 : Aside0 (Kd.C (Kd.int .u8) w0 A2 y2.length y2) := Aside0.mk (Kd.C_of_reads (h1 := fun _ => rfl) (hA2 _ (Kd.reads_of_C hC)))
  have HL1 := Aside0.mk hC1
  have HL2 := Aside0.mk hC2
  have HYL := Aside0.mk hyl
  clear hC hblk hb0 hle hA1 hA2 hC1 hC2 hy hy2 hyl h8 hi0 hsz hmax hc
  go_enter Try.func48, Try.ntmps48
  go_wp2_with (fail)
  go_loopg [1, 7] (y.length + 1) (fun kq v2 v8 w' => ∃ (a x : Int), v2 = .int .u64 a ∧ v8 = .int .i64 x ∧ Aside0 (0 ≤ x ∧ x ≤ y.length ∧ x + kq = y.length + 1 ∧ (y.drop x.toNat).foldl ustep a = numu y) ∧ Aside0 (w' = w))
  case atStart => exact ⟨(0 : Int), (0 : Int), rfl, rfl, ⟨⟨by decide, Int.natCast_nonneg _, by simp, by simp [numu]⟩⟩, ⟨rfl⟩⟩
  case round =>
    obtain ⟨a, x, rfl, rfl, HX, HW⟩ := hrel
    have hw := HW.out
    subst hw
    have hX := HX.out
    cases gk with
    | zero => exact absurd hX.2.2.1 (by omega)
    | succ k1 =>
      by_cases c8 : x < (y.length : Int)
      · have c7b0 : decide (x < (y.length : Int)) = true := decide_eq_true c8
        obtain ⟨ad, e_, hx⟩ := Kd.at_int HR.out x hX.1 c8
        cases e_
        have p7 := eq_true hX.1
        have q7 := eq_true c8
        have i7 : wrap64 (x + 1) = x + 1 := by have := HYL.out; unfold wrap64; omega
        have HD := Aside0.mk (drop_rd y x hX.1 c8)
        clear c8 hX
        go_wp2_with (fail)
        go_roundg k1
        case measure => omega
        case rel => exact ⟨_, _, rfl, rfl, ⟨by have := HX.out; have := of_eq_true q7; refine ⟨by omega, by omega, by omega, ?_⟩; rw [show (x + 1).toNat = x.toNat + 1 by omega]; have h1 := HX.out.2.2.2; rw [HD.out, List.foldl_cons] at h1; exact h1⟩, ⟨rfl⟩⟩
      · have c7b0 : decide (x < (y.length : Int)) = false := decide_eq_false c8
        have hv : numu y = a := by
          have h1 := hX.2.2.2
          rw [List.drop_of_length_le (by omega)] at h1
          exact h1.symm
        clear c8 hX
        go_wp2_with (fail)
        go_ret
        exact ⟨rfl, KeepBut.set_ (KeepBut.of_below HB.out g none) 0 _, ⟨below_set HB0.out HLE.out, HLE.out, A2, _, blk_put BK.out 0 _ rfl, HL2.out, HC2.out⟩⟩
end Go.Proofs.Ytffdonpkmnngpaa.PRootAll
