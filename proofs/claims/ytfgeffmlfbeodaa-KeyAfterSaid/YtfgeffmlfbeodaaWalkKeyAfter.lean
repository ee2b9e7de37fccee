/- KeyAfter's walk: where the callees answer as is told, the law returns true. Conditions: those of each theorem. -/
import Derived.Test.YtfgeffmlfbeodaaPKeyAfterx2
import Derived.Test.YtfgeffmlfbeodaaRGK
import Derived.WalkLawsBesides
namespace Go.Proofs.Ytfgeffmlfbeodaa.PKeyAfter
open Go.RowKit Go.Proofs.YtfgeffmlfbeodaaW.PrintWords Go.Proofs.YtfgeffmlfbeodaaW.PrintLast Go.Proofs.YtfgeffmlfbeodaaW.PrintMore
open Go.Proofs.Ytfgeffmlfbeodaa.RG
set_option linter.unusedVariables false
set_option linter.unusedSimpArgs false
set_option maxHeartbeats 8000000 in
set_option maxRecDepth 100000 in
theorem way_k (k : Nat) (A0 : Option Addr) (c0 : Nat) (l0 : List Int) (A1 : Option Addr) (c1 : Nat) (l1 : List Int) (w : World) (h0 : pandectlaw6_begun.f k = some true) (ha : 20 < l0.length) :
    Calls Try.prog 13 #[.slice A0 l0.length c0, .slice A1 l1.length c1] w fun e w' => e = .returned (.bool true) ∧ Below w.heap.size w w' := by
  have H0 := Aside0.mk h0
  have b1 : decide (20 < (l0.length : Int)) = true := decide_eq_true (by omega)
  have B1 : decide (20 < l0.length) = true := decide_eq_true (by omega)
  clear ha
  have HB := Aside0.mk (Below.refl w.heap.size w)
  clear h0
  go_enter Try.func13, Try.ntmps13
  go_wp2_with (first | (go_at_call 49; (with_reducible refine (pandectlaw6_begun.calls k true _ H0.out).mono ?_); rintro e w1 ⟨rfl, hb_⟩; replace HB := Aside0.mk hb_; clear hb_))
  go_ret
  exact ⟨rfl, HB.out⟩
set_option maxHeartbeats 8000000 in
set_option maxRecDepth 100000 in
theorem way_x (k : Nat) (A0 : Option Addr) (c0 : Nat) (l0 : List Int) (A1 : Option Addr) (c1 : Nat) (l1 : List Int) (w : World) (h0 : pandectlaw6_begun.f k = some true) (ha : l0.length ≤ 20) (hl : 20 < l1.length) :
    Calls Try.prog 13 #[.slice A0 l0.length c0, .slice A1 l1.length c1] w fun e w' => e = .returned (.bool true) ∧ Below w.heap.size w w' := by
  have H0 := Aside0.mk h0
  have b2 : decide (20 < (l0.length : Int)) = false := decide_eq_false (by omega)
  have B2 : decide (20 < l0.length) = false := decide_eq_false (by omega)
  have b3 : decide (20 < (l1.length : Int)) = true := decide_eq_true (by omega)
  have B3 : decide (20 < l1.length) = true := decide_eq_true (by omega)
  clear ha hl
  have HB := Aside0.mk (Below.refl w.heap.size w)
  clear h0
  go_enter Try.func13, Try.ntmps13
  go_wp2_with (first | (go_at_call 49; (with_reducible refine (pandectlaw6_begun.calls k true _ H0.out).mono ?_); rintro e w1 ⟨rfl, hb_⟩; replace HB := Aside0.mk hb_; clear hb_))
  go_ret
  exact ⟨rfl, HB.out⟩
set_option maxHeartbeats 16000000 in
set_option maxRecDepth 100000 in
theorem long_e (k : Nat) (A0 : Option Addr) (c0 : Nat) (l0 : List Int) (A1 : Option Addr) (c1 : Nat) (l1 : List Int) (F : List Int) (w : World) (h0 : pandectlaw6_begun.f k = some true) (hr0 : Kd.C (Kd.int .u8) w A0 l0.length l0) (hc0 : l0.length ≤ c0) (hr1 : Kd.C (Kd.int .u8) w A1 l1.length l1) (hc1 : l1.length ≤ c1)
    (ha : l0.length ≤ 20) (hl : l1.length ≤ 20) (hF : key_After.f k l0 = some F) (hlg : l0.length ≤ l1.length) (y1 : List Int) (hy1 : y1 = l1.take l0.length) (he : ((strOfNums F).toList == ([] : List UInt8)) = true) (h255 : ∀ x : Int, 0 ≤ x → x < (l0.length : Int) → rd l0 x = 255) :
    Calls Try.prog 13 #[.slice A0 l0.length c0, .slice A1 l1.length c1] w fun e w' => e = .returned (.bool true) ∧ Below w.heap.size w w' := by
  have H0 := Aside0.mk h0
  have HR0 := Aside0.mk hr0
  have HC0 := Aside0.mk hc0
  have HR1 := Aside0.mk hr1
  have HC1 := Aside0.mk hc1
  have HF := Aside0.mk hF
  have HB := Aside0.mk (Below.refl w.heap.size w)
  have b4 : decide (20 < (l0.length : Int)) = false := decide_eq_false (by omega)
  have B4 : decide (20 < l0.length) = false := decide_eq_false (by omega)
  have b5 : decide (20 < (l1.length : Int)) = false := decide_eq_false (by omega)
  have B5 : decide (20 < l1.length) = false := decide_eq_false (by omega)
  have b6 : decide ((l0.length : Int) ≤ (l1.length : Int)) = true := decide_eq_true (by omega)
  have B6 : decide (l0.length ≤ l1.length) = true := decide_eq_true (by omega)
  obtain ⟨i0, hi0, _, hsz, _⟩ := info_parts info5
  obtain ⟨hcut1, hA1, hC1⟩ := print_take_of (P := Try.prog) (Value.int .u8) 0 22 5 .i64 Try.underlying22 hi0 hsz A1 c1 l1 (l0.length : Int) (by omega) (by omega) hc1
  rw [Int.toNat_natCast, ← hy1] at hcut1 hA1 hC1
  have HY : Aside0 (Kd.C (Kd.int .u8) w A1 y1.length y1) := Aside0.mk (Kd.C_of_reads (h1 := fun _ => rfl) (hA1 _ (Kd.reads_of_C hr1)))
  have HLY := Aside0.mk hC1
  clear hA1 hC1 hi0 hsz hy1
  have H255 := Aside0.mk h255
  have hlen20 := Aside0.mk ha
  clear h255
  clear h0 hr0 hc0 hr1 hc1 hF ha hl hlg
  go_enter Try.func13, Try.ntmps13
  go_wp2_with (first | (go_at_call 49; (with_reducible refine (pandectlaw6_begun.calls k true _ H0.out).mono ?_); rintro e w1 ⟨rfl, hb_⟩; replace HB := Aside0.mk hb_; clear hb_) | (go_at_call 66; (with_reducible refine (key_After.calls k A0 c0 l0 F _ (Kd.C_below HR0.out HB.out) HC0.out HF.out).mono ?_); rintro e w2 ⟨v0_, rfl, ho_, hb_⟩; obtain ⟨AF, cF, rfl, hcF, hCF⟩ := Row.of_R ho_; replace HB := Aside0.mk (below_then HB.out HB.out.size hb_); clear ho_ hb_; have hcvF := Kd.C_string (P := Try.prog) (A := AF) (c := cF) Try.underlying22 Try.underlying5 Try.underlying9 hCF))
  refine RG.region 70 (fun W => Below w.heap.size w W) [Sp.exact ?_, Sp.exact ?_, Sp.exact ?_, Sp.exact ?_, Sp.exact ?_, Sp.exact ?_, Sp.exact ?_, Sp.exact ?_, Sp.exact ?_, Sp.exact ?_, Sp.exact ?_, Sp.exact ?_, Sp.exact ?_, Sp.exact ?_, Sp.exact ?_, Sp.exact ?_] (by kernel_rfl) (by kernel_rfl) rfl (fun _ _ hb h => below_then h h.size hb) trivial (by repeat (first | exact HB.out | apply below_alloc | apply pw_below_drewN | apply below_drew1)) ?_
  rotate_right
  refine rgW.just (b' := ?_) (Or.inl ⟨by rfl, ?_⟩) ?_ ?_; rotate_left; (focus (intro w'; go_simp; with_reducible rfl)); (focus (simp only [Act.put, List.setIfInBounds_toArray, List.set_cons_zero, List.set_cons_succ]; try rfl))
  refine rgW.just (b' := ?_) (Or.inl ⟨by rfl, ?_⟩) ?_ ?_; rotate_left; (focus (intro w'; go_simp; with_reducible rfl)); (focus (simp only [Act.put, List.setIfInBounds_toArray, List.set_cons_zero, List.set_cons_succ]; try rfl))
  refine rgW.just (b' := ?_) (Or.inl ⟨by rfl, ?_⟩) ?_ ?_; rotate_left; (focus (intro w'; go_simp; with_reducible rfl)); (focus (simp only [Act.put, List.setIfInBounds_toArray, List.set_cons_zero, List.set_cons_succ]; try rfl))
  refine rgW.just (b' := ?_) (Or.inl ⟨by rfl, ?_⟩) ?_ ?_; rotate_left; (focus (intro w'; go_simp; with_reducible rfl)); (focus (simp only [Act.put, List.setIfInBounds_toArray, List.set_cons_zero, List.set_cons_succ]; try rfl))
  refine rgW.just (b' := ?_) (Or.inl ⟨by rfl, ?_⟩) ?_ ?_; rotate_left; (focus (intro w'; go_simp; with_reducible rfl)); (focus (simp only [Act.put, List.setIfInBounds_toArray, List.set_cons_zero, List.set_cons_succ]; try rfl))
  refine rgW.just (b' := ?_) (Or.inl ⟨by rfl, ?_⟩) ?_ ?_; rotate_left; (focus (intro w'; go_simp; with_reducible rfl)); (focus (simp only [Act.put, List.setIfInBounds_toArray, List.set_cons_zero, List.set_cons_succ]; try rfl))
  refine rgW.just (b' := ?_) (Or.inl ⟨by rfl, ?_⟩) ?_ ?_; rotate_left; (focus (intro w'; go_simp; with_reducible rfl)); (focus (simp only [Act.put, List.setIfInBounds_toArray, List.set_cons_zero, List.set_cons_succ]; try rfl))
  refine rgW.just (b' := ?_) (Or.inl ⟨by rfl, ?_⟩) ?_ ?_; rotate_left; (focus (intro w'; go_simp; with_reducible rfl)); (focus (simp only [Act.put, List.setIfInBounds_toArray, List.set_cons_zero, List.set_cons_succ]; try rfl))
  refine rgW.just (b' := ?_) (Or.inl ⟨by rfl, ?_⟩) ?_ ?_; rotate_left; (focus (intro w'; go_simp; with_reducible rfl)); (focus (simp only [Act.put, List.setIfInBounds_toArray, List.set_cons_zero, List.set_cons_succ]; try rfl))
  refine rgW.just (b' := ?_) (Or.inl ⟨by rfl, ?_⟩) ?_ ?_; rotate_left; (focus (intro w'; go_simp; with_reducible rfl)); (focus (simp only [Act.put, List.setIfInBounds_toArray, List.set_cons_zero, List.set_cons_succ]; try rfl))
  refine rgW.conv (b' := ?_) (xs := y1) (by rfl) rfl (by rfl) Try.underlying22 Try.underlying5 Try.underlying9 ?_ ?_ ?_ ?_; rotate_left; (focus rfl); (focus (intro W hS hK; exact ⟨_, _, rfl, HLY.out, Kd.C_below HY.out hS⟩)); (focus (simp only [Act.put, List.setIfInBounds_toArray, List.set_cons_zero, List.set_cons_succ]; try rfl))
  refine rgW.just (b' := ?_) (Or.inl ⟨by rfl, ?_⟩) ?_ ?_; rotate_left; (focus (intro w'; go_simp; with_reducible rfl)); (focus (simp only [Act.put, List.setIfInBounds_toArray, List.set_cons_zero, List.set_cons_succ]; try rfl))
  refine rgW.conv (b' := ?_) (xs := l0) (by rfl) rfl (by rfl) Try.underlying22 Try.underlying5 Try.underlying9 ?_ ?_ ?_ ?_; rotate_left; (focus rfl); (focus (intro W hS hK; exact ⟨_, _, rfl, HC0.out, Kd.C_below HR0.out hS⟩)); (focus (simp only [Act.put, List.setIfInBounds_toArray, List.set_cons_zero, List.set_cons_succ]; try rfl))
  refine rgW.just (b' := ?_) (Or.inl ⟨by rfl, ?_⟩) ?_ ?_; rotate_left; (focus (intro w'; go_simp; with_reducible rfl)); (focus (simp only [Act.put, List.setIfInBounds_toArray, List.set_cons_zero, List.set_cons_succ]; try rfl))
  refine rgW.just (b' := ?_) (Or.inl ⟨by rfl, ?_⟩) ?_ ?_; rotate_left; (focus (intro w'; go_simp; with_reducible rfl)); (focus (simp only [Act.put, List.setIfInBounds_toArray, List.set_cons_zero, List.set_cons_succ]; try rfl))
  refine rgW.just (b' := ?_) (Or.inl ⟨by rfl, ?_⟩) ?_ ?_; rotate_left; (focus (intro w'; go_simp; with_reducible rfl)); (focus (simp only [Act.put, List.setIfInBounds_toArray, List.set_cons_zero, List.set_cons_succ]; try rfl))
  intro W hS hA
  clear hA
  clear HB
  have HB := Aside0.mk hS
  clear hS
  go_wp2_with (fail)
  go_loopg [7] (l0.length + 1) (fun kq v7 w' => ∃ (x7 : Int), v7 = .int .i64 x7 ∧ Aside0 (0 ≤ x7 ∧ x7 ≤ l0.length ∧ x7 + kq = l0.length + 1) ∧ Aside0 (Below w.heap.size w w'))
  case atStart => exact ⟨(0 : Int), rfl, ⟨⟨by decide, Int.natCast_nonneg _, by simp⟩⟩, HB⟩
  case round =>
    clear HB
    obtain ⟨x7, rfl, HX, HB⟩ := hrel
    have hX := HX.out
    cases gk with
    | zero => exact absurd hX.2 (by omega)
    | succ k1 =>
      by_cases c7 : x7 < (l0.length : Int)
      · have c7b0 : decide (x7 < (l0.length : Int)) = true := decide_eq_true c7
        obtain ⟨ad, e_, hx⟩ := Kd.at_int HR0.out x7 hX.1 c7
        cases e_
        replace hx := (HB.out.cell (World.block_lt_of_cell? w _ hx)).trans hx
        have h5 : (rd l0 x7 != 255) = false := bne_eq_false_iff_eq.mpr (H255.out x7 hX.1 c7)
        have p7 := eq_true hX.1
        have q7 := eq_true c7
        have i7 : wrap64 (x7 + 1) = x7 + 1 := by have := hlen20.out; unfold wrap64; omega
        clear c7 hX
        go_wp2_with (fail)
        go_roundg k1
        case measure => omega
        case rel => exact ⟨wrap64 (x7 + 1), by first | rfl | (simp; done) | (simp [*]; done), ⟨by have := HX.out; have := of_eq_true q7; rw [i7]; omega⟩, ⟨HB.out⟩⟩
      · have c7b0 : decide (x7 < (l0.length : Int)) = false := decide_eq_false c7
        clear c7 hX
        go_wp2_with (fail)
        go_ret
        exact ⟨rfl, HB.out⟩
set_option maxHeartbeats 16000000 in
set_option maxRecDepth 100000 in
theorem short_e (k : Nat) (A0 : Option Addr) (c0 : Nat) (l0 : List Int) (A1 : Option Addr) (c1 : Nat) (l1 : List Int) (F : List Int) (w : World) (h0 : pandectlaw6_begun.f k = some true) (hr0 : Kd.C (Kd.int .u8) w A0 l0.length l0) (hc0 : l0.length ≤ c0) (hr1 : Kd.C (Kd.int .u8) w A1 l1.length l1) (hc1 : l1.length ≤ c1)
    (ha : l0.length ≤ 20) (hl : l1.length ≤ 20) (hF : key_After.f k l0 = some F) (hlg : l1.length < l0.length) (he : ((strOfNums F).toList == ([] : List UInt8)) = true) (h255 : ∀ x : Int, 0 ≤ x → x < (l0.length : Int) → rd l0 x = 255) :
    Calls Try.prog 13 #[.slice A0 l0.length c0, .slice A1 l1.length c1] w fun e w' => e = .returned (.bool true) ∧ Below w.heap.size w w' := by
  have H0 := Aside0.mk h0
  have HR0 := Aside0.mk hr0
  have HC0 := Aside0.mk hc0
  have HR1 := Aside0.mk hr1
  have HC1 := Aside0.mk hc1
  have HF := Aside0.mk hF
  have HB := Aside0.mk (Below.refl w.heap.size w)
  have b7 : decide (20 < (l0.length : Int)) = false := decide_eq_false (by omega)
  have B7 : decide (20 < l0.length) = false := decide_eq_false (by omega)
  have b8 : decide (20 < (l1.length : Int)) = false := decide_eq_false (by omega)
  have B8 : decide (20 < l1.length) = false := decide_eq_false (by omega)
  have b9 : decide ((l0.length : Int) ≤ (l1.length : Int)) = false := decide_eq_false (by omega)
  have B9 : decide (l0.length ≤ l1.length) = false := decide_eq_false (by omega)
  have H255 := Aside0.mk h255
  have hlen20 := Aside0.mk ha
  clear h255
  clear h0 hr0 hc0 hr1 hc1 hF ha hl hlg
  go_enter Try.func13, Try.ntmps13
  go_wp2_with (first | (go_at_call 49; (with_reducible refine (pandectlaw6_begun.calls k true _ H0.out).mono ?_); rintro e w1 ⟨rfl, hb_⟩; replace HB := Aside0.mk hb_; clear hb_) | (go_at_call 66; (with_reducible refine (key_After.calls k A0 c0 l0 F _ (Kd.C_below HR0.out HB.out) HC0.out HF.out).mono ?_); rintro e w2 ⟨v0_, rfl, ho_, hb_⟩; obtain ⟨AF, cF, rfl, hcF, hCF⟩ := Row.of_R ho_; replace HB := Aside0.mk (below_then HB.out HB.out.size hb_); clear ho_ hb_; have hcvF := Kd.C_string (P := Try.prog) (A := AF) (c := cF) Try.underlying22 Try.underlying5 Try.underlying9 hCF))
  refine RG.region 70 (fun W => Below w.heap.size w W) [Sp.exact ?_, Sp.exact ?_, Sp.exact ?_, Sp.exact ?_, Sp.exact ?_, Sp.exact ?_, Sp.exact ?_, Sp.exact ?_, Sp.exact ?_, Sp.exact ?_, Sp.exact ?_, Sp.exact ?_, Sp.exact ?_, Sp.exact ?_, Sp.exact ?_, Sp.exact ?_] (by kernel_rfl) (by kernel_rfl) rfl (fun _ _ hb h => below_then h h.size hb) trivial (by repeat (first | exact HB.out | apply below_alloc | apply pw_below_drewN | apply below_drew1)) ?_
  rotate_right
  refine rgW.just (b' := ?_) (Or.inl ⟨by rfl, ?_⟩) ?_ ?_; rotate_left; (focus (intro w'; go_simp; with_reducible rfl)); (focus (simp only [Act.put, List.setIfInBounds_toArray, List.set_cons_zero, List.set_cons_succ]; try rfl))
  refine rgW.just (b' := ?_) (Or.inl ⟨by rfl, ?_⟩) ?_ ?_; rotate_left; (focus (intro w'; go_simp; with_reducible rfl)); (focus (simp only [Act.put, List.setIfInBounds_toArray, List.set_cons_zero, List.set_cons_succ]; try rfl))
  refine rgW.just (b' := ?_) (Or.inl ⟨by rfl, ?_⟩) ?_ ?_; rotate_left; (focus (intro w'; go_simp; with_reducible rfl)); (focus (simp only [Act.put, List.setIfInBounds_toArray, List.set_cons_zero, List.set_cons_succ]; try rfl))
  refine rgW.just (b' := ?_) (Or.inl ⟨by rfl, ?_⟩) ?_ ?_; rotate_left; (focus (intro w'; go_simp; with_reducible rfl)); (focus (simp only [Act.put, List.setIfInBounds_toArray, List.set_cons_zero, List.set_cons_succ]; try rfl))
  refine rgW.just (b' := ?_) (Or.inl ⟨by rfl, ?_⟩) ?_ ?_; rotate_left; (focus (intro w'; go_simp; with_reducible rfl)); (focus (simp only [Act.put, List.setIfInBounds_toArray, List.set_cons_zero, List.set_cons_succ]; try rfl))
  refine rgW.just (b' := ?_) (Or.inl ⟨by rfl, ?_⟩) ?_ ?_; rotate_left; (focus (intro w'; go_simp; with_reducible rfl)); (focus (simp only [Act.put, List.setIfInBounds_toArray, List.set_cons_zero, List.set_cons_succ]; try rfl))
  refine rgW.just (b' := ?_) (Or.inr ⟨by rfl, ?_⟩) ?_ ?_; rotate_left; (focus rfl); (focus (simp only [Act.put, List.setIfInBounds_toArray, List.set_cons_zero, List.set_cons_succ]; try rfl))
  refine rgW.just (b' := ?_) (Or.inr ⟨by rfl, ?_⟩) ?_ ?_; rotate_left; (focus rfl); (focus (simp only [Act.put, List.setIfInBounds_toArray, List.set_cons_zero, List.set_cons_succ]; try rfl))
  refine rgW.just (b' := ?_) (Or.inr ⟨by rfl, ?_⟩) ?_ ?_; rotate_left; (focus rfl); (focus (simp only [Act.put, List.setIfInBounds_toArray, List.set_cons_zero, List.set_cons_succ]; try rfl))
  refine rgW.just (b' := ?_) (Or.inr ⟨by rfl, ?_⟩) ?_ ?_; rotate_left; (focus rfl); (focus (simp only [Act.put, List.setIfInBounds_toArray, List.set_cons_zero, List.set_cons_succ]; try rfl))
  refine rgW.just (b' := ?_) (Or.inr ⟨by rfl, ?_⟩) ?_ ?_; rotate_left; (focus rfl); (focus (simp only [Act.put, List.setIfInBounds_toArray, List.set_cons_zero, List.set_cons_succ]; try rfl))
  refine rgW.just (b' := ?_) (Or.inr ⟨by rfl, ?_⟩) ?_ ?_; rotate_left; (focus rfl); (focus (simp only [Act.put, List.setIfInBounds_toArray, List.set_cons_zero, List.set_cons_succ]; try rfl))
  refine rgW.just (b' := ?_) (Or.inr ⟨by rfl, ?_⟩) ?_ ?_; rotate_left; (focus rfl); (focus (simp only [Act.put, List.setIfInBounds_toArray, List.set_cons_zero, List.set_cons_succ]; try rfl))
  refine rgW.just (b' := ?_) (Or.inr ⟨by rfl, ?_⟩) ?_ ?_; rotate_left; (focus rfl); (focus (simp only [Act.put, List.setIfInBounds_toArray, List.set_cons_zero, List.set_cons_succ]; try rfl))
  refine rgW.just (b' := ?_) (Or.inl ⟨by rfl, ?_⟩) ?_ ?_; rotate_left; (focus (intro w'; go_simp; with_reducible rfl)); (focus (simp only [Act.put, List.setIfInBounds_toArray, List.set_cons_zero, List.set_cons_succ]; try rfl))
  refine rgW.just (b' := ?_) (Or.inl ⟨by rfl, ?_⟩) ?_ ?_; rotate_left; (focus (intro w'; go_simp; with_reducible rfl)); (focus (simp only [Act.put, List.setIfInBounds_toArray, List.set_cons_zero, List.set_cons_succ]; try rfl))
  intro W hS hA
  clear hA
  clear HB
  have HB := Aside0.mk hS
  clear hS
  go_wp2_with (fail)
  go_loopg [7] (l0.length + 1) (fun kq v7 w' => ∃ (x7 : Int), v7 = .int .i64 x7 ∧ Aside0 (0 ≤ x7 ∧ x7 ≤ l0.length ∧ x7 + kq = l0.length + 1) ∧ Aside0 (Below w.heap.size w w'))
  case atStart => exact ⟨(0 : Int), rfl, ⟨⟨by decide, Int.natCast_nonneg _, by simp⟩⟩, HB⟩
  case round =>
    clear HB
    obtain ⟨x7, rfl, HX, HB⟩ := hrel
    have hX := HX.out
    cases gk with
    | zero => exact absurd hX.2 (by omega)
    | succ k1 =>
      by_cases c7 : x7 < (l0.length : Int)
      · have c7b0 : decide (x7 < (l0.length : Int)) = true := decide_eq_true c7
        obtain ⟨ad, e_, hx⟩ := Kd.at_int HR0.out x7 hX.1 c7
        cases e_
        replace hx := (HB.out.cell (World.block_lt_of_cell? w _ hx)).trans hx
        have h5 : (rd l0 x7 != 255) = false := bne_eq_false_iff_eq.mpr (H255.out x7 hX.1 c7)
        have p7 := eq_true hX.1
        have q7 := eq_true c7
        have i7 : wrap64 (x7 + 1) = x7 + 1 := by have := hlen20.out; unfold wrap64; omega
        clear c7 hX
        go_wp2_with (fail)
        go_roundg k1
        case measure => omega
        case rel => exact ⟨wrap64 (x7 + 1), by first | rfl | (simp; done) | (simp [*]; done), ⟨by have := HX.out; have := of_eq_true q7; rw [i7]; omega⟩, ⟨HB.out⟩⟩
      · have c7b0 : decide (x7 < (l0.length : Int)) = false := decide_eq_false c7
        clear c7 hX
        go_wp2_with (fail)
        go_ret
        exact ⟨rfl, HB.out⟩
set_option maxHeartbeats 16000000 in
set_option maxRecDepth 100000 in
theorem long_n (k : Nat) (A0 : Option Addr) (c0 : Nat) (l0 : List Int) (A1 : Option Addr) (c1 : Nat) (l1 : List Int) (F : List Int) (w : World) (h0 : pandectlaw6_begun.f k = some true) (hr0 : Kd.C (Kd.int .u8) w A0 l0.length l0) (hc0 : l0.length ≤ c0) (hr1 : Kd.C (Kd.int .u8) w A1 l1.length l1) (hc1 : l1.length ≤ c1)
    (ha : l0.length ≤ 20) (hl : l1.length ≤ 20) (hF : key_After.f k l0 = some F) (hlg : l0.length ≤ l1.length) (y1 : List Int) (hy1 : y1 = l1.take l0.length) (nge lt bg : Bool) (he : ((strOfNums F).toList == ([] : List UInt8)) = false) (hge : Op.bytesLess (strOfNums l1).toList (strOfNums l0).toList = nge) (hlt : Op.bytesLess (strOfNums l1).toList (strOfNums F).toList = lt) (hgt : Op.bytesLess (strOfNums F).toList (strOfNums l0).toList = false) (hne : ((strOfNums F).toList == (strOfNums l0).toList) = false) (hbg : ((strOfNums y1).toList == (strOfNums l0).toList) = bg) (hw : bg = true ∧ nge = false ∧ lt = true ∨ bg = false ∧ nge = true ∨ bg = false ∧ nge = false ∧ lt = false) :
    Calls Try.prog 13 #[.slice A0 l0.length c0, .slice A1 l1.length c1] w fun e w' => e = .returned (.bool true) ∧ Below w.heap.size w w' := by
  have H0 := Aside0.mk h0
  have HR0 := Aside0.mk hr0
  have HC0 := Aside0.mk hc0
  have HR1 := Aside0.mk hr1
  have HC1 := Aside0.mk hc1
  have HF := Aside0.mk hF
  have HB := Aside0.mk (Below.refl w.heap.size w)
  have b10 : decide (20 < (l0.length : Int)) = false := decide_eq_false (by omega)
  have B10 : decide (20 < l0.length) = false := decide_eq_false (by omega)
  have b11 : decide (20 < (l1.length : Int)) = false := decide_eq_false (by omega)
  have B11 : decide (20 < l1.length) = false := decide_eq_false (by omega)
  have b12 : decide ((l0.length : Int) ≤ (l1.length : Int)) = true := decide_eq_true (by omega)
  have B12 : decide (l0.length ≤ l1.length) = true := decide_eq_true (by omega)
  obtain ⟨i0, hi0, _, hsz, _⟩ := info_parts info5
  obtain ⟨hcut1, hA1, hC1⟩ := print_take_of (P := Try.prog) (Value.int .u8) 0 22 5 .i64 Try.underlying22 hi0 hsz A1 c1 l1 (l0.length : Int) (by omega) (by omega) hc1
  rw [Int.toNat_natCast, ← hy1] at hcut1 hA1 hC1
  have HY : Aside0 (Kd.C (Kd.int .u8) w A1 y1.length y1) := Aside0.mk (Kd.C_of_reads (h1 := fun _ => rfl) (hA1 _ (Kd.reads_of_C hr1)))
  have HLY := Aside0.mk hC1
  clear hA1 hC1 hi0 hsz hy1
  clear h0 hr0 hc0 hr1 hc1 hF ha hl hlg
  obtain ⟨rfl, rfl, rfl⟩ | ⟨rfl, rfl⟩ | ⟨rfl, rfl, rfl⟩ := hw
  all_goals
    go_enter Try.func13, Try.ntmps13
    go_wp2_with (first | (go_at_call 49; (with_reducible refine (pandectlaw6_begun.calls k true _ H0.out).mono ?_); rintro e w1 ⟨rfl, hb_⟩; replace HB := Aside0.mk hb_; clear hb_) | (go_at_call 66; (with_reducible refine (key_After.calls k A0 c0 l0 F _ (Kd.C_below HR0.out HB.out) HC0.out HF.out).mono ?_); rintro e w2 ⟨v0_, rfl, ho_, hb_⟩; obtain ⟨AF, cF, rfl, hcF, hCF⟩ := Row.of_R ho_; replace HB := Aside0.mk (below_then HB.out HB.out.size hb_); clear ho_ hb_; have hcvF := Kd.C_string (P := Try.prog) (A := AF) (c := cF) Try.underlying22 Try.underlying5 Try.underlying9 hCF))
    refine RG.region 70 (fun W => Below w.heap.size w W) [Sp.exact ?_, Sp.exact ?_, Sp.exact ?_, Sp.exact ?_, Sp.exact ?_, Sp.exact ?_, Sp.exact ?_, Sp.exact ?_, Sp.exact ?_, Sp.exact ?_, Sp.exact ?_, Sp.exact ?_, Sp.exact ?_, Sp.exact ?_, Sp.exact ?_, Sp.exact ?_] (by kernel_rfl) (by kernel_rfl) rfl (fun _ _ hb h => below_then h h.size hb) trivial (by repeat (first | exact HB.out | apply below_alloc | apply pw_below_drewN | apply below_drew1)) ?_
    rotate_right
    refine rgW.just (b' := ?_) (Or.inl ⟨by rfl, ?_⟩) ?_ ?_; rotate_left; (focus (intro w'; go_simp; with_reducible rfl)); (focus (simp only [Act.put, List.setIfInBounds_toArray, List.set_cons_zero, List.set_cons_succ]; try rfl))
    refine rgW.just (b' := ?_) (Or.inl ⟨by rfl, ?_⟩) ?_ ?_; rotate_left; (focus (intro w'; go_simp; with_reducible rfl)); (focus (simp only [Act.put, List.setIfInBounds_toArray, List.set_cons_zero, List.set_cons_succ]; try rfl))
    refine rgW.just (b' := ?_) (Or.inl ⟨by rfl, ?_⟩) ?_ ?_; rotate_left; (focus (intro w'; go_simp; with_reducible rfl)); (focus (simp only [Act.put, List.setIfInBounds_toArray, List.set_cons_zero, List.set_cons_succ]; try rfl))
    refine rgW.just (b' := ?_) (Or.inl ⟨by rfl, ?_⟩) ?_ ?_; rotate_left; (focus (intro w'; go_simp; with_reducible rfl)); (focus (simp only [Act.put, List.setIfInBounds_toArray, List.set_cons_zero, List.set_cons_succ]; try rfl))
    refine rgW.just (b' := ?_) (Or.inl ⟨by rfl, ?_⟩) ?_ ?_; rotate_left; (focus (intro w'; go_simp; with_reducible rfl)); (focus (simp only [Act.put, List.setIfInBounds_toArray, List.set_cons_zero, List.set_cons_succ]; try rfl))
    refine rgW.just (b' := ?_) (Or.inl ⟨by rfl, ?_⟩) ?_ ?_; rotate_left; (focus (intro w'; go_simp; with_reducible rfl)); (focus (simp only [Act.put, List.setIfInBounds_toArray, List.set_cons_zero, List.set_cons_succ]; try rfl))
    refine rgW.just (b' := ?_) (Or.inl ⟨by rfl, ?_⟩) ?_ ?_; rotate_left; (focus (intro w'; go_simp; with_reducible rfl)); (focus (simp only [Act.put, List.setIfInBounds_toArray, List.set_cons_zero, List.set_cons_succ]; try rfl))
    refine rgW.just (b' := ?_) (Or.inl ⟨by rfl, ?_⟩) ?_ ?_; rotate_left; (focus (intro w'; go_simp; with_reducible rfl)); (focus (simp only [Act.put, List.setIfInBounds_toArray, List.set_cons_zero, List.set_cons_succ]; try rfl))
    refine rgW.just (b' := ?_) (Or.inl ⟨by rfl, ?_⟩) ?_ ?_; rotate_left; (focus (intro w'; go_simp; with_reducible rfl)); (focus (simp only [Act.put, List.setIfInBounds_toArray, List.set_cons_zero, List.set_cons_succ]; try rfl))
    refine rgW.just (b' := ?_) (Or.inl ⟨by rfl, ?_⟩) ?_ ?_; rotate_left; (focus (intro w'; go_simp; with_reducible rfl)); (focus (simp only [Act.put, List.setIfInBounds_toArray, List.set_cons_zero, List.set_cons_succ]; try rfl))
    refine rgW.conv (b' := ?_) (xs := y1) (by rfl) rfl (by rfl) Try.underlying22 Try.underlying5 Try.underlying9 ?_ ?_ ?_ ?_; rotate_left; (focus rfl); (focus (intro W hS hK; exact ⟨_, _, rfl, HLY.out, Kd.C_below HY.out hS⟩)); (focus (simp only [Act.put, List.setIfInBounds_toArray, List.set_cons_zero, List.set_cons_succ]; try rfl))
    refine rgW.just (b' := ?_) (Or.inl ⟨by rfl, ?_⟩) ?_ ?_; rotate_left; (focus (intro w'; go_simp; with_reducible rfl)); (focus (simp only [Act.put, List.setIfInBounds_toArray, List.set_cons_zero, List.set_cons_succ]; try rfl))
    refine rgW.conv (b' := ?_) (xs := l0) (by rfl) rfl (by rfl) Try.underlying22 Try.underlying5 Try.underlying9 ?_ ?_ ?_ ?_; rotate_left; (focus rfl); (focus (intro W hS hK; exact ⟨_, _, rfl, HC0.out, Kd.C_below HR0.out hS⟩)); (focus (simp only [Act.put, List.setIfInBounds_toArray, List.set_cons_zero, List.set_cons_succ]; try rfl))
    refine rgW.just (b' := ?_) (Or.inl ⟨by rfl, ?_⟩) ?_ ?_; rotate_left; (focus (intro w'; go_simp; with_reducible rfl)); (focus (simp only [Act.put, List.setIfInBounds_toArray, List.set_cons_zero, List.set_cons_succ]; try rfl))
    refine rgW.just (b' := ?_) (Or.inl ⟨by rfl, ?_⟩) ?_ ?_; rotate_left; (focus (intro w'; go_simp; with_reducible rfl)); (focus (simp only [Act.put, List.setIfInBounds_toArray, List.set_cons_zero, List.set_cons_succ]; try rfl))
    refine rgW.just (b' := ?_) (Or.inl ⟨by rfl, ?_⟩) ?_ ?_; rotate_left; (focus (intro w'; go_simp; with_reducible rfl)); (focus (simp only [Act.put, List.setIfInBounds_toArray, List.set_cons_zero, List.set_cons_succ]; try rfl))
    intro W hS hA
    clear hA
    clear HB
    have HB := Aside0.mk hS
    clear hS
    have hcv0 := Kd.C_string (P := Try.prog) (A := A0) (c := c0) Try.underlying22 Try.underlying5 Try.underlying9 (Kd.C_below HR0.out HB.out)
    have hcv1 := Kd.C_string (P := Try.prog) (A := A1) (c := c1) Try.underlying22 Try.underlying5 Try.underlying9 (Kd.C_below HR1.out HB.out)
    go_wp2_with (fail)
    go_ret
    exact ⟨rfl, HB.out⟩
set_option maxHeartbeats 16000000 in
set_option maxRecDepth 100000 in
theorem short_n (k : Nat) (A0 : Option Addr) (c0 : Nat) (l0 : List Int) (A1 : Option Addr) (c1 : Nat) (l1 : List Int) (F : List Int) (w : World) (h0 : pandectlaw6_begun.f k = some true) (hr0 : Kd.C (Kd.int .u8) w A0 l0.length l0) (hc0 : l0.length ≤ c0) (hr1 : Kd.C (Kd.int .u8) w A1 l1.length l1) (hc1 : l1.length ≤ c1)
    (ha : l0.length ≤ 20) (hl : l1.length ≤ 20) (hF : key_After.f k l0 = some F) (hlg : l1.length < l0.length) (nge lt bg : Bool) (he : ((strOfNums F).toList == ([] : List UInt8)) = false) (hge : Op.bytesLess (strOfNums l1).toList (strOfNums l0).toList = nge) (hlt : Op.bytesLess (strOfNums l1).toList (strOfNums F).toList = lt) (hgt : Op.bytesLess (strOfNums F).toList (strOfNums l0).toList = false) (hne : ((strOfNums F).toList == (strOfNums l0).toList) = false) (hw : bg = false ∧ nge = true ∨ bg = false ∧ nge = false ∧ lt = false) :
    Calls Try.prog 13 #[.slice A0 l0.length c0, .slice A1 l1.length c1] w fun e w' => e = .returned (.bool true) ∧ Below w.heap.size w w' := by
  have H0 := Aside0.mk h0
  have HR0 := Aside0.mk hr0
  have HC0 := Aside0.mk hc0
  have HR1 := Aside0.mk hr1
  have HC1 := Aside0.mk hc1
  have HF := Aside0.mk hF
  have HB := Aside0.mk (Below.refl w.heap.size w)
  have b13 : decide (20 < (l0.length : Int)) = false := decide_eq_false (by omega)
  have B13 : decide (20 < l0.length) = false := decide_eq_false (by omega)
  have b14 : decide (20 < (l1.length : Int)) = false := decide_eq_false (by omega)
  have B14 : decide (20 < l1.length) = false := decide_eq_false (by omega)
  have b15 : decide ((l0.length : Int) ≤ (l1.length : Int)) = false := decide_eq_false (by omega)
  have B15 : decide (l0.length ≤ l1.length) = false := decide_eq_false (by omega)
  clear h0 hr0 hc0 hr1 hc1 hF ha hl hlg
  obtain ⟨rfl, rfl⟩ | ⟨rfl, rfl, rfl⟩ := hw
  all_goals
    go_enter Try.func13, Try.ntmps13
    go_wp2_with (first | (go_at_call 49; (with_reducible refine (pandectlaw6_begun.calls k true _ H0.out).mono ?_); rintro e w1 ⟨rfl, hb_⟩; replace HB := Aside0.mk hb_; clear hb_) | (go_at_call 66; (with_reducible refine (key_After.calls k A0 c0 l0 F _ (Kd.C_below HR0.out HB.out) HC0.out HF.out).mono ?_); rintro e w2 ⟨v0_, rfl, ho_, hb_⟩; obtain ⟨AF, cF, rfl, hcF, hCF⟩ := Row.of_R ho_; replace HB := Aside0.mk (below_then HB.out HB.out.size hb_); clear ho_ hb_; have hcvF := Kd.C_string (P := Try.prog) (A := AF) (c := cF) Try.underlying22 Try.underlying5 Try.underlying9 hCF))
    refine RG.region 70 (fun W => Below w.heap.size w W) [Sp.exact ?_, Sp.exact ?_, Sp.exact ?_, Sp.exact ?_, Sp.exact ?_, Sp.exact ?_, Sp.exact ?_, Sp.exact ?_, Sp.exact ?_, Sp.exact ?_, Sp.exact ?_, Sp.exact ?_, Sp.exact ?_, Sp.exact ?_, Sp.exact ?_, Sp.exact ?_] (by kernel_rfl) (by kernel_rfl) rfl (fun _ _ hb h => below_then h h.size hb) trivial (by repeat (first | exact HB.out | apply below_alloc | apply pw_below_drewN | apply below_drew1)) ?_
    rotate_right
    refine rgW.just (b' := ?_) (Or.inl ⟨by rfl, ?_⟩) ?_ ?_; rotate_left; (focus (intro w'; go_simp; with_reducible rfl)); (focus (simp only [Act.put, List.setIfInBounds_toArray, List.set_cons_zero, List.set_cons_succ]; try rfl))
    refine rgW.just (b' := ?_) (Or.inl ⟨by rfl, ?_⟩) ?_ ?_; rotate_left; (focus (intro w'; go_simp; with_reducible rfl)); (focus (simp only [Act.put, List.setIfInBounds_toArray, List.set_cons_zero, List.set_cons_succ]; try rfl))
    refine rgW.just (b' := ?_) (Or.inl ⟨by rfl, ?_⟩) ?_ ?_; rotate_left; (focus (intro w'; go_simp; with_reducible rfl)); (focus (simp only [Act.put, List.setIfInBounds_toArray, List.set_cons_zero, List.set_cons_succ]; try rfl))
    refine rgW.just (b' := ?_) (Or.inl ⟨by rfl, ?_⟩) ?_ ?_; rotate_left; (focus (intro w'; go_simp; with_reducible rfl)); (focus (simp only [Act.put, List.setIfInBounds_toArray, List.set_cons_zero, List.set_cons_succ]; try rfl))
    refine rgW.just (b' := ?_) (Or.inl ⟨by rfl, ?_⟩) ?_ ?_; rotate_left; (focus (intro w'; go_simp; with_reducible rfl)); (focus (simp only [Act.put, List.setIfInBounds_toArray, List.set_cons_zero, List.set_cons_succ]; try rfl))
    refine rgW.just (b' := ?_) (Or.inl ⟨by rfl, ?_⟩) ?_ ?_; rotate_left; (focus (intro w'; go_simp; with_reducible rfl)); (focus (simp only [Act.put, List.setIfInBounds_toArray, List.set_cons_zero, List.set_cons_succ]; try rfl))
    refine rgW.just (b' := ?_) (Or.inr ⟨by rfl, ?_⟩) ?_ ?_; rotate_left; (focus rfl); (focus (simp only [Act.put, List.setIfInBounds_toArray, List.set_cons_zero, List.set_cons_succ]; try rfl))
    refine rgW.just (b' := ?_) (Or.inr ⟨by rfl, ?_⟩) ?_ ?_; rotate_left; (focus rfl); (focus (simp only [Act.put, List.setIfInBounds_toArray, List.set_cons_zero, List.set_cons_succ]; try rfl))
    refine rgW.just (b' := ?_) (Or.inr ⟨by rfl, ?_⟩) ?_ ?_; rotate_left; (focus rfl); (focus (simp only [Act.put, List.setIfInBounds_toArray, List.set_cons_zero, List.set_cons_succ]; try rfl))
    refine rgW.just (b' := ?_) (Or.inr ⟨by rfl, ?_⟩) ?_ ?_; rotate_left; (focus rfl); (focus (simp only [Act.put, List.setIfInBounds_toArray, List.set_cons_zero, List.set_cons_succ]; try rfl))
    refine rgW.just (b' := ?_) (Or.inr ⟨by rfl, ?_⟩) ?_ ?_; rotate_left; (focus rfl); (focus (simp only [Act.put, List.setIfInBounds_toArray, List.set_cons_zero, List.set_cons_succ]; try rfl))
    refine rgW.just (b' := ?_) (Or.inr ⟨by rfl, ?_⟩) ?_ ?_; rotate_left; (focus rfl); (focus (simp only [Act.put, List.setIfInBounds_toArray, List.set_cons_zero, List.set_cons_succ]; try rfl))
    refine rgW.just (b' := ?_) (Or.inr ⟨by rfl, ?_⟩) ?_ ?_; rotate_left; (focus rfl); (focus (simp only [Act.put, List.setIfInBounds_toArray, List.set_cons_zero, List.set_cons_succ]; try rfl))
    refine rgW.just (b' := ?_) (Or.inr ⟨by rfl, ?_⟩) ?_ ?_; rotate_left; (focus rfl); (focus (simp only [Act.put, List.setIfInBounds_toArray, List.set_cons_zero, List.set_cons_succ]; try rfl))
    refine rgW.just (b' := ?_) (Or.inl ⟨by rfl, ?_⟩) ?_ ?_; rotate_left; (focus (intro w'; go_simp; with_reducible rfl)); (focus (simp only [Act.put, List.setIfInBounds_toArray, List.set_cons_zero, List.set_cons_succ]; try rfl))
    refine rgW.just (b' := ?_) (Or.inl ⟨by rfl, ?_⟩) ?_ ?_; rotate_left; (focus (intro w'; go_simp; with_reducible rfl)); (focus (simp only [Act.put, List.setIfInBounds_toArray, List.set_cons_zero, List.set_cons_succ]; try rfl))
    intro W hS hA
    clear hA
    clear HB
    have HB := Aside0.mk hS
    clear hS
    have hcv0 := Kd.C_string (P := Try.prog) (A := A0) (c := c0) Try.underlying22 Try.underlying5 Try.underlying9 (Kd.C_below HR0.out HB.out)
    have hcv1 := Kd.C_string (P := Try.prog) (A := A1) (c := c1) Try.underlying22 Try.underlying5 Try.underlying9 (Kd.C_below HR1.out HB.out)
    go_wp2_with (fail)
    go_ret
    exact ⟨rfl, HB.out⟩
end Go.Proofs.Ytfgeffmlfbeodaa.PKeyAfter
