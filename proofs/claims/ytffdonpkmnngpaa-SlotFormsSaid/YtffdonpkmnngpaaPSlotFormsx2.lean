/- Written by a program of this workplace. -/
import Derived.Test.YtffdonpkmnngpaaPSlotFormsx0
import Derived.Test.YtffdonpkmnngpaaPSlotFormsx1
namespace Go.Proofs.Ytffdonpkmnngpaa.PSlotForms
open Go.RowKit Go.Proofs.YtffdonpkmnngpaaW.PrintWords Go.Proofs.YtffdonpkmnngpaaW.PrintLast Go.Proofs.YtffdonpkmnngpaaW.PrintMore
attribute [local go_sem] max2_int min2_int max_two min_two max_three min_three max_four min_four   -- for this text's walks alone
set_option linter.unusedVariables false
set_option linter.unusedSimpArgs false

/-! ### pandectlaw4_begun: function 33 -/
def pandectlaw4_begun.f (k : Nat)  : Option (Bool) := (slot_Put.f k 5 ([120] : List Int)).bind fun bt137 => ((slot_Put.f k 6 ([121] : List Int)).bind fun bt141 => ((slot_Better.f k bt137.1 bt141.1).bind fun bt145 => (if 128 ≤ 281474976710656 then ((slot_Better.f k (List.replicate 128 0) ([] : List Int)).bind fun bt154 => ((slot_Take.f k ([] : List Int)).bind fun bt160 => (if bt137.2 = 0 then (if (bt137.1.length : Int) = 128 then (if bt141.2 = 0 then (if bt145.1 = 1 then (if bt145.2.1 = 6 then (if (strOfNums bt145.2.2.1).toList = ([121] : List UInt8) then (if bt145.2.2.2 = 0 then (if bt154.2.2.2 = 2 then (some (bt160.2.2 == 2)) else (none)) else (none)) else (none)) else (none)) else (none)) else (none)) else (none)) else (none)))) else (none))))
theorem pandectlaw4_begun.mono : ∀ k, LeO (pandectlaw4_begun.f k ) (pandectlaw4_begun.f (k + 1) ) := by
  intro  k
  unfold pandectlaw4_begun.f
  repeat' first
      | (with_reducible exact slot_Better.mono _ _ _)
      | (with_reducible exact slot_Put.mono _ _ _)
      | (with_reducible exact slot_Take.mono _ _)
      | (with_reducible exact LeO.refl _)
      | (with_reducible exact LeO.none _)
      | (with_reducible refine LeO.ite ?_ ?_)
      | (with_reducible refine LeO.bind ?_ (fun _ => ?_))
      | exact slot_Better.mono _ _ _
      | exact slot_Put.mono _ _ _
      | exact slot_Take.mono _ _
      | exact LeO.none _
      | refine LeO.ite ?_ ?_
      | refine LeO.bind ?_ (fun _ => ?_)
set_option maxHeartbeats 8000000 in
set_option maxRecDepth 100000 in
theorem pandectlaw4_begun.calls (k : Nat)  (r : Bool) (w : World) (h : pandectlaw4_begun.f k  = some r) :
    Calls Try.prog 33 #[] w fun e w' => e = .returned (.bool r) ∧ Below w.heap.size w w' := by
  have HB := Aside0.mk (Below.refl w.heap.size w)
  have H : ((slot_Put.f k 5 ([120] : List Int)).bind fun bt137 => ((slot_Put.f k 6 ([121] : List Int)).bind fun bt141 => ((slot_Better.f k bt137.1 bt141.1).bind fun bt145 => (if 128 ≤ 281474976710656 then ((slot_Better.f k (List.replicate 128 0) ([] : List Int)).bind fun bt154 => ((slot_Take.f k ([] : List Int)).bind fun bt160 => (if bt137.2 = 0 then (if (bt137.1.length : Int) = 128 then (if bt141.2 = 0 then (if bt145.1 = 1 then (if bt145.2.1 = 6 then (if (strOfNums bt145.2.2.1).toList = ([121] : List UInt8) then (if bt145.2.2.2 = 0 then (if bt154.2.2.2 = 2 then (some (bt160.2.2 == 2)) else (none)) else (none)) else (none)) else (none)) else (none)) else (none)) else (none)) else (none)))) else (none))))) = some r := h
  clear h
  replace H := Option.bind_eq_some_iff.mp H
  obtain ⟨⟨t137, t138⟩, A10, H⟩ := H
  replace H : ((slot_Put.f k 6 ([121] : List Int)).bind fun bt141 => ((slot_Better.f k t137 bt141.1).bind fun bt145 => (if 128 ≤ 281474976710656 then ((slot_Better.f k (List.replicate 128 0) ([] : List Int)).bind fun bt154 => ((slot_Take.f k ([] : List Int)).bind fun bt160 => (if t138 = 0 then (if (t137.length : Int) = 128 then (if bt141.2 = 0 then (if bt145.1 = 1 then (if bt145.2.1 = 6 then (if (strOfNums bt145.2.2.1).toList = ([121] : List UInt8) then (if bt145.2.2.2 = 0 then (if bt154.2.2.2 = 2 then (some (bt160.2.2 == 2)) else (none)) else (none)) else (none)) else (none)) else (none)) else (none)) else (none)) else (none)))) else (none)))) = some r := H
  have A1 := Aside0.mk A10
  clear A10
  replace H := Option.bind_eq_some_iff.mp H
  obtain ⟨⟨t141, t142⟩, A20, H⟩ := H
  replace H : ((slot_Better.f k t137 t141).bind fun bt145 => (if 128 ≤ 281474976710656 then ((slot_Better.f k (List.replicate 128 0) ([] : List Int)).bind fun bt154 => ((slot_Take.f k ([] : List Int)).bind fun bt160 => (if t138 = 0 then (if (t137.length : Int) = 128 then (if t142 = 0 then (if bt145.1 = 1 then (if bt145.2.1 = 6 then (if (strOfNums bt145.2.2.1).toList = ([121] : List UInt8) then (if bt145.2.2.2 = 0 then (if bt154.2.2.2 = 2 then (some (bt160.2.2 == 2)) else (none)) else (none)) else (none)) else (none)) else (none)) else (none)) else (none)) else (none)))) else (none))) = some r := H
  have A2 := Aside0.mk A20
  clear A20
  replace H := Option.bind_eq_some_iff.mp H
  obtain ⟨⟨t145, t146, t147, t148⟩, A30, H⟩ := H
  replace H : (if 128 ≤ 281474976710656 then ((slot_Better.f k (List.replicate 128 0) ([] : List Int)).bind fun bt154 => ((slot_Take.f k ([] : List Int)).bind fun bt160 => (if t138 = 0 then (if (t137.length : Int) = 128 then (if t142 = 0 then (if t145 = 1 then (if t146 = 6 then (if (strOfNums t147).toList = ([121] : List UInt8) then (if t148 = 0 then (if bt154.2.2.2 = 2 then (some (bt160.2.2 == 2)) else (none)) else (none)) else (none)) else (none)) else (none)) else (none)) else (none)) else (none)))) else (none)) = some r := H
  have A3 := Aside0.mk A30
  clear A30
  by_cases c4 : 128 ≤ 281474976710656
  · rw [if_pos c4] at H
    have c4b0 := eq_true c4
    have c4b1 : decide (128 ≤ 281474976710656) = true := decide_eq_true c4
    clear c4
    obtain ⟨y151, hy151⟩ : ∃ y_ : List Int, y_ = (List.replicate 128 0) := ⟨_, rfl⟩
    replace H : ((slot_Better.f k y151 ([] : List Int)).bind fun bt154 => ((slot_Take.f k ([] : List Int)).bind fun bt160 => (if t138 = 0 then (if (t137.length : Int) = 128 then (if t142 = 0 then (if t145 = 1 then (if t146 = 6 then (if (strOfNums t147).toList = ([121] : List UInt8) then (if t148 = 0 then (if bt154.2.2.2 = 2 then (some (bt160.2.2 == 2)) else (none)) else (none)) else (none)) else (none)) else (none)) else (none)) else (none)) else (none)))) = some r := by first | (rw [hy151]; with_reducible exact H) | (have H2_ := (Option.bind_some _ _).symm.trans H; rw [hy151]; with_reducible exact H2_) | (have H2_ := (Option.bind_some _ _).symm.trans H; with_reducible exact H2_) | with_reducible exact H | (rw [hy151]; exact H) | exact H
    have Ny151 := Aside0.mk hy151
    clear hy151
    replace H := Option.bind_eq_some_iff.mp H
    obtain ⟨⟨t154, t155, t156, t157⟩, A50, H⟩ := H
    replace H : ((slot_Take.f k ([] : List Int)).bind fun bt160 => (if t138 = 0 then (if (t137.length : Int) = 128 then (if t142 = 0 then (if t145 = 1 then (if t146 = 6 then (if (strOfNums t147).toList = ([121] : List UInt8) then (if t148 = 0 then (if t157 = 2 then (some (bt160.2.2 == 2)) else (none)) else (none)) else (none)) else (none)) else (none)) else (none)) else (none)) else (none))) = some r := H
    have A5 := Aside0.mk A50
    clear A50
    replace H := Option.bind_eq_some_iff.mp H
    obtain ⟨⟨t160, t161, t162⟩, A60, H⟩ := H
    replace H : (if t138 = 0 then (if (t137.length : Int) = 128 then (if t142 = 0 then (if t145 = 1 then (if t146 = 6 then (if (strOfNums t147).toList = ([121] : List UInt8) then (if t148 = 0 then (if t157 = 2 then (some (t162 == 2)) else (none)) else (none)) else (none)) else (none)) else (none)) else (none)) else (none)) else (none)) = some r := H
    have A6 := Aside0.mk A60
    clear A60
    by_cases c7 : t138 = 0
    · rw [if_pos c7] at H
      have c7b0 : (t138 == 0) = true := beq_iff_eq.mpr c7
      have c7b1 : (t138 != 0) = false := bne_eq_false_iff_eq.mpr c7
      clear c7
      by_cases c8 : (t137.length : Int) = 128
      · rw [if_pos c8] at H
        have c8b0 : ((t137.length : Int) == 128) = true := beq_iff_eq.mpr c8
        have c8b1 : ((t137.length : Int) != 128) = false := bne_eq_false_iff_eq.mpr c8
        clear c8
        by_cases c9 : t142 = 0
        · rw [if_pos c9] at H
          have c9b0 : (t142 == 0) = true := beq_iff_eq.mpr c9
          have c9b1 : (t142 != 0) = false := bne_eq_false_iff_eq.mpr c9
          clear c9
          by_cases c10 : t145 = 1
          · rw [if_pos c10] at H
            have c10b0 : (t145 == 1) = true := beq_iff_eq.mpr c10
            have c10b1 : (t145 != 1) = false := bne_eq_false_iff_eq.mpr c10
            clear c10
            by_cases c11 : t146 = 6
            · rw [if_pos c11] at H
              have c11b0 : (t146 == 6) = true := beq_iff_eq.mpr c11
              have c11b1 : (t146 != 6) = false := bne_eq_false_iff_eq.mpr c11
              clear c11
              by_cases c12 : (strOfNums t147).toList = ([121] : List UInt8)
              · rw [if_pos c12] at H
                have c12b0 : ((strOfNums t147).toList == ([121] : List UInt8)) = true := beq_iff_eq.mpr c12
                have c12b1 : ((strOfNums t147).toList != ([121] : List UInt8)) = false := bne_eq_false_iff_eq.mpr c12
                clear c12
                by_cases c13 : t148 = 0
                · rw [if_pos c13] at H
                  have c13b0 : (t148 == 0) = true := beq_iff_eq.mpr c13
                  have c13b1 : (t148 != 0) = false := bne_eq_false_iff_eq.mpr c13
                  clear c13
                  by_cases c14 : t157 = 2
                  · rw [if_pos c14] at H
                    have c14b0 : (t157 == 2) = true := beq_iff_eq.mpr c14
                    have c14b1 : (t157 != 2) = false := bne_eq_false_iff_eq.mpr c14
                    clear c14
                    obtain rfl := Option.some.inj H
                    have KA1 := fun (A1_ : Option Addr) (C1_ : Nat) (W_ : World) h0_ h1_ => slot_Put.calls k 5 A1_ C1_ ([120] : List Int) t137 t138 W_ h0_ h1_ A1.out
                    simp only [List.length_cons, List.length_nil, Nat.zero_add, Nat.reduceAdd] at KA1
                    replace KA1 := Aside0.mk KA1
                    go_enter Try.func33, Try.ntmps33
                    go_wp2_with (first | ((with_reducible refine gate_dst (N := 18) rfl ?_); (try (refine gate_guard (by rfl) ?_; dsimp only)); (try (refine gate_guard (by rfl) ?_; dsimp only)); refine Go.Proofs.Ytffdonpkmnngpaa.Own.step_mark rfl _ 22 5 _ _ _ _ _ rfl rfl rfl ?hg Try.underlying22 Try.underlying5 ?_; (case hg => first | rfl | (go_simp; done) | (simp; done))) | (go_at_call 34; (with_reducible refine (KA1.out _ _ _ ?side1 ?side2).mono ?_); (case side1 => repeat (first | exact Go.Proofs.Ytffdonpkmnngpaa.Own.C_mark _ _ _ (by first | rfl | simp) (by decide) _ _ _ _ rfl rfl | (with_reducible refine Kd.C_alloc ?_ _) | (with_reducible refine Kd.C_drewN ?_ _) | (with_reducible refine Kd.C_drew ?_))); (case side2 => exact Nat.le_refl _); rintro e w15 ⟨v139, rfl, ho0, hb⟩; have n0_ := Aside0.mk (Kd.R_lower ho0 (below_size (by repeat (first | (with_reducible first | exact HB.out | apply below_alloc | apply pw_below_drewN | apply below_drew1) | exact HB.out)))); have n1_ := Aside0.mk (below_step (by repeat (first | (with_reducible first | exact HB.out | apply below_alloc | apply pw_below_drewN | apply below_drew1) | exact HB.out)) hb); clear HB; have HO140 := n0_; have HB := n1_; clear n0_ n1_; (try clear hb); (try clear hb2); (try clear hk); (try clear hi); (try clear ho0); have KA2 := fun (A1_ : Option Addr) (C1_ : Nat) (W_ : World) h0_ h1_ => slot_Put.calls k 6 A1_ C1_ ([121] : List Int) t141 t142 W_ h0_ h1_ A2.out; simp only [List.length_cons, List.length_nil, Nat.zero_add, Nat.reduceAdd] at KA2; replace KA2 := Aside0.mk KA2) | ((with_reducible refine gate_dst (N := 24) rfl ?_); (try (refine gate_guard (by rfl) ?_; dsimp only)); (try (refine gate_guard (by rfl) ?_; dsimp only)); refine Go.Proofs.Ytffdonpkmnngpaa.Own.step_mark rfl _ 22 5 _ _ _ _ _ rfl rfl rfl ?hg Try.underlying22 Try.underlying5 ?_; (case hg => first | rfl | (go_simp; done) | (simp; done))) | (go_at_call 34; (with_reducible refine (KA2.out _ _ _ ?side1 ?side2).mono ?_); (case side1 => repeat (first | exact Go.Proofs.Ytffdonpkmnngpaa.Own.C_mark _ _ _ (by first | rfl | simp) (by decide) _ _ _ _ rfl rfl | (with_reducible refine Kd.C_alloc ?_ _) | (with_reducible refine Kd.C_drewN ?_ _) | (with_reducible refine Kd.C_drew ?_))); (case side2 => exact Nat.le_refl _); rintro e w16 ⟨v143, rfl, ho0, hb⟩; have n0_ := Aside0.mk (Kd.R_elder' (by (with_reducible repeat (first | apply Kd.R_alloc | apply Kd.R_drewN | apply Kd.R_drew)); exact HO140.out) (Kd.R_base ho0) hb); have n1_ := Aside0.mk (Kd.R_lower (Kd.R_new' ho0 (Kd.R_lt (by (with_reducible repeat (first | apply Kd.R_alloc | apply Kd.R_drewN | apply Kd.R_drew)); exact HO140.out))) (below_size (by repeat (first | (with_reducible first | exact HB.out | apply below_alloc | apply pw_below_drewN | apply below_drew1) | exact HB.out)))); have n2_ := Aside0.mk (below_step (by repeat (first | (with_reducible first | exact HB.out | apply below_alloc | apply pw_below_drewN | apply below_drew1) | exact HB.out)) hb); clear HO140; clear HB; have HO140 := n0_; have HO144 := n1_; have HB := n2_; clear n0_ n1_ n2_; (try clear hb); (try clear hb2); (try clear hk); (try clear hi); (try clear ho0); obtain ⟨Ao17, co17, eo17⟩ := Kd.R_slice HO140.out; subst eo17; obtain ⟨Ao18, co18, eo18⟩ := Kd.R_slice HO144.out; subst eo18) | ((with_reducible refine gate_callee (f := 38) rfl ?_); refine goesL_ (some 31) rfl rfl Try.func38 (by kernel_rfl) rfl #[.slice Ao17 t137.length co17, .slice Ao18 t141.length co18] rfl (by (try simp only [List.map_toArray, List.map_cons, List.map_nil]); first | done | rfl | (simp only [List.length_drop, List.length_take]; rfl)) ?_; (with_reducible refine (slot_Better.calls k _ _ t137 _ _ t141 t145 t146 t147 t148 _ ?side1 ?side2 ?side3 ?side4 A3.out).mono ?_); (case side1 => repeat (first | exact (Kd.R_reads' HO140.out).2.2 | (with_reducible refine Kd.C_alloc ?_ _) | (with_reducible refine Kd.C_drewN ?_ _) | (with_reducible refine Kd.C_drew ?_))); (case side2 => exact (Kd.R_reads' HO140.out).2.1); (case side3 => repeat (first | exact (Kd.R_reads' HO144.out).2.2 | (with_reducible refine Kd.C_alloc ?_ _) | (with_reducible refine Kd.C_drewN ?_ _) | (with_reducible refine Kd.C_drew ?_))); (case side4 => exact (Kd.R_reads' HO144.out).2.1); rintro e w19 ⟨v149, rfl, ho0, hb⟩; refine ⟨_, rfl, ?_⟩; have n0_ := Aside0.mk (Kd.R_elder' (by (with_reducible repeat (first | apply Kd.R_alloc | apply Kd.R_drewN | apply Kd.R_drew)); exact HO140.out) (Kd.R_base ho0) hb); have n1_ := Aside0.mk (Kd.R_elder' (by (with_reducible repeat (first | apply Kd.R_alloc | apply Kd.R_drewN | apply Kd.R_drew)); exact HO144.out) (Kd.R_base ho0) hb); have n2_ := Aside0.mk (Kd.R_lower (Kd.R_new' (Kd.R_new' ho0 (Kd.R_lt (by (with_reducible repeat (first | apply Kd.R_alloc | apply Kd.R_drewN | apply Kd.R_drew)); exact HO140.out))) (Kd.R_lt (by (with_reducible repeat (first | apply Kd.R_alloc | apply Kd.R_drewN | apply Kd.R_drew)); exact HO144.out))) (below_size (by repeat (first | (with_reducible first | exact HB.out | apply below_alloc | apply pw_below_drewN | apply below_drew1) | exact HB.out)))); have n3_ := Aside0.mk (below_step (by repeat (first | (with_reducible first | exact HB.out | apply below_alloc | apply pw_below_drewN | apply below_drew1) | exact HB.out)) hb); clear HO140; clear HO144; clear HB; have HO140 := n0_; have HO144 := n1_; have HO150 := n2_; have HB := n3_; clear n0_ n1_ n2_ n3_; (try clear hb); (try clear hb2); (try clear hk); (try clear hi); (try clear ho0)) | ((with_reducible refine gate_dst (N := 37) rfl ?_); (try (refine gate_guard (by rfl) ?_; dsimp only)); refine Kd.R_make (Kd.int .u8) _ 5 rfl (N := 37) rfl 22 _ _ rfl 128 rfl rfl Try.underlying22 (.int .u8 0) 1 info5 rfl (by decide) (by omega) 0 (ok := fun _ => True) (okp := fun _ => True) rfl (fun _ hk => hk) trivial (by omega) (by omega) (Below.refl _ _) (Nat.le_refl _) ?_; intro v152 w20 ho21 hb hg_ hnew_; clear hg_ hnew_; (first | rw [← Ny151.out] at ho21 | (simp only [Int.reduceToNat] at ho21; rw [← Ny151.out] at ho21)); have n0_ := Aside0.mk (Kd.R_elder' (by (with_reducible repeat (first | apply Kd.R_alloc | apply Kd.R_drewN | apply Kd.R_drew)); exact HO140.out) (Kd.R_base ho21) hb); have n1_ := Aside0.mk (Kd.R_elder' (by (with_reducible repeat (first | apply Kd.R_alloc | apply Kd.R_drewN | apply Kd.R_drew)); exact HO144.out) (Kd.R_base ho21) hb); have n2_ := Aside0.mk (Kd.R_elder' (by (with_reducible repeat (first | apply Kd.R_alloc | apply Kd.R_drewN | apply Kd.R_drew)); exact HO150.out) (Kd.R_base ho21) hb); have n3_ := Aside0.mk (Kd.R_lower (Kd.R_new' (Kd.R_new' (Kd.R_new' ho21 (Kd.R_lt (by (with_reducible repeat (first | apply Kd.R_alloc | apply Kd.R_drewN | apply Kd.R_drew)); exact HO140.out))) (Kd.R_lt (by (with_reducible repeat (first | apply Kd.R_alloc | apply Kd.R_drewN | apply Kd.R_drew)); exact HO144.out))) (Kd.R_lt (by (with_reducible repeat (first | apply Kd.R_alloc | apply Kd.R_drewN | apply Kd.R_drew)); exact HO150.out))) (below_size (by repeat (first | (with_reducible first | exact HB.out | apply below_alloc | apply pw_below_drewN | apply below_drew1) | exact HB.out)))); have n4_ := Aside0.mk (below_step (by repeat (first | (with_reducible first | exact HB.out | apply below_alloc | apply pw_below_drewN | apply below_drew1) | exact HB.out)) hb); clear HO140; clear HO144; clear HO150; clear HB; have HO140 := n0_; have HO144 := n1_; have HO150 := n2_; have HO153 := n3_; have HB := n4_; clear n0_ n1_ n2_ n3_ n4_; clear hb ho21; obtain ⟨Ao22, co22, eo22⟩ := Kd.R_slice HO153.out; subst eo22) | ((with_reducible refine gate_callee (f := 38) rfl ?_); refine goesL_ (some 38) rfl rfl Try.func38 (by kernel_rfl) rfl #[.slice Ao22 y151.length co22, .slice none 0 0] rfl (by (try simp only [List.map_toArray, List.map_cons, List.map_nil]); first | done | rfl | (simp only [List.length_drop, List.length_take]; rfl)) ?_; (refine (slot_Better.calls k _ _ y151 _ _ ([] : List Int) t154 t155 t156 t157 _ ?side1 ?side2 ?side3 ?side4 A5.out).mono ?_); (case side1 => repeat (first | exact (Kd.R_reads' HO153.out).2.2 | (with_reducible refine Kd.C_alloc ?_ _) | (with_reducible refine Kd.C_drewN ?_ _) | (with_reducible refine Kd.C_drew ?_))); (case side2 => exact (Kd.R_reads' HO153.out).2.1); (case side3 => exact Kd.C_nil _ _); (case side4 => exact Nat.le_refl _); rintro e w23 ⟨v158, rfl, ho0, hb⟩; refine ⟨_, rfl, ?_⟩; have n0_ := Aside0.mk (Kd.R_elder' (by (with_reducible repeat (first | apply Kd.R_alloc | apply Kd.R_drewN | apply Kd.R_drew)); exact HO140.out) (Kd.R_base ho0) hb); have n1_ := Aside0.mk (Kd.R_elder' (by (with_reducible repeat (first | apply Kd.R_alloc | apply Kd.R_drewN | apply Kd.R_drew)); exact HO144.out) (Kd.R_base ho0) hb); have n2_ := Aside0.mk (Kd.R_elder' (by (with_reducible repeat (first | apply Kd.R_alloc | apply Kd.R_drewN | apply Kd.R_drew)); exact HO150.out) (Kd.R_base ho0) hb); have n3_ := Aside0.mk (Kd.R_elder' (by (with_reducible repeat (first | apply Kd.R_alloc | apply Kd.R_drewN | apply Kd.R_drew)); exact HO153.out) (Kd.R_base ho0) hb); have n4_ := Aside0.mk (Kd.R_lower (Kd.R_new' (Kd.R_new' (Kd.R_new' (Kd.R_new' ho0 (Kd.R_lt (by (with_reducible repeat (first | apply Kd.R_alloc | apply Kd.R_drewN | apply Kd.R_drew)); exact HO140.out))) (Kd.R_lt (by (with_reducible repeat (first | apply Kd.R_alloc | apply Kd.R_drewN | apply Kd.R_drew)); exact HO144.out))) (Kd.R_lt (by (with_reducible repeat (first | apply Kd.R_alloc | apply Kd.R_drewN | apply Kd.R_drew)); exact HO150.out))) (Kd.R_lt (by (with_reducible repeat (first | apply Kd.R_alloc | apply Kd.R_drewN | apply Kd.R_drew)); exact HO153.out))) (below_size (by repeat (first | (with_reducible first | exact HB.out | apply below_alloc | apply pw_below_drewN | apply below_drew1) | exact HB.out)))); have n5_ := Aside0.mk (below_step (by repeat (first | (with_reducible first | exact HB.out | apply below_alloc | apply pw_below_drewN | apply below_drew1) | exact HB.out)) hb); clear HO140; clear HO144; clear HO150; clear HO153; clear HB; have HO140 := n0_; have HO144 := n1_; have HO150 := n2_; have HO153 := n3_; have HO159 := n4_; have HB := n5_; clear n0_ n1_ n2_ n3_ n4_ n5_; (try clear hb); (try clear hb2); (try clear hk); (try clear hi); (try clear ho0)) | ((with_reducible refine gate_callee (f := 36) rfl ?_); refine goesL_ (some 44) rfl rfl Try.func36 (by kernel_rfl) rfl #[.slice none 0 0] rfl (by (try simp only [List.map_toArray, List.map_cons, List.map_nil]); first | done | rfl | (simp only [List.length_drop, List.length_take]; rfl)) ?_; (refine (slot_Take.calls k _ _ ([] : List Int) t160 t161 t162 _ ?side1 ?side2 A6.out).mono ?_); (case side1 => exact Kd.C_nil _ _); (case side2 => exact Nat.le_refl _); rintro e w24 ⟨v163, rfl, ho0, hb⟩; refine ⟨_, rfl, ?_⟩; have n0_ := Aside0.mk (Kd.R_elder' (by (with_reducible repeat (first | apply Kd.R_alloc | apply Kd.R_drewN | apply Kd.R_drew)); exact HO140.out) (Kd.R_base ho0) hb); have n1_ := Aside0.mk (Kd.R_elder' (by (with_reducible repeat (first | apply Kd.R_alloc | apply Kd.R_drewN | apply Kd.R_drew)); exact HO144.out) (Kd.R_base ho0) hb); have n2_ := Aside0.mk (Kd.R_elder' (by (with_reducible repeat (first | apply Kd.R_alloc | apply Kd.R_drewN | apply Kd.R_drew)); exact HO150.out) (Kd.R_base ho0) hb); have n3_ := Aside0.mk (Kd.R_elder' (by (with_reducible repeat (first | apply Kd.R_alloc | apply Kd.R_drewN | apply Kd.R_drew)); exact HO153.out) (Kd.R_base ho0) hb); have n4_ := Aside0.mk (Kd.R_elder' (by (with_reducible repeat (first | apply Kd.R_alloc | apply Kd.R_drewN | apply Kd.R_drew)); exact HO159.out) (Kd.R_base ho0) hb); have n5_ := Aside0.mk (Kd.R_lower (Kd.R_new' (Kd.R_new' (Kd.R_new' (Kd.R_new' (Kd.R_new' ho0 (Kd.R_lt (by (with_reducible repeat (first | apply Kd.R_alloc | apply Kd.R_drewN | apply Kd.R_drew)); exact HO140.out))) (Kd.R_lt (by (with_reducible repeat (first | apply Kd.R_alloc | apply Kd.R_drewN | apply Kd.R_drew)); exact HO144.out))) (Kd.R_lt (by (with_reducible repeat (first | apply Kd.R_alloc | apply Kd.R_drewN | apply Kd.R_drew)); exact HO150.out))) (Kd.R_lt (by (with_reducible repeat (first | apply Kd.R_alloc | apply Kd.R_drewN | apply Kd.R_drew)); exact HO153.out))) (Kd.R_lt (by (with_reducible repeat (first | apply Kd.R_alloc | apply Kd.R_drewN | apply Kd.R_drew)); exact HO159.out))) (below_size (by repeat (first | (with_reducible first | exact HB.out | apply below_alloc | apply pw_below_drewN | apply below_drew1) | exact HB.out)))); have n6_ := Aside0.mk (below_step (by repeat (first | (with_reducible first | exact HB.out | apply below_alloc | apply pw_below_drewN | apply below_drew1) | exact HB.out)) hb); clear HO140; clear HO144; clear HO150; clear HO153; clear HO159; clear HB; have HO140 := n0_; have HO144 := n1_; have HO150 := n2_; have HO153 := n3_; have HO159 := n4_; have HO164 := n5_; have HB := n6_; clear n0_ n1_ n2_ n3_ n4_ n5_ n6_; (try clear hb); (try clear hb2); (try clear hk); (try clear hi); (try clear ho0); have hcv25 := own_string (P := Try.prog) Try.underlying22 Try.underlying5 Try.underlying9 (Kd.own_of_R HO150.out); have hcv26 := fun nd_ : Nat => own_string (P := Try.prog) Try.underlying22 Try.underlying5 Try.underlying9 (Kd.own_of_R (Kd.R_drewN HO150.out nd_))))
                    go_ret
                    exact ⟨by first | rfl | (simp [errW_none, errW_some] <;> rfl) | (simp [*, errW_none, errW_some] <;> rfl), by repeat (first | (with_reducible first | exact HB.out | apply below_alloc | apply pw_below_drewN | apply below_drew1) | exact HB.out)⟩
                  · rw [if_neg c14] at H
                    exact absurd H (by simp)
                · rw [if_neg c13] at H
                  exact absurd H (by simp)
              · rw [if_neg c12] at H
                exact absurd H (by simp)
            · rw [if_neg c11] at H
              exact absurd H (by simp)
          · rw [if_neg c10] at H
            exact absurd H (by simp)
        · rw [if_neg c9] at H
          exact absurd H (by simp)
      · rw [if_neg c8] at H
        exact absurd H (by simp)
    · rw [if_neg c7] at H
      exact absurd H (by simp)
  · rw [if_neg c4] at H
    exact absurd H (by simp)

/-! ### pandectlaw4_SlotForms: function 15 -/
mutual
def pandectlaw4_SlotForms.j0 : Nat → List Int → List Int → Bool → Option (Bool)
  | 0, _, _, _ => none
  | k + 1, x1, x5, x65 => if x65 = true then (none) else (pandectlaw4_SlotForms.l0 k x1 x5 0)
def pandectlaw4_SlotForms.l0 : Nat → List Int → List Int → Int → Option (Bool)
  | 0, _, _, _ => none
  | k + 1, x1, x5, x7 => if x7 < 128 then ((some (([] : List Int) : List Int)).bind fun y206 => (if y206.length + x5.length < 140737488355328 then ((some (y206 ++ x5 : List Int)).bind fun y209 => (if 0 ≤ x7 then (if x7 < (y209.length : Int) then ((slot_Take.f k (y209.set (x7 : Int).toNat (Go.bits .xor .u8 (rd y209 x7) 1))).bind fun bt214 => (if bt214.2.2 = 2 then (pandectlaw4_SlotForms.l0 k x1 x5 (wrap64 (x7 + 1))) else (none))) else (none)) else (none))) else (none))) else ((slot_Better.f k x5 x1).bind fun bt219 => ((slot_Better.f k x1 x5).bind fun bt225 => ((slot_Better.f k ([] : List Int) x5).bind fun bt231 => (if bt219.1 = 0 then (if bt219.2.1 = 7 then (if (bt219.2.2.1.length : Int) = 0 then (if bt219.2.2.2 = 0 then (if bt225.1 = 0 then (if bt225.2.1 = 7 then (if (bt225.2.2.1.length : Int) = 113 then (if bt225.2.2.2 = 0 then (if bt231.1 = 1 then (if bt231.2.1 = 7 then (some (bt231.2.2.2 == 0)) else (none)) else (none)) else (none)) else (none)) else (none)) else (none)) else (none)) else (none)) else (none)) else (none)))))
end
def pandectlaw4_SlotForms.f (k : Nat)  : Option (Bool) := (pandectlaw4_begun.f k).bind fun t165 => (if t165 = true then (if 113 ≤ 281474976710656 then ((slot_Put.f k 7 (List.replicate 113 0)).bind fun bt187 => (if 114 ≤ 281474976710656 then ((slot_Put.f k 7 (List.replicate 114 0)).bind fun bt194 => ((slot_Put.f k 7 ([] : List Int)).bind fun bt198 => (if bt187.2 = 0 then (if bt194.2 = 4 then (if bt198.2 = 0 then (if (bt187.1.length : Int) = 128 then (if (bt198.1.length : Int) = 128 then (if 11 ≤ (bt198.1.length : Int) then (pandectlaw4_SlotForms.j0 k bt187.1 bt198.1 ((strOfNums (bt198.1.take 11)).toList != ([80, 68, 0, 0, 0, 0, 0, 0, 0, 7, 0] : List UInt8))) else (none)) else (pandectlaw4_SlotForms.j0 k bt187.1 bt198.1 true)) else (pandectlaw4_SlotForms.j0 k bt187.1 bt198.1 true)) else (pandectlaw4_SlotForms.j0 k bt187.1 bt198.1 true)) else (pandectlaw4_SlotForms.j0 k bt187.1 bt198.1 true)) else (pandectlaw4_SlotForms.j0 k bt187.1 bt198.1 true)))) else (none))) else (none)) else (none))
theorem pandectlaw4_SlotForms.mono_l : ∀ k, (∀ y0 y1 y2, LeO (pandectlaw4_SlotForms.j0 k y0 y1 y2) (pandectlaw4_SlotForms.j0 (k + 1) y0 y1 y2)) ∧ (∀ y0 y1 y2, LeO (pandectlaw4_SlotForms.l0 k y0 y1 y2) (pandectlaw4_SlotForms.l0 (k + 1) y0 y1 y2))
  | 0 => ⟨fun _ _ _ r h => by simp [pandectlaw4_SlotForms.j0] at h, fun _ _ _ r h => by simp [pandectlaw4_SlotForms.l0] at h⟩
  | k + 1 => by
    obtain ⟨ih0, ih1⟩ := pandectlaw4_SlotForms.mono_l k
    refine ⟨?_, ?_⟩
    · intro y0 y1 y2
      unfold pandectlaw4_SlotForms.j0
      repeat' first
      | (with_reducible exact ih0 _ _ _)
      | (with_reducible exact ih1 _ _ _)
      | (with_reducible exact pandectlaw4_begun.mono _)
      | (with_reducible exact slot_Better.mono _ _ _)
      | (with_reducible exact slot_Put.mono _ _ _)
      | (with_reducible exact slot_Take.mono _ _)
      | (with_reducible exact LeO.refl _)
      | (with_reducible exact LeO.none _)
      | (with_reducible refine LeO.ite ?_ ?_)
      | (with_reducible refine LeO.bind ?_ (fun _ => ?_))
      | exact ih0 _ _ _
      | exact ih1 _ _ _
      | exact pandectlaw4_begun.mono _
      | exact slot_Better.mono _ _ _
      | exact slot_Put.mono _ _ _
      | exact slot_Take.mono _ _
      | exact LeO.none _
      | refine LeO.ite ?_ ?_
      | refine LeO.bind ?_ (fun _ => ?_)
    · intro y0 y1 y2
      unfold pandectlaw4_SlotForms.l0
      repeat' first
      | (with_reducible exact ih0 _ _ _)
      | (with_reducible exact ih1 _ _ _)
      | (with_reducible exact pandectlaw4_begun.mono _)
      | (with_reducible exact slot_Better.mono _ _ _)
      | (with_reducible exact slot_Put.mono _ _ _)
      | (with_reducible exact slot_Take.mono _ _)
      | (with_reducible exact LeO.refl _)
      | (with_reducible exact LeO.none _)
      | (with_reducible refine LeO.ite ?_ ?_)
      | (with_reducible refine LeO.bind ?_ (fun _ => ?_))
      | exact ih0 _ _ _
      | exact ih1 _ _ _
      | exact pandectlaw4_begun.mono _
      | exact slot_Better.mono _ _ _
      | exact slot_Put.mono _ _ _
      | exact slot_Take.mono _ _
      | exact LeO.none _
      | refine LeO.ite ?_ ?_
      | refine LeO.bind ?_ (fun _ => ?_)
theorem pandectlaw4_SlotForms.mono : ∀ k, LeO (pandectlaw4_SlotForms.f k ) (pandectlaw4_SlotForms.f (k + 1) ) := by
  intro  k
  obtain ⟨ih0, ih1⟩ := pandectlaw4_SlotForms.mono_l k
  unfold pandectlaw4_SlotForms.f
  repeat' first
      | (with_reducible exact ih0 _ _ _)
      | (with_reducible exact ih1 _ _ _)
      | (with_reducible exact pandectlaw4_begun.mono _)
      | (with_reducible exact slot_Better.mono _ _ _)
      | (with_reducible exact slot_Put.mono _ _ _)
      | (with_reducible exact slot_Take.mono _ _)
      | (with_reducible exact LeO.refl _)
      | (with_reducible exact LeO.none _)
      | (with_reducible refine LeO.ite ?_ ?_)
      | (with_reducible refine LeO.bind ?_ (fun _ => ?_))
      | exact ih0 _ _ _
      | exact ih1 _ _ _
      | exact pandectlaw4_begun.mono _
      | exact slot_Better.mono _ _ _
      | exact slot_Put.mono _ _ _
      | exact slot_Take.mono _ _
      | exact LeO.none _
      | refine LeO.ite ?_ ?_
      | refine LeO.bind ?_ (fun _ => ?_)
set_option maxHeartbeats 8000000 in
set_option maxRecDepth 100000 in
theorem pandectlaw4_SlotForms.calls (k : Nat)  (r : Bool) (w : World) (h : pandectlaw4_SlotForms.f k  = some r) :
    Calls Try.prog 15 #[] w fun e w' => e = .returned (.bool r) ∧ Below w.heap.size w w' := by
  have HB := Aside0.mk (Below.refl w.heap.size w)
  have H : ((pandectlaw4_begun.f k).bind fun t165 => (if t165 = true then (if 113 ≤ 281474976710656 then ((slot_Put.f k 7 (List.replicate 113 0)).bind fun bt187 => (if 114 ≤ 281474976710656 then ((slot_Put.f k 7 (List.replicate 114 0)).bind fun bt194 => ((slot_Put.f k 7 ([] : List Int)).bind fun bt198 => (if bt187.2 = 0 then (if bt194.2 = 4 then (if bt198.2 = 0 then (if (bt187.1.length : Int) = 128 then (if (bt198.1.length : Int) = 128 then (if 11 ≤ (bt198.1.length : Int) then (pandectlaw4_SlotForms.j0 k bt187.1 bt198.1 ((strOfNums (bt198.1.take 11)).toList != ([80, 68, 0, 0, 0, 0, 0, 0, 0, 7, 0] : List UInt8))) else (none)) else (pandectlaw4_SlotForms.j0 k bt187.1 bt198.1 true)) else (pandectlaw4_SlotForms.j0 k bt187.1 bt198.1 true)) else (pandectlaw4_SlotForms.j0 k bt187.1 bt198.1 true)) else (pandectlaw4_SlotForms.j0 k bt187.1 bt198.1 true)) else (pandectlaw4_SlotForms.j0 k bt187.1 bt198.1 true)))) else (none))) else (none)) else (none))) = some r := h
  clear h
  replace H := Option.bind_eq_some_iff.mp H
  obtain ⟨t165, A10, H⟩ := H
  replace H : (if t165 = true then (if 113 ≤ 281474976710656 then ((slot_Put.f k 7 (List.replicate 113 0)).bind fun bt187 => (if 114 ≤ 281474976710656 then ((slot_Put.f k 7 (List.replicate 114 0)).bind fun bt194 => ((slot_Put.f k 7 ([] : List Int)).bind fun bt198 => (if bt187.2 = 0 then (if bt194.2 = 4 then (if bt198.2 = 0 then (if (bt187.1.length : Int) = 128 then (if (bt198.1.length : Int) = 128 then (if 11 ≤ (bt198.1.length : Int) then (pandectlaw4_SlotForms.j0 k bt187.1 bt198.1 ((strOfNums (bt198.1.take 11)).toList != ([80, 68, 0, 0, 0, 0, 0, 0, 0, 7, 0] : List UInt8))) else (none)) else (pandectlaw4_SlotForms.j0 k bt187.1 bt198.1 true)) else (pandectlaw4_SlotForms.j0 k bt187.1 bt198.1 true)) else (pandectlaw4_SlotForms.j0 k bt187.1 bt198.1 true)) else (pandectlaw4_SlotForms.j0 k bt187.1 bt198.1 true)) else (pandectlaw4_SlotForms.j0 k bt187.1 bt198.1 true)))) else (none))) else (none)) else (none)) = some r := H
  have A1 := Aside0.mk A10
  clear A10
  by_cases c2 : t165 = true
  · subst c2
    have H1 : (if 113 ≤ 281474976710656 then ((slot_Put.f k 7 (List.replicate 113 0)).bind fun bt187 => (if 114 ≤ 281474976710656 then ((slot_Put.f k 7 (List.replicate 114 0)).bind fun bt194 => ((slot_Put.f k 7 ([] : List Int)).bind fun bt198 => (if bt187.2 = 0 then (if bt194.2 = 4 then (if bt198.2 = 0 then (if (bt187.1.length : Int) = 128 then (if (bt198.1.length : Int) = 128 then (if 11 ≤ (bt198.1.length : Int) then (pandectlaw4_SlotForms.j0 k bt187.1 bt198.1 ((strOfNums (bt198.1.take 11)).toList != ([80, 68, 0, 0, 0, 0, 0, 0, 0, 7, 0] : List UInt8))) else (none)) else (pandectlaw4_SlotForms.j0 k bt187.1 bt198.1 true)) else (pandectlaw4_SlotForms.j0 k bt187.1 bt198.1 true)) else (pandectlaw4_SlotForms.j0 k bt187.1 bt198.1 true)) else (pandectlaw4_SlotForms.j0 k bt187.1 bt198.1 true)) else (pandectlaw4_SlotForms.j0 k bt187.1 bt198.1 true)))) else (none))) else (none)) = some r := by rw [if_pos rfl] at H; exact H
    clear H
    have H := H1
    clear H1
    by_cases c3 : 113 ≤ 281474976710656
    · rw [if_pos c3] at H
      have c3b0 := eq_true c3
      have c3b1 : decide (113 ≤ 281474976710656) = true := decide_eq_true c3
      clear c3
      obtain ⟨y184, hy184⟩ : ∃ y_ : List Int, y_ = (List.replicate 113 0) := ⟨_, rfl⟩
      replace H : ((slot_Put.f k 7 y184).bind fun bt187 => (if 114 ≤ 281474976710656 then ((slot_Put.f k 7 (List.replicate 114 0)).bind fun bt194 => ((slot_Put.f k 7 ([] : List Int)).bind fun bt198 => (if bt187.2 = 0 then (if bt194.2 = 4 then (if bt198.2 = 0 then (if (bt187.1.length : Int) = 128 then (if (bt198.1.length : Int) = 128 then (if 11 ≤ (bt198.1.length : Int) then (pandectlaw4_SlotForms.j0 k bt187.1 bt198.1 ((strOfNums (bt198.1.take 11)).toList != ([80, 68, 0, 0, 0, 0, 0, 0, 0, 7, 0] : List UInt8))) else (none)) else (pandectlaw4_SlotForms.j0 k bt187.1 bt198.1 true)) else (pandectlaw4_SlotForms.j0 k bt187.1 bt198.1 true)) else (pandectlaw4_SlotForms.j0 k bt187.1 bt198.1 true)) else (pandectlaw4_SlotForms.j0 k bt187.1 bt198.1 true)) else (pandectlaw4_SlotForms.j0 k bt187.1 bt198.1 true)))) else (none))) = some r := by first | (rw [hy184]; with_reducible exact H) | (have H2_ := (Option.bind_some _ _).symm.trans H; rw [hy184]; with_reducible exact H2_) | (have H2_ := (Option.bind_some _ _).symm.trans H; with_reducible exact H2_) | with_reducible exact H | (rw [hy184]; exact H) | exact H
      have Ny184 := Aside0.mk hy184
      clear hy184
      replace H := Option.bind_eq_some_iff.mp H
      obtain ⟨⟨t187, t188⟩, A40, H⟩ := H
      replace H : (if 114 ≤ 281474976710656 then ((slot_Put.f k 7 (List.replicate 114 0)).bind fun bt194 => ((slot_Put.f k 7 ([] : List Int)).bind fun bt198 => (if t188 = 0 then (if bt194.2 = 4 then (if bt198.2 = 0 then (if (t187.length : Int) = 128 then (if (bt198.1.length : Int) = 128 then (if 11 ≤ (bt198.1.length : Int) then (pandectlaw4_SlotForms.j0 k t187 bt198.1 ((strOfNums (bt198.1.take 11)).toList != ([80, 68, 0, 0, 0, 0, 0, 0, 0, 7, 0] : List UInt8))) else (none)) else (pandectlaw4_SlotForms.j0 k t187 bt198.1 true)) else (pandectlaw4_SlotForms.j0 k t187 bt198.1 true)) else (pandectlaw4_SlotForms.j0 k t187 bt198.1 true)) else (pandectlaw4_SlotForms.j0 k t187 bt198.1 true)) else (pandectlaw4_SlotForms.j0 k t187 bt198.1 true)))) else (none)) = some r := H
      have A4 := Aside0.mk A40
      clear A40
      by_cases c5 : 114 ≤ 281474976710656
      · rw [if_pos c5] at H
        have c5b0 := eq_true c5
        have c5b1 : decide (114 ≤ 281474976710656) = true := decide_eq_true c5
        clear c5
        obtain ⟨y191, hy191⟩ : ∃ y_ : List Int, y_ = (List.replicate 114 0) := ⟨_, rfl⟩
        replace H : ((slot_Put.f k 7 y191).bind fun bt194 => ((slot_Put.f k 7 ([] : List Int)).bind fun bt198 => (if t188 = 0 then (if bt194.2 = 4 then (if bt198.2 = 0 then (if (t187.length : Int) = 128 then (if (bt198.1.length : Int) = 128 then (if 11 ≤ (bt198.1.length : Int) then (pandectlaw4_SlotForms.j0 k t187 bt198.1 ((strOfNums (bt198.1.take 11)).toList != ([80, 68, 0, 0, 0, 0, 0, 0, 0, 7, 0] : List UInt8))) else (none)) else (pandectlaw4_SlotForms.j0 k t187 bt198.1 true)) else (pandectlaw4_SlotForms.j0 k t187 bt198.1 true)) else (pandectlaw4_SlotForms.j0 k t187 bt198.1 true)) else (pandectlaw4_SlotForms.j0 k t187 bt198.1 true)) else (pandectlaw4_SlotForms.j0 k t187 bt198.1 true)))) = some r := by first | (rw [hy191]; with_reducible exact H) | (have H2_ := (Option.bind_some _ _).symm.trans H; rw [hy191]; with_reducible exact H2_) | (have H2_ := (Option.bind_some _ _).symm.trans H; with_reducible exact H2_) | with_reducible exact H | (rw [hy191]; exact H) | exact H
        have Ny191 := Aside0.mk hy191
        clear hy191
        replace H := Option.bind_eq_some_iff.mp H
        obtain ⟨⟨t194, t195⟩, A60, H⟩ := H
        replace H : ((slot_Put.f k 7 ([] : List Int)).bind fun bt198 => (if t188 = 0 then (if t195 = 4 then (if bt198.2 = 0 then (if (t187.length : Int) = 128 then (if (bt198.1.length : Int) = 128 then (if 11 ≤ (bt198.1.length : Int) then (pandectlaw4_SlotForms.j0 k t187 bt198.1 ((strOfNums (bt198.1.take 11)).toList != ([80, 68, 0, 0, 0, 0, 0, 0, 0, 7, 0] : List UInt8))) else (none)) else (pandectlaw4_SlotForms.j0 k t187 bt198.1 true)) else (pandectlaw4_SlotForms.j0 k t187 bt198.1 true)) else (pandectlaw4_SlotForms.j0 k t187 bt198.1 true)) else (pandectlaw4_SlotForms.j0 k t187 bt198.1 true)) else (pandectlaw4_SlotForms.j0 k t187 bt198.1 true))) = some r := H
        have A6 := Aside0.mk A60
        clear A60
        replace H := Option.bind_eq_some_iff.mp H
        obtain ⟨⟨t198, t199⟩, A70, H⟩ := H
        replace H : (if t188 = 0 then (if t195 = 4 then (if t199 = 0 then (if (t187.length : Int) = 128 then (if (t198.length : Int) = 128 then (if 11 ≤ (t198.length : Int) then (pandectlaw4_SlotForms.j0 k t187 t198 ((strOfNums (t198.take 11)).toList != ([80, 68, 0, 0, 0, 0, 0, 0, 0, 7, 0] : List UInt8))) else (none)) else (pandectlaw4_SlotForms.j0 k t187 t198 true)) else (pandectlaw4_SlotForms.j0 k t187 t198 true)) else (pandectlaw4_SlotForms.j0 k t187 t198 true)) else (pandectlaw4_SlotForms.j0 k t187 t198 true)) else (pandectlaw4_SlotForms.j0 k t187 t198 true)) = some r := H
        have A7 := Aside0.mk A70
        clear A70
        have HC8 := Aside0.mk H
        clear H
        go_enter Try.func15, Try.ntmps15
        go_upto_region 6 with (first | ((with_reducible refine gate_callee (f := 33) rfl ?_); refine goesL_ (some 24) rfl rfl Try.func33 (by kernel_rfl) rfl #[] rfl (by (try simp only [List.map_toArray, List.map_cons, List.map_nil]); first | done | rfl | (simp only [List.length_drop, List.length_take]; rfl)) ?_; (with_reducible refine (pandectlaw4_begun.calls k  true _ A1.out).mono ?_); rintro e w9 ⟨rfl, hb⟩; refine ⟨_, rfl, ?_⟩; have n0_ := Aside0.mk (below_step (by repeat (first | (with_reducible first | exact HB.out | apply below_alloc | apply pw_below_drewN | apply below_drew1) | exact HB.out)) hb); clear HB; have HB := n0_; clear n0_; (try clear hb); (try clear hb2); (try clear hk); (try clear hi)) | ((with_reducible refine gate_dst (N := 27) rfl ?_); (try (refine gate_guard (by rfl) ?_; dsimp only)); refine Kd.R_make (Kd.int .u8) _ 5 rfl (N := 27) rfl 22 _ _ rfl 113 rfl rfl Try.underlying22 (.int .u8 0) 1 info5 rfl (by decide) (by omega) 0 (ok := fun _ => True) (okp := fun _ => True) rfl (fun _ hk => hk) trivial (by omega) (by omega) (Below.refl _ _) (Nat.le_refl _) ?_; intro v185 w10 ho11 hb hg_ hnew_; clear hg_ hnew_; (first | rw [← Ny184.out] at ho11 | (simp only [Int.reduceToNat] at ho11; rw [← Ny184.out] at ho11)); have n0_ := Aside0.mk (Kd.R_lower ho11 (below_size (by repeat (first | (with_reducible first | exact HB.out | apply below_alloc | apply pw_below_drewN | apply below_drew1) | exact HB.out)))); have n1_ := Aside0.mk (below_step (by repeat (first | (with_reducible first | exact HB.out | apply below_alloc | apply pw_below_drewN | apply below_drew1) | exact HB.out)) hb); clear HB; have HO186 := n0_; have HB := n1_; clear n0_ n1_; clear hb ho11; obtain ⟨Ao12, co12, eo12⟩ := Kd.R_slice HO186.out; subst eo12) | ((with_reducible refine gate_callee (f := 34) rfl ?_); refine goesL_ (some 28) rfl rfl Try.func34 (by kernel_rfl) rfl #[.int .u64 7, .slice Ao12 y184.length co12] rfl (by (try simp only [List.map_toArray, List.map_cons, List.map_nil]); first | done | rfl | (simp only [List.length_drop, List.length_take]; rfl)) ?_; (with_reducible refine (slot_Put.calls k 7 _ _ y184 t187 t188 _ ?side1 ?side2 A4.out).mono ?_); (case side1 => repeat (first | exact (Kd.R_reads' HO186.out).2.2 | (with_reducible refine Kd.C_alloc ?_ _) | (with_reducible refine Kd.C_drewN ?_ _) | (with_reducible refine Kd.C_drew ?_))); (case side2 => exact (Kd.R_reads' HO186.out).2.1); rintro e w13 ⟨v189, rfl, ho0, hb⟩; refine ⟨_, rfl, ?_⟩; have n0_ := Aside0.mk (Kd.R_elder' (by (with_reducible repeat (first | apply Kd.R_alloc | apply Kd.R_drewN | apply Kd.R_drew)); exact HO186.out) (Kd.R_base ho0) hb); have n1_ := Aside0.mk (Kd.R_lower (Kd.R_new' ho0 (Kd.R_lt (by (with_reducible repeat (first | apply Kd.R_alloc | apply Kd.R_drewN | apply Kd.R_drew)); exact HO186.out))) (below_size (by repeat (first | (with_reducible first | exact HB.out | apply below_alloc | apply pw_below_drewN | apply below_drew1) | exact HB.out)))); have n2_ := Aside0.mk (below_step (by repeat (first | (with_reducible first | exact HB.out | apply below_alloc | apply pw_below_drewN | apply below_drew1) | exact HB.out)) hb); clear HO186; clear HB; have HO186 := n0_; have HO190 := n1_; have HB := n2_; clear n0_ n1_ n2_; (try clear hb); (try clear hb2); (try clear hk); (try clear hi); (try clear ho0)) | ((with_reducible refine gate_dst (N := 32) rfl ?_); (try (refine gate_guard (by rfl) ?_; dsimp only)); refine Kd.R_make (Kd.int .u8) _ 5 rfl (N := 32) rfl 22 _ _ rfl 114 rfl rfl Try.underlying22 (.int .u8 0) 1 info5 rfl (by decide) (by omega) 0 (ok := fun _ => True) (okp := fun _ => True) rfl (fun _ hk => hk) trivial (by omega) (by omega) (Below.refl _ _) (Nat.le_refl _) ?_; intro v192 w14 ho15 hb hg_ hnew_; clear hg_ hnew_; (first | rw [← Ny191.out] at ho15 | (simp only [Int.reduceToNat] at ho15; rw [← Ny191.out] at ho15)); have n0_ := Aside0.mk (Kd.R_elder' (by (with_reducible repeat (first | apply Kd.R_alloc | apply Kd.R_drewN | apply Kd.R_drew)); exact HO186.out) (Kd.R_base ho15) hb); have n1_ := Aside0.mk (Kd.R_elder' (by (with_reducible repeat (first | apply Kd.R_alloc | apply Kd.R_drewN | apply Kd.R_drew)); exact HO190.out) (Kd.R_base ho15) hb); have n2_ := Aside0.mk (Kd.R_lower (Kd.R_new' (Kd.R_new' ho15 (Kd.R_lt (by (with_reducible repeat (first | apply Kd.R_alloc | apply Kd.R_drewN | apply Kd.R_drew)); exact HO186.out))) (Kd.R_lt (by (with_reducible repeat (first | apply Kd.R_alloc | apply Kd.R_drewN | apply Kd.R_drew)); exact HO190.out))) (below_size (by repeat (first | (with_reducible first | exact HB.out | apply below_alloc | apply pw_below_drewN | apply below_drew1) | exact HB.out)))); have n3_ := Aside0.mk (below_step (by repeat (first | (with_reducible first | exact HB.out | apply below_alloc | apply pw_below_drewN | apply below_drew1) | exact HB.out)) hb); clear HO186; clear HO190; clear HB; have HO186 := n0_; have HO190 := n1_; have HO193 := n2_; have HB := n3_; clear n0_ n1_ n2_ n3_; clear hb ho15; obtain ⟨Ao16, co16, eo16⟩ := Kd.R_slice HO193.out; subst eo16) | ((with_reducible refine gate_callee (f := 34) rfl ?_); refine goesL_ (some 33) rfl rfl Try.func34 (by kernel_rfl) rfl #[.int .u64 7, .slice Ao16 y191.length co16] rfl (by (try simp only [List.map_toArray, List.map_cons, List.map_nil]); first | done | rfl | (simp only [List.length_drop, List.length_take]; rfl)) ?_; (with_reducible refine (slot_Put.calls k 7 _ _ y191 t194 t195 _ ?side1 ?side2 A6.out).mono ?_); (case side1 => repeat (first | exact (Kd.R_reads' HO193.out).2.2 | (with_reducible refine Kd.C_alloc ?_ _) | (with_reducible refine Kd.C_drewN ?_ _) | (with_reducible refine Kd.C_drew ?_))); (case side2 => exact (Kd.R_reads' HO193.out).2.1); rintro e w17 ⟨v196, rfl, ho0, hb⟩; refine ⟨_, rfl, ?_⟩; have n0_ := Aside0.mk (Kd.R_elder' (by (with_reducible repeat (first | apply Kd.R_alloc | apply Kd.R_drewN | apply Kd.R_drew)); exact HO186.out) (Kd.R_base ho0) hb); have n1_ := Aside0.mk (Kd.R_elder' (by (with_reducible repeat (first | apply Kd.R_alloc | apply Kd.R_drewN | apply Kd.R_drew)); exact HO190.out) (Kd.R_base ho0) hb); have n2_ := Aside0.mk (Kd.R_elder' (by (with_reducible repeat (first | apply Kd.R_alloc | apply Kd.R_drewN | apply Kd.R_drew)); exact HO193.out) (Kd.R_base ho0) hb); have n3_ := Aside0.mk (Kd.R_lower (Kd.R_new' (Kd.R_new' (Kd.R_new' ho0 (Kd.R_lt (by (with_reducible repeat (first | apply Kd.R_alloc | apply Kd.R_drewN | apply Kd.R_drew)); exact HO186.out))) (Kd.R_lt (by (with_reducible repeat (first | apply Kd.R_alloc | apply Kd.R_drewN | apply Kd.R_drew)); exact HO190.out))) (Kd.R_lt (by (with_reducible repeat (first | apply Kd.R_alloc | apply Kd.R_drewN | apply Kd.R_drew)); exact HO193.out))) (below_size (by repeat (first | (with_reducible first | exact HB.out | apply below_alloc | apply pw_below_drewN | apply below_drew1) | exact HB.out)))); have n4_ := Aside0.mk (below_step (by repeat (first | (with_reducible first | exact HB.out | apply below_alloc | apply pw_below_drewN | apply below_drew1) | exact HB.out)) hb); clear HO186; clear HO190; clear HO193; clear HB; have HO186 := n0_; have HO190 := n1_; have HO193 := n2_; have HO197 := n3_; have HB := n4_; clear n0_ n1_ n2_ n3_ n4_; (try clear hb); (try clear hb2); (try clear hk); (try clear hi); (try clear ho0)) | ((with_reducible refine gate_callee (f := 34) rfl ?_); refine goesL_ (some 37) rfl rfl Try.func34 (by kernel_rfl) rfl #[.int .u64 7, .slice none 0 0] rfl (by (try simp only [List.map_toArray, List.map_cons, List.map_nil]); first | done | rfl | (simp only [List.length_drop, List.length_take]; rfl)) ?_; (refine (slot_Put.calls k 7 _ _ ([] : List Int) t198 t199 _ ?side1 ?side2 A7.out).mono ?_); (case side1 => exact Kd.C_nil _ _); (case side2 => exact Nat.le_refl _); rintro e w18 ⟨v200, rfl, ho0, hb⟩; refine ⟨_, rfl, ?_⟩; have n0_ := Aside0.mk (Kd.R_elder' (by (with_reducible repeat (first | apply Kd.R_alloc | apply Kd.R_drewN | apply Kd.R_drew)); exact HO186.out) (Kd.R_base ho0) hb); have n1_ := Aside0.mk (Kd.R_elder' (by (with_reducible repeat (first | apply Kd.R_alloc | apply Kd.R_drewN | apply Kd.R_drew)); exact HO190.out) (Kd.R_base ho0) hb); have n2_ := Aside0.mk (Kd.R_elder' (by (with_reducible repeat (first | apply Kd.R_alloc | apply Kd.R_drewN | apply Kd.R_drew)); exact HO193.out) (Kd.R_base ho0) hb); have n3_ := Aside0.mk (Kd.R_elder' (by (with_reducible repeat (first | apply Kd.R_alloc | apply Kd.R_drewN | apply Kd.R_drew)); exact HO197.out) (Kd.R_base ho0) hb); have n4_ := Aside0.mk (Kd.R_lower (Kd.R_new' (Kd.R_new' (Kd.R_new' (Kd.R_new' ho0 (Kd.R_lt (by (with_reducible repeat (first | apply Kd.R_alloc | apply Kd.R_drewN | apply Kd.R_drew)); exact HO186.out))) (Kd.R_lt (by (with_reducible repeat (first | apply Kd.R_alloc | apply Kd.R_drewN | apply Kd.R_drew)); exact HO190.out))) (Kd.R_lt (by (with_reducible repeat (first | apply Kd.R_alloc | apply Kd.R_drewN | apply Kd.R_drew)); exact HO193.out))) (Kd.R_lt (by (with_reducible repeat (first | apply Kd.R_alloc | apply Kd.R_drewN | apply Kd.R_drew)); exact HO197.out))) (below_size (by repeat (first | (with_reducible first | exact HB.out | apply below_alloc | apply pw_below_drewN | apply below_drew1) | exact HB.out)))); have n5_ := Aside0.mk (below_step (by repeat (first | (with_reducible first | exact HB.out | apply below_alloc | apply pw_below_drewN | apply below_drew1) | exact HB.out)) hb); clear HO186; clear HO190; clear HO193; clear HO197; clear HB; have HO186 := n0_; have HO190 := n1_; have HO193 := n2_; have HO197 := n3_; have HO201 := n4_; have HB := n5_; clear n0_ n1_ n2_ n3_ n4_ n5_; (try clear hb); (try clear hb2); (try clear hk); (try clear hi); (try clear ho0)))
        (try simp only [Act.put, List.setIfInBounds_toArray, List.set_cons_zero, List.set_cons_succ])
        go_cut [65] (fun v65 wc => ∃ (kq : Nat) (x65_7 : Bool), v65 = .bool x65_7 ∧ Aside0 (pandectlaw4_SlotForms.j0 kq t187 t198 x65_7 = some r) ∧ Aside0 (kq ≤ k) ∧ Aside0 (Kd.R (Kd.int .u8) 5 wc w.heap.size (fun k_ => some k_ ≠ (v200 : Value).ownBlock) v189 t187) ∧ Aside0 (Kd.R (Kd.int .u8) 5 wc w.heap.size (fun k_ => some k_ ≠ (v189 : Value).ownBlock) v200 t198) ∧ Aside0 (Below w.heap.size w wc))
        case first =>
          have H := HC8.out
          clear HC8
          by_cases c19 : t188 = 0
          · rw [if_pos c19] at H
            have c19b0 : (t188 == 0) = true := beq_iff_eq.mpr c19
            have c19b1 : (t188 != 0) = false := bne_eq_false_iff_eq.mpr c19
            clear c19
            (first | rw [c19b0] | (simp only [i64_w, i32_w]; rw [c19b0]) | skip)
            by_cases c20 : t195 = 4
            · rw [if_pos c20] at H
              have c20b0 : (t195 == 4) = true := beq_iff_eq.mpr c20
              have c20b1 : (t195 != 4) = false := bne_eq_false_iff_eq.mpr c20
              clear c20
              by_cases c21 : t199 = 0
              · rw [if_pos c21] at H
                have c21b0 : (t199 == 0) = true := beq_iff_eq.mpr c21
                have c21b1 : (t199 != 0) = false := bne_eq_false_iff_eq.mpr c21
                clear c21
                by_cases c22 : (t187.length : Int) = 128
                · rw [if_pos c22] at H
                  have c22b0 : ((t187.length : Int) == 128) = true := beq_iff_eq.mpr c22
                  have c22b1 : ((t187.length : Int) != 128) = false := bne_eq_false_iff_eq.mpr c22
                  clear c22
                  by_cases c23 : (t198.length : Int) = 128
                  · rw [if_pos c23] at H
                    have c23b0 : ((t198.length : Int) == 128) = true := beq_iff_eq.mpr c23
                    have c23b1 : ((t198.length : Int) != 128) = false := bne_eq_false_iff_eq.mpr c23
                    clear c23
                    by_cases c24 : 11 ≤ (t198.length : Int)
                    · rw [if_pos c24] at H
                      have c24b0 := eq_true c24
                      have c24b1 : decide (11 ≤ (t198.length : Int)) = true := decide_eq_true c24
                      clear c24
                      obtain ⟨y202, hy202⟩ : ∃ y_ : List Int, y_ = (t198.take 11) := ⟨_, rfl⟩
                      replace H : (pandectlaw4_SlotForms.j0 k t187 t198 ((strOfNums y202).toList != ([80, 68, 0, 0, 0, 0, 0, 0, 0, 7, 0] : List UInt8))) = some r := by first | (rw [hy202]; with_reducible exact H) | (have H2_ := (Option.bind_some _ _).symm.trans H; rw [hy202]; with_reducible exact H2_) | (have H2_ := (Option.bind_some _ _).symm.trans H; with_reducible exact H2_) | with_reducible exact H | (rw [hy202]; exact H) | exact H
                      have Ny202 := Aside0.mk hy202
                      clear hy202
                      have H' := Aside0.mk H
                      clear H
                      obtain ⟨Ao25, co25, eo25⟩ := Kd.R_slice HO190.out
                      subst eo25
                      obtain ⟨Ao26, co26, eo26⟩ := Kd.R_slice HO201.out
                      subst eo26
                      have q27 : (11 : Int) ≤ ((t198.length : Int) : Int) := of_decide_eq_true (by first | (with_reducible assumption) | assumption)
                      obtain ⟨i027, hi027, _, hsz27, _⟩ := info_parts info5
                      have hroom27 : t198.length ≤ co26 := (Kd.R_reads' HO201.out).2.1
                      have hC27 : Kd.C (Kd.int .u8) _ Ao26 t198.length t198 := (Kd.R_reads' HO201.out).2.2
                      have hcut27 := cut_to (P := Try.prog) 22 5 .i64 Try.underlying22 hi027 Ao26 t198.length co26 11 (by omega) q27 hroom27
                      have hr27 := Kd.C_take (m := 11) hC27 (by omega)
                      have hy27 : y202.length = (11 : Int).toNat := (by rw [Ny202.out, List.length_take]; omega)
                      rw [← Ny202.out] at hr27
                      rw [← hy27] at hcut27
                      have HR205 := Aside0.mk hr27
                      have HC205 := Aside0.mk (show y202.length ≤ co26 from by omega)
                      clear hr27 hC27 hroom27 hi027 hsz27
                      have KY27 := Aside0.mk hy27
                      clear hy27
                      have KL27 := Aside0.mk (show 11 ≤ t198.length from by omega)
                      replace q27 := eq_true q27
                      have hcv28 := Kd.C_string (P := Try.prog) (A := Ao26) (c := co26) Try.underlying22 Try.underlying5 Try.underlying9 (by repeat (first | (with_reducible exact HR205.out) | (with_reducible refine Kd.C_alloc ?_ _) | (with_reducible refine Kd.C_drewN ?_ _) | (with_reducible refine Kd.C_drew ?_) | exact HR205.out))
                      go_wp2
                      go_meet
                      case rel => exact ⟨_, (((strOfNums y202).toList != ([80, 68, 0, 0, 0, 0, 0, 0, 0, 7, 0] : List UInt8))), (by first | rfl | (simp; done) | (simp [*]; done)), H', ⟨by first | omega | exact Nat.le_refl _⟩, ⟨by (with_reducible repeat (first | apply Kd.R_alloc | apply Kd.R_drewN | apply Kd.R_drew)); exact Kd.R_mono HO190.out (fun _ hk => hk.2)⟩, ⟨by (with_reducible repeat (first | apply Kd.R_alloc | apply Kd.R_drewN | apply Kd.R_drew)); exact Kd.R_mono HO201.out (fun _ hk => hk.1.1.2)⟩, ⟨by repeat (first | (with_reducible first | exact HB.out | apply below_alloc | apply pw_below_drewN | apply below_drew1) | exact HB.out)⟩⟩
                    · rw [if_neg c24] at H
                      exact absurd H (by simp)
                  · rw [if_neg c23] at H
                    have c23b0 : ((t198.length : Int) == 128) = false := beq_eq_false_iff_ne.mpr c23
                    have c23b1 : ((t198.length : Int) != 128) = true := bne_iff_ne.mpr c23
                    have H' := Aside0.mk H
                    clear H
                    obtain ⟨Ao29, co29, eo29⟩ := Kd.R_slice HO190.out
                    subst eo29
                    obtain ⟨Ao30, co30, eo30⟩ := Kd.R_slice HO201.out
                    subst eo30
                    go_wp2
                    go_meet
                    case rel => exact ⟨_, (true), (by first | rfl | (simp; done) | (simp [*]; done)), H', ⟨by first | omega | exact Nat.le_refl _⟩, ⟨by (with_reducible repeat (first | apply Kd.R_alloc | apply Kd.R_drewN | apply Kd.R_drew)); exact Kd.R_mono HO190.out (fun _ hk => hk.2)⟩, ⟨by (with_reducible repeat (first | apply Kd.R_alloc | apply Kd.R_drewN | apply Kd.R_drew)); exact Kd.R_mono HO201.out (fun _ hk => hk.1.1.2)⟩, ⟨by repeat (first | (with_reducible first | exact HB.out | apply below_alloc | apply pw_below_drewN | apply below_drew1) | exact HB.out)⟩⟩
                · rw [if_neg c22] at H
                  have c22b0 : ((t187.length : Int) == 128) = false := beq_eq_false_iff_ne.mpr c22
                  have c22b1 : ((t187.length : Int) != 128) = true := bne_iff_ne.mpr c22
                  have H' := Aside0.mk H
                  clear H
                  obtain ⟨Ao31, co31, eo31⟩ := Kd.R_slice HO190.out
                  subst eo31
                  go_wp2
                  go_meet
                  case rel => exact ⟨_, (true), (by first | rfl | (simp; done) | (simp [*]; done)), H', ⟨by first | omega | exact Nat.le_refl _⟩, ⟨by (with_reducible repeat (first | apply Kd.R_alloc | apply Kd.R_drewN | apply Kd.R_drew)); exact Kd.R_mono HO190.out (fun _ hk => hk.2)⟩, ⟨by (with_reducible repeat (first | apply Kd.R_alloc | apply Kd.R_drewN | apply Kd.R_drew)); exact Kd.R_mono HO201.out (fun _ hk => hk.1.1.2)⟩, ⟨by repeat (first | (with_reducible first | exact HB.out | apply below_alloc | apply pw_below_drewN | apply below_drew1) | exact HB.out)⟩⟩
              · rw [if_neg c21] at H
                have c21b0 : (t199 == 0) = false := beq_eq_false_iff_ne.mpr c21
                have c21b1 : (t199 != 0) = true := bne_iff_ne.mpr c21
                have H' := Aside0.mk H
                clear H
                go_wp2
                go_meet
                case rel => exact ⟨_, (true), (by first | rfl | (simp; done) | (simp [*]; done)), H', ⟨by first | omega | exact Nat.le_refl _⟩, ⟨by (with_reducible repeat (first | apply Kd.R_alloc | apply Kd.R_drewN | apply Kd.R_drew)); exact Kd.R_mono HO190.out (fun _ hk => hk.2)⟩, ⟨by (with_reducible repeat (first | apply Kd.R_alloc | apply Kd.R_drewN | apply Kd.R_drew)); exact Kd.R_mono HO201.out (fun _ hk => hk.1.1.2)⟩, ⟨by repeat (first | (with_reducible first | exact HB.out | apply below_alloc | apply pw_below_drewN | apply below_drew1) | exact HB.out)⟩⟩
            · rw [if_neg c20] at H
              have c20b0 : (t195 == 4) = false := beq_eq_false_iff_ne.mpr c20
              have c20b1 : (t195 != 4) = true := bne_iff_ne.mpr c20
              have H' := Aside0.mk H
              clear H
              go_wp2
              go_meet
              case rel => exact ⟨_, (true), (by first | rfl | (simp; done) | (simp [*]; done)), H', ⟨by first | omega | exact Nat.le_refl _⟩, ⟨by (with_reducible repeat (first | apply Kd.R_alloc | apply Kd.R_drewN | apply Kd.R_drew)); exact Kd.R_mono HO190.out (fun _ hk => hk.2)⟩, ⟨by (with_reducible repeat (first | apply Kd.R_alloc | apply Kd.R_drewN | apply Kd.R_drew)); exact Kd.R_mono HO201.out (fun _ hk => hk.1.1.2)⟩, ⟨by repeat (first | (with_reducible first | exact HB.out | apply below_alloc | apply pw_below_drewN | apply below_drew1) | exact HB.out)⟩⟩
          · rw [if_neg c19] at H
            have c19b0 : (t188 == 0) = false := beq_eq_false_iff_ne.mpr c19
            have c19b1 : (t188 != 0) = true := bne_iff_ne.mpr c19
            (first | rw [c19b0] | (simp only [i64_w, i32_w]; rw [c19b0]) | skip)
            have H' := Aside0.mk H
            clear H
            go_wp2
            go_meet
            case rel => exact ⟨_, (true), (by first | rfl | (simp; done) | (simp [*]; done)), H', ⟨by first | omega | exact Nat.le_refl _⟩, ⟨by (with_reducible repeat (first | apply Kd.R_alloc | apply Kd.R_drewN | apply Kd.R_drew)); exact Kd.R_mono HO190.out (fun _ hk => hk.2)⟩, ⟨by (with_reducible repeat (first | apply Kd.R_alloc | apply Kd.R_drewN | apply Kd.R_drew)); exact Kd.R_mono HO201.out (fun _ hk => hk.1.1.2)⟩, ⟨by repeat (first | (with_reducible first | exact HB.out | apply below_alloc | apply pw_below_drewN | apply below_drew1) | exact HB.out)⟩⟩
        case rest =>
          clear HC8
          try clear c1
          try clear c2
          try clear p2
          try clear q2
          try clear hcv2
          try clear c3
          try clear c3b0
          try clear c3b1
          try clear c5
          try clear c5b0
          try clear c5b1
          try clear c15
          try clear c19
          try clear c19b0
          try clear c19b1
          try clear c20
          try clear c20b0
          try clear c20b1
          try clear c21
          try clear c21b0
          try clear c21b1
          try clear c22
          try clear c22b0
          try clear c22b1
          try clear c23
          try clear c23b0
          try clear c23b1
          try clear c24
          try clear c24b0
          try clear c24b1
          try clear q27
          try clear hcv28
          try clear q27
          obtain ⟨kq, x65_7, rfl, HA, HJ7, HO_1, HO_5, HB⟩ := hcut
          cases kq with
          | zero => exact absurd HA.out (by simp [pandectlaw4_SlotForms.j0])
          | succ kj7 =>
            have H := HA.out
            clear HA
            simp only [pandectlaw4_SlotForms.j0] at H
            by_cases c32 : x65_7 = true
            · subst c32
              have H1 : (none) = some r := by rw [if_pos rfl] at H; exact H
              clear H
              have H := H1
              clear H1
              exact absurd H (by simp)
            · replace c32 := Bool.eq_false_iff.mpr c32
              subst c32
              have H1 : (pandectlaw4_SlotForms.l0 kj7 t187 t198 0) = some r := by rw [if_neg (show ¬ (false = true) by decide)] at H; exact H
              clear H
              have H := H1
              clear H1
              have H' := Aside0.mk H
              clear H
              go_wp2
              go_loopg [7] kj7 (fun kq v7 w' => ∃ (x1_2 : List Int) (x5_2 : List Int) (x7_2 : Int), v7 = .int .i64 x7_2 ∧ Aside0 (pandectlaw4_SlotForms.l0 kq x1_2 x5_2 x7_2 = some r) ∧ Aside0 (kq ≤ kj7) ∧ Aside0 (Kd.R (Kd.int .u8) 5 w' w.heap.size (fun k_ => some k_ ≠ (v200 : Value).ownBlock) v189 x1_2) ∧ Aside0 (Kd.R (Kd.int .u8) 5 w' w.heap.size (fun k_ => some k_ ≠ (v189 : Value).ownBlock) v200 x5_2) ∧ Aside0 (Below w.heap.size w w'))
              case atStart => exact ⟨(t187), (t198), (0), (by first | rfl | (simp; done) | (simp [*]; done)), H', ⟨Nat.le_refl _⟩, ⟨by (with_reducible repeat (first | apply Kd.R_alloc | apply Kd.R_drewN | apply Kd.R_drew)); exact HO_1.out⟩, ⟨by (with_reducible repeat (first | apply Kd.R_alloc | apply Kd.R_drewN | apply Kd.R_drew)); exact HO_5.out⟩, ⟨by repeat (first | (with_reducible first | exact HB.out | apply below_alloc | apply pw_below_drewN | apply below_drew1) | exact HB.out)⟩⟩
              case round =>
                clear H'
                try clear c1
                try clear c2
                try clear p2
                try clear q2
                try clear hcv2
                try clear c3
                try clear c3b0
                try clear c3b1
                try clear c5
                try clear c5b0
                try clear c5b1
                try clear c15
                try clear c19
                try clear c19b0
                try clear c19b1
                try clear c20
                try clear c20b0
                try clear c20b1
                try clear c21
                try clear c21b0
                try clear c21b1
                try clear c22
                try clear c22b0
                try clear c22b1
                try clear c23
                try clear c23b0
                try clear c23b1
                try clear c24
                try clear c24b0
                try clear c24b1
                try clear q27
                try clear hcv28
                try clear c32
                try clear p2
                try clear q2
                try clear q27
                obtain ⟨x1_2, x5_2, x7_2, rfl, HA, HK2, HO_1, HO_5, HB⟩ := hrel
                cases gk with
                | zero => exact absurd HA.out (by simp [pandectlaw4_SlotForms.l0])
                | succ k2 =>
                  have H := HA.out
                  clear HA
                  simp only [pandectlaw4_SlotForms.l0] at H
                  by_cases c33 : x7_2 < 128
                  · rw [if_pos c33] at H
                    have c33b0 : decide (x7_2 < 128) = true := decide_eq_true c33
                    clear c33
                    obtain ⟨y206, hy206⟩ : ∃ y_ : List Int, y_ = (([] : List Int)) := ⟨_, rfl⟩
                    replace H : (if y206.length + x5_2.length < 140737488355328 then ((some (y206 ++ x5_2 : List Int)).bind fun y209 => (if 0 ≤ x7_2 then (if x7_2 < (y209.length : Int) then ((slot_Take.f k2 (y209.set (x7_2 : Int).toNat (Go.bits .xor .u8 (rd y209 x7_2) 1))).bind fun bt214 => (if bt214.2.2 = 2 then (pandectlaw4_SlotForms.l0 k2 x1_2 x5_2 (wrap64 (x7_2 + 1))) else (none))) else (none)) else (none))) else (none)) = some r := by first | (rw [hy206]; with_reducible exact H) | (have H2_ := (Option.bind_some _ _).symm.trans H; rw [hy206]; with_reducible exact H2_) | (have H2_ := (Option.bind_some _ _).symm.trans H; with_reducible exact H2_) | with_reducible exact H | (rw [hy206]; exact H) | exact H
                    have Ny206 := Aside0.mk hy206
                    clear hy206
                    by_cases c34 : y206.length + x5_2.length < 140737488355328
                    · rw [if_pos c34] at H
                      have LMc34 := Aside0.mk c34
                      clear c34
                      obtain ⟨y209, hy209⟩ : ∃ y_ : List Int, y_ = (y206 ++ x5_2) := ⟨_, rfl⟩
                      replace H : (if 0 ≤ x7_2 then (if x7_2 < (y209.length : Int) then ((slot_Take.f k2 (y209.set (x7_2 : Int).toNat (Go.bits .xor .u8 (rd y209 x7_2) 1))).bind fun bt214 => (if bt214.2.2 = 2 then (pandectlaw4_SlotForms.l0 k2 x1_2 x5_2 (wrap64 (x7_2 + 1))) else (none))) else (none)) else (none)) = some r := by first | (rw [hy209]; with_reducible exact H) | (have H2_ := (Option.bind_some _ _).symm.trans H; rw [hy209]; with_reducible exact H2_) | (have H2_ := (Option.bind_some _ _).symm.trans H; with_reducible exact H2_) | with_reducible exact H | (rw [hy209]; exact H) | exact H
                      have Ny209 := Aside0.mk hy209
                      clear hy209
                      by_cases c35 : 0 ≤ x7_2
                      · rw [if_pos c35] at H
                        have c35b0 : decide (0 ≤ x7_2) = true := decide_eq_true c35
                        clear c35
                        by_cases c36 : x7_2 < (y209.length : Int)
                        · rw [if_pos c36] at H
                          have c36b0 : decide (x7_2 < (y209.length : Int)) = true := decide_eq_true c36
                          clear c36
                          obtain ⟨y213, hy213⟩ : ∃ y_ : List Int, y_ = (y209.set (x7_2 : Int).toNat (Go.bits .xor .u8 (rd y209 x7_2) 1)) := ⟨_, rfl⟩
                          replace H : ((slot_Take.f k2 y213).bind fun bt214 => (if bt214.2.2 = 2 then (pandectlaw4_SlotForms.l0 k2 x1_2 x5_2 (wrap64 (x7_2 + 1))) else (none))) = some r := by first | (rw [hy213]; with_reducible exact H) | (have H2_ := (Option.bind_some _ _).symm.trans H; rw [hy213]; with_reducible exact H2_) | (have H2_ := (Option.bind_some _ _).symm.trans H; with_reducible exact H2_) | with_reducible exact H | (rw [hy213]; exact H) | exact H
                          have Ny213 := Aside0.mk hy213
                          clear hy213
                          replace H := Option.bind_eq_some_iff.mp H
                          obtain ⟨⟨t214, t215, t216⟩, A380, H⟩ := H
                          replace H : (if t216 = 2 then (pandectlaw4_SlotForms.l0 k2 x1_2 x5_2 (wrap64 (x7_2 + 1))) else (none)) = some r := H
                          have A38 := Aside0.mk A380
                          clear A380
                          by_cases c39 : t216 = 2
                          · rw [if_pos c39] at H
                            have c39b0 : (t216 == 2) = true := beq_iff_eq.mpr c39
                            have c39b1 : (t216 != 2) = false := bne_eq_false_iff_eq.mpr c39
                            clear c39
                            have H' := Aside0.mk H
                            clear H
                            go_wp2_with (first | ((with_reducible refine gate_dst (N := 70) rfl ?_); (try (refine gate_guard (by rfl) ?_; dsimp only)); refine Kd.R_lit (Kd.int .u8) _ 5 ?hg (N := 70) ?hd (xs := ([] : List Int)) (inner := []) (ok := fun _ => True) (okp := fun _ => True) ?hr ?hp (fun _ hk => hk) trivial (Below.refl _ _) (Nat.le_refl _) (by simp) ?_; (case hd => rfl); (case hg => rfl); (case hr => first | (go_simp; done) | (go_simp; rfl)); (case hp => exact (Reps.none _ _)); intro v207 w40 ho41 hb hg_ hnew_; clear hg_ hnew_; (first | rw [← Ny206.out] at ho41 | (simp only [Int.reduceToNat] at ho41; rw [← Ny206.out] at ho41)); have n0_ := Aside0.mk (Kd.R_elder' (by (with_reducible repeat (first | apply Kd.R_alloc | apply Kd.R_drewN | apply Kd.R_drew)); exact HO_1.out) (Kd.R_base ho41) hb); have n1_ := Aside0.mk (Kd.R_elder' (by (with_reducible repeat (first | apply Kd.R_alloc | apply Kd.R_drewN | apply Kd.R_drew)); exact HO_5.out) (Kd.R_base ho41) hb); have n2_ := Aside0.mk (Kd.R_lower (Kd.R_new' (Kd.R_new' ho41 (Kd.R_lt (by (with_reducible repeat (first | apply Kd.R_alloc | apply Kd.R_drewN | apply Kd.R_drew)); exact HO_1.out))) (Kd.R_lt (by (with_reducible repeat (first | apply Kd.R_alloc | apply Kd.R_drewN | apply Kd.R_drew)); exact HO_5.out))) (below_size (by repeat (first | (with_reducible first | exact HB.out | apply below_alloc | apply pw_below_drewN | apply below_drew1) | exact HB.out)))); have n3_ := Aside0.mk (below_step (by repeat (first | (with_reducible first | exact HB.out | apply below_alloc | apply pw_below_drewN | apply below_drew1) | exact HB.out)) hb); clear HO_1; clear HO_5; clear HB; have HO_1 := n0_; have HO_5 := n1_; have HO208 := n2_; have HB := n3_; clear n0_ n1_ n2_ n3_; clear hb ho41; obtain ⟨Ao43, co43, eo43⟩ := Kd.R_slice HO_5.out; subst eo43) | ((with_reducible refine gate_builtin (b := .append) (xs := #[.tmp 70, .tmp 71]) rfl ?_); (try (refine gate_guard (by rfl) ?_; dsimp only)); at_builtin; refine Kd.R_append_rows (Kd.int .u8) (w0 := w) w.heap.size rfl (.tmp 70) (.tmp 71) 22 5 (.int .u8 0) 1 rfl Try.underlying22 info5 rfl (by decide) (by omega) v207 y206 x5_2 _ _ _ (fun k_ => some k_ ≠ (v189 : Value).ownBlock ∧ some k_ ≠ (.slice Ao43 x5_2.length co43 : Value).ownBlock) (fun _ => False) rfl rfl ?aO ?aR (fun _ _ h => h) (fun _ h => h.elim) ?aF ?aB ?aS ?aL ?_; (case aR => repeat (first | exact (Kd.R_reads' HO_5.out).2.2 | (with_reducible refine Kd.C_alloc ?_ _) | (with_reducible refine Kd.C_drewN ?_ _) | (with_reducible refine Kd.C_drew ?_))); (case aB => exact (by repeat (first | (with_reducible first | exact HB.out | apply below_alloc | apply pw_below_drewN | apply below_drew1) | exact HB.out))); (case aF => exact (fun k_ hk => ⟨Kd.fresh' (Kd.R_lt (by (with_reducible repeat (first | apply Kd.R_alloc | apply Kd.R_drewN | apply Kd.R_drew)); exact HO_1.out)) k_ hk, Kd.fresh' (Kd.R_lt (by (with_reducible repeat (first | apply Kd.R_alloc | apply Kd.R_drewN | apply Kd.R_drew)); exact HO_5.out)) k_ hk⟩)); (case aO => exact (by (with_reducible repeat (first | apply Kd.R_alloc | apply Kd.R_drewN | apply Kd.R_drew)); exact Kd.R_mono HO208.out (fun _ hk => ⟨hk.1.2, hk.2⟩))); (case aS => exact (below_size (by repeat (first | (with_reducible first | exact HB.out | apply below_alloc | apply pw_below_drewN | apply below_drew1) | exact HB.out)))); (case aL => have := LMc34.out; omega); intro v210 w42 ho hb hg hat; rw [← Ny209.out] at ho; have n0_ := Aside0.mk (Kd.R_after (ok := (fun k_ => some k_ ≠ (.slice Ao43 x5_2.length co43 : Value).ownBlock)) (by (with_reducible repeat (first | apply Kd.R_alloc | apply Kd.R_drewN | apply Kd.R_drew)); exact HO_1.out) hg hat); have n1_ := Aside0.mk (Kd.R_after (ok := (fun k_ => some k_ ≠ (v189 : Value).ownBlock)) (by (with_reducible repeat (first | apply Kd.R_alloc | apply Kd.R_drewN | apply Kd.R_drew)); exact HO_5.out) hg hat); have n2_ := Aside0.mk (hb); have n3_ := Aside0.mk (ho); clear HO_1; clear HO_5; clear HB; clear HO208; have HO_1 := n0_; have HO_5 := n1_; have HB := n2_; have HO211 := n3_; clear n0_ n1_ n2_ n3_; clear ho hb hg hat; obtain ⟨Ao44, co44, eo44⟩ := Kd.R_slice HO211.out; subst eo44; have p212 : 0 ≤ (x7_2 : Int) := of_decide_eq_true (by first | (with_reducible assumption) | assumption); have q212 : x7_2 < (y209.length : Int) := of_decide_eq_true (by first | (with_reducible assumption) | assumption); obtain ⟨ad212, e212, hx212_0⟩ := Kd.at_int (Kd.R_reads' HO211.out).2.2 x7_2 p212 q212; cases e212; replace p212 := eq_true p212; replace q212 := eq_true q212; have p37 : 0 ≤ (x7_2 : Int) := of_decide_eq_true (by first | (with_reducible assumption) | assumption); have q37 : (x7_2 : Int) < ((y209.length : Int) : Int) := of_decide_eq_true (by first | (with_reducible assumption) | assumption); obtain ⟨go37, co37, eo37, gb37, gl37, cl37, HG37⟩ := Kd.R_form HO211.out (by omega); (first | cases eo37 | (injection eo37 with ea_ en_ ec_; (first | subst ea_ | (injection ea_ with ea_; subst ea_)); subst ec_; clear en_)); have GB37 := Aside0.mk gb37; have GG37 := Aside0.mk HG37; clear gb37 gl37 HG37; (first | simp only [add_plain] at hx212_0 | skip); obtain ⟨hx37_0, hf37_0⟩ := Kd.R_celln 0 HO211.out (x7_2 : Int) p37 q37; replace p37 := eq_true p37; replace q37 := eq_true q37; obtain ⟨hy45_, hz45_⟩ := Kd.R_celln 0 HO211.out (x7_2 : Int) (of_decide_eq_true (by first | (with_reducible assumption) | assumption)) (of_decide_eq_true (by first | (with_reducible assumption) | assumption)); have HP45 := Kd.R_putg HO211.out (x7_2 : Int) (Go.bits .xor .u8 (rd y209 x7_2) 1)) | ((with_reducible refine gate_store (t := 5) (p := 78) rfl ?_); refine store_event (t := 5) (p := 78) (v := ?vo_w46) (w1 := (w42.setCell ⟨go37, (x7_2 : Int).toNat, none⟩ (.int .u8 (Go.bits .xor .u8 (rd y209 x7_2) 1)))) ?hg ?ho ?hn ?hr ?_; (case ho => rfl); (case hg => rfl); (case hn => rfl); (case hr => first | (go_simp; done) | (go_simp; rfl)); intro w46 hw; have hg : w42.grownBy w46 (some go37) := (by rw [hw]; exact HP45.2); have hp_ : Kd.R (Kd.int .u8) 5 w46 w.heap.size (fun k_ => some k_ ≠ (v189 : Value).ownBlock ∧ some k_ ≠ (.slice Ao43 x5_2.length co43 : Value).ownBlock) (.slice (some ⟨go37, 0, none⟩) y209.length co44) y213 := (by rw [hw, Ny213.out]; exact HP45.1); clear HP45; have n0_ := Aside0.mk (Kd.R_after (v := (.slice (some ⟨go37, 0, none⟩) y209.length co44)) (v1 := (.slice (some ⟨go37, 0, none⟩) y209.length co44)) (ok := (fun k_ => some k_ ≠ (.slice Ao43 x5_2.length co43 : Value).ownBlock)) (by (with_reducible repeat (first | apply Kd.R_alloc | apply Kd.R_drewN | apply Kd.R_drew)); exact HO_1.out) hg (.inl rfl)); have n1_ := Aside0.mk (Kd.R_after (v := (.slice (some ⟨go37, 0, none⟩) y209.length co44)) (v1 := (.slice (some ⟨go37, 0, none⟩) y209.length co44)) (ok := (fun k_ => some k_ ≠ (v189 : Value).ownBlock)) (by (with_reducible repeat (first | apply Kd.R_alloc | apply Kd.R_drewN | apply Kd.R_drew)); exact HO_5.out) hg (.inl rfl)); have n2_ := Aside0.mk (hp_); have n3_ := Aside0.mk ((by rw [hw]; exact below_set (HB.out) GB37.out : Below w.heap.size w w46)); clear HO_1; clear HO_5; clear HO211; clear HB; have HO_1 := n0_; have HO_5 := n1_; have HO211 := n2_; have HB := n3_; clear n0_ n1_ n2_ n3_; clear hg hw hp_) | ((with_reducible refine gate_callee (f := 36) rfl ?_); refine goesL_ (some 81) rfl rfl Try.func36 (by kernel_rfl) rfl #[.slice (some ⟨go37, 0, none⟩) y213.length co44] rfl (by (try simp only [List.map_toArray, List.map_cons, List.map_nil]); first | done | (rw [show y213.length = y209.length from (Kd.R_reads' HO211.out).1.symm] <;> rfl) | rfl | (simp only [List.length_drop, List.length_take]; rfl)) ?_; (with_reducible refine (slot_Take.calls k2 _ _ y213 t214 t215 t216 _ ?side1 ?side2 A38.out).mono ?_); (case side1 => repeat (first | exact (Kd.R_reads' HO211.out).2.2 | (with_reducible refine Kd.C_alloc ?_ _) | (with_reducible refine Kd.C_drewN ?_ _) | (with_reducible refine Kd.C_drew ?_))); (case side2 => rw [show y213.length = y209.length from (Kd.R_reads' HO211.out).1.symm]; exact (Kd.R_reads' HO211.out).2.1); rintro e w47 ⟨v217, rfl, ho0, hb⟩; refine ⟨_, rfl, ?_⟩; have n0_ := Aside0.mk (Kd.R_elder' (by (with_reducible repeat (first | apply Kd.R_alloc | apply Kd.R_drewN | apply Kd.R_drew)); exact HO_1.out) (Kd.R_base ho0) hb); have n1_ := Aside0.mk (Kd.R_elder' (by (with_reducible repeat (first | apply Kd.R_alloc | apply Kd.R_drewN | apply Kd.R_drew)); exact HO_5.out) (Kd.R_base ho0) hb); have n2_ := Aside0.mk (Kd.R_elder' (by (with_reducible repeat (first | apply Kd.R_alloc | apply Kd.R_drewN | apply Kd.R_drew)); exact HO211.out) (Kd.R_base ho0) hb); have n3_ := Aside0.mk (Kd.R_lower (Kd.R_new' (Kd.R_new' (Kd.R_new' ho0 (Kd.R_lt (by (with_reducible repeat (first | apply Kd.R_alloc | apply Kd.R_drewN | apply Kd.R_drew)); exact HO_1.out))) (Kd.R_lt (by (with_reducible repeat (first | apply Kd.R_alloc | apply Kd.R_drewN | apply Kd.R_drew)); exact HO_5.out))) (Kd.R_lt (by (with_reducible repeat (first | apply Kd.R_alloc | apply Kd.R_drewN | apply Kd.R_drew)); exact HO211.out))) (below_size (by repeat (first | (with_reducible first | exact HB.out | apply below_alloc | apply pw_below_drewN | apply below_drew1) | exact HB.out)))); have n4_ := Aside0.mk (below_step (by repeat (first | (with_reducible first | exact HB.out | apply below_alloc | apply pw_below_drewN | apply below_drew1) | exact HB.out)) hb); clear HO_1; clear HO_5; clear HO211; clear HB; have HO_1 := n0_; have HO_5 := n1_; have HO211 := n2_; have HO218 := n3_; have HB := n4_; clear n0_ n1_ n2_ n3_ n4_; (try clear hb); (try clear hb2); (try clear hk); (try clear hi); (try clear ho0)))
                            go_roundg k2
                            case measure => have := HJ7.out; have := HK2.out; omega
                            case rel => exact ⟨(x1_2), (x5_2), (wrap64 (x7_2 + 1)), (by first | rfl | (simp; done) | (simp [*]; done)), H', ⟨by have := HJ7.out; have := HK2.out; omega⟩, ⟨by (with_reducible repeat (first | apply Kd.R_alloc | apply Kd.R_drewN | apply Kd.R_drew)); exact Kd.R_mono HO_1.out (fun _ hk => hk.1.1)⟩, ⟨by (with_reducible repeat (first | apply Kd.R_alloc | apply Kd.R_drewN | apply Kd.R_drew)); exact Kd.R_mono HO_5.out (fun _ hk => hk.1.1)⟩, ⟨by repeat (first | (with_reducible first | exact HB.out | apply below_alloc | apply pw_below_drewN | apply below_drew1) | exact HB.out)⟩⟩
                          · rw [if_neg c39] at H
                            exact absurd H (by simp)
                        · rw [if_neg c36] at H
                          exact absurd H (by simp)
                      · rw [if_neg c35] at H
                        exact absurd H (by simp)
                    · rw [if_neg c34] at H
                      exact absurd H (by simp)
                  · rw [if_neg c33] at H
                    have c33b0 : decide (x7_2 < 128) = false := decide_eq_false c33
                    clear c33
                    replace H := Option.bind_eq_some_iff.mp H
                    obtain ⟨⟨t219, t220, t221, t222⟩, A480, H⟩ := H
                    replace H : ((slot_Better.f k2 x1_2 x5_2).bind fun bt225 => ((slot_Better.f k2 ([] : List Int) x5_2).bind fun bt231 => (if t219 = 0 then (if t220 = 7 then (if (t221.length : Int) = 0 then (if t222 = 0 then (if bt225.1 = 0 then (if bt225.2.1 = 7 then (if (bt225.2.2.1.length : Int) = 113 then (if bt225.2.2.2 = 0 then (if bt231.1 = 1 then (if bt231.2.1 = 7 then (some (bt231.2.2.2 == 0)) else (none)) else (none)) else (none)) else (none)) else (none)) else (none)) else (none)) else (none)) else (none)) else (none)))) = some r := H
                    have A48 := Aside0.mk A480
                    clear A480
                    replace H := Option.bind_eq_some_iff.mp H
                    obtain ⟨⟨t225, t226, t227, t228⟩, A490, H⟩ := H
                    replace H : ((slot_Better.f k2 ([] : List Int) x5_2).bind fun bt231 => (if t219 = 0 then (if t220 = 7 then (if (t221.length : Int) = 0 then (if t222 = 0 then (if t225 = 0 then (if t226 = 7 then (if (t227.length : Int) = 113 then (if t228 = 0 then (if bt231.1 = 1 then (if bt231.2.1 = 7 then (some (bt231.2.2.2 == 0)) else (none)) else (none)) else (none)) else (none)) else (none)) else (none)) else (none)) else (none)) else (none)) else (none))) = some r := H
                    have A49 := Aside0.mk A490
                    clear A490
                    replace H := Option.bind_eq_some_iff.mp H
                    obtain ⟨⟨t231, t232, t233, t234⟩, A500, H⟩ := H
                    replace H : (if t219 = 0 then (if t220 = 7 then (if (t221.length : Int) = 0 then (if t222 = 0 then (if t225 = 0 then (if t226 = 7 then (if (t227.length : Int) = 113 then (if t228 = 0 then (if t231 = 1 then (if t232 = 7 then (some (t234 == 0)) else (none)) else (none)) else (none)) else (none)) else (none)) else (none)) else (none)) else (none)) else (none)) else (none)) = some r := H
                    have A50 := Aside0.mk A500
                    clear A500
                    by_cases c51 : t219 = 0
                    · rw [if_pos c51] at H
                      have c51b0 : (t219 == 0) = true := beq_iff_eq.mpr c51
                      have c51b1 : (t219 != 0) = false := bne_eq_false_iff_eq.mpr c51
                      clear c51
                      by_cases c52 : t220 = 7
                      · rw [if_pos c52] at H
                        have c52b0 : (t220 == 7) = true := beq_iff_eq.mpr c52
                        have c52b1 : (t220 != 7) = false := bne_eq_false_iff_eq.mpr c52
                        clear c52
                        by_cases c53 : (t221.length : Int) = 0
                        · rw [if_pos c53] at H
                          have c53b0 : ((t221.length : Int) == 0) = true := beq_iff_eq.mpr c53
                          have c53b1 : ((t221.length : Int) != 0) = false := bne_eq_false_iff_eq.mpr c53
                          clear c53
                          by_cases c54 : t222 = 0
                          · rw [if_pos c54] at H
                            have c54b0 : (t222 == 0) = true := beq_iff_eq.mpr c54
                            have c54b1 : (t222 != 0) = false := bne_eq_false_iff_eq.mpr c54
                            clear c54
                            by_cases c55 : t225 = 0
                            · rw [if_pos c55] at H
                              have c55b0 : (t225 == 0) = true := beq_iff_eq.mpr c55
                              have c55b1 : (t225 != 0) = false := bne_eq_false_iff_eq.mpr c55
                              clear c55
                              by_cases c56 : t226 = 7
                              · rw [if_pos c56] at H
                                have c56b0 : (t226 == 7) = true := beq_iff_eq.mpr c56
                                have c56b1 : (t226 != 7) = false := bne_eq_false_iff_eq.mpr c56
                                clear c56
                                by_cases c57 : (t227.length : Int) = 113
                                · rw [if_pos c57] at H
                                  have c57b0 : ((t227.length : Int) == 113) = true := beq_iff_eq.mpr c57
                                  have c57b1 : ((t227.length : Int) != 113) = false := bne_eq_false_iff_eq.mpr c57
                                  clear c57
                                  by_cases c58 : t228 = 0
                                  · rw [if_pos c58] at H
                                    have c58b0 : (t228 == 0) = true := beq_iff_eq.mpr c58
                                    have c58b1 : (t228 != 0) = false := bne_eq_false_iff_eq.mpr c58
                                    clear c58
                                    by_cases c59 : t231 = 1
                                    · rw [if_pos c59] at H
                                      have c59b0 : (t231 == 1) = true := beq_iff_eq.mpr c59
                                      have c59b1 : (t231 != 1) = false := bne_eq_false_iff_eq.mpr c59
                                      clear c59
                                      by_cases c60 : t232 = 7
                                      · rw [if_pos c60] at H
                                        have c60b0 : (t232 == 7) = true := beq_iff_eq.mpr c60
                                        have c60b1 : (t232 != 7) = false := bne_eq_false_iff_eq.mpr c60
                                        clear c60
                                        obtain rfl := Option.some.inj H
                                        obtain ⟨Ao61, co61, eo61⟩ := Kd.R_slice HO_5.out
                                        subst eo61
                                        obtain ⟨Ao62, co62, eo62⟩ := Kd.R_slice HO_1.out
                                        subst eo62
                                        go_wp2_with (first | ((with_reducible refine gate_callee (f := 38) rfl ?_); refine goesL_ (some 90) rfl rfl Try.func38 (by kernel_rfl) rfl #[.slice Ao61 x5_2.length co61, .slice Ao62 x1_2.length co62] rfl (by (try simp only [List.map_toArray, List.map_cons, List.map_nil]); first | done | rfl | (simp only [List.length_drop, List.length_take]; rfl)) ?_; (with_reducible refine (slot_Better.calls k2 _ _ x5_2 _ _ x1_2 t219 t220 t221 t222 _ ?side1 ?side2 ?side3 ?side4 A48.out).mono ?_); (case side1 => repeat (first | exact (Kd.R_reads' HO_5.out).2.2 | (with_reducible refine Kd.C_alloc ?_ _) | (with_reducible refine Kd.C_drewN ?_ _) | (with_reducible refine Kd.C_drew ?_))); (case side2 => exact (Kd.R_reads' HO_5.out).2.1); (case side3 => repeat (first | exact (Kd.R_reads' HO_1.out).2.2 | (with_reducible refine Kd.C_alloc ?_ _) | (with_reducible refine Kd.C_drewN ?_ _) | (with_reducible refine Kd.C_drew ?_))); (case side4 => exact (Kd.R_reads' HO_1.out).2.1); rintro e w63 ⟨v223, rfl, ho0, hb⟩; refine ⟨_, rfl, ?_⟩; have n0_ := Aside0.mk (Kd.R_elder' (by (with_reducible repeat (first | apply Kd.R_alloc | apply Kd.R_drewN | apply Kd.R_drew)); exact HO_1.out) (Kd.R_base ho0) hb); have n1_ := Aside0.mk (Kd.R_elder' (by (with_reducible repeat (first | apply Kd.R_alloc | apply Kd.R_drewN | apply Kd.R_drew)); exact HO_5.out) (Kd.R_base ho0) hb); have n2_ := Aside0.mk (Kd.R_lower (Kd.R_new' (Kd.R_new' ho0 (Kd.R_lt (by (with_reducible repeat (first | apply Kd.R_alloc | apply Kd.R_drewN | apply Kd.R_drew)); exact HO_1.out))) (Kd.R_lt (by (with_reducible repeat (first | apply Kd.R_alloc | apply Kd.R_drewN | apply Kd.R_drew)); exact HO_5.out))) (below_size (by repeat (first | (with_reducible first | exact HB.out | apply below_alloc | apply pw_below_drewN | apply below_drew1) | exact HB.out)))); have n3_ := Aside0.mk (below_step (by repeat (first | (with_reducible first | exact HB.out | apply below_alloc | apply pw_below_drewN | apply below_drew1) | exact HB.out)) hb); clear HO_1; clear HO_5; clear HB; have HO_1 := n0_; have HO_5 := n1_; have HO224 := n2_; have HB := n3_; clear n0_ n1_ n2_ n3_; (try clear hb); (try clear hb2); (try clear hk); (try clear hi); (try clear ho0)) | ((with_reducible refine gate_callee (f := 38) rfl ?_); refine goesL_ (some 98) rfl rfl Try.func38 (by kernel_rfl) rfl #[.slice Ao62 x1_2.length co62, .slice Ao61 x5_2.length co61] rfl (by (try simp only [List.map_toArray, List.map_cons, List.map_nil]); first | done | rfl | (simp only [List.length_drop, List.length_take]; rfl)) ?_; (with_reducible refine (slot_Better.calls k2 _ _ x1_2 _ _ x5_2 t225 t226 t227 t228 _ ?side1 ?side2 ?side3 ?side4 A49.out).mono ?_); (case side1 => repeat (first | exact (Kd.R_reads' HO_1.out).2.2 | (with_reducible refine Kd.C_alloc ?_ _) | (with_reducible refine Kd.C_drewN ?_ _) | (with_reducible refine Kd.C_drew ?_))); (case side2 => exact (Kd.R_reads' HO_1.out).2.1); (case side3 => repeat (first | exact (Kd.R_reads' HO_5.out).2.2 | (with_reducible refine Kd.C_alloc ?_ _) | (with_reducible refine Kd.C_drewN ?_ _) | (with_reducible refine Kd.C_drew ?_))); (case side4 => exact (Kd.R_reads' HO_5.out).2.1); rintro e w64 ⟨v229, rfl, ho0, hb⟩; refine ⟨_, rfl, ?_⟩; have n0_ := Aside0.mk (Kd.R_elder' (by (with_reducible repeat (first | apply Kd.R_alloc | apply Kd.R_drewN | apply Kd.R_drew)); exact HO_1.out) (Kd.R_base ho0) hb); have n1_ := Aside0.mk (Kd.R_elder' (by (with_reducible repeat (first | apply Kd.R_alloc | apply Kd.R_drewN | apply Kd.R_drew)); exact HO_5.out) (Kd.R_base ho0) hb); have n2_ := Aside0.mk (Kd.R_elder' (by (with_reducible repeat (first | apply Kd.R_alloc | apply Kd.R_drewN | apply Kd.R_drew)); exact HO224.out) (Kd.R_base ho0) hb); have n3_ := Aside0.mk (Kd.R_lower (Kd.R_new' (Kd.R_new' (Kd.R_new' ho0 (Kd.R_lt (by (with_reducible repeat (first | apply Kd.R_alloc | apply Kd.R_drewN | apply Kd.R_drew)); exact HO_1.out))) (Kd.R_lt (by (with_reducible repeat (first | apply Kd.R_alloc | apply Kd.R_drewN | apply Kd.R_drew)); exact HO_5.out))) (Kd.R_lt (by (with_reducible repeat (first | apply Kd.R_alloc | apply Kd.R_drewN | apply Kd.R_drew)); exact HO224.out))) (below_size (by repeat (first | (with_reducible first | exact HB.out | apply below_alloc | apply pw_below_drewN | apply below_drew1) | exact HB.out)))); have n4_ := Aside0.mk (below_step (by repeat (first | (with_reducible first | exact HB.out | apply below_alloc | apply pw_below_drewN | apply below_drew1) | exact HB.out)) hb); clear HO_1; clear HO_5; clear HO224; clear HB; have HO_1 := n0_; have HO_5 := n1_; have HO224 := n2_; have HO230 := n3_; have HB := n4_; clear n0_ n1_ n2_ n3_ n4_; (try clear hb); (try clear hb2); (try clear hk); (try clear hi); (try clear ho0)) | ((with_reducible refine gate_callee (f := 38) rfl ?_); refine goesL_ (some 105) rfl rfl Try.func38 (by kernel_rfl) rfl #[.slice none 0 0, .slice Ao61 x5_2.length co61] rfl (by (try simp only [List.map_toArray, List.map_cons, List.map_nil]); first | done | rfl | (simp only [List.length_drop, List.length_take]; rfl)) ?_; (refine (slot_Better.calls k2 _ _ ([] : List Int) _ _ x5_2 t231 t232 t233 t234 _ ?side1 ?side2 ?side3 ?side4 A50.out).mono ?_); (case side1 => exact Kd.C_nil _ _); (case side2 => exact Nat.le_refl _); (case side3 => repeat (first | exact (Kd.R_reads' HO_5.out).2.2 | (with_reducible refine Kd.C_alloc ?_ _) | (with_reducible refine Kd.C_drewN ?_ _) | (with_reducible refine Kd.C_drew ?_))); (case side4 => exact (Kd.R_reads' HO_5.out).2.1); rintro e w65 ⟨v235, rfl, ho0, hb⟩; refine ⟨_, rfl, ?_⟩; have n0_ := Aside0.mk (Kd.R_elder' (by (with_reducible repeat (first | apply Kd.R_alloc | apply Kd.R_drewN | apply Kd.R_drew)); exact HO_1.out) (Kd.R_base ho0) hb); have n1_ := Aside0.mk (Kd.R_elder' (by (with_reducible repeat (first | apply Kd.R_alloc | apply Kd.R_drewN | apply Kd.R_drew)); exact HO_5.out) (Kd.R_base ho0) hb); have n2_ := Aside0.mk (Kd.R_elder' (by (with_reducible repeat (first | apply Kd.R_alloc | apply Kd.R_drewN | apply Kd.R_drew)); exact HO224.out) (Kd.R_base ho0) hb); have n3_ := Aside0.mk (Kd.R_elder' (by (with_reducible repeat (first | apply Kd.R_alloc | apply Kd.R_drewN | apply Kd.R_drew)); exact HO230.out) (Kd.R_base ho0) hb); have n4_ := Aside0.mk (Kd.R_lower (Kd.R_new' (Kd.R_new' (Kd.R_new' (Kd.R_new' ho0 (Kd.R_lt (by (with_reducible repeat (first | apply Kd.R_alloc | apply Kd.R_drewN | apply Kd.R_drew)); exact HO_1.out))) (Kd.R_lt (by (with_reducible repeat (first | apply Kd.R_alloc | apply Kd.R_drewN | apply Kd.R_drew)); exact HO_5.out))) (Kd.R_lt (by (with_reducible repeat (first | apply Kd.R_alloc | apply Kd.R_drewN | apply Kd.R_drew)); exact HO224.out))) (Kd.R_lt (by (with_reducible repeat (first | apply Kd.R_alloc | apply Kd.R_drewN | apply Kd.R_drew)); exact HO230.out))) (below_size (by repeat (first | (with_reducible first | exact HB.out | apply below_alloc | apply pw_below_drewN | apply below_drew1) | exact HB.out)))); have n5_ := Aside0.mk (below_step (by repeat (first | (with_reducible first | exact HB.out | apply below_alloc | apply pw_below_drewN | apply below_drew1) | exact HB.out)) hb); clear HO_1; clear HO_5; clear HO224; clear HO230; clear HB; have HO_1 := n0_; have HO_5 := n1_; have HO224 := n2_; have HO230 := n3_; have HO236 := n4_; have HB := n5_; clear n0_ n1_ n2_ n3_ n4_ n5_; (try clear hb); (try clear hb2); (try clear hk); (try clear hi); (try clear ho0); obtain ⟨Ao66, co66, eo66⟩ := Kd.R_slice HO224.out; subst eo66; obtain ⟨Ao67, co67, eo67⟩ := Kd.R_slice HO230.out; subst eo67))
                                        go_ret
                                        exact ⟨by first | rfl | (simp [errW_none, errW_some] <;> rfl) | (simp [*, errW_none, errW_some] <;> rfl), by repeat (first | (with_reducible first | exact HB.out | apply below_alloc | apply pw_below_drewN | apply below_drew1) | exact HB.out)⟩
                                      · rw [if_neg c60] at H
                                        exact absurd H (by simp)
                                    · rw [if_neg c59] at H
                                      exact absurd H (by simp)
                                  · rw [if_neg c58] at H
                                    exact absurd H (by simp)
                                · rw [if_neg c57] at H
                                  exact absurd H (by simp)
                              · rw [if_neg c56] at H
                                exact absurd H (by simp)
                            · rw [if_neg c55] at H
                              exact absurd H (by simp)
                          · rw [if_neg c54] at H
                            exact absurd H (by simp)
                        · rw [if_neg c53] at H
                          exact absurd H (by simp)
                      · rw [if_neg c52] at H
                        exact absurd H (by simp)
                    · rw [if_neg c51] at H
                      exact absurd H (by simp)
      · rw [if_neg c5] at H
        exact absurd H (by simp)
    · rw [if_neg c3] at H
      exact absurd H (by simp)
  · replace c2 := Bool.eq_false_iff.mpr c2
    subst c2
    have H1 : (none) = some r := by rw [if_neg (show ¬ (false = true) by decide)] at H; exact H
    clear H
    have H := H1
    clear H1
    exact absurd H (by simp)

/-- THE ONE PURE STATEMENT of pandectlaw4_SlotForms: yours. -/
def pandectlaw4_SlotForms.Pure : Prop := ∃ k, pandectlaw4_SlotForms.f k  = some true
theorem pandectlaw4_SlotForms.walk (P : pandectlaw4_SlotForms.Pure)  (w : World)  :
    Calls Try.prog 15 #[] w fun e w' => e = .returned (.bool true) ∧ Below w.heap.size w w' := by
  obtain ⟨k, h⟩ := P  
  refine (pandectlaw4_SlotForms.calls k  true w h).mono ?_
  rintro e w' ⟨rfl, hd⟩
  exact ⟨rfl, hd⟩

end Go.Proofs.Ytffdonpkmnngpaa.PSlotForms
