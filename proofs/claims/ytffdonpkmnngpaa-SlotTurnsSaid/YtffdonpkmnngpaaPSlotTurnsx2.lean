/- Written by a program of this workplace. -/
import Derived.Test.YtffdonpkmnngpaaPSlotTurnsx0
import Derived.Test.YtffdonpkmnngpaaPSlotTurnsx1
namespace Go.Proofs.Ytffdonpkmnngpaa.PSlotTurns
open Go.RowKit Go.Proofs.YtffdonpkmnngpaaW.PrintWords Go.Proofs.YtffdonpkmnngpaaW.PrintLast Go.Proofs.YtffdonpkmnngpaaW.PrintMore
attribute [local go_sem] max2_int min2_int max_two min_two max_three min_three max_four min_four   -- for this text's walks alone
set_option linter.unusedVariables false
set_option linter.unusedSimpArgs false

/-! ### pandectlaw4_begun: function 33 -/
def pandectlaw4_begun.f (k : Nat)  : Option (Bool) := (slot_Put.f k 5 ([120] : List Int)).bind fun bt137 => ((slot_Put.f k 6 ([121] : List Int)).bind fun bt141 => ((slot_Better.f k bt137.1 bt141.1).bind fun bt145 => (if 128 ≤ 281474976710656 then ((slot_Better.f k (List.replicate 128 0) ([] : List Int)).bind fun bt154 => ((slot_Take.f k ([] : List Int)).bind fun bt160 => (if bt137.2 = 0 then (if (bt137.1.length : Int) = 128 then (if bt141.2 = 0 then (if bt145.1 = 1 then (if bt145.2.1 = 6 then (if (strOfNums bt145.2.2.1).toList = ([121] : List UInt8) then (if bt145.2.2.2 = 0 then (if bt154.2.2.2 = 2 then (some (bt160.2.2 == 2)) else (none)) else (none)) else (none)) else (none)) else (none)) else (none)) else (none)) else (none)))) else (none))))
theorem pandectlaw4_begun.mono : ∀ k, LeO (pandectlaw4_begun.f k ) (pandectlaw4_begun.f (k + 1) ) := by
  intro  k
  unfold pandectlaw4_begun.f
  repeat' first
      | (with_reducible exact slot_Better.mono _ _ _)
      | (with_reducible exact slot_Put.mono _ _ _)
      | (with_reducible exact slot_Take.mono _ _)
      | (with_reducible exact LeO.refl _)
      | (with_reducible exact LeO.none _)
      | (with_reducible refine LeO.ite ?_ ?_)
      | (with_reducible refine LeO.bind ?_ (fun _ => ?_))
      | exact slot_Better.mono _ _ _
      | exact slot_Put.mono _ _ _
      | exact slot_Take.mono _ _
      | exact LeO.none _
      | refine LeO.ite ?_ ?_
      | refine LeO.bind ?_ (fun _ => ?_)
set_option maxHeartbeats 8000000 in
set_option maxRecDepth 100000 in
theorem pandectlaw4_begun.calls (k : Nat)  (r : Bool) (w : World) (h : pandectlaw4_begun.f k  = some r) :
    Calls Try.prog 33 #[] w fun e w' => e = .returned (.bool r) ∧ Below w.heap.size w w' := by
  have HB := Aside0.mk (Below.refl w.heap.size w)
  have H : ((slot_Put.f k 5 ([120] : List Int)).bind fun bt137 => ((slot_Put.f k 6 ([121] : List Int)).bind fun bt141 => ((slot_Better.f k bt137.1 bt141.1).bind fun bt145 => (if 128 ≤ 281474976710656 then ((slot_Better.f k (List.replicate 128 0) ([] : List Int)).bind fun bt154 => ((slot_Take.f k ([] : List Int)).bind fun bt160 => (if bt137.2 = 0 then (if (bt137.1.length : Int) = 128 then (if bt141.2 = 0 then (if bt145.1 = 1 then (if bt145.2.1 = 6 then (if (strOfNums bt145.2.2.1).toList = ([121] : List UInt8) then (if bt145.2.2.2 = 0 then (if bt154.2.2.2 = 2 then (some (bt160.2.2 == 2)) else (none)) else (none)) else (none)) else (none)) else (none)) else (none)) else (none)) else (none)))) else (none))))) = some r := h
  clear h
  replace H := Option.bind_eq_some_iff.mp H
  obtain ⟨⟨t137, t138⟩, A10, H⟩ := H
  replace H : ((slot_Put.f k 6 ([121] : List Int)).bind fun bt141 => ((slot_Better.f k t137 bt141.1).bind fun bt145 => (if 128 ≤ 281474976710656 then ((slot_Better.f k (List.replicate 128 0) ([] : List Int)).bind fun bt154 => ((slot_Take.f k ([] : List Int)).bind fun bt160 => (if t138 = 0 then (if (t137.length : Int) = 128 then (if bt141.2 = 0 then (if bt145.1 = 1 then (if bt145.2.1 = 6 then (if (strOfNums bt145.2.2.1).toList = ([121] : List UInt8) then (if bt145.2.2.2 = 0 then (if bt154.2.2.2 = 2 then (some (bt160.2.2 == 2)) else (none)) else (none)) else (none)) else (none)) else (none)) else (none)) else (none)) else (none)))) else (none)))) = some r := H
  have A1 := Aside0.mk A10
  clear A10
  replace H := Option.bind_eq_some_iff.mp H
  obtain ⟨⟨t141, t142⟩, A20, H⟩ := H
  replace H : ((slot_Better.f k t137 t141).bind fun bt145 => (if 128 ≤ 281474976710656 then ((slot_Better.f k (List.replicate 128 0) ([] : List Int)).bind fun bt154 => ((slot_Take.f k ([] : List Int)).bind fun bt160 => (if t138 = 0 then (if (t137.length : Int) = 128 then (if t142 = 0 then (if bt145.1 = 1 then (if bt145.2.1 = 6 then (if (strOfNums bt145.2.2.1).toList = ([121] : List UInt8) then (if bt145.2.2.2 = 0 then (if bt154.2.2.2 = 2 then (some (bt160.2.2 == 2)) else (none)) else (none)) else (none)) else (none)) else (none)) else (none)) else (none)) else (none)))) else (none))) = some r := H
  have A2 := Aside0.mk A20
  clear A20
  replace H := Option.bind_eq_some_iff.mp H
  obtain ⟨⟨t145, t146, t147, t148⟩, A30, H⟩ := H
  replace H : (if 128 ≤ 281474976710656 then ((slot_Better.f k (List.replicate 128 0) ([] : List Int)).bind fun bt154 => ((slot_Take.f k ([] : List Int)).bind fun bt160 => (if t138 = 0 then (if (t137.length : Int) = 128 then (if t142 = 0 then (if t145 = 1 then (if t146 = 6 then (if (strOfNums t147).toList = ([121] : List UInt8) then (if t148 = 0 then (if bt154.2.2.2 = 2 then (some (bt160.2.2 == 2)) else (none)) else (none)) else (none)) else (none)) else (none)) else (none)) else (none)) else (none)))) else (none)) = some r := H
  have A3 := Aside0.mk A30
  clear A30
  by_cases c4 : 128 ≤ 281474976710656
  · rw [if_pos c4] at H
    have c4b0 := eq_true c4
    have c4b1 : decide (128 ≤ 281474976710656) = true := decide_eq_true c4
    clear c4
    obtain ⟨y151, hy151⟩ : ∃ y_ : List Int, y_ = (List.replicate 128 0) := ⟨_, rfl⟩
    replace H : ((slot_Better.f k y151 ([] : List Int)).bind fun bt154 => ((slot_Take.f k ([] : List Int)).bind fun bt160 => (if t138 = 0 then (if (t137.length : Int) = 128 then (if t142 = 0 then (if t145 = 1 then (if t146 = 6 then (if (strOfNums t147).toList = ([121] : List UInt8) then (if t148 = 0 then (if bt154.2.2.2 = 2 then (some (bt160.2.2 == 2)) else (none)) else (none)) else (none)) else (none)) else (none)) else (none)) else (none)) else (none)))) = some r := by first | (rw [hy151]; with_reducible exact H) | (have H2_ := (Option.bind_some _ _).symm.trans H; rw [hy151]; with_reducible exact H2_) | (have H2_ := (Option.bind_some _ _).symm.trans H; with_reducible exact H2_) | with_reducible exact H | (rw [hy151]; exact H) | exact H
    have Ny151 := Aside0.mk hy151
    clear hy151
    replace H := Option.bind_eq_some_iff.mp H
    obtain ⟨⟨t154, t155, t156, t157⟩, A50, H⟩ := H
    replace H : ((slot_Take.f k ([] : List Int)).bind fun bt160 => (if t138 = 0 then (if (t137.length : Int) = 128 then (if t142 = 0 then (if t145 = 1 then (if t146 = 6 then (if (strOfNums t147).toList = ([121] : List UInt8) then (if t148 = 0 then (if t157 = 2 then (some (bt160.2.2 == 2)) else (none)) else (none)) else (none)) else (none)) else (none)) else (none)) else (none)) else (none))) = some r := H
    have A5 := Aside0.mk A50
    clear A50
    replace H := Option.bind_eq_some_iff.mp H
    obtain ⟨⟨t160, t161, t162⟩, A60, H⟩ := H
    replace H : (if t138 = 0 then (if (t137.length : Int) = 128 then (if t142 = 0 then (if t145 = 1 then (if t146 = 6 then (if (strOfNums t147).toList = ([121] : List UInt8) then (if t148 = 0 then (if t157 = 2 then (some (t162 == 2)) else (none)) else (none)) else (none)) else (none)) else (none)) else (none)) else (none)) else (none)) = some r := H
    have A6 := Aside0.mk A60
    clear A60
    by_cases c7 : t138 = 0
    · rw [if_pos c7] at H
      have c7b0 : (t138 == 0) = true := beq_iff_eq.mpr c7
      have c7b1 : (t138 != 0) = false := bne_eq_false_iff_eq.mpr c7
      clear c7
      by_cases c8 : (t137.length : Int) = 128
      · rw [if_pos c8] at H
        have c8b0 : ((t137.length : Int) == 128) = true := beq_iff_eq.mpr c8
        have c8b1 : ((t137.length : Int) != 128) = false := bne_eq_false_iff_eq.mpr c8
        clear c8
        by_cases c9 : t142 = 0
        · rw [if_pos c9] at H
          have c9b0 : (t142 == 0) = true := beq_iff_eq.mpr c9
          have c9b1 : (t142 != 0) = false := bne_eq_false_iff_eq.mpr c9
          clear c9
          by_cases c10 : t145 = 1
          · rw [if_pos c10] at H
            have c10b0 : (t145 == 1) = true := beq_iff_eq.mpr c10
            have c10b1 : (t145 != 1) = false := bne_eq_false_iff_eq.mpr c10
            clear c10
            by_cases c11 : t146 = 6
            · rw [if_pos c11] at H
              have c11b0 : (t146 == 6) = true := beq_iff_eq.mpr c11
              have c11b1 : (t146 != 6) = false := bne_eq_false_iff_eq.mpr c11
              clear c11
              by_cases c12 : (strOfNums t147).toList = ([121] : List UInt8)
              · rw [if_pos c12] at H
                have c12b0 : ((strOfNums t147).toList == ([121] : List UInt8)) = true := beq_iff_eq.mpr c12
                have c12b1 : ((strOfNums t147).toList != ([121] : List UInt8)) = false := bne_eq_false_iff_eq.mpr c12
                clear c12
                by_cases c13 : t148 = 0
                · rw [if_pos c13] at H
                  have c13b0 : (t148 == 0) = true := beq_iff_eq.mpr c13
                  have c13b1 : (t148 != 0) = false := bne_eq_false_iff_eq.mpr c13
                  clear c13
                  by_cases c14 : t157 = 2
                  · rw [if_pos c14] at H
                    have c14b0 : (t157 == 2) = true := beq_iff_eq.mpr c14
                    have c14b1 : (t157 != 2) = false := bne_eq_false_iff_eq.mpr c14
                    clear c14
                    obtain rfl := Option.some.inj H
                    have KA1 := fun (A1_ : Option Addr) (C1_ : Nat) (W_ : World) h0_ h1_ => slot_Put.calls k 5 A1_ C1_ ([120] : List Int) t137 t138 W_ h0_ h1_ A1.out
                    simp only [List.length_cons, List.length_nil, Nat.zero_add, Nat.reduceAdd] at KA1
                    replace KA1 := Aside0.mk KA1
                    go_enter Try.func33, Try.ntmps33
                    go_wp2_with (first | ((with_reducible refine gate_dst (N := 18) rfl ?_); (try (refine gate_guard (by rfl) ?_; dsimp only)); (try (refine gate_guard (by rfl) ?_; dsimp only)); refine Go.Proofs.Ytffdonpkmnngpaa.Own.step_mark rfl _ 22 5 _ _ _ _ _ rfl rfl rfl ?hg Try.underlying22 Try.underlying5 ?_; (case hg => first | rfl | (go_simp; done) | (simp; done))) | (go_at_call 34; (with_reducible refine (KA1.out _ _ _ ?side1 ?side2).mono ?_); (case side1 => repeat (first | exact Go.Proofs.Ytffdonpkmnngpaa.Own.C_mark _ _ _ (by first | rfl | simp) (by decide) _ _ _ _ rfl rfl | (with_reducible refine Kd.C_alloc ?_ _) | (with_reducible refine Kd.C_drewN ?_ _) | (with_reducible refine Kd.C_drew ?_))); (case side2 => exact Nat.le_refl _); rintro e w15 ⟨v139, rfl, ho0, hb⟩; have n0_ := Aside0.mk (Kd.R_lower ho0 (below_size (by repeat (first | (with_reducible first | exact HB.out | apply below_alloc | apply pw_below_drewN | apply below_drew1) | exact HB.out)))); have n1_ := Aside0.mk (below_step (by repeat (first | (with_reducible first | exact HB.out | apply below_alloc | apply pw_below_drewN | apply below_drew1) | exact HB.out)) hb); clear HB; have HO140 := n0_; have HB := n1_; clear n0_ n1_; (try clear hb); (try clear hb2); (try clear hk); (try clear hi); (try clear ho0); have KA2 := fun (A1_ : Option Addr) (C1_ : Nat) (W_ : World) h0_ h1_ => slot_Put.calls k 6 A1_ C1_ ([121] : List Int) t141 t142 W_ h0_ h1_ A2.out; simp only [List.length_cons, List.length_nil, Nat.zero_add, Nat.reduceAdd] at KA2; replace KA2 := Aside0.mk KA2) | ((with_reducible refine gate_dst (N := 24) rfl ?_); (try (refine gate_guard (by rfl) ?_; dsimp only)); (try (refine gate_guard (by rfl) ?_; dsimp only)); refine Go.Proofs.Ytffdonpkmnngpaa.Own.step_mark rfl _ 22 5 _ _ _ _ _ rfl rfl rfl ?hg Try.underlying22 Try.underlying5 ?_; (case hg => first | rfl | (go_simp; done) | (simp; done))) | (go_at_call 34; (with_reducible refine (KA2.out _ _ _ ?side1 ?side2).mono ?_); (case side1 => repeat (first | exact Go.Proofs.Ytffdonpkmnngpaa.Own.C_mark _ _ _ (by first | rfl | simp) (by decide) _ _ _ _ rfl rfl | (with_reducible refine Kd.C_alloc ?_ _) | (with_reducible refine Kd.C_drewN ?_ _) | (with_reducible refine Kd.C_drew ?_))); (case side2 => exact Nat.le_refl _); rintro e w16 ⟨v143, rfl, ho0, hb⟩; have n0_ := Aside0.mk (Kd.R_elder' (by (with_reducible repeat (first | apply Kd.R_alloc | apply Kd.R_drewN | apply Kd.R_drew)); exact HO140.out) (Kd.R_base ho0) hb); have n1_ := Aside0.mk (Kd.R_lower (Kd.R_new' ho0 (Kd.R_lt (by (with_reducible repeat (first | apply Kd.R_alloc | apply Kd.R_drewN | apply Kd.R_drew)); exact HO140.out))) (below_size (by repeat (first | (with_reducible first | exact HB.out | apply below_alloc | apply pw_below_drewN | apply below_drew1) | exact HB.out)))); have n2_ := Aside0.mk (below_step (by repeat (first | (with_reducible first | exact HB.out | apply below_alloc | apply pw_below_drewN | apply below_drew1) | exact HB.out)) hb); clear HO140; clear HB; have HO140 := n0_; have HO144 := n1_; have HB := n2_; clear n0_ n1_ n2_; (try clear hb); (try clear hb2); (try clear hk); (try clear hi); (try clear ho0); obtain ⟨Ao17, co17, eo17⟩ := Kd.R_slice HO140.out; subst eo17; obtain ⟨Ao18, co18, eo18⟩ := Kd.R_slice HO144.out; subst eo18) | ((with_reducible refine gate_callee (f := 38) rfl ?_); refine goesL_ (some 31) rfl rfl Try.func38 (by kernel_rfl) rfl #[.slice Ao17 t137.length co17, .slice Ao18 t141.length co18] rfl (by (try simp only [List.map_toArray, List.map_cons, List.map_nil]); first | done | rfl | (simp only [List.length_drop, List.length_take]; rfl)) ?_; (with_reducible refine (slot_Better.calls k _ _ t137 _ _ t141 t145 t146 t147 t148 _ ?side1 ?side2 ?side3 ?side4 A3.out).mono ?_); (case side1 => repeat (first | exact (Kd.R_reads' HO140.out).2.2 | (with_reducible refine Kd.C_alloc ?_ _) | (with_reducible refine Kd.C_drewN ?_ _) | (with_reducible refine Kd.C_drew ?_))); (case side2 => exact (Kd.R_reads' HO140.out).2.1); (case side3 => repeat (first | exact (Kd.R_reads' HO144.out).2.2 | (with_reducible refine Kd.C_alloc ?_ _) | (with_reducible refine Kd.C_drewN ?_ _) | (with_reducible refine Kd.C_drew ?_))); (case side4 => exact (Kd.R_reads' HO144.out).2.1); rintro e w19 ⟨v149, rfl, ho0, hb⟩; refine ⟨_, rfl, ?_⟩; have n0_ := Aside0.mk (Kd.R_elder' (by (with_reducible repeat (first | apply Kd.R_alloc | apply Kd.R_drewN | apply Kd.R_drew)); exact HO140.out) (Kd.R_base ho0) hb); have n1_ := Aside0.mk (Kd.R_elder' (by (with_reducible repeat (first | apply Kd.R_alloc | apply Kd.R_drewN | apply Kd.R_drew)); exact HO144.out) (Kd.R_base ho0) hb); have n2_ := Aside0.mk (Kd.R_lower (Kd.R_new' (Kd.R_new' ho0 (Kd.R_lt (by (with_reducible repeat (first | apply Kd.R_alloc | apply Kd.R_drewN | apply Kd.R_drew)); exact HO140.out))) (Kd.R_lt (by (with_reducible repeat (first | apply Kd.R_alloc | apply Kd.R_drewN | apply Kd.R_drew)); exact HO144.out))) (below_size (by repeat (first | (with_reducible first | exact HB.out | apply below_alloc | apply pw_below_drewN | apply below_drew1) | exact HB.out)))); have n3_ := Aside0.mk (below_step (by repeat (first | (with_reducible first | exact HB.out | apply below_alloc | apply pw_below_drewN | apply below_drew1) | exact HB.out)) hb); clear HO140; clear HO144; clear HB; have HO140 := n0_; have HO144 := n1_; have HO150 := n2_; have HB := n3_; clear n0_ n1_ n2_ n3_; (try clear hb); (try clear hb2); (try clear hk); (try clear hi); (try clear ho0)) | ((with_reducible refine gate_dst (N := 37) rfl ?_); (try (refine gate_guard (by rfl) ?_; dsimp only)); refine Kd.R_make (Kd.int .u8) _ 5 rfl (N := 37) rfl 22 _ _ rfl 128 rfl rfl Try.underlying22 (.int .u8 0) 1 info5 rfl (by decide) (by omega) 0 (ok := fun _ => True) (okp := fun _ => True) rfl (fun _ hk => hk) trivial (by omega) (by omega) (Below.refl _ _) (Nat.le_refl _) ?_; intro v152 w20 ho21 hb hg_ hnew_; clear hg_ hnew_; (first | rw [← Ny151.out] at ho21 | (simp only [Int.reduceToNat] at ho21; rw [← Ny151.out] at ho21)); have n0_ := Aside0.mk (Kd.R_elder' (by (with_reducible repeat (first | apply Kd.R_alloc | apply Kd.R_drewN | apply Kd.R_drew)); exact HO140.out) (Kd.R_base ho21) hb); have n1_ := Aside0.mk (Kd.R_elder' (by (with_reducible repeat (first | apply Kd.R_alloc | apply Kd.R_drewN | apply Kd.R_drew)); exact HO144.out) (Kd.R_base ho21) hb); have n2_ := Aside0.mk (Kd.R_elder' (by (with_reducible repeat (first | apply Kd.R_alloc | apply Kd.R_drewN | apply Kd.R_drew)); exact HO150.out) (Kd.R_base ho21) hb); have n3_ := Aside0.mk (Kd.R_lower (Kd.R_new' (Kd.R_new' (Kd.R_new' ho21 (Kd.R_lt (by (with_reducible repeat (first | apply Kd.R_alloc | apply Kd.R_drewN | apply Kd.R_drew)); exact HO140.out))) (Kd.R_lt (by (with_reducible repeat (first | apply Kd.R_alloc | apply Kd.R_drewN | apply Kd.R_drew)); exact HO144.out))) (Kd.R_lt (by (with_reducible repeat (first | apply Kd.R_alloc | apply Kd.R_drewN | apply Kd.R_drew)); exact HO150.out))) (below_size (by repeat (first | (with_reducible first | exact HB.out | apply below_alloc | apply pw_below_drewN | apply below_drew1) | exact HB.out)))); have n4_ := Aside0.mk (below_step (by repeat (first | (with_reducible first | exact HB.out | apply below_alloc | apply pw_below_drewN | apply below_drew1) | exact HB.out)) hb); clear HO140; clear HO144; clear HO150; clear HB; have HO140 := n0_; have HO144 := n1_; have HO150 := n2_; have HO153 := n3_; have HB := n4_; clear n0_ n1_ n2_ n3_ n4_; clear hb ho21; obtain ⟨Ao22, co22, eo22⟩ := Kd.R_slice HO153.out; subst eo22) | ((with_reducible refine gate_callee (f := 38) rfl ?_); refine goesL_ (some 38) rfl rfl Try.func38 (by kernel_rfl) rfl #[.slice Ao22 y151.length co22, .slice none 0 0] rfl (by (try simp only [List.map_toArray, List.map_cons, List.map_nil]); first | done | rfl | (simp only [List.length_drop, List.length_take]; rfl)) ?_; (refine (slot_Better.calls k _ _ y151 _ _ ([] : List Int) t154 t155 t156 t157 _ ?side1 ?side2 ?side3 ?side4 A5.out).mono ?_); (case side1 => repeat (first | exact (Kd.R_reads' HO153.out).2.2 | (with_reducible refine Kd.C_alloc ?_ _) | (with_reducible refine Kd.C_drewN ?_ _) | (with_reducible refine Kd.C_drew ?_))); (case side2 => exact (Kd.R_reads' HO153.out).2.1); (case side3 => exact Kd.C_nil _ _); (case side4 => exact Nat.le_refl _); rintro e w23 ⟨v158, rfl, ho0, hb⟩; refine ⟨_, rfl, ?_⟩; have n0_ := Aside0.mk (Kd.R_elder' (by (with_reducible repeat (first | apply Kd.R_alloc | apply Kd.R_drewN | apply Kd.R_drew)); exact HO140.out) (Kd.R_base ho0) hb); have n1_ := Aside0.mk (Kd.R_elder' (by (with_reducible repeat (first | apply Kd.R_alloc | apply Kd.R_drewN | apply Kd.R_drew)); exact HO144.out) (Kd.R_base ho0) hb); have n2_ := Aside0.mk (Kd.R_elder' (by (with_reducible repeat (first | apply Kd.R_alloc | apply Kd.R_drewN | apply Kd.R_drew)); exact HO150.out) (Kd.R_base ho0) hb); have n3_ := Aside0.mk (Kd.R_elder' (by (with_reducible repeat (first | apply Kd.R_alloc | apply Kd.R_drewN | apply Kd.R_drew)); exact HO153.out) (Kd.R_base ho0) hb); have n4_ := Aside0.mk (Kd.R_lower (Kd.R_new' (Kd.R_new' (Kd.R_new' (Kd.R_new' ho0 (Kd.R_lt (by (with_reducible repeat (first | apply Kd.R_alloc | apply Kd.R_drewN | apply Kd.R_drew)); exact HO140.out))) (Kd.R_lt (by (with_reducible repeat (first | apply Kd.R_alloc | apply Kd.R_drewN | apply Kd.R_drew)); exact HO144.out))) (Kd.R_lt (by (with_reducible repeat (first | apply Kd.R_alloc | apply Kd.R_drewN | apply Kd.R_drew)); exact HO150.out))) (Kd.R_lt (by (with_reducible repeat (first | apply Kd.R_alloc | apply Kd.R_drewN | apply Kd.R_drew)); exact HO153.out))) (below_size (by repeat (first | (with_reducible first | exact HB.out | apply below_alloc | apply pw_below_drewN | apply below_drew1) | exact HB.out)))); have n5_ := Aside0.mk (below_step (by repeat (first | (with_reducible first | exact HB.out | apply below_alloc | apply pw_below_drewN | apply below_drew1) | exact HB.out)) hb); clear HO140; clear HO144; clear HO150; clear HO153; clear HB; have HO140 := n0_; have HO144 := n1_; have HO150 := n2_; have HO153 := n3_; have HO159 := n4_; have HB := n5_; clear n0_ n1_ n2_ n3_ n4_ n5_; (try clear hb); (try clear hb2); (try clear hk); (try clear hi); (try clear ho0)) | ((with_reducible refine gate_callee (f := 36) rfl ?_); refine goesL_ (some 44) rfl rfl Try.func36 (by kernel_rfl) rfl #[.slice none 0 0] rfl (by (try simp only [List.map_toArray, List.map_cons, List.map_nil]); first | done | rfl | (simp only [List.length_drop, List.length_take]; rfl)) ?_; (refine (slot_Take.calls k _ _ ([] : List Int) t160 t161 t162 _ ?side1 ?side2 A6.out).mono ?_); (case side1 => exact Kd.C_nil _ _); (case side2 => exact Nat.le_refl _); rintro e w24 ⟨v163, rfl, ho0, hb⟩; refine ⟨_, rfl, ?_⟩; have n0_ := Aside0.mk (Kd.R_elder' (by (with_reducible repeat (first | apply Kd.R_alloc | apply Kd.R_drewN | apply Kd.R_drew)); exact HO140.out) (Kd.R_base ho0) hb); have n1_ := Aside0.mk (Kd.R_elder' (by (with_reducible repeat (first | apply Kd.R_alloc | apply Kd.R_drewN | apply Kd.R_drew)); exact HO144.out) (Kd.R_base ho0) hb); have n2_ := Aside0.mk (Kd.R_elder' (by (with_reducible repeat (first | apply Kd.R_alloc | apply Kd.R_drewN | apply Kd.R_drew)); exact HO150.out) (Kd.R_base ho0) hb); have n3_ := Aside0.mk (Kd.R_elder' (by (with_reducible repeat (first | apply Kd.R_alloc | apply Kd.R_drewN | apply Kd.R_drew)); exact HO153.out) (Kd.R_base ho0) hb); have n4_ := Aside0.mk (Kd.R_elder' (by (with_reducible repeat (first | apply Kd.R_alloc | apply Kd.R_drewN | apply Kd.R_drew)); exact HO159.out) (Kd.R_base ho0) hb); have n5_ := Aside0.mk (Kd.R_lower (Kd.R_new' (Kd.R_new' (Kd.R_new' (Kd.R_new' (Kd.R_new' ho0 (Kd.R_lt (by (with_reducible repeat (first | apply Kd.R_alloc | apply Kd.R_drewN | apply Kd.R_drew)); exact HO140.out))) (Kd.R_lt (by (with_reducible repeat (first | apply Kd.R_alloc | apply Kd.R_drewN | apply Kd.R_drew)); exact HO144.out))) (Kd.R_lt (by (with_reducible repeat (first | apply Kd.R_alloc | apply Kd.R_drewN | apply Kd.R_drew)); exact HO150.out))) (Kd.R_lt (by (with_reducible repeat (first | apply Kd.R_alloc | apply Kd.R_drewN | apply Kd.R_drew)); exact HO153.out))) (Kd.R_lt (by (with_reducible repeat (first | apply Kd.R_alloc | apply Kd.R_drewN | apply Kd.R_drew)); exact HO159.out))) (below_size (by repeat (first | (with_reducible first | exact HB.out | apply below_alloc | apply pw_below_drewN | apply below_drew1) | exact HB.out)))); have n6_ := Aside0.mk (below_step (by repeat (first | (with_reducible first | exact HB.out | apply below_alloc | apply pw_below_drewN | apply below_drew1) | exact HB.out)) hb); clear HO140; clear HO144; clear HO150; clear HO153; clear HO159; clear HB; have HO140 := n0_; have HO144 := n1_; have HO150 := n2_; have HO153 := n3_; have HO159 := n4_; have HO164 := n5_; have HB := n6_; clear n0_ n1_ n2_ n3_ n4_ n5_ n6_; (try clear hb); (try clear hb2); (try clear hk); (try clear hi); (try clear ho0); have hcv25 := own_string (P := Try.prog) Try.underlying22 Try.underlying5 Try.underlying9 (Kd.own_of_R HO150.out); have hcv26 := fun nd_ : Nat => own_string (P := Try.prog) Try.underlying22 Try.underlying5 Try.underlying9 (Kd.own_of_R (Kd.R_drewN HO150.out nd_))))
                    go_ret
                    exact ⟨by first | rfl | (simp [errW_none, errW_some] <;> rfl) | (simp [*, errW_none, errW_some] <;> rfl), by repeat (first | (with_reducible first | exact HB.out | apply below_alloc | apply pw_below_drewN | apply below_drew1) | exact HB.out)⟩
                  · rw [if_neg c14] at H
                    exact absurd H (by simp)
                · rw [if_neg c13] at H
                  exact absurd H (by simp)
              · rw [if_neg c12] at H
                exact absurd H (by simp)
            · rw [if_neg c11] at H
              exact absurd H (by simp)
          · rw [if_neg c10] at H
            exact absurd H (by simp)
        · rw [if_neg c9] at H
          exact absurd H (by simp)
      · rw [if_neg c8] at H
        exact absurd H (by simp)
    · rw [if_neg c7] at H
      exact absurd H (by simp)
  · rw [if_neg c4] at H
    exact absurd H (by simp)

end Go.Proofs.Ytffdonpkmnngpaa.PSlotTurns
