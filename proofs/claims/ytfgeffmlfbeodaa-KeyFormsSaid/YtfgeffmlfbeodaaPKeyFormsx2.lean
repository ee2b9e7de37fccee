/- Written by a program of this workplace. -/
import Derived.Test.YtfgeffmlfbeodaaPKeyFormsx0
import Derived.Test.YtfgeffmlfbeodaaPKeyFormsx1
namespace Go.Proofs.Ytfgeffmlfbeodaa.PKeyForms
open Go.RowKit Go.Proofs.YtfgeffmlfbeodaaW.PrintWords Go.Proofs.YtfgeffmlfbeodaaW.PrintLast Go.Proofs.YtfgeffmlfbeodaaW.PrintMore
attribute [local go_sem] max2_int min2_int max_two min_two max_three min_three max_four min_four   -- for this text's walks alone
set_option linter.unusedVariables false
set_option linter.unusedSimpArgs false

/-! ### key_After: function 66 -/
def key_After.l0 : Nat → List Int → Option (List Int)
  | 0, _ => none
  | k + 1, x3 => if (x3.length : Int) > 0 then (if 0 ≤ (wrap64 ((x3.length : Int) - 1)) then (if (wrap64 ((x3.length : Int) - 1)) < (x3.length : Int) then (if (rd x3 (wrap64 ((x3.length : Int) - 1))) = 255 then (if (wrap64 ((x3.length : Int) - 1)) ≤ (x3.length : Int) then (key_After.l0 k (x3.take ((wrap64 ((x3.length : Int) - 1)) : Int).toNat)) else (none)) else (if (x3.length : Int) = 0 then (some ([] : List Int)) else (some (x3.set ((wrap64 ((x3.length : Int) - 1)) : Int).toNat (((rd x3 (wrap64 ((x3.length : Int) - 1))) + 1) % 256))))) else (none)) else (none)) else (if (x3.length : Int) = 0 then (some ([] : List Int)) else (if 0 ≤ (wrap64 ((x3.length : Int) - 1)) then (if (wrap64 ((x3.length : Int) - 1)) < (x3.length : Int) then (some (x3.set ((wrap64 ((x3.length : Int) - 1)) : Int).toNat (((rd x3 (wrap64 ((x3.length : Int) - 1))) + 1) % 256))) else (none)) else (none)))
def key_After.f (k : Nat) (l0 : List Int) : Option (List Int) := (slices_Clone_byte_byte.f l0).bind fun t148 => (key_After.l0 k t148)
theorem key_After.mono_l : ∀ k, (∀ y0, LeO (key_After.l0 k y0) (key_After.l0 (k + 1) y0))
  | 0 => fun _ r h => by simp [key_After.l0] at h
  | k + 1 => by
    have ih0 := key_After.mono_l k
    · intro y0
      unfold key_After.l0
      repeat' first
      | (with_reducible exact ih0 _)
      | (with_reducible exact LeO.refl _)
      | (with_reducible exact LeO.none _)
      | (with_reducible refine LeO.ite ?_ ?_)
      | (with_reducible refine LeO.bind ?_ (fun _ => ?_))
      | exact ih0 _
      | exact LeO.none _
      | refine LeO.ite ?_ ?_
      | refine LeO.bind ?_ (fun _ => ?_)
theorem key_After.mono : ∀ a0 k, LeO (key_After.f k a0) (key_After.f (k + 1) a0) := by
  intro a0 k
  have ih0 := key_After.mono_l k
  unfold key_After.f
  repeat' first
      | (with_reducible exact ih0 _)
      | (with_reducible exact LeO.refl _)
      | (with_reducible exact LeO.none _)
      | (with_reducible refine LeO.ite ?_ ?_)
      | (with_reducible refine LeO.bind ?_ (fun _ => ?_))
      | exact ih0 _
      | exact LeO.none _
      | refine LeO.ite ?_ ?_
      | refine LeO.bind ?_ (fun _ => ?_)
set_option maxHeartbeats 8000000 in
set_option maxRecDepth 100000 in
theorem key_After.calls (k : Nat) (A0 : Option Addr) (c0 : Nat) (l0 : List Int) (r : List Int) (w : World) (hr0 : Kd.C (Kd.int .u8) w A0 l0.length l0) (hc0 : l0.length ≤ c0) (h : key_After.f k l0 = some r) :
    Calls Try.prog 66 #[.slice A0 l0.length c0] w fun e w' => ∃ v0_ : Value, e = .returned (v0_) ∧ Kd.R (Kd.int .u8) 5 w' w.heap.size (fun _ => True) v0_ r ∧ Below w.heap.size w w' := by
  have HR0 := Aside0.mk hr0
  have HC0 := Aside0.mk hc0
  clear hr0 hc0
  have HB := Aside0.mk (Below.refl w.heap.size w)
  have H : ((slices_Clone_byte_byte.f l0).bind fun t148 => (key_After.l0 k t148)) = some r := h
  clear h
  replace H := Option.bind_eq_some_iff.mp H
  obtain ⟨t148, A20, H⟩ := H
  replace H : (key_After.l0 k t148) = some r := H
  have A2 := Aside0.mk A20
  clear A20
  have H' := Aside0.mk H
  clear H
  go_enter Try.func66, Try.ntmps66
  go_wp2_with (first | ((with_reducible refine gate_callee (f := 97) rfl ?_); refine goesL_ (some 5) rfl rfl Try.func97 (by kernel_rfl) rfl #[.slice A0 l0.length c0] rfl (by (try simp only [List.map_toArray, List.map_cons, List.map_nil]); first | done | rfl | (simp only [List.length_drop, List.length_take]; rfl)) ?_; (with_reducible refine (slices_Clone_byte_byte.calls _ _ l0 t148 _ ?side1 ?side2 A2.out).mono ?_); (case side1 => repeat (first | exact HR0.out | (with_reducible refine Kd.C_alloc ?_ _) | (with_reducible refine Kd.C_drewN ?_ _) | (with_reducible refine Kd.C_drew ?_))); (case side2 => exact HC0.out); rintro e w3 ⟨v149, rfl, ho0, hb⟩; refine ⟨_, rfl, ?_⟩; have n0_ := Aside0.mk (Kd.R_lower ho0 (below_size (by repeat (first | (with_reducible first | exact HB.out | apply below_alloc | apply pw_below_drewN | apply below_drew1) | exact HB.out)))); have n1_ := Aside0.mk (below_step (by repeat (first | (with_reducible first | exact HB.out | apply below_alloc | apply pw_below_drewN | apply below_drew1) | exact HB.out)) hb); clear HB; have HO150 := n0_; have HB := n1_; clear n0_ n1_; (try clear hb); (try clear hb2); (try clear hk); (try clear hi); (try clear ho0)))
  go_loopg [3] k (fun kq v3 w' => ∃ (x3_1 : List Int), Aside0 (key_After.l0 kq x3_1 = some r) ∧ Aside0 (kq ≤ k) ∧ Aside0 (Kd.R (Kd.int .u8) 5 w' w.heap.size (fun _ => True) v3 x3_1) ∧ Aside0 (Below w.heap.size w w'))
  case atStart => exact ⟨(t148), H', ⟨Nat.le_refl _⟩, ⟨by (with_reducible repeat (first | apply Kd.R_alloc | apply Kd.R_drewN | apply Kd.R_drew)); exact HO150.out⟩, ⟨by repeat (first | (with_reducible first | exact HB.out | apply below_alloc | apply pw_below_drewN | apply below_drew1) | exact HB.out)⟩⟩
  case round =>
    clear H'
    try clear p2
    obtain ⟨x3_1, HA, HK1, HO_3, HB⟩ := hrel
    cases gk with
    | zero => exact absurd HA.out (by simp [key_After.l0])
    | succ k1 =>
      have H := HA.out
      clear HA
      simp only [key_After.l0] at H
      by_cases c4 : (x3_1.length : Int) > 0
      · rw [if_pos c4] at H
        have c4b0 : decide (0 < (x3_1.length : Int)) = true := decide_eq_true c4
        have c4b1 : decide (0 < x3_1.length) = true := decide_eq_true (by omega)
        clear c4
        obtain ⟨ji5, hji5⟩ : ∃ j_ : Int, (wrap64 ((x3_1.length : Int) - 1)) = j_ := ⟨_, rfl⟩
        replace H : (if 0 ≤ (ji5) then (if (ji5) < (x3_1.length : Int) then (if (rd x3_1 (ji5)) = 255 then (if (ji5) ≤ (x3_1.length : Int) then (key_After.l0 k1 (x3_1.take ((ji5) : Int).toNat)) else (none)) else (if (x3_1.length : Int) = 0 then (some ([] : List Int)) else (some (x3_1.set ((ji5) : Int).toNat (((rd x3_1 (ji5)) + 1) % 256))))) else (none)) else (none)) = some r := by first | (rw [hji5] at H; exact H) | (simp only [hji5] at H ⊢; exact H)
        have hji5w : (IntKind.i64.wrap ((x3_1.length : Int) - 1)) = ji5 := (i64_w _).trans hji5
        by_cases c6 : 0 ≤ (ji5)
        · rw [if_pos c6] at H
          have c6b0 : decide (0 ≤ (ji5)) = true := decide_eq_true c6
          clear c6
          by_cases c7 : (ji5) < (x3_1.length : Int)
          · rw [if_pos c7] at H
            have c7b0 : decide ((ji5) < (x3_1.length : Int)) = true := decide_eq_true c7
            clear c7
            by_cases c8 : (rd x3_1 (ji5)) = 255
            · rw [if_pos c8] at H
              have c8b0 : ((rd x3_1 (ji5)) == 255) = true := beq_iff_eq.mpr c8
              have c8b1 : ((rd x3_1 (ji5)) != 255) = false := bne_eq_false_iff_eq.mpr c8
              clear c8
              by_cases c9 : (ji5) ≤ (x3_1.length : Int)
              · rw [if_pos c9] at H
                have c9b0 := eq_true c9
                have c9b1 : decide ((ji5) ≤ (x3_1.length : Int)) = true := decide_eq_true c9
                clear c9
                obtain ⟨y152, hy152⟩ : ∃ y_ : List Int, y_ = (x3_1.take ((ji5) : Int).toNat) := ⟨_, rfl⟩
                replace H : (key_After.l0 k1 y152) = some r := by first | (rw [hy152]; with_reducible exact H) | (have H2_ := (Option.bind_some _ _).symm.trans H; rw [hy152]; with_reducible exact H2_) | (have H2_ := (Option.bind_some _ _).symm.trans H; with_reducible exact H2_) | with_reducible exact H | (rw [hy152]; exact H) | exact H
                have Ny152 := Aside0.mk hy152
                clear hy152
                have H' := Aside0.mk H
                clear H
                obtain ⟨Ao10, co10, eo10⟩ := Kd.R_slice HO_3.out
                subst eo10
                have p151 : 0 ≤ ((ji5) : Int) := of_decide_eq_true (by first | (with_reducible assumption) | assumption)
                have q151 : (ji5) < (x3_1.length : Int) := of_decide_eq_true (by first | (with_reducible assumption) | assumption)
                obtain ⟨ad151, e151, hx151_0⟩ := Kd.at_int (Kd.R_reads' HO_3.out).2.2 (ji5) p151 q151
                cases e151
                replace p151 := eq_true p151
                replace q151 := eq_true q151
                have q11 : ((ji5) : Int) ≤ ((x3_1.length : Int) : Int) := of_decide_eq_true (by first | (with_reducible assumption) | assumption)
                obtain ⟨i011, hi011, _, hsz11, _⟩ := info_parts info5
                have hcut11 := cut_to (P := Try.prog) 22 5 .i64 Try.underlying22 hi011 (some ad151) x3_1.length co10 (ji5) (of_decide_eq_true (by first | (with_reducible assumption) | assumption)) q11 (Kd.R_reads' HO_3.out).2.1
                have hr11 := Kd.R_take (m := ((ji5) : Int).toNat) HO_3.out (by omega)
                have hy11 : y152.length = ((ji5) : Int).toNat := (by rw [Ny152.out, List.length_take]; omega)
                rw [← Ny152.out] at hr11
                rw [← hy11] at hr11 hcut11
                clear hy11 hi011 hsz11 HO_3
                have HO154 := Aside0.mk hr11
                clear hr11
                replace q11 := eq_true q11
                go_wp2
                go_roundg k1
                case measure => have := HK1.out; omega
                case rel => exact ⟨(y152), H', ⟨by have := HK1.out; omega⟩, ⟨by (with_reducible repeat (first | apply Kd.R_alloc | apply Kd.R_drewN | apply Kd.R_drew)); exact HO154.out⟩, ⟨by repeat (first | (with_reducible first | exact HB.out | apply below_alloc | apply pw_below_drewN | apply below_drew1) | exact HB.out)⟩⟩
              · rw [if_neg c9] at H
                exact absurd H (by simp)
            · rw [if_neg c8] at H
              have c8b0 : ((rd x3_1 (ji5)) == 255) = false := beq_eq_false_iff_ne.mpr c8
              have c8b1 : ((rd x3_1 (ji5)) != 255) = true := bne_iff_ne.mpr c8
              by_cases c12 : (x3_1.length : Int) = 0
              · rw [if_pos c12] at H
                have c12b0 : ((x3_1.length : Int) == 0) = true := beq_iff_eq.mpr c12
                have c12b1 : ((x3_1.length : Int) != 0) = false := bne_eq_false_iff_eq.mpr c12
                clear c12
                obtain rfl := Option.some.inj H
                obtain ⟨Ao13, co13, eo13⟩ := Kd.R_slice HO_3.out
                subst eo13
                have p151 : 0 ≤ ((ji5) : Int) := of_decide_eq_true (by first | (with_reducible assumption) | assumption)
                have q151 : (ji5) < (x3_1.length : Int) := of_decide_eq_true (by first | (with_reducible assumption) | assumption)
                obtain ⟨ad151, e151, hx151_0⟩ := Kd.at_int (Kd.R_reads' HO_3.out).2.2 (ji5) p151 q151
                cases e151
                replace p151 := eq_true p151
                replace q151 := eq_true q151
                go_wp2
                go_ret
                exact ⟨_, by first | rfl | (simp [errW_none, errW_some] <;> rfl) | (simp only [← hji5]; first | rfl | (simp [errW_none, errW_some] <;> rfl)) | (simp [*, errW_none, errW_some] <;> rfl), by first | exact Kd.R_nil _ _ _ _ _ | exact Kd.N_nil _ _ _ _ _ | exact Kd.V_nil _ _ _ _ _ | exact Kd.Q_nil _ _ _ _ _ | exact Kd.S_nil _ _ _ _ _, by repeat (first | (with_reducible first | exact HB.out | apply below_alloc | apply pw_below_drewN | apply below_drew1) | exact HB.out)⟩
              · rw [if_neg c12] at H
                have c12b0 : ((x3_1.length : Int) == 0) = false := beq_eq_false_iff_ne.mpr c12
                have c12b1 : ((x3_1.length : Int) != 0) = true := bne_iff_ne.mpr c12
                have c12b2 : ¬ (x3_1 = []) := fun h_ => c12 (by rw [h_]; rfl)
                obtain ⟨y156, hy156⟩ : ∃ y_ : List Int, y_ = (x3_1.set ((ji5) : Int).toNat (((rd x3_1 (ji5)) + 1) % 256)) := ⟨_, rfl⟩
                replace H : (some y156) = some r := by first | (rw [hy156]; with_reducible exact H) | (have H2_ := (Option.bind_some _ _).symm.trans H; rw [hy156]; with_reducible exact H2_) | (have H2_ := (Option.bind_some _ _).symm.trans H; with_reducible exact H2_) | with_reducible exact H | (rw [hy156]; exact H) | exact H
                have Ny156 := Aside0.mk hy156
                clear hy156
                obtain rfl := Option.some.inj H
                obtain ⟨Ao15, co15, eo15⟩ := Kd.R_slice HO_3.out
                subst eo15
                have p151 : 0 ≤ ((ji5) : Int) := of_decide_eq_true (by first | (with_reducible assumption) | assumption)
                have q151 : (ji5) < (x3_1.length : Int) := of_decide_eq_true (by first | (with_reducible assumption) | assumption)
                obtain ⟨ad151, e151, hx151_0⟩ := Kd.at_int (Kd.R_reads' HO_3.out).2.2 (ji5) p151 q151
                cases e151
                replace p151 := eq_true p151
                replace q151 := eq_true q151
                have p155 : 0 ≤ ((ji5) : Int) := of_decide_eq_true (by first | (with_reducible assumption) | assumption)
                have q155 : (ji5) < (x3_1.length : Int) := of_decide_eq_true (by first | (with_reducible assumption) | assumption)
                obtain ⟨ad155, e155, hx155_0⟩ := Kd.at_int (Kd.R_reads' HO_3.out).2.2 (ji5) p155 q155
                obtain rfl : ad151 = ad155 := (by injection e155)
                replace p155 := eq_true p155
                replace q155 := eq_true q155
                have p14 : 0 ≤ ((ji5) : Int) := of_decide_eq_true (by first | (with_reducible assumption) | assumption)
                have q14 : ((ji5) : Int) < ((x3_1.length : Int) : Int) := of_decide_eq_true (by first | (with_reducible assumption) | assumption)
                obtain ⟨go14, co14, eo14, gb14, gl14, cl14, HG14⟩ := Kd.R_form HO_3.out (by omega)
                (first | cases eo14 | (injection eo14 with ea_ en_ ec_; (first | subst ea_ | (injection ea_ with ea_; subst ea_)); subst ec_; clear en_))
                have GB14 := Aside0.mk gb14
                have GG14 := Aside0.mk HG14
                clear gb14 gl14 HG14
                (first | simp only [add_plain] at hx151_0 | skip)
                (first | simp only [add_plain] at hx155_0 | skip)
                obtain ⟨hx14_0, hf14_0⟩ := Kd.R_celln 0 HO_3.out ((ji5) : Int) p14 q14
                replace p14 := eq_true p14
                replace q14 := eq_true q14
                have HP16 := Kd.R_putg HO_3.out ((ji5) : Int) (((rd x3_1 (ji5)) + 1) % 256)
                go_wp2_with (first | ((with_reducible refine gate_store (t := 5) (p := 33) rfl ?_); refine store_event (t := 5) (p := 33) (v := ?vo_w17) (w1 := (wr.setCell ⟨go14, ((ji5) : Int).toNat, none⟩ (.int .u8 (((rd x3_1 (ji5)) + 1) % 256)))) ?hg ?ho ?hn ?hr ?_; (case ho => rfl); (case hg => rfl); (case hn => rfl); (case hr => first | (go_simp; done) | (go_simp; rfl)); intro w17 hw; have hg : wr.grownBy w17 (some go14) := (by rw [hw]; exact HP16.2); have hp_ : Kd.R (Kd.int .u8) 5 w17 w.heap.size (fun _ => True) (.slice (some ⟨go14, 0, none⟩) x3_1.length co15) y156 := (by rw [hw, Ny156.out]; exact HP16.1); clear HP16; have n0_ := Aside0.mk (hp_); have n1_ := Aside0.mk ((by rw [hw]; exact below_set (HB.out) GB14.out : Below w.heap.size w w17)); clear HO_3; clear HB; have HO_3 := n0_; have HB := n1_; clear n0_ n1_; clear hg hw hp_))
                go_ret
                exact ⟨_, by first | rfl | (simp [errW_none, errW_some] <;> rfl) | (simp only [← hji5]; first | rfl | (simp [errW_none, errW_some] <;> rfl)) | (simp [*, errW_none, errW_some] <;> rfl), by (with_reducible repeat (first | apply Kd.R_alloc | apply Kd.R_drewN | apply Kd.R_drew)); exact HO_3.out, by repeat (first | (with_reducible first | exact HB.out | apply below_alloc | apply pw_below_drewN | apply below_drew1) | exact HB.out)⟩
          · rw [if_neg c7] at H
            exact absurd H (by simp)
        · rw [if_neg c6] at H
          exact absurd H (by simp)
      · rw [if_neg c4] at H
        have c4b0 : decide (0 < (x3_1.length : Int)) = false := decide_eq_false c4
        have c4b1 : decide (0 < x3_1.length) = false := decide_eq_false (by omega)
        clear c4
        by_cases c18 : (x3_1.length : Int) = 0
        · rw [if_pos c18] at H
          have c18b0 : ((x3_1.length : Int) == 0) = true := beq_iff_eq.mpr c18
          have c18b1 : ((x3_1.length : Int) != 0) = false := bne_eq_false_iff_eq.mpr c18
          clear c18
          obtain rfl := Option.some.inj H
          obtain ⟨Ao19, co19, eo19⟩ := Kd.R_slice HO_3.out
          subst eo19
          go_wp2
          go_ret
          exact ⟨_, by first | rfl | (simp [errW_none, errW_some] <;> rfl) | (simp [*, errW_none, errW_some] <;> rfl), by first | exact Kd.R_nil _ _ _ _ _ | exact Kd.N_nil _ _ _ _ _ | exact Kd.V_nil _ _ _ _ _ | exact Kd.Q_nil _ _ _ _ _ | exact Kd.S_nil _ _ _ _ _, by repeat (first | (with_reducible first | exact HB.out | apply below_alloc | apply pw_below_drewN | apply below_drew1) | exact HB.out)⟩
        · rw [if_neg c18] at H
          have c18b0 : ((x3_1.length : Int) == 0) = false := beq_eq_false_iff_ne.mpr c18
          have c18b1 : ((x3_1.length : Int) != 0) = true := bne_iff_ne.mpr c18
          have c18b2 : ¬ (x3_1 = []) := fun h_ => c18 (by rw [h_]; rfl)
          obtain ⟨ji20, hji20⟩ : ∃ j_ : Int, (wrap64 ((x3_1.length : Int) - 1)) = j_ := ⟨_, rfl⟩
          replace H : (if 0 ≤ (ji20) then (if (ji20) < (x3_1.length : Int) then (some (x3_1.set ((ji20) : Int).toNat (((rd x3_1 (ji20)) + 1) % 256))) else (none)) else (none)) = some r := by first | (rw [hji20] at H; exact H) | (simp only [hji20] at H ⊢; exact H)
          have hji20w : (IntKind.i64.wrap ((x3_1.length : Int) - 1)) = ji20 := (i64_w _).trans hji20
          by_cases c21 : 0 ≤ (ji20)
          · rw [if_pos c21] at H
            have c21b0 : decide (0 ≤ (ji20)) = true := decide_eq_true c21
            clear c21
            by_cases c22 : (ji20) < (x3_1.length : Int)
            · rw [if_pos c22] at H
              have c22b0 : decide ((ji20) < (x3_1.length : Int)) = true := decide_eq_true c22
              clear c22
              obtain ⟨y158, hy158⟩ : ∃ y_ : List Int, y_ = (x3_1.set ((ji20) : Int).toNat (((rd x3_1 (ji20)) + 1) % 256)) := ⟨_, rfl⟩
              replace H : (some y158) = some r := by first | (rw [hy158]; with_reducible exact H) | (have H2_ := (Option.bind_some _ _).symm.trans H; rw [hy158]; with_reducible exact H2_) | (have H2_ := (Option.bind_some _ _).symm.trans H; with_reducible exact H2_) | with_reducible exact H | (rw [hy158]; exact H) | exact H
              have Ny158 := Aside0.mk hy158
              clear hy158
              obtain rfl := Option.some.inj H
              obtain ⟨Ao24, co24, eo24⟩ := Kd.R_slice HO_3.out
              subst eo24
              have p157 : 0 ≤ ((ji20) : Int) := of_decide_eq_true (by first | (with_reducible assumption) | assumption)
              have q157 : (ji20) < (x3_1.length : Int) := of_decide_eq_true (by first | (with_reducible assumption) | assumption)
              obtain ⟨ad157, e157, hx157_0⟩ := Kd.at_int (Kd.R_reads' HO_3.out).2.2 (ji20) p157 q157
              cases e157
              replace p157 := eq_true p157
              replace q157 := eq_true q157
              have p23 : 0 ≤ ((ji20) : Int) := of_decide_eq_true (by first | (with_reducible assumption) | assumption)
              have q23 : ((ji20) : Int) < ((x3_1.length : Int) : Int) := of_decide_eq_true (by first | (with_reducible assumption) | assumption)
              obtain ⟨go23, co23, eo23, gb23, gl23, cl23, HG23⟩ := Kd.R_form HO_3.out (by omega)
              (first | cases eo23 | (injection eo23 with ea_ en_ ec_; (first | subst ea_ | (injection ea_ with ea_; subst ea_)); subst ec_; clear en_))
              have GB23 := Aside0.mk gb23
              have GG23 := Aside0.mk HG23
              clear gb23 gl23 HG23
              (first | simp only [add_plain] at hx157_0 | skip)
              obtain ⟨hx23_0, hf23_0⟩ := Kd.R_celln 0 HO_3.out ((ji20) : Int) p23 q23
              replace p23 := eq_true p23
              replace q23 := eq_true q23
              have HP25 := Kd.R_putg HO_3.out ((ji20) : Int) (((rd x3_1 (ji20)) + 1) % 256)
              go_wp2_with (first | ((with_reducible refine gate_store (t := 5) (p := 33) rfl ?_); refine store_event (t := 5) (p := 33) (v := ?vo_w26) (w1 := (wr.setCell ⟨go23, ((ji20) : Int).toNat, none⟩ (.int .u8 (((rd x3_1 (ji20)) + 1) % 256)))) ?hg ?ho ?hn ?hr ?_; (case ho => rfl); (case hg => rfl); (case hn => rfl); (case hr => first | (go_simp; done) | (go_simp; rfl)); intro w26 hw; have hg : wr.grownBy w26 (some go23) := (by rw [hw]; exact HP25.2); have hp_ : Kd.R (Kd.int .u8) 5 w26 w.heap.size (fun _ => True) (.slice (some ⟨go23, 0, none⟩) x3_1.length co24) y158 := (by rw [hw, Ny158.out]; exact HP25.1); clear HP25; have n0_ := Aside0.mk (hp_); have n1_ := Aside0.mk ((by rw [hw]; exact below_set (HB.out) GB23.out : Below w.heap.size w w26)); clear HO_3; clear HB; have HO_3 := n0_; have HB := n1_; clear n0_ n1_; clear hg hw hp_))
              go_ret
              exact ⟨_, by first | rfl | (simp [errW_none, errW_some] <;> rfl) | (simp only [← hji20]; first | rfl | (simp [errW_none, errW_some] <;> rfl)) | (simp [*, errW_none, errW_some] <;> rfl), by (with_reducible repeat (first | apply Kd.R_alloc | apply Kd.R_drewN | apply Kd.R_drew)); exact HO_3.out, by repeat (first | (with_reducible first | exact HB.out | apply below_alloc | apply pw_below_drewN | apply below_drew1) | exact HB.out)⟩
            · rw [if_neg c22] at H
              exact absurd H (by simp)
          · rw [if_neg c21] at H
            exact absurd H (by simp)

/-! ### pandectlaw6_begun: function 49 -/
def pandectlaw6_begun.f (k : Nat)  : Option (Bool) := (key_Stream.f k (⟨#[97]⟩ : ByteArray) 1).bind fun t159 => ((key_TakeStream.f k t159).bind fun bt162 => ((key_Type.f k (⟨#[98]⟩ : ByteArray) 2).bind fun t165 => ((key_TakeType.f k t165).bind fun bt168 => (if bt162.2.2 = true then (if bt162.1.toList = ([97] : List UInt8) then (if bt162.2.1 = 1 then (if bt168.2.2 = true then (if bt168.1.toList = ([98] : List UInt8) then (if bt168.2.1 = 2 then ((key_MayName.f (⟨#[97]⟩ : ByteArray)).bind fun t171 => (if t171 = true then ((key_MayName.f (⟨#[]⟩ : ByteArray)).bind fun t172 => (if t172 = true then (none) else ((key_Seq.f k 1).bind fun t173 => (if (strOfNums t173).toList = ([0, 0, 0, 0, 0, 0, 0, 1] : List UInt8) then ((key_Head.f (⟨#[97]⟩ : ByteArray)).bind fun t176 => (if (strOfNums t176).toList = ([104, 97] : List UInt8) then ((key_ID.f (⟨#[97]⟩ : ByteArray)).bind fun t179 => (if (strOfNums t179).toList = ([105, 97] : List UInt8) then ((key_Snap.f (⟨#[97]⟩ : ByteArray)).bind fun t182 => (if (strOfNums t182).toList = ([115, 97] : List UInt8) then ((key_Point.f (⟨#[97]⟩ : ByteArray)).bind fun t185 => (if (strOfNums t185).toList = ([112, 97] : List UInt8) then ((key_After.f k ([97] : List Int)).bind fun t188 => (some ((strOfNums t188).toList == ([98] : List UInt8)))) else (none))) else (none))) else (none))) else (none))) else (none))))) else (none))) else (none)) else (none)) else (none)) else (none)) else (none)) else (none)))))
theorem pandectlaw6_begun.mono : ∀ k, LeO (pandectlaw6_begun.f k ) (pandectlaw6_begun.f (k + 1) ) := by
  intro  k
  unfold pandectlaw6_begun.f
  repeat' first
      | (with_reducible exact key_After.mono _ _)
      | (with_reducible exact key_Seq.mono _ _)
      | (with_reducible exact key_Stream.mono _ _ _)
      | (with_reducible exact key_TakeStream.mono _ _)
      | (with_reducible exact key_TakeType.mono _ _)
      | (with_reducible exact key_Type.mono _ _ _)
      | (with_reducible exact LeO.refl _)
      | (with_reducible exact LeO.none _)
      | (with_reducible refine LeO.ite ?_ ?_)
      | (with_reducible refine LeO.bind ?_ (fun _ => ?_))
      | exact key_After.mono _ _
      | exact key_Seq.mono _ _
      | exact key_Stream.mono _ _ _
      | exact key_TakeStream.mono _ _
      | exact key_TakeType.mono _ _
      | exact key_Type.mono _ _ _
      | exact LeO.none _
      | refine LeO.ite ?_ ?_
      | refine LeO.bind ?_ (fun _ => ?_)
set_option maxHeartbeats 8000000 in
set_option maxRecDepth 100000 in
theorem pandectlaw6_begun.calls (k : Nat)  (r : Bool) (w : World) (h : pandectlaw6_begun.f k  = some r) :
    Calls Try.prog 49 #[] w fun e w' => e = .returned (.bool r) ∧ Below w.heap.size w w' := by
  have HB := Aside0.mk (Below.refl w.heap.size w)
  have H : ((key_Stream.f k (⟨#[97]⟩ : ByteArray) 1).bind fun t159 => ((key_TakeStream.f k t159).bind fun bt162 => ((key_Type.f k (⟨#[98]⟩ : ByteArray) 2).bind fun t165 => ((key_TakeType.f k t165).bind fun bt168 => (if bt162.2.2 = true then (if bt162.1.toList = ([97] : List UInt8) then (if bt162.2.1 = 1 then (if bt168.2.2 = true then (if bt168.1.toList = ([98] : List UInt8) then (if bt168.2.1 = 2 then ((key_MayName.f (⟨#[97]⟩ : ByteArray)).bind fun t171 => (if t171 = true then ((key_MayName.f (⟨#[]⟩ : ByteArray)).bind fun t172 => (if t172 = true then (none) else ((key_Seq.f k 1).bind fun t173 => (if (strOfNums t173).toList = ([0, 0, 0, 0, 0, 0, 0, 1] : List UInt8) then ((key_Head.f (⟨#[97]⟩ : ByteArray)).bind fun t176 => (if (strOfNums t176).toList = ([104, 97] : List UInt8) then ((key_ID.f (⟨#[97]⟩ : ByteArray)).bind fun t179 => (if (strOfNums t179).toList = ([105, 97] : List UInt8) then ((key_Snap.f (⟨#[97]⟩ : ByteArray)).bind fun t182 => (if (strOfNums t182).toList = ([115, 97] : List UInt8) then ((key_Point.f (⟨#[97]⟩ : ByteArray)).bind fun t185 => (if (strOfNums t185).toList = ([112, 97] : List UInt8) then ((key_After.f k ([97] : List Int)).bind fun t188 => (some ((strOfNums t188).toList == ([98] : List UInt8)))) else (none))) else (none))) else (none))) else (none))) else (none))))) else (none))) else (none)) else (none)) else (none)) else (none)) else (none)) else (none)))))) = some r := h
  clear h
  replace H := Option.bind_eq_some_iff.mp H
  obtain ⟨t159, A10, H⟩ := H
  replace H : ((key_TakeStream.f k t159).bind fun bt162 => ((key_Type.f k (⟨#[98]⟩ : ByteArray) 2).bind fun t165 => ((key_TakeType.f k t165).bind fun bt168 => (if bt162.2.2 = true then (if bt162.1.toList = ([97] : List UInt8) then (if bt162.2.1 = 1 then (if bt168.2.2 = true then (if bt168.1.toList = ([98] : List UInt8) then (if bt168.2.1 = 2 then ((key_MayName.f (⟨#[97]⟩ : ByteArray)).bind fun t171 => (if t171 = true then ((key_MayName.f (⟨#[]⟩ : ByteArray)).bind fun t172 => (if t172 = true then (none) else ((key_Seq.f k 1).bind fun t173 => (if (strOfNums t173).toList = ([0, 0, 0, 0, 0, 0, 0, 1] : List UInt8) then ((key_Head.f (⟨#[97]⟩ : ByteArray)).bind fun t176 => (if (strOfNums t176).toList = ([104, 97] : List UInt8) then ((key_ID.f (⟨#[97]⟩ : ByteArray)).bind fun t179 => (if (strOfNums t179).toList = ([105, 97] : List UInt8) then ((key_Snap.f (⟨#[97]⟩ : ByteArray)).bind fun t182 => (if (strOfNums t182).toList = ([115, 97] : List UInt8) then ((key_Point.f (⟨#[97]⟩ : ByteArray)).bind fun t185 => (if (strOfNums t185).toList = ([112, 97] : List UInt8) then ((key_After.f k ([97] : List Int)).bind fun t188 => (some ((strOfNums t188).toList == ([98] : List UInt8)))) else (none))) else (none))) else (none))) else (none))) else (none))))) else (none))) else (none)) else (none)) else (none)) else (none)) else (none)) else (none))))) = some r := H
  have A1 := Aside0.mk A10
  clear A10
  replace H := Option.bind_eq_some_iff.mp H
  obtain ⟨⟨t162, t163, t164⟩, A20, H⟩ := H
  replace H : ((key_Type.f k (⟨#[98]⟩ : ByteArray) 2).bind fun t165 => ((key_TakeType.f k t165).bind fun bt168 => (if t164 = true then (if t162.toList = ([97] : List UInt8) then (if t163 = 1 then (if bt168.2.2 = true then (if bt168.1.toList = ([98] : List UInt8) then (if bt168.2.1 = 2 then ((key_MayName.f (⟨#[97]⟩ : ByteArray)).bind fun t171 => (if t171 = true then ((key_MayName.f (⟨#[]⟩ : ByteArray)).bind fun t172 => (if t172 = true then (none) else ((key_Seq.f k 1).bind fun t173 => (if (strOfNums t173).toList = ([0, 0, 0, 0, 0, 0, 0, 1] : List UInt8) then ((key_Head.f (⟨#[97]⟩ : ByteArray)).bind fun t176 => (if (strOfNums t176).toList = ([104, 97] : List UInt8) then ((key_ID.f (⟨#[97]⟩ : ByteArray)).bind fun t179 => (if (strOfNums t179).toList = ([105, 97] : List UInt8) then ((key_Snap.f (⟨#[97]⟩ : ByteArray)).bind fun t182 => (if (strOfNums t182).toList = ([115, 97] : List UInt8) then ((key_Point.f (⟨#[97]⟩ : ByteArray)).bind fun t185 => (if (strOfNums t185).toList = ([112, 97] : List UInt8) then ((key_After.f k ([97] : List Int)).bind fun t188 => (some ((strOfNums t188).toList == ([98] : List UInt8)))) else (none))) else (none))) else (none))) else (none))) else (none))))) else (none))) else (none)) else (none)) else (none)) else (none)) else (none)) else (none)))) = some r := H
  have A2 := Aside0.mk A20
  clear A20
  replace H := Option.bind_eq_some_iff.mp H
  obtain ⟨t165, A30, H⟩ := H
  replace H : ((key_TakeType.f k t165).bind fun bt168 => (if t164 = true then (if t162.toList = ([97] : List UInt8) then (if t163 = 1 then (if bt168.2.2 = true then (if bt168.1.toList = ([98] : List UInt8) then (if bt168.2.1 = 2 then ((key_MayName.f (⟨#[97]⟩ : ByteArray)).bind fun t171 => (if t171 = true then ((key_MayName.f (⟨#[]⟩ : ByteArray)).bind fun t172 => (if t172 = true then (none) else ((key_Seq.f k 1).bind fun t173 => (if (strOfNums t173).toList = ([0, 0, 0, 0, 0, 0, 0, 1] : List UInt8) then ((key_Head.f (⟨#[97]⟩ : ByteArray)).bind fun t176 => (if (strOfNums t176).toList = ([104, 97] : List UInt8) then ((key_ID.f (⟨#[97]⟩ : ByteArray)).bind fun t179 => (if (strOfNums t179).toList = ([105, 97] : List UInt8) then ((key_Snap.f (⟨#[97]⟩ : ByteArray)).bind fun t182 => (if (strOfNums t182).toList = ([115, 97] : List UInt8) then ((key_Point.f (⟨#[97]⟩ : ByteArray)).bind fun t185 => (if (strOfNums t185).toList = ([112, 97] : List UInt8) then ((key_After.f k ([97] : List Int)).bind fun t188 => (some ((strOfNums t188).toList == ([98] : List UInt8)))) else (none))) else (none))) else (none))) else (none))) else (none))))) else (none))) else (none)) else (none)) else (none)) else (none)) else (none)) else (none))) = some r := H
  have A3 := Aside0.mk A30
  clear A30
  replace H := Option.bind_eq_some_iff.mp H
  obtain ⟨⟨t168, t169, t170⟩, A40, H⟩ := H
  replace H : (if t164 = true then (if t162.toList = ([97] : List UInt8) then (if t163 = 1 then (if t170 = true then (if t168.toList = ([98] : List UInt8) then (if t169 = 2 then ((key_MayName.f (⟨#[97]⟩ : ByteArray)).bind fun t171 => (if t171 = true then ((key_MayName.f (⟨#[]⟩ : ByteArray)).bind fun t172 => (if t172 = true then (none) else ((key_Seq.f k 1).bind fun t173 => (if (strOfNums t173).toList = ([0, 0, 0, 0, 0, 0, 0, 1] : List UInt8) then ((key_Head.f (⟨#[97]⟩ : ByteArray)).bind fun t176 => (if (strOfNums t176).toList = ([104, 97] : List UInt8) then ((key_ID.f (⟨#[97]⟩ : ByteArray)).bind fun t179 => (if (strOfNums t179).toList = ([105, 97] : List UInt8) then ((key_Snap.f (⟨#[97]⟩ : ByteArray)).bind fun t182 => (if (strOfNums t182).toList = ([115, 97] : List UInt8) then ((key_Point.f (⟨#[97]⟩ : ByteArray)).bind fun t185 => (if (strOfNums t185).toList = ([112, 97] : List UInt8) then ((key_After.f k ([97] : List Int)).bind fun t188 => (some ((strOfNums t188).toList == ([98] : List UInt8)))) else (none))) else (none))) else (none))) else (none))) else (none))))) else (none))) else (none)) else (none)) else (none)) else (none)) else (none)) else (none)) = some r := H
  have A4 := Aside0.mk A40
  clear A40
  by_cases c5 : t164 = true
  · subst c5
    have H1 : (if t162.toList = ([97] : List UInt8) then (if t163 = 1 then (if t170 = true then (if t168.toList = ([98] : List UInt8) then (if t169 = 2 then ((key_MayName.f (⟨#[97]⟩ : ByteArray)).bind fun t171 => (if t171 = true then ((key_MayName.f (⟨#[]⟩ : ByteArray)).bind fun t172 => (if t172 = true then (none) else ((key_Seq.f k 1).bind fun t173 => (if (strOfNums t173).toList = ([0, 0, 0, 0, 0, 0, 0, 1] : List UInt8) then ((key_Head.f (⟨#[97]⟩ : ByteArray)).bind fun t176 => (if (strOfNums t176).toList = ([104, 97] : List UInt8) then ((key_ID.f (⟨#[97]⟩ : ByteArray)).bind fun t179 => (if (strOfNums t179).toList = ([105, 97] : List UInt8) then ((key_Snap.f (⟨#[97]⟩ : ByteArray)).bind fun t182 => (if (strOfNums t182).toList = ([115, 97] : List UInt8) then ((key_Point.f (⟨#[97]⟩ : ByteArray)).bind fun t185 => (if (strOfNums t185).toList = ([112, 97] : List UInt8) then ((key_After.f k ([97] : List Int)).bind fun t188 => (some ((strOfNums t188).toList == ([98] : List UInt8)))) else (none))) else (none))) else (none))) else (none))) else (none))))) else (none))) else (none)) else (none)) else (none)) else (none)) else (none)) = some r := by rw [if_pos rfl] at H; exact H
    clear H
    have H := H1
    clear H1
    by_cases c6 : t162.toList = ([97] : List UInt8)
    · rw [if_pos c6] at H
      have c6b0 : (t162.toList == ([97] : List UInt8)) = true := beq_iff_eq.mpr c6
      have c6b1 : (t162.toList != ([97] : List UInt8)) = false := bne_eq_false_iff_eq.mpr c6
      clear c6
      by_cases c7 : t163 = 1
      · rw [if_pos c7] at H
        have c7b0 : (t163 == 1) = true := beq_iff_eq.mpr c7
        have c7b1 : (t163 != 1) = false := bne_eq_false_iff_eq.mpr c7
        clear c7
        by_cases c8 : t170 = true
        · subst c8
          have H1 : (if t168.toList = ([98] : List UInt8) then (if t169 = 2 then ((key_MayName.f (⟨#[97]⟩ : ByteArray)).bind fun t171 => (if t171 = true then ((key_MayName.f (⟨#[]⟩ : ByteArray)).bind fun t172 => (if t172 = true then (none) else ((key_Seq.f k 1).bind fun t173 => (if (strOfNums t173).toList = ([0, 0, 0, 0, 0, 0, 0, 1] : List UInt8) then ((key_Head.f (⟨#[97]⟩ : ByteArray)).bind fun t176 => (if (strOfNums t176).toList = ([104, 97] : List UInt8) then ((key_ID.f (⟨#[97]⟩ : ByteArray)).bind fun t179 => (if (strOfNums t179).toList = ([105, 97] : List UInt8) then ((key_Snap.f (⟨#[97]⟩ : ByteArray)).bind fun t182 => (if (strOfNums t182).toList = ([115, 97] : List UInt8) then ((key_Point.f (⟨#[97]⟩ : ByteArray)).bind fun t185 => (if (strOfNums t185).toList = ([112, 97] : List UInt8) then ((key_After.f k ([97] : List Int)).bind fun t188 => (some ((strOfNums t188).toList == ([98] : List UInt8)))) else (none))) else (none))) else (none))) else (none))) else (none))))) else (none))) else (none)) else (none)) = some r := by rw [if_pos rfl] at H; exact H
          clear H
          have H := H1
          clear H1
          by_cases c9 : t168.toList = ([98] : List UInt8)
          · rw [if_pos c9] at H
            have c9b0 : (t168.toList == ([98] : List UInt8)) = true := beq_iff_eq.mpr c9
            have c9b1 : (t168.toList != ([98] : List UInt8)) = false := bne_eq_false_iff_eq.mpr c9
            clear c9
            by_cases c10 : t169 = 2
            · rw [if_pos c10] at H
              have c10b0 : (t169 == 2) = true := beq_iff_eq.mpr c10
              have c10b1 : (t169 != 2) = false := bne_eq_false_iff_eq.mpr c10
              clear c10
              replace H := Option.bind_eq_some_iff.mp H
              obtain ⟨t171, A110, H⟩ := H
              replace H : (if t171 = true then ((key_MayName.f (⟨#[]⟩ : ByteArray)).bind fun t172 => (if t172 = true then (none) else ((key_Seq.f k 1).bind fun t173 => (if (strOfNums t173).toList = ([0, 0, 0, 0, 0, 0, 0, 1] : List UInt8) then ((key_Head.f (⟨#[97]⟩ : ByteArray)).bind fun t176 => (if (strOfNums t176).toList = ([104, 97] : List UInt8) then ((key_ID.f (⟨#[97]⟩ : ByteArray)).bind fun t179 => (if (strOfNums t179).toList = ([105, 97] : List UInt8) then ((key_Snap.f (⟨#[97]⟩ : ByteArray)).bind fun t182 => (if (strOfNums t182).toList = ([115, 97] : List UInt8) then ((key_Point.f (⟨#[97]⟩ : ByteArray)).bind fun t185 => (if (strOfNums t185).toList = ([112, 97] : List UInt8) then ((key_After.f k ([97] : List Int)).bind fun t188 => (some ((strOfNums t188).toList == ([98] : List UInt8)))) else (none))) else (none))) else (none))) else (none))) else (none))))) else (none)) = some r := H
              have A11 := Aside0.mk A110
              clear A110
              by_cases c12 : t171 = true
              · subst c12
                have H1 : ((key_MayName.f (⟨#[]⟩ : ByteArray)).bind fun t172 => (if t172 = true then (none) else ((key_Seq.f k 1).bind fun t173 => (if (strOfNums t173).toList = ([0, 0, 0, 0, 0, 0, 0, 1] : List UInt8) then ((key_Head.f (⟨#[97]⟩ : ByteArray)).bind fun t176 => (if (strOfNums t176).toList = ([104, 97] : List UInt8) then ((key_ID.f (⟨#[97]⟩ : ByteArray)).bind fun t179 => (if (strOfNums t179).toList = ([105, 97] : List UInt8) then ((key_Snap.f (⟨#[97]⟩ : ByteArray)).bind fun t182 => (if (strOfNums t182).toList = ([115, 97] : List UInt8) then ((key_Point.f (⟨#[97]⟩ : ByteArray)).bind fun t185 => (if (strOfNums t185).toList = ([112, 97] : List UInt8) then ((key_After.f k ([97] : List Int)).bind fun t188 => (some ((strOfNums t188).toList == ([98] : List UInt8)))) else (none))) else (none))) else (none))) else (none))) else (none))))) = some r := by rw [if_pos rfl] at H; exact H
                clear H
                have H := H1
                clear H1
                replace H := Option.bind_eq_some_iff.mp H
                obtain ⟨t172, A130, H⟩ := H
                replace H : (if t172 = true then (none) else ((key_Seq.f k 1).bind fun t173 => (if (strOfNums t173).toList = ([0, 0, 0, 0, 0, 0, 0, 1] : List UInt8) then ((key_Head.f (⟨#[97]⟩ : ByteArray)).bind fun t176 => (if (strOfNums t176).toList = ([104, 97] : List UInt8) then ((key_ID.f (⟨#[97]⟩ : ByteArray)).bind fun t179 => (if (strOfNums t179).toList = ([105, 97] : List UInt8) then ((key_Snap.f (⟨#[97]⟩ : ByteArray)).bind fun t182 => (if (strOfNums t182).toList = ([115, 97] : List UInt8) then ((key_Point.f (⟨#[97]⟩ : ByteArray)).bind fun t185 => (if (strOfNums t185).toList = ([112, 97] : List UInt8) then ((key_After.f k ([97] : List Int)).bind fun t188 => (some ((strOfNums t188).toList == ([98] : List UInt8)))) else (none))) else (none))) else (none))) else (none))) else (none)))) = some r := H
                have A13 := Aside0.mk A130
                clear A130
                by_cases c14 : t172 = true
                · subst c14
                  have H1 : (none) = some r := by rw [if_pos rfl] at H; exact H
                  clear H
                  have H := H1
                  clear H1
                  exact absurd H (by simp)
                · replace c14 := Bool.eq_false_iff.mpr c14
                  subst c14
                  have H1 : ((key_Seq.f k 1).bind fun t173 => (if (strOfNums t173).toList = ([0, 0, 0, 0, 0, 0, 0, 1] : List UInt8) then ((key_Head.f (⟨#[97]⟩ : ByteArray)).bind fun t176 => (if (strOfNums t176).toList = ([104, 97] : List UInt8) then ((key_ID.f (⟨#[97]⟩ : ByteArray)).bind fun t179 => (if (strOfNums t179).toList = ([105, 97] : List UInt8) then ((key_Snap.f (⟨#[97]⟩ : ByteArray)).bind fun t182 => (if (strOfNums t182).toList = ([115, 97] : List UInt8) then ((key_Point.f (⟨#[97]⟩ : ByteArray)).bind fun t185 => (if (strOfNums t185).toList = ([112, 97] : List UInt8) then ((key_After.f k ([97] : List Int)).bind fun t188 => (some ((strOfNums t188).toList == ([98] : List UInt8)))) else (none))) else (none))) else (none))) else (none))) else (none))) = some r := by rw [if_neg (show ¬ (false = true) by decide)] at H; exact H
                  clear H
                  have H := H1
                  clear H1
                  replace H := Option.bind_eq_some_iff.mp H
                  obtain ⟨t173, A150, H⟩ := H
                  replace H : (if (strOfNums t173).toList = ([0, 0, 0, 0, 0, 0, 0, 1] : List UInt8) then ((key_Head.f (⟨#[97]⟩ : ByteArray)).bind fun t176 => (if (strOfNums t176).toList = ([104, 97] : List UInt8) then ((key_ID.f (⟨#[97]⟩ : ByteArray)).bind fun t179 => (if (strOfNums t179).toList = ([105, 97] : List UInt8) then ((key_Snap.f (⟨#[97]⟩ : ByteArray)).bind fun t182 => (if (strOfNums t182).toList = ([115, 97] : List UInt8) then ((key_Point.f (⟨#[97]⟩ : ByteArray)).bind fun t185 => (if (strOfNums t185).toList = ([112, 97] : List UInt8) then ((key_After.f k ([97] : List Int)).bind fun t188 => (some ((strOfNums t188).toList == ([98] : List UInt8)))) else (none))) else (none))) else (none))) else (none))) else (none)) = some r := H
                  have A15 := Aside0.mk A150
                  clear A150
                  by_cases c16 : (strOfNums t173).toList = ([0, 0, 0, 0, 0, 0, 0, 1] : List UInt8)
                  · rw [if_pos c16] at H
                    have c16b0 : ((strOfNums t173).toList == ([0, 0, 0, 0, 0, 0, 0, 1] : List UInt8)) = true := beq_iff_eq.mpr c16
                    have c16b1 : ((strOfNums t173).toList != ([0, 0, 0, 0, 0, 0, 0, 1] : List UInt8)) = false := bne_eq_false_iff_eq.mpr c16
                    clear c16
                    replace H := Option.bind_eq_some_iff.mp H
                    obtain ⟨t176, A170, H⟩ := H
                    replace H : (if (strOfNums t176).toList = ([104, 97] : List UInt8) then ((key_ID.f (⟨#[97]⟩ : ByteArray)).bind fun t179 => (if (strOfNums t179).toList = ([105, 97] : List UInt8) then ((key_Snap.f (⟨#[97]⟩ : ByteArray)).bind fun t182 => (if (strOfNums t182).toList = ([115, 97] : List UInt8) then ((key_Point.f (⟨#[97]⟩ : ByteArray)).bind fun t185 => (if (strOfNums t185).toList = ([112, 97] : List UInt8) then ((key_After.f k ([97] : List Int)).bind fun t188 => (some ((strOfNums t188).toList == ([98] : List UInt8)))) else (none))) else (none))) else (none))) else (none)) = some r := H
                    have A17 := Aside0.mk A170
                    clear A170
                    by_cases c18 : (strOfNums t176).toList = ([104, 97] : List UInt8)
                    · rw [if_pos c18] at H
                      have c18b0 : ((strOfNums t176).toList == ([104, 97] : List UInt8)) = true := beq_iff_eq.mpr c18
                      have c18b1 : ((strOfNums t176).toList != ([104, 97] : List UInt8)) = false := bne_eq_false_iff_eq.mpr c18
                      clear c18
                      replace H := Option.bind_eq_some_iff.mp H
                      obtain ⟨t179, A190, H⟩ := H
                      replace H : (if (strOfNums t179).toList = ([105, 97] : List UInt8) then ((key_Snap.f (⟨#[97]⟩ : ByteArray)).bind fun t182 => (if (strOfNums t182).toList = ([115, 97] : List UInt8) then ((key_Point.f (⟨#[97]⟩ : ByteArray)).bind fun t185 => (if (strOfNums t185).toList = ([112, 97] : List UInt8) then ((key_After.f k ([97] : List Int)).bind fun t188 => (some ((strOfNums t188).toList == ([98] : List UInt8)))) else (none))) else (none))) else (none)) = some r := H
                      have A19 := Aside0.mk A190
                      clear A190
                      by_cases c20 : (strOfNums t179).toList = ([105, 97] : List UInt8)
                      · rw [if_pos c20] at H
                        have c20b0 : ((strOfNums t179).toList == ([105, 97] : List UInt8)) = true := beq_iff_eq.mpr c20
                        have c20b1 : ((strOfNums t179).toList != ([105, 97] : List UInt8)) = false := bne_eq_false_iff_eq.mpr c20
                        clear c20
                        replace H := Option.bind_eq_some_iff.mp H
                        obtain ⟨t182, A210, H⟩ := H
                        replace H : (if (strOfNums t182).toList = ([115, 97] : List UInt8) then ((key_Point.f (⟨#[97]⟩ : ByteArray)).bind fun t185 => (if (strOfNums t185).toList = ([112, 97] : List UInt8) then ((key_After.f k ([97] : List Int)).bind fun t188 => (some ((strOfNums t188).toList == ([98] : List UInt8)))) else (none))) else (none)) = some r := H
                        have A21 := Aside0.mk A210
                        clear A210
                        by_cases c22 : (strOfNums t182).toList = ([115, 97] : List UInt8)
                        · rw [if_pos c22] at H
                          have c22b0 : ((strOfNums t182).toList == ([115, 97] : List UInt8)) = true := beq_iff_eq.mpr c22
                          have c22b1 : ((strOfNums t182).toList != ([115, 97] : List UInt8)) = false := bne_eq_false_iff_eq.mpr c22
                          clear c22
                          replace H := Option.bind_eq_some_iff.mp H
                          obtain ⟨t185, A230, H⟩ := H
                          replace H : (if (strOfNums t185).toList = ([112, 97] : List UInt8) then ((key_After.f k ([97] : List Int)).bind fun t188 => (some ((strOfNums t188).toList == ([98] : List UInt8)))) else (none)) = some r := H
                          have A23 := Aside0.mk A230
                          clear A230
                          by_cases c24 : (strOfNums t185).toList = ([112, 97] : List UInt8)
                          · rw [if_pos c24] at H
                            have c24b0 : ((strOfNums t185).toList == ([112, 97] : List UInt8)) = true := beq_iff_eq.mpr c24
                            have c24b1 : ((strOfNums t185).toList != ([112, 97] : List UInt8)) = false := bne_eq_false_iff_eq.mpr c24
                            clear c24
                            replace H := Option.bind_eq_some_iff.mp H
                            obtain ⟨t188, A250, H⟩ := H
                            replace H : (some ((strOfNums t188).toList == ([98] : List UInt8))) = some r := H
                            have A25 := Aside0.mk A250
                            clear A250
                            obtain rfl := Option.some.inj H
                            go_enter Try.func49, Try.ntmps49
                            go_wp2_with (first | ((with_reducible refine gate_callee (f := 55) rfl ?_); refine goesL_ (some 8) rfl rfl Try.func55 (by kernel_rfl) rfl #[.string (⟨#[97]⟩ : ByteArray), .int .i64 1] rfl (by (try simp only [List.map_toArray, List.map_cons, List.map_nil]); first | done | rfl | (simp only [List.length_drop, List.length_take]; rfl)) ?_; (with_reducible refine (key_Stream.calls k (⟨#[97]⟩ : ByteArray) 1 t159 _ A1.out).mono ?_); rintro e w26 ⟨v160, rfl, ho0, hb⟩; refine ⟨_, rfl, ?_⟩; have n0_ := Aside0.mk (Kd.V_lower (Kd.V_mono (ok' := fun k_ => True) ho0 (fun k_ hk_ => trivial)) (below_size (by repeat (first | (with_reducible first | exact HB.out | apply below_alloc | apply pw_below_drewN | apply below_drew1) | exact HB.out)))); have n1_ := Aside0.mk (below_step (by repeat (first | (with_reducible first | exact HB.out | apply below_alloc | apply pw_below_drewN | apply below_drew1) | exact HB.out)) hb); clear HB; have HO161 := n0_; have HB := n1_; clear n0_ n1_; (try clear hb); (try clear hb2); (try clear hk); (try clear hi); (try clear ho0); obtain ⟨Ao27, co27, eo27⟩ := Kd.V_slice HO161.out; subst eo27) | ((with_reducible refine gate_callee (f := 50) rfl ?_); refine goesL_ (some 9) rfl rfl Try.func50 (by kernel_rfl) rfl #[.slice Ao27 t159.length co27] rfl (by (try simp only [List.map_toArray, List.map_cons, List.map_nil]); first | done | rfl | (simp only [List.length_drop, List.length_take]; rfl)) ?_; (with_reducible refine (key_TakeStream.calls k _ _ t159 t162 t163 true _ ?side1 ?side2 A2.out).mono ?_); (case side1 => repeat (first | exact (Kd.V_reads' HO161.out).2.2 | (with_reducible refine Kd.C_alloc ?_ _) | (with_reducible refine Kd.C_drewN ?_ _) | (with_reducible refine Kd.C_drew ?_))); (case side2 => exact (Kd.V_reads' HO161.out).2.1); rintro e w28 ⟨rfl, hb⟩; refine ⟨_, rfl, ?_⟩; have n0_ := Aside0.mk (Kd.V_below (by (with_reducible repeat (first | apply Kd.V_alloc | apply Kd.V_drewN | apply Kd.V_drew)); exact HO161.out) hb); have n1_ := Aside0.mk (below_step (by repeat (first | (with_reducible first | exact HB.out | apply below_alloc | apply pw_below_drewN | apply below_drew1) | exact HB.out)) hb); clear HO161; clear HB; have HO161 := n0_; have HB := n1_; clear n0_ n1_; (try clear hb); (try clear hb2); (try clear hk); (try clear hi)) | ((with_reducible refine gate_callee (f := 57) rfl ?_); refine goesL_ (some 14) rfl rfl Try.func57 (by kernel_rfl) rfl #[.string (⟨#[98]⟩ : ByteArray), .int .i64 2] rfl (by (try simp only [List.map_toArray, List.map_cons, List.map_nil]); first | done | rfl | (simp only [List.length_drop, List.length_take]; rfl)) ?_; (with_reducible refine (key_Type.calls k (⟨#[98]⟩ : ByteArray) 2 t165 _ A3.out).mono ?_); rintro e w29 ⟨v166, rfl, ho0, hb⟩; refine ⟨_, rfl, ?_⟩; have n0_ := Aside0.mk (Kd.V_below (by (with_reducible repeat (first | apply Kd.V_alloc | apply Kd.V_drewN | apply Kd.V_drew)); exact HO161.out) hb); have n1_ := Aside0.mk (Kd.V_lower (Kd.V_mono (ok' := fun k_ => True) ho0 (fun k_ hk_ => trivial)) (below_size (by repeat (first | (with_reducible first | exact HB.out | apply below_alloc | apply pw_below_drewN | apply below_drew1) | exact HB.out)))); have n2_ := Aside0.mk (below_step (by repeat (first | (with_reducible first | exact HB.out | apply below_alloc | apply pw_below_drewN | apply below_drew1) | exact HB.out)) hb); clear HO161; clear HB; have HO161 := n0_; have HO167 := n1_; have HB := n2_; clear n0_ n1_ n2_; (try clear hb); (try clear hb2); (try clear hk); (try clear hi); (try clear ho0); obtain ⟨Ao30, co30, eo30⟩ := Kd.V_slice HO167.out; subst eo30) | ((with_reducible refine gate_callee (f := 52) rfl ?_); refine goesL_ (some 15) rfl rfl Try.func52 (by kernel_rfl) rfl #[.slice Ao30 t165.length co30] rfl (by (try simp only [List.map_toArray, List.map_cons, List.map_nil]); first | done | rfl | (simp only [List.length_drop, List.length_take]; rfl)) ?_; (with_reducible refine (key_TakeType.calls k _ _ t165 t168 t169 true _ ?side1 ?side2 A4.out).mono ?_); (case side1 => repeat (first | exact (Kd.V_reads' HO167.out).2.2 | (with_reducible refine Kd.C_alloc ?_ _) | (with_reducible refine Kd.C_drewN ?_ _) | (with_reducible refine Kd.C_drew ?_))); (case side2 => exact (Kd.V_reads' HO167.out).2.1); rintro e w31 ⟨rfl, hb⟩; refine ⟨_, rfl, ?_⟩; have n0_ := Aside0.mk (Kd.V_below (by (with_reducible repeat (first | apply Kd.V_alloc | apply Kd.V_drewN | apply Kd.V_drew)); exact HO161.out) hb); have n1_ := Aside0.mk (Kd.V_below (by (with_reducible repeat (first | apply Kd.V_alloc | apply Kd.V_drewN | apply Kd.V_drew)); exact HO167.out) hb); have n2_ := Aside0.mk (below_step (by repeat (first | (with_reducible first | exact HB.out | apply below_alloc | apply pw_below_drewN | apply below_drew1) | exact HB.out)) hb); clear HO161; clear HO167; clear HB; have HO161 := n0_; have HO167 := n1_; have HB := n2_; clear n0_ n1_ n2_; (try clear hb); (try clear hb2); (try clear hk); (try clear hi)) | (go_at_call 53; (with_reducible refine (key_MayName.calls (⟨#[97]⟩ : ByteArray) true _ A11.out).mono ?_); rintro e w32 ⟨rfl, hb⟩; have n0_ := Aside0.mk (Kd.V_below (by (with_reducible repeat (first | apply Kd.V_alloc | apply Kd.V_drewN | apply Kd.V_drew)); exact HO161.out) hb); have n1_ := Aside0.mk (Kd.V_below (by (with_reducible repeat (first | apply Kd.V_alloc | apply Kd.V_drewN | apply Kd.V_drew)); exact HO167.out) hb); have n2_ := Aside0.mk (below_step (by repeat (first | (with_reducible first | exact HB.out | apply below_alloc | apply pw_below_drewN | apply below_drew1) | exact HB.out)) hb); clear HO161; clear HO167; clear HB; have HO161 := n0_; have HO167 := n1_; have HB := n2_; clear n0_ n1_ n2_; (try clear hb); (try clear hb2); (try clear hk); (try clear hi)) | (go_at_call 53; (with_reducible refine (key_MayName.calls (⟨#[]⟩ : ByteArray) false _ A13.out).mono ?_); rintro e w33 ⟨rfl, hb⟩; have n0_ := Aside0.mk (Kd.V_below (by (with_reducible repeat (first | apply Kd.V_alloc | apply Kd.V_drewN | apply Kd.V_drew)); exact HO161.out) hb); have n1_ := Aside0.mk (Kd.V_below (by (with_reducible repeat (first | apply Kd.V_alloc | apply Kd.V_drewN | apply Kd.V_drew)); exact HO167.out) hb); have n2_ := Aside0.mk (below_step (by repeat (first | (with_reducible first | exact HB.out | apply below_alloc | apply pw_below_drewN | apply below_drew1) | exact HB.out)) hb); clear HO161; clear HO167; clear HB; have HO161 := n0_; have HO167 := n1_; have HB := n2_; clear n0_ n1_ n2_; (try clear hb); (try clear hb2); (try clear hk); (try clear hi)) | (go_at_call 59; (with_reducible refine (key_Seq.calls k 1 t173 _ A15.out).mono ?_); rintro e w34 ⟨v174, rfl, ho0, hb⟩; have n0_ := Aside0.mk (Kd.V_elder' (by (with_reducible repeat (first | apply Kd.V_alloc | apply Kd.V_drewN | apply Kd.V_drew)); exact HO161.out) (Kd.R_base ho0) hb); have n1_ := Aside0.mk (Kd.V_elder' (by (with_reducible repeat (first | apply Kd.V_alloc | apply Kd.V_drewN | apply Kd.V_drew)); exact HO167.out) (Kd.R_base ho0) hb); have n2_ := Aside0.mk (Kd.R_lower ho0 (below_size (by repeat (first | (with_reducible first | exact HB.out | apply below_alloc | apply pw_below_drewN | apply below_drew1) | exact HB.out)))); have n3_ := Aside0.mk (below_step (by repeat (first | (with_reducible first | exact HB.out | apply below_alloc | apply pw_below_drewN | apply below_drew1) | exact HB.out)) hb); clear HO161; clear HO167; clear HB; have HO161 := n0_; have HO167 := n1_; have HO175 := n2_; have HB := n3_; clear n0_ n1_ n2_ n3_; (try clear hb); (try clear hb2); (try clear hk); (try clear hi); (try clear ho0); have hcv35 := own_string (P := Try.prog) Try.underlying22 Try.underlying5 Try.underlying9 (Kd.own_of_R HO175.out); have hcv36 := fun nd_ : Nat => own_string (P := Try.prog) Try.underlying22 Try.underlying5 Try.underlying9 (Kd.own_of_R (Kd.R_drewN HO175.out nd_))) | (go_at_call 61; (with_reducible refine (key_Head.calls (⟨#[97]⟩ : ByteArray) t176 _ A17.out).mono ?_); rintro e w37 ⟨v177, rfl, ho0, hb⟩; have n0_ := Aside0.mk (Kd.V_elder' (by (with_reducible repeat (first | apply Kd.V_alloc | apply Kd.V_drewN | apply Kd.V_drew)); exact HO161.out) (Kd.R_base ho0) hb); have n1_ := Aside0.mk (Kd.V_elder' (by (with_reducible repeat (first | apply Kd.V_alloc | apply Kd.V_drewN | apply Kd.V_drew)); exact HO167.out) (Kd.R_base ho0) hb); have n2_ := Aside0.mk (Kd.R_elder' (by (with_reducible repeat (first | apply Kd.R_alloc | apply Kd.R_drewN | apply Kd.R_drew)); exact HO175.out) (Kd.R_base ho0) hb); have n3_ := Aside0.mk (Kd.R_lower (Kd.R_new' ho0 (Kd.R_lt (by (with_reducible repeat (first | apply Kd.R_alloc | apply Kd.R_drewN | apply Kd.R_drew)); exact HO175.out))) (below_size (by repeat (first | (with_reducible first | exact HB.out | apply below_alloc | apply pw_below_drewN | apply below_drew1) | exact HB.out)))); have n4_ := Aside0.mk (below_step (by repeat (first | (with_reducible first | exact HB.out | apply below_alloc | apply pw_below_drewN | apply below_drew1) | exact HB.out)) hb); clear HO161; clear HO167; clear HO175; clear HB; have HO161 := n0_; have HO167 := n1_; have HO175 := n2_; have HO178 := n3_; have HB := n4_; clear n0_ n1_ n2_ n3_ n4_; (try clear hb); (try clear hb2); (try clear hk); (try clear hi); (try clear ho0); have hcv38 := own_string (P := Try.prog) Try.underlying22 Try.underlying5 Try.underlying9 (Kd.own_of_R HO178.out); have hcv39 := fun nd_ : Nat => own_string (P := Try.prog) Try.underlying22 Try.underlying5 Try.underlying9 (Kd.own_of_R (Kd.R_drewN HO178.out nd_))) | (go_at_call 63; (with_reducible refine (key_ID.calls (⟨#[97]⟩ : ByteArray) t179 _ A19.out).mono ?_); rintro e w40 ⟨v180, rfl, ho0, hb⟩; have n0_ := Aside0.mk (Kd.V_elder' (by (with_reducible repeat (first | apply Kd.V_alloc | apply Kd.V_drewN | apply Kd.V_drew)); exact HO161.out) (Kd.R_base ho0) hb); have n1_ := Aside0.mk (Kd.V_elder' (by (with_reducible repeat (first | apply Kd.V_alloc | apply Kd.V_drewN | apply Kd.V_drew)); exact HO167.out) (Kd.R_base ho0) hb); have n2_ := Aside0.mk (Kd.R_elder' (by (with_reducible repeat (first | apply Kd.R_alloc | apply Kd.R_drewN | apply Kd.R_drew)); exact HO175.out) (Kd.R_base ho0) hb); have n3_ := Aside0.mk (Kd.R_elder' (by (with_reducible repeat (first | apply Kd.R_alloc | apply Kd.R_drewN | apply Kd.R_drew)); exact HO178.out) (Kd.R_base ho0) hb); have n4_ := Aside0.mk (Kd.R_lower (Kd.R_new' (Kd.R_new' ho0 (Kd.R_lt (by (with_reducible repeat (first | apply Kd.R_alloc | apply Kd.R_drewN | apply Kd.R_drew)); exact HO175.out))) (Kd.R_lt (by (with_reducible repeat (first | apply Kd.R_alloc | apply Kd.R_drewN | apply Kd.R_drew)); exact HO178.out))) (below_size (by repeat (first | (with_reducible first | exact HB.out | apply below_alloc | apply pw_below_drewN | apply below_drew1) | exact HB.out)))); have n5_ := Aside0.mk (below_step (by repeat (first | (with_reducible first | exact HB.out | apply below_alloc | apply pw_below_drewN | apply below_drew1) | exact HB.out)) hb); clear HO161; clear HO167; clear HO175; clear HO178; clear HB; have HO161 := n0_; have HO167 := n1_; have HO175 := n2_; have HO178 := n3_; have HO181 := n4_; have HB := n5_; clear n0_ n1_ n2_ n3_ n4_ n5_; (try clear hb); (try clear hb2); (try clear hk); (try clear hi); (try clear ho0); have hcv41 := own_string (P := Try.prog) Try.underlying22 Try.underlying5 Try.underlying9 (Kd.own_of_R HO181.out); have hcv42 := fun nd_ : Nat => own_string (P := Try.prog) Try.underlying22 Try.underlying5 Try.underlying9 (Kd.own_of_R (Kd.R_drewN HO181.out nd_))) | (go_at_call 64; (with_reducible refine (key_Snap.calls (⟨#[97]⟩ : ByteArray) t182 _ A21.out).mono ?_); rintro e w43 ⟨v183, rfl, ho0, hb⟩; have n0_ := Aside0.mk (Kd.V_elder' (by (with_reducible repeat (first | apply Kd.V_alloc | apply Kd.V_drewN | apply Kd.V_drew)); exact HO161.out) (Kd.R_base ho0) hb); have n1_ := Aside0.mk (Kd.V_elder' (by (with_reducible repeat (first | apply Kd.V_alloc | apply Kd.V_drewN | apply Kd.V_drew)); exact HO167.out) (Kd.R_base ho0) hb); have n2_ := Aside0.mk (Kd.R_elder' (by (with_reducible repeat (first | apply Kd.R_alloc | apply Kd.R_drewN | apply Kd.R_drew)); exact HO175.out) (Kd.R_base ho0) hb); have n3_ := Aside0.mk (Kd.R_elder' (by (with_reducible repeat (first | apply Kd.R_alloc | apply Kd.R_drewN | apply Kd.R_drew)); exact HO178.out) (Kd.R_base ho0) hb); have n4_ := Aside0.mk (Kd.R_elder' (by (with_reducible repeat (first | apply Kd.R_alloc | apply Kd.R_drewN | apply Kd.R_drew)); exact HO181.out) (Kd.R_base ho0) hb); have n5_ := Aside0.mk (Kd.R_lower (Kd.R_new' (Kd.R_new' (Kd.R_new' ho0 (Kd.R_lt (by (with_reducible repeat (first | apply Kd.R_alloc | apply Kd.R_drewN | apply Kd.R_drew)); exact HO175.out))) (Kd.R_lt (by (with_reducible repeat (first | apply Kd.R_alloc | apply Kd.R_drewN | apply Kd.R_drew)); exact HO178.out))) (Kd.R_lt (by (with_reducible repeat (first | apply Kd.R_alloc | apply Kd.R_drewN | apply Kd.R_drew)); exact HO181.out))) (below_size (by repeat (first | (with_reducible first | exact HB.out | apply below_alloc | apply pw_below_drewN | apply below_drew1) | exact HB.out)))); have n6_ := Aside0.mk (below_step (by repeat (first | (with_reducible first | exact HB.out | apply below_alloc | apply pw_below_drewN | apply below_drew1) | exact HB.out)) hb); clear HO161; clear HO167; clear HO175; clear HO178; clear HO181; clear HB; have HO161 := n0_; have HO167 := n1_; have HO175 := n2_; have HO178 := n3_; have HO181 := n4_; have HO184 := n5_; have HB := n6_; clear n0_ n1_ n2_ n3_ n4_ n5_ n6_; (try clear hb); (try clear hb2); (try clear hk); (try clear hi); (try clear ho0); have hcv44 := own_string (P := Try.prog) Try.underlying22 Try.underlying5 Try.underlying9 (Kd.own_of_R HO184.out); have hcv45 := fun nd_ : Nat => own_string (P := Try.prog) Try.underlying22 Try.underlying5 Try.underlying9 (Kd.own_of_R (Kd.R_drewN HO184.out nd_))) | (go_at_call 65; (with_reducible refine (key_Point.calls (⟨#[97]⟩ : ByteArray) t185 _ A23.out).mono ?_); rintro e w46 ⟨v186, rfl, ho0, hb⟩; have n0_ := Aside0.mk (Kd.V_elder' (by (with_reducible repeat (first | apply Kd.V_alloc | apply Kd.V_drewN | apply Kd.V_drew)); exact HO161.out) (Kd.R_base ho0) hb); have n1_ := Aside0.mk (Kd.V_elder' (by (with_reducible repeat (first | apply Kd.V_alloc | apply Kd.V_drewN | apply Kd.V_drew)); exact HO167.out) (Kd.R_base ho0) hb); have n2_ := Aside0.mk (Kd.R_elder' (by (with_reducible repeat (first | apply Kd.R_alloc | apply Kd.R_drewN | apply Kd.R_drew)); exact HO175.out) (Kd.R_base ho0) hb); have n3_ := Aside0.mk (Kd.R_elder' (by (with_reducible repeat (first | apply Kd.R_alloc | apply Kd.R_drewN | apply Kd.R_drew)); exact HO178.out) (Kd.R_base ho0) hb); have n4_ := Aside0.mk (Kd.R_elder' (by (with_reducible repeat (first | apply Kd.R_alloc | apply Kd.R_drewN | apply Kd.R_drew)); exact HO181.out) (Kd.R_base ho0) hb); have n5_ := Aside0.mk (Kd.R_elder' (by (with_reducible repeat (first | apply Kd.R_alloc | apply Kd.R_drewN | apply Kd.R_drew)); exact HO184.out) (Kd.R_base ho0) hb); have n6_ := Aside0.mk (Kd.R_lower (Kd.R_new' (Kd.R_new' (Kd.R_new' (Kd.R_new' ho0 (Kd.R_lt (by (with_reducible repeat (first | apply Kd.R_alloc | apply Kd.R_drewN | apply Kd.R_drew)); exact HO175.out))) (Kd.R_lt (by (with_reducible repeat (first | apply Kd.R_alloc | apply Kd.R_drewN | apply Kd.R_drew)); exact HO178.out))) (Kd.R_lt (by (with_reducible repeat (first | apply Kd.R_alloc | apply Kd.R_drewN | apply Kd.R_drew)); exact HO181.out))) (Kd.R_lt (by (with_reducible repeat (first | apply Kd.R_alloc | apply Kd.R_drewN | apply Kd.R_drew)); exact HO184.out))) (below_size (by repeat (first | (with_reducible first | exact HB.out | apply below_alloc | apply pw_below_drewN | apply below_drew1) | exact HB.out)))); have n7_ := Aside0.mk (below_step (by repeat (first | (with_reducible first | exact HB.out | apply below_alloc | apply pw_below_drewN | apply below_drew1) | exact HB.out)) hb); clear HO161; clear HO167; clear HO175; clear HO178; clear HO181; clear HO184; clear HB; have HO161 := n0_; have HO167 := n1_; have HO175 := n2_; have HO178 := n3_; have HO181 := n4_; have HO184 := n5_; have HO187 := n6_; have HB := n7_; clear n0_ n1_ n2_ n3_ n4_ n5_ n6_ n7_; (try clear hb); (try clear hb2); (try clear hk); (try clear hi); (try clear ho0); have hcv47 := own_string (P := Try.prog) Try.underlying22 Try.underlying5 Try.underlying9 (Kd.own_of_R HO187.out); have hcv48 := fun nd_ : Nat => own_string (P := Try.prog) Try.underlying22 Try.underlying5 Try.underlying9 (Kd.own_of_R (Kd.R_drewN HO187.out nd_)); have KA25 := fun (A1_ : Option Addr) (C1_ : Nat) (W_ : World) h0_ h1_ => key_After.calls k A1_ C1_ ([97] : List Int) t188 W_ h0_ h1_ A25.out; simp only [List.length_cons, List.length_nil, Nat.zero_add, Nat.reduceAdd] at KA25; replace KA25 := Aside0.mk KA25) | ((with_reducible refine gate_dst (N := 73) rfl ?_); (try (refine gate_guard (by rfl) ?_; dsimp only)); (try (refine gate_guard (by rfl) ?_; dsimp only)); refine Go.Proofs.Ytfgeffmlfbeodaa.Own.step_mark rfl _ 22 5 _ _ _ _ _ rfl rfl rfl ?hg Try.underlying22 Try.underlying5 ?_; (case hg => first | rfl | (go_simp; done) | (simp; done))) | (go_at_call 66; (with_reducible refine (KA25.out _ _ _ ?side1 ?side2).mono ?_); (case side1 => repeat (first | exact Go.Proofs.Ytfgeffmlfbeodaa.Own.C_mark _ _ _ (by first | rfl | simp) (by decide) _ _ _ _ rfl rfl | (with_reducible refine Kd.C_alloc ?_ _) | (with_reducible refine Kd.C_drewN ?_ _) | (with_reducible refine Kd.C_drew ?_))); (case side2 => exact Nat.le_refl _); rintro e w49 ⟨v189, rfl, ho0, hb⟩; have n0_ := Aside0.mk (Kd.V_elder' (by (with_reducible repeat (first | apply Kd.V_alloc | apply Kd.V_drewN | apply Kd.V_drew)); exact HO161.out) (Kd.R_base ho0) hb); have n1_ := Aside0.mk (Kd.V_elder' (by (with_reducible repeat (first | apply Kd.V_alloc | apply Kd.V_drewN | apply Kd.V_drew)); exact HO167.out) (Kd.R_base ho0) hb); have n2_ := Aside0.mk (Kd.R_elder' (by (with_reducible repeat (first | apply Kd.R_alloc | apply Kd.R_drewN | apply Kd.R_drew)); exact HO175.out) (Kd.R_base ho0) hb); have n3_ := Aside0.mk (Kd.R_elder' (by (with_reducible repeat (first | apply Kd.R_alloc | apply Kd.R_drewN | apply Kd.R_drew)); exact HO178.out) (Kd.R_base ho0) hb); have n4_ := Aside0.mk (Kd.R_elder' (by (with_reducible repeat (first | apply Kd.R_alloc | apply Kd.R_drewN | apply Kd.R_drew)); exact HO181.out) (Kd.R_base ho0) hb); have n5_ := Aside0.mk (Kd.R_elder' (by (with_reducible repeat (first | apply Kd.R_alloc | apply Kd.R_drewN | apply Kd.R_drew)); exact HO184.out) (Kd.R_base ho0) hb); have n6_ := Aside0.mk (Kd.R_elder' (by (with_reducible repeat (first | apply Kd.R_alloc | apply Kd.R_drewN | apply Kd.R_drew)); exact HO187.out) (Kd.R_base ho0) hb); have n7_ := Aside0.mk (Kd.R_lower (Kd.R_new' (Kd.R_new' (Kd.R_new' (Kd.R_new' (Kd.R_new' ho0 (Kd.R_lt (by (with_reducible repeat (first | apply Kd.R_alloc | apply Kd.R_drewN | apply Kd.R_drew)); exact HO175.out))) (Kd.R_lt (by (with_reducible repeat (first | apply Kd.R_alloc | apply Kd.R_drewN | apply Kd.R_drew)); exact HO178.out))) (Kd.R_lt (by (with_reducible repeat (first | apply Kd.R_alloc | apply Kd.R_drewN | apply Kd.R_drew)); exact HO181.out))) (Kd.R_lt (by (with_reducible repeat (first | apply Kd.R_alloc | apply Kd.R_drewN | apply Kd.R_drew)); exact HO184.out))) (Kd.R_lt (by (with_reducible repeat (first | apply Kd.R_alloc | apply Kd.R_drewN | apply Kd.R_drew)); exact HO187.out))) (below_size (by repeat (first | (with_reducible first | exact HB.out | apply below_alloc | apply pw_below_drewN | apply below_drew1) | exact HB.out)))); have n8_ := Aside0.mk (below_step (by repeat (first | (with_reducible first | exact HB.out | apply below_alloc | apply pw_below_drewN | apply below_drew1) | exact HB.out)) hb); clear HO161; clear HO167; clear HO175; clear HO178; clear HO181; clear HO184; clear HO187; clear HB; have HO161 := n0_; have HO167 := n1_; have HO175 := n2_; have HO178 := n3_; have HO181 := n4_; have HO184 := n5_; have HO187 := n6_; have HO190 := n7_; have HB := n8_; clear n0_ n1_ n2_ n3_ n4_ n5_ n6_ n7_ n8_; (try clear hb); (try clear hb2); (try clear hk); (try clear hi); (try clear ho0); have hcv50 := own_string (P := Try.prog) Try.underlying22 Try.underlying5 Try.underlying9 (Kd.own_of_R HO190.out); have hcv51 := fun nd_ : Nat => own_string (P := Try.prog) Try.underlying22 Try.underlying5 Try.underlying9 (Kd.own_of_R (Kd.R_drewN HO190.out nd_))))
                            go_ret
                            exact ⟨by first | rfl | (simp [errW_none, errW_some] <;> rfl) | (simp [*, errW_none, errW_some] <;> rfl), by repeat (first | (with_reducible first | exact HB.out | apply below_alloc | apply pw_below_drewN | apply below_drew1) | exact HB.out)⟩
                          · rw [if_neg c24] at H
                            exact absurd H (by simp)
                        · rw [if_neg c22] at H
                          exact absurd H (by simp)
                      · rw [if_neg c20] at H
                        exact absurd H (by simp)
                    · rw [if_neg c18] at H
                      exact absurd H (by simp)
                  · rw [if_neg c16] at H
                    exact absurd H (by simp)
              · replace c12 := Bool.eq_false_iff.mpr c12
                subst c12
                have H1 : (none) = some r := by rw [if_neg (show ¬ (false = true) by decide)] at H; exact H
                clear H
                have H := H1
                clear H1
                exact absurd H (by simp)
            · rw [if_neg c10] at H
              exact absurd H (by simp)
          · rw [if_neg c9] at H
            exact absurd H (by simp)
        · replace c8 := Bool.eq_false_iff.mpr c8
          subst c8
          have H1 : (none) = some r := by rw [if_neg (show ¬ (false = true) by decide)] at H; exact H
          clear H
          have H := H1
          clear H1
          exact absurd H (by simp)
      · rw [if_neg c7] at H
        exact absurd H (by simp)
    · rw [if_neg c6] at H
      exact absurd H (by simp)
  · replace c5 := Bool.eq_false_iff.mpr c5
    subst c5
    have H1 : (none) = some r := by rw [if_neg (show ¬ (false = true) by decide)] at H; exact H
    clear H
    have H := H1
    clear H1
    exact absurd H (by simp)

-- NOT PRINTED: function 15 (pandectlaw6_KeyForms)

end Go.Proofs.Ytfgeffmlfbeodaa.PKeyForms
