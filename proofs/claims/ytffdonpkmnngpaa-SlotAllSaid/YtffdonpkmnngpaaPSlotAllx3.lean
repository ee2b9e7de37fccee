/- Written by a program of this workplace. -/
import Derived.Test.YtffdonpkmnngpaaPSlotAllx0
import Derived.Test.YtffdonpkmnngpaaPSlotAllx1
import Derived.Test.YtffdonpkmnngpaaPSlotAllx2
namespace Go.Proofs.Ytffdonpkmnngpaa.PSlotAll
open Go.RowKit Go.Proofs.YtffdonpkmnngpaaW.PrintWords Go.Proofs.YtffdonpkmnngpaaW.PrintLast Go.Proofs.YtffdonpkmnngpaaW.PrintMore
attribute [local go_sem] max2_int min2_int max_two min_two max_three min_three max_four min_four   -- for this text's walks alone
set_option linter.unusedVariables false
set_option linter.unusedSimpArgs false

/-! ### pandectref2_Num: function 47 -/
def pandectref2_Num.l0 : Nat → List Int → Int → Int → Option (Int)
  | 0, _, _, _ => none
  | k + 1, x0, x3, x4 => if x4 < (x0.length : Int) then (if 0 ≤ x4 then (pandectref2_Num.l0 k x0 (IntKind.u64.wrap ((IntKind.u64.wrap (x3 * 256)) + (IntKind.u64.wrap (rd x0 x4)))) (wrap64 (x4 + 1))) else (none)) else (some x3)
def pandectref2_Num.f (k : Nat) (l0 : List Int) : Option (Int) := pandectref2_Num.l0 k l0 0 0
theorem pandectref2_Num.mono_l : ∀ k, (∀ y0 y1 y2, LeO (pandectref2_Num.l0 k y0 y1 y2) (pandectref2_Num.l0 (k + 1) y0 y1 y2))
  | 0 => fun _ _ _ r h => by simp [pandectref2_Num.l0] at h
  | k + 1 => by
    have ih0 := pandectref2_Num.mono_l k
    · intro y0 y1 y2
      unfold pandectref2_Num.l0
      repeat' first
      | (with_reducible exact ih0 _ _ _)
      | (with_reducible exact LeO.refl _)
      | (with_reducible exact LeO.none _)
      | (with_reducible refine LeO.ite ?_ ?_)
      | (with_reducible refine LeO.bind ?_ (fun _ => ?_))
      | exact ih0 _ _ _
      | exact LeO.none _
      | refine LeO.ite ?_ ?_
      | refine LeO.bind ?_ (fun _ => ?_)
theorem pandectref2_Num.mono : ∀ a0 k, LeO (pandectref2_Num.f k a0) (pandectref2_Num.f (k + 1) a0) := by
  intro a0 k
  have ih0 := pandectref2_Num.mono_l k
  unfold pandectref2_Num.f
  repeat' first
      | (with_reducible exact ih0 _ _ _)
      | (with_reducible exact LeO.refl _)
      | (with_reducible exact LeO.none _)
      | (with_reducible refine LeO.ite ?_ ?_)
      | (with_reducible refine LeO.bind ?_ (fun _ => ?_))
      | exact ih0 _ _ _
      | exact LeO.none _
      | refine LeO.ite ?_ ?_
      | refine LeO.bind ?_ (fun _ => ?_)
set_option maxHeartbeats 8000000 in
set_option maxRecDepth 100000 in
theorem pandectref2_Num.calls (k : Nat) (A0 : Option Addr) (c0 : Nat) (l0 : List Int) (r : Int) (w : World) (hr0 : Kd.C (Kd.int .u8) w A0 l0.length l0) (hc0 : l0.length ≤ c0) (h : pandectref2_Num.f k l0 = some r) :
    Calls Try.prog 47 #[.slice A0 l0.length c0] w fun e w' => e = .returned (.int .u64 r) ∧ Drawn0 w w' := by
  have HR0 := Aside0.mk hr0
  have HC0 := Aside0.mk hc0
  clear hr0 hc0
  have H : (pandectref2_Num.l0 k l0 0 0) = some r := h
  clear h
  have H' := Aside0.mk H
  clear H
  go_enter Try.func47, Try.ntmps47
  go_wp2
  go_loopg [3, 4] k (fun kq v3 v4 w' => ∃ (x3_1 : Int) (x4_1 : Int), v3 = .int .u64 x3_1 ∧ v4 = .int .i64 x4_1 ∧ Aside0 (pandectref2_Num.l0 kq l0 x3_1 x4_1 = some r) ∧ Aside0 (kq ≤ k) ∧ Drawn0 w w')
  case atStart => exact ⟨(0), (0), (by first | rfl | (simp; done) | (simp [*]; done)), (by first | rfl | (simp; done) | (simp [*]; done)), H', ⟨Nat.le_refl _⟩, by repeat (first | exact Drawn0.refl _ | apply Drawn0.step)⟩
  case round =>
    clear H'
    obtain ⟨x3_1, x4_1, rfl, rfl, HA, HK1, ⟨m1, rfl⟩⟩ := hrel
    cases gk with
    | zero => exact absurd HA.out (by simp [pandectref2_Num.l0])
    | succ k1 =>
      have H := HA.out
      clear HA
      simp only [pandectref2_Num.l0] at H
      by_cases c2 : x4_1 < (l0.length : Int)
      · rw [if_pos c2] at H
        have c2b0 : decide (x4_1 < (l0.length : Int)) = true := decide_eq_true c2
        clear c2
        by_cases c3 : 0 ≤ x4_1
        · rw [if_pos c3] at H
          have c3b0 : decide (0 ≤ x4_1) = true := decide_eq_true c3
          clear c3
          have H' := Aside0.mk H
          clear H
          have p170 : 0 ≤ (x4_1 : Int) := of_decide_eq_true (by first | (with_reducible assumption) | assumption)
          have q170 : x4_1 < (l0.length : Int) := of_decide_eq_true (by first | (with_reducible assumption) | assumption)
          obtain ⟨ad170, e170, hx170_0⟩ := Kd.at_int HR0.out x4_1 p170 q170
          cases e170
          replace p170 := eq_true p170
          replace q170 := eq_true q170
          go_wp2
          go_roundg k1
          case measure => have := HK1.out; omega
          case rel => exact ⟨(IntKind.u64.wrap ((IntKind.u64.wrap (x3_1 * 256)) + (IntKind.u64.wrap (rd l0 x4_1)))), (wrap64 (x4_1 + 1)), (by first | rfl | (simp; done) | (simp [*]; done)), (by first | rfl | (simp; done) | (simp [*]; done)), H', ⟨by have := HK1.out; omega⟩, by repeat (first | exact Drawn0.refl _ | apply Drawn0.step)⟩
        · rw [if_neg c3] at H
          exact absurd H (by simp)
      · rw [if_neg c2] at H
        have c2b0 : decide (x4_1 < (l0.length : Int)) = false := decide_eq_false c2
        clear c2
        obtain rfl := Option.some.inj H
        go_wp2
        go_ret
        exact ⟨by first | rfl | (simp; done) | (simp [*]; done), by repeat (first | exact Drawn0.refl _ | apply Drawn0.step)⟩

/-! ### pandectref2_TakeSlot: function 37 -/
def pandectref2_TakeSlot.j0 : Nat → List Int → Bool → Option (Int × List Int × Int)
  | 0, _, _ => none
  | k + 1, x0, x18 => if x18 = true then (some (0, ([] : List Int), 2)) else (if 2 ≤ 10 then (if 10 ≤ (x0.length : Int) then ((pandectref2_Num.f k ((x0.take 10).drop 2)).bind fun t176 => (if 10 < (x0.length : Int) then (if 11 ≤ (wrap64 (11 + (wrap64 (rd x0 10)))) then (if (wrap64 (11 + (wrap64 (rd x0 10)))) ≤ (x0.length : Int) then ((some ((x0.take ((wrap64 (11 + (wrap64 (rd x0 10)))) : Int).toNat).drop 11 : List Int)).bind fun y178 => ((pandectref2_PutSlot.f k t176 y178).bind fun bt182 => (if (strOfNums bt182.1).toList = (strOfNums x0).toList then ((some (([] : List Int) : List Int)).bind fun y186 => (if y186.length + y178.length < 140737488355328 then (some (t176, (y186 ++ y178), 0)) else (none))) else (some (0, ([] : List Int), 2))))) else (none)) else (none)) else (none))) else (none)) else (none))
def pandectref2_TakeSlot.f (k : Nat) (l0 : List Int) : Option (Int × List Int × Int) := if (l0.length : Int) = 128 then (if 10 < (l0.length : Int) then (pandectref2_TakeSlot.j0 k l0 (decide ((wrap64 (rd l0 10)) > 113))) else (none)) else (pandectref2_TakeSlot.j0 k l0 true)
theorem pandectref2_TakeSlot.mono_l : ∀ k, (∀ y0 y1, LeO (pandectref2_TakeSlot.j0 k y0 y1) (pandectref2_TakeSlot.j0 (k + 1) y0 y1))
  | 0 => fun _ _ r h => by simp [pandectref2_TakeSlot.j0] at h
  | k + 1 => by
    have ih0 := pandectref2_TakeSlot.mono_l k
    · intro y0 y1
      unfold pandectref2_TakeSlot.j0
      repeat' first
      | (with_reducible exact ih0 _ _)
      | (with_reducible exact pandectref2_Num.mono _ _)
      | (with_reducible exact pandectref2_PutSlot.mono _ _ _)
      | (with_reducible exact LeO.refl _)
      | (with_reducible exact LeO.none _)
      | (with_reducible refine LeO.ite ?_ ?_)
      | (with_reducible refine LeO.bind ?_ (fun _ => ?_))
      | exact ih0 _ _
      | exact pandectref2_Num.mono _ _
      | exact pandectref2_PutSlot.mono _ _ _
      | exact LeO.none _
      | refine LeO.ite ?_ ?_
      | refine LeO.bind ?_ (fun _ => ?_)
theorem pandectref2_TakeSlot.mono : ∀ a0 k, LeO (pandectref2_TakeSlot.f k a0) (pandectref2_TakeSlot.f (k + 1) a0) := by
  intro a0 k
  have ih0 := pandectref2_TakeSlot.mono_l k
  unfold pandectref2_TakeSlot.f
  repeat' first
      | (with_reducible exact ih0 _ _)
      | (with_reducible exact pandectref2_Num.mono _ _)
      | (with_reducible exact pandectref2_PutSlot.mono _ _ _)
      | (with_reducible exact LeO.refl _)
      | (with_reducible exact LeO.none _)
      | (with_reducible refine LeO.ite ?_ ?_)
      | (with_reducible refine LeO.bind ?_ (fun _ => ?_))
      | exact ih0 _ _
      | exact pandectref2_Num.mono _ _
      | exact pandectref2_PutSlot.mono _ _ _
      | exact LeO.none _
      | refine LeO.ite ?_ ?_
      | refine LeO.bind ?_ (fun _ => ?_)
set_option maxHeartbeats 8000000 in
set_option maxRecDepth 100000 in
theorem pandectref2_TakeSlot.calls (k : Nat) (A0 : Option Addr) (c0 : Nat) (l0 : List Int) (r1 : Int) (r2 : List Int) (r3 : Int) (w : World) (hr0 : Kd.C (Kd.int .u8) w A0 l0.length l0) (hc0 : l0.length ≤ c0) (h : pandectref2_TakeSlot.f k l0 = some (r1, r2, r3)) :
    Calls Try.prog 37 #[.slice A0 l0.length c0] w fun e w' => ∃ v1_ : Value, e = .returned (.tuple #[.int .u64 r1, v1_, .int .i64 r3]) ∧ Kd.R (Kd.int .u8) 5 w' w.heap.size (fun _ => True) v1_ r2 ∧ Below w.heap.size w w' := by
  have HR0 := Aside0.mk hr0
  have HC0 := Aside0.mk hc0
  clear hr0 hc0
  have HB := Aside0.mk (Below.refl w.heap.size w)
  have H : (if (l0.length : Int) = 128 then (if 10 < (l0.length : Int) then (pandectref2_TakeSlot.j0 k l0 (decide ((wrap64 (rd l0 10)) > 113))) else (none)) else (pandectref2_TakeSlot.j0 k l0 true)) = some (r1, r2, r3) := h
  clear h
  have HC2 := Aside0.mk H
  clear H
  go_enter Try.func37, Try.ntmps37
  go_upto_region 1 with (fail)
  repeat (go_quiet (fail); go_upto_region 1 with (fail))
  go_cut [18] (fun v18 wc => ∃ (kq : Nat) (x18_1 : Bool), v18 = .bool x18_1 ∧ Aside0 (pandectref2_TakeSlot.j0 kq l0 x18_1 = some (r1, r2, r3)) ∧ Aside0 (kq ≤ k) ∧ Aside0 (Below w.heap.size w wc))
  case first =>
    have H := HC2.out
    clear HC2
    by_cases c3 : (l0.length : Int) = 128
    · rw [if_pos c3] at H
      have c3b0 : ((l0.length : Int) == 128) = true := beq_iff_eq.mpr c3
      have c3b1 : ((l0.length : Int) != 128) = false := bne_eq_false_iff_eq.mpr c3
      clear c3
      (first | rw [c3b0] | (simp only [i64_w, i32_w]; rw [c3b0]) | skip)
      by_cases c4 : 10 < (l0.length : Int)
      · rw [if_pos c4] at H
        have c4b0 : decide (10 < (l0.length : Int)) = true := decide_eq_true c4
        have c4b1 : decide (10 < l0.length) = true := decide_eq_true (by omega)
        clear c4
        have H' := Aside0.mk H
        clear H
        have p171 : 0 ≤ (10 : Int) := (by omega)
        have q171 : 10 < (l0.length : Int) := of_decide_eq_true (by first | (with_reducible assumption) | assumption)
        obtain ⟨ad171, e171, hx171_0⟩ := Kd.at_int HR0.out 10 p171 q171
        cases e171
        (try simp only [show (10 : Int).toNat = 10 from rfl, Nat.reduceMul, Nat.reduceEqDiff, Go.Addr.add, ↓reduceIte] at hx171_0)
        have qi171 : (10 < l0.length) = True := eq_true (by omega)
        (try rw [show ((10 : Int)).toNat = 10 from rfl] at hx171_0)
        replace hx171_0 := (HB.out.cell (World.block_lt_of_cell? w _ hx171_0)).trans hx171_0
        replace p171 := eq_true p171
        replace q171 := eq_true q171
        go_wp2
        repeat (go_quiet (fail); try go_wp2)
        go_meet
        case rel => exact ⟨_, (decide ((wrap64 (rd l0 10)) > 113)), (by first | rfl | (simp; done) | (simp [*]; done)), H', ⟨by first | omega | exact Nat.le_refl _⟩, ⟨by repeat (first | (with_reducible first | exact HB.out | apply below_alloc | apply pw_below_drewN | apply below_drew1) | exact HB.out)⟩⟩
      · rw [if_neg c4] at H
        exact absurd H (by simp)
    · rw [if_neg c3] at H
      have c3b0 : ((l0.length : Int) == 128) = false := beq_eq_false_iff_ne.mpr c3
      have c3b1 : ((l0.length : Int) != 128) = true := bne_iff_ne.mpr c3
      (first | rw [c3b0] | (simp only [i64_w, i32_w]; rw [c3b0]) | skip)
      have H' := Aside0.mk H
      clear H
      go_wp2
      repeat (go_quiet (fail); try go_wp2)
      go_meet
      case rel => exact ⟨_, (true), (by first | rfl | (simp; done) | (simp [*]; done)), H', ⟨by first | omega | exact Nat.le_refl _⟩, ⟨by repeat (first | (with_reducible first | exact HB.out | apply below_alloc | apply pw_below_drewN | apply below_drew1) | exact HB.out)⟩⟩
  case rest =>
    clear HC2
    try clear p1
    try clear q1
    try clear hx1
    try clear qi1
    try clear p2
    try clear c3
    try clear c3b0
    try clear c3b1
    try clear c4
    try clear c4b0
    try clear c4b1
    try clear hx171_0
    try clear p171
    try clear q171
    obtain ⟨kq, x18_1, rfl, HA, HJ1, HB⟩ := hcut
    cases kq with
    | zero => exact absurd HA.out (by simp [pandectref2_TakeSlot.j0])
    | succ kj1 =>
      have H := HA.out
      clear HA
      simp only [pandectref2_TakeSlot.j0] at H
      by_cases c5 : x18_1 = true
      · subst c5
        have H1 : (some (0, ([] : List Int), 2)) = some (r1, r2, r3) := by rw [if_pos rfl] at H; exact H
        clear H
        have H := H1
        clear H1
        simp only [Option.some.injEq, Prod.mk.injEq] at H
        obtain ⟨rfl, rfl, rfl⟩ := H
        go_wp2
        repeat (go_quiet (fail); try go_wp2)
        go_ret3
        exact ⟨_, by first | rfl | (simp [errW_none, errW_some] <;> rfl) | (simp [*, errW_none, errW_some] <;> rfl), by first | exact Kd.R_nil _ _ _ _ _ | exact Kd.N_nil _ _ _ _ _ | exact Kd.V_nil _ _ _ _ _ | exact Kd.Q_nil _ _ _ _ _ | exact Kd.S_nil _ _ _ _ _, by repeat (first | (with_reducible first | exact HB.out | apply below_alloc | apply pw_below_drewN | apply below_drew1) | exact HB.out)⟩
      · replace c5 := Bool.eq_false_iff.mpr c5
        subst c5
        have H1 : (if 2 ≤ 10 then (if 10 ≤ (l0.length : Int) then ((pandectref2_Num.f kj1 ((l0.take 10).drop 2)).bind fun t176 => (if 10 < (l0.length : Int) then (if 11 ≤ (wrap64 (11 + (wrap64 (rd l0 10)))) then (if (wrap64 (11 + (wrap64 (rd l0 10)))) ≤ (l0.length : Int) then ((some ((l0.take ((wrap64 (11 + (wrap64 (rd l0 10)))) : Int).toNat).drop 11 : List Int)).bind fun y178 => ((pandectref2_PutSlot.f kj1 t176 y178).bind fun bt182 => (if (strOfNums bt182.1).toList = (strOfNums l0).toList then ((some (([] : List Int) : List Int)).bind fun y186 => (if y186.length + y178.length < 140737488355328 then (some (t176, (y186 ++ y178), 0)) else (none))) else (some (0, ([] : List Int), 2))))) else (none)) else (none)) else (none))) else (none)) else (none)) = some (r1, r2, r3) := by rw [if_neg (show ¬ (false = true) by decide)] at H; exact H
        clear H
        have H := H1
        clear H1
        by_cases c6 : 2 ≤ 10
        · rw [if_pos c6] at H
          have c6b0 := eq_true c6
          have c6b1 : decide (2 ≤ 10) = true := decide_eq_true c6
          clear c6
          by_cases c7 : 10 ≤ (l0.length : Int)
          · rw [if_pos c7] at H
            have c7b0 := eq_true c7
            have c7b1 : decide (10 ≤ (l0.length : Int)) = true := decide_eq_true c7
            clear c7
            obtain ⟨y172, hy172⟩ : ∃ y_ : List Int, y_ = ((l0.take 10).drop 2) := ⟨_, rfl⟩
            replace H : ((pandectref2_Num.f kj1 y172).bind fun t176 => (if 10 < (l0.length : Int) then (if 11 ≤ (wrap64 (11 + (wrap64 (rd l0 10)))) then (if (wrap64 (11 + (wrap64 (rd l0 10)))) ≤ (l0.length : Int) then ((some ((l0.take ((wrap64 (11 + (wrap64 (rd l0 10)))) : Int).toNat).drop 11 : List Int)).bind fun y178 => ((pandectref2_PutSlot.f kj1 t176 y178).bind fun bt182 => (if (strOfNums bt182.1).toList = (strOfNums l0).toList then ((some (([] : List Int) : List Int)).bind fun y186 => (if y186.length + y178.length < 140737488355328 then (some (t176, (y186 ++ y178), 0)) else (none))) else (some (0, ([] : List Int), 2))))) else (none)) else (none)) else (none))) = some (r1, r2, r3) := by first | (rw [hy172]; with_reducible exact H) | (have H2_ := (Option.bind_some _ _).symm.trans H; rw [hy172]; with_reducible exact H2_) | (have H2_ := (Option.bind_some _ _).symm.trans H; with_reducible exact H2_) | with_reducible exact H | (rw [hy172]; exact H) | exact H
            have Ny172 := Aside0.mk hy172
            clear hy172
            replace H := Option.bind_eq_some_iff.mp H
            obtain ⟨t176, A80, H⟩ := H
            replace H : (if 10 < (l0.length : Int) then (if 11 ≤ (wrap64 (11 + (wrap64 (rd l0 10)))) then (if (wrap64 (11 + (wrap64 (rd l0 10)))) ≤ (l0.length : Int) then ((some ((l0.take ((wrap64 (11 + (wrap64 (rd l0 10)))) : Int).toNat).drop 11 : List Int)).bind fun y178 => ((pandectref2_PutSlot.f kj1 t176 y178).bind fun bt182 => (if (strOfNums bt182.1).toList = (strOfNums l0).toList then ((some (([] : List Int) : List Int)).bind fun y186 => (if y186.length + y178.length < 140737488355328 then (some (t176, (y186 ++ y178), 0)) else (none))) else (some (0, ([] : List Int), 2))))) else (none)) else (none)) else (none)) = some (r1, r2, r3) := H
            have A8 := Aside0.mk A80
            clear A80
            by_cases c9 : 10 < (l0.length : Int)
            · rw [if_pos c9] at H
              have c9b0 : decide (10 < (l0.length : Int)) = true := decide_eq_true c9
              have c9b1 : decide (10 < l0.length) = true := decide_eq_true (by omega)
              clear c9
              by_cases c10 : 11 ≤ (wrap64 (11 + (wrap64 (rd l0 10))))
              · rw [if_pos c10] at H
                have c10b0 := eq_true c10
                have c10b1 : decide (11 ≤ (wrap64 (11 + (wrap64 (rd l0 10))))) = true := decide_eq_true c10
                by_cases c11 : (wrap64 (11 + (wrap64 (rd l0 10)))) ≤ (l0.length : Int)
                · rw [if_pos c11] at H
                  have c11b0 := eq_true c11
                  have c11b1 : decide ((wrap64 (11 + (wrap64 (rd l0 10)))) ≤ (l0.length : Int)) = true := decide_eq_true c11
                  obtain ⟨y178, hy178⟩ : ∃ y_ : List Int, y_ = ((l0.take ((wrap64 (11 + (wrap64 (rd l0 10)))) : Int).toNat).drop 11) := ⟨_, rfl⟩
                  replace H : ((pandectref2_PutSlot.f kj1 t176 y178).bind fun bt182 => (if (strOfNums bt182.1).toList = (strOfNums l0).toList then ((some (([] : List Int) : List Int)).bind fun y186 => (if y186.length + y178.length < 140737488355328 then (some (t176, (y186 ++ y178), 0)) else (none))) else (some (0, ([] : List Int), 2)))) = some (r1, r2, r3) := by first | (rw [hy178]; with_reducible exact H) | (have H2_ := (Option.bind_some _ _).symm.trans H; rw [hy178]; with_reducible exact H2_) | (have H2_ := (Option.bind_some _ _).symm.trans H; with_reducible exact H2_) | with_reducible exact H | (rw [hy178]; exact H) | exact H
                  have Ny178 := Aside0.mk hy178
                  clear hy178
                  replace H := Option.bind_eq_some_iff.mp H
                  obtain ⟨⟨t182, t183⟩, A120, H⟩ := H
                  replace H : (if (strOfNums t182).toList = (strOfNums l0).toList then ((some (([] : List Int) : List Int)).bind fun y186 => (if y186.length + y178.length < 140737488355328 then (some (t176, (y186 ++ y178), 0)) else (none))) else (some (0, ([] : List Int), 2))) = some (r1, r2, r3) := H
                  have A12 := Aside0.mk A120
                  clear A120
                  by_cases c13 : (strOfNums t182).toList = (strOfNums l0).toList
                  · rw [if_pos c13] at H
                    have c13b0 : ((strOfNums t182).toList == (strOfNums l0).toList) = true := beq_iff_eq.mpr c13
                    have c13b1 : ((strOfNums t182).toList != (strOfNums l0).toList) = false := bne_eq_false_iff_eq.mpr c13
                    clear c13
                    obtain ⟨y186, hy186⟩ : ∃ y_ : List Int, y_ = (([] : List Int)) := ⟨_, rfl⟩
                    replace H : (if y186.length + y178.length < 140737488355328 then (some (t176, (y186 ++ y178), 0)) else (none)) = some (r1, r2, r3) := by first | (rw [hy186]; with_reducible exact H) | (have H2_ := (Option.bind_some _ _).symm.trans H; rw [hy186]; with_reducible exact H2_) | (have H2_ := (Option.bind_some _ _).symm.trans H; with_reducible exact H2_) | with_reducible exact H | (rw [hy186]; exact H) | exact H
                    have Ny186 := Aside0.mk hy186
                    clear hy186
                    by_cases c14 : y186.length + y178.length < 140737488355328
                    · rw [if_pos c14] at H
                      have LMc14 := Aside0.mk c14
                      clear c14
                      obtain ⟨y189, hy189⟩ : ∃ y_ : List Int, y_ = (y186 ++ y178) := ⟨_, rfl⟩
                      replace H : (some (t176, y189, 0)) = some (r1, r2, r3) := by first | (rw [hy189]; with_reducible exact H) | (have H2_ := (Option.bind_some _ _).symm.trans H; rw [hy189]; with_reducible exact H2_) | (have H2_ := (Option.bind_some _ _).symm.trans H; with_reducible exact H2_) | with_reducible exact H | (rw [hy189]; exact H) | exact H
                      have Ny189 := Aside0.mk hy189
                      clear hy189
                      simp only [Option.some.injEq, Prod.mk.injEq] at H
                      obtain ⟨rfl, rfl, rfl⟩ := H
                      obtain ⟨i015, hi015, _, hsz15, _⟩ := info_parts info5
                      obtain ⟨A15, hcut15, hA15, hC15⟩ := print_mid_of (P := Try.prog) (Value.int .u8) 0 22 5 .i64 .i64 Try.underlying22 hi015 hsz15 A0 c0 l0 2 10 (by omega) (by first | omega | exact of_decide_eq_true (by first | (with_reducible assumption) | assumption)) (of_decide_eq_true (by first | (with_reducible assumption) | assumption)) HC0.out
                      (try simp only [Int.reduceToNat] at hcut15 hA15 hC15)
                      rw [← Ny172.out] at hcut15 hA15 hC15
                      have HR175 := Aside0.mk (Kd.C_of_reads (h1 := fun _ => rfl) (hA15 _ (Kd.reads_of_C HR0.out)))
                      have HC175 := Aside0.mk hC15
                      clear hA15 hC15 hi015 hsz15
                      (have p177 : 0 ≤ (10 : Int) := (by omega); have q177 : 10 < (l0.length : Int) := of_decide_eq_true (by first | (with_reducible assumption) | assumption); obtain ⟨ad177, e177, hx177_0⟩ := Kd.at_int HR0.out 10 p177 q177; cases e177; (try simp only [show (10 : Int).toNat = 10 from rfl, Nat.reduceMul, Nat.reduceEqDiff, Go.Addr.add, ↓reduceIte] at hx177_0); have qi177 : (10 < l0.length) = True := eq_true (by omega); (try rw [show ((10 : Int)).toNat = 10 from rfl] at hx177_0); replace hx177_0 := (HB.out.cell (World.block_lt_of_cell? w _ hx177_0)).trans hx177_0; replace p177 := eq_true p177; replace q177 := eq_true q177; obtain ⟨i016, hi016, _, hsz16, _⟩ := info_parts info5; obtain ⟨A16, hcut16, hA16, hC16⟩ := print_mid_of (P := Try.prog) (Value.int .u8) 0 22 5 .i64 .i64 Try.underlying22 hi016 hsz16 (some ad177) c0 l0 11 (wrap64 (11 + (wrap64 (rd l0 10)))) (by omega) (by first | omega | exact of_decide_eq_true (by first | (with_reducible assumption) | assumption)) (of_decide_eq_true (by first | (with_reducible assumption) | assumption)) HC0.out; (try simp only [Int.reduceToNat] at hcut16 hA16 hC16); rw [← Ny178.out] at hcut16 hA16 hC16; have HR181 := Aside0.mk (Kd.C_of_reads (h1 := fun _ => rfl) (hA16 _ (Kd.reads_of_C HR0.out))); have HC181 := Aside0.mk hC16; clear hA16 hC16 hi016 hsz16)
                      go_wp2_with (first | (go_at_call 47; (with_reducible refine (pandectref2_Num.calls kj1 _ _ y172 t176 _ ?side1 ?side2 A8.out).mono ?_); (case side1 => repeat (first | exact (Kd.C_below HR175.out HB.out) | (with_reducible refine Kd.C_alloc ?_ _) | (with_reducible refine Kd.C_drewN ?_ _) | (with_reducible refine Kd.C_drew ?_))); (case side2 => exact HC175.out); rintro e w' ⟨rfl, ⟨nd, rfl⟩⟩; (try first | exact ⟨rfl, _, World.drewN_drewN _ _ _⟩ | exact ⟨rfl, _, Eq.trans (World.drewN_drewN _ _ _) (congrArg (World.drewN _) (Nat.add_assoc _ _ _))⟩)) | (go_at_call 35; (with_reducible refine (pandectref2_PutSlot.calls kj1 t176 _ _ y178 t182 t183 _ ?side1 ?side2 A12.out).mono ?_); (case side1 => repeat (first | exact (Kd.C_below HR181.out (by repeat (first | (with_reducible first | exact HB.out | apply below_alloc | apply pw_below_drewN | apply below_drew1) | exact HB.out))) | (with_reducible refine Kd.C_alloc ?_ _) | (with_reducible refine Kd.C_drewN ?_ _) | (with_reducible refine Kd.C_drew ?_))); (case side2 => exact HC181.out); rintro e w17 ⟨v184, rfl, ho0, hb⟩; have n0_ := Aside0.mk (Kd.R_lower ho0 (below_size (by repeat (first | (with_reducible first | exact HB.out | apply below_alloc | apply pw_below_drewN | apply below_drew1) | exact HB.out)))); have n1_ := Aside0.mk (below_step (by repeat (first | (with_reducible first | exact HB.out | apply below_alloc | apply pw_below_drewN | apply below_drew1) | exact HB.out)) hb); clear HB; have HO185 := n0_; have HB := n1_; clear n0_ n1_; (try clear hb); (try clear hb2); (try clear hk); (try clear hi); (try clear ho0); have hcv18 := own_string (P := Try.prog) Try.underlying22 Try.underlying5 Try.underlying9 (Kd.own_of_R HO185.out); have hcv19 := fun nd_ : Nat => own_string (P := Try.prog) Try.underlying22 Try.underlying5 Try.underlying9 (Kd.own_of_R (Kd.R_drewN HO185.out nd_)); have hcv20 := Kd.C_string (P := Try.prog) (A := (some ad177)) (c := c0) Try.underlying22 Try.underlying5 Try.underlying9 (Kd.C_below HR0.out HB.out)) | ((with_reducible refine gate_dst (N := 41) rfl ?_); refine Kd.R_lit (Kd.int .u8) _ 5 ?hg (N := 41) ?hd (xs := ([] : List Int)) (inner := []) (ok := fun _ => True) (okp := fun _ => True) ?hr ?hp (fun _ hk => hk) trivial (Below.refl _ _) (Nat.le_refl _) (by simp) ?_; (case hd => rfl); (case hg => rfl); (case hr => first | (go_simp; done) | (go_simp; rfl)); (case hp => exact (Reps.none _ _)); intro v187 w21 ho22 hb hg_ hnew_; clear hg_ hnew_; (first | rw [← Ny186.out] at ho22 | (simp only [Int.reduceToNat] at ho22; rw [← Ny186.out] at ho22)); have n0_ := Aside0.mk (Kd.R_elder' (by (with_reducible repeat (first | apply Kd.R_alloc | apply Kd.R_drewN | apply Kd.R_drew)); exact HO185.out) (Kd.R_base ho22) hb); have n1_ := Aside0.mk (Kd.R_lower (Kd.R_new' ho22 (Kd.R_lt (by (with_reducible repeat (first | apply Kd.R_alloc | apply Kd.R_drewN | apply Kd.R_drew)); exact HO185.out))) (below_size (by repeat (first | (with_reducible first | exact HB.out | apply below_alloc | apply pw_below_drewN | apply below_drew1) | exact HB.out)))); have n2_ := Aside0.mk (below_step (by repeat (first | (with_reducible first | exact HB.out | apply below_alloc | apply pw_below_drewN | apply below_drew1) | exact HB.out)) hb); clear HO185; clear HB; have HO185 := n0_; have HO188 := n1_; have HB := n2_; clear n0_ n1_ n2_; clear hb ho22) | ((with_reducible refine gate_builtin (b := .append) (xs := #[.tmp 41, .tmp 42]) rfl ?_); at_builtin; refine Kd.R_append_rows (Kd.int .u8) (w0 := w) w.heap.size rfl (.tmp 41) (.tmp 42) 22 5 (.int .u8 0) 1 rfl Try.underlying22 info5 rfl (by decide) (by omega) v187 y186 y178 _ _ _ (fun k_ => some k_ ≠ (v184 : Value).ownBlock) (fun _ => False) rfl rfl ?aO ?aR (fun _ _ h => h) (fun _ h => h.elim) ?aF ?aB ?aS ?aL ?_; (case aR => repeat (first | exact (Kd.C_below HR181.out HB.out) | (with_reducible refine Kd.C_alloc ?_ _) | (with_reducible refine Kd.C_drewN ?_ _) | (with_reducible refine Kd.C_drew ?_))); (case aB => exact (by repeat (first | (with_reducible first | exact HB.out | apply below_alloc | apply pw_below_drewN | apply below_drew1) | exact HB.out))); (case aF => exact (fun k_ hk => Kd.fresh' (Kd.R_lt (by (with_reducible repeat (first | apply Kd.R_alloc | apply Kd.R_drewN | apply Kd.R_drew)); exact HO185.out)) k_ hk)); (case aO => exact (by (with_reducible repeat (first | apply Kd.R_alloc | apply Kd.R_drewN | apply Kd.R_drew)); exact Kd.R_mono HO188.out (fun _ hk => hk.2))); (case aS => exact (below_size (by repeat (first | (with_reducible first | exact HB.out | apply below_alloc | apply pw_below_drewN | apply below_drew1) | exact HB.out)))); (case aL => have := LMc14.out; omega); intro v190 w23 ho hb hg hat; rw [← Ny189.out] at ho; have n0_ := Aside0.mk (Kd.R_after (ok := (fun _ => True)) (by (with_reducible repeat (first | apply Kd.R_alloc | apply Kd.R_drewN | apply Kd.R_drew)); exact HO185.out) hg hat); have n1_ := Aside0.mk (hb); have n2_ := Aside0.mk (ho); clear HO185; clear HB; clear HO188; have HO185 := n0_; have HB := n1_; have HO191 := n2_; clear n0_ n1_ n2_; clear ho hb hg hat))
                      repeat (go_quiet (first | (go_at_call 47; (with_reducible refine (pandectref2_Num.calls kj1 _ _ y172 t176 _ ?side1 ?side2 A8.out).mono ?_); (case side1 => repeat (first | exact (Kd.C_below HR175.out HB.out) | (with_reducible refine Kd.C_alloc ?_ _) | (with_reducible refine Kd.C_drewN ?_ _) | (with_reducible refine Kd.C_drew ?_))); (case side2 => exact HC175.out); rintro e w' ⟨rfl, ⟨nd, rfl⟩⟩; (try first | exact ⟨rfl, _, World.drewN_drewN _ _ _⟩ | exact ⟨rfl, _, Eq.trans (World.drewN_drewN _ _ _) (congrArg (World.drewN _) (Nat.add_assoc _ _ _))⟩)) | (go_at_call 35; (with_reducible refine (pandectref2_PutSlot.calls kj1 t176 _ _ y178 t182 t183 _ ?side1 ?side2 A12.out).mono ?_); (case side1 => repeat (first | exact (Kd.C_below HR181.out (by repeat (first | (with_reducible first | exact HB.out | apply below_alloc | apply pw_below_drewN | apply below_drew1) | exact HB.out))) | (with_reducible refine Kd.C_alloc ?_ _) | (with_reducible refine Kd.C_drewN ?_ _) | (with_reducible refine Kd.C_drew ?_))); (case side2 => exact HC181.out); rintro e w17 ⟨v184, rfl, ho0, hb⟩; have n0_ := Aside0.mk (Kd.R_lower ho0 (below_size (by repeat (first | (with_reducible first | exact HB.out | apply below_alloc | apply pw_below_drewN | apply below_drew1) | exact HB.out)))); have n1_ := Aside0.mk (below_step (by repeat (first | (with_reducible first | exact HB.out | apply below_alloc | apply pw_below_drewN | apply below_drew1) | exact HB.out)) hb); clear HB; have HO185 := n0_; have HB := n1_; clear n0_ n1_; (try clear hb); (try clear hb2); (try clear hk); (try clear hi); (try clear ho0); have hcv18 := own_string (P := Try.prog) Try.underlying22 Try.underlying5 Try.underlying9 (Kd.own_of_R HO185.out); have hcv19 := fun nd_ : Nat => own_string (P := Try.prog) Try.underlying22 Try.underlying5 Try.underlying9 (Kd.own_of_R (Kd.R_drewN HO185.out nd_)); have hcv20 := Kd.C_string (P := Try.prog) (A := (some ad177)) (c := c0) Try.underlying22 Try.underlying5 Try.underlying9 (Kd.C_below HR0.out HB.out)) | ((with_reducible refine gate_dst (N := 41) rfl ?_); refine Kd.R_lit (Kd.int .u8) _ 5 ?hg (N := 41) ?hd (xs := ([] : List Int)) (inner := []) (ok := fun _ => True) (okp := fun _ => True) ?hr ?hp (fun _ hk => hk) trivial (Below.refl _ _) (Nat.le_refl _) (by simp) ?_; (case hd => rfl); (case hg => rfl); (case hr => first | (go_simp; done) | (go_simp; rfl)); (case hp => exact (Reps.none _ _)); intro v187 w21 ho22 hb hg_ hnew_; clear hg_ hnew_; (first | rw [← Ny186.out] at ho22 | (simp only [Int.reduceToNat] at ho22; rw [← Ny186.out] at ho22)); have n0_ := Aside0.mk (Kd.R_elder' (by (with_reducible repeat (first | apply Kd.R_alloc | apply Kd.R_drewN | apply Kd.R_drew)); exact HO185.out) (Kd.R_base ho22) hb); have n1_ := Aside0.mk (Kd.R_lower (Kd.R_new' ho22 (Kd.R_lt (by (with_reducible repeat (first | apply Kd.R_alloc | apply Kd.R_drewN | apply Kd.R_drew)); exact HO185.out))) (below_size (by repeat (first | (with_reducible first | exact HB.out | apply below_alloc | apply pw_below_drewN | apply below_drew1) | exact HB.out)))); have n2_ := Aside0.mk (below_step (by repeat (first | (with_reducible first | exact HB.out | apply below_alloc | apply pw_below_drewN | apply below_drew1) | exact HB.out)) hb); clear HO185; clear HB; have HO185 := n0_; have HO188 := n1_; have HB := n2_; clear n0_ n1_ n2_; clear hb ho22) | ((with_reducible refine gate_builtin (b := .append) (xs := #[.tmp 41, .tmp 42]) rfl ?_); at_builtin; refine Kd.R_append_rows (Kd.int .u8) (w0 := w) w.heap.size rfl (.tmp 41) (.tmp 42) 22 5 (.int .u8 0) 1 rfl Try.underlying22 info5 rfl (by decide) (by omega) v187 y186 y178 _ _ _ (fun k_ => some k_ ≠ (v184 : Value).ownBlock) (fun _ => False) rfl rfl ?aO ?aR (fun _ _ h => h) (fun _ h => h.elim) ?aF ?aB ?aS ?aL ?_; (case aR => repeat (first | exact (Kd.C_below HR181.out HB.out) | (with_reducible refine Kd.C_alloc ?_ _) | (with_reducible refine Kd.C_drewN ?_ _) | (with_reducible refine Kd.C_drew ?_))); (case aB => exact (by repeat (first | (with_reducible first | exact HB.out | apply below_alloc | apply pw_below_drewN | apply below_drew1) | exact HB.out))); (case aF => exact (fun k_ hk => Kd.fresh' (Kd.R_lt (by (with_reducible repeat (first | apply Kd.R_alloc | apply Kd.R_drewN | apply Kd.R_drew)); exact HO185.out)) k_ hk)); (case aO => exact (by (with_reducible repeat (first | apply Kd.R_alloc | apply Kd.R_drewN | apply Kd.R_drew)); exact Kd.R_mono HO188.out (fun _ hk => hk.2))); (case aS => exact (below_size (by repeat (first | (with_reducible first | exact HB.out | apply below_alloc | apply pw_below_drewN | apply below_drew1) | exact HB.out)))); (case aL => have := LMc14.out; omega); intro v190 w23 ho hb hg hat; rw [← Ny189.out] at ho; have n0_ := Aside0.mk (Kd.R_after (ok := (fun _ => True)) (by (with_reducible repeat (first | apply Kd.R_alloc | apply Kd.R_drewN | apply Kd.R_drew)); exact HO185.out) hg hat); have n1_ := Aside0.mk (hb); have n2_ := Aside0.mk (ho); clear HO185; clear HB; clear HO188; have HO185 := n0_; have HB := n1_; have HO191 := n2_; clear n0_ n1_ n2_; clear ho hb hg hat)); try go_wp2_with (first | (go_at_call 47; (with_reducible refine (pandectref2_Num.calls kj1 _ _ y172 t176 _ ?side1 ?side2 A8.out).mono ?_); (case side1 => repeat (first | exact (Kd.C_below HR175.out HB.out) | (with_reducible refine Kd.C_alloc ?_ _) | (with_reducible refine Kd.C_drewN ?_ _) | (with_reducible refine Kd.C_drew ?_))); (case side2 => exact HC175.out); rintro e w' ⟨rfl, ⟨nd, rfl⟩⟩; (try first | exact ⟨rfl, _, World.drewN_drewN _ _ _⟩ | exact ⟨rfl, _, Eq.trans (World.drewN_drewN _ _ _) (congrArg (World.drewN _) (Nat.add_assoc _ _ _))⟩)) | (go_at_call 35; (with_reducible refine (pandectref2_PutSlot.calls kj1 t176 _ _ y178 t182 t183 _ ?side1 ?side2 A12.out).mono ?_); (case side1 => repeat (first | exact (Kd.C_below HR181.out (by repeat (first | (with_reducible first | exact HB.out | apply below_alloc | apply pw_below_drewN | apply below_drew1) | exact HB.out))) | (with_reducible refine Kd.C_alloc ?_ _) | (with_reducible refine Kd.C_drewN ?_ _) | (with_reducible refine Kd.C_drew ?_))); (case side2 => exact HC181.out); rintro e w17 ⟨v184, rfl, ho0, hb⟩; have n0_ := Aside0.mk (Kd.R_lower ho0 (below_size (by repeat (first | (with_reducible first | exact HB.out | apply below_alloc | apply pw_below_drewN | apply below_drew1) | exact HB.out)))); have n1_ := Aside0.mk (below_step (by repeat (first | (with_reducible first | exact HB.out | apply below_alloc | apply pw_below_drewN | apply below_drew1) | exact HB.out)) hb); clear HB; have HO185 := n0_; have HB := n1_; clear n0_ n1_; (try clear hb); (try clear hb2); (try clear hk); (try clear hi); (try clear ho0); have hcv18 := own_string (P := Try.prog) Try.underlying22 Try.underlying5 Try.underlying9 (Kd.own_of_R HO185.out); have hcv19 := fun nd_ : Nat => own_string (P := Try.prog) Try.underlying22 Try.underlying5 Try.underlying9 (Kd.own_of_R (Kd.R_drewN HO185.out nd_)); have hcv20 := Kd.C_string (P := Try.prog) (A := (some ad177)) (c := c0) Try.underlying22 Try.underlying5 Try.underlying9 (Kd.C_below HR0.out HB.out)) | ((with_reducible refine gate_dst (N := 41) rfl ?_); refine Kd.R_lit (Kd.int .u8) _ 5 ?hg (N := 41) ?hd (xs := ([] : List Int)) (inner := []) (ok := fun _ => True) (okp := fun _ => True) ?hr ?hp (fun _ hk => hk) trivial (Below.refl _ _) (Nat.le_refl _) (by simp) ?_; (case hd => rfl); (case hg => rfl); (case hr => first | (go_simp; done) | (go_simp; rfl)); (case hp => exact (Reps.none _ _)); intro v187 w21 ho22 hb hg_ hnew_; clear hg_ hnew_; (first | rw [← Ny186.out] at ho22 | (simp only [Int.reduceToNat] at ho22; rw [← Ny186.out] at ho22)); have n0_ := Aside0.mk (Kd.R_elder' (by (with_reducible repeat (first | apply Kd.R_alloc | apply Kd.R_drewN | apply Kd.R_drew)); exact HO185.out) (Kd.R_base ho22) hb); have n1_ := Aside0.mk (Kd.R_lower (Kd.R_new' ho22 (Kd.R_lt (by (with_reducible repeat (first | apply Kd.R_alloc | apply Kd.R_drewN | apply Kd.R_drew)); exact HO185.out))) (below_size (by repeat (first | (with_reducible first | exact HB.out | apply below_alloc | apply pw_below_drewN | apply below_drew1) | exact HB.out)))); have n2_ := Aside0.mk (below_step (by repeat (first | (with_reducible first | exact HB.out | apply below_alloc | apply pw_below_drewN | apply below_drew1) | exact HB.out)) hb); clear HO185; clear HB; have HO185 := n0_; have HO188 := n1_; have HB := n2_; clear n0_ n1_ n2_; clear hb ho22) | ((with_reducible refine gate_builtin (b := .append) (xs := #[.tmp 41, .tmp 42]) rfl ?_); at_builtin; refine Kd.R_append_rows (Kd.int .u8) (w0 := w) w.heap.size rfl (.tmp 41) (.tmp 42) 22 5 (.int .u8 0) 1 rfl Try.underlying22 info5 rfl (by decide) (by omega) v187 y186 y178 _ _ _ (fun k_ => some k_ ≠ (v184 : Value).ownBlock) (fun _ => False) rfl rfl ?aO ?aR (fun _ _ h => h) (fun _ h => h.elim) ?aF ?aB ?aS ?aL ?_; (case aR => repeat (first | exact (Kd.C_below HR181.out HB.out) | (with_reducible refine Kd.C_alloc ?_ _) | (with_reducible refine Kd.C_drewN ?_ _) | (with_reducible refine Kd.C_drew ?_))); (case aB => exact (by repeat (first | (with_reducible first | exact HB.out | apply below_alloc | apply pw_below_drewN | apply below_drew1) | exact HB.out))); (case aF => exact (fun k_ hk => Kd.fresh' (Kd.R_lt (by (with_reducible repeat (first | apply Kd.R_alloc | apply Kd.R_drewN | apply Kd.R_drew)); exact HO185.out)) k_ hk)); (case aO => exact (by (with_reducible repeat (first | apply Kd.R_alloc | apply Kd.R_drewN | apply Kd.R_drew)); exact Kd.R_mono HO188.out (fun _ hk => hk.2))); (case aS => exact (below_size (by repeat (first | (with_reducible first | exact HB.out | apply below_alloc | apply pw_below_drewN | apply below_drew1) | exact HB.out)))); (case aL => have := LMc14.out; omega); intro v190 w23 ho hb hg hat; rw [← Ny189.out] at ho; have n0_ := Aside0.mk (Kd.R_after (ok := (fun _ => True)) (by (with_reducible repeat (first | apply Kd.R_alloc | apply Kd.R_drewN | apply Kd.R_drew)); exact HO185.out) hg hat); have n1_ := Aside0.mk (hb); have n2_ := Aside0.mk (ho); clear HO185; clear HB; clear HO188; have HO185 := n0_; have HB := n1_; have HO191 := n2_; clear n0_ n1_ n2_; clear ho hb hg hat)))
                      go_ret3
                      exact ⟨_, by first | rfl | (simp [errW_none, errW_some] <;> rfl) | (simp [*, errW_none, errW_some] <;> rfl), by (with_reducible repeat (first | apply Kd.R_alloc | apply Kd.R_drewN | apply Kd.R_drew)); exact Kd.R_mono HO191.out (fun _ hk => trivial), by repeat (first | (with_reducible first | exact HB.out | apply below_alloc | apply pw_below_drewN | apply below_drew1) | exact HB.out)⟩
                    · rw [if_neg c14] at H
                      exact absurd H (by simp)
                  · rw [if_neg c13] at H
                    have c13b0 : ((strOfNums t182).toList == (strOfNums l0).toList) = false := beq_eq_false_iff_ne.mpr c13
                    have c13b1 : ((strOfNums t182).toList != (strOfNums l0).toList) = true := bne_iff_ne.mpr c13
                    simp only [Option.some.injEq, Prod.mk.injEq] at H
                    obtain ⟨rfl, rfl, rfl⟩ := H
                    obtain ⟨i024, hi024, _, hsz24, _⟩ := info_parts info5
                    obtain ⟨A24, hcut24, hA24, hC24⟩ := print_mid_of (P := Try.prog) (Value.int .u8) 0 22 5 .i64 .i64 Try.underlying22 hi024 hsz24 A0 c0 l0 2 10 (by omega) (by first | omega | exact of_decide_eq_true (by first | (with_reducible assumption) | assumption)) (of_decide_eq_true (by first | (with_reducible assumption) | assumption)) HC0.out
                    (try simp only [Int.reduceToNat] at hcut24 hA24 hC24)
                    rw [← Ny172.out] at hcut24 hA24 hC24
                    have HR175 := Aside0.mk (Kd.C_of_reads (h1 := fun _ => rfl) (hA24 _ (Kd.reads_of_C HR0.out)))
                    have HC175 := Aside0.mk hC24
                    clear hA24 hC24 hi024 hsz24
                    (have p177 : 0 ≤ (10 : Int) := (by omega); have q177 : 10 < (l0.length : Int) := of_decide_eq_true (by first | (with_reducible assumption) | assumption); obtain ⟨ad177, e177, hx177_0⟩ := Kd.at_int HR0.out 10 p177 q177; cases e177; (try simp only [show (10 : Int).toNat = 10 from rfl, Nat.reduceMul, Nat.reduceEqDiff, Go.Addr.add, ↓reduceIte] at hx177_0); have qi177 : (10 < l0.length) = True := eq_true (by omega); (try rw [show ((10 : Int)).toNat = 10 from rfl] at hx177_0); replace hx177_0 := (HB.out.cell (World.block_lt_of_cell? w _ hx177_0)).trans hx177_0; replace p177 := eq_true p177; replace q177 := eq_true q177; obtain ⟨i025, hi025, _, hsz25, _⟩ := info_parts info5; obtain ⟨A25, hcut25, hA25, hC25⟩ := print_mid_of (P := Try.prog) (Value.int .u8) 0 22 5 .i64 .i64 Try.underlying22 hi025 hsz25 (some ad177) c0 l0 11 (wrap64 (11 + (wrap64 (rd l0 10)))) (by omega) (by first | omega | exact of_decide_eq_true (by first | (with_reducible assumption) | assumption)) (of_decide_eq_true (by first | (with_reducible assumption) | assumption)) HC0.out; (try simp only [Int.reduceToNat] at hcut25 hA25 hC25); rw [← Ny178.out] at hcut25 hA25 hC25; have HR181 := Aside0.mk (Kd.C_of_reads (h1 := fun _ => rfl) (hA25 _ (Kd.reads_of_C HR0.out))); have HC181 := Aside0.mk hC25; clear hA25 hC25 hi025 hsz25)
                    go_wp2_with (first | (go_at_call 47; (with_reducible refine (pandectref2_Num.calls kj1 _ _ y172 t176 _ ?side1 ?side2 A8.out).mono ?_); (case side1 => repeat (first | exact (Kd.C_below HR175.out HB.out) | (with_reducible refine Kd.C_alloc ?_ _) | (with_reducible refine Kd.C_drewN ?_ _) | (with_reducible refine Kd.C_drew ?_))); (case side2 => exact HC175.out); rintro e w' ⟨rfl, ⟨nd, rfl⟩⟩; (try first | exact ⟨rfl, _, World.drewN_drewN _ _ _⟩ | exact ⟨rfl, _, Eq.trans (World.drewN_drewN _ _ _) (congrArg (World.drewN _) (Nat.add_assoc _ _ _))⟩)) | (go_at_call 35; (with_reducible refine (pandectref2_PutSlot.calls kj1 t176 _ _ y178 t182 t183 _ ?side1 ?side2 A12.out).mono ?_); (case side1 => repeat (first | exact (Kd.C_below HR181.out (by repeat (first | (with_reducible first | exact HB.out | apply below_alloc | apply pw_below_drewN | apply below_drew1) | exact HB.out))) | (with_reducible refine Kd.C_alloc ?_ _) | (with_reducible refine Kd.C_drewN ?_ _) | (with_reducible refine Kd.C_drew ?_))); (case side2 => exact HC181.out); rintro e w26 ⟨v184, rfl, ho0, hb⟩; have n0_ := Aside0.mk (Kd.R_lower ho0 (below_size (by repeat (first | (with_reducible first | exact HB.out | apply below_alloc | apply pw_below_drewN | apply below_drew1) | exact HB.out)))); have n1_ := Aside0.mk (below_step (by repeat (first | (with_reducible first | exact HB.out | apply below_alloc | apply pw_below_drewN | apply below_drew1) | exact HB.out)) hb); clear HB; have HO185 := n0_; have HB := n1_; clear n0_ n1_; (try clear hb); (try clear hb2); (try clear hk); (try clear hi); (try clear ho0); have hcv27 := own_string (P := Try.prog) Try.underlying22 Try.underlying5 Try.underlying9 (Kd.own_of_R HO185.out); have hcv28 := fun nd_ : Nat => own_string (P := Try.prog) Try.underlying22 Try.underlying5 Try.underlying9 (Kd.own_of_R (Kd.R_drewN HO185.out nd_)); have hcv29 := Kd.C_string (P := Try.prog) (A := (some ad177)) (c := c0) Try.underlying22 Try.underlying5 Try.underlying9 (Kd.C_below HR0.out HB.out)))
                    repeat (go_quiet (first | (go_at_call 47; (with_reducible refine (pandectref2_Num.calls kj1 _ _ y172 t176 _ ?side1 ?side2 A8.out).mono ?_); (case side1 => repeat (first | exact (Kd.C_below HR175.out HB.out) | (with_reducible refine Kd.C_alloc ?_ _) | (with_reducible refine Kd.C_drewN ?_ _) | (with_reducible refine Kd.C_drew ?_))); (case side2 => exact HC175.out); rintro e w' ⟨rfl, ⟨nd, rfl⟩⟩; (try first | exact ⟨rfl, _, World.drewN_drewN _ _ _⟩ | exact ⟨rfl, _, Eq.trans (World.drewN_drewN _ _ _) (congrArg (World.drewN _) (Nat.add_assoc _ _ _))⟩)) | (go_at_call 35; (with_reducible refine (pandectref2_PutSlot.calls kj1 t176 _ _ y178 t182 t183 _ ?side1 ?side2 A12.out).mono ?_); (case side1 => repeat (first | exact (Kd.C_below HR181.out (by repeat (first | (with_reducible first | exact HB.out | apply below_alloc | apply pw_below_drewN | apply below_drew1) | exact HB.out))) | (with_reducible refine Kd.C_alloc ?_ _) | (with_reducible refine Kd.C_drewN ?_ _) | (with_reducible refine Kd.C_drew ?_))); (case side2 => exact HC181.out); rintro e w26 ⟨v184, rfl, ho0, hb⟩; have n0_ := Aside0.mk (Kd.R_lower ho0 (below_size (by repeat (first | (with_reducible first | exact HB.out | apply below_alloc | apply pw_below_drewN | apply below_drew1) | exact HB.out)))); have n1_ := Aside0.mk (below_step (by repeat (first | (with_reducible first | exact HB.out | apply below_alloc | apply pw_below_drewN | apply below_drew1) | exact HB.out)) hb); clear HB; have HO185 := n0_; have HB := n1_; clear n0_ n1_; (try clear hb); (try clear hb2); (try clear hk); (try clear hi); (try clear ho0); have hcv27 := own_string (P := Try.prog) Try.underlying22 Try.underlying5 Try.underlying9 (Kd.own_of_R HO185.out); have hcv28 := fun nd_ : Nat => own_string (P := Try.prog) Try.underlying22 Try.underlying5 Try.underlying9 (Kd.own_of_R (Kd.R_drewN HO185.out nd_)); have hcv29 := Kd.C_string (P := Try.prog) (A := (some ad177)) (c := c0) Try.underlying22 Try.underlying5 Try.underlying9 (Kd.C_below HR0.out HB.out))); try go_wp2_with (first | (go_at_call 47; (with_reducible refine (pandectref2_Num.calls kj1 _ _ y172 t176 _ ?side1 ?side2 A8.out).mono ?_); (case side1 => repeat (first | exact (Kd.C_below HR175.out HB.out) | (with_reducible refine Kd.C_alloc ?_ _) | (with_reducible refine Kd.C_drewN ?_ _) | (with_reducible refine Kd.C_drew ?_))); (case side2 => exact HC175.out); rintro e w' ⟨rfl, ⟨nd, rfl⟩⟩; (try first | exact ⟨rfl, _, World.drewN_drewN _ _ _⟩ | exact ⟨rfl, _, Eq.trans (World.drewN_drewN _ _ _) (congrArg (World.drewN _) (Nat.add_assoc _ _ _))⟩)) | (go_at_call 35; (with_reducible refine (pandectref2_PutSlot.calls kj1 t176 _ _ y178 t182 t183 _ ?side1 ?side2 A12.out).mono ?_); (case side1 => repeat (first | exact (Kd.C_below HR181.out (by repeat (first | (with_reducible first | exact HB.out | apply below_alloc | apply pw_below_drewN | apply below_drew1) | exact HB.out))) | (with_reducible refine Kd.C_alloc ?_ _) | (with_reducible refine Kd.C_drewN ?_ _) | (with_reducible refine Kd.C_drew ?_))); (case side2 => exact HC181.out); rintro e w26 ⟨v184, rfl, ho0, hb⟩; have n0_ := Aside0.mk (Kd.R_lower ho0 (below_size (by repeat (first | (with_reducible first | exact HB.out | apply below_alloc | apply pw_below_drewN | apply below_drew1) | exact HB.out)))); have n1_ := Aside0.mk (below_step (by repeat (first | (with_reducible first | exact HB.out | apply below_alloc | apply pw_below_drewN | apply below_drew1) | exact HB.out)) hb); clear HB; have HO185 := n0_; have HB := n1_; clear n0_ n1_; (try clear hb); (try clear hb2); (try clear hk); (try clear hi); (try clear ho0); have hcv27 := own_string (P := Try.prog) Try.underlying22 Try.underlying5 Try.underlying9 (Kd.own_of_R HO185.out); have hcv28 := fun nd_ : Nat => own_string (P := Try.prog) Try.underlying22 Try.underlying5 Try.underlying9 (Kd.own_of_R (Kd.R_drewN HO185.out nd_)); have hcv29 := Kd.C_string (P := Try.prog) (A := (some ad177)) (c := c0) Try.underlying22 Try.underlying5 Try.underlying9 (Kd.C_below HR0.out HB.out))))
                    go_ret3
                    exact ⟨_, by first | rfl | (simp [errW_none, errW_some] <;> rfl) | (simp [*, errW_none, errW_some] <;> rfl), by first | exact Kd.R_nil _ _ _ _ _ | exact Kd.N_nil _ _ _ _ _ | exact Kd.V_nil _ _ _ _ _ | exact Kd.Q_nil _ _ _ _ _ | exact Kd.S_nil _ _ _ _ _, by repeat (first | (with_reducible first | exact HB.out | apply below_alloc | apply pw_below_drewN | apply below_drew1) | exact HB.out)⟩
                · rw [if_neg c11] at H
                  exact absurd H (by simp)
              · rw [if_neg c10] at H
                exact absurd H (by simp)
            · rw [if_neg c9] at H
              exact absurd H (by simp)
          · rw [if_neg c7] at H
            exact absurd H (by simp)
        · rw [if_neg c6] at H
          exact absurd H (by simp)

/-! ### pandectref2_Better: function 39 -/
def pandectref2_Better.j0 : Nat → Int → List Int → Int → List Int → Int → Bool → Option (Int × Int × List Int × Int)
  | 0, _, _, _, _, _, _ => none
  | k + 1, x8, x9, x11, x12, x13, x36 => if x36 = true then (some (0, x8, x9, 0)) else (if x13 = 0 then (some (1, x11, x12, 0)) else (some (0, 0, ([] : List Int), 2)))
def pandectref2_Better.f (k : Nat) (l0 : List Int) (l1 : List Int) : Option (Int × Int × List Int × Int) := (pandectref2_TakeSlot.f k l0).bind fun bt192 => ((pandectref2_TakeSlot.f k l1).bind fun bt197 => (if bt192.2.2 = 0 then (if bt197.2.2 = 0 then (pandectref2_Better.j0 k bt192.1 bt192.2.1 bt197.1 bt197.2.1 bt197.2.2 (decide (bt192.1 ≥ bt197.1))) else (pandectref2_Better.j0 k bt192.1 bt192.2.1 bt197.1 bt197.2.1 bt197.2.2 true)) else (pandectref2_Better.j0 k bt192.1 bt192.2.1 bt197.1 bt197.2.1 bt197.2.2 false)))
theorem pandectref2_Better.mono_l : ∀ k, (∀ y0 y1 y2 y3 y4 y5, LeO (pandectref2_Better.j0 k y0 y1 y2 y3 y4 y5) (pandectref2_Better.j0 (k + 1) y0 y1 y2 y3 y4 y5))
  | 0 => fun _ _ _ _ _ _ r h => by simp [pandectref2_Better.j0] at h
  | k + 1 => by
    have ih0 := pandectref2_Better.mono_l k
    · intro y0 y1 y2 y3 y4 y5
      unfold pandectref2_Better.j0
      repeat' first
      | (with_reducible exact ih0 _ _ _ _ _ _)
      | (with_reducible exact pandectref2_TakeSlot.mono _ _)
      | (with_reducible exact LeO.refl _)
      | (with_reducible exact LeO.none _)
      | (with_reducible refine LeO.ite ?_ ?_)
      | (with_reducible refine LeO.bind ?_ (fun _ => ?_))
      | exact ih0 _ _ _ _ _ _
      | exact pandectref2_TakeSlot.mono _ _
      | exact LeO.none _
      | refine LeO.ite ?_ ?_
      | refine LeO.bind ?_ (fun _ => ?_)
theorem pandectref2_Better.mono : ∀ a0 a1 k, LeO (pandectref2_Better.f k a0 a1) (pandectref2_Better.f (k + 1) a0 a1) := by
  intro a0 a1 k
  have ih0 := pandectref2_Better.mono_l k
  unfold pandectref2_Better.f
  repeat' first
      | (with_reducible exact ih0 _ _ _ _ _ _)
      | (with_reducible exact pandectref2_TakeSlot.mono _ _)
      | (with_reducible exact LeO.refl _)
      | (with_reducible exact LeO.none _)
      | (with_reducible refine LeO.ite ?_ ?_)
      | (with_reducible refine LeO.bind ?_ (fun _ => ?_))
      | exact ih0 _ _ _ _ _ _
      | exact pandectref2_TakeSlot.mono _ _
      | exact LeO.none _
      | refine LeO.ite ?_ ?_
      | refine LeO.bind ?_ (fun _ => ?_)
set_option maxHeartbeats 8000000 in
set_option maxRecDepth 100000 in
theorem pandectref2_Better.calls (k : Nat) (A0 : Option Addr) (c0 : Nat) (l0 : List Int) (A1 : Option Addr) (c1 : Nat) (l1 : List Int) (r1 : Int) (r2 : Int) (r3 : List Int) (r4 : Int) (w : World) (hr0 : Kd.C (Kd.int .u8) w A0 l0.length l0) (hc0 : l0.length ≤ c0) (hr1 : Kd.C (Kd.int .u8) w A1 l1.length l1) (hc1 : l1.length ≤ c1) (h : pandectref2_Better.f k l0 l1 = some (r1, r2, r3, r4)) :
    Calls Try.prog 39 #[.slice A0 l0.length c0, .slice A1 l1.length c1] w fun e w' => ∃ v2_ : Value, e = .returned (.tuple #[.int .i64 r1, .int .u64 r2, v2_, .int .i64 r4]) ∧ Kd.R (Kd.int .u8) 5 w' w.heap.size (fun _ => True) v2_ r3 ∧ Below w.heap.size w w' := by
  have HR0 := Aside0.mk hr0
  have HC0 := Aside0.mk hc0
  clear hr0 hc0
  have HR1 := Aside0.mk hr1
  have HC1 := Aside0.mk hc1
  clear hr1 hc1
  have HB := Aside0.mk (Below.refl w.heap.size w)
  have H : ((pandectref2_TakeSlot.f k l0).bind fun bt192 => ((pandectref2_TakeSlot.f k l1).bind fun bt197 => (if bt192.2.2 = 0 then (if bt197.2.2 = 0 then (pandectref2_Better.j0 k bt192.1 bt192.2.1 bt197.1 bt197.2.1 bt197.2.2 (decide (bt192.1 ≥ bt197.1))) else (pandectref2_Better.j0 k bt192.1 bt192.2.1 bt197.1 bt197.2.1 bt197.2.2 true)) else (pandectref2_Better.j0 k bt192.1 bt192.2.1 bt197.1 bt197.2.1 bt197.2.2 false)))) = some (r1, r2, r3, r4) := h
  clear h
  replace H := Option.bind_eq_some_iff.mp H
  obtain ⟨⟨t192, t193, t194⟩, A30, H⟩ := H
  replace H : ((pandectref2_TakeSlot.f k l1).bind fun bt197 => (if t194 = 0 then (if bt197.2.2 = 0 then (pandectref2_Better.j0 k t192 t193 bt197.1 bt197.2.1 bt197.2.2 (decide (t192 ≥ bt197.1))) else (pandectref2_Better.j0 k t192 t193 bt197.1 bt197.2.1 bt197.2.2 true)) else (pandectref2_Better.j0 k t192 t193 bt197.1 bt197.2.1 bt197.2.2 false))) = some (r1, r2, r3, r4) := H
  have A3 := Aside0.mk A30
  clear A30
  replace H := Option.bind_eq_some_iff.mp H
  obtain ⟨⟨t197, t198, t199⟩, A40, H⟩ := H
  replace H : (if t194 = 0 then (if t199 = 0 then (pandectref2_Better.j0 k t192 t193 t197 t198 t199 (decide (t192 ≥ t197))) else (pandectref2_Better.j0 k t192 t193 t197 t198 t199 true)) else (pandectref2_Better.j0 k t192 t193 t197 t198 t199 false)) = some (r1, r2, r3, r4) := H
  have A4 := Aside0.mk A40
  clear A40
  have HC5 := Aside0.mk H
  clear H
  go_enter Try.func39, Try.ntmps39
  go_upto_region 3 with (first | ((with_reducible refine gate_callee (f := 37) rfl ?_); refine goesL_ (some 16) rfl rfl Try.func37 (by kernel_rfl) rfl #[.slice A0 l0.length c0] rfl (by (try simp only [List.map_toArray, List.map_cons, List.map_nil]); first | done | rfl | (simp only [List.length_drop, List.length_take]; rfl)) ?_; (with_reducible refine (pandectref2_TakeSlot.calls k _ _ l0 t192 t193 t194 _ ?side1 ?side2 A3.out).mono ?_); (case side1 => repeat (first | exact HR0.out | (with_reducible refine Kd.C_alloc ?_ _) | (with_reducible refine Kd.C_drewN ?_ _) | (with_reducible refine Kd.C_drew ?_))); (case side2 => exact HC0.out); rintro e w6 ⟨v195, rfl, ho0, hb⟩; refine ⟨_, rfl, ?_⟩; have n0_ := Aside0.mk (Kd.R_lower ho0 (below_size (by repeat (first | (with_reducible first | exact HB.out | apply below_alloc | apply pw_below_drewN | apply below_drew1) | exact HB.out)))); have n1_ := Aside0.mk (below_step (by repeat (first | (with_reducible first | exact HB.out | apply below_alloc | apply pw_below_drewN | apply below_drew1) | exact HB.out)) hb); clear HB; have HO196 := n0_; have HB := n1_; clear n0_ n1_; (try clear hb); (try clear hb2); (try clear hk); (try clear hi); (try clear ho0)) | ((with_reducible refine gate_callee (f := 37) rfl ?_); refine goesL_ (some 22) rfl rfl Try.func37 (by kernel_rfl) rfl #[.slice A1 l1.length c1] rfl (by (try simp only [List.map_toArray, List.map_cons, List.map_nil]); first | done | rfl | (simp only [List.length_drop, List.length_take]; rfl)) ?_; (with_reducible refine (pandectref2_TakeSlot.calls k _ _ l1 t197 t198 t199 _ ?side1 ?side2 A4.out).mono ?_); (case side1 => repeat (first | exact (Kd.C_below HR1.out HB.out) | (with_reducible refine Kd.C_alloc ?_ _) | (with_reducible refine Kd.C_drewN ?_ _) | (with_reducible refine Kd.C_drew ?_))); (case side2 => exact HC1.out); rintro e w7 ⟨v200, rfl, ho0, hb⟩; refine ⟨_, rfl, ?_⟩; have n0_ := Aside0.mk (Kd.R_elder' (by (with_reducible repeat (first | apply Kd.R_alloc | apply Kd.R_drewN | apply Kd.R_drew)); exact HO196.out) (Kd.R_base ho0) hb); have n1_ := Aside0.mk (Kd.R_lower (Kd.R_new' ho0 (Kd.R_lt (by (with_reducible repeat (first | apply Kd.R_alloc | apply Kd.R_drewN | apply Kd.R_drew)); exact HO196.out))) (below_size (by repeat (first | (with_reducible first | exact HB.out | apply below_alloc | apply pw_below_drewN | apply below_drew1) | exact HB.out)))); have n2_ := Aside0.mk (below_step (by repeat (first | (with_reducible first | exact HB.out | apply below_alloc | apply pw_below_drewN | apply below_drew1) | exact HB.out)) hb); clear HO196; clear HB; have HO196 := n0_; have HO201 := n1_; have HB := n2_; clear n0_ n1_ n2_; (try clear hb); (try clear hb2); (try clear hk); (try clear hi); (try clear ho0)))
  (try simp only [Act.put, List.setIfInBounds_toArray, List.set_cons_zero, List.set_cons_succ])
  go_cut [36] (fun v36 wc => ∃ (kq : Nat) (x36_4 : Bool), v36 = .bool x36_4 ∧ Aside0 (pandectref2_Better.j0 kq t192 t193 t197 t198 t199 x36_4 = some (r1, r2, r3, r4)) ∧ Aside0 (kq ≤ k) ∧ Aside0 (Kd.R (Kd.int .u8) 5 wc w.heap.size (fun k_ => some k_ ≠ (v200 : Value).ownBlock) v195 t193) ∧ Aside0 (Kd.R (Kd.int .u8) 5 wc w.heap.size (fun k_ => some k_ ≠ (v195 : Value).ownBlock) v200 t198) ∧ Aside0 (Below w.heap.size w wc))
  case first =>
    have H := HC5.out
    clear HC5
    by_cases c8 : t194 = 0
    · rw [if_pos c8] at H
      have c8b0 : (t194 == 0) = true := beq_iff_eq.mpr c8
      have c8b1 : (t194 != 0) = false := bne_eq_false_iff_eq.mpr c8
      clear c8
      (first | rw [c8b0] | (simp only [i64_w, i32_w]; rw [c8b0]) | skip)
      by_cases c9 : t199 = 0
      · rw [if_pos c9] at H
        have c9b0 : (t199 == 0) = true := beq_iff_eq.mpr c9
        have c9b1 : (t199 != 0) = false := bne_eq_false_iff_eq.mpr c9
        clear c9
        have H' := Aside0.mk H
        clear H
        go_wp2
        go_meet
        case rel => exact ⟨_, (decide (t192 ≥ t197)), (by first | rfl | (simp; done) | (simp [*]; done)), H', ⟨by first | omega | exact Nat.le_refl _⟩, ⟨by (with_reducible repeat (first | apply Kd.R_alloc | apply Kd.R_drewN | apply Kd.R_drew)); exact Kd.R_mono HO196.out (fun _ hk => hk.2)⟩, ⟨by (with_reducible repeat (first | apply Kd.R_alloc | apply Kd.R_drewN | apply Kd.R_drew)); exact Kd.R_mono HO201.out (fun _ hk => hk.2)⟩, ⟨by repeat (first | (with_reducible first | exact HB.out | apply below_alloc | apply pw_below_drewN | apply below_drew1) | exact HB.out)⟩⟩
      · rw [if_neg c9] at H
        have c9b0 : (t199 == 0) = false := beq_eq_false_iff_ne.mpr c9
        have c9b1 : (t199 != 0) = true := bne_iff_ne.mpr c9
        have H' := Aside0.mk H
        clear H
        go_wp2
        go_meet
        case rel => exact ⟨_, (true), (by first | rfl | (simp; done) | (simp [*]; done)), H', ⟨by first | omega | exact Nat.le_refl _⟩, ⟨by (with_reducible repeat (first | apply Kd.R_alloc | apply Kd.R_drewN | apply Kd.R_drew)); exact Kd.R_mono HO196.out (fun _ hk => hk.2)⟩, ⟨by (with_reducible repeat (first | apply Kd.R_alloc | apply Kd.R_drewN | apply Kd.R_drew)); exact Kd.R_mono HO201.out (fun _ hk => hk.2)⟩, ⟨by repeat (first | (with_reducible first | exact HB.out | apply below_alloc | apply pw_below_drewN | apply below_drew1) | exact HB.out)⟩⟩
    · rw [if_neg c8] at H
      have c8b0 : (t194 == 0) = false := beq_eq_false_iff_ne.mpr c8
      have c8b1 : (t194 != 0) = true := bne_iff_ne.mpr c8
      (first | rw [c8b0] | (simp only [i64_w, i32_w]; rw [c8b0]) | skip)
      have H' := Aside0.mk H
      clear H
      go_wp2
      go_meet
      case rel => exact ⟨_, (false), (by first | rfl | (simp; done) | (simp [*]; done)), H', ⟨by first | omega | exact Nat.le_refl _⟩, ⟨by (with_reducible repeat (first | apply Kd.R_alloc | apply Kd.R_drewN | apply Kd.R_drew)); exact Kd.R_mono HO196.out (fun _ hk => hk.2)⟩, ⟨by (with_reducible repeat (first | apply Kd.R_alloc | apply Kd.R_drewN | apply Kd.R_drew)); exact Kd.R_mono HO201.out (fun _ hk => hk.2)⟩, ⟨by repeat (first | (with_reducible first | exact HB.out | apply below_alloc | apply pw_below_drewN | apply below_drew1) | exact HB.out)⟩⟩
  case rest =>
    clear HC5
    try clear c1
    try clear p2
    try clear c3
    try clear c8
    try clear c8b0
    try clear c8b1
    try clear c9
    try clear c9b0
    try clear c9b1
    obtain ⟨kq, x36_4, rfl, HA, HJ4, HO_9, HO_12, HB⟩ := hcut
    cases kq with
    | zero => exact absurd HA.out (by simp [pandectref2_Better.j0])
    | succ kj4 =>
      have H := HA.out
      clear HA
      simp only [pandectref2_Better.j0] at H
      by_cases c10 : x36_4 = true
      · subst c10
        have H1 : (some (0, t192, t193, 0)) = some (r1, r2, r3, r4) := by rw [if_pos rfl] at H; exact H
        clear H
        have H := H1
        clear H1
        simp only [Option.some.injEq, Prod.mk.injEq] at H
        obtain ⟨rfl, rfl, rfl, rfl⟩ := H
        go_wp2
        refine bodyPost_ret (results_list (rs := [.tmp 4, .tmp 5, .tmp 6, .tmp 7]) rfl (by simp) (.tmp (.tmp (.tmp (.tmp .nil))))) rfl ?_
        exact ⟨_, by first | rfl | (simp [errW_none, errW_some] <;> rfl) | (simp [*, errW_none, errW_some] <;> rfl), by (with_reducible repeat (first | apply Kd.R_alloc | apply Kd.R_drewN | apply Kd.R_drew)); exact Kd.R_mono HO_9.out (fun _ hk => trivial), by repeat (first | (with_reducible first | exact HB.out | apply below_alloc | apply pw_below_drewN | apply below_drew1) | exact HB.out)⟩
      · replace c10 := Bool.eq_false_iff.mpr c10
        subst c10
        have H1 : (if t199 = 0 then (some (1, t197, t198, 0)) else (some (0, 0, ([] : List Int), 2))) = some (r1, r2, r3, r4) := by rw [if_neg (show ¬ (false = true) by decide)] at H; exact H
        clear H
        have H := H1
        clear H1
        by_cases c11 : t199 = 0
        · rw [if_pos c11] at H
          have c11b0 : (t199 == 0) = true := beq_iff_eq.mpr c11
          have c11b1 : (t199 != 0) = false := bne_eq_false_iff_eq.mpr c11
          clear c11
          simp only [Option.some.injEq, Prod.mk.injEq] at H
          obtain ⟨rfl, rfl, rfl, rfl⟩ := H
          go_wp2
          refine bodyPost_ret (results_list (rs := [.tmp 4, .tmp 5, .tmp 6, .tmp 7]) rfl (by simp) (.tmp (.tmp (.tmp (.tmp .nil))))) rfl ?_
          exact ⟨_, by first | rfl | (simp [errW_none, errW_some] <;> rfl) | (simp [*, errW_none, errW_some] <;> rfl), by (with_reducible repeat (first | apply Kd.R_alloc | apply Kd.R_drewN | apply Kd.R_drew)); exact Kd.R_mono HO_12.out (fun _ hk => trivial), by repeat (first | (with_reducible first | exact HB.out | apply below_alloc | apply pw_below_drewN | apply below_drew1) | exact HB.out)⟩
        · rw [if_neg c11] at H
          have c11b0 : (t199 == 0) = false := beq_eq_false_iff_ne.mpr c11
          have c11b1 : (t199 != 0) = true := bne_iff_ne.mpr c11
          simp only [Option.some.injEq, Prod.mk.injEq] at H
          obtain ⟨rfl, rfl, rfl, rfl⟩ := H
          go_wp2
          refine bodyPost_ret (results_list (rs := [.tmp 4, .tmp 5, .tmp 6, .tmp 7]) rfl (by simp) (.tmp (.tmp (.tmp (.tmp .nil))))) rfl ?_
          exact ⟨_, by first | rfl | (simp [errW_none, errW_some] <;> rfl) | (simp [*, errW_none, errW_some] <;> rfl), by first | exact Kd.R_nil _ _ _ _ _ | exact Kd.N_nil _ _ _ _ _ | exact Kd.V_nil _ _ _ _ _ | exact Kd.Q_nil _ _ _ _ _ | exact Kd.S_nil _ _ _ _ _, by repeat (first | (with_reducible first | exact HB.out | apply below_alloc | apply pw_below_drewN | apply below_drew1) | exact HB.out)⟩

/-! ### pandectlaw4_SlotAll: function 13 -/
def pandectlaw4_SlotAll.j0 : Nat → Int → List Int → List Int → List Int → Bool → Option (Bool)
  | 0, _, _, _, _, _ => none
  | k + 1, x0, x1, x2, x3, x44 => if x44 = true then (some true) else ((pandectlaw0_Loaned.f k x1).bind fun t257 => (if 0 ≤ (x1.length : Int) then (if (x1.length : Int) ≤ (t257.length : Int) then ((some (t257.take ((x1.length : Int) : Int).toNat : List Int)).bind fun y260 => ((pandectlaw0_Loaned.f k x2).bind fun t264 => (if 0 ≤ (x2.length : Int) then (if (x2.length : Int) ≤ (t264.length : Int) then ((some (t264.take ((x2.length : Int) : Int).toNat : List Int)).bind fun y267 => ((pandectlaw0_Loaned.f k x3).bind fun t271 => (if 0 ≤ (x3.length : Int) then (if (x3.length : Int) ≤ (t271.length : Int) then ((some (t271.take ((x3.length : Int) : Int).toNat : List Int)).bind fun y274 => ((slot_Put.f k x0 y260).bind fun bt278 => ((pandectref2_PutSlot.f k x0 x1).bind fun bt282 => ((slot_Take.f k y267).bind fun bt286 => ((pandectref2_TakeSlot.f k x2).bind fun bt291 => ((slot_Better.f k y267 y274).bind fun bt296 => ((pandectref2_Better.f k x2 x3).bind fun bt302 => (if (strOfNums bt278.1).toList = (strOfNums bt282.1).toList then (if bt278.2 = bt282.2 then (if bt286.1 = bt291.1 then (if (strOfNums bt286.2.1).toList = (strOfNums bt291.2.1).toList then (if bt286.2.2 = bt291.2.2 then (if bt296.1 = bt302.1 then (if bt296.2.1 = bt302.2.1 then (if (strOfNums bt296.2.2.1).toList = (strOfNums bt302.2.2.1).toList then (if bt296.2.2.2 = bt302.2.2.2 then ((pandectlaw0_Kept.f y260 x1 t257).bind fun t308 => (if t308 = true then ((pandectlaw0_Kept.f y267 x2 t264).bind fun t309 => (if t309 = true then ((pandectlaw0_Kept.f y274 x3 t271).bind fun t310 => (some t310)) else (none))) else (none))) else (none)) else (none)) else (none)) else (none)) else (none)) else (none)) else (none)) else (none)) else (none))))))))) else (none)) else (none)))) else (none)) else (none)))) else (none)) else (none)))
def pandectlaw4_SlotAll.f (k : Nat) (a0 : Int) (l1 : List Int) (l2 : List Int) (l3 : List Int) : Option (Bool) := (pandectlaw4_begun.f k).bind fun t202 => (if t202 = true then (if (l1.length : Int) > 150 then (pandectlaw4_SlotAll.j0 k a0 l1 l2 l3 true) else (if (l2.length : Int) > 150 then (pandectlaw4_SlotAll.j0 k a0 l1 l2 l3 true) else (pandectlaw4_SlotAll.j0 k a0 l1 l2 l3 (decide ((l3.length : Int) > 150))))) else (none))
theorem pandectlaw4_SlotAll.mono_l : ∀ k, (∀ y0 y1 y2 y3 y4, LeO (pandectlaw4_SlotAll.j0 k y0 y1 y2 y3 y4) (pandectlaw4_SlotAll.j0 (k + 1) y0 y1 y2 y3 y4))
  | 0 => fun _ _ _ _ _ r h => by simp [pandectlaw4_SlotAll.j0] at h
  | k + 1 => by
    have ih0 := pandectlaw4_SlotAll.mono_l k
    · intro y0 y1 y2 y3 y4
      unfold pandectlaw4_SlotAll.j0
      repeat' first
      | (with_reducible exact ih0 _ _ _ _ _)
      | (with_reducible exact pandectlaw0_Loaned.mono _ _)
      | (with_reducible exact pandectlaw4_begun.mono _)
      | (with_reducible exact pandectref2_Better.mono _ _ _)
      | (with_reducible exact pandectref2_PutSlot.mono _ _ _)
      | (with_reducible exact pandectref2_TakeSlot.mono _ _)
      | (with_reducible exact slot_Better.mono _ _ _)
      | (with_reducible exact slot_Put.mono _ _ _)
      | (with_reducible exact slot_Take.mono _ _)
      | (with_reducible exact LeO.refl _)
      | (with_reducible exact LeO.none _)
      | (with_reducible refine LeO.ite ?_ ?_)
      | (with_reducible refine LeO.bind ?_ (fun _ => ?_))
      | exact ih0 _ _ _ _ _
      | exact pandectlaw0_Loaned.mono _ _
      | exact pandectlaw4_begun.mono _
      | exact pandectref2_Better.mono _ _ _
      | exact pandectref2_PutSlot.mono _ _ _
      | exact pandectref2_TakeSlot.mono _ _
      | exact slot_Better.mono _ _ _
      | exact slot_Put.mono _ _ _
      | exact slot_Take.mono _ _
      | exact LeO.none _
      | refine LeO.ite ?_ ?_
      | refine LeO.bind ?_ (fun _ => ?_)
theorem pandectlaw4_SlotAll.mono : ∀ a0 a1 a2 a3 k, LeO (pandectlaw4_SlotAll.f k a0 a1 a2 a3) (pandectlaw4_SlotAll.f (k + 1) a0 a1 a2 a3) := by
  intro a0 a1 a2 a3 k
  have ih0 := pandectlaw4_SlotAll.mono_l k
  unfold pandectlaw4_SlotAll.f
  repeat' first
      | (with_reducible exact ih0 _ _ _ _ _)
      | (with_reducible exact pandectlaw0_Loaned.mono _ _)
      | (with_reducible exact pandectlaw4_begun.mono _)
      | (with_reducible exact pandectref2_Better.mono _ _ _)
      | (with_reducible exact pandectref2_PutSlot.mono _ _ _)
      | (with_reducible exact pandectref2_TakeSlot.mono _ _)
      | (with_reducible exact slot_Better.mono _ _ _)
      | (with_reducible exact slot_Put.mono _ _ _)
      | (with_reducible exact slot_Take.mono _ _)
      | (with_reducible exact LeO.refl _)
      | (with_reducible exact LeO.none _)
      | (with_reducible refine LeO.ite ?_ ?_)
      | (with_reducible refine LeO.bind ?_ (fun _ => ?_))
      | exact ih0 _ _ _ _ _
      | exact pandectlaw0_Loaned.mono _ _
      | exact pandectlaw4_begun.mono _
      | exact pandectref2_Better.mono _ _ _
      | exact pandectref2_PutSlot.mono _ _ _
      | exact pandectref2_TakeSlot.mono _ _
      | exact slot_Better.mono _ _ _
      | exact slot_Put.mono _ _ _
      | exact slot_Take.mono _ _
      | exact LeO.none _
      | refine LeO.ite ?_ ?_
      | refine LeO.bind ?_ (fun _ => ?_)
set_option maxHeartbeats 8000000 in
set_option maxRecDepth 100000 in
theorem pandectlaw4_SlotAll.calls (k : Nat) (a0 : Int) (A1 : Option Addr) (c1 : Nat) (l1 : List Int) (A2 : Option Addr) (c2 : Nat) (l2 : List Int) (A3 : Option Addr) (c3 : Nat) (l3 : List Int) (r : Bool) (w : World) (hr1 : Kd.C (Kd.int .u8) w A1 l1.length l1) (hc1 : l1.length ≤ c1) (hr2 : Kd.C (Kd.int .u8) w A2 l2.length l2) (hc2 : l2.length ≤ c2) (hr3 : Kd.C (Kd.int .u8) w A3 l3.length l3) (hc3 : l3.length ≤ c3) (h : pandectlaw4_SlotAll.f k a0 l1 l2 l3 = some r) :
    Calls Try.prog 13 #[.int .u64 a0, .slice A1 l1.length c1, .slice A2 l2.length c2, .slice A3 l3.length c3] w fun e w' => e = .returned (.bool r) ∧ Below w.heap.size w w' := by
  have HR1 := Aside0.mk hr1
  have HC1 := Aside0.mk hc1
  clear hr1 hc1
  have HR2 := Aside0.mk hr2
  have HC2 := Aside0.mk hc2
  clear hr2 hc2
  have HR3 := Aside0.mk hr3
  have HC3 := Aside0.mk hc3
  clear hr3 hc3
  have HB := Aside0.mk (Below.refl w.heap.size w)
  have H : ((pandectlaw4_begun.f k).bind fun t202 => (if t202 = true then (if (l1.length : Int) > 150 then (pandectlaw4_SlotAll.j0 k a0 l1 l2 l3 true) else (if (l2.length : Int) > 150 then (pandectlaw4_SlotAll.j0 k a0 l1 l2 l3 true) else (pandectlaw4_SlotAll.j0 k a0 l1 l2 l3 (decide ((l3.length : Int) > 150))))) else (none))) = some r := h
  clear h
  replace H := Option.bind_eq_some_iff.mp H
  obtain ⟨t202, A50, H⟩ := H
  replace H : (if t202 = true then (if (l1.length : Int) > 150 then (pandectlaw4_SlotAll.j0 k a0 l1 l2 l3 true) else (if (l2.length : Int) > 150 then (pandectlaw4_SlotAll.j0 k a0 l1 l2 l3 true) else (pandectlaw4_SlotAll.j0 k a0 l1 l2 l3 (decide ((l3.length : Int) > 150))))) else (none)) = some r := H
  have A5 := Aside0.mk A50
  clear A50
  by_cases c6 : t202 = true
  · subst c6
    have H1 : (if (l1.length : Int) > 150 then (pandectlaw4_SlotAll.j0 k a0 l1 l2 l3 true) else (if (l2.length : Int) > 150 then (pandectlaw4_SlotAll.j0 k a0 l1 l2 l3 true) else (pandectlaw4_SlotAll.j0 k a0 l1 l2 l3 (decide ((l3.length : Int) > 150))))) = some r := by rw [if_pos rfl] at H; exact H
    clear H
    have H := H1
    clear H1
    have HC7 := Aside0.mk H
    clear H
    go_enter Try.func13, Try.ntmps13
    go_upto_region 3 with (first | ((with_reducible refine gate_callee (f := 33) rfl ?_); refine goesL_ (some 30) rfl rfl Try.func33 (by kernel_rfl) rfl #[] rfl (by (try simp only [List.map_toArray, List.map_cons, List.map_nil]); first | done | rfl | (simp only [List.length_drop, List.length_take]; rfl)) ?_; (with_reducible refine (pandectlaw4_begun.calls k  true _ A5.out).mono ?_); rintro e w8 ⟨rfl, hb⟩; refine ⟨_, rfl, ?_⟩; have n0_ := Aside0.mk (below_step (by repeat (first | (with_reducible first | exact HB.out | apply below_alloc | apply pw_below_drewN | apply below_drew1) | exact HB.out)) hb); clear HB; have HB := n0_; clear n0_; (try clear hb); (try clear hb2); (try clear hk); (try clear hi)))
    (try simp only [Act.put, List.setIfInBounds_toArray, List.set_cons_zero, List.set_cons_succ])
    go_cut [44] (fun v44 wc => ∃ (kq : Nat) (x44_6 : Bool), v44 = .bool x44_6 ∧ Aside0 (pandectlaw4_SlotAll.j0 kq a0 l1 l2 l3 x44_6 = some r) ∧ Aside0 (kq ≤ k) ∧ Aside0 (Below w.heap.size w wc))
    case first =>
      have H := HC7.out
      clear HC7
      by_cases c9 : (l1.length : Int) > 150
      · rw [if_pos c9] at H
        have c9b0 : decide (150 < (l1.length : Int)) = true := decide_eq_true c9
        have c9b1 : decide (150 < l1.length) = true := decide_eq_true (by omega)
        clear c9
        (first | rw [c9b0] | (simp only [i64_w, i32_w]; rw [c9b0]) | skip)
        have H' := Aside0.mk H
        clear H
        go_wp2
        go_meet
        case rel => exact ⟨_, (true), (by first | rfl | (simp; done) | (simp [*]; done)), H', ⟨by first | omega | exact Nat.le_refl _⟩, ⟨by repeat (first | (with_reducible first | exact HB.out | apply below_alloc | apply pw_below_drewN | apply below_drew1) | exact HB.out)⟩⟩
      · rw [if_neg c9] at H
        have c9b0 : decide (150 < (l1.length : Int)) = false := decide_eq_false c9
        have c9b1 : decide (150 < l1.length) = false := decide_eq_false (by omega)
        clear c9
        (first | rw [c9b0] | (simp only [i64_w, i32_w]; rw [c9b0]) | skip)
        by_cases c10 : (l2.length : Int) > 150
        · rw [if_pos c10] at H
          have c10b0 : decide (150 < (l2.length : Int)) = true := decide_eq_true c10
          have c10b1 : decide (150 < l2.length) = true := decide_eq_true (by omega)
          clear c10
          have H' := Aside0.mk H
          clear H
          go_wp2
          go_meet
          case rel => exact ⟨_, (true), (by first | rfl | (simp; done) | (simp [*]; done)), H', ⟨by first | omega | exact Nat.le_refl _⟩, ⟨by repeat (first | (with_reducible first | exact HB.out | apply below_alloc | apply pw_below_drewN | apply below_drew1) | exact HB.out)⟩⟩
        · rw [if_neg c10] at H
          have c10b0 : decide (150 < (l2.length : Int)) = false := decide_eq_false c10
          have c10b1 : decide (150 < l2.length) = false := decide_eq_false (by omega)
          clear c10
          have H' := Aside0.mk H
          clear H
          go_wp2
          go_meet
          case rel => exact ⟨_, (decide ((l3.length : Int) > 150)), (by first | rfl | (simp; done) | (simp [*]; done)), H', ⟨by first | omega | exact Nat.le_refl _⟩, ⟨by repeat (first | (with_reducible first | exact HB.out | apply below_alloc | apply pw_below_drewN | apply below_drew1) | exact HB.out)⟩⟩
    case rest =>
      clear HC7
      try clear c1
      try clear c2
      try clear p2
      try clear c3
      try clear c6
      try clear c9
      try clear c9b0
      try clear c9b1
      try clear c10
      try clear c10b0
      try clear c10b1
      obtain ⟨kq, x44_6, rfl, HA, HJ6, HB⟩ := hcut
      cases kq with
      | zero => exact absurd HA.out (by simp [pandectlaw4_SlotAll.j0])
      | succ kj6 =>
        have H := HA.out
        clear HA
        simp only [pandectlaw4_SlotAll.j0] at H
        by_cases c11 : x44_6 = true
        · subst c11
          have H1 : (some true) = some r := by rw [if_pos rfl] at H; exact H
          clear H
          have H := H1
          clear H1
          obtain rfl := Option.some.inj H
          go_wp2
          go_ret
          exact ⟨by first | rfl | (simp [errW_none, errW_some] <;> rfl) | (simp [*, errW_none, errW_some] <;> rfl), by repeat (first | (with_reducible first | exact HB.out | apply below_alloc | apply pw_below_drewN | apply below_drew1) | exact HB.out)⟩
        · replace c11 := Bool.eq_false_iff.mpr c11
          subst c11
          have H1 : ((pandectlaw0_Loaned.f kj6 l1).bind fun t257 => (if 0 ≤ (l1.length : Int) then (if (l1.length : Int) ≤ (t257.length : Int) then ((some (t257.take ((l1.length : Int) : Int).toNat : List Int)).bind fun y260 => ((pandectlaw0_Loaned.f kj6 l2).bind fun t264 => (if 0 ≤ (l2.length : Int) then (if (l2.length : Int) ≤ (t264.length : Int) then ((some (t264.take ((l2.length : Int) : Int).toNat : List Int)).bind fun y267 => ((pandectlaw0_Loaned.f kj6 l3).bind fun t271 => (if 0 ≤ (l3.length : Int) then (if (l3.length : Int) ≤ (t271.length : Int) then ((some (t271.take ((l3.length : Int) : Int).toNat : List Int)).bind fun y274 => ((slot_Put.f kj6 a0 y260).bind fun bt278 => ((pandectref2_PutSlot.f kj6 a0 l1).bind fun bt282 => ((slot_Take.f kj6 y267).bind fun bt286 => ((pandectref2_TakeSlot.f kj6 l2).bind fun bt291 => ((slot_Better.f kj6 y267 y274).bind fun bt296 => ((pandectref2_Better.f kj6 l2 l3).bind fun bt302 => (if (strOfNums bt278.1).toList = (strOfNums bt282.1).toList then (if bt278.2 = bt282.2 then (if bt286.1 = bt291.1 then (if (strOfNums bt286.2.1).toList = (strOfNums bt291.2.1).toList then (if bt286.2.2 = bt291.2.2 then (if bt296.1 = bt302.1 then (if bt296.2.1 = bt302.2.1 then (if (strOfNums bt296.2.2.1).toList = (strOfNums bt302.2.2.1).toList then (if bt296.2.2.2 = bt302.2.2.2 then ((pandectlaw0_Kept.f y260 l1 t257).bind fun t308 => (if t308 = true then ((pandectlaw0_Kept.f y267 l2 t264).bind fun t309 => (if t309 = true then ((pandectlaw0_Kept.f y274 l3 t271).bind fun t310 => (some t310)) else (none))) else (none))) else (none)) else (none)) else (none)) else (none)) else (none)) else (none)) else (none)) else (none)) else (none))))))))) else (none)) else (none)))) else (none)) else (none)))) else (none)) else (none))) = some r := by rw [if_neg (show ¬ (false = true) by decide)] at H; exact H
          clear H
          have H := H1
          clear H1
          replace H := Option.bind_eq_some_iff.mp H
          obtain ⟨t257, A120, H⟩ := H
          replace H : (if 0 ≤ (l1.length : Int) then (if (l1.length : Int) ≤ (t257.length : Int) then ((some (t257.take ((l1.length : Int) : Int).toNat : List Int)).bind fun y260 => ((pandectlaw0_Loaned.f kj6 l2).bind fun t264 => (if 0 ≤ (l2.length : Int) then (if (l2.length : Int) ≤ (t264.length : Int) then ((some (t264.take ((l2.length : Int) : Int).toNat : List Int)).bind fun y267 => ((pandectlaw0_Loaned.f kj6 l3).bind fun t271 => (if 0 ≤ (l3.length : Int) then (if (l3.length : Int) ≤ (t271.length : Int) then ((some (t271.take ((l3.length : Int) : Int).toNat : List Int)).bind fun y274 => ((slot_Put.f kj6 a0 y260).bind fun bt278 => ((pandectref2_PutSlot.f kj6 a0 l1).bind fun bt282 => ((slot_Take.f kj6 y267).bind fun bt286 => ((pandectref2_TakeSlot.f kj6 l2).bind fun bt291 => ((slot_Better.f kj6 y267 y274).bind fun bt296 => ((pandectref2_Better.f kj6 l2 l3).bind fun bt302 => (if (strOfNums bt278.1).toList = (strOfNums bt282.1).toList then (if bt278.2 = bt282.2 then (if bt286.1 = bt291.1 then (if (strOfNums bt286.2.1).toList = (strOfNums bt291.2.1).toList then (if bt286.2.2 = bt291.2.2 then (if bt296.1 = bt302.1 then (if bt296.2.1 = bt302.2.1 then (if (strOfNums bt296.2.2.1).toList = (strOfNums bt302.2.2.1).toList then (if bt296.2.2.2 = bt302.2.2.2 then ((pandectlaw0_Kept.f y260 l1 t257).bind fun t308 => (if t308 = true then ((pandectlaw0_Kept.f y267 l2 t264).bind fun t309 => (if t309 = true then ((pandectlaw0_Kept.f y274 l3 t271).bind fun t310 => (some t310)) else (none))) else (none))) else (none)) else (none)) else (none)) else (none)) else (none)) else (none)) else (none)) else (none)) else (none))))))))) else (none)) else (none)))) else (none)) else (none)))) else (none)) else (none)) = some r := H
          have A12 := Aside0.mk A120
          clear A120
          by_cases c13 : 0 ≤ (l1.length : Int)
          · rw [if_pos c13] at H
            have c13b0 := eq_true c13
            have c13b1 : decide (0 ≤ (l1.length : Int)) = true := decide_eq_true c13
            clear c13
            by_cases c14 : (l1.length : Int) ≤ (t257.length : Int)
            · rw [if_pos c14] at H
              have c14b0 := eq_true c14
              have c14b1 : decide ((l1.length : Int) ≤ (t257.length : Int)) = true := decide_eq_true c14
              clear c14
              obtain ⟨y260, hy260⟩ : ∃ y_ : List Int, y_ = (t257.take ((l1.length : Int) : Int).toNat) := ⟨_, rfl⟩
              replace H : ((pandectlaw0_Loaned.f kj6 l2).bind fun t264 => (if 0 ≤ (l2.length : Int) then (if (l2.length : Int) ≤ (t264.length : Int) then ((some (t264.take ((l2.length : Int) : Int).toNat : List Int)).bind fun y267 => ((pandectlaw0_Loaned.f kj6 l3).bind fun t271 => (if 0 ≤ (l3.length : Int) then (if (l3.length : Int) ≤ (t271.length : Int) then ((some (t271.take ((l3.length : Int) : Int).toNat : List Int)).bind fun y274 => ((slot_Put.f kj6 a0 y260).bind fun bt278 => ((pandectref2_PutSlot.f kj6 a0 l1).bind fun bt282 => ((slot_Take.f kj6 y267).bind fun bt286 => ((pandectref2_TakeSlot.f kj6 l2).bind fun bt291 => ((slot_Better.f kj6 y267 y274).bind fun bt296 => ((pandectref2_Better.f kj6 l2 l3).bind fun bt302 => (if (strOfNums bt278.1).toList = (strOfNums bt282.1).toList then (if bt278.2 = bt282.2 then (if bt286.1 = bt291.1 then (if (strOfNums bt286.2.1).toList = (strOfNums bt291.2.1).toList then (if bt286.2.2 = bt291.2.2 then (if bt296.1 = bt302.1 then (if bt296.2.1 = bt302.2.1 then (if (strOfNums bt296.2.2.1).toList = (strOfNums bt302.2.2.1).toList then (if bt296.2.2.2 = bt302.2.2.2 then ((pandectlaw0_Kept.f y260 l1 t257).bind fun t308 => (if t308 = true then ((pandectlaw0_Kept.f y267 l2 t264).bind fun t309 => (if t309 = true then ((pandectlaw0_Kept.f y274 l3 t271).bind fun t310 => (some t310)) else (none))) else (none))) else (none)) else (none)) else (none)) else (none)) else (none)) else (none)) else (none)) else (none)) else (none))))))))) else (none)) else (none)))) else (none)) else (none))) = some r := by first | (rw [hy260]; with_reducible exact H) | (have H2_ := (Option.bind_some _ _).symm.trans H; rw [hy260]; with_reducible exact H2_) | (have H2_ := (Option.bind_some _ _).symm.trans H; with_reducible exact H2_) | with_reducible exact H | (rw [hy260]; exact H) | exact H
              have Ny260 := Aside0.mk hy260
              clear hy260
              replace H := Option.bind_eq_some_iff.mp H
              obtain ⟨t264, A150, H⟩ := H
              replace H : (if 0 ≤ (l2.length : Int) then (if (l2.length : Int) ≤ (t264.length : Int) then ((some (t264.take ((l2.length : Int) : Int).toNat : List Int)).bind fun y267 => ((pandectlaw0_Loaned.f kj6 l3).bind fun t271 => (if 0 ≤ (l3.length : Int) then (if (l3.length : Int) ≤ (t271.length : Int) then ((some (t271.take ((l3.length : Int) : Int).toNat : List Int)).bind fun y274 => ((slot_Put.f kj6 a0 y260).bind fun bt278 => ((pandectref2_PutSlot.f kj6 a0 l1).bind fun bt282 => ((slot_Take.f kj6 y267).bind fun bt286 => ((pandectref2_TakeSlot.f kj6 l2).bind fun bt291 => ((slot_Better.f kj6 y267 y274).bind fun bt296 => ((pandectref2_Better.f kj6 l2 l3).bind fun bt302 => (if (strOfNums bt278.1).toList = (strOfNums bt282.1).toList then (if bt278.2 = bt282.2 then (if bt286.1 = bt291.1 then (if (strOfNums bt286.2.1).toList = (strOfNums bt291.2.1).toList then (if bt286.2.2 = bt291.2.2 then (if bt296.1 = bt302.1 then (if bt296.2.1 = bt302.2.1 then (if (strOfNums bt296.2.2.1).toList = (strOfNums bt302.2.2.1).toList then (if bt296.2.2.2 = bt302.2.2.2 then ((pandectlaw0_Kept.f y260 l1 t257).bind fun t308 => (if t308 = true then ((pandectlaw0_Kept.f y267 l2 t264).bind fun t309 => (if t309 = true then ((pandectlaw0_Kept.f y274 l3 t271).bind fun t310 => (some t310)) else (none))) else (none))) else (none)) else (none)) else (none)) else (none)) else (none)) else (none)) else (none)) else (none)) else (none))))))))) else (none)) else (none)))) else (none)) else (none)) = some r := H
              have A15 := Aside0.mk A150
              clear A150
              by_cases c16 : 0 ≤ (l2.length : Int)
              · rw [if_pos c16] at H
                have c16b0 := eq_true c16
                have c16b1 : decide (0 ≤ (l2.length : Int)) = true := decide_eq_true c16
                clear c16
                by_cases c17 : (l2.length : Int) ≤ (t264.length : Int)
                · rw [if_pos c17] at H
                  have c17b0 := eq_true c17
                  have c17b1 : decide ((l2.length : Int) ≤ (t264.length : Int)) = true := decide_eq_true c17
                  clear c17
                  obtain ⟨y267, hy267⟩ : ∃ y_ : List Int, y_ = (t264.take ((l2.length : Int) : Int).toNat) := ⟨_, rfl⟩
                  replace H : ((pandectlaw0_Loaned.f kj6 l3).bind fun t271 => (if 0 ≤ (l3.length : Int) then (if (l3.length : Int) ≤ (t271.length : Int) then ((some (t271.take ((l3.length : Int) : Int).toNat : List Int)).bind fun y274 => ((slot_Put.f kj6 a0 y260).bind fun bt278 => ((pandectref2_PutSlot.f kj6 a0 l1).bind fun bt282 => ((slot_Take.f kj6 y267).bind fun bt286 => ((pandectref2_TakeSlot.f kj6 l2).bind fun bt291 => ((slot_Better.f kj6 y267 y274).bind fun bt296 => ((pandectref2_Better.f kj6 l2 l3).bind fun bt302 => (if (strOfNums bt278.1).toList = (strOfNums bt282.1).toList then (if bt278.2 = bt282.2 then (if bt286.1 = bt291.1 then (if (strOfNums bt286.2.1).toList = (strOfNums bt291.2.1).toList then (if bt286.2.2 = bt291.2.2 then (if bt296.1 = bt302.1 then (if bt296.2.1 = bt302.2.1 then (if (strOfNums bt296.2.2.1).toList = (strOfNums bt302.2.2.1).toList then (if bt296.2.2.2 = bt302.2.2.2 then ((pandectlaw0_Kept.f y260 l1 t257).bind fun t308 => (if t308 = true then ((pandectlaw0_Kept.f y267 l2 t264).bind fun t309 => (if t309 = true then ((pandectlaw0_Kept.f y274 l3 t271).bind fun t310 => (some t310)) else (none))) else (none))) else (none)) else (none)) else (none)) else (none)) else (none)) else (none)) else (none)) else (none)) else (none))))))))) else (none)) else (none))) = some r := by first | (rw [hy267]; with_reducible exact H) | (have H2_ := (Option.bind_some _ _).symm.trans H; rw [hy267]; with_reducible exact H2_) | (have H2_ := (Option.bind_some _ _).symm.trans H; with_reducible exact H2_) | with_reducible exact H | (rw [hy267]; exact H) | exact H
                  have Ny267 := Aside0.mk hy267
                  clear hy267
                  replace H := Option.bind_eq_some_iff.mp H
                  obtain ⟨t271, A180, H⟩ := H
                  replace H : (if 0 ≤ (l3.length : Int) then (if (l3.length : Int) ≤ (t271.length : Int) then ((some (t271.take ((l3.length : Int) : Int).toNat : List Int)).bind fun y274 => ((slot_Put.f kj6 a0 y260).bind fun bt278 => ((pandectref2_PutSlot.f kj6 a0 l1).bind fun bt282 => ((slot_Take.f kj6 y267).bind fun bt286 => ((pandectref2_TakeSlot.f kj6 l2).bind fun bt291 => ((slot_Better.f kj6 y267 y274).bind fun bt296 => ((pandectref2_Better.f kj6 l2 l3).bind fun bt302 => (if (strOfNums bt278.1).toList = (strOfNums bt282.1).toList then (if bt278.2 = bt282.2 then (if bt286.1 = bt291.1 then (if (strOfNums bt286.2.1).toList = (strOfNums bt291.2.1).toList then (if bt286.2.2 = bt291.2.2 then (if bt296.1 = bt302.1 then (if bt296.2.1 = bt302.2.1 then (if (strOfNums bt296.2.2.1).toList = (strOfNums bt302.2.2.1).toList then (if bt296.2.2.2 = bt302.2.2.2 then ((pandectlaw0_Kept.f y260 l1 t257).bind fun t308 => (if t308 = true then ((pandectlaw0_Kept.f y267 l2 t264).bind fun t309 => (if t309 = true then ((pandectlaw0_Kept.f y274 l3 t271).bind fun t310 => (some t310)) else (none))) else (none))) else (none)) else (none)) else (none)) else (none)) else (none)) else (none)) else (none)) else (none)) else (none))))))))) else (none)) else (none)) = some r := H
                  have A18 := Aside0.mk A180
                  clear A180
                  by_cases c19 : 0 ≤ (l3.length : Int)
                  · rw [if_pos c19] at H
                    have c19b0 := eq_true c19
                    have c19b1 : decide (0 ≤ (l3.length : Int)) = true := decide_eq_true c19
                    clear c19
                    by_cases c20 : (l3.length : Int) ≤ (t271.length : Int)
                    · rw [if_pos c20] at H
                      have c20b0 := eq_true c20
                      have c20b1 : decide ((l3.length : Int) ≤ (t271.length : Int)) = true := decide_eq_true c20
                      clear c20
                      obtain ⟨y274, hy274⟩ : ∃ y_ : List Int, y_ = (t271.take ((l3.length : Int) : Int).toNat) := ⟨_, rfl⟩
                      replace H : ((slot_Put.f kj6 a0 y260).bind fun bt278 => ((pandectref2_PutSlot.f kj6 a0 l1).bind fun bt282 => ((slot_Take.f kj6 y267).bind fun bt286 => ((pandectref2_TakeSlot.f kj6 l2).bind fun bt291 => ((slot_Better.f kj6 y267 y274).bind fun bt296 => ((pandectref2_Better.f kj6 l2 l3).bind fun bt302 => (if (strOfNums bt278.1).toList = (strOfNums bt282.1).toList then (if bt278.2 = bt282.2 then (if bt286.1 = bt291.1 then (if (strOfNums bt286.2.1).toList = (strOfNums bt291.2.1).toList then (if bt286.2.2 = bt291.2.2 then (if bt296.1 = bt302.1 then (if bt296.2.1 = bt302.2.1 then (if (strOfNums bt296.2.2.1).toList = (strOfNums bt302.2.2.1).toList then (if bt296.2.2.2 = bt302.2.2.2 then ((pandectlaw0_Kept.f y260 l1 t257).bind fun t308 => (if t308 = true then ((pandectlaw0_Kept.f y267 l2 t264).bind fun t309 => (if t309 = true then ((pandectlaw0_Kept.f y274 l3 t271).bind fun t310 => (some t310)) else (none))) else (none))) else (none)) else (none)) else (none)) else (none)) else (none)) else (none)) else (none)) else (none)) else (none)))))))) = some r := by first | (rw [hy274]; with_reducible exact H) | (have H2_ := (Option.bind_some _ _).symm.trans H; rw [hy274]; with_reducible exact H2_) | (have H2_ := (Option.bind_some _ _).symm.trans H; with_reducible exact H2_) | with_reducible exact H | (rw [hy274]; exact H) | exact H
                      have Ny274 := Aside0.mk hy274
                      clear hy274
                      replace H := Option.bind_eq_some_iff.mp H
                      obtain ⟨⟨t278, t279⟩, A210, H⟩ := H
                      replace H : ((pandectref2_PutSlot.f kj6 a0 l1).bind fun bt282 => ((slot_Take.f kj6 y267).bind fun bt286 => ((pandectref2_TakeSlot.f kj6 l2).bind fun bt291 => ((slot_Better.f kj6 y267 y274).bind fun bt296 => ((pandectref2_Better.f kj6 l2 l3).bind fun bt302 => (if (strOfNums t278).toList = (strOfNums bt282.1).toList then (if t279 = bt282.2 then (if bt286.1 = bt291.1 then (if (strOfNums bt286.2.1).toList = (strOfNums bt291.2.1).toList then (if bt286.2.2 = bt291.2.2 then (if bt296.1 = bt302.1 then (if bt296.2.1 = bt302.2.1 then (if (strOfNums bt296.2.2.1).toList = (strOfNums bt302.2.2.1).toList then (if bt296.2.2.2 = bt302.2.2.2 then ((pandectlaw0_Kept.f y260 l1 t257).bind fun t308 => (if t308 = true then ((pandectlaw0_Kept.f y267 l2 t264).bind fun t309 => (if t309 = true then ((pandectlaw0_Kept.f y274 l3 t271).bind fun t310 => (some t310)) else (none))) else (none))) else (none)) else (none)) else (none)) else (none)) else (none)) else (none)) else (none)) else (none)) else (none))))))) = some r := H
                      have A21 := Aside0.mk A210
                      clear A210
                      replace H := Option.bind_eq_some_iff.mp H
                      obtain ⟨⟨t282, t283⟩, A220, H⟩ := H
                      replace H : ((slot_Take.f kj6 y267).bind fun bt286 => ((pandectref2_TakeSlot.f kj6 l2).bind fun bt291 => ((slot_Better.f kj6 y267 y274).bind fun bt296 => ((pandectref2_Better.f kj6 l2 l3).bind fun bt302 => (if (strOfNums t278).toList = (strOfNums t282).toList then (if t279 = t283 then (if bt286.1 = bt291.1 then (if (strOfNums bt286.2.1).toList = (strOfNums bt291.2.1).toList then (if bt286.2.2 = bt291.2.2 then (if bt296.1 = bt302.1 then (if bt296.2.1 = bt302.2.1 then (if (strOfNums bt296.2.2.1).toList = (strOfNums bt302.2.2.1).toList then (if bt296.2.2.2 = bt302.2.2.2 then ((pandectlaw0_Kept.f y260 l1 t257).bind fun t308 => (if t308 = true then ((pandectlaw0_Kept.f y267 l2 t264).bind fun t309 => (if t309 = true then ((pandectlaw0_Kept.f y274 l3 t271).bind fun t310 => (some t310)) else (none))) else (none))) else (none)) else (none)) else (none)) else (none)) else (none)) else (none)) else (none)) else (none)) else (none)))))) = some r := H
                      have A22 := Aside0.mk A220
                      clear A220
                      replace H := Option.bind_eq_some_iff.mp H
                      obtain ⟨⟨t286, t287, t288⟩, A230, H⟩ := H
                      replace H : ((pandectref2_TakeSlot.f kj6 l2).bind fun bt291 => ((slot_Better.f kj6 y267 y274).bind fun bt296 => ((pandectref2_Better.f kj6 l2 l3).bind fun bt302 => (if (strOfNums t278).toList = (strOfNums t282).toList then (if t279 = t283 then (if t286 = bt291.1 then (if (strOfNums t287).toList = (strOfNums bt291.2.1).toList then (if t288 = bt291.2.2 then (if bt296.1 = bt302.1 then (if bt296.2.1 = bt302.2.1 then (if (strOfNums bt296.2.2.1).toList = (strOfNums bt302.2.2.1).toList then (if bt296.2.2.2 = bt302.2.2.2 then ((pandectlaw0_Kept.f y260 l1 t257).bind fun t308 => (if t308 = true then ((pandectlaw0_Kept.f y267 l2 t264).bind fun t309 => (if t309 = true then ((pandectlaw0_Kept.f y274 l3 t271).bind fun t310 => (some t310)) else (none))) else (none))) else (none)) else (none)) else (none)) else (none)) else (none)) else (none)) else (none)) else (none)) else (none))))) = some r := H
                      have A23 := Aside0.mk A230
                      clear A230
                      replace H := Option.bind_eq_some_iff.mp H
                      obtain ⟨⟨t291, t292, t293⟩, A240, H⟩ := H
                      replace H : ((slot_Better.f kj6 y267 y274).bind fun bt296 => ((pandectref2_Better.f kj6 l2 l3).bind fun bt302 => (if (strOfNums t278).toList = (strOfNums t282).toList then (if t279 = t283 then (if t286 = t291 then (if (strOfNums t287).toList = (strOfNums t292).toList then (if t288 = t293 then (if bt296.1 = bt302.1 then (if bt296.2.1 = bt302.2.1 then (if (strOfNums bt296.2.2.1).toList = (strOfNums bt302.2.2.1).toList then (if bt296.2.2.2 = bt302.2.2.2 then ((pandectlaw0_Kept.f y260 l1 t257).bind fun t308 => (if t308 = true then ((pandectlaw0_Kept.f y267 l2 t264).bind fun t309 => (if t309 = true then ((pandectlaw0_Kept.f y274 l3 t271).bind fun t310 => (some t310)) else (none))) else (none))) else (none)) else (none)) else (none)) else (none)) else (none)) else (none)) else (none)) else (none)) else (none)))) = some r := H
                      have A24 := Aside0.mk A240
                      clear A240
                      replace H := Option.bind_eq_some_iff.mp H
                      obtain ⟨⟨t296, t297, t298, t299⟩, A250, H⟩ := H
                      replace H : ((pandectref2_Better.f kj6 l2 l3).bind fun bt302 => (if (strOfNums t278).toList = (strOfNums t282).toList then (if t279 = t283 then (if t286 = t291 then (if (strOfNums t287).toList = (strOfNums t292).toList then (if t288 = t293 then (if t296 = bt302.1 then (if t297 = bt302.2.1 then (if (strOfNums t298).toList = (strOfNums bt302.2.2.1).toList then (if t299 = bt302.2.2.2 then ((pandectlaw0_Kept.f y260 l1 t257).bind fun t308 => (if t308 = true then ((pandectlaw0_Kept.f y267 l2 t264).bind fun t309 => (if t309 = true then ((pandectlaw0_Kept.f y274 l3 t271).bind fun t310 => (some t310)) else (none))) else (none))) else (none)) else (none)) else (none)) else (none)) else (none)) else (none)) else (none)) else (none)) else (none))) = some r := H
                      have A25 := Aside0.mk A250
                      clear A250
                      replace H := Option.bind_eq_some_iff.mp H
                      obtain ⟨⟨t302, t303, t304, t305⟩, A260, H⟩ := H
                      replace H : (if (strOfNums t278).toList = (strOfNums t282).toList then (if t279 = t283 then (if t286 = t291 then (if (strOfNums t287).toList = (strOfNums t292).toList then (if t288 = t293 then (if t296 = t302 then (if t297 = t303 then (if (strOfNums t298).toList = (strOfNums t304).toList then (if t299 = t305 then ((pandectlaw0_Kept.f y260 l1 t257).bind fun t308 => (if t308 = true then ((pandectlaw0_Kept.f y267 l2 t264).bind fun t309 => (if t309 = true then ((pandectlaw0_Kept.f y274 l3 t271).bind fun t310 => (some t310)) else (none))) else (none))) else (none)) else (none)) else (none)) else (none)) else (none)) else (none)) else (none)) else (none)) else (none)) = some r := H
                      have A26 := Aside0.mk A260
                      clear A260
                      by_cases c27 : (strOfNums t278).toList = (strOfNums t282).toList
                      · rw [if_pos c27] at H
                        have c27b0 : ((strOfNums t278).toList == (strOfNums t282).toList) = true := beq_iff_eq.mpr c27
                        have c27b1 : ((strOfNums t278).toList != (strOfNums t282).toList) = false := bne_eq_false_iff_eq.mpr c27
                        clear c27
                        by_cases c28 : t279 = t283
                        · rw [if_pos c28] at H
                          have c28b0 : (t279 == t283) = true := beq_iff_eq.mpr c28
                          have c28b1 : (t279 != t283) = false := bne_eq_false_iff_eq.mpr c28
                          clear c28
                          by_cases c29 : t286 = t291
                          · rw [if_pos c29] at H
                            have c29b0 : (t286 == t291) = true := beq_iff_eq.mpr c29
                            have c29b1 : (t286 != t291) = false := bne_eq_false_iff_eq.mpr c29
                            clear c29
                            by_cases c30 : (strOfNums t287).toList = (strOfNums t292).toList
                            · rw [if_pos c30] at H
                              have c30b0 : ((strOfNums t287).toList == (strOfNums t292).toList) = true := beq_iff_eq.mpr c30
                              have c30b1 : ((strOfNums t287).toList != (strOfNums t292).toList) = false := bne_eq_false_iff_eq.mpr c30
                              clear c30
                              by_cases c31 : t288 = t293
                              · rw [if_pos c31] at H
                                have c31b0 : (t288 == t293) = true := beq_iff_eq.mpr c31
                                have c31b1 : (t288 != t293) = false := bne_eq_false_iff_eq.mpr c31
                                clear c31
                                by_cases c32 : t296 = t302
                                · rw [if_pos c32] at H
                                  have c32b0 : (t296 == t302) = true := beq_iff_eq.mpr c32
                                  have c32b1 : (t296 != t302) = false := bne_eq_false_iff_eq.mpr c32
                                  clear c32
                                  by_cases c33 : t297 = t303
                                  · rw [if_pos c33] at H
                                    have c33b0 : (t297 == t303) = true := beq_iff_eq.mpr c33
                                    have c33b1 : (t297 != t303) = false := bne_eq_false_iff_eq.mpr c33
                                    clear c33
                                    by_cases c34 : (strOfNums t298).toList = (strOfNums t304).toList
                                    · rw [if_pos c34] at H
                                      have c34b0 : ((strOfNums t298).toList == (strOfNums t304).toList) = true := beq_iff_eq.mpr c34
                                      have c34b1 : ((strOfNums t298).toList != (strOfNums t304).toList) = false := bne_eq_false_iff_eq.mpr c34
                                      clear c34
                                      by_cases c35 : t299 = t305
                                      · rw [if_pos c35] at H
                                        have c35b0 : (t299 == t305) = true := beq_iff_eq.mpr c35
                                        have c35b1 : (t299 != t305) = false := bne_eq_false_iff_eq.mpr c35
                                        clear c35
                                        replace H := Option.bind_eq_some_iff.mp H
                                        obtain ⟨t308, A360, H⟩ := H
                                        replace H : (if t308 = true then ((pandectlaw0_Kept.f y267 l2 t264).bind fun t309 => (if t309 = true then ((pandectlaw0_Kept.f y274 l3 t271).bind fun t310 => (some t310)) else (none))) else (none)) = some r := H
                                        have A36 := Aside0.mk A360
                                        clear A360
                                        by_cases c37 : t308 = true
                                        · subst c37
                                          have H1 : ((pandectlaw0_Kept.f y267 l2 t264).bind fun t309 => (if t309 = true then ((pandectlaw0_Kept.f y274 l3 t271).bind fun t310 => (some t310)) else (none))) = some r := by rw [if_pos rfl] at H; exact H
                                          clear H
                                          have H := H1
                                          clear H1
                                          replace H := Option.bind_eq_some_iff.mp H
                                          obtain ⟨t309, A380, H⟩ := H
                                          replace H : (if t309 = true then ((pandectlaw0_Kept.f y274 l3 t271).bind fun t310 => (some t310)) else (none)) = some r := H
                                          have A38 := Aside0.mk A380
                                          clear A380
                                          by_cases c39 : t309 = true
                                          · subst c39
                                            have H1 : ((pandectlaw0_Kept.f y274 l3 t271).bind fun t310 => (some t310)) = some r := by rw [if_pos rfl] at H; exact H
                                            clear H
                                            have H := H1
                                            clear H1
                                            replace H := Option.bind_eq_some_iff.mp H
                                            obtain ⟨t310, A400, H⟩ := H
                                            replace H : (some t310) = some r := H
                                            have A40 := Aside0.mk A400
                                            clear A400
                                            obtain rfl := Option.some.inj H
                                            go_wp2_with (first | ((with_reducible refine gate_callee (f := 19) rfl ?_); refine goesL_ (some 46) rfl rfl Try.func19 (by kernel_rfl) rfl #[.slice A1 l1.length c1] rfl (by (try simp only [List.map_toArray, List.map_cons, List.map_nil]); first | done | rfl | (simp only [List.length_drop, List.length_take]; rfl)) ?_; (with_reducible refine (pandectlaw0_Loaned.calls kj6 _ _ l1 t257 _ ?side1 ?side2 A12.out).mono ?_); (case side1 => repeat (first | exact (Kd.C_below HR1.out HB.out) | (with_reducible refine Kd.C_alloc ?_ _) | (with_reducible refine Kd.C_drewN ?_ _) | (with_reducible refine Kd.C_drew ?_))); (case side2 => exact HC1.out); rintro e w41 ⟨v258, rfl, ho0, hb⟩; refine ⟨_, rfl, ?_⟩; have n0_ := Aside0.mk (Kd.R_lower ho0 (below_size (by repeat (first | (with_reducible first | exact HB.out | apply below_alloc | apply pw_below_drewN | apply below_drew1) | exact HB.out)))); have n1_ := Aside0.mk (below_step (by repeat (first | (with_reducible first | exact HB.out | apply below_alloc | apply pw_below_drewN | apply below_drew1) | exact HB.out)) hb); clear HB; have HO259 := n0_; have HB := n1_; clear n0_ n1_; (try clear hb); (try clear hb2); (try clear hk); (try clear hi); (try clear ho0); obtain ⟨Ao43, co43, eo43⟩ := Kd.R_slice HO259.out; subst eo43; have q42 : ((l1.length : Int) : Int) ≤ ((t257.length : Int) : Int) := of_decide_eq_true (by first | (with_reducible assumption) | assumption); obtain ⟨i042, hi042, _, hsz42, _⟩ := info_parts info5; have hroom42 : t257.length ≤ co43 := (Kd.R_reads' HO259.out).2.1; have hC42 : Kd.C (Kd.int .u8) _ Ao43 t257.length t257 := (Kd.R_reads' HO259.out).2.2; have hr42 := Kd.C_take (m := ((l1.length : Int) : Int).toNat) hC42 (by omega); have hy42 : y260.length = ((l1.length : Int) : Int).toNat := (by rw [Ny260.out, List.length_take]; omega); rw [← Ny260.out] at hr42; have HR263 := Aside0.mk hr42; have HC263 := Aside0.mk (show y260.length ≤ co43 from by omega); clear hr42 hC42 hroom42 hi042 hsz42; rw [show Go.Proofs.Ytffdonpkmnngpaa.Own.loanv (.slice Ao43 t257.length co43) l1.length = .slice Ao43 y260.length co43 from by rw [hy42]; rfl]; have KY42 := Aside0.mk hy42; clear hy42; have KL42 := Aside0.mk (show ((l1.length : Int) : Int).toNat ≤ t257.length from by omega); replace q42 := eq_true q42) | ((with_reducible refine gate_callee (f := 19) rfl ?_); refine goesL_ (some 48) rfl rfl Try.func19 (by kernel_rfl) rfl #[.slice A2 l2.length c2] rfl (by (try simp only [List.map_toArray, List.map_cons, List.map_nil]); first | done | rfl | (simp only [List.length_drop, List.length_take]; rfl)) ?_; (with_reducible refine (pandectlaw0_Loaned.calls kj6 _ _ l2 t264 _ ?side1 ?side2 A15.out).mono ?_); (case side1 => repeat (first | exact (Kd.C_below HR2.out HB.out) | (with_reducible refine Kd.C_alloc ?_ _) | (with_reducible refine Kd.C_drewN ?_ _) | (with_reducible refine Kd.C_drew ?_))); (case side2 => exact HC2.out); rintro e w44 ⟨v265, rfl, ho0, hb⟩; refine ⟨_, rfl, ?_⟩; have n0_ := Aside0.mk (Kd.R_elder' (by (with_reducible repeat (first | apply Kd.R_alloc | apply Kd.R_drewN | apply Kd.R_drew)); exact HO259.out) (Kd.R_base ho0) hb); have n1_ := Aside0.mk (Kd.R_lower (Kd.R_new' ho0 (Kd.R_lt (by (with_reducible repeat (first | apply Kd.R_alloc | apply Kd.R_drewN | apply Kd.R_drew)); exact HO259.out))) (below_size (by repeat (first | (with_reducible first | exact HB.out | apply below_alloc | apply pw_below_drewN | apply below_drew1) | exact HB.out)))); have n2_ := Aside0.mk (Kd.C_below (by repeat (first | (with_reducible exact HR263.out) | (with_reducible refine Kd.C_alloc ?_ _) | (with_reducible refine Kd.C_drewN ?_ _) | (with_reducible refine Kd.C_drew ?_) | exact HR263.out)) hb); have n3_ := Aside0.mk (below_step (by repeat (first | (with_reducible first | exact HB.out | apply below_alloc | apply pw_below_drewN | apply below_drew1) | exact HB.out)) hb); clear HO259; clear HR263; clear HB; have HO259 := n0_; have HO266 := n1_; have HR263 := n2_; have HB := n3_; clear n0_ n1_ n2_ n3_; (try clear hb); (try clear hb2); (try clear hk); (try clear hi); (try clear ho0); obtain ⟨Ao46, co46, eo46⟩ := Kd.R_slice HO266.out; subst eo46; have q45 : ((l2.length : Int) : Int) ≤ ((t264.length : Int) : Int) := of_decide_eq_true (by first | (with_reducible assumption) | assumption); obtain ⟨i045, hi045, _, hsz45, _⟩ := info_parts info5; have hroom45 : t264.length ≤ co46 := (Kd.R_reads' HO266.out).2.1; have hC45 : Kd.C (Kd.int .u8) _ Ao46 t264.length t264 := (Kd.R_reads' HO266.out).2.2; have hr45 := Kd.C_take (m := ((l2.length : Int) : Int).toNat) hC45 (by omega); have hy45 : y267.length = ((l2.length : Int) : Int).toNat := (by rw [Ny267.out, List.length_take]; omega); rw [← Ny267.out] at hr45; have HR270 := Aside0.mk hr45; have HC270 := Aside0.mk (show y267.length ≤ co46 from by omega); clear hr45 hC45 hroom45 hi045 hsz45; rw [show Go.Proofs.Ytffdonpkmnngpaa.Own.loanv (.slice Ao46 t264.length co46) l2.length = .slice Ao46 y267.length co46 from by rw [hy45]; rfl]; have KY45 := Aside0.mk hy45; clear hy45; have KL45 := Aside0.mk (show ((l2.length : Int) : Int).toNat ≤ t264.length from by omega); replace q45 := eq_true q45) | ((with_reducible refine gate_callee (f := 19) rfl ?_); refine goesL_ (some 50) rfl rfl Try.func19 (by kernel_rfl) rfl #[.slice A3 l3.length c3] rfl (by (try simp only [List.map_toArray, List.map_cons, List.map_nil]); first | done | rfl | (simp only [List.length_drop, List.length_take]; rfl)) ?_; (with_reducible refine (pandectlaw0_Loaned.calls kj6 _ _ l3 t271 _ ?side1 ?side2 A18.out).mono ?_); (case side1 => repeat (first | exact (Kd.C_below HR3.out HB.out) | (with_reducible refine Kd.C_alloc ?_ _) | (with_reducible refine Kd.C_drewN ?_ _) | (with_reducible refine Kd.C_drew ?_))); (case side2 => exact HC3.out); rintro e w47 ⟨v272, rfl, ho0, hb⟩; refine ⟨_, rfl, ?_⟩; have n0_ := Aside0.mk (Kd.R_elder' (by (with_reducible repeat (first | apply Kd.R_alloc | apply Kd.R_drewN | apply Kd.R_drew)); exact HO259.out) (Kd.R_base ho0) hb); have n1_ := Aside0.mk (Kd.R_elder' (by (with_reducible repeat (first | apply Kd.R_alloc | apply Kd.R_drewN | apply Kd.R_drew)); exact HO266.out) (Kd.R_base ho0) hb); have n2_ := Aside0.mk (Kd.R_lower (Kd.R_new' (Kd.R_new' ho0 (Kd.R_lt (by (with_reducible repeat (first | apply Kd.R_alloc | apply Kd.R_drewN | apply Kd.R_drew)); exact HO259.out))) (Kd.R_lt (by (with_reducible repeat (first | apply Kd.R_alloc | apply Kd.R_drewN | apply Kd.R_drew)); exact HO266.out))) (below_size (by repeat (first | (with_reducible first | exact HB.out | apply below_alloc | apply pw_below_drewN | apply below_drew1) | exact HB.out)))); have n3_ := Aside0.mk (Kd.C_below (by repeat (first | (with_reducible exact HR263.out) | (with_reducible refine Kd.C_alloc ?_ _) | (with_reducible refine Kd.C_drewN ?_ _) | (with_reducible refine Kd.C_drew ?_) | exact HR263.out)) hb); have n4_ := Aside0.mk (Kd.C_below (by repeat (first | (with_reducible exact HR270.out) | (with_reducible refine Kd.C_alloc ?_ _) | (with_reducible refine Kd.C_drewN ?_ _) | (with_reducible refine Kd.C_drew ?_) | exact HR270.out)) hb); have n5_ := Aside0.mk (below_step (by repeat (first | (with_reducible first | exact HB.out | apply below_alloc | apply pw_below_drewN | apply below_drew1) | exact HB.out)) hb); clear HO259; clear HO266; clear HR263; clear HR270; clear HB; have HO259 := n0_; have HO266 := n1_; have HO273 := n2_; have HR263 := n3_; have HR270 := n4_; have HB := n5_; clear n0_ n1_ n2_ n3_ n4_ n5_; (try clear hb); (try clear hb2); (try clear hk); (try clear hi); (try clear ho0); obtain ⟨Ao49, co49, eo49⟩ := Kd.R_slice HO273.out; subst eo49; have q48 : ((l3.length : Int) : Int) ≤ ((t271.length : Int) : Int) := of_decide_eq_true (by first | (with_reducible assumption) | assumption); obtain ⟨i048, hi048, _, hsz48, _⟩ := info_parts info5; have hroom48 : t271.length ≤ co49 := (Kd.R_reads' HO273.out).2.1; have hC48 : Kd.C (Kd.int .u8) _ Ao49 t271.length t271 := (Kd.R_reads' HO273.out).2.2; have hr48 := Kd.C_take (m := ((l3.length : Int) : Int).toNat) hC48 (by omega); have hy48 : y274.length = ((l3.length : Int) : Int).toNat := (by rw [Ny274.out, List.length_take]; omega); rw [← Ny274.out] at hr48; have HR277 := Aside0.mk hr48; have HC277 := Aside0.mk (show y274.length ≤ co49 from by omega); clear hr48 hC48 hroom48 hi048 hsz48; rw [show Go.Proofs.Ytffdonpkmnngpaa.Own.loanv (.slice Ao49 t271.length co49) l3.length = .slice Ao49 y274.length co49 from by rw [hy48]; rfl]; have KY48 := Aside0.mk hy48; clear hy48; have KL48 := Aside0.mk (show ((l3.length : Int) : Int).toNat ≤ t271.length from by omega); replace q48 := eq_true q48) | ((with_reducible refine gate_callee (f := 34) rfl ?_); refine goesL_ (some 54) rfl rfl Try.func34 (by kernel_rfl) rfl #[.int .u64 a0, .slice Ao43 y260.length co43] rfl (by (try simp only [List.map_toArray, List.map_cons, List.map_nil]); first | done | rfl | (simp only [List.length_drop, List.length_take]; rfl)) ?_; (with_reducible refine (slot_Put.calls kj6 a0 _ _ y260 t278 t279 _ ?side1 ?side2 A21.out).mono ?_); (case side1 => repeat (first | exact (by repeat (first | (with_reducible exact HR263.out) | (with_reducible refine Kd.C_alloc ?_ _) | (with_reducible refine Kd.C_drewN ?_ _) | (with_reducible refine Kd.C_drew ?_) | exact HR263.out)) | (with_reducible refine Kd.C_alloc ?_ _) | (with_reducible refine Kd.C_drewN ?_ _) | (with_reducible refine Kd.C_drew ?_))); (case side2 => exact HC263.out); rintro e w50 ⟨v280, rfl, ho0, hb⟩; refine ⟨_, rfl, ?_⟩; have n0_ := Aside0.mk (Kd.R_elder' (by (with_reducible repeat (first | apply Kd.R_alloc | apply Kd.R_drewN | apply Kd.R_drew)); exact HO259.out) (Kd.R_base ho0) hb); have n1_ := Aside0.mk (Kd.R_elder' (by (with_reducible repeat (first | apply Kd.R_alloc | apply Kd.R_drewN | apply Kd.R_drew)); exact HO266.out) (Kd.R_base ho0) hb); have n2_ := Aside0.mk (Kd.R_elder' (by (with_reducible repeat (first | apply Kd.R_alloc | apply Kd.R_drewN | apply Kd.R_drew)); exact HO273.out) (Kd.R_base ho0) hb); have n3_ := Aside0.mk (Kd.R_lower (Kd.R_new' (Kd.R_new' (Kd.R_new' ho0 (Kd.R_lt (by (with_reducible repeat (first | apply Kd.R_alloc | apply Kd.R_drewN | apply Kd.R_drew)); exact HO259.out))) (Kd.R_lt (by (with_reducible repeat (first | apply Kd.R_alloc | apply Kd.R_drewN | apply Kd.R_drew)); exact HO266.out))) (Kd.R_lt (by (with_reducible repeat (first | apply Kd.R_alloc | apply Kd.R_drewN | apply Kd.R_drew)); exact HO273.out))) (below_size (by repeat (first | (with_reducible first | exact HB.out | apply below_alloc | apply pw_below_drewN | apply below_drew1) | exact HB.out)))); have n4_ := Aside0.mk (Kd.C_below (by repeat (first | (with_reducible exact HR263.out) | (with_reducible refine Kd.C_alloc ?_ _) | (with_reducible refine Kd.C_drewN ?_ _) | (with_reducible refine Kd.C_drew ?_) | exact HR263.out)) hb); have n5_ := Aside0.mk (Kd.C_below (by repeat (first | (with_reducible exact HR270.out) | (with_reducible refine Kd.C_alloc ?_ _) | (with_reducible refine Kd.C_drewN ?_ _) | (with_reducible refine Kd.C_drew ?_) | exact HR270.out)) hb); have n6_ := Aside0.mk (Kd.C_below (by repeat (first | (with_reducible exact HR277.out) | (with_reducible refine Kd.C_alloc ?_ _) | (with_reducible refine Kd.C_drewN ?_ _) | (with_reducible refine Kd.C_drew ?_) | exact HR277.out)) hb); have n7_ := Aside0.mk (below_step (by repeat (first | (with_reducible first | exact HB.out | apply below_alloc | apply pw_below_drewN | apply below_drew1) | exact HB.out)) hb); clear HO259; clear HO266; clear HO273; clear HR263; clear HR270; clear HR277; clear HB; have HO259 := n0_; have HO266 := n1_; have HO273 := n2_; have HO281 := n3_; have HR263 := n4_; have HR270 := n5_; have HR277 := n6_; have HB := n7_; clear n0_ n1_ n2_ n3_ n4_ n5_ n6_ n7_; (try clear hb); (try clear hb2); (try clear hk); (try clear hi); (try clear ho0)) | ((with_reducible refine gate_callee (f := 35) rfl ?_); refine goesL_ (some 60) rfl rfl Try.func35 (by kernel_rfl) rfl #[.int .u64 a0, .slice A1 l1.length c1] rfl (by (try simp only [List.map_toArray, List.map_cons, List.map_nil]); first | done | rfl | (simp only [List.length_drop, List.length_take]; rfl)) ?_; (with_reducible refine (pandectref2_PutSlot.calls kj6 a0 _ _ l1 t282 t283 _ ?side1 ?side2 A22.out).mono ?_); (case side1 => repeat (first | exact (Kd.C_below HR1.out HB.out) | (with_reducible refine Kd.C_alloc ?_ _) | (with_reducible refine Kd.C_drewN ?_ _) | (with_reducible refine Kd.C_drew ?_))); (case side2 => exact HC1.out); rintro e w51 ⟨v284, rfl, ho0, hb⟩; refine ⟨_, rfl, ?_⟩; have n0_ := Aside0.mk (Kd.R_elder' (by (with_reducible repeat (first | apply Kd.R_alloc | apply Kd.R_drewN | apply Kd.R_drew)); exact HO259.out) (Kd.R_base ho0) hb); have n1_ := Aside0.mk (Kd.R_elder' (by (with_reducible repeat (first | apply Kd.R_alloc | apply Kd.R_drewN | apply Kd.R_drew)); exact HO266.out) (Kd.R_base ho0) hb); have n2_ := Aside0.mk (Kd.R_elder' (by (with_reducible repeat (first | apply Kd.R_alloc | apply Kd.R_drewN | apply Kd.R_drew)); exact HO273.out) (Kd.R_base ho0) hb); have n3_ := Aside0.mk (Kd.R_elder' (by (with_reducible repeat (first | apply Kd.R_alloc | apply Kd.R_drewN | apply Kd.R_drew)); exact HO281.out) (Kd.R_base ho0) hb); have n4_ := Aside0.mk (Kd.R_lower (Kd.R_new' (Kd.R_new' (Kd.R_new' (Kd.R_new' ho0 (Kd.R_lt (by (with_reducible repeat (first | apply Kd.R_alloc | apply Kd.R_drewN | apply Kd.R_drew)); exact HO259.out))) (Kd.R_lt (by (with_reducible repeat (first | apply Kd.R_alloc | apply Kd.R_drewN | apply Kd.R_drew)); exact HO266.out))) (Kd.R_lt (by (with_reducible repeat (first | apply Kd.R_alloc | apply Kd.R_drewN | apply Kd.R_drew)); exact HO273.out))) (Kd.R_lt (by (with_reducible repeat (first | apply Kd.R_alloc | apply Kd.R_drewN | apply Kd.R_drew)); exact HO281.out))) (below_size (by repeat (first | (with_reducible first | exact HB.out | apply below_alloc | apply pw_below_drewN | apply below_drew1) | exact HB.out)))); have n5_ := Aside0.mk (Kd.C_below (by repeat (first | (with_reducible exact HR263.out) | (with_reducible refine Kd.C_alloc ?_ _) | (with_reducible refine Kd.C_drewN ?_ _) | (with_reducible refine Kd.C_drew ?_) | exact HR263.out)) hb); have n6_ := Aside0.mk (Kd.C_below (by repeat (first | (with_reducible exact HR270.out) | (with_reducible refine Kd.C_alloc ?_ _) | (with_reducible refine Kd.C_drewN ?_ _) | (with_reducible refine Kd.C_drew ?_) | exact HR270.out)) hb); have n7_ := Aside0.mk (Kd.C_below (by repeat (first | (with_reducible exact HR277.out) | (with_reducible refine Kd.C_alloc ?_ _) | (with_reducible refine Kd.C_drewN ?_ _) | (with_reducible refine Kd.C_drew ?_) | exact HR277.out)) hb); have n8_ := Aside0.mk (below_step (by repeat (first | (with_reducible first | exact HB.out | apply below_alloc | apply pw_below_drewN | apply below_drew1) | exact HB.out)) hb); clear HO259; clear HO266; clear HO273; clear HO281; clear HR263; clear HR270; clear HR277; clear HB; have HO259 := n0_; have HO266 := n1_; have HO273 := n2_; have HO281 := n3_; have HO285 := n4_; have HR263 := n5_; have HR270 := n6_; have HR277 := n7_; have HB := n8_; clear n0_ n1_ n2_ n3_ n4_ n5_ n6_ n7_ n8_; (try clear hb); (try clear hb2); (try clear hk); (try clear hi); (try clear ho0)) | ((with_reducible refine gate_callee (f := 36) rfl ?_); refine goesL_ (some 65) rfl rfl Try.func36 (by kernel_rfl) rfl #[.slice Ao46 y267.length co46] rfl (by (try simp only [List.map_toArray, List.map_cons, List.map_nil]); first | done | rfl | (simp only [List.length_drop, List.length_take]; rfl)) ?_; (with_reducible refine (slot_Take.calls kj6 _ _ y267 t286 t287 t288 _ ?side1 ?side2 A23.out).mono ?_); (case side1 => repeat (first | exact (by repeat (first | (with_reducible exact HR270.out) | (with_reducible refine Kd.C_alloc ?_ _) | (with_reducible refine Kd.C_drewN ?_ _) | (with_reducible refine Kd.C_drew ?_) | exact HR270.out)) | (with_reducible refine Kd.C_alloc ?_ _) | (with_reducible refine Kd.C_drewN ?_ _) | (with_reducible refine Kd.C_drew ?_))); (case side2 => exact HC270.out); rintro e w52 ⟨v289, rfl, ho0, hb⟩; refine ⟨_, rfl, ?_⟩; have n0_ := Aside0.mk (Kd.R_elder' (by (with_reducible repeat (first | apply Kd.R_alloc | apply Kd.R_drewN | apply Kd.R_drew)); exact HO259.out) (Kd.R_base ho0) hb); have n1_ := Aside0.mk (Kd.R_elder' (by (with_reducible repeat (first | apply Kd.R_alloc | apply Kd.R_drewN | apply Kd.R_drew)); exact HO266.out) (Kd.R_base ho0) hb); have n2_ := Aside0.mk (Kd.R_elder' (by (with_reducible repeat (first | apply Kd.R_alloc | apply Kd.R_drewN | apply Kd.R_drew)); exact HO273.out) (Kd.R_base ho0) hb); have n3_ := Aside0.mk (Kd.R_elder' (by (with_reducible repeat (first | apply Kd.R_alloc | apply Kd.R_drewN | apply Kd.R_drew)); exact HO281.out) (Kd.R_base ho0) hb); have n4_ := Aside0.mk (Kd.R_elder' (by (with_reducible repeat (first | apply Kd.R_alloc | apply Kd.R_drewN | apply Kd.R_drew)); exact HO285.out) (Kd.R_base ho0) hb); have n5_ := Aside0.mk (Kd.R_lower (Kd.R_new' (Kd.R_new' (Kd.R_new' (Kd.R_new' (Kd.R_new' ho0 (Kd.R_lt (by (with_reducible repeat (first | apply Kd.R_alloc | apply Kd.R_drewN | apply Kd.R_drew)); exact HO259.out))) (Kd.R_lt (by (with_reducible repeat (first | apply Kd.R_alloc | apply Kd.R_drewN | apply Kd.R_drew)); exact HO266.out))) (Kd.R_lt (by (with_reducible repeat (first | apply Kd.R_alloc | apply Kd.R_drewN | apply Kd.R_drew)); exact HO273.out))) (Kd.R_lt (by (with_reducible repeat (first | apply Kd.R_alloc | apply Kd.R_drewN | apply Kd.R_drew)); exact HO281.out))) (Kd.R_lt (by (with_reducible repeat (first | apply Kd.R_alloc | apply Kd.R_drewN | apply Kd.R_drew)); exact HO285.out))) (below_size (by repeat (first | (with_reducible first | exact HB.out | apply below_alloc | apply pw_below_drewN | apply below_drew1) | exact HB.out)))); have n6_ := Aside0.mk (Kd.C_below (by repeat (first | (with_reducible exact HR263.out) | (with_reducible refine Kd.C_alloc ?_ _) | (with_reducible refine Kd.C_drewN ?_ _) | (with_reducible refine Kd.C_drew ?_) | exact HR263.out)) hb); have n7_ := Aside0.mk (Kd.C_below (by repeat (first | (with_reducible exact HR270.out) | (with_reducible refine Kd.C_alloc ?_ _) | (with_reducible refine Kd.C_drewN ?_ _) | (with_reducible refine Kd.C_drew ?_) | exact HR270.out)) hb); have n8_ := Aside0.mk (Kd.C_below (by repeat (first | (with_reducible exact HR277.out) | (with_reducible refine Kd.C_alloc ?_ _) | (with_reducible refine Kd.C_drewN ?_ _) | (with_reducible refine Kd.C_drew ?_) | exact HR277.out)) hb); have n9_ := Aside0.mk (below_step (by repeat (first | (with_reducible first | exact HB.out | apply below_alloc | apply pw_below_drewN | apply below_drew1) | exact HB.out)) hb); clear HO259; clear HO266; clear HO273; clear HO281; clear HO285; clear HR263; clear HR270; clear HR277; clear HB; have HO259 := n0_; have HO266 := n1_; have HO273 := n2_; have HO281 := n3_; have HO285 := n4_; have HO290 := n5_; have HR263 := n6_; have HR270 := n7_; have HR277 := n8_; have HB := n9_; clear n0_ n1_ n2_ n3_ n4_ n5_ n6_ n7_ n8_ n9_; (try clear hb); (try clear hb2); (try clear hk); (try clear hi); (try clear ho0)) | ((with_reducible refine gate_callee (f := 37) rfl ?_); refine goesL_ (some 71) rfl rfl Try.func37 (by kernel_rfl) rfl #[.slice A2 l2.length c2] rfl (by (try simp only [List.map_toArray, List.map_cons, List.map_nil]); first | done | rfl | (simp only [List.length_drop, List.length_take]; rfl)) ?_; (with_reducible refine (pandectref2_TakeSlot.calls kj6 _ _ l2 t291 t292 t293 _ ?side1 ?side2 A24.out).mono ?_); (case side1 => repeat (first | exact (Kd.C_below HR2.out HB.out) | (with_reducible refine Kd.C_alloc ?_ _) | (with_reducible refine Kd.C_drewN ?_ _) | (with_reducible refine Kd.C_drew ?_))); (case side2 => exact HC2.out); rintro e w53 ⟨v294, rfl, ho0, hb⟩; refine ⟨_, rfl, ?_⟩; have n0_ := Aside0.mk (Kd.R_elder' (by (with_reducible repeat (first | apply Kd.R_alloc | apply Kd.R_drewN | apply Kd.R_drew)); exact HO259.out) (Kd.R_base ho0) hb); have n1_ := Aside0.mk (Kd.R_elder' (by (with_reducible repeat (first | apply Kd.R_alloc | apply Kd.R_drewN | apply Kd.R_drew)); exact HO266.out) (Kd.R_base ho0) hb); have n2_ := Aside0.mk (Kd.R_elder' (by (with_reducible repeat (first | apply Kd.R_alloc | apply Kd.R_drewN | apply Kd.R_drew)); exact HO273.out) (Kd.R_base ho0) hb); have n3_ := Aside0.mk (Kd.R_elder' (by (with_reducible repeat (first | apply Kd.R_alloc | apply Kd.R_drewN | apply Kd.R_drew)); exact HO281.out) (Kd.R_base ho0) hb); have n4_ := Aside0.mk (Kd.R_elder' (by (with_reducible repeat (first | apply Kd.R_alloc | apply Kd.R_drewN | apply Kd.R_drew)); exact HO285.out) (Kd.R_base ho0) hb); have n5_ := Aside0.mk (Kd.R_elder' (by (with_reducible repeat (first | apply Kd.R_alloc | apply Kd.R_drewN | apply Kd.R_drew)); exact HO290.out) (Kd.R_base ho0) hb); have n6_ := Aside0.mk (Kd.R_lower (Kd.R_new' (Kd.R_new' (Kd.R_new' (Kd.R_new' (Kd.R_new' (Kd.R_new' ho0 (Kd.R_lt (by (with_reducible repeat (first | apply Kd.R_alloc | apply Kd.R_drewN | apply Kd.R_drew)); exact HO259.out))) (Kd.R_lt (by (with_reducible repeat (first | apply Kd.R_alloc | apply Kd.R_drewN | apply Kd.R_drew)); exact HO266.out))) (Kd.R_lt (by (with_reducible repeat (first | apply Kd.R_alloc | apply Kd.R_drewN | apply Kd.R_drew)); exact HO273.out))) (Kd.R_lt (by (with_reducible repeat (first | apply Kd.R_alloc | apply Kd.R_drewN | apply Kd.R_drew)); exact HO281.out))) (Kd.R_lt (by (with_reducible repeat (first | apply Kd.R_alloc | apply Kd.R_drewN | apply Kd.R_drew)); exact HO285.out))) (Kd.R_lt (by (with_reducible repeat (first | apply Kd.R_alloc | apply Kd.R_drewN | apply Kd.R_drew)); exact HO290.out))) (below_size (by repeat (first | (with_reducible first | exact HB.out | apply below_alloc | apply pw_below_drewN | apply below_drew1) | exact HB.out)))); have n7_ := Aside0.mk (Kd.C_below (by repeat (first | (with_reducible exact HR263.out) | (with_reducible refine Kd.C_alloc ?_ _) | (with_reducible refine Kd.C_drewN ?_ _) | (with_reducible refine Kd.C_drew ?_) | exact HR263.out)) hb); have n8_ := Aside0.mk (Kd.C_below (by repeat (first | (with_reducible exact HR270.out) | (with_reducible refine Kd.C_alloc ?_ _) | (with_reducible refine Kd.C_drewN ?_ _) | (with_reducible refine Kd.C_drew ?_) | exact HR270.out)) hb); have n9_ := Aside0.mk (Kd.C_below (by repeat (first | (with_reducible exact HR277.out) | (with_reducible refine Kd.C_alloc ?_ _) | (with_reducible refine Kd.C_drewN ?_ _) | (with_reducible refine Kd.C_drew ?_) | exact HR277.out)) hb); have n10_ := Aside0.mk (below_step (by repeat (first | (with_reducible first | exact HB.out | apply below_alloc | apply pw_below_drewN | apply below_drew1) | exact HB.out)) hb); clear HO259; clear HO266; clear HO273; clear HO281; clear HO285; clear HO290; clear HR263; clear HR270; clear HR277; clear HB; have HO259 := n0_; have HO266 := n1_; have HO273 := n2_; have HO281 := n3_; have HO285 := n4_; have HO290 := n5_; have HO295 := n6_; have HR263 := n7_; have HR270 := n8_; have HR277 := n9_; have HB := n10_; clear n0_ n1_ n2_ n3_ n4_ n5_ n6_ n7_ n8_ n9_ n10_; (try clear hb); (try clear hb2); (try clear hk); (try clear hi); (try clear ho0)) | ((with_reducible refine gate_callee (f := 38) rfl ?_); refine goesL_ (some 78) rfl rfl Try.func38 (by kernel_rfl) rfl #[.slice Ao46 y267.length co46, .slice Ao49 y274.length co49] rfl (by (try simp only [List.map_toArray, List.map_cons, List.map_nil]); first | done | rfl | (simp only [List.length_drop, List.length_take]; rfl)) ?_; (with_reducible refine (slot_Better.calls kj6 _ _ y267 _ _ y274 t296 t297 t298 t299 _ ?side1 ?side2 ?side3 ?side4 A25.out).mono ?_); (case side1 => repeat (first | exact (by repeat (first | (with_reducible exact HR270.out) | (with_reducible refine Kd.C_alloc ?_ _) | (with_reducible refine Kd.C_drewN ?_ _) | (with_reducible refine Kd.C_drew ?_) | exact HR270.out)) | (with_reducible refine Kd.C_alloc ?_ _) | (with_reducible refine Kd.C_drewN ?_ _) | (with_reducible refine Kd.C_drew ?_))); (case side2 => exact HC270.out); (case side3 => repeat (first | exact (by repeat (first | (with_reducible exact HR277.out) | (with_reducible refine Kd.C_alloc ?_ _) | (with_reducible refine Kd.C_drewN ?_ _) | (with_reducible refine Kd.C_drew ?_) | exact HR277.out)) | (with_reducible refine Kd.C_alloc ?_ _) | (with_reducible refine Kd.C_drewN ?_ _) | (with_reducible refine Kd.C_drew ?_))); (case side4 => exact HC277.out); rintro e w54 ⟨v300, rfl, ho0, hb⟩; refine ⟨_, rfl, ?_⟩; have n0_ := Aside0.mk (Kd.R_elder' (by (with_reducible repeat (first | apply Kd.R_alloc | apply Kd.R_drewN | apply Kd.R_drew)); exact HO259.out) (Kd.R_base ho0) hb); have n1_ := Aside0.mk (Kd.R_elder' (by (with_reducible repeat (first | apply Kd.R_alloc | apply Kd.R_drewN | apply Kd.R_drew)); exact HO266.out) (Kd.R_base ho0) hb); have n2_ := Aside0.mk (Kd.R_elder' (by (with_reducible repeat (first | apply Kd.R_alloc | apply Kd.R_drewN | apply Kd.R_drew)); exact HO273.out) (Kd.R_base ho0) hb); have n3_ := Aside0.mk (Kd.R_elder' (by (with_reducible repeat (first | apply Kd.R_alloc | apply Kd.R_drewN | apply Kd.R_drew)); exact HO281.out) (Kd.R_base ho0) hb); have n4_ := Aside0.mk (Kd.R_elder' (by (with_reducible repeat (first | apply Kd.R_alloc | apply Kd.R_drewN | apply Kd.R_drew)); exact HO285.out) (Kd.R_base ho0) hb); have n5_ := Aside0.mk (Kd.R_elder' (by (with_reducible repeat (first | apply Kd.R_alloc | apply Kd.R_drewN | apply Kd.R_drew)); exact HO290.out) (Kd.R_base ho0) hb); have n6_ := Aside0.mk (Kd.R_elder' (by (with_reducible repeat (first | apply Kd.R_alloc | apply Kd.R_drewN | apply Kd.R_drew)); exact HO295.out) (Kd.R_base ho0) hb); have n7_ := Aside0.mk (Kd.R_lower (Kd.R_new' (Kd.R_new' (Kd.R_new' (Kd.R_new' (Kd.R_new' (Kd.R_new' (Kd.R_new' ho0 (Kd.R_lt (by (with_reducible repeat (first | apply Kd.R_alloc | apply Kd.R_drewN | apply Kd.R_drew)); exact HO259.out))) (Kd.R_lt (by (with_reducible repeat (first | apply Kd.R_alloc | apply Kd.R_drewN | apply Kd.R_drew)); exact HO266.out))) (Kd.R_lt (by (with_reducible repeat (first | apply Kd.R_alloc | apply Kd.R_drewN | apply Kd.R_drew)); exact HO273.out))) (Kd.R_lt (by (with_reducible repeat (first | apply Kd.R_alloc | apply Kd.R_drewN | apply Kd.R_drew)); exact HO281.out))) (Kd.R_lt (by (with_reducible repeat (first | apply Kd.R_alloc | apply Kd.R_drewN | apply Kd.R_drew)); exact HO285.out))) (Kd.R_lt (by (with_reducible repeat (first | apply Kd.R_alloc | apply Kd.R_drewN | apply Kd.R_drew)); exact HO290.out))) (Kd.R_lt (by (with_reducible repeat (first | apply Kd.R_alloc | apply Kd.R_drewN | apply Kd.R_drew)); exact HO295.out))) (below_size (by repeat (first | (with_reducible first | exact HB.out | apply below_alloc | apply pw_below_drewN | apply below_drew1) | exact HB.out)))); have n8_ := Aside0.mk (Kd.C_below (by repeat (first | (with_reducible exact HR263.out) | (with_reducible refine Kd.C_alloc ?_ _) | (with_reducible refine Kd.C_drewN ?_ _) | (with_reducible refine Kd.C_drew ?_) | exact HR263.out)) hb); have n9_ := Aside0.mk (Kd.C_below (by repeat (first | (with_reducible exact HR270.out) | (with_reducible refine Kd.C_alloc ?_ _) | (with_reducible refine Kd.C_drewN ?_ _) | (with_reducible refine Kd.C_drew ?_) | exact HR270.out)) hb); have n10_ := Aside0.mk (Kd.C_below (by repeat (first | (with_reducible exact HR277.out) | (with_reducible refine Kd.C_alloc ?_ _) | (with_reducible refine Kd.C_drewN ?_ _) | (with_reducible refine Kd.C_drew ?_) | exact HR277.out)) hb); have n11_ := Aside0.mk (below_step (by repeat (first | (with_reducible first | exact HB.out | apply below_alloc | apply pw_below_drewN | apply below_drew1) | exact HB.out)) hb); clear HO259; clear HO266; clear HO273; clear HO281; clear HO285; clear HO290; clear HO295; clear HR263; clear HR270; clear HR277; clear HB; have HO259 := n0_; have HO266 := n1_; have HO273 := n2_; have HO281 := n3_; have HO285 := n4_; have HO290 := n5_; have HO295 := n6_; have HO301 := n7_; have HR263 := n8_; have HR270 := n9_; have HR277 := n10_; have HB := n11_; clear n0_ n1_ n2_ n3_ n4_ n5_ n6_ n7_ n8_ n9_ n10_ n11_; (try clear hb); (try clear hb2); (try clear hk); (try clear hi); (try clear ho0)) | ((with_reducible refine gate_callee (f := 39) rfl ?_); refine goesL_ (some 86) rfl rfl Try.func39 (by kernel_rfl) rfl #[.slice A2 l2.length c2, .slice A3 l3.length c3] rfl (by (try simp only [List.map_toArray, List.map_cons, List.map_nil]); first | done | rfl | (simp only [List.length_drop, List.length_take]; rfl)) ?_; (with_reducible refine (pandectref2_Better.calls kj6 _ _ l2 _ _ l3 t302 t303 t304 t305 _ ?side1 ?side2 ?side3 ?side4 A26.out).mono ?_); (case side1 => repeat (first | exact (Kd.C_below HR2.out HB.out) | (with_reducible refine Kd.C_alloc ?_ _) | (with_reducible refine Kd.C_drewN ?_ _) | (with_reducible refine Kd.C_drew ?_))); (case side2 => exact HC2.out); (case side3 => repeat (first | exact (Kd.C_below HR3.out HB.out) | (with_reducible refine Kd.C_alloc ?_ _) | (with_reducible refine Kd.C_drewN ?_ _) | (with_reducible refine Kd.C_drew ?_))); (case side4 => exact HC3.out); rintro e w55 ⟨v306, rfl, ho0, hb⟩; refine ⟨_, rfl, ?_⟩; have n0_ := Aside0.mk (Kd.R_elder' (by (with_reducible repeat (first | apply Kd.R_alloc | apply Kd.R_drewN | apply Kd.R_drew)); exact HO259.out) (Kd.R_base ho0) hb); have n1_ := Aside0.mk (Kd.R_elder' (by (with_reducible repeat (first | apply Kd.R_alloc | apply Kd.R_drewN | apply Kd.R_drew)); exact HO266.out) (Kd.R_base ho0) hb); have n2_ := Aside0.mk (Kd.R_elder' (by (with_reducible repeat (first | apply Kd.R_alloc | apply Kd.R_drewN | apply Kd.R_drew)); exact HO273.out) (Kd.R_base ho0) hb); have n3_ := Aside0.mk (Kd.R_elder' (by (with_reducible repeat (first | apply Kd.R_alloc | apply Kd.R_drewN | apply Kd.R_drew)); exact HO281.out) (Kd.R_base ho0) hb); have n4_ := Aside0.mk (Kd.R_elder' (by (with_reducible repeat (first | apply Kd.R_alloc | apply Kd.R_drewN | apply Kd.R_drew)); exact HO285.out) (Kd.R_base ho0) hb); have n5_ := Aside0.mk (Kd.R_elder' (by (with_reducible repeat (first | apply Kd.R_alloc | apply Kd.R_drewN | apply Kd.R_drew)); exact HO290.out) (Kd.R_base ho0) hb); have n6_ := Aside0.mk (Kd.R_elder' (by (with_reducible repeat (first | apply Kd.R_alloc | apply Kd.R_drewN | apply Kd.R_drew)); exact HO295.out) (Kd.R_base ho0) hb); have n7_ := Aside0.mk (Kd.R_elder' (by (with_reducible repeat (first | apply Kd.R_alloc | apply Kd.R_drewN | apply Kd.R_drew)); exact HO301.out) (Kd.R_base ho0) hb); have n8_ := Aside0.mk (Kd.R_lower (Kd.R_new' (Kd.R_new' (Kd.R_new' (Kd.R_new' (Kd.R_new' (Kd.R_new' (Kd.R_new' (Kd.R_new' ho0 (Kd.R_lt (by (with_reducible repeat (first | apply Kd.R_alloc | apply Kd.R_drewN | apply Kd.R_drew)); exact HO259.out))) (Kd.R_lt (by (with_reducible repeat (first | apply Kd.R_alloc | apply Kd.R_drewN | apply Kd.R_drew)); exact HO266.out))) (Kd.R_lt (by (with_reducible repeat (first | apply Kd.R_alloc | apply Kd.R_drewN | apply Kd.R_drew)); exact HO273.out))) (Kd.R_lt (by (with_reducible repeat (first | apply Kd.R_alloc | apply Kd.R_drewN | apply Kd.R_drew)); exact HO281.out))) (Kd.R_lt (by (with_reducible repeat (first | apply Kd.R_alloc | apply Kd.R_drewN | apply Kd.R_drew)); exact HO285.out))) (Kd.R_lt (by (with_reducible repeat (first | apply Kd.R_alloc | apply Kd.R_drewN | apply Kd.R_drew)); exact HO290.out))) (Kd.R_lt (by (with_reducible repeat (first | apply Kd.R_alloc | apply Kd.R_drewN | apply Kd.R_drew)); exact HO295.out))) (Kd.R_lt (by (with_reducible repeat (first | apply Kd.R_alloc | apply Kd.R_drewN | apply Kd.R_drew)); exact HO301.out))) (below_size (by repeat (first | (with_reducible first | exact HB.out | apply below_alloc | apply pw_below_drewN | apply below_drew1) | exact HB.out)))); have n9_ := Aside0.mk (Kd.C_below (by repeat (first | (with_reducible exact HR263.out) | (with_reducible refine Kd.C_alloc ?_ _) | (with_reducible refine Kd.C_drewN ?_ _) | (with_reducible refine Kd.C_drew ?_) | exact HR263.out)) hb); have n10_ := Aside0.mk (Kd.C_below (by repeat (first | (with_reducible exact HR270.out) | (with_reducible refine Kd.C_alloc ?_ _) | (with_reducible refine Kd.C_drewN ?_ _) | (with_reducible refine Kd.C_drew ?_) | exact HR270.out)) hb); have n11_ := Aside0.mk (Kd.C_below (by repeat (first | (with_reducible exact HR277.out) | (with_reducible refine Kd.C_alloc ?_ _) | (with_reducible refine Kd.C_drewN ?_ _) | (with_reducible refine Kd.C_drew ?_) | exact HR277.out)) hb); have n12_ := Aside0.mk (below_step (by repeat (first | (with_reducible first | exact HB.out | apply below_alloc | apply pw_below_drewN | apply below_drew1) | exact HB.out)) hb); clear HO259; clear HO266; clear HO273; clear HO281; clear HO285; clear HO290; clear HO295; clear HO301; clear HR263; clear HR270; clear HR277; clear HB; have HO259 := n0_; have HO266 := n1_; have HO273 := n2_; have HO281 := n3_; have HO285 := n4_; have HO290 := n5_; have HO295 := n6_; have HO301 := n7_; have HO307 := n8_; have HR263 := n9_; have HR270 := n10_; have HR277 := n11_; have HB := n12_; clear n0_ n1_ n2_ n3_ n4_ n5_ n6_ n7_ n8_ n9_ n10_ n11_ n12_; (try clear hb); (try clear hb2); (try clear hk); (try clear hi); (try clear ho0); have hcv56 := own_string (P := Try.prog) Try.underlying22 Try.underlying5 Try.underlying9 (Kd.own_of_R HO281.out); have hcv57 := fun nd_ : Nat => own_string (P := Try.prog) Try.underlying22 Try.underlying5 Try.underlying9 (Kd.own_of_R (Kd.R_drewN HO281.out nd_)); have hcv58 := own_string (P := Try.prog) Try.underlying22 Try.underlying5 Try.underlying9 (Kd.own_of_R HO285.out); have hcv59 := fun nd_ : Nat => own_string (P := Try.prog) Try.underlying22 Try.underlying5 Try.underlying9 (Kd.own_of_R (Kd.R_drewN HO285.out nd_)); have hcv60 := own_string (P := Try.prog) Try.underlying22 Try.underlying5 Try.underlying9 (Kd.own_of_R HO290.out); have hcv61 := fun nd_ : Nat => own_string (P := Try.prog) Try.underlying22 Try.underlying5 Try.underlying9 (Kd.own_of_R (Kd.R_drewN HO290.out nd_)); have hcv62 := own_string (P := Try.prog) Try.underlying22 Try.underlying5 Try.underlying9 (Kd.own_of_R HO295.out); have hcv63 := fun nd_ : Nat => own_string (P := Try.prog) Try.underlying22 Try.underlying5 Try.underlying9 (Kd.own_of_R (Kd.R_drewN HO295.out nd_)); have hcv64 := own_string (P := Try.prog) Try.underlying22 Try.underlying5 Try.underlying9 (Kd.own_of_R HO301.out); have hcv65 := fun nd_ : Nat => own_string (P := Try.prog) Try.underlying22 Try.underlying5 Try.underlying9 (Kd.own_of_R (Kd.R_drewN HO301.out nd_)); have hcv66 := own_string (P := Try.prog) Try.underlying22 Try.underlying5 Try.underlying9 (Kd.own_of_R HO307.out); have hcv67 := fun nd_ : Nat => own_string (P := Try.prog) Try.underlying22 Try.underlying5 Try.underlying9 (Kd.own_of_R (Kd.R_drewN HO307.out nd_))) | (go_at_call 22; (with_reducible refine (pandectlaw0_Kept.calls _ _ y260 _ _ l1 t257 true _ ?side1 ?side2 ?side3 ?side4 ?side5 ?side6 A36.out).mono ?_); (case side1 => repeat (first | exact (by repeat (first | (with_reducible exact HR263.out) | (with_reducible refine Kd.C_alloc ?_ _) | (with_reducible refine Kd.C_drewN ?_ _) | (with_reducible refine Kd.C_drew ?_) | exact HR263.out)) | (with_reducible refine Kd.C_alloc ?_ _) | (with_reducible refine Kd.C_drewN ?_ _) | (with_reducible refine Kd.C_drew ?_))); (case side2 => exact HC263.out); (case side3 => repeat (first | exact (Kd.C_below HR1.out HB.out) | (with_reducible refine Kd.C_alloc ?_ _) | (with_reducible refine Kd.C_drewN ?_ _) | (with_reducible refine Kd.C_drew ?_))); (case side4 => exact HC1.out); (case side5 => repeat (first | exact (Kd.R_reads' HO259.out).2.2 | (with_reducible refine Kd.C_alloc ?_ _) | (with_reducible refine Kd.C_drewN ?_ _) | (with_reducible refine Kd.C_drew ?_))); (case side6 => exact (Kd.R_reads' HO259.out).2.1); rintro e w' ⟨rfl, ⟨nd, rfl⟩⟩) | (go_at_call 22; (with_reducible refine (pandectlaw0_Kept.calls _ _ y267 _ _ l2 t264 true _ ?side1 ?side2 ?side3 ?side4 ?side5 ?side6 A38.out).mono ?_); (case side1 => repeat (first | exact (by repeat (first | (with_reducible exact HR270.out) | (with_reducible refine Kd.C_alloc ?_ _) | (with_reducible refine Kd.C_drewN ?_ _) | (with_reducible refine Kd.C_drew ?_) | exact HR270.out)) | (with_reducible refine Kd.C_alloc ?_ _) | (with_reducible refine Kd.C_drewN ?_ _) | (with_reducible refine Kd.C_drew ?_))); (case side2 => exact HC270.out); (case side3 => repeat (first | exact (Kd.C_below HR2.out (by repeat (first | (with_reducible first | exact HB.out | apply below_alloc | apply pw_below_drewN | apply below_drew1) | exact HB.out))) | (with_reducible refine Kd.C_alloc ?_ _) | (with_reducible refine Kd.C_drewN ?_ _) | (with_reducible refine Kd.C_drew ?_))); (case side4 => exact HC2.out); (case side5 => repeat (first | exact (Kd.R_reads' HO266.out).2.2 | (with_reducible refine Kd.C_alloc ?_ _) | (with_reducible refine Kd.C_drewN ?_ _) | (with_reducible refine Kd.C_drew ?_))); (case side6 => exact (Kd.R_reads' HO266.out).2.1); rintro e w' ⟨rfl, ⟨nd, rfl⟩⟩) | (go_at_call 22; (with_reducible refine (pandectlaw0_Kept.calls _ _ y274 _ _ l3 t271 t310 _ ?side1 ?side2 ?side3 ?side4 ?side5 ?side6 A40.out).mono ?_); (case side1 => repeat (first | exact (by repeat (first | (with_reducible exact HR277.out) | (with_reducible refine Kd.C_alloc ?_ _) | (with_reducible refine Kd.C_drewN ?_ _) | (with_reducible refine Kd.C_drew ?_) | exact HR277.out)) | (with_reducible refine Kd.C_alloc ?_ _) | (with_reducible refine Kd.C_drewN ?_ _) | (with_reducible refine Kd.C_drew ?_))); (case side2 => exact HC277.out); (case side3 => repeat (first | exact (Kd.C_below HR3.out (by repeat (first | (with_reducible first | exact HB.out | apply below_alloc | apply pw_below_drewN | apply below_drew1) | exact HB.out))) | (with_reducible refine Kd.C_alloc ?_ _) | (with_reducible refine Kd.C_drewN ?_ _) | (with_reducible refine Kd.C_drew ?_))); (case side4 => exact HC3.out); (case side5 => repeat (first | exact (Kd.R_reads' HO273.out).2.2 | (with_reducible refine Kd.C_alloc ?_ _) | (with_reducible refine Kd.C_drewN ?_ _) | (with_reducible refine Kd.C_drew ?_))); (case side6 => exact (Kd.R_reads' HO273.out).2.1); rintro e w' ⟨rfl, ⟨nd, rfl⟩⟩))
                                            go_ret
                                            exact ⟨by first | rfl | (simp [errW_none, errW_some] <;> rfl) | (simp [*, errW_none, errW_some] <;> rfl), by repeat (first | (with_reducible first | exact HB.out | apply below_alloc | apply pw_below_drewN | apply below_drew1) | exact HB.out)⟩
                                          · replace c39 := Bool.eq_false_iff.mpr c39
                                            subst c39
                                            have H1 : (none) = some r := by rw [if_neg (show ¬ (false = true) by decide)] at H; exact H
                                            clear H
                                            have H := H1
                                            clear H1
                                            exact absurd H (by simp)
                                        · replace c37 := Bool.eq_false_iff.mpr c37
                                          subst c37
                                          have H1 : (none) = some r := by rw [if_neg (show ¬ (false = true) by decide)] at H; exact H
                                          clear H
                                          have H := H1
                                          clear H1
                                          exact absurd H (by simp)
                                      · rw [if_neg c35] at H
                                        exact absurd H (by simp)
                                    · rw [if_neg c34] at H
                                      exact absurd H (by simp)
                                  · rw [if_neg c33] at H
                                    exact absurd H (by simp)
                                · rw [if_neg c32] at H
                                  exact absurd H (by simp)
                              · rw [if_neg c31] at H
                                exact absurd H (by simp)
                            · rw [if_neg c30] at H
                              exact absurd H (by simp)
                          · rw [if_neg c29] at H
                            exact absurd H (by simp)
                        · rw [if_neg c28] at H
                          exact absurd H (by simp)
                      · rw [if_neg c27] at H
                        exact absurd H (by simp)
                    · rw [if_neg c20] at H
                      exact absurd H (by simp)
                  · rw [if_neg c19] at H
                    exact absurd H (by simp)
                · rw [if_neg c17] at H
                  exact absurd H (by simp)
              · rw [if_neg c16] at H
                exact absurd H (by simp)
            · rw [if_neg c14] at H
              exact absurd H (by simp)
          · rw [if_neg c13] at H
            exact absurd H (by simp)
  · replace c6 := Bool.eq_false_iff.mpr c6
    subst c6
    have H1 : (none) = some r := by rw [if_neg (show ¬ (false = true) by decide)] at H; exact H
    clear H
    have H := H1
    clear H1
    exact absurd H (by simp)

/-- THE ONE PURE STATEMENT of pandectlaw4_SlotAll: yours. -/
def pandectlaw4_SlotAll.Pure : Prop := ∀ (a0 : Int) (l1 : List Int) (l2 : List Int) (l3 : List Int), (Lit.int .u64 a0).wf = true → l1.length ≤ maxLen → l1.length * 1 ≤ 140737488351232 → (∀ x ∈ l1, (Lit.int .u8 x).wf = true) → l2.length ≤ maxLen → l2.length * 1 ≤ 140737488351232 → (∀ x ∈ l2, (Lit.int .u8 x).wf = true) → l3.length ≤ maxLen → l3.length * 1 ≤ 140737488351232 → (∀ x ∈ l3, (Lit.int .u8 x).wf = true) → ∃ k, pandectlaw4_SlotAll.f k a0 l1 l2 l3 = some true
theorem pandectlaw4_SlotAll.walk (P : pandectlaw4_SlotAll.Pure) (a0 : Int) (a1 : Option Addr) (len1 cap1 : Nat) (z1 : List Int) (a2 : Option Addr) (len2 cap2 : Nat) (z2 : List Int) (a3 : Option Addr) (len3 cap3 : Nat) (z3 : List Int) (w : World) (w0 : (Lit.int .u64 a0).wf = true) (w1 : (a1 = none ∧ len1 = 0 ∧ cap1 = 0 ∧ z1 = []) ∨ ∃ x, a1 = some x ∧ len1 ≤ cap1 ∧ cap1 ≤ maxLen ∧ z1.length = cap1 ∧ (∀ i, i < z1.length → w.cell? (x.add i) = some (.int .u8 (z1.getD i 0))) ∧ ∀ n ∈ z1, (Lit.int .u8 n).wf = true) (y1 : len1 * 1 ≤ 140737488351232) (w2 : (a2 = none ∧ len2 = 0 ∧ cap2 = 0 ∧ z2 = []) ∨ ∃ x, a2 = some x ∧ len2 ≤ cap2 ∧ cap2 ≤ maxLen ∧ z2.length = cap2 ∧ (∀ i, i < z2.length → w.cell? (x.add i) = some (.int .u8 (z2.getD i 0))) ∧ ∀ n ∈ z2, (Lit.int .u8 n).wf = true) (y2 : len2 * 1 ≤ 140737488351232) (w3 : (a3 = none ∧ len3 = 0 ∧ cap3 = 0 ∧ z3 = []) ∨ ∃ x, a3 = some x ∧ len3 ≤ cap3 ∧ cap3 ≤ maxLen ∧ z3.length = cap3 ∧ (∀ i, i < z3.length → w.cell? (x.add i) = some (.int .u8 (z3.getD i 0))) ∧ ∀ n ∈ z3, (Lit.int .u8 n).wf = true) (y3 : len3 * 1 ≤ 140737488351232) :
    Calls Try.prog 13 #[.int .u64 a0, .slice a1 len1 cap1, .slice a2 len2 cap2, .slice a3 len3 cap3] w fun e w' => e = .returned (.bool true) ∧ Below w.heap.size w w' := by
  obtain ⟨l1, rfl, hr1, hm1, hw1, hc1⟩ := ReadsInt.ofRowC w1
  obtain ⟨l2, rfl, hr2, hm2, hw2, hc2⟩ := ReadsInt.ofRowC w2
  obtain ⟨l3, rfl, hr3, hm3, hw3, hc3⟩ := ReadsInt.ofRowC w3
  obtain ⟨k, h⟩ := P a0 l1 l2 l3 w0 hm1 y1 hw1 hm2 y2 hw2 hm3 y3 hw3
  refine (pandectlaw4_SlotAll.calls k a0 _ _ l1 _ _ l2 _ _ l3 true w (Kd.C_of_reads (d := (0 : Int)) (h1 := fun _ => rfl) hr1) hc1 (Kd.C_of_reads (d := (0 : Int)) (h1 := fun _ => rfl) hr2) hc2 (Kd.C_of_reads (d := (0 : Int)) (h1 := fun _ => rfl) hr3) hc3 h).mono ?_
  rintro e w' ⟨rfl, hd⟩
  exact ⟨rfl, hd⟩

end Go.Proofs.Ytffdonpkmnngpaa.PSlotAll
