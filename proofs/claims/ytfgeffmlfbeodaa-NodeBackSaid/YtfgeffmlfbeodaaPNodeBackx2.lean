/- Written by a program of this workplace. -/
import Derived.Test.YtfgeffmlfbeodaaPNodeBackx0
namespace Go.Proofs.Ytfgeffmlfbeodaa.PNodeBack
open Go.RowKit Go.Proofs.YtfgeffmlfbeodaaW.PrintWords Go.Proofs.YtfgeffmlfbeodaaW.PrintLast Go.Proofs.YtfgeffmlfbeodaaW.PrintMore
attribute [local go_sem] max2_int min2_int max_two min_two max_three min_three max_four min_four   -- for this text's walks alone
set_option linter.unusedVariables false
set_option linter.unusedSimpArgs false

-- NOT PRINTED: function 120 (api_Item_120)

-- NOT PRINTED: function 100 (api_Item_100)

-- NOT PRINTED: function 118 (bytealg_Compare)

/-! ### bytes_Compare: function 90, by the model's entry -/
theorem bytes_Compare.row (A : Option Addr) (c : Nat) (l : List Int) (w : World) (h : Kd.C (Kd.int .u8) w A l.length l) : (Extern.Bytes.bytesOf (.slice A l.length c)).run Try.prog w = .ok (strOfNums l) w := by
  cases l with
  | nil =>
    cases A with
    | none => rfl
    | some a => simp [Extern.Bytes.bytesOf, Extern.Bytes.loadBytes]; rfl
  | cons x r =>
    obtain ⟨a, ea, _⟩ := Kd.at_int h 0 (by decide) (by simp)
    subst ea
    have hl := Go.Lib.run_loadBytesX (P := Try.prog) w (x :: r) a .empty (fun j y hj => by
      have hjl := (List.getElem?_eq_some_iff.1 hj).1
      obtain ⟨ad, e, hx⟩ := Kd.at_int h (j : Int) (by omega) (by omega)
      obtain rfl := Option.some.inj e
      rw [Int.toNat_natCast] at hx
      rw [hx]
      simp [rd, List.getD_eq_getElem?_getD, hj])
    show (Extern.Bytes.loadBytes a (x :: r).length .empty).run Try.prog w = _
    rw [hl]
    congr 1
    apply ByteArray.ext
    simp [strOfNums, Go.Lib.bytesOf]
def bytes_Compare.f (l0 : List Int) (l1 : List Int) : Option (Int) := some (Extern.BytealgCompare.cmp (strOfNums l0) (strOfNums l1))
set_option maxRecDepth 100000 in
theorem bytes_Compare.calls (A0 : Option Addr) (c0 : Nat) (l0 : List Int) (A1 : Option Addr) (c1 : Nat) (l1 : List Int) (r : Int) (w : World) (hr0 : Kd.C (Kd.int .u8) w A0 l0.length l0) (hc0 : l0.length ≤ c0) (hr1 : Kd.C (Kd.int .u8) w A1 l1.length l1) (hc1 : l1.length ≤ c1) (h : bytes_Compare.f l0 l1 = some r) :
    Calls Try.prog 90 #[.slice A0 l0.length c0, .slice A1 l1.length c1] w fun e w' => e = .returned (.int .i64 r) ∧ Drawn0 w w' := by
  obtain rfl := Option.some.inj h
  have hcf : (callFunc 118 #[.slice A0 l0.length c0, .slice A1 l1.length c1]).run Try.prog w = .ok (.value (.int .i64 (Extern.BytealgCompare.cmp (strOfNums l0) (strOfNums l1)))) w := by
    obtain ⟨h2, h3, h4, h5⟩ := Go.Proofs.Ytfgeffmlfbeodaa.Ev.cmp_here.ok _ (by kernel_rfl : Try.prog.funcs[118]? = some Try.f118)
    rw [run_callFunc_extern (by kernel_rfl : Try.prog.funcs[118]? = some Try.f118) h2 h3 h4 h5]
    have e : (Extern.BytealgCompare.compare #[.slice A0 l0.length c0, .slice A1 l1.length c1]).run Try.prog w = .ok (.int .i64 (Extern.BytealgCompare.cmp (strOfNums l0) (strOfNums l1))) w := by
      show Sem.run Try.prog (do pure (goInt (Extern.BytealgCompare.cmp (← Extern.Bytes.bytesOf (.slice A0 l0.length c0)) (← Extern.Bytes.bytesOf (.slice A1 l1.length c1))))) w = _
      rw [Sem.run_bind, bytes_Compare.row A0 c0 l0 w hr0]
      simp only [Result.andThen_ok]
      rw [Sem.run_bind, bytes_Compare.row A1 c1 l1 w hr1]
      rfl
    rw [e]; rfl
  clear hr0 hr1 hc0 hc1 h
  go_enter Try.func90, Try.ntmps90
  go_wp2
  go_ret
  exact ⟨rfl, Drawn0.refl _⟩

/-! ### node_rising: function 102 -/
def node_rising.l0 : Nat → List (List Int) → List (List Int) → Int → Int → Option (Bool)
  | 0, _, _, _, _ => none
  | k + 1, x0, x5, x6, x7 => if x7 < x6 then (if 0 ≤ x7 then (if x7 < (x5.length : Int) then (if ((rd_L1 x5 x7).length : Int) < 1 then (some false) else (if ((rd_L1 x5 x7).length : Int) > 40 then (some false) else (if x7 > 0 then (if 0 ≤ (wrap64 (x7 - 1)) then (if (wrap64 (x7 - 1)) < (x0.length : Int) then ((bytes_Compare.f (rd_L1 x0 (wrap64 (x7 - 1))) (rd_L1 x5 x7)).bind fun t103 => (if t103 ≥ 0 then (some false) else (node_rising.l0 k x0 x5 x6 (wrap64 (x7 + 1))))) else (none)) else (none)) else (node_rising.l0 k x0 x5 x6 (wrap64 (x7 + 1)))))) else (none)) else (none)) else (some true)
def node_rising.f (k : Nat) (l0 : List (List Int)) : Option (Bool) := node_rising.l0 k l0 l0 (l0.length : Int) 0
theorem node_rising.mono_l : ∀ k, (∀ y0 y1 y2 y3, LeO (node_rising.l0 k y0 y1 y2 y3) (node_rising.l0 (k + 1) y0 y1 y2 y3))
  | 0 => fun _ _ _ _ r h => by simp [node_rising.l0] at h
  | k + 1 => by
    have ih0 := node_rising.mono_l k
    · intro y0 y1 y2 y3
      unfold node_rising.l0
      repeat' first
      | (with_reducible exact ih0 _ _ _ _)
      | (with_reducible exact LeO.refl _)
      | (with_reducible exact LeO.none _)
      | (with_reducible refine LeO.ite ?_ ?_)
      | (with_reducible refine LeO.bind ?_ (fun _ => ?_))
      | exact ih0 _ _ _ _
      | exact LeO.none _
      | refine LeO.ite ?_ ?_
      | refine LeO.bind ?_ (fun _ => ?_)
theorem node_rising.mono : ∀ a0 k, LeO (node_rising.f k a0) (node_rising.f (k + 1) a0) := by
  intro a0 k
  have ih0 := node_rising.mono_l k
  unfold node_rising.f
  repeat' first
      | (with_reducible exact ih0 _ _ _ _)
      | (with_reducible exact LeO.refl _)
      | (with_reducible exact LeO.none _)
      | (with_reducible refine LeO.ite ?_ ?_)
      | (with_reducible refine LeO.bind ?_ (fun _ => ?_))
      | exact ih0 _ _ _ _
      | exact LeO.none _
      | refine LeO.ite ?_ ?_
      | refine LeO.bind ?_ (fun _ => ?_)
set_option maxHeartbeats 8000000 in
set_option maxRecDepth 100000 in
theorem node_rising.calls (k : Nat) (A0 : Option Addr) (c0 : Nat) (l0 : List (List Int)) (r : Bool) (w : World) (hr0 : Kd.C (Kd.slice 5 (Kd.int .u8)) w A0 l0.length l0) (hc0 : l0.length ≤ c0) (h : node_rising.f k l0 = some r) :
    Calls Try.prog 102 #[.slice A0 l0.length c0] w fun e w' => e = .returned (.bool r) ∧ Drawn0 w w' := by
  have HR0 := Aside0.mk hr0
  have HC0 := Aside0.mk hc0
  clear hr0 hc0
  have H : (node_rising.l0 k l0 l0 (l0.length : Int) 0) = some r := h
  clear h
  have H' := Aside0.mk H
  clear H
  go_enter Try.func102, Try.ntmps102
  go_wp2
  go_loopg [7] k (fun kq v7 w' => ∃ (x7_1 : Int), v7 = .int .i64 x7_1 ∧ Aside0 (node_rising.l0 kq l0 l0 (l0.length : Int) x7_1 = some r) ∧ Aside0 (kq ≤ k) ∧ Drawn0 w w')
  case atStart => exact ⟨(0), (by first | rfl | (simp; done) | (simp [*]; done)), H', ⟨Nat.le_refl _⟩, by repeat (first | exact Drawn0.refl _ | apply Drawn0.step)⟩
  case round =>
    clear H'
    try clear c1
    obtain ⟨x7_1, rfl, HA, HK1, ⟨m1, rfl⟩⟩ := hrel
    cases gk with
    | zero => exact absurd HA.out (by simp [node_rising.l0])
    | succ k1 =>
      have H := HA.out
      clear HA
      simp only [node_rising.l0] at H
      by_cases c2 : x7_1 < (l0.length : Int)
      · rw [if_pos c2] at H
        have c2b0 : decide (x7_1 < (l0.length : Int)) = true := decide_eq_true c2
        clear c2
        by_cases c3 : 0 ≤ x7_1
        · rw [if_pos c3] at H
          have c3b0 : decide (0 ≤ x7_1) = true := decide_eq_true c3
          clear c3
          by_cases c4 : x7_1 < (l0.length : Int)
          · rw [if_pos c4] at H
            have c4b0 : decide (x7_1 < (l0.length : Int)) = true := decide_eq_true c4
            clear c4
            by_cases c5 : ((rd_L1 l0 x7_1).length : Int) < 1
            · rw [if_pos c5] at H
              have c5b0 : decide (((rd_L1 l0 x7_1).length : Int) < 1) = true := decide_eq_true c5
              have c5b1 : decide ((rd_L1 l0 x7_1).length < 1) = true := decide_eq_true (by omega)
              clear c5
              obtain rfl := Option.some.inj H
              have p101 : 0 ≤ (x7_1 : Int) := of_decide_eq_true (by first | (with_reducible assumption) | assumption)
              have q101 : x7_1 < (l0.length : Int) := of_decide_eq_true (by first | (with_reducible assumption) | assumption)
              obtain ⟨ad101, A101_0, c101_0, e101, hx101_0, hl101_0, hi101_0⟩ := at_L1 HR0.out x7_1 p101 q101
              cases e101
              have HR101_0 := Aside0.mk hi101_0
              have HC101_0 := Aside0.mk hl101_0
              clear hi101_0 hl101_0
              replace p101 := eq_true p101
              replace q101 := eq_true q101
              go_wp2
              go_ret
              exact ⟨by first | rfl | (simp; done) | (simp [*]; done), by repeat (first | exact Drawn0.refl _ | apply Drawn0.step)⟩
            · rw [if_neg c5] at H
              have c5b0 : decide (((rd_L1 l0 x7_1).length : Int) < 1) = false := decide_eq_false c5
              have c5b1 : decide ((rd_L1 l0 x7_1).length < 1) = false := decide_eq_false (by omega)
              clear c5
              by_cases c6 : ((rd_L1 l0 x7_1).length : Int) > 40
              · rw [if_pos c6] at H
                have c6b0 : decide (40 < ((rd_L1 l0 x7_1).length : Int)) = true := decide_eq_true c6
                have c6b1 : decide (40 < (rd_L1 l0 x7_1).length) = true := decide_eq_true (by omega)
                clear c6
                obtain rfl := Option.some.inj H
                have p101 : 0 ≤ (x7_1 : Int) := of_decide_eq_true (by first | (with_reducible assumption) | assumption)
                have q101 : x7_1 < (l0.length : Int) := of_decide_eq_true (by first | (with_reducible assumption) | assumption)
                obtain ⟨ad101, A101_0, c101_0, e101, hx101_0, hl101_0, hi101_0⟩ := at_L1 HR0.out x7_1 p101 q101
                cases e101
                have HR101_0 := Aside0.mk hi101_0
                have HC101_0 := Aside0.mk hl101_0
                clear hi101_0 hl101_0
                replace p101 := eq_true p101
                replace q101 := eq_true q101
                go_wp2
                go_ret
                exact ⟨by first | rfl | (simp; done) | (simp [*]; done), by repeat (first | exact Drawn0.refl _ | apply Drawn0.step)⟩
              · rw [if_neg c6] at H
                have c6b0 : decide (40 < ((rd_L1 l0 x7_1).length : Int)) = false := decide_eq_false c6
                have c6b1 : decide (40 < (rd_L1 l0 x7_1).length) = false := decide_eq_false (by omega)
                clear c6
                by_cases c7 : x7_1 > 0
                · rw [if_pos c7] at H
                  have c7b0 : decide (0 < x7_1) = true := decide_eq_true c7
                  clear c7
                  obtain ⟨ji8, hji8⟩ : ∃ j_ : Int, (wrap64 (x7_1 - 1)) = j_ := ⟨_, rfl⟩
                  replace H : (if 0 ≤ (ji8) then (if (ji8) < (l0.length : Int) then ((bytes_Compare.f (rd_L1 l0 (ji8)) (rd_L1 l0 x7_1)).bind fun t103 => (if t103 ≥ 0 then (some false) else (node_rising.l0 k1 l0 l0 (l0.length : Int) (wrap64 (x7_1 + 1))))) else (none)) else (none)) = some r := by first | (rw [hji8] at H; exact H) | (simp only [hji8] at H ⊢; exact H)
                  have hji8w : (IntKind.i64.wrap (x7_1 - 1)) = ji8 := (i64_w _).trans hji8
                  by_cases c9 : 0 ≤ (ji8)
                  · rw [if_pos c9] at H
                    have c9b0 : decide (0 ≤ (ji8)) = true := decide_eq_true c9
                    clear c9
                    by_cases c10 : (ji8) < (l0.length : Int)
                    · rw [if_pos c10] at H
                      have c10b0 : decide ((ji8) < (l0.length : Int)) = true := decide_eq_true c10
                      clear c10
                      replace H := Option.bind_eq_some_iff.mp H
                      obtain ⟨t103, A110, H⟩ := H
                      replace H : (if t103 ≥ 0 then (some false) else (node_rising.l0 k1 l0 l0 (l0.length : Int) (wrap64 (x7_1 + 1)))) = some r := H
                      have A11 := Aside0.mk A110
                      clear A110
                      by_cases c12 : t103 ≥ 0
                      · rw [if_pos c12] at H
                        have c12b0 : decide (0 ≤ t103) = true := decide_eq_true c12
                        clear c12
                        obtain rfl := Option.some.inj H
                        have p101 : 0 ≤ (x7_1 : Int) := of_decide_eq_true (by first | (with_reducible assumption) | assumption)
                        have q101 : x7_1 < (l0.length : Int) := of_decide_eq_true (by first | (with_reducible assumption) | assumption)
                        obtain ⟨ad101, A101_0, c101_0, e101, hx101_0, hl101_0, hi101_0⟩ := at_L1 HR0.out x7_1 p101 q101
                        cases e101
                        have HR101_0 := Aside0.mk hi101_0
                        have HC101_0 := Aside0.mk hl101_0
                        clear hi101_0 hl101_0
                        replace p101 := eq_true p101
                        replace q101 := eq_true q101
                        have p102 : 0 ≤ ((ji8) : Int) := of_decide_eq_true (by first | (with_reducible assumption) | assumption)
                        have q102 : (ji8) < (l0.length : Int) := of_decide_eq_true (by first | (with_reducible assumption) | assumption)
                        obtain ⟨ad102, A102_0, c102_0, e102, hx102_0, hl102_0, hi102_0⟩ := at_L1 HR0.out (ji8) p102 q102
                        obtain rfl : ad101 = ad102 := (by injection e102)
                        have HR102_0 := Aside0.mk hi102_0
                        have HC102_0 := Aside0.mk hl102_0
                        clear hi102_0 hl102_0
                        replace p102 := eq_true p102
                        replace q102 := eq_true q102
                        go_wp2_with (first | (go_at_call 90; (with_reducible refine (bytes_Compare.calls _ _ (rd_L1 l0 (ji8)) _ _ (rd_L1 l0 x7_1) t103 _ ?side1 ?side2 ?side3 ?side4 A11.out).mono ?_); (case side1 => repeat (first | exact HR102_0.out | (with_reducible refine Kd.C_alloc ?_ _) | (with_reducible refine Kd.C_drewN ?_ _) | (with_reducible refine Kd.C_drew ?_))); (case side2 => exact HC102_0.out); (case side3 => repeat (first | exact HR101_0.out | (with_reducible refine Kd.C_alloc ?_ _) | (with_reducible refine Kd.C_drewN ?_ _) | (with_reducible refine Kd.C_drew ?_))); (case side4 => exact HC101_0.out); rintro e w' ⟨rfl, ⟨nd, rfl⟩⟩))
                        go_ret
                        exact ⟨by first | rfl | (simp; done) | (simp only [← hji8] <;> (first | rfl | simp)) | (simp [*]; done), by repeat (first | exact Drawn0.refl _ | apply Drawn0.step)⟩
                      · rw [if_neg c12] at H
                        have c12b0 : decide (0 ≤ t103) = false := decide_eq_false c12
                        clear c12
                        have H' := Aside0.mk H
                        clear H
                        have p101 : 0 ≤ (x7_1 : Int) := of_decide_eq_true (by first | (with_reducible assumption) | assumption)
                        have q101 : x7_1 < (l0.length : Int) := of_decide_eq_true (by first | (with_reducible assumption) | assumption)
                        obtain ⟨ad101, A101_0, c101_0, e101, hx101_0, hl101_0, hi101_0⟩ := at_L1 HR0.out x7_1 p101 q101
                        cases e101
                        have HR101_0 := Aside0.mk hi101_0
                        have HC101_0 := Aside0.mk hl101_0
                        clear hi101_0 hl101_0
                        replace p101 := eq_true p101
                        replace q101 := eq_true q101
                        have p102 : 0 ≤ ((ji8) : Int) := of_decide_eq_true (by first | (with_reducible assumption) | assumption)
                        have q102 : (ji8) < (l0.length : Int) := of_decide_eq_true (by first | (with_reducible assumption) | assumption)
                        obtain ⟨ad102, A102_0, c102_0, e102, hx102_0, hl102_0, hi102_0⟩ := at_L1 HR0.out (ji8) p102 q102
                        obtain rfl : ad101 = ad102 := (by injection e102)
                        have HR102_0 := Aside0.mk hi102_0
                        have HC102_0 := Aside0.mk hl102_0
                        clear hi102_0 hl102_0
                        replace p102 := eq_true p102
                        replace q102 := eq_true q102
                        go_wp2_with (first | (go_at_call 90; (with_reducible refine (bytes_Compare.calls _ _ (rd_L1 l0 (ji8)) _ _ (rd_L1 l0 x7_1) t103 _ ?side1 ?side2 ?side3 ?side4 A11.out).mono ?_); (case side1 => repeat (first | exact HR102_0.out | (with_reducible refine Kd.C_alloc ?_ _) | (with_reducible refine Kd.C_drewN ?_ _) | (with_reducible refine Kd.C_drew ?_))); (case side2 => exact HC102_0.out); (case side3 => repeat (first | exact HR101_0.out | (with_reducible refine Kd.C_alloc ?_ _) | (with_reducible refine Kd.C_drewN ?_ _) | (with_reducible refine Kd.C_drew ?_))); (case side4 => exact HC101_0.out); rintro e w' ⟨rfl, ⟨nd, rfl⟩⟩))
                        go_roundg k1
                        case measure => have := HK1.out; omega
                        case rel => exact ⟨(wrap64 (x7_1 + 1)), (by first | rfl | (simp; done) | (simp [*]; done)), H', ⟨by have := HK1.out; omega⟩, by repeat (first | exact Drawn0.refl _ | apply Drawn0.step)⟩
                    · rw [if_neg c10] at H
                      exact absurd H (by simp)
                  · rw [if_neg c9] at H
                    exact absurd H (by simp)
                · rw [if_neg c7] at H
                  have c7b0 : decide (0 < x7_1) = false := decide_eq_false c7
                  clear c7
                  have H' := Aside0.mk H
                  clear H
                  have p101 : 0 ≤ (x7_1 : Int) := of_decide_eq_true (by first | (with_reducible assumption) | assumption)
                  have q101 : x7_1 < (l0.length : Int) := of_decide_eq_true (by first | (with_reducible assumption) | assumption)
                  obtain ⟨ad101, A101_0, c101_0, e101, hx101_0, hl101_0, hi101_0⟩ := at_L1 HR0.out x7_1 p101 q101
                  cases e101
                  have HR101_0 := Aside0.mk hi101_0
                  have HC101_0 := Aside0.mk hl101_0
                  clear hi101_0 hl101_0
                  replace p101 := eq_true p101
                  replace q101 := eq_true q101
                  go_wp2
                  go_roundg k1
                  case measure => have := HK1.out; omega
                  case rel => exact ⟨(wrap64 (x7_1 + 1)), (by first | rfl | (simp; done) | (simp [*]; done)), H', ⟨by have := HK1.out; omega⟩, by repeat (first | exact Drawn0.refl _ | apply Drawn0.step)⟩
          · rw [if_neg c4] at H
            exact absurd H (by simp)
        · rw [if_neg c3] at H
          exact absurd H (by simp)
      · rw [if_neg c2] at H
        have c2b0 : decide (x7_1 < (l0.length : Int)) = false := decide_eq_false c2
        clear c2
        obtain rfl := Option.some.inj H
        go_wp2
        go_ret
        exact ⟨by first | rfl | (simp; done) | (simp [*]; done), by repeat (first | exact Drawn0.refl _ | apply Drawn0.step)⟩

/-! ### node_keys: function 103 -/
def node_keys.l0 : Nat → List (List Int) → List (S87) → Int → Int → Option ((List (List Int)))
  | 0, _, _, _, _ => none
  | k + 1, x2, x5, x6, x7 => if x7 < x6 then (if 0 ≤ x7 then (if x7 < (x5.length : Int) then (if x2.length < 5864062014805 then (node_keys.l0 k (x2 ++ [(rd_T87 x5 x7).f0]) x5 x6 (wrap64 (x7 + 1))) else (none)) else (none)) else (none)) else (some x2)
def node_keys.f (k : Nat) (l0 : List (S87)) : Option ((List (List Int))) := node_keys.l0 k ([] : List (List Int)) l0 (l0.length : Int) 0
theorem node_keys.mono_l : ∀ k, (∀ y0 y1 y2 y3, LeO (node_keys.l0 k y0 y1 y2 y3) (node_keys.l0 (k + 1) y0 y1 y2 y3))
  | 0 => fun _ _ _ _ r h => by simp [node_keys.l0] at h
  | k + 1 => by
    have ih0 := node_keys.mono_l k
    · intro y0 y1 y2 y3
      unfold node_keys.l0
      repeat' first
      | (with_reducible exact ih0 _ _ _ _)
      | (with_reducible exact LeO.refl _)
      | (with_reducible exact LeO.none _)
      | (with_reducible refine LeO.ite ?_ ?_)
      | (with_reducible refine LeO.bind ?_ (fun _ => ?_))
      | exact ih0 _ _ _ _
      | exact LeO.none _
      | refine LeO.ite ?_ ?_
      | refine LeO.bind ?_ (fun _ => ?_)
theorem node_keys.mono : ∀ a0 k, LeO (node_keys.f k a0) (node_keys.f (k + 1) a0) := by
  intro a0 k
  have ih0 := node_keys.mono_l k
  unfold node_keys.f
  repeat' first
      | (with_reducible exact ih0 _ _ _ _)
      | (with_reducible exact LeO.refl _)
      | (with_reducible exact LeO.none _)
      | (with_reducible refine LeO.ite ?_ ?_)
      | (with_reducible refine LeO.bind ?_ (fun _ => ?_))
      | exact ih0 _ _ _ _
      | exact LeO.none _
      | refine LeO.ite ?_ ?_
      | refine LeO.bind ?_ (fun _ => ?_)
set_option maxHeartbeats 8000000 in
set_option maxRecDepth 100000 in
theorem node_keys.calls (k : Nat) (P0_ : Nat → Prop) (A0 : Option Addr) (c0 : Nat) (l0 : List (S87)) (r : List (List Int)) (w : World) (hs0 : Kd.V k87 87 w w.heap.size (fun k_ => P0_ k_) (.slice A0 l0.length c0) l0) (h : node_keys.f k l0 = some r) :
    Calls Try.prog 103 #[.slice A0 l0.length c0] w fun e w' => ∃ v0_ : Value, e = .returned (v0_) ∧ Kd.N (Kd.slice 5 (Kd.int .u8)) 22 w' w.heap.size (fun k_ => (P0_ k_ ∨ w.heap.size ≤ k_)) v0_ r ∧ Below w.heap.size w w' := by
  have hu87 := Try.underlying87
  have HO0 := Aside0.mk (show Kd.V k87 87 w w.heap.size (fun k_ => (P0_ k_ ∨ w.heap.size ≤ k_)) (.slice A0 l0.length c0) l0 from Kd.V_mono hs0 (fun k_ hk => .inl hk))
  have HB := Aside0.mk (Below.refl w.heap.size w)
  have H : (node_keys.l0 k ([] : List (List Int)) l0 (l0.length : Int) 0) = some r := h
  clear h
  have H' := Aside0.mk H
  clear H
  go_enter Try.func103, Try.ntmps103
  go_wp2
  go_loopg [2, 7] k (fun kq v2 v7 w' => ∃ (x2_1 : List (List Int)) (x7_1 : Int), v7 = .int .i64 x7_1 ∧ Aside0 (node_keys.l0 kq x2_1 l0 (l0.length : Int) x7_1 = some r) ∧ Aside0 (kq ≤ k) ∧ Aside0 (Kd.N (Kd.slice 5 (Kd.int .u8)) 22 w' w.heap.size (fun k_ => (P0_ k_ ∨ w.heap.size ≤ k_)) v2 x2_1) ∧ Aside0 (Kd.V k87 87 w' w.heap.size (fun k_ => (P0_ k_ ∨ w.heap.size ≤ k_) ∧ some k_ ≠ (v2 : Value).ownBlock) (.slice A0 l0.length c0) l0) ∧ Aside0 (Below w.heap.size w w'))
  case atStart => exact ⟨(([] : List (List Int))), (0), (by first | rfl | (simp; done) | (simp [*]; done)), H', ⟨Nat.le_refl _⟩, ⟨by first | exact Kd.S_nil _ _ _ _ _ | exact Kd.N_nil _ _ _ _ _ | exact Kd.V_nil _ _ _ _ _ | exact Kd.Q_nil _ _ _ _ _ | exact Kd.R_nil _ _ _ _ _⟩, ⟨by (with_reducible repeat (first | apply Kd.V_alloc | apply Kd.V_drewN | apply Kd.V_drew)); exact Kd.V_mono HO0.out (fun _ hk => ⟨hk, (by simp [Value.ownBlock])⟩)⟩, ⟨by repeat (first | (with_reducible first | exact HB.out | apply below_alloc | apply pw_below_drewN | apply below_drew1) | exact HB.out)⟩⟩
  case round =>
    clear H'
    try clear c1
    obtain ⟨x2_1, x7_1, rfl, HA, HK1, HO_2, HO_5, HB⟩ := hrel
    cases gk with
    | zero => exact absurd HA.out (by simp [node_keys.l0])
    | succ k1 =>
      have H := HA.out
      clear HA
      simp only [node_keys.l0] at H
      by_cases c2 : x7_1 < (l0.length : Int)
      · rw [if_pos c2] at H
        have c2b0 : decide (x7_1 < (l0.length : Int)) = true := decide_eq_true c2
        clear c2
        by_cases c3 : 0 ≤ x7_1
        · rw [if_pos c3] at H
          have c3b0 : decide (0 ≤ x7_1) = true := decide_eq_true c3
          clear c3
          by_cases c4 : x7_1 < (l0.length : Int)
          · rw [if_pos c4] at H
            have c4b0 : decide (x7_1 < (l0.length : Int)) = true := decide_eq_true c4
            clear c4
            by_cases c5 : x2_1.length < 5864062014805
            · rw [if_pos c5] at H
              have LMc5 := Aside0.mk c5
              clear c5
              obtain ⟨y106, hy106⟩ : ∃ y_ : List (List Int), y_ = (x2_1 ++ [(rd_T87 l0 x7_1).f0]) := ⟨_, rfl⟩
              replace H : (node_keys.l0 k1 y106 l0 (l0.length : Int) (wrap64 (x7_1 + 1))) = some r := by first | (rw [hy106]; with_reducible exact H) | (have H2_ := (Option.bind_some _ _).symm.trans H; rw [hy106]; with_reducible exact H2_) | (have H2_ := (Option.bind_some _ _).symm.trans H; with_reducible exact H2_) | with_reducible exact H | (rw [hy106]; exact H) | exact H
              have Ny106 := Aside0.mk hy106
              clear hy106
              have H' := Aside0.mk H
              clear H
              have p104 : 0 ≤ (x7_1 : Int) := of_decide_eq_true (by first | (with_reducible assumption) | assumption)
              have q104 : x7_1 < (l0.length : Int) := of_decide_eq_true (by first | (with_reducible assumption) | assumption)
              obtain ⟨ad104, A104_0, c104_0, A104_1, c104_1, e104, hx104_0, hx104_1, hl104_0, hi104_0, hl104_1, hi104_1⟩ := at_T87 (Kd.V_reads' HO_5.out).2.2 x7_1 p104 q104
              cases e104
              obtain ⟨ce104, hce104, hMe104, hcc104⟩ := Kd.V_get HO_5.out z87 x7_1 p104 (by first | exact q104 | exact of_decide_eq_true (by first | (with_reducible assumption) | assumption) | (have e_ := (Kd.V_reads' HO_5.out).1; omega))
              obtain ⟨ua104_0, uc104_0, ua104_1, uc104_1, rfl, ul104_0, ge104_0, ul104_1, ge104_1⟩ := k87_openF hMe104
              have hv104_0 := hcc104 0 _ rfl
              rw [Nat.add_zero] at hv104_0
              replace hv104_0 := Option.some.inj (hv104_0.symm.trans hx104_0)
              injection hv104_0 with hva_ hvn_ hvc_
              rw [hva_] at ge104_0
              rw [hvc_] at ul104_0
              have HL104_0 := Aside0.mk (show Kd.V (Kd.int .u8) 5 _ w.heap.size _ _ ((rd_T87 l0 x7_1).f0) from Kd.V_mk ul104_0 ge104_0)
              clear hva_ hvn_ hvc_ ge104_0 ul104_0
              have hv104_1 := hcc104 1 _ rfl
              rw [add_field _ _ 1 (by omega)] at hv104_1
              replace hv104_1 := Option.some.inj (hv104_1.symm.trans hx104_1)
              injection hv104_1 with hva_ hvn_ hvc_
              rw [hva_] at ge104_1
              rw [hvc_] at ul104_1
              have HL104_1 := Aside0.mk (show Kd.V (Kd.int .u8) 5 _ w.heap.size _ _ ((rd_T87 l0 x7_1).f1) from Kd.V_mk ul104_1 ge104_1)
              clear hva_ hvn_ hvc_ ge104_1 ul104_1
              clear hcc104 hce104
              have HR104_0 := Aside0.mk hi104_0
              have HC104_0 := Aside0.mk hl104_0
              clear hi104_0 hl104_0
              have HR104_1 := Aside0.mk hi104_1
              have HC104_1 := Aside0.mk hl104_1
              clear hi104_1 hl104_1
              replace p104 := eq_true p104
              replace q104 := eq_true q104
              go_wp2_with (first | ((with_reducible refine gate_dst (N := 4) rfl ?_); refine box_event ?hg (N := 4) ?hd (cs := #[.slice none 0 0, .slice none 0 0]) (t := 87) ?hr ?_; (case hd => rfl); (case hg => rfl); (case hr => first | (go_simp; done) | (go_simp; rfl)); intro gb105 hg w6 hbox hb; have n0_ := Aside0.mk (Kd.N_below (Kd.N_elderB (by (with_reducible repeat (first | apply Kd.N_alloc | apply Kd.N_drewN | apply Kd.N_drew)); exact HO_2.out) gb105 (Nat.le_of_eq hg.symm)) hb); have n1_ := Aside0.mk (Kd.V_below (Kd.V_elderB (by (with_reducible repeat (first | apply Kd.V_alloc | apply Kd.V_drewN | apply Kd.V_drew)); exact HO_5.out) gb105 (Nat.le_of_eq hg.symm)) hb); have n2_ := Aside0.mk (Kd.V_below (Kd.V_elderB (by (with_reducible repeat (first | apply Kd.V_alloc | apply Kd.V_drewN | apply Kd.V_drew)); exact HL104_0.out) gb105 (Nat.le_of_eq hg.symm)) hb); have n3_ := Aside0.mk (Kd.V_below (Kd.V_elderB (by (with_reducible repeat (first | apply Kd.V_alloc | apply Kd.V_drewN | apply Kd.V_drew)); exact HL104_1.out) gb105 (Nat.le_of_eq hg.symm)) hb); have n4_ := Aside0.mk (Kd.C_below (by repeat (first | (with_reducible exact HR104_0.out) | (with_reducible refine Kd.C_alloc ?_ _) | (with_reducible refine Kd.C_drewN ?_ _) | (with_reducible refine Kd.C_drew ?_) | exact HR104_0.out)) hb); have n5_ := Aside0.mk (Kd.C_below (by repeat (first | (with_reducible exact HR104_1.out) | (with_reducible refine Kd.C_alloc ?_ _) | (with_reducible refine Kd.C_drewN ?_ _) | (with_reducible refine Kd.C_drew ?_) | exact HR104_1.out)) hb); have n6_ := Aside0.mk (below_step (by repeat (first | (with_reducible first | exact HB.out | apply below_alloc | apply pw_below_drewN | apply below_drew1) | exact HB.out)) hb); have n7_ := Aside0.mk (hbox); have n8_ := Aside0.mk ((by rw [hg]; exact (below_size (by repeat (first | (with_reducible first | exact HB.out | apply below_alloc | apply pw_below_drewN | apply below_drew1) | exact HB.out))) : w.heap.size ≤ gb105)); have n9_ := Aside0.mk ((by rw [hg]; exact (below_size (by repeat (first | (with_reducible first | exact HB.out | apply below_alloc | apply pw_below_drewN | apply below_drew1) | exact HB.out))) : w.heap.size ≤ gb105)); clear HO_2; clear HO_5; clear HL104_0; clear HL104_1; clear HR104_0; clear HR104_1; clear HB; have HO_2 := n0_; have HO_5 := n1_; have HL104_0 := n2_; have HL104_1 := n3_; have HR104_0 := n4_; have HR104_1 := n5_; have HB := n6_; have BK105 := n7_; have GW105 := n8_; have GE105 := n9_; clear n0_ n1_ n2_ n3_ n4_ n5_ n6_ n7_ n8_ n9_; clear hb hbox hg; have hcz7_0 : w6.cell? ⟨gb105, 0, none⟩ = some (.slice none 0 0) := (blk_cell BK105.out 0).trans rfl; have hcz7_1 : w6.cell? ⟨gb105, 1, none⟩ = some (.slice none 0 0) := (blk_cell BK105.out 1).trans rfl; have hfz7_0 := blk_frozen BK105.out 0; have hfz7_1 := blk_frozen BK105.out 1) | ((with_reducible refine gate_store (t := 87) (p := 4) rfl ?_); refine store_event (t := 87) (p := 4) (v := ?vo_w8) (w1 := ((w6.setCell ⟨gb105, 0, none⟩ (.slice A104_0 ((rd_T87 l0 x7_1).f0).length c104_0)).setCell ⟨gb105, 1, none⟩ (.slice A104_1 ((rd_T87 l0 x7_1).f1).length c104_1))) ?hg ?ho ?hn ?hr ?_; (case ho => rfl); (case hg => rfl); (case hn => rfl); (case hr => first | (go_simp; done) | (go_simp; rfl)); intro w8 hw; have n0_ : Aside0 (Kd.N (Kd.slice 5 (Kd.int .u8)) 22 w8 w.heap.size (fun k_ => (P0_ k_ ∨ w.heap.size ≤ k_) ∧ k_ ≠ gb105) u2 x2_1) := ⟨(by rw [hw]; exact (by (with_reducible repeat (first | apply Kd.N_alloc | apply Kd.N_drewN | apply Kd.N_drew)); exact Kd.N_mono (Kd.N_far (p := ⟨gb105, 1, none⟩) (Kd.N_far (p := ⟨gb105, 0, none⟩) (Kd.N_mono HO_2.out (fun k_ hk => (⟨hk, hk.2⟩ : _ ∧ k_ ≠ gb105))) (fun _ hk => hk.2) (.slice A104_0 ((rd_T87 l0 x7_1).f0).length c104_0)) (fun _ hk => hk.2) (.slice A104_1 ((rd_T87 l0 x7_1).f1).length c104_1)) (fun _ hk => ⟨hk.1.1, hk.1.2⟩)))⟩; have n1_ : Aside0 (Kd.V k87 87 w8 w.heap.size (fun k_ => (P0_ k_ ∨ w.heap.size ≤ k_) ∧ some k_ ≠ (u2 : Value).ownBlock ∧ k_ ≠ gb105) (.slice (some ad104) l0.length c0) l0) := ⟨(by rw [hw]; exact (by (with_reducible repeat (first | apply Kd.V_alloc | apply Kd.V_drewN | apply Kd.V_drew)); exact Kd.V_mono (Kd.V_far (p := ⟨gb105, 1, none⟩) (Kd.V_far (p := ⟨gb105, 0, none⟩) (Kd.V_mono HO_5.out (fun k_ hk => (⟨hk, hk.2⟩ : _ ∧ k_ ≠ gb105))) (fun _ hk => hk.2) (.slice A104_0 ((rd_T87 l0 x7_1).f0).length c104_0)) (fun _ hk => hk.2) (.slice A104_1 ((rd_T87 l0 x7_1).f1).length c104_1)) (fun _ hk => ⟨hk.1.1.1, ⟨hk.1.1.2, hk.1.2⟩⟩)))⟩; have n2_ : Aside0 (Kd.V (Kd.int .u8) 5 w8 w.heap.size (fun k_ => (P0_ k_ ∨ w.heap.size ≤ k_) ∧ some k_ ≠ (u2 : Value).ownBlock ∧ k_ ≠ gb105) (.slice A104_0 ((rd_T87 l0 x7_1).f0).length c104_0) ((rd_T87 l0 x7_1).f0)) := ⟨(by rw [hw]; exact (by (with_reducible repeat (first | apply Kd.V_alloc | apply Kd.V_drewN | apply Kd.V_drew)); exact Kd.V_mono (Kd.V_far (p := ⟨gb105, 1, none⟩) (Kd.V_far (p := ⟨gb105, 0, none⟩) (Kd.V_mono HL104_0.out (fun k_ hk => (⟨hk, hk.2⟩ : _ ∧ k_ ≠ gb105))) (fun _ hk => hk.2) (.slice A104_0 ((rd_T87 l0 x7_1).f0).length c104_0)) (fun _ hk => hk.2) (.slice A104_1 ((rd_T87 l0 x7_1).f1).length c104_1)) (fun _ hk => ⟨hk.1.1.1, ⟨hk.1.1.2, hk.1.2⟩⟩)))⟩; have n3_ : Aside0 (Kd.V (Kd.int .u8) 5 w8 w.heap.size (fun k_ => (P0_ k_ ∨ w.heap.size ≤ k_) ∧ some k_ ≠ (u2 : Value).ownBlock ∧ k_ ≠ gb105) (.slice A104_1 ((rd_T87 l0 x7_1).f1).length c104_1) ((rd_T87 l0 x7_1).f1)) := ⟨(by rw [hw]; exact (by (with_reducible repeat (first | apply Kd.V_alloc | apply Kd.V_drewN | apply Kd.V_drew)); exact Kd.V_mono (Kd.V_far (p := ⟨gb105, 1, none⟩) (Kd.V_far (p := ⟨gb105, 0, none⟩) (Kd.V_mono HL104_1.out (fun k_ hk => (⟨hk, hk.2⟩ : _ ∧ k_ ≠ gb105))) (fun _ hk => hk.2) (.slice A104_0 ((rd_T87 l0 x7_1).f0).length c104_0)) (fun _ hk => hk.2) (.slice A104_1 ((rd_T87 l0 x7_1).f1).length c104_1)) (fun _ hk => ⟨hk.1.1.1, ⟨hk.1.1.2, hk.1.2⟩⟩)))⟩; have n4_ : Aside0 (w8.heap[gb105]? = some (.cells #[.slice A104_0 ((rd_T87 l0 x7_1).f0).length c104_0, .slice A104_1 ((rd_T87 l0 x7_1).f1).length c104_1] 87 (0, 0))) := ⟨(by rw [hw]; exact (by (with_reducible repeat (first | refine blk_drewN ?_ _ | refine blk_drew ?_ | refine blk_alloc ?_ _)); refine blk_put (cs := #[.slice A104_0 ((rd_T87 l0 x7_1).f0).length c104_0, .slice none 0 0]) ?_ 1 _ rfl; (with_reducible repeat (first | refine blk_drewN ?_ _ | refine blk_drew ?_ | refine blk_alloc ?_ _)); refine blk_put (cs := #[.slice none 0 0, .slice none 0 0]) ?_ 0 _ rfl; (with_reducible repeat (first | refine blk_drewN ?_ _ | refine blk_drew ?_ | refine blk_alloc ?_ _)); exact BK105.out))⟩; have n5_ : Aside0 (Below w.heap.size w w8) := ⟨(by rw [hw]; exact (by repeat (first | (with_reducible first | exact HB.out | apply below_alloc | apply pw_below_drewN | apply below_drew1 | refine below_set ?_ GE105.out) | exact HB.out)))⟩; clear hw; clear HO_2; clear HO_5; clear HL104_0; clear HL104_1; clear BK105; clear HB; have HO_2 := n0_; have HO_5 := n1_; have HL104_0 := n2_; have HL104_1 := n3_; have BK105 := n4_; have HB := n5_; clear n0_ n1_ n2_ n3_ n4_ n5_; have hcz9_0 : w8.cell? ⟨gb105, 0, none⟩ = some (.slice A104_0 ((rd_T87 l0 x7_1).f0).length c104_0) := (blk_cell BK105.out 0).trans rfl; have hcz9_1 : w8.cell? ⟨gb105, 1, none⟩ = some (.slice A104_1 ((rd_T87 l0 x7_1).f1).length c104_1) := (blk_cell BK105.out 1).trans rfl; have hfz9_0 := blk_frozen BK105.out 0; have hfz9_1 := blk_frozen BK105.out 1) | ((with_reducible refine gate_builtin (b := .append) (xs := #[.tmp 11, .tmp 14]) rfl ?_); at_builtin; refine Kd.N_append (Kd.slice 5 (Kd.int .u8)) (w0 := w) w.heap.size rfl (.tmp 11) (.tmp 14) 76 22 (.slice none 0 0) 24 rfl Try.underlying76 info22 rfl (by decide) (by omega) u2 x2_1 ((rd_T87 l0 x7_1).f0) [.slice A104_0 ((rd_T87 l0 x7_1).f0).length c104_0] (fun k_ => (P0_ k_ ∨ w.heap.size ≤ k_) ∧ k_ ≠ gb105) (fun k_ => ((fun k_ => (P0_ k_ ∨ w.heap.size ≤ k_) ∧ k_ ≠ gb105)) k_ ∧ some k_ ≠ (u2 : Value).ownBlock) rfl rfl ?aP (fun _ hk => hk) ?aF ?aO ?aB ?aS ?aL ?_; (case aP => exact (Kd.FK_slice_mk (Kd.V_reads' (Kd.V_mono (ok' := (fun k_ => ((fun k_ => (P0_ k_ ∨ w.heap.size ≤ k_) ∧ k_ ≠ gb105)) k_ ∧ some k_ ≠ (u2 : Value).ownBlock)) (HL104_0.out) (fun k_ hk => ⟨⟨hk.1, hk.2.2⟩, hk.2.1⟩))).2.1 (Kd.V_F (Kd.V_mono (ok' := (fun k_ => ((fun k_ => (P0_ k_ ∨ w.heap.size ≤ k_) ∧ k_ ≠ gb105)) k_ ∧ some k_ ≠ (u2 : Value).ownBlock)) (HL104_0.out) (fun k_ hk => ⟨⟨hk.1, hk.2.2⟩, hk.2.1⟩))))); (case aB => exact (by repeat (first | (with_reducible first | exact HB.out | apply below_alloc | apply pw_below_drewN | apply below_drew1 | refine below_set ?_ GE105.out) | exact HB.out))); (case aF => exact (fun k_ hk => ⟨(.inr (Nat.le_trans (below_size (by repeat (first | (with_reducible first | exact HB.out | apply below_alloc | apply pw_below_drewN | apply below_drew1 | refine below_set ?_ GE105.out) | exact HB.out))) hk)), Kd.freshB (g := gb105) (o := .cells #[.slice A104_0 ((rd_T87 l0 x7_1).f0).length c104_0, .slice A104_1 ((rd_T87 l0 x7_1).f1).length c104_1] 87 (0, 0)) (by (with_reducible repeat (first | refine blk_drewN ?_ _ | refine blk_drew ?_ | refine blk_alloc ?_ _)); exact BK105.out) k_ hk⟩)); (case aO => exact (by (with_reducible repeat (first | apply Kd.N_alloc | apply Kd.N_drewN | apply Kd.N_drew)); exact HO_2.out)); (case aS => exact (below_size (by repeat (first | (with_reducible first | exact HB.out | apply below_alloc | apply pw_below_drewN | apply below_drew1 | refine below_set ?_ GE105.out) | exact HB.out)))); (case aL => have := LMc5.out; omega); intro v107 w10 ho hb hg hat; rw [← Ny106.out] at ho; have n0_ := Aside0.mk (Kd.V_afterv (ok := (fun k_ => (P0_ k_ ∨ w.heap.size ≤ k_) ∧ k_ ≠ gb105)) (by (with_reducible repeat (first | apply Kd.V_alloc | apply Kd.V_drewN | apply Kd.V_drew)); exact Kd.V_mono HO_5.out (fun _ hk => ⟨⟨hk.1, hk.2.2⟩, hk.2.1⟩)) hg hat); have n1_ := Aside0.mk (Kd.V_afterv (ok := (fun k_ => (P0_ k_ ∨ w.heap.size ≤ k_) ∧ k_ ≠ gb105)) (by (with_reducible repeat (first | apply Kd.V_alloc | apply Kd.V_drewN | apply Kd.V_drew)); exact Kd.V_mono HL104_0.out (fun _ hk => ⟨⟨hk.1, hk.2.2⟩, hk.2.1⟩)) hg hat); have n2_ := Aside0.mk (Kd.V_afterv (ok := (fun k_ => (P0_ k_ ∨ w.heap.size ≤ k_) ∧ k_ ≠ gb105)) (by (with_reducible repeat (first | apply Kd.V_alloc | apply Kd.V_drewN | apply Kd.V_drew)); exact Kd.V_mono HL104_1.out (fun _ hk => ⟨⟨hk.1, hk.2.2⟩, hk.2.1⟩)) hg hat); have n3_ := Aside0.mk (blk_grown (g := gb105) (o := .cells #[.slice A104_0 ((rd_T87 l0 x7_1).f0).length c104_0, .slice A104_1 ((rd_T87 l0 x7_1).f1).length c104_1] 87 (0, 0)) (by (with_reducible repeat (first | refine blk_drewN ?_ _ | refine blk_drew ?_ | refine blk_alloc ?_ _)); exact BK105.out) hg (Kd.N_ne HO_2.out BK105.out (by decide))); have n4_ := Aside0.mk (hb); have n5_ := Aside0.mk (ho); clear HO_5; clear HL104_0; clear HL104_1; clear BK105; clear HB; clear HO_2; have HO_5 := n0_; have HL104_0 := n1_; have HL104_1 := n2_; have BK105 := n3_; have HB := n4_; have HO108 := n5_; clear n0_ n1_ n2_ n3_ n4_ n5_; clear ho hb hg hat))
              go_roundg k1
              case measure => have := HK1.out; omega
              case rel => exact ⟨(y106), (wrap64 (x7_1 + 1)), (by first | rfl | (simp; done) | (simp [*]; done)), H', ⟨by have := HK1.out; omega⟩, ⟨by (with_reducible repeat (first | apply Kd.N_alloc | apply Kd.N_drewN | apply Kd.N_drew)); exact Kd.N_mono HO108.out (fun _ hk => hk.1)⟩, ⟨by (with_reducible repeat (first | apply Kd.V_alloc | apply Kd.V_drewN | apply Kd.V_drew)); exact Kd.V_mono HO_5.out (fun _ hk => ⟨hk.1.1, hk.2⟩)⟩, ⟨by repeat (first | (with_reducible first | exact HB.out | apply below_alloc | apply pw_below_drewN | apply below_drew1 | refine below_set ?_ GE105.out) | exact HB.out)⟩⟩
            · rw [if_neg c5] at H
              exact absurd H (by simp)
          · rw [if_neg c4] at H
            exact absurd H (by simp)
        · rw [if_neg c3] at H
          exact absurd H (by simp)
      · rw [if_neg c2] at H
        have c2b0 : decide (x7_1 < (l0.length : Int)) = false := decide_eq_false c2
        clear c2
        obtain rfl := Option.some.inj H
        go_wp2
        go_ret
        exact ⟨_, by first | rfl | (simp [errW_none, errW_some] <;> rfl) | (simp [*, errW_none, errW_some] <;> rfl), by (with_reducible repeat (first | apply Kd.N_alloc | apply Kd.N_drewN | apply Kd.N_drew)); exact HO_2.out, by repeat (first | (with_reducible first | exact HB.out | apply below_alloc | apply pw_below_drewN | apply below_drew1) | exact HB.out)⟩

-- NOT PRINTED: function 121 (api_Ref_121)

-- NOT PRINTED: function 104 (api_Ref_104)

/-! ### node_May: function 71 -/
/-- An item too long; a kid that may not be. -/
def longI (i : S87) : Bool := decide ((i.f1.length : Int) > 120)
def badR (r : S90) : Bool := decide (r.f0 < 1) || decide (r.f1 < 1) || decide (r.f1 > 1099511627776)
set_option maxHeartbeats 1000000 in
set_option maxRecDepth 100000 in
theorem cl101 (A1 : Option Addr) (n1 c1 : Nat) (A2 : Option Addr) (n2 c2 : Nat) (w : World) :
    Calls Try.prog 101 #[.agg #[.slice A1 n1 c1, .slice A2 n2 c2]] w fun e w' => e = .returned (.bool (decide ((n2 : Int) > 120))) ∧ Below w.heap.size w w' := by
  have HB := Aside0.mk (Below.refl w.heap.size w)
  obtain ⟨q, hq⟩ : ∃ q, decide ((120 : Int) < (n2 : Int)) = q := ⟨_, rfl⟩
  have hq2 : decide (120 < n2) = q := by rw [← hq]; exact decide_eq_decide.2 (by omega)
  rw [show decide ((n2 : Int) > 120) = q from hq]
  go_enter Try.func101, Try.ntmps101
  go_wp2_with (first | ((with_reducible refine gate_dst (N := 1) rfl ?_); (try (refine gate_guard (by rfl) ?_; dsimp only)); refine box_event ?hg (N := 1) ?hd (cs := #[.slice A1 n1 c1, .slice A2 n2 c2]) (t := 87) ?hr ?_; (case hd => rfl); (case hg => rfl); (case hr => first | (go_simp; done) | (go_simp; rfl)); intro gb hg w1 hbox hb; have BK := Aside0.mk hbox; clear HB; have HB := Aside0.mk hb; clear hg hbox hb; have kz0 := (blk_cell BK.out 0).trans rfl; have kf0 := blk_frozen BK.out 0; have kz1 := (blk_cell BK.out 1).trans rfl; have kf1 := blk_frozen BK.out 1))
  go_ret
  exact ⟨rfl, HB.out⟩
set_option maxHeartbeats 1000000 in
set_option maxRecDepth 100000 in
theorem cl105 (o c : Int) (w : World) :
    Calls Try.prog 105 #[.agg #[.int .i64 o, .int .u64 c]] w fun e w' => e = .returned (.bool (badR ⟨o, c⟩)) ∧ Below w.heap.size w w' := by
  have HB := Aside0.mk (Below.refl w.heap.size w)
  unfold badR
  obtain ⟨p, hp⟩ : ∃ p, decide (o < 1) = p := ⟨_, rfl⟩
  obtain ⟨q, hq⟩ : ∃ q, decide (c < 1) = q := ⟨_, rfl⟩
  obtain ⟨s, hs⟩ : ∃ s, decide (c > 1099511627776) = s := ⟨_, rfl⟩
  have hs2 : decide (1099511627776 < c) = s := hs
  simp only [hp, hq, hs]
  clear hs
  rcases p with _ | _ <;> rcases q with _ | _ <;> rcases s with _ | _
  all_goals
    go_enter Try.func105, Try.ntmps105
    go_wp2_with (first | ((with_reducible refine gate_dst (N := 1) rfl ?_); (try (refine gate_guard (by rfl) ?_; dsimp only)); refine box_event ?hg (N := 1) ?hd (cs := #[.int .i64 o, .int .u64 c]) (t := 90) ?hr ?_; (case hd => rfl); (case hg => rfl); (case hr => first | (go_simp; done) | (go_simp; rfl)); intro gb hg w1 hbox hb; have BK := Aside0.mk hbox; clear HB; have HB := Aside0.mk hb; clear hg hbox hb; have kz0 := (blk_cell BK.out 0).trans rfl; have kf0 := blk_frozen BK.out 0; have kz1 := (blk_cell BK.out 1).trans rfl; have kf1 := blk_frozen BK.out 1))
    go_ret
    exact ⟨rfl, HB.out⟩
set_option maxHeartbeats 2000000 in
set_option maxRecDepth 100000 in
theorem index_120 (A : Option Addr) (c : Nat) (l : List S87) (w : World) (hr : Kd.C k87 w A l.length l) :
    Calls Try.prog 120 #[.slice A l.length c, .func (.func 101) #[] #[]] w fun e w' => ∃ q : Int, e = .returned (.int .i64 q) ∧ decide (0 ≤ q) = l.any longI ∧ Below w.heap.size w w' := by
  have HB := Aside0.mk (Below.refl w.heap.size w)
  have HR := Aside0.mk hr
  have HMX := Aside0.mk (Kd.C_max hr)
  clear hr
  go_enter Try.func120, Try.ntmps120
  go_wp2
  go_loopg [8] (l.length + 1) (fun kq v8 w' => ∃ x : Int, v8 = .int .i64 x ∧ Aside0 (0 ≤ x ∧ x ≤ l.length ∧ x + kq = l.length + 1 ∧ (l.take x.toNat).any longI = false) ∧ Aside0 (Below w.heap.size w w'))
  case atStart => exact ⟨0, rfl, ⟨⟨by decide, Int.natCast_nonneg _, by simp, by simp⟩⟩, HB⟩
  case round =>
    clear HB
    obtain ⟨x, rfl, HX, HB⟩ := hrel
    have hX := HX.out
    cases gk with
    | zero => exact absurd hX.2.2.1 (by omega)
    | succ k1 =>
      by_cases c7 : x < (l.length : Int)
      · have c7b0 : decide (x < (l.length : Int)) = true := decide_eq_true c7
        obtain ⟨ad, A0_, c0_, A1_, c1_, e_, hx0, hx1, hl0, hi0, hl1, hi1⟩ := at_T87 HR.out x hX.1 c7
        cases e_
        replace hx0 := (HB.out.cell (World.block_lt_of_cell? w _ hx0)).trans hx0
        replace hx1 := (HB.out.cell (World.block_lt_of_cell? w _ hx1)).trans hx1
        have p7 := eq_true hX.1
        have q7 := eq_true c7
        have hi : x.toNat < l.length := by omega
        have hel : rd_T87 l x = l[x.toNat] := by simp [rd_T87, List.getD_eq_getElem?_getD, List.getElem?_eq_getElem hi]
        have hmem : rd_T87 l x ∈ l := by rw [hel]; exact List.getElem_mem _
        have hnext : (l.take (x + 1).toNat).any longI = longI (rd_T87 l x) := by
          rw [show (x + 1).toNat = x.toNat + 1 by omega, List.take_succ_eq_append_getElem hi, List.any_append, hX.2.2.2, hel]
          simp
        obtain ⟨q, hq⟩ : ∃ q, longI (rd_T87 l x) = q := ⟨_, rfl⟩
        rw [hq] at hnext
        have HQ := Aside0.mk hq
        have HN := Aside0.mk hnext
        have HI := Aside0.mk hi
        have HEL := Aside0.mk hmem
        have hw1 : wrap64 (x + 1) = x + 1 := by have := HMX.out; unfold wrap64; omega
        have HW := Aside0.mk hw1
        clear hnext hel hmem hi c7 hX hq hw1
        cases q
        · go_wp2_with (go_at_call 101; (with_reducible refine (cl101 _ _ _ _ _ _ _).mono ?_); rintro e w5 ⟨rfl, hb⟩; have n0_ := Aside0.mk (below_step HB.out hb); clear HB; have HB := n0_; clear n0_ hb; have hq := HQ.out; simp only [longI] at hq; (try rw [hq]))
          go_roundg k1
          case measure => omega
          case rel => exact ⟨x + 1, by rw [HW.out], ⟨by have := HX.out; have := HI.out; exact ⟨by omega, by omega, by omega, HN.out⟩⟩, HB⟩
        · go_wp2_with (go_at_call 101; (with_reducible refine (cl101 _ _ _ _ _ _ _).mono ?_); rintro e w5 ⟨rfl, hb⟩; have n0_ := Aside0.mk (below_step HB.out hb); clear HB; have HB := n0_; clear n0_ hb; have hq := HQ.out; simp only [longI] at hq; (try rw [hq]))
          go_ret
          refine ⟨x, rfl, ?_, HB.out⟩
          rw [decide_eq_true HX.out.1]
          symm
          rw [List.any_eq_true]
          exact ⟨_, HEL.out, HQ.out⟩
      · have c7b0 : decide (x < (l.length : Int)) = false := decide_eq_false c7
        have hany : l.any longI = false := by
          have h1 := hX.2.2.2
          rwa [List.take_of_length_le (by omega)] at h1
        clear c7 hX
        go_wp2
        go_ret
        exact ⟨-1, rfl, by rw [hany]; rfl, HB.out⟩
set_option maxHeartbeats 2000000 in
set_option maxRecDepth 100000 in
theorem index_121 (A : Option Addr) (c : Nat) (l : List S90) (w : World) (hr : Kd.C k90 w A l.length l) :
    Calls Try.prog 121 #[.slice A l.length c, .func (.func 105) #[] #[]] w fun e w' => ∃ q : Int, e = .returned (.int .i64 q) ∧ decide (0 ≤ q) = l.any badR ∧ Below w.heap.size w w' := by
  have HB := Aside0.mk (Below.refl w.heap.size w)
  have HR := Aside0.mk hr
  have HMX := Aside0.mk (Kd.C_max hr)
  clear hr
  go_enter Try.func121, Try.ntmps121
  go_wp2
  go_loopg [8] (l.length + 1) (fun kq v8 w' => ∃ x : Int, v8 = .int .i64 x ∧ Aside0 (0 ≤ x ∧ x ≤ l.length ∧ x + kq = l.length + 1 ∧ (l.take x.toNat).any badR = false) ∧ Aside0 (Below w.heap.size w w'))
  case atStart => exact ⟨0, rfl, ⟨⟨by decide, Int.natCast_nonneg _, by simp, by simp⟩⟩, HB⟩
  case round =>
    clear HB
    obtain ⟨x, rfl, HX, HB⟩ := hrel
    have hX := HX.out
    cases gk with
    | zero => exact absurd hX.2.2.1 (by omega)
    | succ k1 =>
      by_cases c7 : x < (l.length : Int)
      · have c7b0 : decide (x < (l.length : Int)) = true := decide_eq_true c7
        obtain ⟨ad, e_, hx0, hx1⟩ := at_T90 HR.out x hX.1 c7
        cases e_
        replace hx0 := (HB.out.cell (World.block_lt_of_cell? w _ hx0)).trans hx0
        replace hx1 := (HB.out.cell (World.block_lt_of_cell? w _ hx1)).trans hx1
        have p7 := eq_true hX.1
        have q7 := eq_true c7
        have hi : x.toNat < l.length := by omega
        have hel : rd_T90 l x = l[x.toNat] := by simp [rd_T90, List.getD_eq_getElem?_getD, List.getElem?_eq_getElem hi]
        have hmem : rd_T90 l x ∈ l := by rw [hel]; exact List.getElem_mem _
        have hnext : (l.take (x + 1).toNat).any badR = badR (rd_T90 l x) := by
          rw [show (x + 1).toNat = x.toNat + 1 by omega, List.take_succ_eq_append_getElem hi, List.any_append, hX.2.2.2, hel]
          simp
        obtain ⟨q, hq⟩ : ∃ q, badR (rd_T90 l x) = q := ⟨_, rfl⟩
        rw [hq] at hnext
        have HQ := Aside0.mk hq
        have HN := Aside0.mk hnext
        have HI := Aside0.mk hi
        have HEL := Aside0.mk hmem
        have hw1 : wrap64 (x + 1) = x + 1 := by have := HMX.out; unfold wrap64; omega
        have HW := Aside0.mk hw1
        clear hnext hel hmem hi c7 hX hq hw1
        cases q
        · go_wp2_with (go_at_call 105; (with_reducible refine (cl105 _ _ _).mono ?_); rintro e w5 ⟨rfl, hb⟩; have n0_ := Aside0.mk (below_step HB.out hb); clear HB; have HB := n0_; clear n0_ hb; have hq := (show badR ⟨(rd_T90 l x).f0, (rd_T90 l x).f1⟩ = _ from HQ.out); rw [hq])
          go_roundg k1
          case measure => omega
          case rel => exact ⟨x + 1, by rw [HW.out], ⟨by have := HX.out; have := HI.out; exact ⟨by omega, by omega, by omega, HN.out⟩⟩, HB⟩
        · go_wp2_with (go_at_call 105; (with_reducible refine (cl105 _ _ _).mono ?_); rintro e w5 ⟨rfl, hb⟩; have n0_ := Aside0.mk (below_step HB.out hb); clear HB; have HB := n0_; clear n0_ hb; have hq := (show badR ⟨(rd_T90 l x).f0, (rd_T90 l x).f1⟩ = _ from HQ.out); rw [hq])
          go_ret
          refine ⟨x, rfl, ?_, HB.out⟩
          rw [decide_eq_true HX.out.1]
          symm
          rw [List.any_eq_true]
          exact ⟨_, HEL.out, HQ.out⟩
      · have c7b0 : decide (x < (l.length : Int)) = false := decide_eq_false c7
        have hany : l.any badR = false := by
          have h1 := hX.2.2.2
          rwa [List.take_of_length_le (by omega)] at h1
        clear c7 hX
        go_wp2
        go_ret
        exact ⟨-1, rfl, by rw [hany]; rfl, HB.out⟩
set_option maxHeartbeats 1000000 in
set_option maxRecDepth 100000 in
theorem has_100 (A : Option Addr) (c : Nat) (l : List S87) (w : World) (hr : Kd.C k87 w A l.length l) :
    Calls Try.prog 100 #[.slice A l.length c, .func (.func 101) #[] #[]] w fun e w' => e = .returned (.bool (l.any longI)) ∧ Below w.heap.size w w' := by
  have H := Aside0.mk (index_120 A c l w hr)
  clear hr
  go_enter Try.func100, Try.ntmps100
  go_wp2_with (go_at_call 120; (with_reducible refine H.out.mono ?_); rintro e w5 ⟨q, rfl, hq, hb⟩; have HB := Aside0.mk hb; clear hb; obtain ⟨p, hp⟩ : ∃ p, l.any longI = p := ⟨_, rfl⟩; rw [hp] at hq; have HP := Aside0.mk hp; clear hp)
  go_ret
  exact ⟨by rw [HP.out]; rfl, HB.out⟩
set_option maxHeartbeats 1000000 in
set_option maxRecDepth 100000 in
theorem has_104 (A : Option Addr) (c : Nat) (l : List S90) (w : World) (hr : Kd.C k90 w A l.length l) :
    Calls Try.prog 104 #[.slice A l.length c, .func (.func 105) #[] #[]] w fun e w' => e = .returned (.bool (l.any badR)) ∧ Below w.heap.size w w' := by
  have H := Aside0.mk (index_121 A c l w hr)
  clear hr
  go_enter Try.func104, Try.ntmps104
  go_wp2_with (go_at_call 121; (with_reducible refine H.out.mono ?_); rintro e w5 ⟨q, rfl, hq, hb⟩; have HB := Aside0.mk hb; clear hb; obtain ⟨p, hp⟩ : ∃ p, l.any badR = p := ⟨_, rfl⟩; rw [hp] at hq; have HP := Aside0.mk hp; clear hp)
  go_ret
  exact ⟨by rw [HP.out]; rfl, HB.out⟩
theorem heap87 : Kd.Heap k87 := Kd.heap_iso _ (Kd.heap_pair (Kd.heap_slice 5 (Kd.heap_int .u8)) (Kd.heap_slice 5 (Kd.heap_int .u8)))
def node_May.f (k : Nat) (a0 : Bool) (l1 : List S87) (l2 : List (List Int)) (l3 : List S90) : Option Bool :=
  if a0 = true then (if 1 ≤ l1.length ∧ l1.length ≤ 8 then (node_keys.f k l1).bind fun ks => (node_rising.f k ks).bind fun q => some (q && !(l1.any longI) && decide (l2.length = 0) && decide (l3.length = 0)) else some false)
  else (if 2 ≤ l3.length ∧ l3.length ≤ 8 ∧ l2.length = l3.length then (node_rising.f k l2).bind fun q => some (q && !(l3.any badR) && decide (l1.length = 0)) else some false)
theorem node_May.mono : ∀ a0 a1 a2 a3 k, LeO (node_May.f k a0 a1 a2 a3) (node_May.f (k + 1) a0 a1 a2 a3) := by
  intro a0 a1 a2 a3 k
  unfold node_May.f
  exact LeO.ite (LeO.ite (LeO.bind (node_keys.mono _ _) fun _ => LeO.bind (node_rising.mono _ _) fun _ => LeO.refl _) (LeO.refl _)) (LeO.ite (LeO.bind (node_rising.mono _ _) fun _ => LeO.refl _) (LeO.refl _))
set_option maxHeartbeats 4000000 in
set_option maxRecDepth 100000 in
theorem node_May.calls (k : Nat) (a0 : Bool) (A1 : Option Addr) (c1 : Nat) (l1 : List S87) (A2 : Option Addr) (c2 : Nat) (l2 : List (List Int)) (A3 : Option Addr) (c3 : Nat) (l3 : List S90) (r : Bool) (w : World) (hr1 : Kd.C k87 w A1 l1.length l1) (hc1 : l1.length ≤ c1) (hr2 : Kd.C (Kd.slice 5 (Kd.int .u8)) w A2 l2.length l2) (hc2 : l2.length ≤ c2) (hr3 : Kd.C k90 w A3 l3.length l3) (hc3 : l3.length ≤ c3) (h : node_May.f k a0 l1 l2 l3 = some r) :
    Calls Try.prog 71 #[.agg #[.bool a0, .slice A1 l1.length c1, .slice A2 l2.length c2, .slice A3 l3.length c3]] w fun e w' => e = .returned (.bool r) ∧ Below w.heap.size w w' := by
  have hu79 := Try.underlying79
  have HB := Aside0.mk (Below.refl w.heap.size w)
  have HR1 := Aside0.mk hr1
  have HC1 := Aside0.mk hc1
  have HR2 := Aside0.mk hr2
  have HC2 := Aside0.mk hc2
  have HR3 := Aside0.mk hr3
  have HC3 := Aside0.mk hc3
  clear hr1 hc1 hr2 hc2 hr3 hc3
  unfold node_May.f at h
  cases a0
  · rw [if_neg (by decide)] at h
    obtain ⟨lo, hlo⟩ : ∃ b, l3.any badR = b := ⟨_, rfl⟩
    rw [hlo] at h
    have HLO := Aside0.mk hlo
    clear hlo
    by_cases p1 : 2 ≤ l3.length
    · have x1 : decide ((2 : Int) ≤ (l3.length : Int)) = true := decide_eq_true (by omega)
      have y1 : decide (2 ≤ l3.length) = true := decide_eq_true p1
      by_cases p2 : l3.length ≤ 8
      · have x2 : decide ((l3.length : Int) ≤ 8) = true := decide_eq_true (by omega)
        have y2 : decide (l3.length ≤ 8) = true := decide_eq_true p2
        by_cases p3 : l2.length = l3.length
        · have x3 : ((l2.length : Int) == (l3.length : Int)) = true := by simp; omega
          rw [if_pos ⟨p1, p2, p3⟩] at h
          obtain ⟨q, hq, h⟩ := Option.bind_eq_some_iff.mp h
          have HRI := Aside0.mk hq
          obtain rfl := Option.some.inj h
          clear h hq p1 p2 p3
          obtain ⟨z, hz⟩ : ∃ b, decide (l1.length = 0) = b := ⟨_, rfl⟩
          have x4 : ((l1.length : Int) == 0) = z := by rw [← hz]; cases hh : decide (l1.length = 0) <;> simp_all <;> omega
          rw [hz]
          clear hz
          rcases q with _ | _ <;> rcases lo with _ | _ <;> rcases z with _ | _
          all_goals
            go_enter Try.func71, Try.ntmps71
            go_wp2_with (first | ((with_reducible refine gate_dst (N := 1) rfl ?_); (try (refine gate_guard (by rfl) ?_; dsimp only)); refine box_event ?hg (N := 1) ?hd (cs := #[.bool false, .slice A1 l1.length c1, .slice A2 l2.length c2, .slice A3 l3.length c3]) (t := 79) ?hr ?_; (case hd => rfl); (case hg => rfl); (case hr => first | (go_simp; done) | (go_simp; rfl)); intro gb hg w1 hbox hb; have BK := Aside0.mk hbox; have GB := Aside0.mk (show w.heap.size ≤ gb by rw [hg]; exact Nat.le_refl _); clear HB; have HB := Aside0.mk hb; clear hg hbox hb; have kz0 := (blk_cell BK.out 0).trans rfl; have kf0 := blk_frozen BK.out 0; have kz1 := (blk_cell BK.out 1).trans rfl; have kf1 := blk_frozen BK.out 1; have kz2 := (blk_cell BK.out 2).trans rfl; have kf2 := blk_frozen BK.out 2; have kz3 := (blk_cell BK.out 3).trans rfl; have kf3 := blk_frozen BK.out 3) | (go_at_call 104; (with_reducible refine (has_104 A3 c3 l3 _ (Kd.C_below HR3.out HB.out)).mono ?_); rintro e w5 ⟨rfl, hb⟩; have n0_ := Aside0.mk (below_step HB.out hb); have n1_ := Aside0.mk (blk_below BK.out hb); clear HB BK; have HB := n0_; have BK := n1_; clear n0_ n1_; clear kz0 kf0 kz1 kf1 kz2 kf2 kz3 kf3; have kz0 := (blk_cell BK.out 0).trans rfl; have kf0 := blk_frozen BK.out 0; have kz1 := (blk_cell BK.out 1).trans rfl; have kf1 := blk_frozen BK.out 1; have kz2 := (blk_cell BK.out 2).trans rfl; have kf2 := blk_frozen BK.out 2; have kz3 := (blk_cell BK.out 3).trans rfl; have kf3 := blk_frozen BK.out 3; have hlo_ := HLO.out; rw [hlo_]; clear hlo_; clear hb) | (go_at_call 102; (with_reducible refine (node_rising.calls k _ _ l2 _ _ ?s1 ?s2 HRI.out).mono ?_); (case s1 => exact Kd.C_below HR2.out HB.out); (case s2 => exact HC2.out); rintro e w6 ⟨rfl, hd⟩; have hb := hd.below; have n0_ := Aside0.mk (below_step HB.out hb); have n1_ := Aside0.mk (blk_below BK.out hb); clear HB BK; have HB := n0_; have BK := n1_; clear n0_ n1_; clear kz0 kf0 kz1 kf1 kz2 kf2 kz3 kf3; have kz0 := (blk_cell BK.out 0).trans rfl; have kf0 := blk_frozen BK.out 0; have kz1 := (blk_cell BK.out 1).trans rfl; have kf1 := blk_frozen BK.out 1; have kz2 := (blk_cell BK.out 2).trans rfl; have kf2 := blk_frozen BK.out 2; have kz3 := (blk_cell BK.out 3).trans rfl; have kf3 := blk_frozen BK.out 3; clear hb hd))
            go_ret
            exact ⟨rfl, HB.out⟩
        · have x3 : ((l2.length : Int) == (l3.length : Int)) = false := by simp; omega
          rw [if_neg (fun e => p3 e.2.2)] at h
          obtain rfl := Option.some.inj h
          clear h p1 p2 p3
          go_enter Try.func71, Try.ntmps71
          go_wp2_with (first | ((with_reducible refine gate_dst (N := 1) rfl ?_); (try (refine gate_guard (by rfl) ?_; dsimp only)); refine box_event ?hg (N := 1) ?hd (cs := #[.bool false, .slice A1 l1.length c1, .slice A2 l2.length c2, .slice A3 l3.length c3]) (t := 79) ?hr ?_; (case hd => rfl); (case hg => rfl); (case hr => first | (go_simp; done) | (go_simp; rfl)); intro gb hg w1 hbox hb; have BK := Aside0.mk hbox; have GB := Aside0.mk (show w.heap.size ≤ gb by rw [hg]; exact Nat.le_refl _); clear HB; have HB := Aside0.mk hb; clear hg hbox hb; have kz0 := (blk_cell BK.out 0).trans rfl; have kf0 := blk_frozen BK.out 0; have kz1 := (blk_cell BK.out 1).trans rfl; have kf1 := blk_frozen BK.out 1; have kz2 := (blk_cell BK.out 2).trans rfl; have kf2 := blk_frozen BK.out 2; have kz3 := (blk_cell BK.out 3).trans rfl; have kf3 := blk_frozen BK.out 3) | (go_at_call 104; (with_reducible refine (has_104 A3 c3 l3 _ (Kd.C_below HR3.out HB.out)).mono ?_); rintro e w5 ⟨rfl, hb⟩; have n0_ := Aside0.mk (below_step HB.out hb); have n1_ := Aside0.mk (blk_below BK.out hb); clear HB BK; have HB := n0_; have BK := n1_; clear n0_ n1_; clear kz0 kf0 kz1 kf1 kz2 kf2 kz3 kf3; have kz0 := (blk_cell BK.out 0).trans rfl; have kf0 := blk_frozen BK.out 0; have kz1 := (blk_cell BK.out 1).trans rfl; have kf1 := blk_frozen BK.out 1; have kz2 := (blk_cell BK.out 2).trans rfl; have kf2 := blk_frozen BK.out 2; have kz3 := (blk_cell BK.out 3).trans rfl; have kf3 := blk_frozen BK.out 3; have hlo_ := HLO.out; rw [hlo_]; clear hlo_; clear hb))
          go_ret
          exact ⟨rfl, HB.out⟩
      · have x2 : decide ((l3.length : Int) ≤ 8) = false := decide_eq_false (by omega)
        have y2 : decide (l3.length ≤ 8) = false := decide_eq_false p2
        rw [if_neg (fun e => p2 e.2.1)] at h
        obtain rfl := Option.some.inj h
        clear h p1 p2
        go_enter Try.func71, Try.ntmps71
        go_wp2_with (first | ((with_reducible refine gate_dst (N := 1) rfl ?_); (try (refine gate_guard (by rfl) ?_; dsimp only)); refine box_event ?hg (N := 1) ?hd (cs := #[.bool false, .slice A1 l1.length c1, .slice A2 l2.length c2, .slice A3 l3.length c3]) (t := 79) ?hr ?_; (case hd => rfl); (case hg => rfl); (case hr => first | (go_simp; done) | (go_simp; rfl)); intro gb hg w1 hbox hb; have BK := Aside0.mk hbox; have GB := Aside0.mk (show w.heap.size ≤ gb by rw [hg]; exact Nat.le_refl _); clear HB; have HB := Aside0.mk hb; clear hg hbox hb; have kz0 := (blk_cell BK.out 0).trans rfl; have kf0 := blk_frozen BK.out 0; have kz1 := (blk_cell BK.out 1).trans rfl; have kf1 := blk_frozen BK.out 1; have kz2 := (blk_cell BK.out 2).trans rfl; have kf2 := blk_frozen BK.out 2; have kz3 := (blk_cell BK.out 3).trans rfl; have kf3 := blk_frozen BK.out 3) | (go_at_call 104; (with_reducible refine (has_104 A3 c3 l3 _ (Kd.C_below HR3.out HB.out)).mono ?_); rintro e w5 ⟨rfl, hb⟩; have n0_ := Aside0.mk (below_step HB.out hb); have n1_ := Aside0.mk (blk_below BK.out hb); clear HB BK; have HB := n0_; have BK := n1_; clear n0_ n1_; clear kz0 kf0 kz1 kf1 kz2 kf2 kz3 kf3; have kz0 := (blk_cell BK.out 0).trans rfl; have kf0 := blk_frozen BK.out 0; have kz1 := (blk_cell BK.out 1).trans rfl; have kf1 := blk_frozen BK.out 1; have kz2 := (blk_cell BK.out 2).trans rfl; have kf2 := blk_frozen BK.out 2; have kz3 := (blk_cell BK.out 3).trans rfl; have kf3 := blk_frozen BK.out 3; have hlo_ := HLO.out; rw [hlo_]; clear hlo_; clear hb))
        go_ret
        exact ⟨rfl, HB.out⟩
    · have x1 : decide ((2 : Int) ≤ (l3.length : Int)) = false := decide_eq_false (by omega)
      have y1 : decide (2 ≤ l3.length) = false := decide_eq_false p1
      rw [if_neg (fun e => p1 e.1)] at h
      obtain rfl := Option.some.inj h
      clear h p1
      go_enter Try.func71, Try.ntmps71
      go_wp2_with (first | ((with_reducible refine gate_dst (N := 1) rfl ?_); (try (refine gate_guard (by rfl) ?_; dsimp only)); refine box_event ?hg (N := 1) ?hd (cs := #[.bool false, .slice A1 l1.length c1, .slice A2 l2.length c2, .slice A3 l3.length c3]) (t := 79) ?hr ?_; (case hd => rfl); (case hg => rfl); (case hr => first | (go_simp; done) | (go_simp; rfl)); intro gb hg w1 hbox hb; have BK := Aside0.mk hbox; have GB := Aside0.mk (show w.heap.size ≤ gb by rw [hg]; exact Nat.le_refl _); clear HB; have HB := Aside0.mk hb; clear hg hbox hb; have kz0 := (blk_cell BK.out 0).trans rfl; have kf0 := blk_frozen BK.out 0; have kz1 := (blk_cell BK.out 1).trans rfl; have kf1 := blk_frozen BK.out 1; have kz2 := (blk_cell BK.out 2).trans rfl; have kf2 := blk_frozen BK.out 2; have kz3 := (blk_cell BK.out 3).trans rfl; have kf3 := blk_frozen BK.out 3) | (go_at_call 104; (with_reducible refine (has_104 A3 c3 l3 _ (Kd.C_below HR3.out HB.out)).mono ?_); rintro e w5 ⟨rfl, hb⟩; have n0_ := Aside0.mk (below_step HB.out hb); have n1_ := Aside0.mk (blk_below BK.out hb); clear HB BK; have HB := n0_; have BK := n1_; clear n0_ n1_; clear kz0 kf0 kz1 kf1 kz2 kf2 kz3 kf3; have kz0 := (blk_cell BK.out 0).trans rfl; have kf0 := blk_frozen BK.out 0; have kz1 := (blk_cell BK.out 1).trans rfl; have kf1 := blk_frozen BK.out 1; have kz2 := (blk_cell BK.out 2).trans rfl; have kf2 := blk_frozen BK.out 2; have kz3 := (blk_cell BK.out 3).trans rfl; have kf3 := blk_frozen BK.out 3; have hlo_ := HLO.out; rw [hlo_]; clear hlo_; clear hb))
      go_ret
      exact ⟨rfl, HB.out⟩
  · rw [if_pos rfl] at h
    obtain ⟨lo, hlo⟩ : ∃ b, l1.any longI = b := ⟨_, rfl⟩
    rw [hlo] at h
    have HLO := Aside0.mk hlo
    clear hlo
    by_cases p1 : 1 ≤ l1.length
    · have x1 : decide ((1 : Int) ≤ (l1.length : Int)) = true := decide_eq_true (by omega)
      have y1 : decide (1 ≤ l1.length) = true := decide_eq_true p1
      by_cases p2 : l1.length ≤ 8
      · have x2 : decide ((l1.length : Int) ≤ 8) = true := decide_eq_true (by omega)
        have y2 : decide (l1.length ≤ 8) = true := decide_eq_true p2
        rw [if_pos ⟨p1, p2⟩] at h
        obtain ⟨ks, hks, hn⟩ := Option.bind_eq_some_iff.mp h
        clear h
        obtain ⟨q, hq, h⟩ := Option.bind_eq_some_iff.mp hn
        have HKS := Aside0.mk hks
        have HRI := Aside0.mk hq
        obtain rfl := Option.some.inj h
        clear h hq hn hks p1 p2
        obtain ⟨z, hz⟩ : ∃ b, decide (l2.length = 0) = b := ⟨_, rfl⟩
        have x4 : ((l2.length : Int) == 0) = z := by rw [← hz]; cases hh : decide (l2.length = 0) <;> simp_all <;> omega
        obtain ⟨s, hs⟩ : ∃ b, decide (l3.length = 0) = b := ⟨_, rfl⟩
        have x5 : ((l3.length : Int) == 0) = s := by rw [← hs]; cases hh : decide (l3.length = 0) <;> simp_all <;> omega
        rw [hz, hs]
        clear hz hs
        rcases q with _ | _ <;> rcases lo with _ | _ <;> rcases z with _ | _ <;> rcases s with _ | _
        all_goals
          go_enter Try.func71, Try.ntmps71
          go_wp2_with (first | ((with_reducible refine gate_dst (N := 1) rfl ?_); (try (refine gate_guard (by rfl) ?_; dsimp only)); refine box_event ?hg (N := 1) ?hd (cs := #[.bool true, .slice A1 l1.length c1, .slice A2 l2.length c2, .slice A3 l3.length c3]) (t := 79) ?hr ?_; (case hd => rfl); (case hg => rfl); (case hr => first | (go_simp; done) | (go_simp; rfl)); intro gb hg w1 hbox hb; have BK := Aside0.mk hbox; have GB := Aside0.mk (show w.heap.size ≤ gb by rw [hg]; exact Nat.le_refl _); clear HB; have HB := Aside0.mk hb; clear hg hbox hb; have kz0 := (blk_cell BK.out 0).trans rfl; have kf0 := blk_frozen BK.out 0; have kz1 := (blk_cell BK.out 1).trans rfl; have kf1 := blk_frozen BK.out 1; have kz2 := (blk_cell BK.out 2).trans rfl; have kf2 := blk_frozen BK.out 2; have kz3 := (blk_cell BK.out 3).trans rfl; have kf3 := blk_frozen BK.out 3) | (go_at_call 100; (with_reducible refine (has_100 A1 c1 l1 _ (Kd.C_below HR1.out HB.out)).mono ?_); rintro e w5 ⟨rfl, hb⟩; have n0_ := Aside0.mk (below_step HB.out hb); have n1_ := Aside0.mk (blk_below BK.out hb); clear HB BK; have HB := n0_; have BK := n1_; clear n0_ n1_; clear kz0 kf0 kz1 kf1 kz2 kf2 kz3 kf3; have kz0 := (blk_cell BK.out 0).trans rfl; have kf0 := blk_frozen BK.out 0; have kz1 := (blk_cell BK.out 1).trans rfl; have kf1 := blk_frozen BK.out 1; have kz2 := (blk_cell BK.out 2).trans rfl; have kf2 := blk_frozen BK.out 2; have kz3 := (blk_cell BK.out 3).trans rfl; have kf3 := blk_frozen BK.out 3; have hlo_ := HLO.out; rw [hlo_]; clear hlo_; clear hb) | (go_at_call 103; (with_reducible refine (node_keys.calls k (fun k_ => k_ < w.heap.size) A1 c1 l1 ks _ ?s1 HKS.out).mono ?_); (case s1 => exact ⟨A1, c1, rfl, HC1.out, Kd.F_below (Kd.C_F heap87 HR1.out) HB.out⟩); rintro e w5 ⟨v5, rfl, ho, hb⟩; have n0_ := Aside0.mk (below_step HB.out hb); have n1_ := Aside0.mk (blk_below BK.out hb); clear HB BK; have HB := n0_; have BK := n1_; clear n0_ n1_; obtain ⟨AK, ck, ek, hck, hCk⟩ := Kd.N_reads ho; subst ek; have HCK := Aside0.mk hck; have HRK := Aside0.mk hCk; clear ho hb hck hCk; clear kz0 kf0 kz1 kf1 kz2 kf2 kz3 kf3; have kz0 := (blk_cell BK.out 0).trans rfl; have kf0 := blk_frozen BK.out 0; have kz1 := (blk_cell BK.out 1).trans rfl; have kf1 := blk_frozen BK.out 1; have kz2 := (blk_cell BK.out 2).trans rfl; have kf2 := blk_frozen BK.out 2; have kz3 := (blk_cell BK.out 3).trans rfl; have kf3 := blk_frozen BK.out 3) | (go_at_call 102; (with_reducible refine (node_rising.calls k _ _ ks _ _ ?s1 ?s2 HRI.out).mono ?_); (case s1 => exact HRK.out); (case s2 => exact HCK.out); rintro e w6 ⟨rfl, hd⟩; have hb := hd.below; have n0_ := Aside0.mk (below_step HB.out hb); have n1_ := Aside0.mk (blk_below BK.out hb); clear HB BK; have HB := n0_; have BK := n1_; clear n0_ n1_; clear kz0 kf0 kz1 kf1 kz2 kf2 kz3 kf3; have kz0 := (blk_cell BK.out 0).trans rfl; have kf0 := blk_frozen BK.out 0; have kz1 := (blk_cell BK.out 1).trans rfl; have kf1 := blk_frozen BK.out 1; have kz2 := (blk_cell BK.out 2).trans rfl; have kf2 := blk_frozen BK.out 2; have kz3 := (blk_cell BK.out 3).trans rfl; have kf3 := blk_frozen BK.out 3; clear hb hd))
          go_ret
          exact ⟨rfl, HB.out⟩
      · have x2 : decide ((l1.length : Int) ≤ 8) = false := decide_eq_false (by omega)
        have y2 : decide (l1.length ≤ 8) = false := decide_eq_false p2
        rw [if_neg (fun e => p2 e.2)] at h
        obtain rfl := Option.some.inj h
        clear h p1 p2
        go_enter Try.func71, Try.ntmps71
        go_wp2_with (first | ((with_reducible refine gate_dst (N := 1) rfl ?_); (try (refine gate_guard (by rfl) ?_; dsimp only)); refine box_event ?hg (N := 1) ?hd (cs := #[.bool true, .slice A1 l1.length c1, .slice A2 l2.length c2, .slice A3 l3.length c3]) (t := 79) ?hr ?_; (case hd => rfl); (case hg => rfl); (case hr => first | (go_simp; done) | (go_simp; rfl)); intro gb hg w1 hbox hb; have BK := Aside0.mk hbox; have GB := Aside0.mk (show w.heap.size ≤ gb by rw [hg]; exact Nat.le_refl _); clear HB; have HB := Aside0.mk hb; clear hg hbox hb; have kz0 := (blk_cell BK.out 0).trans rfl; have kf0 := blk_frozen BK.out 0; have kz1 := (blk_cell BK.out 1).trans rfl; have kf1 := blk_frozen BK.out 1; have kz2 := (blk_cell BK.out 2).trans rfl; have kf2 := blk_frozen BK.out 2; have kz3 := (blk_cell BK.out 3).trans rfl; have kf3 := blk_frozen BK.out 3) | (go_at_call 100; (with_reducible refine (has_100 A1 c1 l1 _ (Kd.C_below HR1.out HB.out)).mono ?_); rintro e w5 ⟨rfl, hb⟩; have n0_ := Aside0.mk (below_step HB.out hb); have n1_ := Aside0.mk (blk_below BK.out hb); clear HB BK; have HB := n0_; have BK := n1_; clear n0_ n1_; clear kz0 kf0 kz1 kf1 kz2 kf2 kz3 kf3; have kz0 := (blk_cell BK.out 0).trans rfl; have kf0 := blk_frozen BK.out 0; have kz1 := (blk_cell BK.out 1).trans rfl; have kf1 := blk_frozen BK.out 1; have kz2 := (blk_cell BK.out 2).trans rfl; have kf2 := blk_frozen BK.out 2; have kz3 := (blk_cell BK.out 3).trans rfl; have kf3 := blk_frozen BK.out 3; have hlo_ := HLO.out; rw [hlo_]; clear hlo_; clear hb))
        go_ret
        exact ⟨rfl, HB.out⟩
    · have x1 : decide ((1 : Int) ≤ (l1.length : Int)) = false := decide_eq_false (by omega)
      have y1 : decide (1 ≤ l1.length) = false := decide_eq_false p1
      rw [if_neg (fun e => p1 e.1)] at h
      obtain rfl := Option.some.inj h
      clear h p1
      go_enter Try.func71, Try.ntmps71
      go_wp2_with (first | ((with_reducible refine gate_dst (N := 1) rfl ?_); (try (refine gate_guard (by rfl) ?_; dsimp only)); refine box_event ?hg (N := 1) ?hd (cs := #[.bool true, .slice A1 l1.length c1, .slice A2 l2.length c2, .slice A3 l3.length c3]) (t := 79) ?hr ?_; (case hd => rfl); (case hg => rfl); (case hr => first | (go_simp; done) | (go_simp; rfl)); intro gb hg w1 hbox hb; have BK := Aside0.mk hbox; have GB := Aside0.mk (show w.heap.size ≤ gb by rw [hg]; exact Nat.le_refl _); clear HB; have HB := Aside0.mk hb; clear hg hbox hb; have kz0 := (blk_cell BK.out 0).trans rfl; have kf0 := blk_frozen BK.out 0; have kz1 := (blk_cell BK.out 1).trans rfl; have kf1 := blk_frozen BK.out 1; have kz2 := (blk_cell BK.out 2).trans rfl; have kf2 := blk_frozen BK.out 2; have kz3 := (blk_cell BK.out 3).trans rfl; have kf3 := blk_frozen BK.out 3) | (go_at_call 100; (with_reducible refine (has_100 A1 c1 l1 _ (Kd.C_below HR1.out HB.out)).mono ?_); rintro e w5 ⟨rfl, hb⟩; have n0_ := Aside0.mk (below_step HB.out hb); have n1_ := Aside0.mk (blk_below BK.out hb); clear HB BK; have HB := n0_; have BK := n1_; clear n0_ n1_; clear kz0 kf0 kz1 kf1 kz2 kf2 kz3 kf3; have kz0 := (blk_cell BK.out 0).trans rfl; have kf0 := blk_frozen BK.out 0; have kz1 := (blk_cell BK.out 1).trans rfl; have kf1 := blk_frozen BK.out 1; have kz2 := (blk_cell BK.out 2).trans rfl; have kf2 := blk_frozen BK.out 2; have kz3 := (blk_cell BK.out 3).trans rfl; have kf3 := blk_frozen BK.out 3; have hlo_ := HLO.out; rw [hlo_]; clear hlo_; clear hb))
      go_ret
      exact ⟨rfl, HB.out⟩

/-! ### node_text: function 98 -/
def node_text.f (l0 : List Int) (l1 : List Int) : Option (List Int) := if l0.length < 140737488355328 then ((some (l0 ++ [((l1.length : Int)) % 256] : List Int)).bind fun y109 => (if y109.length + l1.length < 140737488355328 then (some (y109 ++ l1)) else (none))) else (none)
set_option maxHeartbeats 8000000 in
set_option maxRecDepth 100000 in
theorem node_text.calls (P0_ : Nat → Prop) (u9000_ : Value) (l0 : List Int) (A1 : Option Addr) (c1 : Nat) (l1 : List Int) (r : List Int) (w0 w : World) (hB : Below w0.heap.size w0 w) (ho0 : Kd.R (Kd.int .u8) 5 w w0.heap.size P0_ u9000_ l0) (hr1 : ∀ W_, Kept w W_ (fun k_ => P0_ k_) → Kd.C (Kd.int .u8) W_ A1 l1.length l1) (hc1 : l1.length ≤ c1) (h : node_text.f l0 l1 = some r) :
    Calls Try.prog 98 #[u9000_, .slice A1 l1.length c1] w fun e w' => ∃ v0_ : Value, e = .returned (v0_) ∧ Kd.R (Kd.int .u8) 5 w' w0.heap.size (fun k_ => (P0_ k_ ∨ w.heap.size ≤ k_)) v0_ r ∧ Below w0.heap.size w0 w' ∧ Kept w w' (fun k_ => P0_ k_) := by
  have HO0 := Aside0.mk (show Kd.R (Kd.int .u8) 5 w w0.heap.size (fun k_ => (P0_ k_ ∨ w.heap.size ≤ k_)) u9000_ l0 from Kd.R_mono ho0 (fun k_ hk => (.inl hk)))
  have HR1 := Aside0.mk hr1
  have HC1 := Aside0.mk hc1
  clear hr1 hc1
  have HK := Aside0.mk (Kept.refl w (fun k_ => P0_ k_))
  have HW0 := Aside0.mk hB.size
  have HB := Aside0.mk hB
  clear hB
  have H : (if l0.length < 140737488355328 then ((some (l0 ++ [((l1.length : Int)) % 256] : List Int)).bind fun y109 => (if y109.length + l1.length < 140737488355328 then (some (y109 ++ l1)) else (none))) else (none)) = some r := h
  clear h
  by_cases c3 : l0.length < 140737488355328
  · rw [if_pos c3] at H
    have LMc3 := Aside0.mk c3
    clear c3
    obtain ⟨y109, hy109⟩ : ∃ y_ : List Int, y_ = (l0 ++ [((l1.length : Int)) % 256]) := ⟨_, rfl⟩
    replace H : (if y109.length + l1.length < 140737488355328 then (some (y109 ++ l1)) else (none)) = some r := by first | (rw [hy109]; with_reducible exact H) | (have H2_ := (Option.bind_some _ _).symm.trans H; rw [hy109]; with_reducible exact H2_) | (have H2_ := (Option.bind_some _ _).symm.trans H; with_reducible exact H2_) | with_reducible exact H | (rw [hy109]; exact H) | exact H
    have Ny109 := Aside0.mk hy109
    clear hy109
    by_cases c4 : y109.length + l1.length < 140737488355328
    · rw [if_pos c4] at H
      have LMc4 := Aside0.mk c4
      clear c4
      obtain ⟨y112, hy112⟩ : ∃ y_ : List Int, y_ = (y109 ++ l1) := ⟨_, rfl⟩
      replace H : (some y112) = some r := by first | (rw [hy112]; with_reducible exact H) | (have H2_ := (Option.bind_some _ _).symm.trans H; rw [hy112]; with_reducible exact H2_) | (have H2_ := (Option.bind_some _ _).symm.trans H; with_reducible exact H2_) | with_reducible exact H | (rw [hy112]; exact H) | exact H
      have Ny112 := Aside0.mk hy112
      clear hy112
      obtain rfl := Option.some.inj H
      go_enter Try.func98, Try.ntmps98
      go_wp2_with (first | ((with_reducible refine gate_builtin (b := .append) (xs := #[.tmp 5, .tmp 9]) rfl ?_); at_builtin; refine Kd.R_append (Kd.int .u8) (w0 := w0) w0.heap.size rfl (.tmp 5) (.tmp 9) 22 5 (.int .u8 0) 1 rfl Try.underlying22 info5 rfl (by decide) (by omega) u9000_ l0 (((l1.length : Int)) % 256) [.int .u8 (((l1.length : Int)) % 256)] (fun k_ => (P0_ k_ ∨ w.heap.size ≤ k_)) (fun _ => False) rfl rfl ?aP (fun _ hk => hk.elim) ?aF ?aO ?aB ?aS ?aL ?_; (case aP => exact rfl); (case aB => exact (by repeat (first | (with_reducible first | exact HB.out | apply below_alloc | apply pw_below_drewN | apply below_drew1) | exact HB.out))); (case aF => exact (fun k_ hk => (.inr (Nat.le_trans (by first | exact HK.out.1 | exact (show Kept w _ (fun k_ => P0_ k_) from by repeat (first | (with_reducible first | exact HK.out | apply Kept.alloc | apply Kept.drewN | apply Kept.drew) | exact HK.out)).1) hk)))); (case aO => exact (by (with_reducible repeat (first | apply Kd.R_alloc | apply Kd.R_drewN | apply Kd.R_drew)); exact HO0.out)); (case aS => exact (below_size (by repeat (first | (with_reducible first | exact HB.out | apply below_alloc | apply pw_below_drewN | apply below_drew1) | exact HB.out)))); (case aL => have := LMc3.out; omega); intro v110 w5 ho hb hg hat; rw [← Ny109.out] at ho; have n0_ := Aside0.mk (hb); have n1_ := Aside0.mk (Kept.of_grown (S := (fun k_ => P0_ k_)) hg (by repeat (first | (with_reducible first | exact HK.out | apply Kept.alloc | apply Kept.drewN | apply Kept.drew) | exact HK.out)) (fun k_ e_ => (HO0.out.1 k_ e_))); have n2_ := Aside0.mk (ho); clear HB; clear HK; clear HO0; have HB := n0_; have HK := n1_; have HO111 := n2_; clear n0_ n1_ n2_; clear ho hb hg hat) | ((with_reducible refine gate_builtin (b := .append) (xs := #[.tmp 10, .tmp 11]) rfl ?_); at_builtin; refine Kd.R_append_rows (Kd.int .u8) (w0 := w0) w0.heap.size rfl (.tmp 10) (.tmp 11) 22 5 (.int .u8 0) 1 rfl Try.underlying22 info5 rfl (by decide) (by omega) v110 y109 l1 _ _ _ (fun k_ => (P0_ k_ ∨ w.heap.size ≤ k_)) (fun _ => False) rfl rfl ?aO ?aR (fun _ _ h => h) (fun _ h => h.elim) ?aF ?aB ?aS ?aL ?_; (case aR => exact Kd.C_kept_now HR1.out (by repeat (first | (with_reducible first | exact HK.out | apply Kept.alloc | apply Kept.drewN | apply Kept.drew) | exact HK.out))); (case aB => exact (by repeat (first | (with_reducible first | exact HB.out | apply below_alloc | apply pw_below_drewN | apply below_drew1) | exact HB.out))); (case aF => exact (fun k_ hk => (.inr (Nat.le_trans (by first | exact HK.out.1 | exact (show Kept w _ (fun k_ => P0_ k_) from by repeat (first | (with_reducible first | exact HK.out | apply Kept.alloc | apply Kept.drewN | apply Kept.drew) | exact HK.out)).1) hk)))); (case aO => exact (by (with_reducible repeat (first | apply Kd.R_alloc | apply Kd.R_drewN | apply Kd.R_drew)); exact HO111.out)); (case aS => exact (below_size (by repeat (first | (with_reducible first | exact HB.out | apply below_alloc | apply pw_below_drewN | apply below_drew1) | exact HB.out)))); (case aL => have := LMc4.out; omega); intro v113 w6 ho hb hg hat; rw [← Ny112.out] at ho; have n0_ := Aside0.mk (hb); have n1_ := Aside0.mk (Kept.of_grown (S := (fun k_ => P0_ k_)) hg (by repeat (first | (with_reducible first | exact HK.out | apply Kept.alloc | apply Kept.drewN | apply Kept.drew) | exact HK.out)) (fun k_ e_ => (HO111.out.1 k_ e_))); have n2_ := Aside0.mk (ho); clear HB; clear HK; clear HO111; have HB := n0_; have HK := n1_; have HO114 := n2_; clear n0_ n1_ n2_; clear ho hb hg hat))
      go_ret
      exact ⟨_, by first | rfl | (simp [errW_none, errW_some] <;> rfl) | (simp [*, errW_none, errW_some] <;> rfl), by (with_reducible repeat (first | apply Kd.R_alloc | apply Kd.R_drewN | apply Kd.R_drew)); exact HO114.out, by repeat (first | (with_reducible first | exact HB.out | apply below_alloc | apply pw_below_drewN | apply below_drew1) | exact HB.out), by repeat (first | (with_reducible first | exact HK.out | apply Kept.alloc | apply Kept.drewN | apply Kept.drew) | exact HK.out)⟩
    · rw [if_neg c4] at H
      exact absurd H (by simp)
  · rw [if_neg c3] at H
    exact absurd H (by simp)

/-! ### node_number: function 99 -/
def node_number.l0 : Nat → List Int → Int → Int → Option (List Int)
  | 0, _, _, _ => none
  | k + 1, x0, x1, x5 => if x5 ≥ 0 then (if 0 ≤ (wrap64 (8 * x5)) then (if x0.length < 140737488355328 then (node_number.l0 k (x0 ++ [(shr .u64 x1 (wrap64 (8 * x5))) % 256]) x1 (wrap64 (x5 - 1))) else (none)) else (none)) else (some x0)
def node_number.f (k : Nat) (l0 : List Int) (a1 : Int) : Option (List Int) := node_number.l0 k l0 a1 7
theorem node_number.mono_l : ∀ k, (∀ y0 y1 y2, LeO (node_number.l0 k y0 y1 y2) (node_number.l0 (k + 1) y0 y1 y2))
  | 0 => fun _ _ _ r h => by simp [node_number.l0] at h
  | k + 1 => by
    have ih0 := node_number.mono_l k
    · intro y0 y1 y2
      unfold node_number.l0
      repeat' first
      | (with_reducible exact ih0 _ _ _)
      | (with_reducible exact LeO.refl _)
      | (with_reducible exact LeO.none _)
      | (with_reducible refine LeO.ite ?_ ?_)
      | (with_reducible refine LeO.bind ?_ (fun _ => ?_))
      | exact ih0 _ _ _
      | exact LeO.none _
      | refine LeO.ite ?_ ?_
      | refine LeO.bind ?_ (fun _ => ?_)
theorem node_number.mono : ∀ a0 a1 k, LeO (node_number.f k a0 a1) (node_number.f (k + 1) a0 a1) := by
  intro a0 a1 k
  have ih0 := node_number.mono_l k
  unfold node_number.f
  repeat' first
      | (with_reducible exact ih0 _ _ _)
      | (with_reducible exact LeO.refl _)
      | (with_reducible exact LeO.none _)
      | (with_reducible refine LeO.ite ?_ ?_)
      | (with_reducible refine LeO.bind ?_ (fun _ => ?_))
      | exact ih0 _ _ _
      | exact LeO.none _
      | refine LeO.ite ?_ ?_
      | refine LeO.bind ?_ (fun _ => ?_)
set_option maxHeartbeats 8000000 in
set_option maxRecDepth 100000 in
theorem node_number.calls (k : Nat) (P0_ : Nat → Prop) (u9000_ : Value) (l0 : List Int) (a1 : Int) (r : List Int) (w0 w : World) (hB : Below w0.heap.size w0 w) (ho0 : Kd.R (Kd.int .u8) 5 w w0.heap.size P0_ u9000_ l0) (h : node_number.f k l0 a1 = some r) :
    Calls Try.prog 99 #[u9000_, .int .u64 a1] w fun e w' => ∃ v0_ : Value, e = .returned (v0_) ∧ Kd.R (Kd.int .u8) 5 w' w0.heap.size (fun k_ => (P0_ k_ ∨ w.heap.size ≤ k_)) v0_ r ∧ Below w0.heap.size w0 w' ∧ Kept w w' (fun k_ => P0_ k_) := by
  have HO0 := Aside0.mk (show Kd.R (Kd.int .u8) 5 w w0.heap.size (fun k_ => (P0_ k_ ∨ w.heap.size ≤ k_)) u9000_ l0 from Kd.R_mono ho0 (fun k_ hk => (.inl hk)))
  have HK := Aside0.mk (Kept.refl w (fun k_ => P0_ k_))
  have HW0 := Aside0.mk hB.size
  have HB := Aside0.mk hB
  clear hB
  have H : (node_number.l0 k l0 a1 7) = some r := h
  clear h
  have H' := Aside0.mk H
  clear H
  go_enter Try.func99, Try.ntmps99
  go_wp2
  go_loopg [0, 5] k (fun kq v0 v5 w' => ∃ (x0_1 : List Int) (x5_1 : Int), v5 = .int .i64 x5_1 ∧ Aside0 (node_number.l0 kq x0_1 a1 x5_1 = some r) ∧ Aside0 (kq ≤ k) ∧ Aside0 (Kd.R (Kd.int .u8) 5 w' w0.heap.size (fun k_ => (P0_ k_ ∨ w.heap.size ≤ k_)) v0 x0_1) ∧ Aside0 (Kept w w' (fun k_ => P0_ k_)) ∧ Aside0 (Below w0.heap.size w0 w'))
  case atStart => exact ⟨(l0), (7), (by first | rfl | (simp; done) | (simp [*]; done)), H', ⟨Nat.le_refl _⟩, ⟨by (with_reducible repeat (first | apply Kd.R_alloc | apply Kd.R_drewN | apply Kd.R_drew)); exact HO0.out⟩, ⟨by repeat (first | (with_reducible first | exact HK.out | apply Kept.alloc | apply Kept.drewN | apply Kept.drew) | exact HK.out)⟩, ⟨by repeat (first | (with_reducible first | exact HB.out | apply below_alloc | apply pw_below_drewN | apply below_drew1) | exact HB.out)⟩⟩
  case round =>
    clear H'
    try clear p2
    obtain ⟨x0_1, x5_1, rfl, HA, HK1, HO_0, HK, HB⟩ := hrel
    cases gk with
    | zero => exact absurd HA.out (by simp [node_number.l0])
    | succ k1 =>
      have H := HA.out
      clear HA
      simp only [node_number.l0] at H
      by_cases c3 : x5_1 ≥ 0
      · rw [if_pos c3] at H
        have c3b0 : decide (0 ≤ x5_1) = true := decide_eq_true c3
        clear c3
        obtain ⟨ji4, hji4⟩ : ∃ j_ : Int, (wrap64 (8 * x5_1)) = j_ := ⟨_, rfl⟩
        replace H : (if 0 ≤ (ji4) then (if x0_1.length < 140737488355328 then (node_number.l0 k1 (x0_1 ++ [(shr .u64 a1 (ji4)) % 256]) a1 (wrap64 (x5_1 - 1))) else (none)) else (none)) = some r := by first | (rw [hji4] at H; exact H) | (simp only [hji4] at H ⊢; exact H)
        have hji4w : (IntKind.i64.wrap (8 * x5_1)) = ji4 := (i64_w _).trans hji4
        by_cases c5 : 0 ≤ (ji4)
        · rw [if_pos c5] at H
          have c5b0 := eq_true c5
          have c5b1 : decide (0 ≤ (ji4)) = true := decide_eq_true c5
          clear c5
          obtain ⟨ji6, hji6⟩ : ∃ j_ : Int, (shr .u64 a1 (ji4)) = j_ := ⟨_, rfl⟩
          replace H : (if x0_1.length < 140737488355328 then (node_number.l0 k1 (x0_1 ++ [(ji6) % 256]) a1 (wrap64 (x5_1 - 1))) else (none)) = some r := by first | (rw [hji6] at H; exact H) | (simp only [hji6] at H ⊢; exact H)
          have hji6_ : (a1 / 2 ^ min (ji4).toNat 64) = ji6 := hji6
          have hji6z : (ji4) ≤ 64 → (a1 / 2 ^ (ji4).toNat) = ji6 := shr_small hji6
          by_cases c7 : x0_1.length < 140737488355328
          · rw [if_pos c7] at H
            have LMc7 := Aside0.mk c7
            clear c7
            obtain ⟨y115, hy115⟩ : ∃ y_ : List Int, y_ = (x0_1 ++ [(ji6) % 256]) := ⟨_, rfl⟩
            replace H : (node_number.l0 k1 y115 a1 (wrap64 (x5_1 - 1))) = some r := by first | (rw [hy115]; with_reducible exact H) | (have H2_ := (Option.bind_some _ _).symm.trans H; rw [hy115]; with_reducible exact H2_) | (have H2_ := (Option.bind_some _ _).symm.trans H; with_reducible exact H2_) | with_reducible exact H | (rw [hy115]; exact H) | exact H
            have Ny115 := Aside0.mk hy115
            clear hy115
            have H' := Aside0.mk H
            clear H
            go_wp2_with (first | ((with_reducible refine gate_builtin (b := .append) (xs := #[.tmp 10, .tmp 16]) rfl ?_); at_builtin; refine Kd.R_append (Kd.int .u8) (w0 := w0) w0.heap.size rfl (.tmp 10) (.tmp 16) 22 5 (.int .u8 0) 1 rfl Try.underlying22 info5 rfl (by decide) (by omega) u0 x0_1 ((ji6) % 256) [.int .u8 ((ji6) % 256)] (fun k_ => (P0_ k_ ∨ w.heap.size ≤ k_)) (fun _ => False) rfl rfl ?aP (fun _ hk => hk.elim) ?aF ?aO ?aB ?aS ?aL ?_; (case aP => exact rfl); (case aB => exact (by repeat (first | (with_reducible first | exact HB.out | apply below_alloc | apply pw_below_drewN | apply below_drew1) | exact HB.out))); (case aF => exact (fun k_ hk => (.inr (Nat.le_trans (by first | exact HK.out.1 | exact (show Kept w _ (fun k_ => P0_ k_) from by repeat (first | (with_reducible first | exact HK.out | apply Kept.alloc | apply Kept.drewN | apply Kept.drew) | exact HK.out)).1) hk)))); (case aO => exact (by (with_reducible repeat (first | apply Kd.R_alloc | apply Kd.R_drewN | apply Kd.R_drew)); exact HO_0.out)); (case aS => exact (below_size (by repeat (first | (with_reducible first | exact HB.out | apply below_alloc | apply pw_below_drewN | apply below_drew1) | exact HB.out)))); (case aL => have := LMc7.out; omega); intro v116 w8 ho hb hg hat; rw [← Ny115.out] at ho; have n0_ := Aside0.mk (hb); have n1_ := Aside0.mk (Kept.of_grown (S := (fun k_ => P0_ k_)) hg (by repeat (first | (with_reducible first | exact HK.out | apply Kept.alloc | apply Kept.drewN | apply Kept.drew) | exact HK.out)) (fun k_ e_ => (HO_0.out.1 k_ e_))); have n2_ := Aside0.mk (ho); clear HB; clear HK; clear HO_0; have HB := n0_; have HK := n1_; have HO117 := n2_; clear n0_ n1_ n2_; clear ho hb hg hat))
            go_roundg k1
            case measure => have := HK1.out; omega
            case rel => exact ⟨(y115), (wrap64 (x5_1 - 1)), (by first | rfl | (simp; done) | (simp [*]; done)), H', ⟨by have := HK1.out; omega⟩, ⟨by (with_reducible repeat (first | apply Kd.R_alloc | apply Kd.R_drewN | apply Kd.R_drew)); exact HO117.out⟩, ⟨by repeat (first | (with_reducible first | exact HK.out | apply Kept.alloc | apply Kept.drewN | apply Kept.drew) | exact HK.out)⟩, ⟨by repeat (first | (with_reducible first | exact HB.out | apply below_alloc | apply pw_below_drewN | apply below_drew1) | exact HB.out)⟩⟩
          · rw [if_neg c7] at H
            exact absurd H (by simp)
        · rw [if_neg c5] at H
          exact absurd H (by simp)
      · rw [if_neg c3] at H
        have c3b0 : decide (0 ≤ x5_1) = false := decide_eq_false c3
        clear c3
        obtain rfl := Option.some.inj H
        go_wp2
        go_ret
        exact ⟨_, by first | rfl | (simp [errW_none, errW_some] <;> rfl) | (simp [*, errW_none, errW_some] <;> rfl), by (with_reducible repeat (first | apply Kd.R_alloc | apply Kd.R_drewN | apply Kd.R_drew)); exact HO_0.out, by repeat (first | (with_reducible first | exact HB.out | apply below_alloc | apply pw_below_drewN | apply below_drew1) | exact HB.out), by repeat (first | (with_reducible first | exact HK.out | apply Kept.alloc | apply Kept.drewN | apply Kept.drew) | exact HK.out)⟩

end Go.Proofs.Ytfgeffmlfbeodaa.PNodeBack
