/- SlotTurns, the walk. No condition. -/
import Derived.Test.YtffdonpkmnngpaaPSlotTurnsx3
namespace Go.Proofs.Ytffdonpkmnngpaa.PSlotTurns
open Go.RowKit Go.Proofs.YtffdonpkmnngpaaW.PrintWords Go.Proofs.YtffdonpkmnngpaaW.PrintLast Go.Proofs.YtffdonpkmnngpaaW.PrintMore Go.Proofs.Ytffdonpkmnngpaa.Own Go.Proofs.Ytffdonpkmnngpaa.Short
attribute [local go_sem] max2_int min2_int max_two min_two max_three min_three max_four min_four   -- for this text's walks alone
set_option linter.unusedVariables false
set_option linter.unusedSimpArgs false

/-! ### pandectlaw4_SlotTurns: function 14 -/
def pandectlaw4_SlotTurns.T19 : Bool × List (List Nat × List Nat) := (true, [([], []), ([0], [0]), ([1], [1]), ([], []), ([3], [3]), ([4], [4]), ([2, 5], [2, 5]), ([6], [6]), ([7], [7]), ([7], [7]), ([7], [7]), ([7], [7]), ([8, 6, 0, 1, 2, 3, 4, 5, 6, 7, 8], [8]), ([9, 12, 0, 1, 2, 3, 4, 5, 6, 7, 8, 9, 12], [9]), ([10, 13, 0, 1, 2, 3, 4, 5, 6, 7, 8, 9, 10, 12, 13], [10]), ([11, 14, 0, 1, 2, 3, 4, 5, 6, 7, 8, 9, 10, 11, 12, 13, 14], [11])])
def pandectlaw4_SlotTurns.B19 : List Nat := [0, 1, 3, 0, 8, 24, 63, 127, 255, 255, 255, 255, 511, 5119, 14335, 32767]
theorem pandectlaw4_SlotTurns.tab19 : rtab .any (opsOf Try.f14 19) = pandectlaw4_SlotTurns.T19 := by kernel_rfl
theorem pandectlaw4_SlotTurns.bits19 : waitsOk pandectlaw4_SlotTurns.T19.2 pandectlaw4_SlotTurns.B19 = true := by kernel_rfl
def pandectlaw4_SlotTurns.T24 : Bool × List (List Nat × List Nat) := (true, [([], []), ([0], [0]), ([1], [1]), ([2], [2]), ([2], [2]), ([4, 2], [2, 4]), ([5, 2], [2, 5]), ([3, 6, 2], [2, 3, 6]), ([2, 7], [2, 7]), ([8, 2], [8]), ([9], [9]), ([9], [9]), ([10, 11, 9], [9, 10, 11]), ([9, 12], [9, 12]), ([13, 9], [13]), ([14], [14]), ([15, 14], [14, 15]), ([14], [14]), ([14], [14]), ([17, 18, 14], [14, 17, 18]), ([19, 14], [14, 19]), ([20, 14], [14, 20]), ([16, 21, 14], [14, 16, 21]), ([14, 22], [14, 22])])
def pandectlaw4_SlotTurns.B24 : List Nat := [0, 1, 3, 7, 7, 23, 55, 127, 255, 511, 1023, 1023, 4095, 8191, 16383, 32767, 65535, 32767, 32767, 425983, 950271, 1998847, 4194303, 8388607]
theorem pandectlaw4_SlotTurns.tab24 : rtab .any (opsOf Try.f14 24) = pandectlaw4_SlotTurns.T24 := by kernel_rfl
theorem pandectlaw4_SlotTurns.bits24 : waitsOk pandectlaw4_SlotTurns.T24.2 pandectlaw4_SlotTurns.B24 = true := by kernel_rfl
def pandectlaw4_SlotTurns.T26 : Bool × List (List Nat × List Nat) := (true, [([], []), ([0], [0]), ([1], [1]), ([2], [2]), ([2], [2]), ([4, 2], [2, 4]), ([5, 2], [2, 5]), ([6, 2], [2, 6]), ([3, 7, 2], [2, 3, 7]), ([2, 8], [2, 8]), ([9, 2], [9]), ([10], [10]), ([10], [10]), ([12, 10], [10, 12]), ([11, 13, 10], [10, 11, 13]), ([10, 14], [10, 14]), ([15, 10], [15]), ([16], [16]), ([17, 16], [16, 17]), ([16], [16]), ([16], [16]), ([20, 16], [16, 20]), ([19, 21, 16], [16, 19, 21]), ([22, 16], [16, 22]), ([23, 16], [16, 23]), ([18, 24, 16], [16, 18, 24]), ([16, 25], [16, 25]), ([26, 16], [26])])
def pandectlaw4_SlotTurns.B26 : List Nat := [0, 1, 3, 7, 7, 23, 55, 119, 255, 511, 1023, 2047, 2047, 6143, 16383, 32767, 65535, 131071, 262143, 131071, 131071, 1179647, 3801087, 7995391, 16383999, 33554431, 67108863, 134217727]
theorem pandectlaw4_SlotTurns.tab26 : rtab .any (opsOf Try.f14 26) = pandectlaw4_SlotTurns.T26 := by kernel_rfl
theorem pandectlaw4_SlotTurns.bits26 : waitsOk pandectlaw4_SlotTurns.T26.2 pandectlaw4_SlotTurns.B26 = true := by kernel_rfl
set_option maxHeartbeats 8000000 in
set_option maxRecDepth 100000 in
theorem pandectlaw4_SlotTurns.calls (k : Nat) (a0 : Int) (A1 : Option Addr) (c1 : Nat) (l1 : List (List Int)) (a2 : Int) (a3 : Int) (r : Bool) (w : World) (hr1 : Kd.C (Kd.slice 5 (Kd.int .u8)) w A1 l1.length l1) (hc1 : l1.length ≤ c1) (h : pandectlaw4_SlotTurns.f k a0 l1 a2 a3 = some r) :
  Calls Try.prog 14 #[.int .u32 a0, .slice A1 l1.length c1, .int .u8 a2, .int .u8 a3] w fun e w' => e = .returned (.bool r) ∧ Below w.heap.size w w' := by
 have HR1 := aM hr1
 have HC1 := aM hc1
 clear hr1 hc1
 have HB := aM (Below.refl w.heap.size w)
 have H : ((pandectlaw4_begun.f k).bind fun t165 => (if t165 = true then (if (l1.length : Int) < 1 then (pandectlaw4_SlotTurns.j0 k a0 l1 a2 a3 true) else (pandectlaw4_SlotTurns.j0 k a0 l1 a2 a3 (decide ((l1.length : Int) > 10)))) else (none))) = some r := h
 clear h
 replace H := Option.bind_eq_some_iff.mp H
 obtain ⟨t165, A50, H⟩ := H
 replace H : (if t165 = true then (if (l1.length : Int) < 1 then (pandectlaw4_SlotTurns.j0 k a0 l1 a2 a3 true) else (pandectlaw4_SlotTurns.j0 k a0 l1 a2 a3 (decide ((l1.length : Int) > 10)))) else (none)) = some r := H
 have A5 := aM A50
 clear A50
 by_cases c6 : t165 = true
 ·
  subst c6
  have H1 : (if (l1.length : Int) < 1 then (pandectlaw4_SlotTurns.j0 k a0 l1 a2 a3 true) else (pandectlaw4_SlotTurns.j0 k a0 l1 a2 a3 (decide ((l1.length : Int) > 10)))) = some r := by rw [if_pos rfl] at H; exact H
  clear H
  have H := H1
  clear H1
  have HC7 := aM H
  clear H
  go_enter Try.func14, Try.ntmps14
  go_upto_region 3 with (first | ((with_reducible refine gate_callee (f := 33) rfl ?_); refine goesL_ (some 20) rfl rfl Try.func33 (by kernel_rfl) rfl #[] rfl (by (try simp only [List.map_toArray, List.map_cons, List.map_nil]); first | done | rfl | (simp only [List.length_drop, List.length_take]; rfl)) ?_; (with_reducible refine (pandectlaw4_begun.calls k  true _ A5.out).mono ?_); rintro e w8 ⟨rfl, hb⟩; refine ⟨_, rfl, ?_⟩; have n0_ := aM (below_step (by repeat (first | (with_reducible first | exact HB.out | apply bA | apply bN | apply bD) | exact HB.out)) hb); clear HB; have HB := n0_; clear n0_; (try clear hb); (try clear hb2); (try clear hk); (try clear hi)))
  (try simp only [Act.put, List.setIfInBounds_toArray, List.set_cons_zero, List.set_cons_succ])
  go_cut [29] (fun v29 wc => ∃ (kq : Nat) (x29_6 : Bool), v29 = .bool x29_6 ∧ Aside0 (pandectlaw4_SlotTurns.j0 kq a0 l1 a2 a3 x29_6 = some r) ∧ Aside0 (kq ≤ k) ∧ Aside0 (Below w.heap.size w wc))
  case first =>
   (have H := HC7.out); clear HC7
   by_cases c9 : (l1.length : Int) < 1
   ·
    (rw [if_pos c9] at H); (have c9b0 : decide ((l1.length : Int) < 1) = true := decide_eq_true c9); (have c9b1 : decide (l1.length < 1) = true := decide_eq_true (by omega)); clear c9
    (first | rw [c9b0] | (simp only [i64_w, i32_w]; rw [c9b0]) | skip)
    (have H' := aM H); clear H
    go_wp2
    go_meet
    case rel => exact ⟨_, (true), (by first | rfl | (simp; done) | (simp [*]; done)), H', ⟨by first | omega | exact Nat.le_refl _⟩, ⟨by repeat (first | (with_reducible first | exact HB.out | apply bA | apply bN | apply bD) | exact HB.out)⟩⟩
   ·
    (rw [if_neg c9] at H); (have c9b0 : decide ((l1.length : Int) < 1) = false := decide_eq_false c9); (have c9b1 : decide (l1.length < 1) = false := decide_eq_false (by omega)); clear c9
    (first | rw [c9b0] | (simp only [i64_w, i32_w]; rw [c9b0]) | skip)
    (have H' := aM H); clear H
    go_wp2
    go_meet
    case rel => exact ⟨_, (decide ((l1.length : Int) > 10)), (by first | rfl | (simp; done) | (simp [*]; done)), H', ⟨by first | omega | exact Nat.le_refl _⟩, ⟨by repeat (first | (with_reducible first | exact HB.out | apply bA | apply bN | apply bD) | exact HB.out)⟩⟩
  case rest =>
   clear HC7; (try clear c1; try clear p2; try clear c3; try clear c6; try clear c9; try clear c9b0; try clear c9b1); (obtain ⟨kq, x29_6, rfl, HA, HJ6, HB⟩ := hcut)
   cases kq with
   | zero => exact absurd HA.out (by simp [pandectlaw4_SlotTurns.j0])
   | succ kj6 =>
    (have H := HA.out); clear HA; (simp only [pandectlaw4_SlotTurns.j0] at H)
    by_cases c10 : x29_6 = true
    ·
     subst c10; (have H1 : (some true) = some r := by rw [if_pos rfl] at H; exact H); clear H; (have H := H1); clear H1; (obtain rfl := Option.some.inj H)
     go_wp2
     go_ret
     exact ⟨by first | rfl | (simp [errW_none, errW_some] <;> rfl) | (simp [*, errW_none, errW_some] <;> rfl), by repeat (first | (with_reducible first | exact HB.out | apply bA | apply bN | apply bD) | exact HB.out)⟩
    ·
     (replace c10 := Bool.eq_false_iff.mpr c10); subst c10; (have H1 : (if 128 ≤ 281474976710656 then (pandectlaw4_SlotTurns.l0 kj6 a0 l1 a2 a3 (([(List.replicate 128 0), (List.replicate 128 0)] : List (List Int))) 0) else (none)) = some r := by rw [if_neg (show ¬ (false = true) by decide)] at H; exact H); clear H; (have H := H1); clear H1
     by_cases c11 : 128 ≤ 281474976710656
     ·
      (rw [if_pos c11] at H); (have c11b0 := eq_true c11); (have c11b1 : decide (128 ≤ 281474976710656) = true := decide_eq_true c11); clear c11; (obtain ⟨y175, hy175⟩ : ∃ y_ : List Int, y_ = (List.replicate 128 0) := ⟨_, rfl⟩); (replace H : (pandectlaw4_SlotTurns.l0 kj6 a0 l1 a2 a3 (([y175, (List.replicate 128 0)] : List (List Int))) 0) = some r := by first | (rw [hy175]; with_reducible exact H) | (have H2_ := (Option.bind_some _ _).symm.trans H; rw [hy175]; with_reducible exact H2_) | (have H2_ := (Option.bind_some _ _).symm.trans H; with_reducible exact H2_) | with_reducible exact H | (rw [hy175]; exact H) | exact H); (have Ny175 := aM hy175); clear hy175; (obtain ⟨y178, hy178⟩ : ∃ y_ : List Int, y_ = (List.replicate 128 0) := ⟨_, rfl⟩); (replace H : (pandectlaw4_SlotTurns.l0 kj6 a0 l1 a2 a3 (([y175, y178] : List (List Int))) 0) = some r := by first | (rw [hy178]; with_reducible exact H) | (have H2_ := (Option.bind_some _ _).symm.trans H; rw [hy178]; with_reducible exact H2_) | (have H2_ := (Option.bind_some _ _).symm.trans H; with_reducible exact H2_) | with_reducible exact H | (rw [hy178]; exact H) | exact H); (have Ny178 := aM hy178); clear hy178; (obtain ⟨y181, hy181⟩ : ∃ y_ : List (List Int), y_ = (([y175, y178] : List (List Int))) := ⟨_, rfl⟩); (replace H : (pandectlaw4_SlotTurns.l0 kj6 a0 l1 a2 a3 y181 0) = some r := by first | (rw [hy181]; with_reducible exact H) | (have H2_ := (Option.bind_some _ _).symm.trans H; rw [hy181]; with_reducible exact H2_) | (have H2_ := (Option.bind_some _ _).symm.trans H; with_reducible exact H2_) | with_reducible exact H | (rw [hy181]; exact H) | exact H); (have Ny181 := aM hy181); clear hy181; (have H' := aM H); clear H
      try go_wp2
      (have n0_ := aM (below_drew1 HB.out)); clear HB; (have HB := n0_); clear n0_
      refine start_ (n := 4) (S := fun w' => True) (ds := []) #[F, F, F, F] (by kernel_rfl) rfl rfl trivial (fun hHeld => ?_)
      generalize wc.drew = w12 at HB hHeld ⊢
      refine join_ (σ := Value × Value) 2 #[T, T, F, F] (fun s_ => [(30, s_.1), (31, s_.2)]) (fun s_ w' => (Kd.R (Kd.int .u8) 5 w' w.heap.size (fun k_ => some k_ ≠ (s_.2 : Value).ownBlock) s_.1 y175) ∧ (Kd.R (Kd.int .u8) 5 w' w.heap.size (fun k_ => some k_ ≠ (s_.1 : Value).ownBlock) s_.2 y178) ∧ (Below w.heap.size w w')) ?_ ?_
      rotate_left
      ·
       intro hCont
       refine two_ (i := 0) (j := 1) (Ni := some 30) (Nj := some 31) #[T, F, F, F] #[F, T, F, F] rfl rfl rfl rfl (by kernel_rfl) (by decide) (by decide) (fun K hK => ?_) (fun K hK => ?_)
       ·
        skip
        refine Kd.R_make_step (Kd.int .u8) _ 5 (by rfl) (N := 30) rfl 22 _ _ rfl 128 rfl rfl Try.underlying22 (.int .u8 0) 1 info5 rfl (by decide) (by omega) 0 (ok := fun _ => True) (okp := fun _ => True) rfl (fun _ hk => hk) trivial (by omega) (by omega) (Below.refl _ _) (Nat.le_refl _) ?_
        intro v176 w13 ho14 hb hg_ hnew_; clear hg_ hnew_
        (first | rw [← Ny175.out] at ho14 | (simp only [Int.reduceToNat] at ho14; rw [← Ny175.out] at ho14))
        (have n0_ := aM (Kd.R_lower ho14 (below_size (by repeat (first | (with_reducible first | exact HB.out | apply bA | apply bN | apply bD) | exact HB.out))))); (have n1_ := aM (below_step (by repeat (first | (with_reducible first | exact HB.out | apply bA | apply bN | apply bD) | exact HB.out)) hb)); clear HB; (have HO177 := n0_); (have HB := n1_); clear n0_ n1_; clear hb ho14
        refine hK.out _ _ trivial (fun hHeld => ?_)
        clear hK K
        refine norm_ (a' := ?_) ?_ ?_
        rotate_left
        ·
         show Act.put _ (some 30) _ = _
         simp only [Act.put, List.setIfInBounds_toArray, List.set_cons_zero, List.set_cons_succ, i64_w, i32_w]
         rfl
        refine one_ (i := 1) (N := some 31) #[T, T, F, F] rfl rfl (by kernel_rfl) (by decide) (fun K hK => ?_)
        refine Kd.R_make_step (Kd.int .u8) _ 5 (by rfl) (N := 31) rfl 22 _ _ rfl 128 rfl rfl Try.underlying22 (.int .u8 0) 1 info5 rfl (by decide) (by omega) 0 (ok := fun _ => True) (okp := fun _ => True) rfl (fun _ hk => hk) trivial (by omega) (by omega) (Below.refl _ _) (Nat.le_refl _) ?_
        intro v179 w15 ho16 hb hg_ hnew_; clear hg_ hnew_
        (first | rw [← Ny178.out] at ho16 | (simp only [Int.reduceToNat] at ho16; rw [← Ny178.out] at ho16))
        (have n0_ := aM (Kd.R_elder' (by (with_reducible repeat (first | apply rA | apply rN | apply rD)); exact HO177.out) (Kd.R_base ho16) hb)); (have n1_ := aM (Kd.R_lower (Kd.R_new' ho16 (Kd.R_lt (by (with_reducible repeat (first | apply rA | apply rN | apply rD)); exact HO177.out))) (below_size (by repeat (first | (with_reducible first | exact HB.out | apply bA | apply bN | apply bD) | exact HB.out))))); (have n2_ := aM (below_step (by repeat (first | (with_reducible first | exact HB.out | apply bA | apply bN | apply bD) | exact HB.out)) hb)); clear HO177; clear HB; (have HO177 := n0_); (have HO180 := n1_); (have HB := n2_); clear n0_ n1_ n2_; clear hb ho16
        refine hK.out _ _ trivial (fun hHeld => ?_)
        clear hK K
        refine norm_ (a' := ?_) ?_ ?_
        rotate_left
        ·
         show Act.put _ (some 31) _ = _
         simp only [Act.put, List.setIfInBounds_toArray, List.set_cons_zero, List.set_cons_succ, i64_w, i32_w]
         rfl
        exact norm_ (by simp only [putAll, Act.put, List.setIfInBounds_toArray, List.set_cons_zero, List.set_cons_succ]) (hCont (v176, v179) _ ⟨(by (with_reducible repeat (first | apply rA | apply rN | apply rD)); exact Kd.R_mono HO177.out (fun _ hk => hk.2)), (by (with_reducible repeat (first | apply rA | apply rN | apply rD)); exact Kd.R_mono HO180.out (fun _ hk => hk.2)), (by repeat (first | (with_reducible first | exact HB.out | apply bA | apply bN | apply bD) | exact HB.out))⟩)
       ·
        skip
        refine Kd.R_make_step (Kd.int .u8) _ 5 (by rfl) (N := 31) rfl 22 _ _ rfl 128 rfl rfl Try.underlying22 (.int .u8 0) 1 info5 rfl (by decide) (by omega) 0 (ok := fun _ => True) (okp := fun _ => True) rfl (fun _ hk => hk) trivial (by omega) (by omega) (Below.refl _ _) (Nat.le_refl _) ?_
        intro v179 w13 ho14 hb hg_ hnew_; clear hg_ hnew_
        (first | rw [← Ny178.out] at ho14 | (simp only [Int.reduceToNat] at ho14; rw [← Ny178.out] at ho14))
        (have n0_ := aM (Kd.R_lower ho14 (below_size (by repeat (first | (with_reducible first | exact HB.out | apply bA | apply bN | apply bD) | exact HB.out))))); (have n1_ := aM (below_step (by repeat (first | (with_reducible first | exact HB.out | apply bA | apply bN | apply bD) | exact HB.out)) hb)); clear HB; (have HO180 := n0_); (have HB := n1_); clear n0_ n1_; clear hb ho14
        refine hK.out _ _ trivial (fun hHeld => ?_)
        clear hK K
        refine norm_ (a' := ?_) ?_ ?_
        rotate_left
        ·
         show Act.put _ (some 31) _ = _
         simp only [Act.put, List.setIfInBounds_toArray, List.set_cons_zero, List.set_cons_succ, i64_w, i32_w]
         rfl
        refine one_ (i := 0) (N := some 30) #[T, T, F, F] rfl rfl (by kernel_rfl) (by decide) (fun K hK => ?_)
        refine Kd.R_make_step (Kd.int .u8) _ 5 (by rfl) (N := 30) rfl 22 _ _ rfl 128 rfl rfl Try.underlying22 (.int .u8 0) 1 info5 rfl (by decide) (by omega) 0 (ok := fun _ => True) (okp := fun _ => True) rfl (fun _ hk => hk) trivial (by omega) (by omega) (Below.refl _ _) (Nat.le_refl _) ?_
        intro v176 w15 ho16 hb hg_ hnew_; clear hg_ hnew_
        (first | rw [← Ny175.out] at ho16 | (simp only [Int.reduceToNat] at ho16; rw [← Ny175.out] at ho16))
        (have n0_ := aM (Kd.R_elder' (by (with_reducible repeat (first | apply rA | apply rN | apply rD)); exact HO180.out) (Kd.R_base ho16) hb)); (have n1_ := aM (Kd.R_lower (Kd.R_new' ho16 (Kd.R_lt (by (with_reducible repeat (first | apply rA | apply rN | apply rD)); exact HO180.out))) (below_size (by repeat (first | (with_reducible first | exact HB.out | apply bA | apply bN | apply bD) | exact HB.out))))); (have n2_ := aM (below_step (by repeat (first | (with_reducible first | exact HB.out | apply bA | apply bN | apply bD) | exact HB.out)) hb)); clear HO180; clear HB; (have HO180 := n0_); (have HO177 := n1_); (have HB := n2_); clear n0_ n1_ n2_; clear hb ho16
        refine hK.out _ _ trivial (fun hHeld => ?_)
        clear hK K
        refine norm_ (a' := ?_) ?_ ?_
        rotate_left
        ·
         show Act.put _ (some 30) _ = _
         simp only [Act.put, List.setIfInBounds_toArray, List.set_cons_zero, List.set_cons_succ, i64_w, i32_w]
         rfl
        exact norm_ (by simp only [putAll, Act.put, List.setIfInBounds_toArray, List.set_cons_zero, List.set_cons_succ]) (hCont (v176, v179) _ ⟨(by (with_reducible repeat (first | apply rA | apply rN | apply rD)); exact Kd.R_mono HO177.out (fun _ hk => hk.2)), (by (with_reducible repeat (first | apply rA | apply rN | apply rD)); exact Kd.R_mono HO180.out (fun _ hk => hk.2)), (by repeat (first | (with_reducible first | exact HB.out | apply bA | apply bN | apply bD) | exact HB.out))⟩)
      rintro ⟨v176, v179⟩ w17 ⟨h0_, h1_, h2_⟩
      (have n0_ : Aside0 (Kd.R (Kd.int .u8) 5 w17 w.heap.size (fun k_ => some k_ ≠ (v179 : Value).ownBlock) v176 y175) := ⟨h0_⟩); (have n1_ : Aside0 (Kd.R (Kd.int .u8) 5 w17 w.heap.size (fun k_ => some k_ ≠ (v176 : Value).ownBlock) v179 y178) := ⟨h1_⟩); (have n2_ : Aside0 (Below w.heap.size w w17) := ⟨h2_⟩); clear HB; clear h0_ h1_ h2_; (have HO177 := n0_); (have HO180 := n1_); (have HB := n2_); clear n0_ n1_ n2_; (have hHeld := trivial); (obtain ⟨Ao18, co18, eo18⟩ := Kd.R_slice HO177.out)
      (first | subst eo18 | (injection eo18 with f1_ f2_ f3_; have f4_ := f1_.symm; have f5_ := f3_.symm; clear f1_ f2_ f3_; subst f4_; subst f5_))
      obtain ⟨Ao19, co19, eo19⟩ := Kd.R_slice HO180.out
      (first | subst eo19 | (injection eo19 with f1_ f2_ f3_; have f4_ := f1_.symm; have f5_ := f3_.symm; clear f1_ f2_ f3_; subst f4_; subst f5_))
      refine norm_ (a' := ?_) ?_ ?_
      rotate_left
      ·
       simp only [putAll, Act.put, List.setIfInBounds_toArray, List.set_cons_zero, List.set_cons_succ]
       rfl
      refine one_ (i := 2) (N := some 32) #[T, T, T, F] rfl rfl (by kernel_rfl) (by decide) (fun K hK => ?_)
      refine Kd.N_lit_step (Kd.slice 5 (Kd.int .u8)) _ 22 ?hg (N' := 32) ?hd (xs := ([y175, y178] : List (List Int))) (inner := [.slice Ao18 y175.length co18, .slice Ao19 y178.length co19]) (ok := (fun _ => True)) (okp := (fun _ => True)) ?hr ?hp (fun _ hk => hk) ((show ∀ k_, w17.heap.size ≤ k_ → (fun _ => True) k_ from fun k_ hk => trivial) _ (Nat.le_refl _)) (Below.refl _ _) (Nat.le_refl _) (by simp) ?_; (case hd => rfl); (case hg => rfl); (case hr => first | (go_simp; done) | (go_simp; rfl)); (case hp => exact (Reps.one (show Kd.FK (Kd.slice 5 (Kd.int .u8)) _ _ y175 [.slice Ao18 y175.length co18] from (Short.fkR (Kd.R_mono (ok' := (fun _ => True)) (HO177.out) (fun k_ hk => trivial)))) (Reps.one (show Kd.FK (Kd.slice 5 (Kd.int .u8)) _ _ y178 [.slice Ao19 y178.length co19] from (Short.fkR (Kd.R_mono (ok' := (fun _ => True)) (HO180.out) (fun k_ hk => trivial)))) (Reps.none _ _))))
      intro v182 w20 ho21 hb hg_ hnew_; clear hg_ hnew_
      (first | rw [← Ny181.out] at ho21 | (simp only [Int.reduceToNat] at ho21; rw [← Ny181.out] at ho21))
      (have n0_ := aM (Kd.N_lower ho21 (below_size (by repeat (first | (with_reducible first | exact HB.out | apply bA | apply bN | apply bD) | exact HB.out))))); (have n1_ := aM (below_step (by repeat (first | (with_reducible first | exact HB.out | apply bA | apply bN | apply bD) | exact HB.out)) hb)); clear HB; clear HO177; clear HO180; (have HO183 := n0_); (have HB := n1_); clear n0_ n1_; clear hb ho21
      refine hK.out _ _ trivial (fun hHeld => ?_)
      clear hK K
      refine norm_ (a' := ?_) ?_ ?_
      rotate_left
      ·
       show Act.put _ (some 32) _ = _
       simp only [Act.put, List.setIfInBounds_toArray, List.set_cons_zero, List.set_cons_succ, i64_w, i32_w]
       rfl
      refine pure_ (i := 3) (N := some 9) (v := ?_) (a' := ?_) #[T, T, T, T] rfl rfl (by kernel_rfl) (fun _ _ _ h => h) (Or.inl ⟨by rfl, ?_⟩) ?_ ?_
      rotate_left
      ·
       intro w'
       go_simp
       with_reducible rfl
      rotate_left
      ·
       simp only [Act.put, List.setIfInBounds_toArray, List.set_cons_zero, List.set_cons_succ, i64_w, i32_w]
       rfl
      refine done_ (by kernel_rfl) ?_
      try go_wp2
      go_loopg [10] kj6 (fun kq v10 w' => ∃ (x9_2 : List (List Int)) (x10_2 : Int), v10 = .int .i64 x10_2 ∧ Aside0 (pandectlaw4_SlotTurns.l0 kq a0 l1 a2 a3 x9_2 x10_2 = some r) ∧ Aside0 (kq ≤ kj6) ∧ Aside0 (Kd.N (Kd.slice 5 (Kd.int .u8)) 22 w' w.heap.size (fun _ => True) v182 x9_2) ∧ Aside0 (Below w.heap.size w w'))
      case atStart => exact ⟨(y181), (0), (by first | rfl | (simp; done) | (simp [*]; done)), H', ⟨Nat.le_refl _⟩, ⟨by (with_reducible repeat (first | apply Kd.N_alloc | apply Kd.N_drewN | apply Kd.N_drew)); exact HO183.out⟩, ⟨by repeat (first | (with_reducible first | exact HB.out | apply bA | apply bN | apply bD) | exact HB.out)⟩⟩
      case round =>
       clear H'; (try clear c1; try clear p2; try clear c3; try clear c6; try clear c9; try clear c9b0; try clear c9b1; try clear c10; try clear c11; try clear c11b0; try clear c11b1; try clear c14; try clear p2); (obtain ⟨x9_2, x10_2, rfl, HA, HK2, HO_9, HB⟩ := hrel)
       cases gk with
       | zero => exact absurd HA.out (by simp [pandectlaw4_SlotTurns.l0])
       | succ k2 =>
        (have H := HA.out); clear HA; (simp only [pandectlaw4_SlotTurns.l0] at H)
        by_cases c22 : x10_2 < (l1.length : Int)
        ·
         (rw [if_pos c22] at H); (have c22b0 : decide (x10_2 < (l1.length : Int)) = true := decide_eq_true c22); clear c22
         by_cases c23 : 0 ≤ x10_2
         ·
          (rw [if_pos c23] at H); (have c23b0 : decide (0 ≤ x10_2) = true := decide_eq_true c23); clear c23
          by_cases c24 : ((rd_L1 l1 x10_2).length : Int) > 100
          ·
           (rw [if_pos c24] at H); (have c24b0 : decide (100 < ((rd_L1 l1 x10_2).length : Int)) = true := decide_eq_true c24); (have c24b1 : decide (100 < (rd_L1 l1 x10_2).length) = true := decide_eq_true (by omega)); clear c24; (obtain rfl := Option.some.inj H); (have p185 : 0 ≤ (x10_2 : Int) := of_decide_eq_true (by first | (with_reducible assumption) | assumption)); (have q185 : x10_2 < (l1.length : Int) := of_decide_eq_true (by first | (with_reducible assumption) | assumption)); (obtain ⟨ad185, A185_0, c185_0, e185, hx185_0, hl185_0, hi185_0⟩ := at_L1 HR1.out x10_2 p185 q185)
           cases e185
           (replace hx185_0 := (HB.out.cell (World.block_lt_of_cell? w _ hx185_0)).trans hx185_0); (have HR185_0 := aM hi185_0); (have HC185_0 := aM hl185_0); clear hi185_0 hl185_0; (replace p185 := eq_true p185); (replace q185 := eq_true q185)
           go_wp2
           go_ret
           exact ⟨by first | rfl | (simp [errW_none, errW_some] <;> rfl) | (simp [*, errW_none, errW_some] <;> rfl), by repeat (first | (with_reducible first | exact HB.out | apply bA | apply bN | apply bD) | exact HB.out)⟩
          ·
           (rw [if_neg c24] at H); (have c24b0 : decide (100 < ((rd_L1 l1 x10_2).length : Int)) = false := decide_eq_false c24); (have c24b1 : decide (100 < (rd_L1 l1 x10_2).length) = false := decide_eq_false (by omega)); clear c24; (replace H := Option.bind_eq_some_iff.mp H); (obtain ⟨⟨t192, t193⟩, A250, H⟩ := H); (replace H : (if t193 = 0 then (pandectlaw4_SlotTurns.j2 k2 a0 l1 a2 a3 x9_2 x10_2 (IntKind.u64.wrap ((IntKind.u64.wrap (a0)) + (IntKind.u64.wrap (x10_2)))) t192 ((t192.length : Int) != 128)) else (pandectlaw4_SlotTurns.j2 k2 a0 l1 a2 a3 x9_2 x10_2 (IntKind.u64.wrap ((IntKind.u64.wrap (a0)) + (IntKind.u64.wrap (x10_2)))) t192 true)) = some r := H); (have A25 := aM A250); clear A250; (have HC26 := aM H); clear H; (have p185 : 0 ≤ (x10_2 : Int) := of_decide_eq_true (by first | (with_reducible assumption) | assumption)); (have q185 : x10_2 < (l1.length : Int) := of_decide_eq_true (by first | (with_reducible assumption) | assumption)); (obtain ⟨ad185, A185_0, c185_0, e185, hx185_0, hl185_0, hi185_0⟩ := at_L1 HR1.out x10_2 p185 q185)
           cases e185
           (replace hx185_0 := (HB.out.cell (World.block_lt_of_cell? w _ hx185_0)).trans hx185_0); (have HR185_0 := aM hi185_0); (have HC185_0 := aM hl185_0); clear hi185_0 hl185_0; (replace p185 := eq_true p185); (replace q185 := eq_true q185); (have p191 : 0 ≤ (x10_2 : Int) := of_decide_eq_true (by first | (with_reducible assumption) | assumption)); (have q191 : x10_2 < (l1.length : Int) := of_decide_eq_true (by first | (with_reducible assumption) | assumption)); (obtain ⟨ad191, A191_0, c191_0, e191, hx191_0, hl191_0, hi191_0⟩ := at_L1 HR1.out x10_2 p191 q191); (obtain rfl : ad185 = ad191 := (by injection e191)); (replace hx191_0 := (HB.out.cell (World.block_lt_of_cell? w _ hx191_0)).trans hx191_0); (have HR191_0 := aM hi191_0); (have HC191_0 := aM hl191_0); clear hi191_0 hl191_0; (replace p191 := eq_true p191); (replace q191 := eq_true q191); (have ea_ := Option.some.inj (hx185_0.symm.trans hx191_0))
           injection ea_ with ea_ en_ ec_
           subst ea_; subst ec_; clear en_
           go_upto_region 13 with (first | ((with_reducible refine gate_callee (f := 34) rfl ?_); refine goesL_ (some 56) rfl rfl Try.func34 (by kernel_rfl) rfl #[.int .u64 (IntKind.u64.wrap ((IntKind.u64.wrap (a0)) + (IntKind.u64.wrap (x10_2)))), .slice A185_0 (rd_L1 l1 x10_2).length c185_0] rfl (by (try simp only [List.map_toArray, List.map_cons, List.map_nil]); first | done | rfl | (simp only [List.length_drop, List.length_take]; rfl)) ?_; (with_reducible refine (slot_Put.calls k2 (IntKind.u64.wrap ((IntKind.u64.wrap (a0)) + (IntKind.u64.wrap (x10_2)))) _ _ (rd_L1 l1 x10_2) t192 t193 _ ?side1 ?side2 A25.out).mono ?_); (case side1 => repeat (first | exact (Kd.C_below HR191_0.out HB.out) | (with_reducible refine Kd.C_alloc ?_ _) | (with_reducible refine Kd.C_drewN ?_ _) | (with_reducible refine Kd.C_drew ?_))); (case side2 => exact HC191_0.out); rintro e w27 ⟨v194, rfl, ho0, hb⟩; refine ⟨_, rfl, ?_⟩; have n0_ := aM (Kd.N_elder' (by (with_reducible repeat (first | apply Kd.N_alloc | apply Kd.N_drewN | apply Kd.N_drew)); exact HO_9.out) (Kd.R_base ho0) hb); have n1_ := aM (Kd.R_lower ho0 (below_size (by repeat (first | (with_reducible first | exact HB.out | apply bA | apply bN | apply bD) | exact HB.out)))); have n2_ := aM (below_step (by repeat (first | (with_reducible first | exact HB.out | apply bA | apply bN | apply bD) | exact HB.out)) hb); clear HO_9; clear HB; have HO_9 := n0_; have HO195 := n1_; have HB := n2_; clear n0_ n1_ n2_; (try clear hb); (try clear hb2); (try clear hk); (try clear hi); (try clear ho0)))
           (try simp only [Act.put, List.setIfInBounds_toArray, List.set_cons_zero, List.set_cons_succ])
           go_cut [65] (fun v65 wc => ∃ (kq : Nat) (x65_25 : Bool), v65 = .bool x65_25 ∧ Aside0 (pandectlaw4_SlotTurns.j2 kq a0 l1 a2 a3 x9_2 x10_2 (IntKind.u64.wrap ((IntKind.u64.wrap (a0)) + (IntKind.u64.wrap (x10_2)))) t192 x65_25 = some r) ∧ Aside0 (kq ≤ k2) ∧ Aside0 (Kd.N (Kd.slice 5 (Kd.int .u8)) 22 wc w.heap.size (fun k_ => some k_ ≠ (v194 : Value).ownBlock) v182 x9_2) ∧ Aside0 (Kd.R (Kd.int .u8) 5 wc w.heap.size (fun _ => True) v194 t192) ∧ Aside0 (Below w.heap.size w wc))
           case first =>
            (have H := HC26.out); clear HC26
            by_cases c28 : t193 = 0
            ·
             (rw [if_pos c28] at H); (have c28b0 : (t193 == 0) = true := beq_iff_eq.mpr c28); (have c28b1 : (t193 != 0) = false := bne_eq_false_iff_eq.mpr c28); clear c28
             (first | rw [c28b0] | (simp only [i64_w, i32_w]; rw [c28b0]) | skip)
             (have H' := aM H); clear H; (obtain ⟨Ao29, co29, eo29⟩ := Kd.R_slice HO195.out); subst eo29
             go_wp2
             go_meet
             case rel => exact ⟨_, (((t192.length : Int) != 128)), (by first | rfl | (simp; done) | (simp [*]; done)), H', ⟨by have := HJ6.out; have := HK2.out; first | omega | exact Nat.le_refl _⟩, ⟨by (with_reducible repeat (first | apply Kd.N_alloc | apply Kd.N_drewN | apply Kd.N_drew)); exact Kd.N_mono HO_9.out (fun _ hk => hk.2)⟩, ⟨by (with_reducible repeat (first | apply rA | apply rN | apply rD)); exact HO195.out⟩, ⟨by repeat (first | (with_reducible first | exact HB.out | apply bA | apply bN | apply bD) | exact HB.out)⟩⟩
            ·
             (rw [if_neg c28] at H); (have c28b0 : (t193 == 0) = false := beq_eq_false_iff_ne.mpr c28); (have c28b1 : (t193 != 0) = true := bne_iff_ne.mpr c28)
             (first | rw [c28b0] | (simp only [i64_w, i32_w]; rw [c28b0]) | skip)
             (have H' := aM H); clear H
             go_wp2
             go_meet
             case rel => exact ⟨_, (true), (by first | rfl | (simp; done) | (simp [*]; done)), H', ⟨by have := HJ6.out; have := HK2.out; first | omega | exact Nat.le_refl _⟩, ⟨by (with_reducible repeat (first | apply Kd.N_alloc | apply Kd.N_drewN | apply Kd.N_drew)); exact Kd.N_mono HO_9.out (fun _ hk => hk.2)⟩, ⟨by (with_reducible repeat (first | apply rA | apply rN | apply rD)); exact HO195.out⟩, ⟨by repeat (first | (with_reducible first | exact HB.out | apply bA | apply bN | apply bD) | exact HB.out)⟩⟩
           case rest =>
            clear HC26; (try clear c1; try clear p1; try clear q1; try clear hx1; try clear c2; try clear p2; try clear c3; try clear c6; try clear c9; try clear c9b0; try clear c9b1; try clear c10; try clear c11; try clear c11b0; try clear c11b1; try clear c14; try clear c18; try clear p18; try clear q18; try clear hx18; try clear c19; try clear p19; try clear q19; try clear hx19; try clear c22; try clear c22b0; try clear c23; try clear c23b0; try clear c24; try clear c24b0; try clear c24b1; try clear c28; try clear c28b0; try clear c28b1; try clear hx185_0; try clear hx191_0; try clear p185; try clear p191; try clear p2; try clear q185; try clear q191); (obtain ⟨kq, x65_25, rfl, HA, HJ25, HO_9, HO_12, HB⟩ := hcut)
            cases kq with
            | zero => exact absurd HA.out (by simp [pandectlaw4_SlotTurns.j2])
            | succ kj25 =>
             (have H := HA.out); clear HA; (simp only [pandectlaw4_SlotTurns.j2] at H)
             by_cases c30 : x65_25 = true
             ·
              subst c30; (have H1 : (none) = some r := by rw [if_pos rfl] at H; exact H); clear H; (have H := H1); clear H1
              exact absurd H (by simp)
             ·
              (replace c30 := Bool.eq_false_iff.mpr c30); subst c30; (have H1 : ((some (([] : List Int) : List Int)).bind fun y214 => (if y214.length + t192.length < 140737488355328 then ((some (y214 ++ t192 : List Int)).bind fun y217 => (if 0 ≤ (Int.tmod a2 128) then (if (Int.tmod a2 128) < (y217.length : Int) then (if 0 ≤ (Int.tmod (IntKind.u64.wrap ((IntKind.u64.wrap (a0)) + (IntKind.u64.wrap (x10_2)))) 2) then (if (Int.tmod (IntKind.u64.wrap ((IntKind.u64.wrap (a0)) + (IntKind.u64.wrap (x10_2)))) 2) < (x9_2.length : Int) then ((some (x9_2.set ((Int.tmod (IntKind.u64.wrap ((IntKind.u64.wrap (a0)) + (IntKind.u64.wrap (x10_2)))) 2) : Int).toNat (y217.set ((Int.tmod a2 128) : Int).toNat (Go.bits .xor .u8 (rd y217 (Int.tmod a2 128)) a3)) : List (List Int))).bind fun y223 => (if 0 < (x9_2.length : Int) then (if 1 < (x9_2.length : Int) then ((slot_Better.f kj25 (rd_L1 y223 0) (rd_L1 y223 1)).bind fun bt226 => (if a3 = 0 then (if x10_2 = 0 then (if bt226.2.2.2 = 0 then (if bt226.1 = (wrap64 (Int.tmod (IntKind.u64.wrap ((IntKind.u64.wrap (a0)) + (IntKind.u64.wrap (x10_2)))) 2)) then (if bt226.2.1 = (IntKind.u64.wrap ((IntKind.u64.wrap (a0)) + (IntKind.u64.wrap (x10_2)))) then (if 0 ≤ x10_2 then (if x10_2 < (l1.length : Int) then (if (strOfNums bt226.2.2.1).toList = (strOfNums (rd_L1 l1 x10_2)).toList then (if ((rd_L1 x9_2 (Int.tmod (IntKind.u64.wrap ((IntKind.u64.wrap (a0)) + (IntKind.u64.wrap (x10_2)))) 2)).length : Int) = 128 then (pandectlaw4_SlotTurns.l0 kj25 a0 l1 a2 a3 (y223.set ((Int.tmod (IntKind.u64.wrap ((IntKind.u64.wrap (a0)) + (IntKind.u64.wrap (x10_2)))) 2) : Int).toNat t192) (wrap64 (x10_2 + 1))) else (none)) else (none)) else (none)) else (none)) else (none)) else (none)) else (none)) else (if bt226.2.2.2 = 0 then (if bt226.1 = (wrap64 (Int.tmod (IntKind.u64.wrap ((IntKind.u64.wrap (a0)) + (IntKind.u64.wrap (x10_2)))) 2)) then (if bt226.2.1 = (IntKind.u64.wrap ((IntKind.u64.wrap (a0)) + (IntKind.u64.wrap (x10_2)))) then (if 0 ≤ x10_2 then (if x10_2 < (l1.length : Int) then (if (strOfNums bt226.2.2.1).toList = (strOfNums (rd_L1 l1 x10_2)).toList then (if ((rd_L1 x9_2 (Int.tmod (IntKind.u64.wrap ((IntKind.u64.wrap (a0)) + (IntKind.u64.wrap (x10_2)))) 2)).length : Int) = 128 then (pandectlaw4_SlotTurns.l0 kj25 a0 l1 a2 a3 (y223.set ((Int.tmod (IntKind.u64.wrap ((IntKind.u64.wrap (a0)) + (IntKind.u64.wrap (x10_2)))) 2) : Int).toNat t192) (wrap64 (x10_2 + 1))) else (none)) else (none)) else (none)) else (none)) else (none)) else (none)) else (none))) else (if x10_2 = 0 then (if bt226.2.2.2 = 2 then (if ((rd_L1 x9_2 (Int.tmod (IntKind.u64.wrap ((IntKind.u64.wrap (a0)) + (IntKind.u64.wrap (x10_2)))) 2)).length : Int) = 128 then (pandectlaw4_SlotTurns.l0 kj25 a0 l1 a2 a3 (y223.set ((Int.tmod (IntKind.u64.wrap ((IntKind.u64.wrap (a0)) + (IntKind.u64.wrap (x10_2)))) 2) : Int).toNat t192) (wrap64 (x10_2 + 1))) else (none)) else (none)) else (if bt226.2.2.2 = 0 then (if bt226.1 = (wrap64 (Int.tmod (IntKind.u64.wrap ((IntKind.u64.wrap ((IntKind.u64.wrap (a0)) + (IntKind.u64.wrap (x10_2)))) + 1)) 2)) then (if bt226.2.1 = (IntKind.u64.wrap ((IntKind.u64.wrap ((IntKind.u64.wrap (a0)) + (IntKind.u64.wrap (x10_2)))) - 1)) then (if 0 ≤ (wrap64 (x10_2 - 1)) then (if (wrap64 (x10_2 - 1)) < (l1.length : Int) then (if (strOfNums bt226.2.2.1).toList = (strOfNums (rd_L1 l1 (wrap64 (x10_2 - 1)))).toList then (if ((rd_L1 x9_2 (Int.tmod (IntKind.u64.wrap ((IntKind.u64.wrap (a0)) + (IntKind.u64.wrap (x10_2)))) 2)).length : Int) = 128 then (pandectlaw4_SlotTurns.l0 kj25 a0 l1 a2 a3 (y223.set ((Int.tmod (IntKind.u64.wrap ((IntKind.u64.wrap (a0)) + (IntKind.u64.wrap (x10_2)))) 2) : Int).toNat t192) (wrap64 (x10_2 + 1))) else (none)) else (none)) else (none)) else (none)) else (none)) else (none)) else (none))))) else (none)) else (none))) else (none)) else (none)) else (none)) else (none))) else (none))) = some r := by rw [if_neg (show ¬ (false = true) by decide)] at H; exact H); clear H; (have H := H1); clear H1; (obtain ⟨y214, hy214⟩ : ∃ y_ : List Int, y_ = (([] : List Int)) := ⟨_, rfl⟩); (replace H : (if y214.length + t192.length < 140737488355328 then ((some (y214 ++ t192 : List Int)).bind fun y217 => (if 0 ≤ (Int.tmod a2 128) then (if (Int.tmod a2 128) < (y217.length : Int) then (if 0 ≤ (Int.tmod (IntKind.u64.wrap ((IntKind.u64.wrap (a0)) + (IntKind.u64.wrap (x10_2)))) 2) then (if (Int.tmod (IntKind.u64.wrap ((IntKind.u64.wrap (a0)) + (IntKind.u64.wrap (x10_2)))) 2) < (x9_2.length : Int) then ((some (x9_2.set ((Int.tmod (IntKind.u64.wrap ((IntKind.u64.wrap (a0)) + (IntKind.u64.wrap (x10_2)))) 2) : Int).toNat (y217.set ((Int.tmod a2 128) : Int).toNat (Go.bits .xor .u8 (rd y217 (Int.tmod a2 128)) a3)) : List (List Int))).bind fun y223 => (if 0 < (x9_2.length : Int) then (if 1 < (x9_2.length : Int) then ((slot_Better.f kj25 (rd_L1 y223 0) (rd_L1 y223 1)).bind fun bt226 => (if a3 = 0 then (if x10_2 = 0 then (if bt226.2.2.2 = 0 then (if bt226.1 = (wrap64 (Int.tmod (IntKind.u64.wrap ((IntKind.u64.wrap (a0)) + (IntKind.u64.wrap (x10_2)))) 2)) then (if bt226.2.1 = (IntKind.u64.wrap ((IntKind.u64.wrap (a0)) + (IntKind.u64.wrap (x10_2)))) then (if 0 ≤ x10_2 then (if x10_2 < (l1.length : Int) then (if (strOfNums bt226.2.2.1).toList = (strOfNums (rd_L1 l1 x10_2)).toList then (if ((rd_L1 x9_2 (Int.tmod (IntKind.u64.wrap ((IntKind.u64.wrap (a0)) + (IntKind.u64.wrap (x10_2)))) 2)).length : Int) = 128 then (pandectlaw4_SlotTurns.l0 kj25 a0 l1 a2 a3 (y223.set ((Int.tmod (IntKind.u64.wrap ((IntKind.u64.wrap (a0)) + (IntKind.u64.wrap (x10_2)))) 2) : Int).toNat t192) (wrap64 (x10_2 + 1))) else (none)) else (none)) else (none)) else (none)) else (none)) else (none)) else (none)) else (if bt226.2.2.2 = 0 then (if bt226.1 = (wrap64 (Int.tmod (IntKind.u64.wrap ((IntKind.u64.wrap (a0)) + (IntKind.u64.wrap (x10_2)))) 2)) then (if bt226.2.1 = (IntKind.u64.wrap ((IntKind.u64.wrap (a0)) + (IntKind.u64.wrap (x10_2)))) then (if 0 ≤ x10_2 then (if x10_2 < (l1.length : Int) then (if (strOfNums bt226.2.2.1).toList = (strOfNums (rd_L1 l1 x10_2)).toList then (if ((rd_L1 x9_2 (Int.tmod (IntKind.u64.wrap ((IntKind.u64.wrap (a0)) + (IntKind.u64.wrap (x10_2)))) 2)).length : Int) = 128 then (pandectlaw4_SlotTurns.l0 kj25 a0 l1 a2 a3 (y223.set ((Int.tmod (IntKind.u64.wrap ((IntKind.u64.wrap (a0)) + (IntKind.u64.wrap (x10_2)))) 2) : Int).toNat t192) (wrap64 (x10_2 + 1))) else (none)) else (none)) else (none)) else (none)) else (none)) else (none)) else (none))) else (if x10_2 = 0 then (if bt226.2.2.2 = 2 then (if ((rd_L1 x9_2 (Int.tmod (IntKind.u64.wrap ((IntKind.u64.wrap (a0)) + (IntKind.u64.wrap (x10_2)))) 2)).length : Int) = 128 then (pandectlaw4_SlotTurns.l0 kj25 a0 l1 a2 a3 (y223.set ((Int.tmod (IntKind.u64.wrap ((IntKind.u64.wrap (a0)) + (IntKind.u64.wrap (x10_2)))) 2) : Int).toNat t192) (wrap64 (x10_2 + 1))) else (none)) else (none)) else (if bt226.2.2.2 = 0 then (if bt226.1 = (wrap64 (Int.tmod (IntKind.u64.wrap ((IntKind.u64.wrap ((IntKind.u64.wrap (a0)) + (IntKind.u64.wrap (x10_2)))) + 1)) 2)) then (if bt226.2.1 = (IntKind.u64.wrap ((IntKind.u64.wrap ((IntKind.u64.wrap (a0)) + (IntKind.u64.wrap (x10_2)))) - 1)) then (if 0 ≤ (wrap64 (x10_2 - 1)) then (if (wrap64 (x10_2 - 1)) < (l1.length : Int) then (if (strOfNums bt226.2.2.1).toList = (strOfNums (rd_L1 l1 (wrap64 (x10_2 - 1)))).toList then (if ((rd_L1 x9_2 (Int.tmod (IntKind.u64.wrap ((IntKind.u64.wrap (a0)) + (IntKind.u64.wrap (x10_2)))) 2)).length : Int) = 128 then (pandectlaw4_SlotTurns.l0 kj25 a0 l1 a2 a3 (y223.set ((Int.tmod (IntKind.u64.wrap ((IntKind.u64.wrap (a0)) + (IntKind.u64.wrap (x10_2)))) 2) : Int).toNat t192) (wrap64 (x10_2 + 1))) else (none)) else (none)) else (none)) else (none)) else (none)) else (none)) else (none))))) else (none)) else (none))) else (none)) else (none)) else (none)) else (none))) else (none)) = some r := by first | (rw [hy214]; with_reducible exact H) | (have H2_ := (Option.bind_some _ _).symm.trans H; rw [hy214]; with_reducible exact H2_) | (have H2_ := (Option.bind_some _ _).symm.trans H; with_reducible exact H2_) | with_reducible exact H | (rw [hy214]; exact H) | exact H); (have Ny214 := aM hy214); clear hy214
              by_cases c31 : y214.length + t192.length < 140737488355328
              ·
               (rw [if_pos c31] at H); (have LMc31 := aM c31); clear c31; (obtain ⟨y217, hy217⟩ : ∃ y_ : List Int, y_ = (y214 ++ t192) := ⟨_, rfl⟩); (replace H : (if 0 ≤ (Int.tmod a2 128) then (if (Int.tmod a2 128) < (y217.length : Int) then (if 0 ≤ (Int.tmod (IntKind.u64.wrap ((IntKind.u64.wrap (a0)) + (IntKind.u64.wrap (x10_2)))) 2) then (if (Int.tmod (IntKind.u64.wrap ((IntKind.u64.wrap (a0)) + (IntKind.u64.wrap (x10_2)))) 2) < (x9_2.length : Int) then ((some (x9_2.set ((Int.tmod (IntKind.u64.wrap ((IntKind.u64.wrap (a0)) + (IntKind.u64.wrap (x10_2)))) 2) : Int).toNat (y217.set ((Int.tmod a2 128) : Int).toNat (Go.bits .xor .u8 (rd y217 (Int.tmod a2 128)) a3)) : List (List Int))).bind fun y223 => (if 0 < (x9_2.length : Int) then (if 1 < (x9_2.length : Int) then ((slot_Better.f kj25 (rd_L1 y223 0) (rd_L1 y223 1)).bind fun bt226 => (if a3 = 0 then (if x10_2 = 0 then (if bt226.2.2.2 = 0 then (if bt226.1 = (wrap64 (Int.tmod (IntKind.u64.wrap ((IntKind.u64.wrap (a0)) + (IntKind.u64.wrap (x10_2)))) 2)) then (if bt226.2.1 = (IntKind.u64.wrap ((IntKind.u64.wrap (a0)) + (IntKind.u64.wrap (x10_2)))) then (if 0 ≤ x10_2 then (if x10_2 < (l1.length : Int) then (if (strOfNums bt226.2.2.1).toList = (strOfNums (rd_L1 l1 x10_2)).toList then (if ((rd_L1 x9_2 (Int.tmod (IntKind.u64.wrap ((IntKind.u64.wrap (a0)) + (IntKind.u64.wrap (x10_2)))) 2)).length : Int) = 128 then (pandectlaw4_SlotTurns.l0 kj25 a0 l1 a2 a3 (y223.set ((Int.tmod (IntKind.u64.wrap ((IntKind.u64.wrap (a0)) + (IntKind.u64.wrap (x10_2)))) 2) : Int).toNat t192) (wrap64 (x10_2 + 1))) else (none)) else (none)) else (none)) else (none)) else (none)) else (none)) else (none)) else (if bt226.2.2.2 = 0 then (if bt226.1 = (wrap64 (Int.tmod (IntKind.u64.wrap ((IntKind.u64.wrap (a0)) + (IntKind.u64.wrap (x10_2)))) 2)) then (if bt226.2.1 = (IntKind.u64.wrap ((IntKind.u64.wrap (a0)) + (IntKind.u64.wrap (x10_2)))) then (if 0 ≤ x10_2 then (if x10_2 < (l1.length : Int) then (if (strOfNums bt226.2.2.1).toList = (strOfNums (rd_L1 l1 x10_2)).toList then (if ((rd_L1 x9_2 (Int.tmod (IntKind.u64.wrap ((IntKind.u64.wrap (a0)) + (IntKind.u64.wrap (x10_2)))) 2)).length : Int) = 128 then (pandectlaw4_SlotTurns.l0 kj25 a0 l1 a2 a3 (y223.set ((Int.tmod (IntKind.u64.wrap ((IntKind.u64.wrap (a0)) + (IntKind.u64.wrap (x10_2)))) 2) : Int).toNat t192) (wrap64 (x10_2 + 1))) else (none)) else (none)) else (none)) else (none)) else (none)) else (none)) else (none))) else (if x10_2 = 0 then (if bt226.2.2.2 = 2 then (if ((rd_L1 x9_2 (Int.tmod (IntKind.u64.wrap ((IntKind.u64.wrap (a0)) + (IntKind.u64.wrap (x10_2)))) 2)).length : Int) = 128 then (pandectlaw4_SlotTurns.l0 kj25 a0 l1 a2 a3 (y223.set ((Int.tmod (IntKind.u64.wrap ((IntKind.u64.wrap (a0)) + (IntKind.u64.wrap (x10_2)))) 2) : Int).toNat t192) (wrap64 (x10_2 + 1))) else (none)) else (none)) else (if bt226.2.2.2 = 0 then (if bt226.1 = (wrap64 (Int.tmod (IntKind.u64.wrap ((IntKind.u64.wrap ((IntKind.u64.wrap (a0)) + (IntKind.u64.wrap (x10_2)))) + 1)) 2)) then (if bt226.2.1 = (IntKind.u64.wrap ((IntKind.u64.wrap ((IntKind.u64.wrap (a0)) + (IntKind.u64.wrap (x10_2)))) - 1)) then (if 0 ≤ (wrap64 (x10_2 - 1)) then (if (wrap64 (x10_2 - 1)) < (l1.length : Int) then (if (strOfNums bt226.2.2.1).toList = (strOfNums (rd_L1 l1 (wrap64 (x10_2 - 1)))).toList then (if ((rd_L1 x9_2 (Int.tmod (IntKind.u64.wrap ((IntKind.u64.wrap (a0)) + (IntKind.u64.wrap (x10_2)))) 2)).length : Int) = 128 then (pandectlaw4_SlotTurns.l0 kj25 a0 l1 a2 a3 (y223.set ((Int.tmod (IntKind.u64.wrap ((IntKind.u64.wrap (a0)) + (IntKind.u64.wrap (x10_2)))) 2) : Int).toNat t192) (wrap64 (x10_2 + 1))) else (none)) else (none)) else (none)) else (none)) else (none)) else (none)) else (none))))) else (none)) else (none))) else (none)) else (none)) else (none)) else (none)) = some r := by first | (rw [hy217]; with_reducible exact H) | (have H2_ := (Option.bind_some _ _).symm.trans H; rw [hy217]; with_reducible exact H2_) | (have H2_ := (Option.bind_some _ _).symm.trans H; with_reducible exact H2_) | with_reducible exact H | (rw [hy217]; exact H) | exact H); (have Ny217 := aM hy217); clear hy217; (obtain ⟨ji32, hji32⟩ : ∃ j_ : Int, (Int.tmod a2 128) = j_ := ⟨_, rfl⟩); (replace H : (if 0 ≤ (ji32) then (if (ji32) < (y217.length : Int) then (if 0 ≤ (Int.tmod (IntKind.u64.wrap ((IntKind.u64.wrap (a0)) + (IntKind.u64.wrap (x10_2)))) 2) then (if (Int.tmod (IntKind.u64.wrap ((IntKind.u64.wrap (a0)) + (IntKind.u64.wrap (x10_2)))) 2) < (x9_2.length : Int) then ((some (x9_2.set ((Int.tmod (IntKind.u64.wrap ((IntKind.u64.wrap (a0)) + (IntKind.u64.wrap (x10_2)))) 2) : Int).toNat (y217.set ((ji32) : Int).toNat (Go.bits .xor .u8 (rd y217 (ji32)) a3)) : List (List Int))).bind fun y223 => (if 0 < (x9_2.length : Int) then (if 1 < (x9_2.length : Int) then ((slot_Better.f kj25 (rd_L1 y223 0) (rd_L1 y223 1)).bind fun bt226 => (if a3 = 0 then (if x10_2 = 0 then (if bt226.2.2.2 = 0 then (if bt226.1 = (wrap64 (Int.tmod (IntKind.u64.wrap ((IntKind.u64.wrap (a0)) + (IntKind.u64.wrap (x10_2)))) 2)) then (if bt226.2.1 = (IntKind.u64.wrap ((IntKind.u64.wrap (a0)) + (IntKind.u64.wrap (x10_2)))) then (if 0 ≤ x10_2 then (if x10_2 < (l1.length : Int) then (if (strOfNums bt226.2.2.1).toList = (strOfNums (rd_L1 l1 x10_2)).toList then (if ((rd_L1 x9_2 (Int.tmod (IntKind.u64.wrap ((IntKind.u64.wrap (a0)) + (IntKind.u64.wrap (x10_2)))) 2)).length : Int) = 128 then (pandectlaw4_SlotTurns.l0 kj25 a0 l1 a2 a3 (y223.set ((Int.tmod (IntKind.u64.wrap ((IntKind.u64.wrap (a0)) + (IntKind.u64.wrap (x10_2)))) 2) : Int).toNat t192) (wrap64 (x10_2 + 1))) else (none)) else (none)) else (none)) else (none)) else (none)) else (none)) else (none)) else (if bt226.2.2.2 = 0 then (if bt226.1 = (wrap64 (Int.tmod (IntKind.u64.wrap ((IntKind.u64.wrap (a0)) + (IntKind.u64.wrap (x10_2)))) 2)) then (if bt226.2.1 = (IntKind.u64.wrap ((IntKind.u64.wrap (a0)) + (IntKind.u64.wrap (x10_2)))) then (if 0 ≤ x10_2 then (if x10_2 < (l1.length : Int) then (if (strOfNums bt226.2.2.1).toList = (strOfNums (rd_L1 l1 x10_2)).toList then (if ((rd_L1 x9_2 (Int.tmod (IntKind.u64.wrap ((IntKind.u64.wrap (a0)) + (IntKind.u64.wrap (x10_2)))) 2)).length : Int) = 128 then (pandectlaw4_SlotTurns.l0 kj25 a0 l1 a2 a3 (y223.set ((Int.tmod (IntKind.u64.wrap ((IntKind.u64.wrap (a0)) + (IntKind.u64.wrap (x10_2)))) 2) : Int).toNat t192) (wrap64 (x10_2 + 1))) else (none)) else (none)) else (none)) else (none)) else (none)) else (none)) else (none))) else (if x10_2 = 0 then (if bt226.2.2.2 = 2 then (if ((rd_L1 x9_2 (Int.tmod (IntKind.u64.wrap ((IntKind.u64.wrap (a0)) + (IntKind.u64.wrap (x10_2)))) 2)).length : Int) = 128 then (pandectlaw4_SlotTurns.l0 kj25 a0 l1 a2 a3 (y223.set ((Int.tmod (IntKind.u64.wrap ((IntKind.u64.wrap (a0)) + (IntKind.u64.wrap (x10_2)))) 2) : Int).toNat t192) (wrap64 (x10_2 + 1))) else (none)) else (none)) else (if bt226.2.2.2 = 0 then (if bt226.1 = (wrap64 (Int.tmod (IntKind.u64.wrap ((IntKind.u64.wrap ((IntKind.u64.wrap (a0)) + (IntKind.u64.wrap (x10_2)))) + 1)) 2)) then (if bt226.2.1 = (IntKind.u64.wrap ((IntKind.u64.wrap ((IntKind.u64.wrap (a0)) + (IntKind.u64.wrap (x10_2)))) - 1)) then (if 0 ≤ (wrap64 (x10_2 - 1)) then (if (wrap64 (x10_2 - 1)) < (l1.length : Int) then (if (strOfNums bt226.2.2.1).toList = (strOfNums (rd_L1 l1 (wrap64 (x10_2 - 1)))).toList then (if ((rd_L1 x9_2 (Int.tmod (IntKind.u64.wrap ((IntKind.u64.wrap (a0)) + (IntKind.u64.wrap (x10_2)))) 2)).length : Int) = 128 then (pandectlaw4_SlotTurns.l0 kj25 a0 l1 a2 a3 (y223.set ((Int.tmod (IntKind.u64.wrap ((IntKind.u64.wrap (a0)) + (IntKind.u64.wrap (x10_2)))) 2) : Int).toNat t192) (wrap64 (x10_2 + 1))) else (none)) else (none)) else (none)) else (none)) else (none)) else (none)) else (none))))) else (none)) else (none))) else (none)) else (none)) else (none)) else (none)) = some r := by first | (rw [hji32] at H; exact H) | (simp only [hji32] at H ⊢; exact H))
               by_cases c33 : 0 ≤ (ji32)
               ·
                (rw [if_pos c33] at H); (have c33b0 : decide (0 ≤ (ji32)) = true := decide_eq_true c33); clear c33
                by_cases c34 : (ji32) < (y217.length : Int)
                ·
                 (rw [if_pos c34] at H); (have c34b0 : decide ((ji32) < (y217.length : Int)) = true := decide_eq_true c34); clear c34; (obtain ⟨y221, hy221⟩ : ∃ y_ : List Int, y_ = (y217.set ((ji32) : Int).toNat (Go.bits .xor .u8 (rd y217 (ji32)) a3)) := ⟨_, rfl⟩); (replace H : (if 0 ≤ (Int.tmod (IntKind.u64.wrap ((IntKind.u64.wrap (a0)) + (IntKind.u64.wrap (x10_2)))) 2) then (if (Int.tmod (IntKind.u64.wrap ((IntKind.u64.wrap (a0)) + (IntKind.u64.wrap (x10_2)))) 2) < (x9_2.length : Int) then ((some (x9_2.set ((Int.tmod (IntKind.u64.wrap ((IntKind.u64.wrap (a0)) + (IntKind.u64.wrap (x10_2)))) 2) : Int).toNat y221 : List (List Int))).bind fun y223 => (if 0 < (x9_2.length : Int) then (if 1 < (x9_2.length : Int) then ((slot_Better.f kj25 (rd_L1 y223 0) (rd_L1 y223 1)).bind fun bt226 => (if a3 = 0 then (if x10_2 = 0 then (if bt226.2.2.2 = 0 then (if bt226.1 = (wrap64 (Int.tmod (IntKind.u64.wrap ((IntKind.u64.wrap (a0)) + (IntKind.u64.wrap (x10_2)))) 2)) then (if bt226.2.1 = (IntKind.u64.wrap ((IntKind.u64.wrap (a0)) + (IntKind.u64.wrap (x10_2)))) then (if 0 ≤ x10_2 then (if x10_2 < (l1.length : Int) then (if (strOfNums bt226.2.2.1).toList = (strOfNums (rd_L1 l1 x10_2)).toList then (if ((rd_L1 x9_2 (Int.tmod (IntKind.u64.wrap ((IntKind.u64.wrap (a0)) + (IntKind.u64.wrap (x10_2)))) 2)).length : Int) = 128 then (pandectlaw4_SlotTurns.l0 kj25 a0 l1 a2 a3 (y223.set ((Int.tmod (IntKind.u64.wrap ((IntKind.u64.wrap (a0)) + (IntKind.u64.wrap (x10_2)))) 2) : Int).toNat t192) (wrap64 (x10_2 + 1))) else (none)) else (none)) else (none)) else (none)) else (none)) else (none)) else (none)) else (if bt226.2.2.2 = 0 then (if bt226.1 = (wrap64 (Int.tmod (IntKind.u64.wrap ((IntKind.u64.wrap (a0)) + (IntKind.u64.wrap (x10_2)))) 2)) then (if bt226.2.1 = (IntKind.u64.wrap ((IntKind.u64.wrap (a0)) + (IntKind.u64.wrap (x10_2)))) then (if 0 ≤ x10_2 then (if x10_2 < (l1.length : Int) then (if (strOfNums bt226.2.2.1).toList = (strOfNums (rd_L1 l1 x10_2)).toList then (if ((rd_L1 x9_2 (Int.tmod (IntKind.u64.wrap ((IntKind.u64.wrap (a0)) + (IntKind.u64.wrap (x10_2)))) 2)).length : Int) = 128 then (pandectlaw4_SlotTurns.l0 kj25 a0 l1 a2 a3 (y223.set ((Int.tmod (IntKind.u64.wrap ((IntKind.u64.wrap (a0)) + (IntKind.u64.wrap (x10_2)))) 2) : Int).toNat t192) (wrap64 (x10_2 + 1))) else (none)) else (none)) else (none)) else (none)) else (none)) else (none)) else (none))) else (if x10_2 = 0 then (if bt226.2.2.2 = 2 then (if ((rd_L1 x9_2 (Int.tmod (IntKind.u64.wrap ((IntKind.u64.wrap (a0)) + (IntKind.u64.wrap (x10_2)))) 2)).length : Int) = 128 then (pandectlaw4_SlotTurns.l0 kj25 a0 l1 a2 a3 (y223.set ((Int.tmod (IntKind.u64.wrap ((IntKind.u64.wrap (a0)) + (IntKind.u64.wrap (x10_2)))) 2) : Int).toNat t192) (wrap64 (x10_2 + 1))) else (none)) else (none)) else (if bt226.2.2.2 = 0 then (if bt226.1 = (wrap64 (Int.tmod (IntKind.u64.wrap ((IntKind.u64.wrap ((IntKind.u64.wrap (a0)) + (IntKind.u64.wrap (x10_2)))) + 1)) 2)) then (if bt226.2.1 = (IntKind.u64.wrap ((IntKind.u64.wrap ((IntKind.u64.wrap (a0)) + (IntKind.u64.wrap (x10_2)))) - 1)) then (if 0 ≤ (wrap64 (x10_2 - 1)) then (if (wrap64 (x10_2 - 1)) < (l1.length : Int) then (if (strOfNums bt226.2.2.1).toList = (strOfNums (rd_L1 l1 (wrap64 (x10_2 - 1)))).toList then (if ((rd_L1 x9_2 (Int.tmod (IntKind.u64.wrap ((IntKind.u64.wrap (a0)) + (IntKind.u64.wrap (x10_2)))) 2)).length : Int) = 128 then (pandectlaw4_SlotTurns.l0 kj25 a0 l1 a2 a3 (y223.set ((Int.tmod (IntKind.u64.wrap ((IntKind.u64.wrap (a0)) + (IntKind.u64.wrap (x10_2)))) 2) : Int).toNat t192) (wrap64 (x10_2 + 1))) else (none)) else (none)) else (none)) else (none)) else (none)) else (none)) else (none))))) else (none)) else (none))) else (none)) else (none)) = some r := by first | (rw [hy221]; with_reducible exact H) | (have H2_ := (Option.bind_some _ _).symm.trans H; rw [hy221]; with_reducible exact H2_) | (have H2_ := (Option.bind_some _ _).symm.trans H; with_reducible exact H2_) | with_reducible exact H | (rw [hy221]; exact H) | exact H); (have Ny221 := aM hy221); clear hy221; (obtain ⟨ji36, hji36⟩ : ∃ j_ : Int, (Int.tmod (IntKind.u64.wrap ((IntKind.u64.wrap (a0)) + (IntKind.u64.wrap (x10_2)))) 2) = j_ := ⟨_, rfl⟩); (replace H : (if 0 ≤ (ji36) then (if (ji36) < (x9_2.length : Int) then ((some (x9_2.set ((ji36) : Int).toNat y221 : List (List Int))).bind fun y223 => (if 0 < (x9_2.length : Int) then (if 1 < (x9_2.length : Int) then ((slot_Better.f kj25 (rd_L1 y223 0) (rd_L1 y223 1)).bind fun bt226 => (if a3 = 0 then (if x10_2 = 0 then (if bt226.2.2.2 = 0 then (if bt226.1 = (wrap64 (ji36)) then (if bt226.2.1 = (IntKind.u64.wrap ((IntKind.u64.wrap (a0)) + (IntKind.u64.wrap (x10_2)))) then (if 0 ≤ x10_2 then (if x10_2 < (l1.length : Int) then (if (strOfNums bt226.2.2.1).toList = (strOfNums (rd_L1 l1 x10_2)).toList then (if ((rd_L1 x9_2 (ji36)).length : Int) = 128 then (pandectlaw4_SlotTurns.l0 kj25 a0 l1 a2 a3 (y223.set ((ji36) : Int).toNat t192) (wrap64 (x10_2 + 1))) else (none)) else (none)) else (none)) else (none)) else (none)) else (none)) else (none)) else (if bt226.2.2.2 = 0 then (if bt226.1 = (wrap64 (ji36)) then (if bt226.2.1 = (IntKind.u64.wrap ((IntKind.u64.wrap (a0)) + (IntKind.u64.wrap (x10_2)))) then (if 0 ≤ x10_2 then (if x10_2 < (l1.length : Int) then (if (strOfNums bt226.2.2.1).toList = (strOfNums (rd_L1 l1 x10_2)).toList then (if ((rd_L1 x9_2 (ji36)).length : Int) = 128 then (pandectlaw4_SlotTurns.l0 kj25 a0 l1 a2 a3 (y223.set ((ji36) : Int).toNat t192) (wrap64 (x10_2 + 1))) else (none)) else (none)) else (none)) else (none)) else (none)) else (none)) else (none))) else (if x10_2 = 0 then (if bt226.2.2.2 = 2 then (if ((rd_L1 x9_2 (ji36)).length : Int) = 128 then (pandectlaw4_SlotTurns.l0 kj25 a0 l1 a2 a3 (y223.set ((ji36) : Int).toNat t192) (wrap64 (x10_2 + 1))) else (none)) else (none)) else (if bt226.2.2.2 = 0 then (if bt226.1 = (wrap64 (Int.tmod (IntKind.u64.wrap ((IntKind.u64.wrap ((IntKind.u64.wrap (a0)) + (IntKind.u64.wrap (x10_2)))) + 1)) 2)) then (if bt226.2.1 = (IntKind.u64.wrap ((IntKind.u64.wrap ((IntKind.u64.wrap (a0)) + (IntKind.u64.wrap (x10_2)))) - 1)) then (if 0 ≤ (wrap64 (x10_2 - 1)) then (if (wrap64 (x10_2 - 1)) < (l1.length : Int) then (if (strOfNums bt226.2.2.1).toList = (strOfNums (rd_L1 l1 (wrap64 (x10_2 - 1)))).toList then (if ((rd_L1 x9_2 (ji36)).length : Int) = 128 then (pandectlaw4_SlotTurns.l0 kj25 a0 l1 a2 a3 (y223.set ((ji36) : Int).toNat t192) (wrap64 (x10_2 + 1))) else (none)) else (none)) else (none)) else (none)) else (none)) else (none)) else (none))))) else (none)) else (none))) else (none)) else (none)) = some r := by first | (rw [hji36] at H; exact H) | (simp only [hji36] at H ⊢; exact H))
                 by_cases c37 : 0 ≤ (ji36)
                 ·
                  (rw [if_pos c37] at H); (have c37b0 : decide (0 ≤ (ji36)) = true := decide_eq_true c37); clear c37
                  by_cases c38 : (ji36) < (x9_2.length : Int)
                  ·
                   (rw [if_pos c38] at H); (have c38b0 : decide ((ji36) < (x9_2.length : Int)) = true := decide_eq_true c38); clear c38; (obtain ⟨y223, hy223⟩ : ∃ y_ : List (List Int), y_ = (x9_2.set ((ji36) : Int).toNat y221) := ⟨_, rfl⟩); (replace H : (if 0 < (x9_2.length : Int) then (if 1 < (x9_2.length : Int) then ((slot_Better.f kj25 (rd_L1 y223 0) (rd_L1 y223 1)).bind fun bt226 => (if a3 = 0 then (if x10_2 = 0 then (if bt226.2.2.2 = 0 then (if bt226.1 = (wrap64 (ji36)) then (if bt226.2.1 = (IntKind.u64.wrap ((IntKind.u64.wrap (a0)) + (IntKind.u64.wrap (x10_2)))) then (if 0 ≤ x10_2 then (if x10_2 < (l1.length : Int) then (if (strOfNums bt226.2.2.1).toList = (strOfNums (rd_L1 l1 x10_2)).toList then (if ((rd_L1 x9_2 (ji36)).length : Int) = 128 then (pandectlaw4_SlotTurns.l0 kj25 a0 l1 a2 a3 (y223.set ((ji36) : Int).toNat t192) (wrap64 (x10_2 + 1))) else (none)) else (none)) else (none)) else (none)) else (none)) else (none)) else (none)) else (if bt226.2.2.2 = 0 then (if bt226.1 = (wrap64 (ji36)) then (if bt226.2.1 = (IntKind.u64.wrap ((IntKind.u64.wrap (a0)) + (IntKind.u64.wrap (x10_2)))) then (if 0 ≤ x10_2 then (if x10_2 < (l1.length : Int) then (if (strOfNums bt226.2.2.1).toList = (strOfNums (rd_L1 l1 x10_2)).toList then (if ((rd_L1 x9_2 (ji36)).length : Int) = 128 then (pandectlaw4_SlotTurns.l0 kj25 a0 l1 a2 a3 (y223.set ((ji36) : Int).toNat t192) (wrap64 (x10_2 + 1))) else (none)) else (none)) else (none)) else (none)) else (none)) else (none)) else (none))) else (if x10_2 = 0 then (if bt226.2.2.2 = 2 then (if ((rd_L1 x9_2 (ji36)).length : Int) = 128 then (pandectlaw4_SlotTurns.l0 kj25 a0 l1 a2 a3 (y223.set ((ji36) : Int).toNat t192) (wrap64 (x10_2 + 1))) else (none)) else (none)) else (if bt226.2.2.2 = 0 then (if bt226.1 = (wrap64 (Int.tmod (IntKind.u64.wrap ((IntKind.u64.wrap ((IntKind.u64.wrap (a0)) + (IntKind.u64.wrap (x10_2)))) + 1)) 2)) then (if bt226.2.1 = (IntKind.u64.wrap ((IntKind.u64.wrap ((IntKind.u64.wrap (a0)) + (IntKind.u64.wrap (x10_2)))) - 1)) then (if 0 ≤ (wrap64 (x10_2 - 1)) then (if (wrap64 (x10_2 - 1)) < (l1.length : Int) then (if (strOfNums bt226.2.2.1).toList = (strOfNums (rd_L1 l1 (wrap64 (x10_2 - 1)))).toList then (if ((rd_L1 x9_2 (ji36)).length : Int) = 128 then (pandectlaw4_SlotTurns.l0 kj25 a0 l1 a2 a3 (y223.set ((ji36) : Int).toNat t192) (wrap64 (x10_2 + 1))) else (none)) else (none)) else (none)) else (none)) else (none)) else (none)) else (none))))) else (none)) else (none)) = some r := by first | (rw [hy223]; with_reducible exact H) | (have H2_ := (Option.bind_some _ _).symm.trans H; rw [hy223]; with_reducible exact H2_) | (have H2_ := (Option.bind_some _ _).symm.trans H; with_reducible exact H2_) | with_reducible exact H | (rw [hy223]; exact H) | exact H); (have Ny223 := aM hy223); clear hy223
                   by_cases c40 : 0 < (x9_2.length : Int)
                   ·
                    (rw [if_pos c40] at H); (have c40b0 : decide (0 < (x9_2.length : Int)) = true := decide_eq_true c40); (have c40b1 : decide (0 < x9_2.length) = true := decide_eq_true (by omega)); clear c40
                    by_cases c41 : 1 < (x9_2.length : Int)
                    ·
                     (rw [if_pos c41] at H); (have c41b0 : decide (1 < (x9_2.length : Int)) = true := decide_eq_true c41); (have c41b1 : decide (1 < x9_2.length) = true := decide_eq_true (by omega)); clear c41; (replace H := Option.bind_eq_some_iff.mp H); (obtain ⟨⟨t226, t227, t228, t229⟩, A420, H⟩ := H); (replace H : (if a3 = 0 then (if x10_2 = 0 then (if t229 = 0 then (if t226 = (wrap64 (ji36)) then (if t227 = (IntKind.u64.wrap ((IntKind.u64.wrap (a0)) + (IntKind.u64.wrap (x10_2)))) then (if 0 ≤ x10_2 then (if x10_2 < (l1.length : Int) then (if (strOfNums t228).toList = (strOfNums (rd_L1 l1 x10_2)).toList then (if ((rd_L1 x9_2 (ji36)).length : Int) = 128 then (pandectlaw4_SlotTurns.l0 kj25 a0 l1 a2 a3 (y223.set ((ji36) : Int).toNat t192) (wrap64 (x10_2 + 1))) else (none)) else (none)) else (none)) else (none)) else (none)) else (none)) else (none)) else (if t229 = 0 then (if t226 = (wrap64 (ji36)) then (if t227 = (IntKind.u64.wrap ((IntKind.u64.wrap (a0)) + (IntKind.u64.wrap (x10_2)))) then (if 0 ≤ x10_2 then (if x10_2 < (l1.length : Int) then (if (strOfNums t228).toList = (strOfNums (rd_L1 l1 x10_2)).toList then (if ((rd_L1 x9_2 (ji36)).length : Int) = 128 then (pandectlaw4_SlotTurns.l0 kj25 a0 l1 a2 a3 (y223.set ((ji36) : Int).toNat t192) (wrap64 (x10_2 + 1))) else (none)) else (none)) else (none)) else (none)) else (none)) else (none)) else (none))) else (if x10_2 = 0 then (if t229 = 2 then (if ((rd_L1 x9_2 (ji36)).length : Int) = 128 then (pandectlaw4_SlotTurns.l0 kj25 a0 l1 a2 a3 (y223.set ((ji36) : Int).toNat t192) (wrap64 (x10_2 + 1))) else (none)) else (none)) else (if t229 = 0 then (if t226 = (wrap64 (Int.tmod (IntKind.u64.wrap ((IntKind.u64.wrap ((IntKind.u64.wrap (a0)) + (IntKind.u64.wrap (x10_2)))) + 1)) 2)) then (if t227 = (IntKind.u64.wrap ((IntKind.u64.wrap ((IntKind.u64.wrap (a0)) + (IntKind.u64.wrap (x10_2)))) - 1)) then (if 0 ≤ (wrap64 (x10_2 - 1)) then (if (wrap64 (x10_2 - 1)) < (l1.length : Int) then (if (strOfNums t228).toList = (strOfNums (rd_L1 l1 (wrap64 (x10_2 - 1)))).toList then (if ((rd_L1 x9_2 (ji36)).length : Int) = 128 then (pandectlaw4_SlotTurns.l0 kj25 a0 l1 a2 a3 (y223.set ((ji36) : Int).toNat t192) (wrap64 (x10_2 + 1))) else (none)) else (none)) else (none)) else (none)) else (none)) else (none)) else (none)))) = some r := H); (have A42 := aM A420); clear A420
                     by_cases c43 : a3 = 0
                     ·
                      (rw [if_pos c43] at H); (have c43b0 : (a3 == 0) = true := beq_iff_eq.mpr c43); (have c43b1 : (a3 != 0) = false := bne_eq_false_iff_eq.mpr c43); clear c43
                      by_cases c44 : x10_2 = 0
                      ·
                       (rw [if_pos c44] at H); (have c44b0 : (x10_2 == 0) = true := beq_iff_eq.mpr c44); (have c44b1 : (x10_2 != 0) = false := bne_eq_false_iff_eq.mpr c44); clear c44
                       by_cases c45 : t229 = 0
                       ·
                        (rw [if_pos c45] at H); (have c45b0 : (t229 == 0) = true := beq_iff_eq.mpr c45); (have c45b1 : (t229 != 0) = false := bne_eq_false_iff_eq.mpr c45); clear c45
                        by_cases c46 : t226 = (wrap64 (ji36))
                        ·
                         (rw [if_pos c46] at H); (have c46b0 : (t226 == (wrap64 (ji36))) = true := beq_iff_eq.mpr c46); (have c46b1 : (t226 != (wrap64 (ji36))) = false := bne_eq_false_iff_eq.mpr c46); clear c46
                         by_cases c47 : t227 = (IntKind.u64.wrap ((IntKind.u64.wrap (a0)) + (IntKind.u64.wrap (x10_2))))
                         ·
                          (rw [if_pos c47] at H); (have c47b0 : (t227 == (IntKind.u64.wrap ((IntKind.u64.wrap (a0)) + (IntKind.u64.wrap (x10_2))))) = true := beq_iff_eq.mpr c47); (have c47b1 : (t227 != (IntKind.u64.wrap ((IntKind.u64.wrap (a0)) + (IntKind.u64.wrap (x10_2))))) = false := bne_eq_false_iff_eq.mpr c47); clear c47
                          by_cases c48 : 0 ≤ x10_2
                          ·
                           (rw [if_pos c48] at H); (have c48b0 : decide (0 ≤ x10_2) = true := decide_eq_true c48); clear c48
                           by_cases c49 : x10_2 < (l1.length : Int)
                           ·
                            (rw [if_pos c49] at H); (have c49b0 : decide (x10_2 < (l1.length : Int)) = true := decide_eq_true c49); clear c49
                            by_cases c50 : (strOfNums t228).toList = (strOfNums (rd_L1 l1 x10_2)).toList
                            ·
                             (rw [if_pos c50] at H); (have c50b0 : ((strOfNums t228).toList == (strOfNums (rd_L1 l1 x10_2)).toList) = true := beq_iff_eq.mpr c50); (have c50b1 : ((strOfNums t228).toList != (strOfNums (rd_L1 l1 x10_2)).toList) = false := bne_eq_false_iff_eq.mpr c50); clear c50; (obtain ⟨y234, hy234⟩ : ∃ y_ : List (List Int), y_ = (y223.set ((ji36) : Int).toNat t192) := ⟨_, rfl⟩); (replace H : (if ((rd_L1 x9_2 (ji36)).length : Int) = 128 then (pandectlaw4_SlotTurns.l0 kj25 a0 l1 a2 a3 y234 (wrap64 (x10_2 + 1))) else (none)) = some r := by first | (rw [hy234]; with_reducible exact H) | (have H2_ := (Option.bind_some _ _).symm.trans H; rw [hy234]; with_reducible exact H2_) | (have H2_ := (Option.bind_some _ _).symm.trans H; with_reducible exact H2_) | with_reducible exact H | (rw [hy234]; exact H) | exact H); (have Ny234 := aM hy234); clear hy234
                             by_cases c52 : ((rd_L1 x9_2 (ji36)).length : Int) = 128
                             ·
                              (rw [if_pos c52] at H); (have c52b0 : (((rd_L1 x9_2 (ji36)).length : Int) == 128) = true := beq_iff_eq.mpr c52); (have c52b1 : (((rd_L1 x9_2 (ji36)).length : Int) != 128) = false := bne_eq_false_iff_eq.mpr c52); clear c52; (have H' := aM H); clear H
                              try go_wp2_with (first | ((with_reducible refine gate_dst (N := 66) rfl ?_); (try (refine gate_guard (by rfl) ?_; dsimp only)); refine Kd.R_lit (Kd.int .u8) _ 5 ?hg (N := 66) ?hd (xs := ([] : List Int)) (inner := []) (ok := fun _ => True) (okp := fun _ => True) ?hr ?hp (fun _ hk => hk) trivial (Below.refl _ _) (Nat.le_refl _) (by simp) ?_; (case hd => rfl); (case hg => rfl); (case hr => first | (go_simp; done) | (go_simp; rfl)); (case hp => exact (Reps.none _ _)); intro v215 w53 ho54 hb hg_ hnew_; clear hg_ hnew_; (first | rw [← Ny214.out] at ho54 | (simp only [Int.reduceToNat] at ho54; rw [← Ny214.out] at ho54)); have n0_ := aM (Kd.N_elder' (by (with_reducible repeat (first | apply Kd.N_alloc | apply Kd.N_drewN | apply Kd.N_drew)); exact HO_9.out) (Kd.R_base ho54) hb); have n1_ := aM (Kd.R_elder' (by (with_reducible repeat (first | apply rA | apply rN | apply rD)); exact HO_12.out) (Kd.R_base ho54) hb); have n2_ := aM (Kd.R_lower (Kd.R_new' ho54 (Kd.R_lt (by (with_reducible repeat (first | apply rA | apply rN | apply rD)); exact HO_12.out))) (below_size (by repeat (first | (with_reducible first | exact HB.out | apply bA | apply bN | apply bD) | exact HB.out)))); have n3_ := aM (below_step (by repeat (first | (with_reducible first | exact HB.out | apply bA | apply bN | apply bD) | exact HB.out)) hb); clear HO_9; clear HO_12; clear HB; have HO_9 := n0_; have HO_12 := n1_; have HO216 := n2_; have HB := n3_; clear n0_ n1_ n2_ n3_; clear hb ho54; obtain ⟨Ao56, co56, eo56⟩ := Kd.R_slice HO_12.out; subst eo56) | ((with_reducible refine gate_builtin (b := .append) (xs := #[.tmp 66, .tmp 67]) rfl ?_); (try (refine gate_guard (by rfl) ?_; dsimp only)); at_builtin; refine Kd.R_append_rows (Kd.int .u8) (w0 := w) w.heap.size rfl (.tmp 66) (.tmp 67) 22 5 (.int .u8 0) 1 rfl Try.underlying22 info5 rfl (by decide) (by omega) v215 y214 t192 _ _ _ (fun k_ => some k_ ≠ (.slice Ao56 t192.length co56 : Value).ownBlock) (fun _ => False) rfl rfl ?aO ?aR (fun _ _ h => h) (fun _ h => h.elim) ?aF ?aB ?aS ?aL ?_; (case aR => repeat (first | exact (Kd.R_reads' HO_12.out).2.2 | (with_reducible refine Kd.C_alloc ?_ _) | (with_reducible refine Kd.C_drewN ?_ _) | (with_reducible refine Kd.C_drew ?_))); (case aB => exact (by repeat (first | (with_reducible first | exact HB.out | apply bA | apply bN | apply bD) | exact HB.out))); (case aF => exact (fun k_ hk => Kd.fresh' (Kd.R_lt (by (with_reducible repeat (first | apply rA | apply rN | apply rD)); exact HO_12.out)) k_ hk)); (case aO => exact (by (with_reducible repeat (first | apply rA | apply rN | apply rD)); exact Kd.R_mono HO216.out (fun _ hk => hk.2))); (case aS => exact (below_size (by repeat (first | (with_reducible first | exact HB.out | apply bA | apply bN | apply bD) | exact HB.out)))); (case aL => have := LMc31.out; omega); intro v218 w55 ho hb hg hat; rw [← Ny217.out] at ho; have n0_ := aM (Kd.N_afterv (ok := (fun k_ => some k_ ≠ (.slice Ao56 t192.length co56 : Value).ownBlock)) (by (with_reducible repeat (first | apply Kd.N_alloc | apply Kd.N_drewN | apply Kd.N_drew)); exact HO_9.out) hg hat); have n1_ := aM (Kd.R_after (ok := (fun _ => True)) (by (with_reducible repeat (first | apply rA | apply rN | apply rD)); exact HO_12.out) hg hat); have n2_ := aM (hb); have n3_ := aM (ho); clear HO_9; clear HO_12; clear HB; clear HO216; have HO_9 := n0_; have HO_12 := n1_; have HB := n2_; have HO219 := n3_; clear n0_ n1_ n2_ n3_; clear ho hb hg hat; obtain ⟨Ao57, co57, eo57⟩ := Kd.R_slice HO219.out; subst eo57; have p220 : 0 ≤ ((ji32) : Int) := of_decide_eq_true (by first | (with_reducible assumption) | assumption); have q220 : (ji32) < (y217.length : Int) := of_decide_eq_true (by first | (with_reducible assumption) | assumption); obtain ⟨ad220, e220, hx220_0⟩ := Kd.at_int (Kd.R_reads' HO219.out).2.2 (ji32) p220 q220; cases e220; replace p220 := eq_true p220; replace q220 := eq_true q220; have p35 : 0 ≤ ((ji32) : Int) := of_decide_eq_true (by first | (with_reducible assumption) | assumption); have q35 : ((ji32) : Int) < ((y217.length : Int) : Int) := of_decide_eq_true (by first | (with_reducible assumption) | assumption); obtain ⟨go35, co35, eo35, gb35, gl35, cl35, HG35⟩ := Kd.R_form HO219.out (by omega); (first | cases eo35 | (injection eo35 with ea_ en_ ec_; (first | subst ea_ | (injection ea_ with ea_; subst ea_)); subst ec_; clear en_)); have GB35 := aM gb35; have GG35 := aM HG35; clear gb35 gl35 HG35; (first | simp only [add_plain] at hx220_0 | skip); obtain ⟨hx35_0, hf35_0⟩ := Kd.R_celln 0 HO219.out ((ji32) : Int) p35 q35; replace p35 := eq_true p35; replace q35 := eq_true q35; obtain ⟨hy58_, hz58_⟩ := Kd.R_celln 0 HO219.out ((ji32) : Int) (of_decide_eq_true (by first | (with_reducible assumption) | assumption)) (of_decide_eq_true (by first | (with_reducible assumption) | assumption)); have HP58 := Kd.R_putg HO219.out ((ji32) : Int) (Go.bits .xor .u8 (rd y217 (ji32)) a3)) | ((with_reducible refine gate_store (t := 5) (p := 76) rfl ?_); refine store_event (t := 5) (p := 76) (v := ?vo_w59) (w1 := (w55.setCell ⟨go35, ((ji32) : Int).toNat, none⟩ (.int .u8 (Go.bits .xor .u8 (rd y217 (ji32)) a3)))) ?hg ?ho ?hn ?hr ?_; (case ho => rfl); (case hg => rfl); (case hn => rfl); (case hr => first | (go_simp; done) | (go_simp; rfl)); intro w59 hw; have hg : w55.grownBy w59 (some go35) := (by rw [hw]; exact HP58.2); have hp_ : Kd.R (Kd.int .u8) 5 w59 w.heap.size (fun k_ => some k_ ≠ (.slice Ao56 t192.length co56 : Value).ownBlock) (.slice (some ⟨go35, 0, none⟩) y217.length co57) y221 := (by rw [hw, Ny221.out]; exact HP58.1); clear HP58; have n0_ := aM (Kd.N_afterv (v := (.slice (some ⟨go35, 0, none⟩) y217.length co57)) (v1 := (.slice (some ⟨go35, 0, none⟩) y217.length co57)) (ok := (fun k_ => some k_ ≠ (.slice Ao56 t192.length co56 : Value).ownBlock)) (by (with_reducible repeat (first | apply Kd.N_alloc | apply Kd.N_drewN | apply Kd.N_drew)); exact HO_9.out) hg (.inl rfl)); have n1_ := aM (Kd.R_after (v := (.slice (some ⟨go35, 0, none⟩) y217.length co57)) (v1 := (.slice (some ⟨go35, 0, none⟩) y217.length co57)) (ok := (fun _ => True)) (by (with_reducible repeat (first | apply rA | apply rN | apply rD)); exact HO_12.out) hg (.inl rfl)); have n2_ := aM (hp_); have n3_ := aM ((by rw [hw]; exact below_set (HB.out) GB35.out : Below w.heap.size w w59)); clear HO_9; clear HO_12; clear HO219; clear HB; have HO_9 := n0_; have HO_12 := n1_; have HO219 := n2_; have HB := n3_; clear n0_ n1_ n2_ n3_; clear hg hw hp_; obtain ⟨Ao60, co60, eo60⟩ := Kd.N_slice HO_9.out; subst eo60; have p222 : 0 ≤ ((ji36) : Int) := of_decide_eq_true (by first | (with_reducible assumption) | assumption); have q222 : (ji36) < (x9_2.length : Int) := of_decide_eq_true (by first | (with_reducible assumption) | assumption); obtain ⟨ad222, A222_0, c222_0, e222, hx222_0, hl222_0, hi222_0⟩ := at_L1 (Kd.N_reads' HO_9.out).2.2 (ji36) p222 q222; cases e222; obtain ⟨ce222, hce222, hMe222, hcc222⟩ := Kd.N_get HO_9.out [] (ji36) p222 (by first | exact q222 | exact of_decide_eq_true (by first | (with_reducible assumption) | assumption) | (have e_ := (Kd.N_reads' HO_9.out).1; omega)); obtain ⟨ua222_0, uc222_0, rfl, ul222_0, ge222_0⟩ := Kd.FK_slice_open hMe222; have hv222_0 := hcc222 0 _ rfl; rw [Nat.add_zero, show ((Kd.slice 5 (Kd.int .u8))).sz = 1 from rfl, Nat.mul_one] at hv222_0; replace hv222_0 := Option.some.inj (hv222_0.symm.trans hx222_0); injection hv222_0 with hva_ hvn_ hvc_; rw [hva_] at ge222_0; rw [hvc_] at ul222_0; have HL222_0 := aM (show Kd.V (Kd.int .u8) 5 _ w.heap.size _ _ (rd_L1 x9_2 (ji36)) from Kd.V_mk ul222_0 ge222_0); clear hva_ hvn_ hvc_ ge222_0 ul222_0; clear hcc222 hce222; have HR222_0 := aM hi222_0; have HC222_0 := aM hl222_0; clear hi222_0 hl222_0; replace p222 := eq_true p222; replace q222 := eq_true q222; have p39 : 0 ≤ ((ji36) : Int) := of_decide_eq_true (by first | (with_reducible assumption) | assumption); have q39 : ((ji36) : Int) < ((x9_2.length : Int) : Int) := of_decide_eq_true (by first | (with_reducible assumption) | assumption); obtain ⟨go39, co39, eo39, gb39, gl39, cl39, HG39⟩ := Kd.N_form HO_9.out (by omega); (first | cases eo39 | (injection eo39 with ea_ en_ ec_; (first | subst ea_ | (injection ea_ with ea_; subst ea_)); subst ec_; clear en_)); have GB39 := aM gb39; have GG39 := aM HG39; clear gb39 gl39 HG39; (first | simp only [add_plain] at hx222_0 | skip); obtain ⟨ce39, hcl39, hM39, hcc39, hfr39⟩ := Kd.N_elem HO_9.out [] ((ji36) : Int) p39 q39; obtain ⟨ua39_0, uc39_0, rfl, ul39_0, ge39_0⟩ := Kd.FK_slice_open hM39; have hx39_0 := hcc39 0 _ rfl; have hf39_0 := hfr39 0; (try simp only [show ((Kd.slice 5 (Kd.int .u8))).sz = 1 from rfl, Nat.mul_one, Nat.add_zero] at hx39_0); (try simp only [show ((Kd.slice 5 (Kd.int .u8))).sz = 1 from rfl, Nat.mul_one, Nat.add_zero] at hf39_0); clear hcl39 hcc39 hfr39 hM39; replace p39 := eq_true p39; replace q39 := eq_true q39; have HX61 := aM (show Kd.N (Kd.slice 5 (Kd.int .u8)) 22 w59 w.heap.size (fun k_ => some k_ ≠ (.slice Ao56 t192.length co56 : Value).ownBlock) (.slice (some ⟨go39, 0, none⟩) x9_2.length co60) x9_2 from (by (with_reducible repeat (first | apply Kd.N_alloc | apply Kd.N_drewN | apply Kd.N_drew)); exact Kd.N_mono HO_9.out (fun _ hk => hk.1))); obtain ⟨ce61, hcl61, hM61, hcc61, hfr61⟩ := Kd.N_elem HX61.out [] ((ji36) : Int) (of_decide_eq_true (by first | (with_reducible assumption) | assumption)) (by have h_ : ((ji36) : Int) < ((x9_2.length : Int) : Int) := of_decide_eq_true (by first | (with_reducible assumption) | assumption); first | exact h_ | (have e_ := (Kd.N_reads' HO_9.out).1; omega) | simpa using h_); obtain ⟨ua61_0, uc61_0, rfl, ul61_0, ge61_0⟩ := Kd.FK_slice_open hM61; have HP61 := Kd.N_seg HX61.out ((ji36) : Int) (of_decide_eq_true (by first | (with_reducible assumption) | assumption)) (by have h_ : ((ji36) : Int) < ((x9_2.length : Int) : Int) := of_decide_eq_true (by first | (with_reducible assumption) | assumption); first | exact h_ | (have e_ := (Kd.N_reads' HO_9.out).1; omega) | simpa using h_) (seg := [.slice (some ⟨go35, 0, none⟩) y217.length co57]) (j := 0) hcl61 hcc61 (show 1 ≤ 1 from by decide) (x' := y221) (Short.fkR (Kd.R_mono (ok' := (fun k_ => ((fun k_ => some k_ ≠ (.slice Ao56 t192.length co56 : Value).ownBlock)) k_ ∧ k_ ≠ go39)) (Kd.R_apart' (HO219.out) (Kd.N_typed HO_9.out) (by decide)) (fun k_ hk => ⟨hk.1, fun e_ => (hk.2) (by rw [e_]; rfl)⟩))) (fun _ hk => hk); have hx61_0 := hcc61 0 _ rfl; (try simp only [show ((Kd.slice 5 (Kd.int .u8))).sz = 1 from rfl, Nat.mul_one, Nat.add_zero] at hx61_0); have hf61_0 := hfr61 0; (try simp only [show ((Kd.slice 5 (Kd.int .u8))).sz = 1 from rfl, Nat.mul_one, Nat.add_zero] at hf61_0); clear hcl61 hcc61 hfr61 hM61; (try simp only [show ((Kd.slice 5 (Kd.int .u8))).sz = 1 from rfl, Nat.mul_one, Nat.add_zero] at HP61); (try simp only [show ((Kd.slice 5 (Kd.int .u8))).sz = 1 from rfl, Nat.mul_one, Nat.add_zero] at HP61)) | ((with_reducible refine gate_store (t := 22) (p := 86) rfl ?_); refine store_event (t := 22) (p := 86) (v := ?vo_w62) (w1 := (w59.setCell ⟨go39, ((ji36) : Int).toNat, none⟩ (.slice (some ⟨go35, 0, none⟩) y217.length co57))) ?hg ?ho ?hn ?hr ?_; (case ho => rfl); (case hg => rfl); (case hn => rfl); (case hr => first | (go_simp; done) | (go_simp; rfl)); intro w62 hw; have hg : w59.grownBy w62 (some go39) := (by rw [hw]; exact HP61.2); have hp_ : Kd.N (Kd.slice 5 (Kd.int .u8)) 22 w62 w.heap.size (fun k_ => some k_ ≠ (.slice Ao56 t192.length co56 : Value).ownBlock) (.slice (some ⟨go39, 0, none⟩) x9_2.length co60) y223 := (by rw [hw, Ny223.out]; exact HP61.1); clear HP61; have n0_ := aM (hp_); have n1_ := aM (Kd.R_over' (v := (.slice (some ⟨go39, 0, none⟩) x9_2.length co60)) (by (with_reducible repeat (first | apply rA | apply rN | apply rD)); exact HO_12.out) (Kd.N_typed HO_9.out) (by decide) hg); have n2_ := aM (Kd.V_afterv (v := (.slice (some ⟨go39, 0, none⟩) x9_2.length co60)) (v1 := (.slice (some ⟨go39, 0, none⟩) x9_2.length co60)) (ok := (fun k_ => some k_ ≠ (.slice Ao56 t192.length co56 : Value).ownBlock ∧ some k_ ≠ (.slice (some ⟨go35, 0, none⟩) y217.length co57 : Value).ownBlock)) (by (with_reducible repeat (first | apply Kd.V_alloc | apply Kd.V_drewN | apply Kd.V_drew)); exact HL222_0.out) hg (.inl rfl)); have n3_ := aM ((by rw [hw]; exact below_set (HB.out) GB39.out : Below w.heap.size w w62)); clear HO_9; clear HO_12; clear HL222_0; clear HB; clear HO219; have HO_9 := n0_; have HO_12 := n1_; have HL222_0 := n2_; have HB := n3_; clear n0_ n1_ n2_ n3_; clear hg hw hp_))
                              (have n0_ := aM (Kd.N_drew HO_9.out)); (have n1_ := aM (Kd.R_drew HO_12.out)); (have n2_ := aM (Kd.V_drew HL222_0.out)); (have n3_ := aM (below_drew1 HB.out)); clear HO_9; clear HO_12; clear HL222_0; clear HB; (have HO_9 := n0_); (have HO_12 := n1_); (have HL222_0 := n2_); (have HB := n3_); clear n0_ n1_ n2_ n3_; (have p224 : 0 ≤ (0 : Int) := (by omega)); (have q224 : 0 < (y223.length : Int) := (by have h_ : (0 : Int) < ((x9_2.length : Int) : Int) := of_decide_eq_true (by first | (with_reducible assumption) | assumption); first | (have e_ := (Kd.N_reads' HO_9.out).1; omega) | simpa only [Ny223.out, List.length_set] using h_)); (have ql224 : ((0 : Int) < ((x9_2.length : Int) : Int)) = True := eq_true (of_decide_eq_true (by first | (with_reducible assumption) | assumption)))
                              (try have qn224 : (0 < x9_2.length) = True := eq_true (by have h_ : (0 : Int) < ((x9_2.length : Int) : Int) := of_decide_eq_true (by first | (with_reducible assumption) | assumption); omega))
                              (obtain ⟨ad224, A224_0, c224_0, e224, hx224_0, hl224_0, hi224_0⟩ := at_L1 (Kd.N_reads' HO_9.out).2.2 0 p224 q224); (obtain rfl : (⟨go39, 0, none⟩ : Addr) = ad224 := (by injection e224)); (obtain ⟨ce224, hce224, hMe224, hcc224⟩ := Kd.N_get HO_9.out [] 0 p224 (by first | exact q224 | exact of_decide_eq_true (by first | (with_reducible assumption) | assumption) | (have e_ := (Kd.N_reads' HO_9.out).1; omega))); (obtain ⟨ua224_0, uc224_0, rfl, ul224_0, ge224_0⟩ := Kd.FK_slice_open hMe224); (have hv224_0 := hcc224 0 _ rfl); (rw [Nat.add_zero, show ((Kd.slice 5 (Kd.int .u8))).sz = 1 from rfl, Nat.mul_one] at hv224_0); (replace hv224_0 := Option.some.inj (hv224_0.symm.trans hx224_0))
                              injection hv224_0 with hva_ hvn_ hvc_
                              (rw [hva_] at ge224_0); (rw [hvc_] at ul224_0); (have HL224_0 := aM (show Kd.V (Kd.int .u8) 5 _ w.heap.size _ _ (rd_L1 y223 0) from Kd.V_mk ul224_0 ge224_0)); clear hva_ hvn_ hvc_ ge224_0 ul224_0; clear hcc224 hce224
                              (first | simp only [add_plain] at hx224_0 | simp only [add_at] at hx224_0 | simp only [Addr.add, Nat.zero_add] at hx224_0 | skip)
                              have qi224 : (0 < y223.length) = True := eq_true (by omega)
                              (try rw [show ((0 : Int)).toNat = 0 from rfl] at hx224_0)
                              (try rw [Addr.add_zero'] at hx224_0)
                              (have HR224_0 := aM hi224_0); (have HC224_0 := aM hl224_0); clear hi224_0 hl224_0; (replace p224 := eq_true p224); (replace q224 := eq_true q224); (have p225 : 0 ≤ (1 : Int) := (by omega)); (have q225 : 1 < (y223.length : Int) := (by have h_ : (1 : Int) < ((x9_2.length : Int) : Int) := of_decide_eq_true (by first | (with_reducible assumption) | assumption); first | (have e_ := (Kd.N_reads' HO_9.out).1; omega) | simpa only [Ny223.out, List.length_set] using h_)); (have ql225 : ((1 : Int) < ((x9_2.length : Int) : Int)) = True := eq_true (of_decide_eq_true (by first | (with_reducible assumption) | assumption)))
                              (try have qn225 : (1 < x9_2.length) = True := eq_true (by have h_ : (1 : Int) < ((x9_2.length : Int) : Int) := of_decide_eq_true (by first | (with_reducible assumption) | assumption); omega))
                              (obtain ⟨ad225, A225_0, c225_0, e225, hx225_0, hl225_0, hi225_0⟩ := at_L1 (Kd.N_reads' HO_9.out).2.2 1 p225 q225); (obtain rfl : (⟨go39, 0, none⟩ : Addr) = ad225 := (by injection e225)); (obtain ⟨ce225, hce225, hMe225, hcc225⟩ := Kd.N_get HO_9.out [] 1 p225 (by first | exact q225 | exact of_decide_eq_true (by first | (with_reducible assumption) | assumption) | (have e_ := (Kd.N_reads' HO_9.out).1; omega))); (obtain ⟨ua225_0, uc225_0, rfl, ul225_0, ge225_0⟩ := Kd.FK_slice_open hMe225); (have hv225_0 := hcc225 0 _ rfl); (rw [Nat.add_zero, show ((Kd.slice 5 (Kd.int .u8))).sz = 1 from rfl, Nat.mul_one] at hv225_0); (replace hv225_0 := Option.some.inj (hv225_0.symm.trans hx225_0))
                              injection hv225_0 with hva_ hvn_ hvc_
                              (rw [hva_] at ge225_0); (rw [hvc_] at ul225_0); (have HL225_0 := aM (show Kd.V (Kd.int .u8) 5 _ w.heap.size _ _ (rd_L1 y223 1) from Kd.V_mk ul225_0 ge225_0)); clear hva_ hvn_ hvc_ ge225_0 ul225_0; clear hcc225 hce225
                              (first | simp only [add_plain] at hx225_0 | simp only [add_at] at hx225_0 | simp only [Addr.add, Nat.zero_add] at hx225_0 | skip)
                              have qi225 : (1 < y223.length) = True := eq_true (by omega)
                              (try rw [show ((1 : Int)).toNat = 1 from rfl] at hx225_0)
                              (have HR225_0 := aM hi225_0); (have HC225_0 := aM hl225_0); clear hi225_0 hl225_0; (replace p225 := eq_true p225); (replace q225 := eq_true q225)
                              refine start_ (n := 16) (S := fun w' => w'.cell? ⟨go39, 0, none⟩ = some (.slice A224_0 (rd_L1 y223 0).length c224_0) ∧ w'.cell? ⟨go39, 1, none⟩ = some (.slice A225_0 (rd_L1 y223 1).length c225_0)) (ds := []) #[F, F, F, F, F, F, F, F, F, F, F, F, F, F, F, F] (by kernel_rfl) rfl rfl ⟨hx224_0, hx225_0⟩ (fun hHeld => ?_); refine with_tabW pandectlaw4_SlotTurns.tab19 pandectlaw4_SlotTurns.bits19 (fun HT_ HW_ => ?_)
                              generalize w62.drew = w63 at HO_9 HO_12 HL222_0 HB HL224_0 HL225_0 HR224_0 HR225_0 hx224_0 hx225_0 hHeld ⊢
                              refine pure_ (i := 0) (N := some 88) (v := ?_) (a' := ?_) #[T, F, F, F, F, F, F, F, F, F, F, F, F, F, F, F] rfl rfl (any_of HT_.out (by kernel_rfl)) (fun _ _ _ h => h) (Or.inl ⟨by rfl, ?_⟩) ?_ ?_
                              rotate_left
                              ·
                               intro w'
                               go_simp
                               with_reducible rfl
                              rotate_left
                              ·
                               simp only [Act.put, List.setIfInBounds_toArray, List.set_cons_zero, List.set_cons_succ, i64_w, i32_w]
                               rfl
                              refine pure_ (i := 1) (N := some 89) (v := ?_) (a' := ?_) #[T, T, F, F, F, F, F, F, F, F, F, F, F, F, F, F] rfl rfl (any_of HT_.out (by kernel_rfl)) (fun _ _ _ h => h) (Or.inl ⟨by rfl, ?_⟩) ?_ ?_
                              rotate_left
                              ·
                               intro w'
                               go_simp
                               with_reducible rfl
                              rotate_left
                              ·
                               simp only [Act.put, List.setIfInBounds_toArray, List.set_cons_zero, List.set_cons_succ, i64_w, i32_w]
                               rfl
                              refine pure_ (i := 3) (N := some 91) (v := ?_) (a' := ?_) #[T, T, F, T, F, F, F, F, F, F, F, F, F, F, F, F] rfl rfl (any_of HT_.out (by kernel_rfl)) (fun _ _ _ h => h) (Or.inl ⟨by rfl, ?_⟩) ?_ ?_
                              rotate_left
                              ·
                               intro w'
                               go_simp
                               with_reducible rfl
                              rotate_left
                              ·
                               simp only [Act.put, List.setIfInBounds_toArray, List.set_cons_zero, List.set_cons_succ, i64_w, i32_w]
                               rfl
                              refine pure_ (i := 4) (N := some 92) (v := ?_) (a' := ?_) #[T, T, F, T, T, F, F, F, F, F, F, F, F, F, F, F] rfl rfl (any_of HT_.out (by kernel_rfl)) (fun _ _ _ h => h) (Or.inl ⟨by rfl, ?_⟩) ?_ ?_
                              rotate_left
                              ·
                               intro w'
                               go_simp
                               with_reducible rfl
                              rotate_left
                              ·
                               simp only [Act.put, List.setIfInBounds_toArray, List.set_cons_zero, List.set_cons_succ, i64_w, i32_w]
                               rfl
                              refine take_ (i := 2) (N := some 90) (v := ?_) (a' := ?_) #[T, T, T, T, T, F, F, F, F, F, F, F, F, F, F, F] rfl rfl (take_ofW HT_.out HW_.out (by kernel_rfl)) (fun _ _ _ h => h) (Or.inl ⟨by rfl, ?_⟩) hHeld ?_ ?_
                              rotate_left
                              ·
                               rintro w' ⟨s0, s1⟩
                               go_simp
                               with_reducible rfl
                              rotate_left
                              ·
                               simp only [Act.put, List.setIfInBounds_toArray, List.set_cons_zero, List.set_cons_succ, i64_w, i32_w]
                               rfl
                              refine take_ (i := 5) (N := some 93) (v := ?_) (a' := ?_) #[T, T, T, T, T, T, F, F, F, F, F, F, F, F, F, F] rfl rfl (take_ofW HT_.out HW_.out (by kernel_rfl)) (fun _ _ _ h => h) (Or.inl ⟨by rfl, ?_⟩) hHeld ?_ ?_
                              rotate_left
                              ·
                               rintro w' ⟨s0, s1⟩
                               go_simp
                               with_reducible rfl
                              rotate_left
                              ·
                               simp only [Act.put, List.setIfInBounds_toArray, List.set_cons_zero, List.set_cons_succ, i64_w, i32_w]
                               rfl
                              refine one_ (i := 6) (N := some 94) #[T, T, T, T, T, T, T, F, F, F, F, F, F, F, F, F] rfl rfl (one_of HT_.out (by kernel_rfl)) (by decide) (fun K hK => ?_)
                              refine goes_ Try.func38 (by kernel_rfl) rfl #[.slice A224_0 (rd_L1 y223 0).length c224_0, .slice A225_0 (rd_L1 y223 1).length c225_0] (by rfl) rfl rfl (by (try simp only [List.map_toArray, List.map_cons, List.map_nil]); first | done | rfl | (simp only [List.length_drop, List.length_take]; rfl)) ?_
                              with_reducible refine (slot_Better.calls kj25 _ _ (rd_L1 y223 0) _ _ (rd_L1 y223 1) t226 t227 t228 t229 _ ?side1 ?side2 ?side3 ?side4 A42.out).mono ?_
                              (case side1 => repeat (first | exact (by repeat (first | (with_reducible exact HR224_0.out) | (with_reducible refine Kd.C_alloc ?_ _) | (with_reducible refine Kd.C_drewN ?_ _) | (with_reducible refine Kd.C_drew ?_) | exact HR224_0.out)) | (with_reducible refine Kd.C_alloc ?_ _) | (with_reducible refine Kd.C_drewN ?_ _) | (with_reducible refine Kd.C_drew ?_)))
                              (case side2 => exact HC224_0.out)
                              (case side3 => repeat (first | exact (by repeat (first | (with_reducible exact HR225_0.out) | (with_reducible refine Kd.C_alloc ?_ _) | (with_reducible refine Kd.C_drewN ?_ _) | (with_reducible refine Kd.C_drew ?_) | exact HR225_0.out)) | (with_reducible refine Kd.C_alloc ?_ _) | (with_reducible refine Kd.C_drewN ?_ _) | (with_reducible refine Kd.C_drew ?_)))
                              (case side4 => exact HC225_0.out)
                              rintro e w64 ⟨v230, rfl, ho0, hb⟩
                              (have HS0_ := (hb.cell (World.block_lt_of_cell? _ _ (hHeld.1))).trans (hHeld.1)); (have HS1_ := (hb.cell (World.block_lt_of_cell? _ _ (hHeld.2))).trans (hHeld.2))
                              refine ⟨_, rfl, ?_⟩
                              (have n0_ := aM (Kd.N_elder' (by (with_reducible repeat (first | apply Kd.N_alloc | apply Kd.N_drewN | apply Kd.N_drew)); exact HO_9.out) (Kd.R_base ho0) hb)); (have n1_ := aM (Kd.R_elder' (by (with_reducible repeat (first | apply rA | apply rN | apply rD)); exact HO_12.out) (Kd.R_base ho0) hb)); (have n2_ := aM (Kd.V_elder' (by (with_reducible repeat (first | apply Kd.V_alloc | apply Kd.V_drewN | apply Kd.V_drew)); exact HL222_0.out) (Kd.R_base ho0) hb)); (have n3_ := aM (Kd.V_elder' (by (with_reducible repeat (first | apply Kd.V_alloc | apply Kd.V_drewN | apply Kd.V_drew)); exact HL224_0.out) (Kd.R_base ho0) hb)); (have n4_ := aM (Kd.V_elder' (by (with_reducible repeat (first | apply Kd.V_alloc | apply Kd.V_drewN | apply Kd.V_drew)); exact HL225_0.out) (Kd.R_base ho0) hb)); (have n5_ := aM (Kd.R_lower (Kd.R_new' ho0 (Kd.R_lt (by (with_reducible repeat (first | apply rA | apply rN | apply rD)); exact HO_12.out))) (below_size (by repeat (first | (with_reducible first | exact HB.out | apply bA | apply bN | apply bD) | exact HB.out))))); (have n6_ := aM (Kd.C_below (by repeat (first | (with_reducible exact HR224_0.out) | (with_reducible refine Kd.C_alloc ?_ _) | (with_reducible refine Kd.C_drewN ?_ _) | (with_reducible refine Kd.C_drew ?_) | exact HR224_0.out)) hb)); (have n7_ := aM (Kd.C_below (by repeat (first | (with_reducible exact HR225_0.out) | (with_reducible refine Kd.C_alloc ?_ _) | (with_reducible refine Kd.C_drewN ?_ _) | (with_reducible refine Kd.C_drew ?_) | exact HR225_0.out)) hb)); (have n8_ := aM (below_step (by repeat (first | (with_reducible first | exact HB.out | apply bA | apply bN | apply bD) | exact HB.out)) hb)); clear HO_9; clear HO_12; clear HL222_0; clear HL224_0; clear HL225_0; clear HR224_0; clear HR225_0; clear HB; (have HO_9 := n0_); (have HO_12 := n1_); (have HL222_0 := n2_); (have HL224_0 := n3_); (have HL225_0 := n4_); (have HO231 := n5_); (have HR224_0 := n6_); (have HR225_0 := n7_); (have HB := n8_); clear n0_ n1_ n2_ n3_ n4_ n5_ n6_ n7_ n8_
                              (try clear hb)
                              (try clear hb2)
                              (try clear hk)
                              (try clear hi)
                              (try clear ho0)
                              refine hK.out _ _ ⟨HS0_, HS1_⟩ (fun hHeld => ?_)
                              clear hK K
                              refine norm_ (a' := ?_) ?_ ?_
                              rotate_left
                              ·
                               show Act.put _ (some 94) _ = _
                               simp only [Act.put, List.setIfInBounds_toArray, List.set_cons_zero, List.set_cons_succ, i64_w, i32_w]
                               rfl
                              refine pure_ (i := 7) (N := some 87) (v := ?_) (a' := ?_) #[T, T, T, T, T, T, T, T, F, F, F, F, F, F, F, F] rfl rfl (any_of HT_.out (by kernel_rfl)) (fun _ _ _ h => h) (Or.inl ⟨by rfl, ?_⟩) ?_ ?_
                              rotate_left
                              ·
                               intro w'
                               go_simp
                               with_reducible rfl
                              rotate_left
                              ·
                               simp only [Act.put, List.setIfInBounds_toArray, List.set_cons_zero, List.set_cons_succ, i64_w, i32_w]
                               rfl
                              refine pure_ (i := 8) (N := some 95) (v := ?_) (a' := ?_) #[T, T, T, T, T, T, T, T, T, F, F, F, F, F, F, F] rfl rfl (any_of HT_.out (by kernel_rfl)) (fun _ _ _ h => h) (Or.inl ⟨by rfl, ?_⟩) ?_ ?_
                              rotate_left
                              ·
                               intro w'
                               go_simp
                               with_reducible rfl
                              rotate_left
                              ·
                               simp only [Act.put, List.setIfInBounds_toArray, List.set_cons_zero, List.set_cons_succ, i64_w, i32_w]
                               rfl
                              refine pure_ (i := 9) (N := some 96) (v := ?_) (a' := ?_) #[T, T, T, T, T, T, T, T, T, T, F, F, F, F, F, F] rfl rfl (any_of HT_.out (by kernel_rfl)) (fun _ _ _ h => h) (Or.inl ⟨by rfl, ?_⟩) ?_ ?_
                              rotate_left
                              ·
                               intro w'
                               go_simp
                               with_reducible rfl
                              rotate_left
                              ·
                               simp only [Act.put, List.setIfInBounds_toArray, List.set_cons_zero, List.set_cons_succ, i64_w, i32_w]
                               rfl
                              refine pure_ (i := 10) (N := some 97) (v := ?_) (a' := ?_) #[T, T, T, T, T, T, T, T, T, T, T, F, F, F, F, F] rfl rfl (any_of HT_.out (by kernel_rfl)) (fun _ _ _ h => h) (Or.inl ⟨by rfl, ?_⟩) ?_ ?_
                              rotate_left
                              ·
                               intro w'
                               go_simp
                               with_reducible rfl
                              rotate_left
                              ·
                               simp only [Act.put, List.setIfInBounds_toArray, List.set_cons_zero, List.set_cons_succ, i64_w, i32_w]
                               rfl
                              refine pure_ (i := 11) (N := some 98) (v := ?_) (a' := ?_) #[T, T, T, T, T, T, T, T, T, T, T, T, F, F, F, F] rfl rfl (any_of HT_.out (by kernel_rfl)) (fun _ _ _ h => h) (Or.inl ⟨by rfl, ?_⟩) ?_ ?_
                              rotate_left
                              ·
                               intro w'
                               go_simp
                               with_reducible rfl
                              rotate_left
                              ·
                               simp only [Act.put, List.setIfInBounds_toArray, List.set_cons_zero, List.set_cons_succ, i64_w, i32_w]
                               rfl
                              refine pure_ (i := 12) (N := some 16) (v := ?_) (a' := ?_) #[T, T, T, T, T, T, T, T, T, T, T, T, T, F, F, F] rfl rfl (any_of HT_.out (by kernel_rfl)) (fun _ _ _ h => h) (Or.inl ⟨by rfl, ?_⟩) ?_ ?_
                              rotate_left
                              ·
                               intro w'
                               go_simp
                               with_reducible rfl
                              rotate_left
                              ·
                               simp only [Act.put, List.setIfInBounds_toArray, List.set_cons_zero, List.set_cons_succ, i64_w, i32_w]
                               rfl
                              refine pure_ (i := 13) (N := some 17) (v := ?_) (a' := ?_) #[T, T, T, T, T, T, T, T, T, T, T, T, T, T, F, F] rfl rfl (any_of HT_.out (by kernel_rfl)) (fun _ _ _ h => h) (Or.inl ⟨by rfl, ?_⟩) ?_ ?_
                              rotate_left
                              ·
                               intro w'
                               go_simp
                               with_reducible rfl
                              rotate_left
                              ·
                               simp only [Act.put, List.setIfInBounds_toArray, List.set_cons_zero, List.set_cons_succ, i64_w, i32_w]
                               rfl
                              refine pure_ (i := 14) (N := some 18) (v := ?_) (a' := ?_) #[T, T, T, T, T, T, T, T, T, T, T, T, T, T, T, F] rfl rfl (any_of HT_.out (by kernel_rfl)) (fun _ _ _ h => h) (Or.inl ⟨by rfl, ?_⟩) ?_ ?_
                              rotate_left
                              ·
                               intro w'
                               go_simp
                               with_reducible rfl
                              rotate_left
                              ·
                               simp only [Act.put, List.setIfInBounds_toArray, List.set_cons_zero, List.set_cons_succ, i64_w, i32_w]
                               rfl
                              refine pure_ (i := 15) (N := some 19) (v := ?_) (a' := ?_) #[T, T, T, T, T, T, T, T, T, T, T, T, T, T, T, T] rfl rfl (any_of HT_.out (by kernel_rfl)) (fun _ _ _ h => h) (Or.inl ⟨by rfl, ?_⟩) ?_ ?_
                              rotate_left
                              ·
                               intro w'
                               go_simp
                               with_reducible rfl
                              rotate_left
                              ·
                               simp only [Act.put, List.setIfInBounds_toArray, List.set_cons_zero, List.set_cons_succ, i64_w, i32_w]
                               rfl
                              refine done_ (done_of HT_.out (by kernel_rfl)) ?_
                              try go_wp2
                              (have n0_ := aM (Kd.N_drew HO_9.out)); (have n1_ := aM (Kd.R_drew HO_12.out)); (have n2_ := aM (Kd.V_drew HL222_0.out)); (have n3_ := aM (Kd.V_drew HL224_0.out)); (have n4_ := aM (Kd.V_drew HL225_0.out)); (have n5_ := aM (Kd.R_drew HO231.out)); (have n6_ := aM (Kd.C_drew HR224_0.out)); (have n7_ := aM (Kd.C_drew HR225_0.out)); (have n8_ := aM (below_drew1 HB.out)); clear HO_9; clear HO_12; clear HL222_0; clear HL224_0; clear HL225_0; clear HO231; clear HR224_0; clear HR225_0; clear HB; (have HO_9 := n0_); (have HO_12 := n1_); (have HL222_0 := n2_); (have HL224_0 := n3_); (have HL225_0 := n4_); (have HO231 := n5_); (have HR224_0 := n6_); (have HR225_0 := n7_); (have HB := n8_); clear n0_ n1_ n2_ n3_ n4_ n5_ n6_ n7_ n8_; (have p232 : 0 ≤ (x10_2 : Int) := of_decide_eq_true (by first | (with_reducible assumption) | assumption)); (have q232 : x10_2 < (l1.length : Int) := of_decide_eq_true (by first | (with_reducible assumption) | assumption)); (obtain ⟨ad232, A232_0, c232_0, e232, hx232_0, hl232_0, hi232_0⟩ := at_L1 HR1.out x10_2 p232 q232); (have hw232_0 := hx232_0); (obtain rfl : ad185 = ad232 := (by injection e232)); (replace hx232_0 := (HB.out.cell (World.block_lt_of_cell? w _ hx232_0)).trans hx232_0); (have HR232_0 := aM hi232_0); (have HC232_0 := aM hl232_0); clear hi232_0 hl232_0; (replace p232 := eq_true p232); (replace q232 := eq_true q232); (have hcv66 := own_string (P := Try.prog) Try.underlying22 Try.underlying5 Try.underlying9 (Kd.own_of_R HO231.out)); (have hcv67 := fun nd_ : Nat => own_string (P := Try.prog) Try.underlying22 Try.underlying5 Try.underlying9 (Kd.own_of_R (Kd.R_drewN HO231.out nd_))); (have hcv68 := Kd.C_string (P := Try.prog) (A := A232_0) (c := c232_0) Try.underlying22 Try.underlying5 Try.underlying9 (Kd.C_below HR232_0.out HB.out))
                              refine start_ (n := 24) (S := fun w' => w' = w64.drew) (ds := []) #[F, F, F, F, F, F, F, F, F, F, F, F, F, F, F, F, F, F, F, F, F, F, F, F] (by kernel_rfl) rfl rfl rfl (fun hHeld => ?_); refine with_tabW pandectlaw4_SlotTurns.tab24 pandectlaw4_SlotTurns.bits24 (fun HT_ HW_ => ?_)
                              generalize w64.drew = w65 at HO_9 HO_12 HL222_0 HL224_0 HL225_0 HO231 HR224_0 HR225_0 HB HR232_0 hx232_0 hHeld hcv66 hcv67 hcv68 ⊢
                              refine pure_ (i := 0) (N := some 114) (v := ?_) (a' := ?_) #[T, F, F, F, F, F, F, F, F, F, F, F, F, F, F, F, F, F, F, F, F, F, F, F] rfl rfl (any_of HT_.out (by kernel_rfl)) (fun _ _ _ h => h) (Or.inl ⟨by rfl, ?_⟩) ?_ ?_
                              rotate_left
                              ·
                               intro w'
                               go_simp
                               with_reducible rfl
                              rotate_left
                              ·
                               simp only [Act.put, List.setIfInBounds_toArray, List.set_cons_zero, List.set_cons_succ, i64_w, i32_w]
                               rfl
                              refine pure_ (i := 1) (N := some 115) (v := ?_) (a' := ?_) #[T, T, F, F, F, F, F, F, F, F, F, F, F, F, F, F, F, F, F, F, F, F, F, F] rfl rfl (any_of HT_.out (by kernel_rfl)) (fun _ _ _ h => h) (Or.inl ⟨by rfl, ?_⟩) ?_ ?_
                              rotate_left
                              ·
                               intro w'
                               go_simp
                               with_reducible rfl
                              rotate_left
                              ·
                               simp only [Act.put, List.setIfInBounds_toArray, List.set_cons_zero, List.set_cons_succ, i64_w, i32_w]
                               rfl
                              refine pure_ (i := 2) (N := some 116) (v := ?_) (a' := ?_) #[T, T, T, F, F, F, F, F, F, F, F, F, F, F, F, F, F, F, F, F, F, F, F, F] rfl rfl (any_of HT_.out (by kernel_rfl)) (fun _ _ _ h => h) (Or.inl ⟨by rfl, ?_⟩) ?_ ?_
                              rotate_left
                              ·
                               intro w'
                               go_simp
                               with_reducible rfl
                              rotate_left
                              ·
                               simp only [Act.put, List.setIfInBounds_toArray, List.set_cons_zero, List.set_cons_succ, i64_w, i32_w]
                               rfl
                              refine pure_ (i := 3) (N := some 117) (v := ?_) (a' := ?_) #[T, T, T, T, F, F, F, F, F, F, F, F, F, F, F, F, F, F, F, F, F, F, F, F] rfl rfl (any_of HT_.out (by kernel_rfl)) (fun _ _ _ h => h) (Or.inl ⟨by rfl, ?_⟩) ?_ ?_
                              rotate_left
                              ·
                               intro w'
                               go_simp
                               with_reducible rfl
                              rotate_left
                              ·
                               simp only [Act.put, List.setIfInBounds_toArray, List.set_cons_zero, List.set_cons_succ, i64_w, i32_w]
                               rfl
                              refine pure_ (i := 4) (N := some 118) (v := ?_) (a' := ?_) #[T, T, T, T, T, F, F, F, F, F, F, F, F, F, F, F, F, F, F, F, F, F, F, F] rfl rfl (any_of HT_.out (by kernel_rfl)) (fun _ _ _ h => h) (Or.inl ⟨by rfl, ?_⟩) ?_ ?_
                              rotate_left
                              ·
                               intro w'
                               go_simp
                               with_reducible rfl
                              rotate_left
                              ·
                               simp only [Act.put, List.setIfInBounds_toArray, List.set_cons_zero, List.set_cons_succ, i64_w, i32_w]
                               rfl
                              refine pure_ (i := 5) (N := some 119) (v := ?_) (a' := ?_) #[T, T, T, T, T, T, F, F, F, F, F, F, F, F, F, F, F, F, F, F, F, F, F, F] rfl rfl (any_of HT_.out (by kernel_rfl)) (fun _ _ _ h => h) (Or.inl ⟨by rfl, ?_⟩) ?_ ?_
                              rotate_left
                              ·
                               intro w'
                               go_simp
                               with_reducible rfl
                              rotate_left
                              ·
                               simp only [Act.put, List.setIfInBounds_toArray, List.set_cons_zero, List.set_cons_succ, i64_w, i32_w]
                               rfl
                              refine pure_ (i := 6) (N := some 120) (v := ?_) (a' := ?_) #[T, T, T, T, T, T, T, F, F, F, F, F, F, F, F, F, F, F, F, F, F, F, F, F] rfl rfl (any_of HT_.out (by kernel_rfl)) (fun _ _ _ h => h) (Or.inl ⟨by rfl, ?_⟩) ?_ ?_
                              rotate_left
                              ·
                               intro w'
                               go_simp
                               with_reducible rfl
                              rotate_left
                              ·
                               simp only [Act.put, List.setIfInBounds_toArray, List.set_cons_zero, List.set_cons_succ, i64_w, i32_w]
                               rfl
                              refine pure_ (i := 7) (N := some 121) (v := ?_) (a' := ?_) #[T, T, T, T, T, T, T, T, F, F, F, F, F, F, F, F, F, F, F, F, F, F, F, F] rfl rfl (any_of HT_.out (by kernel_rfl)) (fun _ _ _ h => h) (Or.inl ⟨by rfl, ?_⟩) ?_ ?_
                              rotate_left
                              ·
                               intro w'
                               go_simp
                               with_reducible rfl
                              rotate_left
                              ·
                               simp only [Act.put, List.setIfInBounds_toArray, List.set_cons_zero, List.set_cons_succ, i64_w, i32_w]
                               rfl
                              refine pure_ (i := 8) (N := some 122) (v := ?_) (a' := ?_) #[T, T, T, T, T, T, T, T, T, F, F, F, F, F, F, F, F, F, F, F, F, F, F, F] rfl rfl (any_of HT_.out (by kernel_rfl)) (fun _ _ _ h => h) (Or.inl ⟨by rfl, ?_⟩) ?_ ?_
                              rotate_left
                              ·
                               intro w'
                               go_simp
                               with_reducible rfl
                              rotate_left
                              ·
                               simp only [Act.put, List.setIfInBounds_toArray, List.set_cons_zero, List.set_cons_succ, i64_w, i32_w]
                               rfl
                              refine pure_ (i := 9) (N := some 123) (v := ?_) (a' := ?_) #[T, T, T, T, T, T, T, T, T, T, F, F, F, F, F, F, F, F, F, F, F, F, F, F] rfl rfl (any_of HT_.out (by kernel_rfl)) (fun _ _ _ h => h) (Or.inl ⟨by rfl, ?_⟩) ?_ ?_
                              rotate_left
                              ·
                               intro w'
                               go_simp
                               with_reducible rfl
                              rotate_left
                              ·
                               simp only [Act.put, List.setIfInBounds_toArray, List.set_cons_zero, List.set_cons_succ, i64_w, i32_w]
                               rfl
                              refine pure_ (i := 10) (N := some 124) (v := ?_) (a' := ?_) #[T, T, T, T, T, T, T, T, T, T, T, F, F, F, F, F, F, F, F, F, F, F, F, F] rfl rfl (any_of HT_.out (by kernel_rfl)) (fun _ _ _ h => h) (Or.inl ⟨by rfl, ?_⟩) ?_ ?_
                              rotate_left
                              ·
                               intro w'
                               go_simp
                               with_reducible rfl
                              rotate_left
                              ·
                               simp only [Act.put, List.setIfInBounds_toArray, List.set_cons_zero, List.set_cons_succ, i64_w, i32_w]
                               rfl
                              refine pure_ (i := 11) (N := some 125) (v := ?_) (a' := ?_) #[T, T, T, T, T, T, T, T, T, T, T, T, F, F, F, F, F, F, F, F, F, F, F, F] rfl rfl (any_of HT_.out (by kernel_rfl)) (fun _ _ _ h => h) (Or.inl ⟨by rfl, ?_⟩) ?_ ?_
                              rotate_left
                              ·
                               intro w'
                               go_simp
                               with_reducible rfl
                              rotate_left
                              ·
                               simp only [Act.put, List.setIfInBounds_toArray, List.set_cons_zero, List.set_cons_succ, i64_w, i32_w]
                               rfl
                              refine pure_ (i := 12) (N := some 126) (v := ?_) (a' := ?_) #[T, T, T, T, T, T, T, T, T, T, T, T, T, F, F, F, F, F, F, F, F, F, F, F] rfl rfl (any_of HT_.out (by kernel_rfl)) (fun _ _ _ h => h) (Or.inl ⟨by rfl, ?_⟩) ?_ ?_
                              rotate_left
                              ·
                               intro w'
                               go_simp
                               with_reducible rfl
                              rotate_left
                              ·
                               simp only [Act.put, List.setIfInBounds_toArray, List.set_cons_zero, List.set_cons_succ, i64_w, i32_w]
                               rfl
                              refine pure_ (i := 13) (N := some 127) (v := ?_) (a' := ?_) #[T, T, T, T, T, T, T, T, T, T, T, T, T, T, F, F, F, F, F, F, F, F, F, F] rfl rfl (any_of HT_.out (by kernel_rfl)) (fun _ _ _ h => h) (Or.inl ⟨by rfl, ?_⟩) ?_ ?_
                              rotate_left
                              ·
                               intro w'
                               go_simp
                               with_reducible rfl
                              rotate_left
                              ·
                               simp only [Act.put, List.setIfInBounds_toArray, List.set_cons_zero, List.set_cons_succ, i64_w, i32_w]
                               rfl
                              refine pure_ (i := 14) (N := some 128) (v := ?_) (a' := ?_) #[T, T, T, T, T, T, T, T, T, T, T, T, T, T, T, F, F, F, F, F, F, F, F, F] rfl rfl (any_of HT_.out (by kernel_rfl)) (fun _ _ _ h => h) (Or.inl ⟨by rfl, ?_⟩) ?_ ?_
                              rotate_left
                              ·
                               intro w'
                               go_simp
                               with_reducible rfl
                              rotate_left
                              ·
                               simp only [Act.put, List.setIfInBounds_toArray, List.set_cons_zero, List.set_cons_succ, i64_w, i32_w]
                               rfl
                              refine pure_ (i := 15) (N := some 129) (v := ?_) (a' := ?_) #[T, T, T, T, T, T, T, T, T, T, T, T, T, T, T, T, F, F, F, F, F, F, F, F] rfl rfl (any_of HT_.out (by kernel_rfl)) (fun _ _ _ h => h) (Or.inl ⟨by rfl, ?_⟩) ?_ ?_
                              rotate_left
                              ·
                               intro w'
                               go_simp
                               with_reducible rfl
                              rotate_left
                              ·
                               simp only [Act.put, List.setIfInBounds_toArray, List.set_cons_zero, List.set_cons_succ, i64_w, i32_w]
                               rfl
                              refine take_ (i := 16) (N := some 130) (v := ?_) (a' := ?_) #[T, T, T, T, T, T, T, T, T, T, T, T, T, T, T, T, T, F, F, F, F, F, F, F] rfl rfl (take_ofW HT_.out HW_.out (by kernel_rfl)) (fun _ _ _ h => h) (Or.inl ⟨by rfl, ?_⟩) hHeld ?_ ?_
                              rotate_left
                              ·
                               intro w' s0; subst s0
                               go_simp
                               with_reducible rfl
                              rotate_left
                              ·
                               simp only [Act.put, List.setIfInBounds_toArray, List.set_cons_zero, List.set_cons_succ, i64_w, i32_w]
                               rfl
                              refine pure_ (i := 17) (N := some 131) (v := ?_) (a' := ?_) #[T, T, T, T, T, T, T, T, T, T, T, T, T, T, T, T, T, T, F, F, F, F, F, F] rfl rfl (any_of HT_.out (by kernel_rfl)) (fun _ _ _ h => h) (Or.inl ⟨by rfl, ?_⟩) ?_ ?_
                              rotate_left
                              ·
                               intro w'
                               go_simp
                               with_reducible rfl
                              rotate_left
                              ·
                               simp only [Act.put, List.setIfInBounds_toArray, List.set_cons_zero, List.set_cons_succ, i64_w, i32_w]
                               rfl
                              refine pure_ (i := 18) (N := some 132) (v := ?_) (a' := ?_) #[T, T, T, T, T, T, T, T, T, T, T, T, T, T, T, T, T, T, T, F, F, F, F, F] rfl rfl (any_of HT_.out (by kernel_rfl)) (fun _ _ _ h => h) (Or.inl ⟨by rfl, ?_⟩) ?_ ?_
                              rotate_left
                              ·
                               intro w'
                               go_simp
                               with_reducible rfl
                              rotate_left
                              ·
                               simp only [Act.put, List.setIfInBounds_toArray, List.set_cons_zero, List.set_cons_succ, i64_w, i32_w]
                               rfl
                              refine pure_ (i := 19) (N := some 133) (v := ?_) (a' := ?_) #[T, T, T, T, T, T, T, T, T, T, T, T, T, T, T, T, T, T, T, T, F, F, F, F] rfl rfl (any_of HT_.out (by kernel_rfl)) (fun _ _ _ h => h) (Or.inl ⟨by rfl, ?_⟩) ?_ ?_
                              rotate_left
                              ·
                               intro w'
                               go_simp
                               with_reducible rfl
                              rotate_left
                              ·
                               simp only [Act.put, List.setIfInBounds_toArray, List.set_cons_zero, List.set_cons_succ, i64_w, i32_w]
                               rfl
                              refine take_ (i := 20) (N := some 134) (v := ?_) (a' := ?_) #[T, T, T, T, T, T, T, T, T, T, T, T, T, T, T, T, T, T, T, T, T, F, F, F] rfl rfl (take_ofW HT_.out HW_.out (by kernel_rfl)) (fun _ _ _ h => h) (Or.inl ⟨by rfl, ?_⟩) hHeld ?_ ?_
                              rotate_left
                              ·
                               intro w' s0; subst s0
                               go_simp
                               with_reducible rfl
                              rotate_left
                              ·
                               simp only [Act.put, List.setIfInBounds_toArray, List.set_cons_zero, List.set_cons_succ, i64_w, i32_w]
                               rfl
                              refine take_ (i := 21) (N := some 135) (v := ?_) (a' := ?_) #[T, T, T, T, T, T, T, T, T, T, T, T, T, T, T, T, T, T, T, T, T, T, F, F] rfl rfl (take_ofW HT_.out HW_.out (by kernel_rfl)) (fun _ _ _ h => h) (Or.inl ⟨by rfl, ?_⟩) hHeld ?_ ?_
                              rotate_left
                              ·
                               intro w' s0; subst s0
                               go_simp
                               with_reducible rfl
                              rotate_left
                              ·
                               simp only [Act.put, List.setIfInBounds_toArray, List.set_cons_zero, List.set_cons_succ, i64_w, i32_w]
                               rfl
                              refine take_ (i := 22) (N := some 136) (v := ?_) (a' := ?_) #[T, T, T, T, T, T, T, T, T, T, T, T, T, T, T, T, T, T, T, T, T, T, T, F] rfl rfl (take_ofW HT_.out HW_.out (by kernel_rfl)) (fun _ _ _ h => h) (Or.inl ⟨by rfl, ?_⟩) hHeld ?_ ?_
                              rotate_left
                              ·
                               intro w' s0; subst s0
                               go_simp
                               with_reducible rfl
                              rotate_left
                              ·
                               simp only [Act.put, List.setIfInBounds_toArray, List.set_cons_zero, List.set_cons_succ, i64_w, i32_w]
                               rfl
                              refine pure_ (i := 23) (N := some 137) (v := ?_) (a' := ?_) #[T, T, T, T, T, T, T, T, T, T, T, T, T, T, T, T, T, T, T, T, T, T, T, T] rfl rfl (any_of HT_.out (by kernel_rfl)) (fun _ _ _ h => h) (Or.inl ⟨by rfl, ?_⟩) ?_ ?_
                              rotate_left
                              ·
                               intro w'
                               go_simp
                               with_reducible rfl
                              rotate_left
                              ·
                               simp only [Act.put, List.setIfInBounds_toArray, List.set_cons_zero, List.set_cons_succ, i64_w, i32_w]
                               rfl
                              refine done_ (done_of HT_.out (by kernel_rfl)) ?_
                              (have p51 : 0 ≤ ((ji36) : Int) := of_decide_eq_true (by first | (with_reducible assumption) | assumption)); (have q51 : ((ji36) : Int) < ((x9_2.length : Int) : Int) := of_decide_eq_true (by first | (with_reducible assumption) | assumption)); (obtain ⟨ce51, hcl51, hM51, hcc51, hfr51⟩ := Kd.N_elem HO_9.out [] ((ji36) : Int) p51 q51); (obtain ⟨ua51_0, uc51_0, rfl, ul51_0, ge51_0⟩ := Kd.FK_slice_open hM51); (have hx51_0 := hcc51 0 _ rfl); (have hf51_0 := hfr51 0)
                              (try simp only [show ((Kd.slice 5 (Kd.int .u8))).sz = 1 from rfl, Nat.mul_one, Nat.add_zero] at hx51_0)
                              (try simp only [show ((Kd.slice 5 (Kd.int .u8))).sz = 1 from rfl, Nat.mul_one, Nat.add_zero] at hf51_0)
                              clear hcl51 hcc51 hfr51 hM51; (replace p51 := eq_true p51); (replace q51 := eq_true q51); (have HX70 := aM (show Kd.N (Kd.slice 5 (Kd.int .u8)) 22 w65 w.heap.size (fun k_ => some k_ ≠ (v230 : Value).ownBlock) (.slice (some ⟨go39, 0, none⟩) x9_2.length co60) y223 from (by (with_reducible repeat (first | apply Kd.N_alloc | apply Kd.N_drewN | apply Kd.N_drew)); exact Kd.N_mono HO_9.out (fun _ hk => hk.2)))); (obtain ⟨ce70, hcl70, hM70, hcc70, hfr70⟩ := Kd.N_elem HX70.out [] ((ji36) : Int) (of_decide_eq_true (by first | (with_reducible assumption) | assumption)) (by have h_ : ((ji36) : Int) < ((x9_2.length : Int) : Int) := of_decide_eq_true (by first | (with_reducible assumption) | assumption); first | exact h_ | (have e_ := (Kd.N_reads' HO_9.out).1; omega) | simpa using h_)); (obtain ⟨ua70_0, uc70_0, rfl, ul70_0, ge70_0⟩ := Kd.FK_slice_open hM70); (have HP70 := Kd.N_seg HX70.out ((ji36) : Int) (of_decide_eq_true (by first | (with_reducible assumption) | assumption)) (by have h_ : ((ji36) : Int) < ((x9_2.length : Int) : Int) := of_decide_eq_true (by first | (with_reducible assumption) | assumption); first | exact h_ | (have e_ := (Kd.N_reads' HO_9.out).1; omega) | simpa using h_) (seg := [.slice Ao56 t192.length co56]) (j := 0) hcl70 hcc70 (show 1 ≤ 1 from by decide) (x' := t192) (Short.fkR (Kd.R_mono (ok' := (fun k_ => ((fun k_ => some k_ ≠ (v230 : Value).ownBlock)) k_ ∧ k_ ≠ go39)) (Kd.R_apart' (HO_12.out) (Kd.N_typed HO_9.out) (by decide)) (fun k_ hk => ⟨hk.1.2, fun e_ => (hk.2) (by rw [e_]; rfl)⟩))) (fun _ hk => hk)); (have hx70_0 := hcc70 0 _ rfl)
                              (try simp only [show ((Kd.slice 5 (Kd.int .u8))).sz = 1 from rfl, Nat.mul_one, Nat.add_zero] at hx70_0)
                              have hf70_0 := hfr70 0
                              (try simp only [show ((Kd.slice 5 (Kd.int .u8))).sz = 1 from rfl, Nat.mul_one, Nat.add_zero] at hf70_0)
                              clear hcl70 hcc70 hfr70 hM70
                              (try simp only [show ((Kd.slice 5 (Kd.int .u8))).sz = 1 from rfl, Nat.mul_one, Nat.add_zero] at HP70)
                              (try simp only [show ((Kd.slice 5 (Kd.int .u8))).sz = 1 from rfl, Nat.mul_one, Nat.add_zero] at HP70)
                              try go_wp2_with (first | ((with_reducible refine gate_store (t := 22) (p := 170) rfl ?_); refine store_event (t := 22) (p := 170) (v := ?vo_w71) (w1 := (w65.setCell ⟨go39, ((ji36) : Int).toNat, none⟩ (.slice Ao56 t192.length co56))) ?hg ?ho ?hn ?hr ?_; (case ho => rfl); (case hg => rfl); (case hn => rfl); (case hr => first | (go_simp; done) | (go_simp; rfl)); intro w71 hw; have hg : w65.grownBy w71 (some go39) := (by rw [hw]; exact HP70.2); have hp_ : Kd.N (Kd.slice 5 (Kd.int .u8)) 22 w71 w.heap.size (fun k_ => some k_ ≠ (v230 : Value).ownBlock) (.slice (some ⟨go39, 0, none⟩) x9_2.length co60) y234 := (by rw [hw, Ny234.out]; exact HP70.1); clear HP70; have n0_ := aM (hp_); have n1_ := aM (Kd.V_afterv (v := (.slice (some ⟨go39, 0, none⟩) x9_2.length co60)) (v1 := (.slice (some ⟨go39, 0, none⟩) x9_2.length co60)) (ok := (fun k_ => some k_ ≠ (.slice Ao56 t192.length co56 : Value).ownBlock ∧ some k_ ≠ (v230 : Value).ownBlock)) (by (with_reducible repeat (first | apply Kd.V_alloc | apply Kd.V_drewN | apply Kd.V_drew)); exact Kd.V_mono HL222_0.out (fun _ hk => ⟨⟨hk.1.1.1, hk.2⟩, hk.1.2⟩)) hg (.inl rfl)); have n2_ := aM (Kd.V_afterv (v := (.slice (some ⟨go39, 0, none⟩) x9_2.length co60)) (v1 := (.slice (some ⟨go39, 0, none⟩) x9_2.length co60)) (ok := (fun k_ => some k_ ≠ (.slice Ao56 t192.length co56 : Value).ownBlock ∧ some k_ ≠ (v230 : Value).ownBlock)) (by (with_reducible repeat (first | apply Kd.V_alloc | apply Kd.V_drewN | apply Kd.V_drew)); exact Kd.V_mono HL224_0.out (fun _ hk => ⟨⟨hk.1.1, hk.2⟩, hk.1.2⟩)) hg (.inl rfl)); have n3_ := aM (Kd.V_afterv (v := (.slice (some ⟨go39, 0, none⟩) x9_2.length co60)) (v1 := (.slice (some ⟨go39, 0, none⟩) x9_2.length co60)) (ok := (fun k_ => some k_ ≠ (.slice Ao56 t192.length co56 : Value).ownBlock ∧ some k_ ≠ (v230 : Value).ownBlock)) (by (with_reducible repeat (first | apply Kd.V_alloc | apply Kd.V_drewN | apply Kd.V_drew)); exact Kd.V_mono HL225_0.out (fun _ hk => ⟨⟨hk.1.1, hk.2⟩, hk.1.2⟩)) hg (.inl rfl)); have n4_ := aM (Kd.R_over' (v := (.slice (some ⟨go39, 0, none⟩) x9_2.length co60)) (by (with_reducible repeat (first | apply rA | apply rN | apply rD)); exact HO231.out) (Kd.N_typed HO_9.out) (by decide) hg); have n5_ := aM ((by rw [hw]; exact below_set (HB.out) GB39.out : Below w.heap.size w w71)); clear HO_9; clear HL222_0; clear HL224_0; clear HL225_0; clear HO231; clear HB; clear HO_12; have HO_9 := n0_; have HL222_0 := n1_; have HL224_0 := n2_; have HL225_0 := n3_; have HO231 := n4_; have HB := n5_; clear n0_ n1_ n2_ n3_ n4_ n5_; clear hg hw hp_))
                              go_roundg kj25
                              case measure => have := HJ6.out; have := HK2.out; have := HJ25.out; omega
                              case rel => exact ⟨(y234), (wrap64 (x10_2 + 1)), (by first | rfl | (simp; done) | (simp [*]; done)), H', ⟨by have := HJ6.out; have := HK2.out; have := HJ25.out; omega⟩, ⟨by (with_reducible repeat (first | apply Kd.N_alloc | apply Kd.N_drewN | apply Kd.N_drew)); exact Kd.N_mono HO_9.out (fun _ hk => trivial)⟩, ⟨by repeat (first | (with_reducible first | exact HB.out | apply bA | apply bN | apply bD) | exact HB.out)⟩⟩
                             ·
                              rw [if_neg c52] at H
                              exact absurd H (by simp)
                            ·
                             rw [if_neg c50] at H
                             exact absurd H (by simp)
                           ·
                            rw [if_neg c49] at H
                            exact absurd H (by simp)
                          ·
                           rw [if_neg c48] at H
                           exact absurd H (by simp)
                         ·
                          (rw [if_neg c47] at H); (have c47b0 : (t227 == (IntKind.u64.wrap ((IntKind.u64.wrap (a0)) + (IntKind.u64.wrap (x10_2))))) = false := beq_eq_false_iff_ne.mpr c47); (have c47b1 : (t227 != (IntKind.u64.wrap ((IntKind.u64.wrap (a0)) + (IntKind.u64.wrap (x10_2))))) = true := bne_iff_ne.mpr c47)
                          exact absurd H (by simp)
                        ·
                         (rw [if_neg c46] at H); (have c46b0 : (t226 == (wrap64 (ji36))) = false := beq_eq_false_iff_ne.mpr c46); (have c46b1 : (t226 != (wrap64 (ji36))) = true := bne_iff_ne.mpr c46)
                         exact absurd H (by simp)
                       ·
                        (rw [if_neg c45] at H); (have c45b0 : (t229 == 0) = false := beq_eq_false_iff_ne.mpr c45); (have c45b1 : (t229 != 0) = true := bne_iff_ne.mpr c45)
                        exact absurd H (by simp)
                      ·
                       (rw [if_neg c44] at H); (have c44b0 : (x10_2 == 0) = false := beq_eq_false_iff_ne.mpr c44); (have c44b1 : (x10_2 != 0) = true := bne_iff_ne.mpr c44)
                       by_cases c72 : t229 = 0
                       ·
                        (rw [if_pos c72] at H); (have c72b0 : (t229 == 0) = true := beq_iff_eq.mpr c72); (have c72b1 : (t229 != 0) = false := bne_eq_false_iff_eq.mpr c72); clear c72
                        by_cases c73 : t226 = (wrap64 (ji36))
                        ·
                         (rw [if_pos c73] at H); (have c73b0 : (t226 == (wrap64 (ji36))) = true := beq_iff_eq.mpr c73); (have c73b1 : (t226 != (wrap64 (ji36))) = false := bne_eq_false_iff_eq.mpr c73); clear c73
                         by_cases c74 : t227 = (IntKind.u64.wrap ((IntKind.u64.wrap (a0)) + (IntKind.u64.wrap (x10_2))))
                         ·
                          (rw [if_pos c74] at H); (have c74b0 : (t227 == (IntKind.u64.wrap ((IntKind.u64.wrap (a0)) + (IntKind.u64.wrap (x10_2))))) = true := beq_iff_eq.mpr c74); (have c74b1 : (t227 != (IntKind.u64.wrap ((IntKind.u64.wrap (a0)) + (IntKind.u64.wrap (x10_2))))) = false := bne_eq_false_iff_eq.mpr c74); clear c74
                          by_cases c75 : 0 ≤ x10_2
                          ·
                           (rw [if_pos c75] at H); (have c75b0 : decide (0 ≤ x10_2) = true := decide_eq_true c75); clear c75
                           by_cases c76 : x10_2 < (l1.length : Int)
                           ·
                            (rw [if_pos c76] at H); (have c76b0 : decide (x10_2 < (l1.length : Int)) = true := decide_eq_true c76); clear c76
                            by_cases c77 : (strOfNums t228).toList = (strOfNums (rd_L1 l1 x10_2)).toList
                            ·
                             (rw [if_pos c77] at H); (have c77b0 : ((strOfNums t228).toList == (strOfNums (rd_L1 l1 x10_2)).toList) = true := beq_iff_eq.mpr c77); (have c77b1 : ((strOfNums t228).toList != (strOfNums (rd_L1 l1 x10_2)).toList) = false := bne_eq_false_iff_eq.mpr c77); clear c77; (obtain ⟨y237, hy237⟩ : ∃ y_ : List (List Int), y_ = (y223.set ((ji36) : Int).toNat t192) := ⟨_, rfl⟩); (replace H : (if ((rd_L1 x9_2 (ji36)).length : Int) = 128 then (pandectlaw4_SlotTurns.l0 kj25 a0 l1 a2 a3 y237 (wrap64 (x10_2 + 1))) else (none)) = some r := by first | (rw [hy237]; with_reducible exact H) | (have H2_ := (Option.bind_some _ _).symm.trans H; rw [hy237]; with_reducible exact H2_) | (have H2_ := (Option.bind_some _ _).symm.trans H; with_reducible exact H2_) | with_reducible exact H | (rw [hy237]; exact H) | exact H); (have Ny237 := aM hy237); clear hy237
                             by_cases c79 : ((rd_L1 x9_2 (ji36)).length : Int) = 128
                             ·
                              (rw [if_pos c79] at H); (have c79b0 : (((rd_L1 x9_2 (ji36)).length : Int) == 128) = true := beq_iff_eq.mpr c79); (have c79b1 : (((rd_L1 x9_2 (ji36)).length : Int) != 128) = false := bne_eq_false_iff_eq.mpr c79); clear c79; (have H' := aM H); clear H
                              try go_wp2_with (first | ((with_reducible refine gate_dst (N := 66) rfl ?_); (try (refine gate_guard (by rfl) ?_; dsimp only)); refine Kd.R_lit (Kd.int .u8) _ 5 ?hg (N := 66) ?hd (xs := ([] : List Int)) (inner := []) (ok := fun _ => True) (okp := fun _ => True) ?hr ?hp (fun _ hk => hk) trivial (Below.refl _ _) (Nat.le_refl _) (by simp) ?_; (case hd => rfl); (case hg => rfl); (case hr => first | (go_simp; done) | (go_simp; rfl)); (case hp => exact (Reps.none _ _)); intro v215 w80 ho81 hb hg_ hnew_; clear hg_ hnew_; (first | rw [← Ny214.out] at ho81 | (simp only [Int.reduceToNat] at ho81; rw [← Ny214.out] at ho81)); have n0_ := aM (Kd.N_elder' (by (with_reducible repeat (first | apply Kd.N_alloc | apply Kd.N_drewN | apply Kd.N_drew)); exact HO_9.out) (Kd.R_base ho81) hb); have n1_ := aM (Kd.R_elder' (by (with_reducible repeat (first | apply rA | apply rN | apply rD)); exact HO_12.out) (Kd.R_base ho81) hb); have n2_ := aM (Kd.R_lower (Kd.R_new' ho81 (Kd.R_lt (by (with_reducible repeat (first | apply rA | apply rN | apply rD)); exact HO_12.out))) (below_size (by repeat (first | (with_reducible first | exact HB.out | apply bA | apply bN | apply bD) | exact HB.out)))); have n3_ := aM (below_step (by repeat (first | (with_reducible first | exact HB.out | apply bA | apply bN | apply bD) | exact HB.out)) hb); clear HO_9; clear HO_12; clear HB; have HO_9 := n0_; have HO_12 := n1_; have HO216 := n2_; have HB := n3_; clear n0_ n1_ n2_ n3_; clear hb ho81; obtain ⟨Ao83, co83, eo83⟩ := Kd.R_slice HO_12.out; subst eo83) | ((with_reducible refine gate_builtin (b := .append) (xs := #[.tmp 66, .tmp 67]) rfl ?_); (try (refine gate_guard (by rfl) ?_; dsimp only)); at_builtin; refine Kd.R_append_rows (Kd.int .u8) (w0 := w) w.heap.size rfl (.tmp 66) (.tmp 67) 22 5 (.int .u8 0) 1 rfl Try.underlying22 info5 rfl (by decide) (by omega) v215 y214 t192 _ _ _ (fun k_ => some k_ ≠ (.slice Ao83 t192.length co83 : Value).ownBlock) (fun _ => False) rfl rfl ?aO ?aR (fun _ _ h => h) (fun _ h => h.elim) ?aF ?aB ?aS ?aL ?_; (case aR => repeat (first | exact (Kd.R_reads' HO_12.out).2.2 | (with_reducible refine Kd.C_alloc ?_ _) | (with_reducible refine Kd.C_drewN ?_ _) | (with_reducible refine Kd.C_drew ?_))); (case aB => exact (by repeat (first | (with_reducible first | exact HB.out | apply bA | apply bN | apply bD) | exact HB.out))); (case aF => exact (fun k_ hk => Kd.fresh' (Kd.R_lt (by (with_reducible repeat (first | apply rA | apply rN | apply rD)); exact HO_12.out)) k_ hk)); (case aO => exact (by (with_reducible repeat (first | apply rA | apply rN | apply rD)); exact Kd.R_mono HO216.out (fun _ hk => hk.2))); (case aS => exact (below_size (by repeat (first | (with_reducible first | exact HB.out | apply bA | apply bN | apply bD) | exact HB.out)))); (case aL => have := LMc31.out; omega); intro v218 w82 ho hb hg hat; rw [← Ny217.out] at ho; have n0_ := aM (Kd.N_afterv (ok := (fun k_ => some k_ ≠ (.slice Ao83 t192.length co83 : Value).ownBlock)) (by (with_reducible repeat (first | apply Kd.N_alloc | apply Kd.N_drewN | apply Kd.N_drew)); exact HO_9.out) hg hat); have n1_ := aM (Kd.R_after (ok := (fun _ => True)) (by (with_reducible repeat (first | apply rA | apply rN | apply rD)); exact HO_12.out) hg hat); have n2_ := aM (hb); have n3_ := aM (ho); clear HO_9; clear HO_12; clear HB; clear HO216; have HO_9 := n0_; have HO_12 := n1_; have HB := n2_; have HO219 := n3_; clear n0_ n1_ n2_ n3_; clear ho hb hg hat; obtain ⟨Ao84, co84, eo84⟩ := Kd.R_slice HO219.out; subst eo84; have p220 : 0 ≤ ((ji32) : Int) := of_decide_eq_true (by first | (with_reducible assumption) | assumption); have q220 : (ji32) < (y217.length : Int) := of_decide_eq_true (by first | (with_reducible assumption) | assumption); obtain ⟨ad220, e220, hx220_0⟩ := Kd.at_int (Kd.R_reads' HO219.out).2.2 (ji32) p220 q220; cases e220; replace p220 := eq_true p220; replace q220 := eq_true q220; have p35 : 0 ≤ ((ji32) : Int) := of_decide_eq_true (by first | (with_reducible assumption) | assumption); have q35 : ((ji32) : Int) < ((y217.length : Int) : Int) := of_decide_eq_true (by first | (with_reducible assumption) | assumption); obtain ⟨go35, co35, eo35, gb35, gl35, cl35, HG35⟩ := Kd.R_form HO219.out (by omega); (first | cases eo35 | (injection eo35 with ea_ en_ ec_; (first | subst ea_ | (injection ea_ with ea_; subst ea_)); subst ec_; clear en_)); have GB35 := aM gb35; have GG35 := aM HG35; clear gb35 gl35 HG35; (first | simp only [add_plain] at hx220_0 | skip); obtain ⟨hx35_0, hf35_0⟩ := Kd.R_celln 0 HO219.out ((ji32) : Int) p35 q35; replace p35 := eq_true p35; replace q35 := eq_true q35; obtain ⟨hy85_, hz85_⟩ := Kd.R_celln 0 HO219.out ((ji32) : Int) (of_decide_eq_true (by first | (with_reducible assumption) | assumption)) (of_decide_eq_true (by first | (with_reducible assumption) | assumption)); have HP85 := Kd.R_putg HO219.out ((ji32) : Int) (Go.bits .xor .u8 (rd y217 (ji32)) a3)) | ((with_reducible refine gate_store (t := 5) (p := 76) rfl ?_); refine store_event (t := 5) (p := 76) (v := ?vo_w86) (w1 := (w82.setCell ⟨go35, ((ji32) : Int).toNat, none⟩ (.int .u8 (Go.bits .xor .u8 (rd y217 (ji32)) a3)))) ?hg ?ho ?hn ?hr ?_; (case ho => rfl); (case hg => rfl); (case hn => rfl); (case hr => first | (go_simp; done) | (go_simp; rfl)); intro w86 hw; have hg : w82.grownBy w86 (some go35) := (by rw [hw]; exact HP85.2); have hp_ : Kd.R (Kd.int .u8) 5 w86 w.heap.size (fun k_ => some k_ ≠ (.slice Ao83 t192.length co83 : Value).ownBlock) (.slice (some ⟨go35, 0, none⟩) y217.length co84) y221 := (by rw [hw, Ny221.out]; exact HP85.1); clear HP85; have n0_ := aM (Kd.N_afterv (v := (.slice (some ⟨go35, 0, none⟩) y217.length co84)) (v1 := (.slice (some ⟨go35, 0, none⟩) y217.length co84)) (ok := (fun k_ => some k_ ≠ (.slice Ao83 t192.length co83 : Value).ownBlock)) (by (with_reducible repeat (first | apply Kd.N_alloc | apply Kd.N_drewN | apply Kd.N_drew)); exact HO_9.out) hg (.inl rfl)); have n1_ := aM (Kd.R_after (v := (.slice (some ⟨go35, 0, none⟩) y217.length co84)) (v1 := (.slice (some ⟨go35, 0, none⟩) y217.length co84)) (ok := (fun _ => True)) (by (with_reducible repeat (first | apply rA | apply rN | apply rD)); exact HO_12.out) hg (.inl rfl)); have n2_ := aM (hp_); have n3_ := aM ((by rw [hw]; exact below_set (HB.out) GB35.out : Below w.heap.size w w86)); clear HO_9; clear HO_12; clear HO219; clear HB; have HO_9 := n0_; have HO_12 := n1_; have HO219 := n2_; have HB := n3_; clear n0_ n1_ n2_ n3_; clear hg hw hp_; obtain ⟨Ao87, co87, eo87⟩ := Kd.N_slice HO_9.out; subst eo87; have p222 : 0 ≤ ((ji36) : Int) := of_decide_eq_true (by first | (with_reducible assumption) | assumption); have q222 : (ji36) < (x9_2.length : Int) := of_decide_eq_true (by first | (with_reducible assumption) | assumption); obtain ⟨ad222, A222_0, c222_0, e222, hx222_0, hl222_0, hi222_0⟩ := at_L1 (Kd.N_reads' HO_9.out).2.2 (ji36) p222 q222; cases e222; obtain ⟨ce222, hce222, hMe222, hcc222⟩ := Kd.N_get HO_9.out [] (ji36) p222 (by first | exact q222 | exact of_decide_eq_true (by first | (with_reducible assumption) | assumption) | (have e_ := (Kd.N_reads' HO_9.out).1; omega)); obtain ⟨ua222_0, uc222_0, rfl, ul222_0, ge222_0⟩ := Kd.FK_slice_open hMe222; have hv222_0 := hcc222 0 _ rfl; rw [Nat.add_zero, show ((Kd.slice 5 (Kd.int .u8))).sz = 1 from rfl, Nat.mul_one] at hv222_0; replace hv222_0 := Option.some.inj (hv222_0.symm.trans hx222_0); injection hv222_0 with hva_ hvn_ hvc_; rw [hva_] at ge222_0; rw [hvc_] at ul222_0; have HL222_0 := aM (show Kd.V (Kd.int .u8) 5 _ w.heap.size _ _ (rd_L1 x9_2 (ji36)) from Kd.V_mk ul222_0 ge222_0); clear hva_ hvn_ hvc_ ge222_0 ul222_0; clear hcc222 hce222; have HR222_0 := aM hi222_0; have HC222_0 := aM hl222_0; clear hi222_0 hl222_0; replace p222 := eq_true p222; replace q222 := eq_true q222; have p39 : 0 ≤ ((ji36) : Int) := of_decide_eq_true (by first | (with_reducible assumption) | assumption); have q39 : ((ji36) : Int) < ((x9_2.length : Int) : Int) := of_decide_eq_true (by first | (with_reducible assumption) | assumption); obtain ⟨go39, co39, eo39, gb39, gl39, cl39, HG39⟩ := Kd.N_form HO_9.out (by omega); (first | cases eo39 | (injection eo39 with ea_ en_ ec_; (first | subst ea_ | (injection ea_ with ea_; subst ea_)); subst ec_; clear en_)); have GB39 := aM gb39; have GG39 := aM HG39; clear gb39 gl39 HG39; (first | simp only [add_plain] at hx222_0 | skip); obtain ⟨ce39, hcl39, hM39, hcc39, hfr39⟩ := Kd.N_elem HO_9.out [] ((ji36) : Int) p39 q39; obtain ⟨ua39_0, uc39_0, rfl, ul39_0, ge39_0⟩ := Kd.FK_slice_open hM39; have hx39_0 := hcc39 0 _ rfl; have hf39_0 := hfr39 0; (try simp only [show ((Kd.slice 5 (Kd.int .u8))).sz = 1 from rfl, Nat.mul_one, Nat.add_zero] at hx39_0); (try simp only [show ((Kd.slice 5 (Kd.int .u8))).sz = 1 from rfl, Nat.mul_one, Nat.add_zero] at hf39_0); clear hcl39 hcc39 hfr39 hM39; replace p39 := eq_true p39; replace q39 := eq_true q39; have HX88 := aM (show Kd.N (Kd.slice 5 (Kd.int .u8)) 22 w86 w.heap.size (fun k_ => some k_ ≠ (.slice Ao83 t192.length co83 : Value).ownBlock) (.slice (some ⟨go39, 0, none⟩) x9_2.length co87) x9_2 from (by (with_reducible repeat (first | apply Kd.N_alloc | apply Kd.N_drewN | apply Kd.N_drew)); exact Kd.N_mono HO_9.out (fun _ hk => hk.1))); obtain ⟨ce88, hcl88, hM88, hcc88, hfr88⟩ := Kd.N_elem HX88.out [] ((ji36) : Int) (of_decide_eq_true (by first | (with_reducible assumption) | assumption)) (by have h_ : ((ji36) : Int) < ((x9_2.length : Int) : Int) := of_decide_eq_true (by first | (with_reducible assumption) | assumption); first | exact h_ | (have e_ := (Kd.N_reads' HO_9.out).1; omega) | simpa using h_); obtain ⟨ua88_0, uc88_0, rfl, ul88_0, ge88_0⟩ := Kd.FK_slice_open hM88; have HP88 := Kd.N_seg HX88.out ((ji36) : Int) (of_decide_eq_true (by first | (with_reducible assumption) | assumption)) (by have h_ : ((ji36) : Int) < ((x9_2.length : Int) : Int) := of_decide_eq_true (by first | (with_reducible assumption) | assumption); first | exact h_ | (have e_ := (Kd.N_reads' HO_9.out).1; omega) | simpa using h_) (seg := [.slice (some ⟨go35, 0, none⟩) y217.length co84]) (j := 0) hcl88 hcc88 (show 1 ≤ 1 from by decide) (x' := y221) (Short.fkR (Kd.R_mono (ok' := (fun k_ => ((fun k_ => some k_ ≠ (.slice Ao83 t192.length co83 : Value).ownBlock)) k_ ∧ k_ ≠ go39)) (Kd.R_apart' (HO219.out) (Kd.N_typed HO_9.out) (by decide)) (fun k_ hk => ⟨hk.1, fun e_ => (hk.2) (by rw [e_]; rfl)⟩))) (fun _ hk => hk); have hx88_0 := hcc88 0 _ rfl; (try simp only [show ((Kd.slice 5 (Kd.int .u8))).sz = 1 from rfl, Nat.mul_one, Nat.add_zero] at hx88_0); have hf88_0 := hfr88 0; (try simp only [show ((Kd.slice 5 (Kd.int .u8))).sz = 1 from rfl, Nat.mul_one, Nat.add_zero] at hf88_0); clear hcl88 hcc88 hfr88 hM88; (try simp only [show ((Kd.slice 5 (Kd.int .u8))).sz = 1 from rfl, Nat.mul_one, Nat.add_zero] at HP88); (try simp only [show ((Kd.slice 5 (Kd.int .u8))).sz = 1 from rfl, Nat.mul_one, Nat.add_zero] at HP88)) | ((with_reducible refine gate_store (t := 22) (p := 86) rfl ?_); refine store_event (t := 22) (p := 86) (v := ?vo_w89) (w1 := (w86.setCell ⟨go39, ((ji36) : Int).toNat, none⟩ (.slice (some ⟨go35, 0, none⟩) y217.length co84))) ?hg ?ho ?hn ?hr ?_; (case ho => rfl); (case hg => rfl); (case hn => rfl); (case hr => first | (go_simp; done) | (go_simp; rfl)); intro w89 hw; have hg : w86.grownBy w89 (some go39) := (by rw [hw]; exact HP88.2); have hp_ : Kd.N (Kd.slice 5 (Kd.int .u8)) 22 w89 w.heap.size (fun k_ => some k_ ≠ (.slice Ao83 t192.length co83 : Value).ownBlock) (.slice (some ⟨go39, 0, none⟩) x9_2.length co87) y223 := (by rw [hw, Ny223.out]; exact HP88.1); clear HP88; have n0_ := aM (hp_); have n1_ := aM (Kd.R_over' (v := (.slice (some ⟨go39, 0, none⟩) x9_2.length co87)) (by (with_reducible repeat (first | apply rA | apply rN | apply rD)); exact HO_12.out) (Kd.N_typed HO_9.out) (by decide) hg); have n2_ := aM (Kd.V_afterv (v := (.slice (some ⟨go39, 0, none⟩) x9_2.length co87)) (v1 := (.slice (some ⟨go39, 0, none⟩) x9_2.length co87)) (ok := (fun k_ => some k_ ≠ (.slice Ao83 t192.length co83 : Value).ownBlock ∧ some k_ ≠ (.slice (some ⟨go35, 0, none⟩) y217.length co84 : Value).ownBlock)) (by (with_reducible repeat (first | apply Kd.V_alloc | apply Kd.V_drewN | apply Kd.V_drew)); exact HL222_0.out) hg (.inl rfl)); have n3_ := aM ((by rw [hw]; exact below_set (HB.out) GB39.out : Below w.heap.size w w89)); clear HO_9; clear HO_12; clear HL222_0; clear HB; clear HO219; have HO_9 := n0_; have HO_12 := n1_; have HL222_0 := n2_; have HB := n3_; clear n0_ n1_ n2_ n3_; clear hg hw hp_))
                              (have n0_ := aM (Kd.N_drew HO_9.out)); (have n1_ := aM (Kd.R_drew HO_12.out)); (have n2_ := aM (Kd.V_drew HL222_0.out)); (have n3_ := aM (below_drew1 HB.out)); clear HO_9; clear HO_12; clear HL222_0; clear HB; (have HO_9 := n0_); (have HO_12 := n1_); (have HL222_0 := n2_); (have HB := n3_); clear n0_ n1_ n2_ n3_; (have p224 : 0 ≤ (0 : Int) := (by omega)); (have q224 : 0 < (y223.length : Int) := (by have h_ : (0 : Int) < ((x9_2.length : Int) : Int) := of_decide_eq_true (by first | (with_reducible assumption) | assumption); first | (have e_ := (Kd.N_reads' HO_9.out).1; omega) | simpa only [Ny223.out, List.length_set] using h_)); (have ql224 : ((0 : Int) < ((x9_2.length : Int) : Int)) = True := eq_true (of_decide_eq_true (by first | (with_reducible assumption) | assumption)))
                              (try have qn224 : (0 < x9_2.length) = True := eq_true (by have h_ : (0 : Int) < ((x9_2.length : Int) : Int) := of_decide_eq_true (by first | (with_reducible assumption) | assumption); omega))
                              (obtain ⟨ad224, A224_0, c224_0, e224, hx224_0, hl224_0, hi224_0⟩ := at_L1 (Kd.N_reads' HO_9.out).2.2 0 p224 q224); (obtain rfl : (⟨go39, 0, none⟩ : Addr) = ad224 := (by injection e224)); (obtain ⟨ce224, hce224, hMe224, hcc224⟩ := Kd.N_get HO_9.out [] 0 p224 (by first | exact q224 | exact of_decide_eq_true (by first | (with_reducible assumption) | assumption) | (have e_ := (Kd.N_reads' HO_9.out).1; omega))); (obtain ⟨ua224_0, uc224_0, rfl, ul224_0, ge224_0⟩ := Kd.FK_slice_open hMe224); (have hv224_0 := hcc224 0 _ rfl); (rw [Nat.add_zero, show ((Kd.slice 5 (Kd.int .u8))).sz = 1 from rfl, Nat.mul_one] at hv224_0); (replace hv224_0 := Option.some.inj (hv224_0.symm.trans hx224_0))
                              injection hv224_0 with hva_ hvn_ hvc_
                              (rw [hva_] at ge224_0); (rw [hvc_] at ul224_0); (have HL224_0 := aM (show Kd.V (Kd.int .u8) 5 _ w.heap.size _ _ (rd_L1 y223 0) from Kd.V_mk ul224_0 ge224_0)); clear hva_ hvn_ hvc_ ge224_0 ul224_0; clear hcc224 hce224
                              (first | simp only [add_plain] at hx224_0 | simp only [add_at] at hx224_0 | simp only [Addr.add, Nat.zero_add] at hx224_0 | skip)
                              have qi224 : (0 < y223.length) = True := eq_true (by omega)
                              (try rw [show ((0 : Int)).toNat = 0 from rfl] at hx224_0)
                              (try rw [Addr.add_zero'] at hx224_0)
                              (have HR224_0 := aM hi224_0); (have HC224_0 := aM hl224_0); clear hi224_0 hl224_0; (replace p224 := eq_true p224); (replace q224 := eq_true q224); (have p225 : 0 ≤ (1 : Int) := (by omega)); (have q225 : 1 < (y223.length : Int) := (by have h_ : (1 : Int) < ((x9_2.length : Int) : Int) := of_decide_eq_true (by first | (with_reducible assumption) | assumption); first | (have e_ := (Kd.N_reads' HO_9.out).1; omega) | simpa only [Ny223.out, List.length_set] using h_)); (have ql225 : ((1 : Int) < ((x9_2.length : Int) : Int)) = True := eq_true (of_decide_eq_true (by first | (with_reducible assumption) | assumption)))
                              (try have qn225 : (1 < x9_2.length) = True := eq_true (by have h_ : (1 : Int) < ((x9_2.length : Int) : Int) := of_decide_eq_true (by first | (with_reducible assumption) | assumption); omega))
                              (obtain ⟨ad225, A225_0, c225_0, e225, hx225_0, hl225_0, hi225_0⟩ := at_L1 (Kd.N_reads' HO_9.out).2.2 1 p225 q225); (obtain rfl : (⟨go39, 0, none⟩ : Addr) = ad225 := (by injection e225)); (obtain ⟨ce225, hce225, hMe225, hcc225⟩ := Kd.N_get HO_9.out [] 1 p225 (by first | exact q225 | exact of_decide_eq_true (by first | (with_reducible assumption) | assumption) | (have e_ := (Kd.N_reads' HO_9.out).1; omega))); (obtain ⟨ua225_0, uc225_0, rfl, ul225_0, ge225_0⟩ := Kd.FK_slice_open hMe225); (have hv225_0 := hcc225 0 _ rfl); (rw [Nat.add_zero, show ((Kd.slice 5 (Kd.int .u8))).sz = 1 from rfl, Nat.mul_one] at hv225_0); (replace hv225_0 := Option.some.inj (hv225_0.symm.trans hx225_0))
                              injection hv225_0 with hva_ hvn_ hvc_
                              (rw [hva_] at ge225_0); (rw [hvc_] at ul225_0); (have HL225_0 := aM (show Kd.V (Kd.int .u8) 5 _ w.heap.size _ _ (rd_L1 y223 1) from Kd.V_mk ul225_0 ge225_0)); clear hva_ hvn_ hvc_ ge225_0 ul225_0; clear hcc225 hce225
                              (first | simp only [add_plain] at hx225_0 | simp only [add_at] at hx225_0 | simp only [Addr.add, Nat.zero_add] at hx225_0 | skip)
                              have qi225 : (1 < y223.length) = True := eq_true (by omega)
                              (try rw [show ((1 : Int)).toNat = 1 from rfl] at hx225_0)
                              (have HR225_0 := aM hi225_0); (have HC225_0 := aM hl225_0); clear hi225_0 hl225_0; (replace p225 := eq_true p225); (replace q225 := eq_true q225)
                              refine start_ (n := 16) (S := fun w' => w'.cell? ⟨go39, 0, none⟩ = some (.slice A224_0 (rd_L1 y223 0).length c224_0) ∧ w'.cell? ⟨go39, 1, none⟩ = some (.slice A225_0 (rd_L1 y223 1).length c225_0)) (ds := []) #[F, F, F, F, F, F, F, F, F, F, F, F, F, F, F, F] (by kernel_rfl) rfl rfl ⟨hx224_0, hx225_0⟩ (fun hHeld => ?_); refine with_tabW pandectlaw4_SlotTurns.tab19 pandectlaw4_SlotTurns.bits19 (fun HT_ HW_ => ?_)
                              generalize w89.drew = w90 at HO_9 HO_12 HL222_0 HB HL224_0 HL225_0 HR224_0 HR225_0 hx224_0 hx225_0 hHeld ⊢
                              refine pure_ (i := 0) (N := some 88) (v := ?_) (a' := ?_) #[T, F, F, F, F, F, F, F, F, F, F, F, F, F, F, F] rfl rfl (any_of HT_.out (by kernel_rfl)) (fun _ _ _ h => h) (Or.inl ⟨by rfl, ?_⟩) ?_ ?_
                              rotate_left
                              ·
                               intro w'
                               go_simp
                               with_reducible rfl
                              rotate_left
                              ·
                               simp only [Act.put, List.setIfInBounds_toArray, List.set_cons_zero, List.set_cons_succ, i64_w, i32_w]
                               rfl
                              refine pure_ (i := 1) (N := some 89) (v := ?_) (a' := ?_) #[T, T, F, F, F, F, F, F, F, F, F, F, F, F, F, F] rfl rfl (any_of HT_.out (by kernel_rfl)) (fun _ _ _ h => h) (Or.inl ⟨by rfl, ?_⟩) ?_ ?_
                              rotate_left
                              ·
                               intro w'
                               go_simp
                               with_reducible rfl
                              rotate_left
                              ·
                               simp only [Act.put, List.setIfInBounds_toArray, List.set_cons_zero, List.set_cons_succ, i64_w, i32_w]
                               rfl
                              refine pure_ (i := 3) (N := some 91) (v := ?_) (a' := ?_) #[T, T, F, T, F, F, F, F, F, F, F, F, F, F, F, F] rfl rfl (any_of HT_.out (by kernel_rfl)) (fun _ _ _ h => h) (Or.inl ⟨by rfl, ?_⟩) ?_ ?_
                              rotate_left
                              ·
                               intro w'
                               go_simp
                               with_reducible rfl
                              rotate_left
                              ·
                               simp only [Act.put, List.setIfInBounds_toArray, List.set_cons_zero, List.set_cons_succ, i64_w, i32_w]
                               rfl
                              refine pure_ (i := 4) (N := some 92) (v := ?_) (a' := ?_) #[T, T, F, T, T, F, F, F, F, F, F, F, F, F, F, F] rfl rfl (any_of HT_.out (by kernel_rfl)) (fun _ _ _ h => h) (Or.inl ⟨by rfl, ?_⟩) ?_ ?_
                              rotate_left
                              ·
                               intro w'
                               go_simp
                               with_reducible rfl
                              rotate_left
                              ·
                               simp only [Act.put, List.setIfInBounds_toArray, List.set_cons_zero, List.set_cons_succ, i64_w, i32_w]
                               rfl
                              refine take_ (i := 2) (N := some 90) (v := ?_) (a' := ?_) #[T, T, T, T, T, F, F, F, F, F, F, F, F, F, F, F] rfl rfl (take_ofW HT_.out HW_.out (by kernel_rfl)) (fun _ _ _ h => h) (Or.inl ⟨by rfl, ?_⟩) hHeld ?_ ?_
                              rotate_left
                              ·
                               rintro w' ⟨s0, s1⟩
                               go_simp
                               with_reducible rfl
                              rotate_left
                              ·
                               simp only [Act.put, List.setIfInBounds_toArray, List.set_cons_zero, List.set_cons_succ, i64_w, i32_w]
                               rfl
                              refine take_ (i := 5) (N := some 93) (v := ?_) (a' := ?_) #[T, T, T, T, T, T, F, F, F, F, F, F, F, F, F, F] rfl rfl (take_ofW HT_.out HW_.out (by kernel_rfl)) (fun _ _ _ h => h) (Or.inl ⟨by rfl, ?_⟩) hHeld ?_ ?_
                              rotate_left
                              ·
                               rintro w' ⟨s0, s1⟩
                               go_simp
                               with_reducible rfl
                              rotate_left
                              ·
                               simp only [Act.put, List.setIfInBounds_toArray, List.set_cons_zero, List.set_cons_succ, i64_w, i32_w]
                               rfl
                              refine one_ (i := 6) (N := some 94) #[T, T, T, T, T, T, T, F, F, F, F, F, F, F, F, F] rfl rfl (one_of HT_.out (by kernel_rfl)) (by decide) (fun K hK => ?_)
                              refine goes_ Try.func38 (by kernel_rfl) rfl #[.slice A224_0 (rd_L1 y223 0).length c224_0, .slice A225_0 (rd_L1 y223 1).length c225_0] (by rfl) rfl rfl (by (try simp only [List.map_toArray, List.map_cons, List.map_nil]); first | done | rfl | (simp only [List.length_drop, List.length_take]; rfl)) ?_
                              with_reducible refine (slot_Better.calls kj25 _ _ (rd_L1 y223 0) _ _ (rd_L1 y223 1) t226 t227 t228 t229 _ ?side1 ?side2 ?side3 ?side4 A42.out).mono ?_
                              (case side1 => repeat (first | exact (by repeat (first | (with_reducible exact HR224_0.out) | (with_reducible refine Kd.C_alloc ?_ _) | (with_reducible refine Kd.C_drewN ?_ _) | (with_reducible refine Kd.C_drew ?_) | exact HR224_0.out)) | (with_reducible refine Kd.C_alloc ?_ _) | (with_reducible refine Kd.C_drewN ?_ _) | (with_reducible refine Kd.C_drew ?_)))
                              (case side2 => exact HC224_0.out)
                              (case side3 => repeat (first | exact (by repeat (first | (with_reducible exact HR225_0.out) | (with_reducible refine Kd.C_alloc ?_ _) | (with_reducible refine Kd.C_drewN ?_ _) | (with_reducible refine Kd.C_drew ?_) | exact HR225_0.out)) | (with_reducible refine Kd.C_alloc ?_ _) | (with_reducible refine Kd.C_drewN ?_ _) | (with_reducible refine Kd.C_drew ?_)))
                              (case side4 => exact HC225_0.out)
                              rintro e w91 ⟨v230, rfl, ho0, hb⟩
                              (have HS0_ := (hb.cell (World.block_lt_of_cell? _ _ (hHeld.1))).trans (hHeld.1)); (have HS1_ := (hb.cell (World.block_lt_of_cell? _ _ (hHeld.2))).trans (hHeld.2))
                              refine ⟨_, rfl, ?_⟩
                              (have n0_ := aM (Kd.N_elder' (by (with_reducible repeat (first | apply Kd.N_alloc | apply Kd.N_drewN | apply Kd.N_drew)); exact HO_9.out) (Kd.R_base ho0) hb)); (have n1_ := aM (Kd.R_elder' (by (with_reducible repeat (first | apply rA | apply rN | apply rD)); exact HO_12.out) (Kd.R_base ho0) hb)); (have n2_ := aM (Kd.V_elder' (by (with_reducible repeat (first | apply Kd.V_alloc | apply Kd.V_drewN | apply Kd.V_drew)); exact HL222_0.out) (Kd.R_base ho0) hb)); (have n3_ := aM (Kd.V_elder' (by (with_reducible repeat (first | apply Kd.V_alloc | apply Kd.V_drewN | apply Kd.V_drew)); exact HL224_0.out) (Kd.R_base ho0) hb)); (have n4_ := aM (Kd.V_elder' (by (with_reducible repeat (first | apply Kd.V_alloc | apply Kd.V_drewN | apply Kd.V_drew)); exact HL225_0.out) (Kd.R_base ho0) hb)); (have n5_ := aM (Kd.R_lower (Kd.R_new' ho0 (Kd.R_lt (by (with_reducible repeat (first | apply rA | apply rN | apply rD)); exact HO_12.out))) (below_size (by repeat (first | (with_reducible first | exact HB.out | apply bA | apply bN | apply bD) | exact HB.out))))); (have n6_ := aM (Kd.C_below (by repeat (first | (with_reducible exact HR224_0.out) | (with_reducible refine Kd.C_alloc ?_ _) | (with_reducible refine Kd.C_drewN ?_ _) | (with_reducible refine Kd.C_drew ?_) | exact HR224_0.out)) hb)); (have n7_ := aM (Kd.C_below (by repeat (first | (with_reducible exact HR225_0.out) | (with_reducible refine Kd.C_alloc ?_ _) | (with_reducible refine Kd.C_drewN ?_ _) | (with_reducible refine Kd.C_drew ?_) | exact HR225_0.out)) hb)); (have n8_ := aM (below_step (by repeat (first | (with_reducible first | exact HB.out | apply bA | apply bN | apply bD) | exact HB.out)) hb)); clear HO_9; clear HO_12; clear HL222_0; clear HL224_0; clear HL225_0; clear HR224_0; clear HR225_0; clear HB; (have HO_9 := n0_); (have HO_12 := n1_); (have HL222_0 := n2_); (have HL224_0 := n3_); (have HL225_0 := n4_); (have HO231 := n5_); (have HR224_0 := n6_); (have HR225_0 := n7_); (have HB := n8_); clear n0_ n1_ n2_ n3_ n4_ n5_ n6_ n7_ n8_
                              (try clear hb)
                              (try clear hb2)
                              (try clear hk)
                              (try clear hi)
                              (try clear ho0)
                              refine hK.out _ _ ⟨HS0_, HS1_⟩ (fun hHeld => ?_)
                              clear hK K
                              refine norm_ (a' := ?_) ?_ ?_
                              rotate_left
                              ·
                               show Act.put _ (some 94) _ = _
                               simp only [Act.put, List.setIfInBounds_toArray, List.set_cons_zero, List.set_cons_succ, i64_w, i32_w]
                               rfl
                              refine pure_ (i := 7) (N := some 87) (v := ?_) (a' := ?_) #[T, T, T, T, T, T, T, T, F, F, F, F, F, F, F, F] rfl rfl (any_of HT_.out (by kernel_rfl)) (fun _ _ _ h => h) (Or.inl ⟨by rfl, ?_⟩) ?_ ?_
                              rotate_left
                              ·
                               intro w'
                               go_simp
                               with_reducible rfl
                              rotate_left
                              ·
                               simp only [Act.put, List.setIfInBounds_toArray, List.set_cons_zero, List.set_cons_succ, i64_w, i32_w]
                               rfl
                              refine pure_ (i := 8) (N := some 95) (v := ?_) (a' := ?_) #[T, T, T, T, T, T, T, T, T, F, F, F, F, F, F, F] rfl rfl (any_of HT_.out (by kernel_rfl)) (fun _ _ _ h => h) (Or.inl ⟨by rfl, ?_⟩) ?_ ?_
                              rotate_left
                              ·
                               intro w'
                               go_simp
                               with_reducible rfl
                              rotate_left
                              ·
                               simp only [Act.put, List.setIfInBounds_toArray, List.set_cons_zero, List.set_cons_succ, i64_w, i32_w]
                               rfl
                              refine pure_ (i := 9) (N := some 96) (v := ?_) (a' := ?_) #[T, T, T, T, T, T, T, T, T, T, F, F, F, F, F, F] rfl rfl (any_of HT_.out (by kernel_rfl)) (fun _ _ _ h => h) (Or.inl ⟨by rfl, ?_⟩) ?_ ?_
                              rotate_left
                              ·
                               intro w'
                               go_simp
                               with_reducible rfl
                              rotate_left
                              ·
                               simp only [Act.put, List.setIfInBounds_toArray, List.set_cons_zero, List.set_cons_succ, i64_w, i32_w]
                               rfl
                              refine pure_ (i := 10) (N := some 97) (v := ?_) (a' := ?_) #[T, T, T, T, T, T, T, T, T, T, T, F, F, F, F, F] rfl rfl (any_of HT_.out (by kernel_rfl)) (fun _ _ _ h => h) (Or.inl ⟨by rfl, ?_⟩) ?_ ?_
                              rotate_left
                              ·
                               intro w'
                               go_simp
                               with_reducible rfl
                              rotate_left
                              ·
                               simp only [Act.put, List.setIfInBounds_toArray, List.set_cons_zero, List.set_cons_succ, i64_w, i32_w]
                               rfl
                              refine pure_ (i := 11) (N := some 98) (v := ?_) (a' := ?_) #[T, T, T, T, T, T, T, T, T, T, T, T, F, F, F, F] rfl rfl (any_of HT_.out (by kernel_rfl)) (fun _ _ _ h => h) (Or.inl ⟨by rfl, ?_⟩) ?_ ?_
                              rotate_left
                              ·
                               intro w'
                               go_simp
                               with_reducible rfl
                              rotate_left
                              ·
                               simp only [Act.put, List.setIfInBounds_toArray, List.set_cons_zero, List.set_cons_succ, i64_w, i32_w]
                               rfl
                              refine pure_ (i := 12) (N := some 16) (v := ?_) (a' := ?_) #[T, T, T, T, T, T, T, T, T, T, T, T, T, F, F, F] rfl rfl (any_of HT_.out (by kernel_rfl)) (fun _ _ _ h => h) (Or.inl ⟨by rfl, ?_⟩) ?_ ?_
                              rotate_left
                              ·
                               intro w'
                               go_simp
                               with_reducible rfl
                              rotate_left
                              ·
                               simp only [Act.put, List.setIfInBounds_toArray, List.set_cons_zero, List.set_cons_succ, i64_w, i32_w]
                               rfl
                              refine pure_ (i := 13) (N := some 17) (v := ?_) (a' := ?_) #[T, T, T, T, T, T, T, T, T, T, T, T, T, T, F, F] rfl rfl (any_of HT_.out (by kernel_rfl)) (fun _ _ _ h => h) (Or.inl ⟨by rfl, ?_⟩) ?_ ?_
                              rotate_left
                              ·
                               intro w'
                               go_simp
                               with_reducible rfl
                              rotate_left
                              ·
                               simp only [Act.put, List.setIfInBounds_toArray, List.set_cons_zero, List.set_cons_succ, i64_w, i32_w]
                               rfl
                              refine pure_ (i := 14) (N := some 18) (v := ?_) (a' := ?_) #[T, T, T, T, T, T, T, T, T, T, T, T, T, T, T, F] rfl rfl (any_of HT_.out (by kernel_rfl)) (fun _ _ _ h => h) (Or.inl ⟨by rfl, ?_⟩) ?_ ?_
                              rotate_left
                              ·
                               intro w'
                               go_simp
                               with_reducible rfl
                              rotate_left
                              ·
                               simp only [Act.put, List.setIfInBounds_toArray, List.set_cons_zero, List.set_cons_succ, i64_w, i32_w]
                               rfl
                              refine pure_ (i := 15) (N := some 19) (v := ?_) (a' := ?_) #[T, T, T, T, T, T, T, T, T, T, T, T, T, T, T, T] rfl rfl (any_of HT_.out (by kernel_rfl)) (fun _ _ _ h => h) (Or.inl ⟨by rfl, ?_⟩) ?_ ?_
                              rotate_left
                              ·
                               intro w'
                               go_simp
                               with_reducible rfl
                              rotate_left
                              ·
                               simp only [Act.put, List.setIfInBounds_toArray, List.set_cons_zero, List.set_cons_succ, i64_w, i32_w]
                               rfl
                              refine done_ (done_of HT_.out (by kernel_rfl)) ?_
                              try go_wp2
                              (have n0_ := aM (Kd.N_drew HO_9.out)); (have n1_ := aM (Kd.R_drew HO_12.out)); (have n2_ := aM (Kd.V_drew HL222_0.out)); (have n3_ := aM (Kd.V_drew HL224_0.out)); (have n4_ := aM (Kd.V_drew HL225_0.out)); (have n5_ := aM (Kd.R_drew HO231.out)); (have n6_ := aM (Kd.C_drew HR224_0.out)); (have n7_ := aM (Kd.C_drew HR225_0.out)); (have n8_ := aM (below_drew1 HB.out)); clear HO_9; clear HO_12; clear HL222_0; clear HL224_0; clear HL225_0; clear HO231; clear HR224_0; clear HR225_0; clear HB; (have HO_9 := n0_); (have HO_12 := n1_); (have HL222_0 := n2_); (have HL224_0 := n3_); (have HL225_0 := n4_); (have HO231 := n5_); (have HR224_0 := n6_); (have HR225_0 := n7_); (have HB := n8_); clear n0_ n1_ n2_ n3_ n4_ n5_ n6_ n7_ n8_; (have p235 : 0 ≤ (x10_2 : Int) := of_decide_eq_true (by first | (with_reducible assumption) | assumption)); (have q235 : x10_2 < (l1.length : Int) := of_decide_eq_true (by first | (with_reducible assumption) | assumption)); (obtain ⟨ad235, A235_0, c235_0, e235, hx235_0, hl235_0, hi235_0⟩ := at_L1 HR1.out x10_2 p235 q235); (have hw235_0 := hx235_0); (obtain rfl : ad185 = ad235 := (by injection e235)); (replace hx235_0 := (HB.out.cell (World.block_lt_of_cell? w _ hx235_0)).trans hx235_0); (have HR235_0 := aM hi235_0); (have HC235_0 := aM hl235_0); clear hi235_0 hl235_0; (replace p235 := eq_true p235); (replace q235 := eq_true q235); (have hcv93 := own_string (P := Try.prog) Try.underlying22 Try.underlying5 Try.underlying9 (Kd.own_of_R HO231.out)); (have hcv94 := fun nd_ : Nat => own_string (P := Try.prog) Try.underlying22 Try.underlying5 Try.underlying9 (Kd.own_of_R (Kd.R_drewN HO231.out nd_))); (have hcv95 := Kd.C_string (P := Try.prog) (A := A235_0) (c := c235_0) Try.underlying22 Try.underlying5 Try.underlying9 (Kd.C_below HR235_0.out HB.out))
                              refine start_ (n := 24) (S := fun w' => w' = w91.drew) (ds := []) #[F, F, F, F, F, F, F, F, F, F, F, F, F, F, F, F, F, F, F, F, F, F, F, F] (by kernel_rfl) rfl rfl rfl (fun hHeld => ?_); refine with_tabW pandectlaw4_SlotTurns.tab24 pandectlaw4_SlotTurns.bits24 (fun HT_ HW_ => ?_)
                              generalize w91.drew = w92 at HO_9 HO_12 HL222_0 HL224_0 HL225_0 HO231 HR224_0 HR225_0 HB HR235_0 hx235_0 hHeld hcv93 hcv94 hcv95 ⊢
                              refine pure_ (i := 0) (N := some 114) (v := ?_) (a' := ?_) #[T, F, F, F, F, F, F, F, F, F, F, F, F, F, F, F, F, F, F, F, F, F, F, F] rfl rfl (any_of HT_.out (by kernel_rfl)) (fun _ _ _ h => h) (Or.inl ⟨by rfl, ?_⟩) ?_ ?_
                              rotate_left
                              ·
                               intro w'
                               go_simp
                               with_reducible rfl
                              rotate_left
                              ·
                               simp only [Act.put, List.setIfInBounds_toArray, List.set_cons_zero, List.set_cons_succ, i64_w, i32_w]
                               rfl
                              refine pure_ (i := 1) (N := some 115) (v := ?_) (a' := ?_) #[T, T, F, F, F, F, F, F, F, F, F, F, F, F, F, F, F, F, F, F, F, F, F, F] rfl rfl (any_of HT_.out (by kernel_rfl)) (fun _ _ _ h => h) (Or.inl ⟨by rfl, ?_⟩) ?_ ?_
                              rotate_left
                              ·
                               intro w'
                               go_simp
                               with_reducible rfl
                              rotate_left
                              ·
                               simp only [Act.put, List.setIfInBounds_toArray, List.set_cons_zero, List.set_cons_succ, i64_w, i32_w]
                               rfl
                              refine pure_ (i := 2) (N := some 116) (v := ?_) (a' := ?_) #[T, T, T, F, F, F, F, F, F, F, F, F, F, F, F, F, F, F, F, F, F, F, F, F] rfl rfl (any_of HT_.out (by kernel_rfl)) (fun _ _ _ h => h) (Or.inl ⟨by rfl, ?_⟩) ?_ ?_
                              rotate_left
                              ·
                               intro w'
                               go_simp
                               with_reducible rfl
                              rotate_left
                              ·
                               simp only [Act.put, List.setIfInBounds_toArray, List.set_cons_zero, List.set_cons_succ, i64_w, i32_w]
                               rfl
                              refine pure_ (i := 3) (N := some 117) (v := ?_) (a' := ?_) #[T, T, T, T, F, F, F, F, F, F, F, F, F, F, F, F, F, F, F, F, F, F, F, F] rfl rfl (any_of HT_.out (by kernel_rfl)) (fun _ _ _ h => h) (Or.inl ⟨by rfl, ?_⟩) ?_ ?_
                              rotate_left
                              ·
                               intro w'
                               go_simp
                               with_reducible rfl
                              rotate_left
                              ·
                               simp only [Act.put, List.setIfInBounds_toArray, List.set_cons_zero, List.set_cons_succ, i64_w, i32_w]
                               rfl
                              refine pure_ (i := 4) (N := some 118) (v := ?_) (a' := ?_) #[T, T, T, T, T, F, F, F, F, F, F, F, F, F, F, F, F, F, F, F, F, F, F, F] rfl rfl (any_of HT_.out (by kernel_rfl)) (fun _ _ _ h => h) (Or.inl ⟨by rfl, ?_⟩) ?_ ?_
                              rotate_left
                              ·
                               intro w'
                               go_simp
                               with_reducible rfl
                              rotate_left
                              ·
                               simp only [Act.put, List.setIfInBounds_toArray, List.set_cons_zero, List.set_cons_succ, i64_w, i32_w]
                               rfl
                              refine pure_ (i := 5) (N := some 119) (v := ?_) (a' := ?_) #[T, T, T, T, T, T, F, F, F, F, F, F, F, F, F, F, F, F, F, F, F, F, F, F] rfl rfl (any_of HT_.out (by kernel_rfl)) (fun _ _ _ h => h) (Or.inl ⟨by rfl, ?_⟩) ?_ ?_
                              rotate_left
                              ·
                               intro w'
                               go_simp
                               with_reducible rfl
                              rotate_left
                              ·
                               simp only [Act.put, List.setIfInBounds_toArray, List.set_cons_zero, List.set_cons_succ, i64_w, i32_w]
                               rfl
                              refine pure_ (i := 6) (N := some 120) (v := ?_) (a' := ?_) #[T, T, T, T, T, T, T, F, F, F, F, F, F, F, F, F, F, F, F, F, F, F, F, F] rfl rfl (any_of HT_.out (by kernel_rfl)) (fun _ _ _ h => h) (Or.inl ⟨by rfl, ?_⟩) ?_ ?_
                              rotate_left
                              ·
                               intro w'
                               go_simp
                               with_reducible rfl
                              rotate_left
                              ·
                               simp only [Act.put, List.setIfInBounds_toArray, List.set_cons_zero, List.set_cons_succ, i64_w, i32_w]
                               rfl
                              refine pure_ (i := 7) (N := some 121) (v := ?_) (a' := ?_) #[T, T, T, T, T, T, T, T, F, F, F, F, F, F, F, F, F, F, F, F, F, F, F, F] rfl rfl (any_of HT_.out (by kernel_rfl)) (fun _ _ _ h => h) (Or.inl ⟨by rfl, ?_⟩) ?_ ?_
                              rotate_left
                              ·
                               intro w'
                               go_simp
                               with_reducible rfl
                              rotate_left
                              ·
                               simp only [Act.put, List.setIfInBounds_toArray, List.set_cons_zero, List.set_cons_succ, i64_w, i32_w]
                               rfl
                              refine pure_ (i := 8) (N := some 122) (v := ?_) (a' := ?_) #[T, T, T, T, T, T, T, T, T, F, F, F, F, F, F, F, F, F, F, F, F, F, F, F] rfl rfl (any_of HT_.out (by kernel_rfl)) (fun _ _ _ h => h) (Or.inl ⟨by rfl, ?_⟩) ?_ ?_
                              rotate_left
                              ·
                               intro w'
                               go_simp
                               with_reducible rfl
                              rotate_left
                              ·
                               simp only [Act.put, List.setIfInBounds_toArray, List.set_cons_zero, List.set_cons_succ, i64_w, i32_w]
                               rfl
                              refine pure_ (i := 9) (N := some 123) (v := ?_) (a' := ?_) #[T, T, T, T, T, T, T, T, T, T, F, F, F, F, F, F, F, F, F, F, F, F, F, F] rfl rfl (any_of HT_.out (by kernel_rfl)) (fun _ _ _ h => h) (Or.inl ⟨by rfl, ?_⟩) ?_ ?_
                              rotate_left
                              ·
                               intro w'
                               go_simp
                               with_reducible rfl
                              rotate_left
                              ·
                               simp only [Act.put, List.setIfInBounds_toArray, List.set_cons_zero, List.set_cons_succ, i64_w, i32_w]
                               rfl
                              refine pure_ (i := 10) (N := some 124) (v := ?_) (a' := ?_) #[T, T, T, T, T, T, T, T, T, T, T, F, F, F, F, F, F, F, F, F, F, F, F, F] rfl rfl (any_of HT_.out (by kernel_rfl)) (fun _ _ _ h => h) (Or.inl ⟨by rfl, ?_⟩) ?_ ?_
                              rotate_left
                              ·
                               intro w'
                               go_simp
                               with_reducible rfl
                              rotate_left
                              ·
                               simp only [Act.put, List.setIfInBounds_toArray, List.set_cons_zero, List.set_cons_succ, i64_w, i32_w]
                               rfl
                              refine pure_ (i := 11) (N := some 125) (v := ?_) (a' := ?_) #[T, T, T, T, T, T, T, T, T, T, T, T, F, F, F, F, F, F, F, F, F, F, F, F] rfl rfl (any_of HT_.out (by kernel_rfl)) (fun _ _ _ h => h) (Or.inl ⟨by rfl, ?_⟩) ?_ ?_
                              rotate_left
                              ·
                               intro w'
                               go_simp
                               with_reducible rfl
                              rotate_left
                              ·
                               simp only [Act.put, List.setIfInBounds_toArray, List.set_cons_zero, List.set_cons_succ, i64_w, i32_w]
                               rfl
                              refine pure_ (i := 12) (N := some 126) (v := ?_) (a' := ?_) #[T, T, T, T, T, T, T, T, T, T, T, T, T, F, F, F, F, F, F, F, F, F, F, F] rfl rfl (any_of HT_.out (by kernel_rfl)) (fun _ _ _ h => h) (Or.inl ⟨by rfl, ?_⟩) ?_ ?_
                              rotate_left
                              ·
                               intro w'
                               go_simp
                               with_reducible rfl
                              rotate_left
                              ·
                               simp only [Act.put, List.setIfInBounds_toArray, List.set_cons_zero, List.set_cons_succ, i64_w, i32_w]
                               rfl
                              refine pure_ (i := 13) (N := some 127) (v := ?_) (a' := ?_) #[T, T, T, T, T, T, T, T, T, T, T, T, T, T, F, F, F, F, F, F, F, F, F, F] rfl rfl (any_of HT_.out (by kernel_rfl)) (fun _ _ _ h => h) (Or.inl ⟨by rfl, ?_⟩) ?_ ?_
                              rotate_left
                              ·
                               intro w'
                               go_simp
                               with_reducible rfl
                              rotate_left
                              ·
                               simp only [Act.put, List.setIfInBounds_toArray, List.set_cons_zero, List.set_cons_succ, i64_w, i32_w]
                               rfl
                              refine pure_ (i := 14) (N := some 128) (v := ?_) (a' := ?_) #[T, T, T, T, T, T, T, T, T, T, T, T, T, T, T, F, F, F, F, F, F, F, F, F] rfl rfl (any_of HT_.out (by kernel_rfl)) (fun _ _ _ h => h) (Or.inl ⟨by rfl, ?_⟩) ?_ ?_
                              rotate_left
                              ·
                               intro w'
                               go_simp
                               with_reducible rfl
                              rotate_left
                              ·
                               simp only [Act.put, List.setIfInBounds_toArray, List.set_cons_zero, List.set_cons_succ, i64_w, i32_w]
                               rfl
                              refine pure_ (i := 15) (N := some 129) (v := ?_) (a' := ?_) #[T, T, T, T, T, T, T, T, T, T, T, T, T, T, T, T, F, F, F, F, F, F, F, F] rfl rfl (any_of HT_.out (by kernel_rfl)) (fun _ _ _ h => h) (Or.inl ⟨by rfl, ?_⟩) ?_ ?_
                              rotate_left
                              ·
                               intro w'
                               go_simp
                               with_reducible rfl
                              rotate_left
                              ·
                               simp only [Act.put, List.setIfInBounds_toArray, List.set_cons_zero, List.set_cons_succ, i64_w, i32_w]
                               rfl
                              refine take_ (i := 16) (N := some 130) (v := ?_) (a' := ?_) #[T, T, T, T, T, T, T, T, T, T, T, T, T, T, T, T, T, F, F, F, F, F, F, F] rfl rfl (take_ofW HT_.out HW_.out (by kernel_rfl)) (fun _ _ _ h => h) (Or.inl ⟨by rfl, ?_⟩) hHeld ?_ ?_
                              rotate_left
                              ·
                               intro w' s0; subst s0
                               go_simp
                               with_reducible rfl
                              rotate_left
                              ·
                               simp only [Act.put, List.setIfInBounds_toArray, List.set_cons_zero, List.set_cons_succ, i64_w, i32_w]
                               rfl
                              refine pure_ (i := 17) (N := some 131) (v := ?_) (a' := ?_) #[T, T, T, T, T, T, T, T, T, T, T, T, T, T, T, T, T, T, F, F, F, F, F, F] rfl rfl (any_of HT_.out (by kernel_rfl)) (fun _ _ _ h => h) (Or.inl ⟨by rfl, ?_⟩) ?_ ?_
                              rotate_left
                              ·
                               intro w'
                               go_simp
                               with_reducible rfl
                              rotate_left
                              ·
                               simp only [Act.put, List.setIfInBounds_toArray, List.set_cons_zero, List.set_cons_succ, i64_w, i32_w]
                               rfl
                              refine pure_ (i := 18) (N := some 132) (v := ?_) (a' := ?_) #[T, T, T, T, T, T, T, T, T, T, T, T, T, T, T, T, T, T, T, F, F, F, F, F] rfl rfl (any_of HT_.out (by kernel_rfl)) (fun _ _ _ h => h) (Or.inl ⟨by rfl, ?_⟩) ?_ ?_
                              rotate_left
                              ·
                               intro w'
                               go_simp
                               with_reducible rfl
                              rotate_left
                              ·
                               simp only [Act.put, List.setIfInBounds_toArray, List.set_cons_zero, List.set_cons_succ, i64_w, i32_w]
                               rfl
                              refine pure_ (i := 19) (N := some 133) (v := ?_) (a' := ?_) #[T, T, T, T, T, T, T, T, T, T, T, T, T, T, T, T, T, T, T, T, F, F, F, F] rfl rfl (any_of HT_.out (by kernel_rfl)) (fun _ _ _ h => h) (Or.inl ⟨by rfl, ?_⟩) ?_ ?_
                              rotate_left
                              ·
                               intro w'
                               go_simp
                               with_reducible rfl
                              rotate_left
                              ·
                               simp only [Act.put, List.setIfInBounds_toArray, List.set_cons_zero, List.set_cons_succ, i64_w, i32_w]
                               rfl
                              refine take_ (i := 20) (N := some 134) (v := ?_) (a' := ?_) #[T, T, T, T, T, T, T, T, T, T, T, T, T, T, T, T, T, T, T, T, T, F, F, F] rfl rfl (take_ofW HT_.out HW_.out (by kernel_rfl)) (fun _ _ _ h => h) (Or.inl ⟨by rfl, ?_⟩) hHeld ?_ ?_
                              rotate_left
                              ·
                               intro w' s0; subst s0
                               go_simp
                               with_reducible rfl
                              rotate_left
                              ·
                               simp only [Act.put, List.setIfInBounds_toArray, List.set_cons_zero, List.set_cons_succ, i64_w, i32_w]
                               rfl
                              refine take_ (i := 21) (N := some 135) (v := ?_) (a' := ?_) #[T, T, T, T, T, T, T, T, T, T, T, T, T, T, T, T, T, T, T, T, T, T, F, F] rfl rfl (take_ofW HT_.out HW_.out (by kernel_rfl)) (fun _ _ _ h => h) (Or.inl ⟨by rfl, ?_⟩) hHeld ?_ ?_
                              rotate_left
                              ·
                               intro w' s0; subst s0
                               go_simp
                               with_reducible rfl
                              rotate_left
                              ·
                               simp only [Act.put, List.setIfInBounds_toArray, List.set_cons_zero, List.set_cons_succ, i64_w, i32_w]
                               rfl
                              refine take_ (i := 22) (N := some 136) (v := ?_) (a' := ?_) #[T, T, T, T, T, T, T, T, T, T, T, T, T, T, T, T, T, T, T, T, T, T, T, F] rfl rfl (take_ofW HT_.out HW_.out (by kernel_rfl)) (fun _ _ _ h => h) (Or.inl ⟨by rfl, ?_⟩) hHeld ?_ ?_
                              rotate_left
                              ·
                               intro w' s0; subst s0
                               go_simp
                               with_reducible rfl
                              rotate_left
                              ·
                               simp only [Act.put, List.setIfInBounds_toArray, List.set_cons_zero, List.set_cons_succ, i64_w, i32_w]
                               rfl
                              refine pure_ (i := 23) (N := some 137) (v := ?_) (a' := ?_) #[T, T, T, T, T, T, T, T, T, T, T, T, T, T, T, T, T, T, T, T, T, T, T, T] rfl rfl (any_of HT_.out (by kernel_rfl)) (fun _ _ _ h => h) (Or.inl ⟨by rfl, ?_⟩) ?_ ?_
                              rotate_left
                              ·
                               intro w'
                               go_simp
                               with_reducible rfl
                              rotate_left
                              ·
                               simp only [Act.put, List.setIfInBounds_toArray, List.set_cons_zero, List.set_cons_succ, i64_w, i32_w]
                               rfl
                              refine done_ (done_of HT_.out (by kernel_rfl)) ?_
                              (have p78 : 0 ≤ ((ji36) : Int) := of_decide_eq_true (by first | (with_reducible assumption) | assumption)); (have q78 : ((ji36) : Int) < ((x9_2.length : Int) : Int) := of_decide_eq_true (by first | (with_reducible assumption) | assumption)); (obtain ⟨ce78, hcl78, hM78, hcc78, hfr78⟩ := Kd.N_elem HO_9.out [] ((ji36) : Int) p78 q78); (obtain ⟨ua78_0, uc78_0, rfl, ul78_0, ge78_0⟩ := Kd.FK_slice_open hM78); (have hx78_0 := hcc78 0 _ rfl); (have hf78_0 := hfr78 0)
                              (try simp only [show ((Kd.slice 5 (Kd.int .u8))).sz = 1 from rfl, Nat.mul_one, Nat.add_zero] at hx78_0)
                              (try simp only [show ((Kd.slice 5 (Kd.int .u8))).sz = 1 from rfl, Nat.mul_one, Nat.add_zero] at hf78_0)
                              clear hcl78 hcc78 hfr78 hM78; (replace p78 := eq_true p78); (replace q78 := eq_true q78); (have HX97 := aM (show Kd.N (Kd.slice 5 (Kd.int .u8)) 22 w92 w.heap.size (fun k_ => some k_ ≠ (v230 : Value).ownBlock) (.slice (some ⟨go39, 0, none⟩) x9_2.length co87) y223 from (by (with_reducible repeat (first | apply Kd.N_alloc | apply Kd.N_drewN | apply Kd.N_drew)); exact Kd.N_mono HO_9.out (fun _ hk => hk.2)))); (obtain ⟨ce97, hcl97, hM97, hcc97, hfr97⟩ := Kd.N_elem HX97.out [] ((ji36) : Int) (of_decide_eq_true (by first | (with_reducible assumption) | assumption)) (by have h_ : ((ji36) : Int) < ((x9_2.length : Int) : Int) := of_decide_eq_true (by first | (with_reducible assumption) | assumption); first | exact h_ | (have e_ := (Kd.N_reads' HO_9.out).1; omega) | simpa using h_)); (obtain ⟨ua97_0, uc97_0, rfl, ul97_0, ge97_0⟩ := Kd.FK_slice_open hM97); (have HP97 := Kd.N_seg HX97.out ((ji36) : Int) (of_decide_eq_true (by first | (with_reducible assumption) | assumption)) (by have h_ : ((ji36) : Int) < ((x9_2.length : Int) : Int) := of_decide_eq_true (by first | (with_reducible assumption) | assumption); first | exact h_ | (have e_ := (Kd.N_reads' HO_9.out).1; omega) | simpa using h_) (seg := [.slice Ao83 t192.length co83]) (j := 0) hcl97 hcc97 (show 1 ≤ 1 from by decide) (x' := t192) (Short.fkR (Kd.R_mono (ok' := (fun k_ => ((fun k_ => some k_ ≠ (v230 : Value).ownBlock)) k_ ∧ k_ ≠ go39)) (Kd.R_apart' (HO_12.out) (Kd.N_typed HO_9.out) (by decide)) (fun k_ hk => ⟨hk.1.2, fun e_ => (hk.2) (by rw [e_]; rfl)⟩))) (fun _ hk => hk)); (have hx97_0 := hcc97 0 _ rfl)
                              (try simp only [show ((Kd.slice 5 (Kd.int .u8))).sz = 1 from rfl, Nat.mul_one, Nat.add_zero] at hx97_0)
                              have hf97_0 := hfr97 0
                              (try simp only [show ((Kd.slice 5 (Kd.int .u8))).sz = 1 from rfl, Nat.mul_one, Nat.add_zero] at hf97_0)
                              clear hcl97 hcc97 hfr97 hM97
                              (try simp only [show ((Kd.slice 5 (Kd.int .u8))).sz = 1 from rfl, Nat.mul_one, Nat.add_zero] at HP97)
                              (try simp only [show ((Kd.slice 5 (Kd.int .u8))).sz = 1 from rfl, Nat.mul_one, Nat.add_zero] at HP97)
                              try go_wp2_with (first | ((with_reducible refine gate_store (t := 22) (p := 170) rfl ?_); refine store_event (t := 22) (p := 170) (v := ?vo_w98) (w1 := (w92.setCell ⟨go39, ((ji36) : Int).toNat, none⟩ (.slice Ao83 t192.length co83))) ?hg ?ho ?hn ?hr ?_; (case ho => rfl); (case hg => rfl); (case hn => rfl); (case hr => first | (go_simp; done) | (go_simp; rfl)); intro w98 hw; have hg : w92.grownBy w98 (some go39) := (by rw [hw]; exact HP97.2); have hp_ : Kd.N (Kd.slice 5 (Kd.int .u8)) 22 w98 w.heap.size (fun k_ => some k_ ≠ (v230 : Value).ownBlock) (.slice (some ⟨go39, 0, none⟩) x9_2.length co87) y237 := (by rw [hw, Ny237.out]; exact HP97.1); clear HP97; have n0_ := aM (hp_); have n1_ := aM (Kd.V_afterv (v := (.slice (some ⟨go39, 0, none⟩) x9_2.length co87)) (v1 := (.slice (some ⟨go39, 0, none⟩) x9_2.length co87)) (ok := (fun k_ => some k_ ≠ (.slice Ao83 t192.length co83 : Value).ownBlock ∧ some k_ ≠ (v230 : Value).ownBlock)) (by (with_reducible repeat (first | apply Kd.V_alloc | apply Kd.V_drewN | apply Kd.V_drew)); exact Kd.V_mono HL222_0.out (fun _ hk => ⟨⟨hk.1.1.1, hk.2⟩, hk.1.2⟩)) hg (.inl rfl)); have n2_ := aM (Kd.V_afterv (v := (.slice (some ⟨go39, 0, none⟩) x9_2.length co87)) (v1 := (.slice (some ⟨go39, 0, none⟩) x9_2.length co87)) (ok := (fun k_ => some k_ ≠ (.slice Ao83 t192.length co83 : Value).ownBlock ∧ some k_ ≠ (v230 : Value).ownBlock)) (by (with_reducible repeat (first | apply Kd.V_alloc | apply Kd.V_drewN | apply Kd.V_drew)); exact Kd.V_mono HL224_0.out (fun _ hk => ⟨⟨hk.1.1, hk.2⟩, hk.1.2⟩)) hg (.inl rfl)); have n3_ := aM (Kd.V_afterv (v := (.slice (some ⟨go39, 0, none⟩) x9_2.length co87)) (v1 := (.slice (some ⟨go39, 0, none⟩) x9_2.length co87)) (ok := (fun k_ => some k_ ≠ (.slice Ao83 t192.length co83 : Value).ownBlock ∧ some k_ ≠ (v230 : Value).ownBlock)) (by (with_reducible repeat (first | apply Kd.V_alloc | apply Kd.V_drewN | apply Kd.V_drew)); exact Kd.V_mono HL225_0.out (fun _ hk => ⟨⟨hk.1.1, hk.2⟩, hk.1.2⟩)) hg (.inl rfl)); have n4_ := aM (Kd.R_over' (v := (.slice (some ⟨go39, 0, none⟩) x9_2.length co87)) (by (with_reducible repeat (first | apply rA | apply rN | apply rD)); exact HO231.out) (Kd.N_typed HO_9.out) (by decide) hg); have n5_ := aM ((by rw [hw]; exact below_set (HB.out) GB39.out : Below w.heap.size w w98)); clear HO_9; clear HL222_0; clear HL224_0; clear HL225_0; clear HO231; clear HB; clear HO_12; have HO_9 := n0_; have HL222_0 := n1_; have HL224_0 := n2_; have HL225_0 := n3_; have HO231 := n4_; have HB := n5_; clear n0_ n1_ n2_ n3_ n4_ n5_; clear hg hw hp_))
                              go_roundg kj25
                              case measure => have := HJ6.out; have := HK2.out; have := HJ25.out; omega
                              case rel => exact ⟨(y237), (wrap64 (x10_2 + 1)), (by first | rfl | (simp; done) | (simp [*]; done)), H', ⟨by have := HJ6.out; have := HK2.out; have := HJ25.out; omega⟩, ⟨by (with_reducible repeat (first | apply Kd.N_alloc | apply Kd.N_drewN | apply Kd.N_drew)); exact Kd.N_mono HO_9.out (fun _ hk => trivial)⟩, ⟨by repeat (first | (with_reducible first | exact HB.out | apply bA | apply bN | apply bD) | exact HB.out)⟩⟩
                             ·
                              rw [if_neg c79] at H
                              exact absurd H (by simp)
                            ·
                             rw [if_neg c77] at H
                             exact absurd H (by simp)
                           ·
                            rw [if_neg c76] at H
                            exact absurd H (by simp)
                          ·
                           rw [if_neg c75] at H
                           exact absurd H (by simp)
                         ·
                          (rw [if_neg c74] at H); (have c74b0 : (t227 == (IntKind.u64.wrap ((IntKind.u64.wrap (a0)) + (IntKind.u64.wrap (x10_2))))) = false := beq_eq_false_iff_ne.mpr c74); (have c74b1 : (t227 != (IntKind.u64.wrap ((IntKind.u64.wrap (a0)) + (IntKind.u64.wrap (x10_2))))) = true := bne_iff_ne.mpr c74)
                          exact absurd H (by simp)
                        ·
                         (rw [if_neg c73] at H); (have c73b0 : (t226 == (wrap64 (ji36))) = false := beq_eq_false_iff_ne.mpr c73); (have c73b1 : (t226 != (wrap64 (ji36))) = true := bne_iff_ne.mpr c73)
                         exact absurd H (by simp)
                       ·
                        (rw [if_neg c72] at H); (have c72b0 : (t229 == 0) = false := beq_eq_false_iff_ne.mpr c72); (have c72b1 : (t229 != 0) = true := bne_iff_ne.mpr c72)
                        exact absurd H (by simp)
                     ·
                      (rw [if_neg c43] at H); (have c43b0 : (a3 == 0) = false := beq_eq_false_iff_ne.mpr c43); (have c43b1 : (a3 != 0) = true := bne_iff_ne.mpr c43)
                      by_cases c99 : x10_2 = 0
                      ·
                       (rw [if_pos c99] at H); (have c99b0 : (x10_2 == 0) = true := beq_iff_eq.mpr c99); (have c99b1 : (x10_2 != 0) = false := bne_eq_false_iff_eq.mpr c99); clear c99
                       by_cases c100 : t229 = 2
                       ·
                        (rw [if_pos c100] at H); (have c100b0 : (t229 == 2) = true := beq_iff_eq.mpr c100); (have c100b1 : (t229 != 2) = false := bne_eq_false_iff_eq.mpr c100); clear c100; (obtain ⟨y239, hy239⟩ : ∃ y_ : List (List Int), y_ = (y223.set ((ji36) : Int).toNat t192) := ⟨_, rfl⟩); (replace H : (if ((rd_L1 x9_2 (ji36)).length : Int) = 128 then (pandectlaw4_SlotTurns.l0 kj25 a0 l1 a2 a3 y239 (wrap64 (x10_2 + 1))) else (none)) = some r := by first | (rw [hy239]; with_reducible exact H) | (have H2_ := (Option.bind_some _ _).symm.trans H; rw [hy239]; with_reducible exact H2_) | (have H2_ := (Option.bind_some _ _).symm.trans H; with_reducible exact H2_) | with_reducible exact H | (rw [hy239]; exact H) | exact H); (have Ny239 := aM hy239); clear hy239
                        by_cases c102 : ((rd_L1 x9_2 (ji36)).length : Int) = 128
                        ·
                         (rw [if_pos c102] at H); (have c102b0 : (((rd_L1 x9_2 (ji36)).length : Int) == 128) = true := beq_iff_eq.mpr c102); (have c102b1 : (((rd_L1 x9_2 (ji36)).length : Int) != 128) = false := bne_eq_false_iff_eq.mpr c102); clear c102; (have H' := aM H); clear H
                         try go_wp2_with (first | ((with_reducible refine gate_dst (N := 66) rfl ?_); (try (refine gate_guard (by rfl) ?_; dsimp only)); refine Kd.R_lit (Kd.int .u8) _ 5 ?hg (N := 66) ?hd (xs := ([] : List Int)) (inner := []) (ok := fun _ => True) (okp := fun _ => True) ?hr ?hp (fun _ hk => hk) trivial (Below.refl _ _) (Nat.le_refl _) (by simp) ?_; (case hd => rfl); (case hg => rfl); (case hr => first | (go_simp; done) | (go_simp; rfl)); (case hp => exact (Reps.none _ _)); intro v215 w103 ho104 hb hg_ hnew_; clear hg_ hnew_; (first | rw [← Ny214.out] at ho104 | (simp only [Int.reduceToNat] at ho104; rw [← Ny214.out] at ho104)); have n0_ := aM (Kd.N_elder' (by (with_reducible repeat (first | apply Kd.N_alloc | apply Kd.N_drewN | apply Kd.N_drew)); exact HO_9.out) (Kd.R_base ho104) hb); have n1_ := aM (Kd.R_elder' (by (with_reducible repeat (first | apply rA | apply rN | apply rD)); exact HO_12.out) (Kd.R_base ho104) hb); have n2_ := aM (Kd.R_lower (Kd.R_new' ho104 (Kd.R_lt (by (with_reducible repeat (first | apply rA | apply rN | apply rD)); exact HO_12.out))) (below_size (by repeat (first | (with_reducible first | exact HB.out | apply bA | apply bN | apply bD) | exact HB.out)))); have n3_ := aM (below_step (by repeat (first | (with_reducible first | exact HB.out | apply bA | apply bN | apply bD) | exact HB.out)) hb); clear HO_9; clear HO_12; clear HB; have HO_9 := n0_; have HO_12 := n1_; have HO216 := n2_; have HB := n3_; clear n0_ n1_ n2_ n3_; clear hb ho104; obtain ⟨Ao106, co106, eo106⟩ := Kd.R_slice HO_12.out; subst eo106) | ((with_reducible refine gate_builtin (b := .append) (xs := #[.tmp 66, .tmp 67]) rfl ?_); (try (refine gate_guard (by rfl) ?_; dsimp only)); at_builtin; refine Kd.R_append_rows (Kd.int .u8) (w0 := w) w.heap.size rfl (.tmp 66) (.tmp 67) 22 5 (.int .u8 0) 1 rfl Try.underlying22 info5 rfl (by decide) (by omega) v215 y214 t192 _ _ _ (fun k_ => some k_ ≠ (.slice Ao106 t192.length co106 : Value).ownBlock) (fun _ => False) rfl rfl ?aO ?aR (fun _ _ h => h) (fun _ h => h.elim) ?aF ?aB ?aS ?aL ?_; (case aR => repeat (first | exact (Kd.R_reads' HO_12.out).2.2 | (with_reducible refine Kd.C_alloc ?_ _) | (with_reducible refine Kd.C_drewN ?_ _) | (with_reducible refine Kd.C_drew ?_))); (case aB => exact (by repeat (first | (with_reducible first | exact HB.out | apply bA | apply bN | apply bD) | exact HB.out))); (case aF => exact (fun k_ hk => Kd.fresh' (Kd.R_lt (by (with_reducible repeat (first | apply rA | apply rN | apply rD)); exact HO_12.out)) k_ hk)); (case aO => exact (by (with_reducible repeat (first | apply rA | apply rN | apply rD)); exact Kd.R_mono HO216.out (fun _ hk => hk.2))); (case aS => exact (below_size (by repeat (first | (with_reducible first | exact HB.out | apply bA | apply bN | apply bD) | exact HB.out)))); (case aL => have := LMc31.out; omega); intro v218 w105 ho hb hg hat; rw [← Ny217.out] at ho; have n0_ := aM (Kd.N_afterv (ok := (fun k_ => some k_ ≠ (.slice Ao106 t192.length co106 : Value).ownBlock)) (by (with_reducible repeat (first | apply Kd.N_alloc | apply Kd.N_drewN | apply Kd.N_drew)); exact HO_9.out) hg hat); have n1_ := aM (Kd.R_after (ok := (fun _ => True)) (by (with_reducible repeat (first | apply rA | apply rN | apply rD)); exact HO_12.out) hg hat); have n2_ := aM (hb); have n3_ := aM (ho); clear HO_9; clear HO_12; clear HB; clear HO216; have HO_9 := n0_; have HO_12 := n1_; have HB := n2_; have HO219 := n3_; clear n0_ n1_ n2_ n3_; clear ho hb hg hat; obtain ⟨Ao107, co107, eo107⟩ := Kd.R_slice HO219.out; subst eo107; have p220 : 0 ≤ ((ji32) : Int) := of_decide_eq_true (by first | (with_reducible assumption) | assumption); have q220 : (ji32) < (y217.length : Int) := of_decide_eq_true (by first | (with_reducible assumption) | assumption); obtain ⟨ad220, e220, hx220_0⟩ := Kd.at_int (Kd.R_reads' HO219.out).2.2 (ji32) p220 q220; cases e220; replace p220 := eq_true p220; replace q220 := eq_true q220; have p35 : 0 ≤ ((ji32) : Int) := of_decide_eq_true (by first | (with_reducible assumption) | assumption); have q35 : ((ji32) : Int) < ((y217.length : Int) : Int) := of_decide_eq_true (by first | (with_reducible assumption) | assumption); obtain ⟨go35, co35, eo35, gb35, gl35, cl35, HG35⟩ := Kd.R_form HO219.out (by omega); (first | cases eo35 | (injection eo35 with ea_ en_ ec_; (first | subst ea_ | (injection ea_ with ea_; subst ea_)); subst ec_; clear en_)); have GB35 := aM gb35; have GG35 := aM HG35; clear gb35 gl35 HG35; (first | simp only [add_plain] at hx220_0 | skip); obtain ⟨hx35_0, hf35_0⟩ := Kd.R_celln 0 HO219.out ((ji32) : Int) p35 q35; replace p35 := eq_true p35; replace q35 := eq_true q35; obtain ⟨hy108_, hz108_⟩ := Kd.R_celln 0 HO219.out ((ji32) : Int) (of_decide_eq_true (by first | (with_reducible assumption) | assumption)) (of_decide_eq_true (by first | (with_reducible assumption) | assumption)); have HP108 := Kd.R_putg HO219.out ((ji32) : Int) (Go.bits .xor .u8 (rd y217 (ji32)) a3)) | ((with_reducible refine gate_store (t := 5) (p := 76) rfl ?_); refine store_event (t := 5) (p := 76) (v := ?vo_w109) (w1 := (w105.setCell ⟨go35, ((ji32) : Int).toNat, none⟩ (.int .u8 (Go.bits .xor .u8 (rd y217 (ji32)) a3)))) ?hg ?ho ?hn ?hr ?_; (case ho => rfl); (case hg => rfl); (case hn => rfl); (case hr => first | (go_simp; done) | (go_simp; rfl)); intro w109 hw; have hg : w105.grownBy w109 (some go35) := (by rw [hw]; exact HP108.2); have hp_ : Kd.R (Kd.int .u8) 5 w109 w.heap.size (fun k_ => some k_ ≠ (.slice Ao106 t192.length co106 : Value).ownBlock) (.slice (some ⟨go35, 0, none⟩) y217.length co107) y221 := (by rw [hw, Ny221.out]; exact HP108.1); clear HP108; have n0_ := aM (Kd.N_afterv (v := (.slice (some ⟨go35, 0, none⟩) y217.length co107)) (v1 := (.slice (some ⟨go35, 0, none⟩) y217.length co107)) (ok := (fun k_ => some k_ ≠ (.slice Ao106 t192.length co106 : Value).ownBlock)) (by (with_reducible repeat (first | apply Kd.N_alloc | apply Kd.N_drewN | apply Kd.N_drew)); exact HO_9.out) hg (.inl rfl)); have n1_ := aM (Kd.R_after (v := (.slice (some ⟨go35, 0, none⟩) y217.length co107)) (v1 := (.slice (some ⟨go35, 0, none⟩) y217.length co107)) (ok := (fun _ => True)) (by (with_reducible repeat (first | apply rA | apply rN | apply rD)); exact HO_12.out) hg (.inl rfl)); have n2_ := aM (hp_); have n3_ := aM ((by rw [hw]; exact below_set (HB.out) GB35.out : Below w.heap.size w w109)); clear HO_9; clear HO_12; clear HO219; clear HB; have HO_9 := n0_; have HO_12 := n1_; have HO219 := n2_; have HB := n3_; clear n0_ n1_ n2_ n3_; clear hg hw hp_; obtain ⟨Ao110, co110, eo110⟩ := Kd.N_slice HO_9.out; subst eo110; have p222 : 0 ≤ ((ji36) : Int) := of_decide_eq_true (by first | (with_reducible assumption) | assumption); have q222 : (ji36) < (x9_2.length : Int) := of_decide_eq_true (by first | (with_reducible assumption) | assumption); obtain ⟨ad222, A222_0, c222_0, e222, hx222_0, hl222_0, hi222_0⟩ := at_L1 (Kd.N_reads' HO_9.out).2.2 (ji36) p222 q222; cases e222; obtain ⟨ce222, hce222, hMe222, hcc222⟩ := Kd.N_get HO_9.out [] (ji36) p222 (by first | exact q222 | exact of_decide_eq_true (by first | (with_reducible assumption) | assumption) | (have e_ := (Kd.N_reads' HO_9.out).1; omega)); obtain ⟨ua222_0, uc222_0, rfl, ul222_0, ge222_0⟩ := Kd.FK_slice_open hMe222; have hv222_0 := hcc222 0 _ rfl; rw [Nat.add_zero, show ((Kd.slice 5 (Kd.int .u8))).sz = 1 from rfl, Nat.mul_one] at hv222_0; replace hv222_0 := Option.some.inj (hv222_0.symm.trans hx222_0); injection hv222_0 with hva_ hvn_ hvc_; rw [hva_] at ge222_0; rw [hvc_] at ul222_0; have HL222_0 := aM (show Kd.V (Kd.int .u8) 5 _ w.heap.size _ _ (rd_L1 x9_2 (ji36)) from Kd.V_mk ul222_0 ge222_0); clear hva_ hvn_ hvc_ ge222_0 ul222_0; clear hcc222 hce222; have HR222_0 := aM hi222_0; have HC222_0 := aM hl222_0; clear hi222_0 hl222_0; replace p222 := eq_true p222; replace q222 := eq_true q222; have p39 : 0 ≤ ((ji36) : Int) := of_decide_eq_true (by first | (with_reducible assumption) | assumption); have q39 : ((ji36) : Int) < ((x9_2.length : Int) : Int) := of_decide_eq_true (by first | (with_reducible assumption) | assumption); obtain ⟨go39, co39, eo39, gb39, gl39, cl39, HG39⟩ := Kd.N_form HO_9.out (by omega); (first | cases eo39 | (injection eo39 with ea_ en_ ec_; (first | subst ea_ | (injection ea_ with ea_; subst ea_)); subst ec_; clear en_)); have GB39 := aM gb39; have GG39 := aM HG39; clear gb39 gl39 HG39; (first | simp only [add_plain] at hx222_0 | skip); obtain ⟨ce39, hcl39, hM39, hcc39, hfr39⟩ := Kd.N_elem HO_9.out [] ((ji36) : Int) p39 q39; obtain ⟨ua39_0, uc39_0, rfl, ul39_0, ge39_0⟩ := Kd.FK_slice_open hM39; have hx39_0 := hcc39 0 _ rfl; have hf39_0 := hfr39 0; (try simp only [show ((Kd.slice 5 (Kd.int .u8))).sz = 1 from rfl, Nat.mul_one, Nat.add_zero] at hx39_0); (try simp only [show ((Kd.slice 5 (Kd.int .u8))).sz = 1 from rfl, Nat.mul_one, Nat.add_zero] at hf39_0); clear hcl39 hcc39 hfr39 hM39; replace p39 := eq_true p39; replace q39 := eq_true q39; have HX111 := aM (show Kd.N (Kd.slice 5 (Kd.int .u8)) 22 w109 w.heap.size (fun k_ => some k_ ≠ (.slice Ao106 t192.length co106 : Value).ownBlock) (.slice (some ⟨go39, 0, none⟩) x9_2.length co110) x9_2 from (by (with_reducible repeat (first | apply Kd.N_alloc | apply Kd.N_drewN | apply Kd.N_drew)); exact Kd.N_mono HO_9.out (fun _ hk => hk.1))); obtain ⟨ce111, hcl111, hM111, hcc111, hfr111⟩ := Kd.N_elem HX111.out [] ((ji36) : Int) (of_decide_eq_true (by first | (with_reducible assumption) | assumption)) (by have h_ : ((ji36) : Int) < ((x9_2.length : Int) : Int) := of_decide_eq_true (by first | (with_reducible assumption) | assumption); first | exact h_ | (have e_ := (Kd.N_reads' HO_9.out).1; omega) | simpa using h_); obtain ⟨ua111_0, uc111_0, rfl, ul111_0, ge111_0⟩ := Kd.FK_slice_open hM111; have HP111 := Kd.N_seg HX111.out ((ji36) : Int) (of_decide_eq_true (by first | (with_reducible assumption) | assumption)) (by have h_ : ((ji36) : Int) < ((x9_2.length : Int) : Int) := of_decide_eq_true (by first | (with_reducible assumption) | assumption); first | exact h_ | (have e_ := (Kd.N_reads' HO_9.out).1; omega) | simpa using h_) (seg := [.slice (some ⟨go35, 0, none⟩) y217.length co107]) (j := 0) hcl111 hcc111 (show 1 ≤ 1 from by decide) (x' := y221) (Short.fkR (Kd.R_mono (ok' := (fun k_ => ((fun k_ => some k_ ≠ (.slice Ao106 t192.length co106 : Value).ownBlock)) k_ ∧ k_ ≠ go39)) (Kd.R_apart' (HO219.out) (Kd.N_typed HO_9.out) (by decide)) (fun k_ hk => ⟨hk.1, fun e_ => (hk.2) (by rw [e_]; rfl)⟩))) (fun _ hk => hk); have hx111_0 := hcc111 0 _ rfl; (try simp only [show ((Kd.slice 5 (Kd.int .u8))).sz = 1 from rfl, Nat.mul_one, Nat.add_zero] at hx111_0); have hf111_0 := hfr111 0; (try simp only [show ((Kd.slice 5 (Kd.int .u8))).sz = 1 from rfl, Nat.mul_one, Nat.add_zero] at hf111_0); clear hcl111 hcc111 hfr111 hM111; (try simp only [show ((Kd.slice 5 (Kd.int .u8))).sz = 1 from rfl, Nat.mul_one, Nat.add_zero] at HP111); (try simp only [show ((Kd.slice 5 (Kd.int .u8))).sz = 1 from rfl, Nat.mul_one, Nat.add_zero] at HP111)) | ((with_reducible refine gate_store (t := 22) (p := 86) rfl ?_); refine store_event (t := 22) (p := 86) (v := ?vo_w112) (w1 := (w109.setCell ⟨go39, ((ji36) : Int).toNat, none⟩ (.slice (some ⟨go35, 0, none⟩) y217.length co107))) ?hg ?ho ?hn ?hr ?_; (case ho => rfl); (case hg => rfl); (case hn => rfl); (case hr => first | (go_simp; done) | (go_simp; rfl)); intro w112 hw; have hg : w109.grownBy w112 (some go39) := (by rw [hw]; exact HP111.2); have hp_ : Kd.N (Kd.slice 5 (Kd.int .u8)) 22 w112 w.heap.size (fun k_ => some k_ ≠ (.slice Ao106 t192.length co106 : Value).ownBlock) (.slice (some ⟨go39, 0, none⟩) x9_2.length co110) y223 := (by rw [hw, Ny223.out]; exact HP111.1); clear HP111; have n0_ := aM (hp_); have n1_ := aM (Kd.R_over' (v := (.slice (some ⟨go39, 0, none⟩) x9_2.length co110)) (by (with_reducible repeat (first | apply rA | apply rN | apply rD)); exact HO_12.out) (Kd.N_typed HO_9.out) (by decide) hg); have n2_ := aM (Kd.V_afterv (v := (.slice (some ⟨go39, 0, none⟩) x9_2.length co110)) (v1 := (.slice (some ⟨go39, 0, none⟩) x9_2.length co110)) (ok := (fun k_ => some k_ ≠ (.slice Ao106 t192.length co106 : Value).ownBlock ∧ some k_ ≠ (.slice (some ⟨go35, 0, none⟩) y217.length co107 : Value).ownBlock)) (by (with_reducible repeat (first | apply Kd.V_alloc | apply Kd.V_drewN | apply Kd.V_drew)); exact HL222_0.out) hg (.inl rfl)); have n3_ := aM ((by rw [hw]; exact below_set (HB.out) GB39.out : Below w.heap.size w w112)); clear HO_9; clear HO_12; clear HL222_0; clear HB; clear HO219; have HO_9 := n0_; have HO_12 := n1_; have HL222_0 := n2_; have HB := n3_; clear n0_ n1_ n2_ n3_; clear hg hw hp_))
                         (have n0_ := aM (Kd.N_drew HO_9.out)); (have n1_ := aM (Kd.R_drew HO_12.out)); (have n2_ := aM (Kd.V_drew HL222_0.out)); (have n3_ := aM (below_drew1 HB.out)); clear HO_9; clear HO_12; clear HL222_0; clear HB; (have HO_9 := n0_); (have HO_12 := n1_); (have HL222_0 := n2_); (have HB := n3_); clear n0_ n1_ n2_ n3_; (have p224 : 0 ≤ (0 : Int) := (by omega)); (have q224 : 0 < (y223.length : Int) := (by have h_ : (0 : Int) < ((x9_2.length : Int) : Int) := of_decide_eq_true (by first | (with_reducible assumption) | assumption); first | (have e_ := (Kd.N_reads' HO_9.out).1; omega) | simpa only [Ny223.out, List.length_set] using h_)); (have ql224 : ((0 : Int) < ((x9_2.length : Int) : Int)) = True := eq_true (of_decide_eq_true (by first | (with_reducible assumption) | assumption)))
                         (try have qn224 : (0 < x9_2.length) = True := eq_true (by have h_ : (0 : Int) < ((x9_2.length : Int) : Int) := of_decide_eq_true (by first | (with_reducible assumption) | assumption); omega))
                         (obtain ⟨ad224, A224_0, c224_0, e224, hx224_0, hl224_0, hi224_0⟩ := at_L1 (Kd.N_reads' HO_9.out).2.2 0 p224 q224); (obtain rfl : (⟨go39, 0, none⟩ : Addr) = ad224 := (by injection e224)); (obtain ⟨ce224, hce224, hMe224, hcc224⟩ := Kd.N_get HO_9.out [] 0 p224 (by first | exact q224 | exact of_decide_eq_true (by first | (with_reducible assumption) | assumption) | (have e_ := (Kd.N_reads' HO_9.out).1; omega))); (obtain ⟨ua224_0, uc224_0, rfl, ul224_0, ge224_0⟩ := Kd.FK_slice_open hMe224); (have hv224_0 := hcc224 0 _ rfl); (rw [Nat.add_zero, show ((Kd.slice 5 (Kd.int .u8))).sz = 1 from rfl, Nat.mul_one] at hv224_0); (replace hv224_0 := Option.some.inj (hv224_0.symm.trans hx224_0))
                         injection hv224_0 with hva_ hvn_ hvc_
                         (rw [hva_] at ge224_0); (rw [hvc_] at ul224_0); (have HL224_0 := aM (show Kd.V (Kd.int .u8) 5 _ w.heap.size _ _ (rd_L1 y223 0) from Kd.V_mk ul224_0 ge224_0)); clear hva_ hvn_ hvc_ ge224_0 ul224_0; clear hcc224 hce224
                         (first | simp only [add_plain] at hx224_0 | simp only [add_at] at hx224_0 | simp only [Addr.add, Nat.zero_add] at hx224_0 | skip)
                         have qi224 : (0 < y223.length) = True := eq_true (by omega)
                         (try rw [show ((0 : Int)).toNat = 0 from rfl] at hx224_0)
                         (try rw [Addr.add_zero'] at hx224_0)
                         (have HR224_0 := aM hi224_0); (have HC224_0 := aM hl224_0); clear hi224_0 hl224_0; (replace p224 := eq_true p224); (replace q224 := eq_true q224); (have p225 : 0 ≤ (1 : Int) := (by omega)); (have q225 : 1 < (y223.length : Int) := (by have h_ : (1 : Int) < ((x9_2.length : Int) : Int) := of_decide_eq_true (by first | (with_reducible assumption) | assumption); first | (have e_ := (Kd.N_reads' HO_9.out).1; omega) | simpa only [Ny223.out, List.length_set] using h_)); (have ql225 : ((1 : Int) < ((x9_2.length : Int) : Int)) = True := eq_true (of_decide_eq_true (by first | (with_reducible assumption) | assumption)))
                         (try have qn225 : (1 < x9_2.length) = True := eq_true (by have h_ : (1 : Int) < ((x9_2.length : Int) : Int) := of_decide_eq_true (by first | (with_reducible assumption) | assumption); omega))
                         (obtain ⟨ad225, A225_0, c225_0, e225, hx225_0, hl225_0, hi225_0⟩ := at_L1 (Kd.N_reads' HO_9.out).2.2 1 p225 q225); (obtain rfl : (⟨go39, 0, none⟩ : Addr) = ad225 := (by injection e225)); (obtain ⟨ce225, hce225, hMe225, hcc225⟩ := Kd.N_get HO_9.out [] 1 p225 (by first | exact q225 | exact of_decide_eq_true (by first | (with_reducible assumption) | assumption) | (have e_ := (Kd.N_reads' HO_9.out).1; omega))); (obtain ⟨ua225_0, uc225_0, rfl, ul225_0, ge225_0⟩ := Kd.FK_slice_open hMe225); (have hv225_0 := hcc225 0 _ rfl); (rw [Nat.add_zero, show ((Kd.slice 5 (Kd.int .u8))).sz = 1 from rfl, Nat.mul_one] at hv225_0); (replace hv225_0 := Option.some.inj (hv225_0.symm.trans hx225_0))
                         injection hv225_0 with hva_ hvn_ hvc_
                         (rw [hva_] at ge225_0); (rw [hvc_] at ul225_0); (have HL225_0 := aM (show Kd.V (Kd.int .u8) 5 _ w.heap.size _ _ (rd_L1 y223 1) from Kd.V_mk ul225_0 ge225_0)); clear hva_ hvn_ hvc_ ge225_0 ul225_0; clear hcc225 hce225
                         (first | simp only [add_plain] at hx225_0 | simp only [add_at] at hx225_0 | simp only [Addr.add, Nat.zero_add] at hx225_0 | skip)
                         have qi225 : (1 < y223.length) = True := eq_true (by omega)
                         (try rw [show ((1 : Int)).toNat = 1 from rfl] at hx225_0)
                         (have HR225_0 := aM hi225_0); (have HC225_0 := aM hl225_0); clear hi225_0 hl225_0; (replace p225 := eq_true p225); (replace q225 := eq_true q225)
                         refine start_ (n := 16) (S := fun w' => w'.cell? ⟨go39, 0, none⟩ = some (.slice A224_0 (rd_L1 y223 0).length c224_0) ∧ w'.cell? ⟨go39, 1, none⟩ = some (.slice A225_0 (rd_L1 y223 1).length c225_0)) (ds := []) #[F, F, F, F, F, F, F, F, F, F, F, F, F, F, F, F] (by kernel_rfl) rfl rfl ⟨hx224_0, hx225_0⟩ (fun hHeld => ?_); refine with_tabW pandectlaw4_SlotTurns.tab19 pandectlaw4_SlotTurns.bits19 (fun HT_ HW_ => ?_)
                         generalize w112.drew = w113 at HO_9 HO_12 HL222_0 HB HL224_0 HL225_0 HR224_0 HR225_0 hx224_0 hx225_0 hHeld ⊢
                         refine pure_ (i := 0) (N := some 88) (v := ?_) (a' := ?_) #[T, F, F, F, F, F, F, F, F, F, F, F, F, F, F, F] rfl rfl (any_of HT_.out (by kernel_rfl)) (fun _ _ _ h => h) (Or.inl ⟨by rfl, ?_⟩) ?_ ?_
                         rotate_left
                         ·
                          intro w'
                          go_simp
                          with_reducible rfl
                         rotate_left
                         ·
                          simp only [Act.put, List.setIfInBounds_toArray, List.set_cons_zero, List.set_cons_succ, i64_w, i32_w]
                          rfl
                         refine pure_ (i := 1) (N := some 89) (v := ?_) (a' := ?_) #[T, T, F, F, F, F, F, F, F, F, F, F, F, F, F, F] rfl rfl (any_of HT_.out (by kernel_rfl)) (fun _ _ _ h => h) (Or.inl ⟨by rfl, ?_⟩) ?_ ?_
                         rotate_left
                         ·
                          intro w'
                          go_simp
                          with_reducible rfl
                         rotate_left
                         ·
                          simp only [Act.put, List.setIfInBounds_toArray, List.set_cons_zero, List.set_cons_succ, i64_w, i32_w]
                          rfl
                         refine pure_ (i := 3) (N := some 91) (v := ?_) (a' := ?_) #[T, T, F, T, F, F, F, F, F, F, F, F, F, F, F, F] rfl rfl (any_of HT_.out (by kernel_rfl)) (fun _ _ _ h => h) (Or.inl ⟨by rfl, ?_⟩) ?_ ?_
                         rotate_left
                         ·
                          intro w'
                          go_simp
                          with_reducible rfl
                         rotate_left
                         ·
                          simp only [Act.put, List.setIfInBounds_toArray, List.set_cons_zero, List.set_cons_succ, i64_w, i32_w]
                          rfl
                         refine pure_ (i := 4) (N := some 92) (v := ?_) (a' := ?_) #[T, T, F, T, T, F, F, F, F, F, F, F, F, F, F, F] rfl rfl (any_of HT_.out (by kernel_rfl)) (fun _ _ _ h => h) (Or.inl ⟨by rfl, ?_⟩) ?_ ?_
                         rotate_left
                         ·
                          intro w'
                          go_simp
                          with_reducible rfl
                         rotate_left
                         ·
                          simp only [Act.put, List.setIfInBounds_toArray, List.set_cons_zero, List.set_cons_succ, i64_w, i32_w]
                          rfl
                         refine take_ (i := 2) (N := some 90) (v := ?_) (a' := ?_) #[T, T, T, T, T, F, F, F, F, F, F, F, F, F, F, F] rfl rfl (take_ofW HT_.out HW_.out (by kernel_rfl)) (fun _ _ _ h => h) (Or.inl ⟨by rfl, ?_⟩) hHeld ?_ ?_
                         rotate_left
                         ·
                          rintro w' ⟨s0, s1⟩
                          go_simp
                          with_reducible rfl
                         rotate_left
                         ·
                          simp only [Act.put, List.setIfInBounds_toArray, List.set_cons_zero, List.set_cons_succ, i64_w, i32_w]
                          rfl
                         refine take_ (i := 5) (N := some 93) (v := ?_) (a' := ?_) #[T, T, T, T, T, T, F, F, F, F, F, F, F, F, F, F] rfl rfl (take_ofW HT_.out HW_.out (by kernel_rfl)) (fun _ _ _ h => h) (Or.inl ⟨by rfl, ?_⟩) hHeld ?_ ?_
                         rotate_left
                         ·
                          rintro w' ⟨s0, s1⟩
                          go_simp
                          with_reducible rfl
                         rotate_left
                         ·
                          simp only [Act.put, List.setIfInBounds_toArray, List.set_cons_zero, List.set_cons_succ, i64_w, i32_w]
                          rfl
                         refine one_ (i := 6) (N := some 94) #[T, T, T, T, T, T, T, F, F, F, F, F, F, F, F, F] rfl rfl (one_of HT_.out (by kernel_rfl)) (by decide) (fun K hK => ?_)
                         refine goes_ Try.func38 (by kernel_rfl) rfl #[.slice A224_0 (rd_L1 y223 0).length c224_0, .slice A225_0 (rd_L1 y223 1).length c225_0] (by rfl) rfl rfl (by (try simp only [List.map_toArray, List.map_cons, List.map_nil]); first | done | rfl | (simp only [List.length_drop, List.length_take]; rfl)) ?_
                         with_reducible refine (slot_Better.calls kj25 _ _ (rd_L1 y223 0) _ _ (rd_L1 y223 1) t226 t227 t228 t229 _ ?side1 ?side2 ?side3 ?side4 A42.out).mono ?_
                         (case side1 => repeat (first | exact (by repeat (first | (with_reducible exact HR224_0.out) | (with_reducible refine Kd.C_alloc ?_ _) | (with_reducible refine Kd.C_drewN ?_ _) | (with_reducible refine Kd.C_drew ?_) | exact HR224_0.out)) | (with_reducible refine Kd.C_alloc ?_ _) | (with_reducible refine Kd.C_drewN ?_ _) | (with_reducible refine Kd.C_drew ?_)))
                         (case side2 => exact HC224_0.out)
                         (case side3 => repeat (first | exact (by repeat (first | (with_reducible exact HR225_0.out) | (with_reducible refine Kd.C_alloc ?_ _) | (with_reducible refine Kd.C_drewN ?_ _) | (with_reducible refine Kd.C_drew ?_) | exact HR225_0.out)) | (with_reducible refine Kd.C_alloc ?_ _) | (with_reducible refine Kd.C_drewN ?_ _) | (with_reducible refine Kd.C_drew ?_)))
                         (case side4 => exact HC225_0.out)
                         rintro e w114 ⟨v230, rfl, ho0, hb⟩
                         (have HS0_ := (hb.cell (World.block_lt_of_cell? _ _ (hHeld.1))).trans (hHeld.1)); (have HS1_ := (hb.cell (World.block_lt_of_cell? _ _ (hHeld.2))).trans (hHeld.2))
                         refine ⟨_, rfl, ?_⟩
                         (have n0_ := aM (Kd.N_elder' (by (with_reducible repeat (first | apply Kd.N_alloc | apply Kd.N_drewN | apply Kd.N_drew)); exact HO_9.out) (Kd.R_base ho0) hb)); (have n1_ := aM (Kd.R_elder' (by (with_reducible repeat (first | apply rA | apply rN | apply rD)); exact HO_12.out) (Kd.R_base ho0) hb)); (have n2_ := aM (Kd.V_elder' (by (with_reducible repeat (first | apply Kd.V_alloc | apply Kd.V_drewN | apply Kd.V_drew)); exact HL222_0.out) (Kd.R_base ho0) hb)); (have n3_ := aM (Kd.V_elder' (by (with_reducible repeat (first | apply Kd.V_alloc | apply Kd.V_drewN | apply Kd.V_drew)); exact HL224_0.out) (Kd.R_base ho0) hb)); (have n4_ := aM (Kd.V_elder' (by (with_reducible repeat (first | apply Kd.V_alloc | apply Kd.V_drewN | apply Kd.V_drew)); exact HL225_0.out) (Kd.R_base ho0) hb)); (have n5_ := aM (Kd.R_lower (Kd.R_new' ho0 (Kd.R_lt (by (with_reducible repeat (first | apply rA | apply rN | apply rD)); exact HO_12.out))) (below_size (by repeat (first | (with_reducible first | exact HB.out | apply bA | apply bN | apply bD) | exact HB.out))))); (have n6_ := aM (Kd.C_below (by repeat (first | (with_reducible exact HR224_0.out) | (with_reducible refine Kd.C_alloc ?_ _) | (with_reducible refine Kd.C_drewN ?_ _) | (with_reducible refine Kd.C_drew ?_) | exact HR224_0.out)) hb)); (have n7_ := aM (Kd.C_below (by repeat (first | (with_reducible exact HR225_0.out) | (with_reducible refine Kd.C_alloc ?_ _) | (with_reducible refine Kd.C_drewN ?_ _) | (with_reducible refine Kd.C_drew ?_) | exact HR225_0.out)) hb)); (have n8_ := aM (below_step (by repeat (first | (with_reducible first | exact HB.out | apply bA | apply bN | apply bD) | exact HB.out)) hb)); clear HO_9; clear HO_12; clear HL222_0; clear HL224_0; clear HL225_0; clear HR224_0; clear HR225_0; clear HB; (have HO_9 := n0_); (have HO_12 := n1_); (have HL222_0 := n2_); (have HL224_0 := n3_); (have HL225_0 := n4_); (have HO231 := n5_); (have HR224_0 := n6_); (have HR225_0 := n7_); (have HB := n8_); clear n0_ n1_ n2_ n3_ n4_ n5_ n6_ n7_ n8_
                         (try clear hb)
                         (try clear hb2)
                         (try clear hk)
                         (try clear hi)
                         (try clear ho0)
                         refine hK.out _ _ ⟨HS0_, HS1_⟩ (fun hHeld => ?_)
                         clear hK K
                         refine norm_ (a' := ?_) ?_ ?_
                         rotate_left
                         ·
                          show Act.put _ (some 94) _ = _
                          simp only [Act.put, List.setIfInBounds_toArray, List.set_cons_zero, List.set_cons_succ, i64_w, i32_w]
                          rfl
                         refine pure_ (i := 7) (N := some 87) (v := ?_) (a' := ?_) #[T, T, T, T, T, T, T, T, F, F, F, F, F, F, F, F] rfl rfl (any_of HT_.out (by kernel_rfl)) (fun _ _ _ h => h) (Or.inl ⟨by rfl, ?_⟩) ?_ ?_
                         rotate_left
                         ·
                          intro w'
                          go_simp
                          with_reducible rfl
                         rotate_left
                         ·
                          simp only [Act.put, List.setIfInBounds_toArray, List.set_cons_zero, List.set_cons_succ, i64_w, i32_w]
                          rfl
                         refine pure_ (i := 8) (N := some 95) (v := ?_) (a' := ?_) #[T, T, T, T, T, T, T, T, T, F, F, F, F, F, F, F] rfl rfl (any_of HT_.out (by kernel_rfl)) (fun _ _ _ h => h) (Or.inl ⟨by rfl, ?_⟩) ?_ ?_
                         rotate_left
                         ·
                          intro w'
                          go_simp
                          with_reducible rfl
                         rotate_left
                         ·
                          simp only [Act.put, List.setIfInBounds_toArray, List.set_cons_zero, List.set_cons_succ, i64_w, i32_w]
                          rfl
                         refine pure_ (i := 9) (N := some 96) (v := ?_) (a' := ?_) #[T, T, T, T, T, T, T, T, T, T, F, F, F, F, F, F] rfl rfl (any_of HT_.out (by kernel_rfl)) (fun _ _ _ h => h) (Or.inl ⟨by rfl, ?_⟩) ?_ ?_
                         rotate_left
                         ·
                          intro w'
                          go_simp
                          with_reducible rfl
                         rotate_left
                         ·
                          simp only [Act.put, List.setIfInBounds_toArray, List.set_cons_zero, List.set_cons_succ, i64_w, i32_w]
                          rfl
                         refine pure_ (i := 10) (N := some 97) (v := ?_) (a' := ?_) #[T, T, T, T, T, T, T, T, T, T, T, F, F, F, F, F] rfl rfl (any_of HT_.out (by kernel_rfl)) (fun _ _ _ h => h) (Or.inl ⟨by rfl, ?_⟩) ?_ ?_
                         rotate_left
                         ·
                          intro w'
                          go_simp
                          with_reducible rfl
                         rotate_left
                         ·
                          simp only [Act.put, List.setIfInBounds_toArray, List.set_cons_zero, List.set_cons_succ, i64_w, i32_w]
                          rfl
                         refine pure_ (i := 11) (N := some 98) (v := ?_) (a' := ?_) #[T, T, T, T, T, T, T, T, T, T, T, T, F, F, F, F] rfl rfl (any_of HT_.out (by kernel_rfl)) (fun _ _ _ h => h) (Or.inl ⟨by rfl, ?_⟩) ?_ ?_
                         rotate_left
                         ·
                          intro w'
                          go_simp
                          with_reducible rfl
                         rotate_left
                         ·
                          simp only [Act.put, List.setIfInBounds_toArray, List.set_cons_zero, List.set_cons_succ, i64_w, i32_w]
                          rfl
                         refine pure_ (i := 12) (N := some 16) (v := ?_) (a' := ?_) #[T, T, T, T, T, T, T, T, T, T, T, T, T, F, F, F] rfl rfl (any_of HT_.out (by kernel_rfl)) (fun _ _ _ h => h) (Or.inl ⟨by rfl, ?_⟩) ?_ ?_
                         rotate_left
                         ·
                          intro w'
                          go_simp
                          with_reducible rfl
                         rotate_left
                         ·
                          simp only [Act.put, List.setIfInBounds_toArray, List.set_cons_zero, List.set_cons_succ, i64_w, i32_w]
                          rfl
                         refine pure_ (i := 13) (N := some 17) (v := ?_) (a' := ?_) #[T, T, T, T, T, T, T, T, T, T, T, T, T, T, F, F] rfl rfl (any_of HT_.out (by kernel_rfl)) (fun _ _ _ h => h) (Or.inl ⟨by rfl, ?_⟩) ?_ ?_
                         rotate_left
                         ·
                          intro w'
                          go_simp
                          with_reducible rfl
                         rotate_left
                         ·
                          simp only [Act.put, List.setIfInBounds_toArray, List.set_cons_zero, List.set_cons_succ, i64_w, i32_w]
                          rfl
                         refine pure_ (i := 14) (N := some 18) (v := ?_) (a' := ?_) #[T, T, T, T, T, T, T, T, T, T, T, T, T, T, T, F] rfl rfl (any_of HT_.out (by kernel_rfl)) (fun _ _ _ h => h) (Or.inl ⟨by rfl, ?_⟩) ?_ ?_
                         rotate_left
                         ·
                          intro w'
                          go_simp
                          with_reducible rfl
                         rotate_left
                         ·
                          simp only [Act.put, List.setIfInBounds_toArray, List.set_cons_zero, List.set_cons_succ, i64_w, i32_w]
                          rfl
                         refine pure_ (i := 15) (N := some 19) (v := ?_) (a' := ?_) #[T, T, T, T, T, T, T, T, T, T, T, T, T, T, T, T] rfl rfl (any_of HT_.out (by kernel_rfl)) (fun _ _ _ h => h) (Or.inl ⟨by rfl, ?_⟩) ?_ ?_
                         rotate_left
                         ·
                          intro w'
                          go_simp
                          with_reducible rfl
                         rotate_left
                         ·
                          simp only [Act.put, List.setIfInBounds_toArray, List.set_cons_zero, List.set_cons_succ, i64_w, i32_w]
                          rfl
                         refine done_ (done_of HT_.out (by kernel_rfl)) ?_
                         (have p101 : 0 ≤ ((ji36) : Int) := of_decide_eq_true (by first | (with_reducible assumption) | assumption)); (have q101 : ((ji36) : Int) < ((x9_2.length : Int) : Int) := of_decide_eq_true (by first | (with_reducible assumption) | assumption)); (obtain ⟨ce101, hcl101, hM101, hcc101, hfr101⟩ := Kd.N_elem HO_9.out [] ((ji36) : Int) p101 q101); (obtain ⟨ua101_0, uc101_0, rfl, ul101_0, ge101_0⟩ := Kd.FK_slice_open hM101); (have hx101_0 := hcc101 0 _ rfl); (have hf101_0 := hfr101 0)
                         (try simp only [show ((Kd.slice 5 (Kd.int .u8))).sz = 1 from rfl, Nat.mul_one, Nat.add_zero] at hx101_0)
                         (try simp only [show ((Kd.slice 5 (Kd.int .u8))).sz = 1 from rfl, Nat.mul_one, Nat.add_zero] at hf101_0)
                         clear hcl101 hcc101 hfr101 hM101; (replace p101 := eq_true p101); (replace q101 := eq_true q101); (have HX115 := aM (show Kd.N (Kd.slice 5 (Kd.int .u8)) 22 w114 w.heap.size (fun k_ => some k_ ≠ (v230 : Value).ownBlock) (.slice (some ⟨go39, 0, none⟩) x9_2.length co110) y223 from (by (with_reducible repeat (first | apply Kd.N_alloc | apply Kd.N_drewN | apply Kd.N_drew)); exact Kd.N_mono HO_9.out (fun _ hk => hk.2)))); (obtain ⟨ce115, hcl115, hM115, hcc115, hfr115⟩ := Kd.N_elem HX115.out [] ((ji36) : Int) (of_decide_eq_true (by first | (with_reducible assumption) | assumption)) (by have h_ : ((ji36) : Int) < ((x9_2.length : Int) : Int) := of_decide_eq_true (by first | (with_reducible assumption) | assumption); first | exact h_ | (have e_ := (Kd.N_reads' HO_9.out).1; omega) | simpa using h_)); (obtain ⟨ua115_0, uc115_0, rfl, ul115_0, ge115_0⟩ := Kd.FK_slice_open hM115); (have HP115 := Kd.N_seg HX115.out ((ji36) : Int) (of_decide_eq_true (by first | (with_reducible assumption) | assumption)) (by have h_ : ((ji36) : Int) < ((x9_2.length : Int) : Int) := of_decide_eq_true (by first | (with_reducible assumption) | assumption); first | exact h_ | (have e_ := (Kd.N_reads' HO_9.out).1; omega) | simpa using h_) (seg := [.slice Ao106 t192.length co106]) (j := 0) hcl115 hcc115 (show 1 ≤ 1 from by decide) (x' := t192) (Short.fkR (Kd.R_mono (ok' := (fun k_ => ((fun k_ => some k_ ≠ (v230 : Value).ownBlock)) k_ ∧ k_ ≠ go39)) (Kd.R_apart' (HO_12.out) (Kd.N_typed HO_9.out) (by decide)) (fun k_ hk => ⟨hk.1.2, fun e_ => (hk.2) (by rw [e_]; rfl)⟩))) (fun _ hk => hk)); (have hx115_0 := hcc115 0 _ rfl)
                         (try simp only [show ((Kd.slice 5 (Kd.int .u8))).sz = 1 from rfl, Nat.mul_one, Nat.add_zero] at hx115_0)
                         have hf115_0 := hfr115 0
                         (try simp only [show ((Kd.slice 5 (Kd.int .u8))).sz = 1 from rfl, Nat.mul_one, Nat.add_zero] at hf115_0)
                         clear hcl115 hcc115 hfr115 hM115
                         (try simp only [show ((Kd.slice 5 (Kd.int .u8))).sz = 1 from rfl, Nat.mul_one, Nat.add_zero] at HP115)
                         (try simp only [show ((Kd.slice 5 (Kd.int .u8))).sz = 1 from rfl, Nat.mul_one, Nat.add_zero] at HP115)
                         try go_wp2_with (first | ((with_reducible refine gate_store (t := 22) (p := 170) rfl ?_); refine store_event (t := 22) (p := 170) (v := ?vo_w116) (w1 := (w114.setCell ⟨go39, ((ji36) : Int).toNat, none⟩ (.slice Ao106 t192.length co106))) ?hg ?ho ?hn ?hr ?_; (case ho => rfl); (case hg => rfl); (case hn => rfl); (case hr => first | (go_simp; done) | (go_simp; rfl)); intro w116 hw; have hg : w114.grownBy w116 (some go39) := (by rw [hw]; exact HP115.2); have hp_ : Kd.N (Kd.slice 5 (Kd.int .u8)) 22 w116 w.heap.size (fun k_ => some k_ ≠ (v230 : Value).ownBlock) (.slice (some ⟨go39, 0, none⟩) x9_2.length co110) y239 := (by rw [hw, Ny239.out]; exact HP115.1); clear HP115; have n0_ := aM (hp_); have n1_ := aM (Kd.V_afterv (v := (.slice (some ⟨go39, 0, none⟩) x9_2.length co110)) (v1 := (.slice (some ⟨go39, 0, none⟩) x9_2.length co110)) (ok := (fun k_ => some k_ ≠ (.slice Ao106 t192.length co106 : Value).ownBlock ∧ some k_ ≠ (v230 : Value).ownBlock)) (by (with_reducible repeat (first | apply Kd.V_alloc | apply Kd.V_drewN | apply Kd.V_drew)); exact Kd.V_mono HL222_0.out (fun _ hk => ⟨⟨hk.1.1.1, hk.2⟩, hk.1.2⟩)) hg (.inl rfl)); have n2_ := aM (Kd.V_afterv (v := (.slice (some ⟨go39, 0, none⟩) x9_2.length co110)) (v1 := (.slice (some ⟨go39, 0, none⟩) x9_2.length co110)) (ok := (fun k_ => some k_ ≠ (.slice Ao106 t192.length co106 : Value).ownBlock ∧ some k_ ≠ (v230 : Value).ownBlock)) (by (with_reducible repeat (first | apply Kd.V_alloc | apply Kd.V_drewN | apply Kd.V_drew)); exact Kd.V_mono HL224_0.out (fun _ hk => ⟨⟨hk.1.1, hk.2⟩, hk.1.2⟩)) hg (.inl rfl)); have n3_ := aM (Kd.V_afterv (v := (.slice (some ⟨go39, 0, none⟩) x9_2.length co110)) (v1 := (.slice (some ⟨go39, 0, none⟩) x9_2.length co110)) (ok := (fun k_ => some k_ ≠ (.slice Ao106 t192.length co106 : Value).ownBlock ∧ some k_ ≠ (v230 : Value).ownBlock)) (by (with_reducible repeat (first | apply Kd.V_alloc | apply Kd.V_drewN | apply Kd.V_drew)); exact Kd.V_mono HL225_0.out (fun _ hk => ⟨⟨hk.1.1, hk.2⟩, hk.1.2⟩)) hg (.inl rfl)); have n4_ := aM (Kd.R_over' (v := (.slice (some ⟨go39, 0, none⟩) x9_2.length co110)) (by (with_reducible repeat (first | apply rA | apply rN | apply rD)); exact HO231.out) (Kd.N_typed HO_9.out) (by decide) hg); have n5_ := aM ((by rw [hw]; exact below_set (HB.out) GB39.out : Below w.heap.size w w116)); clear HO_9; clear HL222_0; clear HL224_0; clear HL225_0; clear HO231; clear HB; clear HO_12; have HO_9 := n0_; have HL222_0 := n1_; have HL224_0 := n2_; have HL225_0 := n3_; have HO231 := n4_; have HB := n5_; clear n0_ n1_ n2_ n3_ n4_ n5_; clear hg hw hp_))
                         go_roundg kj25
                         case measure => have := HJ6.out; have := HK2.out; have := HJ25.out; omega
                         case rel => exact ⟨(y239), (wrap64 (x10_2 + 1)), (by first | rfl | (simp; done) | (simp [*]; done)), H', ⟨by have := HJ6.out; have := HK2.out; have := HJ25.out; omega⟩, ⟨by (with_reducible repeat (first | apply Kd.N_alloc | apply Kd.N_drewN | apply Kd.N_drew)); exact Kd.N_mono HO_9.out (fun _ hk => trivial)⟩, ⟨by repeat (first | (with_reducible first | exact HB.out | apply bA | apply bN | apply bD) | exact HB.out)⟩⟩
                        ·
                         rw [if_neg c102] at H
                         exact absurd H (by simp)
                       ·
                        rw [if_neg c100] at H
                        exact absurd H (by simp)
                      ·
                       (rw [if_neg c99] at H); (have c99b0 : (x10_2 == 0) = false := beq_eq_false_iff_ne.mpr c99); (have c99b1 : (x10_2 != 0) = true := bne_iff_ne.mpr c99)
                       by_cases c117 : t229 = 0
                       ·
                        (rw [if_pos c117] at H); (have c117b0 : (t229 == 0) = true := beq_iff_eq.mpr c117); (have c117b1 : (t229 != 0) = false := bne_eq_false_iff_eq.mpr c117); clear c117
                        by_cases c118 : t226 = (wrap64 (Int.tmod (IntKind.u64.wrap ((IntKind.u64.wrap ((IntKind.u64.wrap (a0)) + (IntKind.u64.wrap (x10_2)))) + 1)) 2))
                        ·
                         (rw [if_pos c118] at H); (have c118b0 : (t226 == (wrap64 (Int.tmod (IntKind.u64.wrap ((IntKind.u64.wrap ((IntKind.u64.wrap (a0)) + (IntKind.u64.wrap (x10_2)))) + 1)) 2))) = true := beq_iff_eq.mpr c118); (have c118b1 : (t226 != (wrap64 (Int.tmod (IntKind.u64.wrap ((IntKind.u64.wrap ((IntKind.u64.wrap (a0)) + (IntKind.u64.wrap (x10_2)))) + 1)) 2))) = false := bne_eq_false_iff_eq.mpr c118); clear c118
                         by_cases c119 : t227 = (IntKind.u64.wrap ((IntKind.u64.wrap ((IntKind.u64.wrap (a0)) + (IntKind.u64.wrap (x10_2)))) - 1))
                         ·
                          (rw [if_pos c119] at H); (have c119b0 : (t227 == (IntKind.u64.wrap ((IntKind.u64.wrap ((IntKind.u64.wrap (a0)) + (IntKind.u64.wrap (x10_2)))) - 1))) = true := beq_iff_eq.mpr c119); (have c119b1 : (t227 != (IntKind.u64.wrap ((IntKind.u64.wrap ((IntKind.u64.wrap (a0)) + (IntKind.u64.wrap (x10_2)))) - 1))) = false := bne_eq_false_iff_eq.mpr c119); clear c119; (obtain ⟨ji120, hji120⟩ : ∃ j_ : Int, (wrap64 (x10_2 - 1)) = j_ := ⟨_, rfl⟩); (replace H : (if 0 ≤ (ji120) then (if (ji120) < (l1.length : Int) then (if (strOfNums t228).toList = (strOfNums (rd_L1 l1 (ji120))).toList then (if ((rd_L1 x9_2 (ji36)).length : Int) = 128 then (pandectlaw4_SlotTurns.l0 kj25 a0 l1 a2 a3 (y223.set ((ji36) : Int).toNat t192) (wrap64 (x10_2 + 1))) else (none)) else (none)) else (none)) else (none)) = some r := by first | (rw [hji120] at H; exact H) | (simp only [hji120] at H ⊢; exact H))
                          (try rw [hji120] at A42)
                          have hji120w : (IntKind.i64.wrap (x10_2 - 1)) = ji120 := (i64_w _).trans hji120
                          by_cases c121 : 0 ≤ (ji120)
                          ·
                           (rw [if_pos c121] at H); (have c121b0 : decide (0 ≤ (ji120)) = true := decide_eq_true c121); clear c121
                           by_cases c122 : (ji120) < (l1.length : Int)
                           ·
                            (rw [if_pos c122] at H); (have c122b0 : decide ((ji120) < (l1.length : Int)) = true := decide_eq_true c122); clear c122
                            by_cases c123 : (strOfNums t228).toList = (strOfNums (rd_L1 l1 (ji120))).toList
                            ·
                             (rw [if_pos c123] at H); (have c123b0 : ((strOfNums t228).toList == (strOfNums (rd_L1 l1 (ji120))).toList) = true := beq_iff_eq.mpr c123); (have c123b1 : ((strOfNums t228).toList != (strOfNums (rd_L1 l1 (ji120))).toList) = false := bne_eq_false_iff_eq.mpr c123); clear c123; (obtain ⟨y242, hy242⟩ : ∃ y_ : List (List Int), y_ = (y223.set ((ji36) : Int).toNat t192) := ⟨_, rfl⟩); (replace H : (if ((rd_L1 x9_2 (ji36)).length : Int) = 128 then (pandectlaw4_SlotTurns.l0 kj25 a0 l1 a2 a3 y242 (wrap64 (x10_2 + 1))) else (none)) = some r := by first | (rw [hy242]; with_reducible exact H) | (have H2_ := (Option.bind_some _ _).symm.trans H; rw [hy242]; with_reducible exact H2_) | (have H2_ := (Option.bind_some _ _).symm.trans H; with_reducible exact H2_) | with_reducible exact H | (rw [hy242]; exact H) | exact H); (have Ny242 := aM hy242); clear hy242
                             by_cases c125 : ((rd_L1 x9_2 (ji36)).length : Int) = 128
                             ·
                              (rw [if_pos c125] at H); (have c125b0 : (((rd_L1 x9_2 (ji36)).length : Int) == 128) = true := beq_iff_eq.mpr c125); (have c125b1 : (((rd_L1 x9_2 (ji36)).length : Int) != 128) = false := bne_eq_false_iff_eq.mpr c125); clear c125; (have H' := aM H); clear H
                              try go_wp2_with (first | ((with_reducible refine gate_dst (N := 66) rfl ?_); (try (refine gate_guard (by rfl) ?_; dsimp only)); refine Kd.R_lit (Kd.int .u8) _ 5 ?hg (N := 66) ?hd (xs := ([] : List Int)) (inner := []) (ok := fun _ => True) (okp := fun _ => True) ?hr ?hp (fun _ hk => hk) trivial (Below.refl _ _) (Nat.le_refl _) (by simp) ?_; (case hd => rfl); (case hg => rfl); (case hr => first | (go_simp; done) | (go_simp; rfl)); (case hp => exact (Reps.none _ _)); intro v215 w126 ho127 hb hg_ hnew_; clear hg_ hnew_; (first | rw [← Ny214.out] at ho127 | (simp only [Int.reduceToNat] at ho127; rw [← Ny214.out] at ho127)); have n0_ := aM (Kd.N_elder' (by (with_reducible repeat (first | apply Kd.N_alloc | apply Kd.N_drewN | apply Kd.N_drew)); exact HO_9.out) (Kd.R_base ho127) hb); have n1_ := aM (Kd.R_elder' (by (with_reducible repeat (first | apply rA | apply rN | apply rD)); exact HO_12.out) (Kd.R_base ho127) hb); have n2_ := aM (Kd.R_lower (Kd.R_new' ho127 (Kd.R_lt (by (with_reducible repeat (first | apply rA | apply rN | apply rD)); exact HO_12.out))) (below_size (by repeat (first | (with_reducible first | exact HB.out | apply bA | apply bN | apply bD) | exact HB.out)))); have n3_ := aM (below_step (by repeat (first | (with_reducible first | exact HB.out | apply bA | apply bN | apply bD) | exact HB.out)) hb); clear HO_9; clear HO_12; clear HB; have HO_9 := n0_; have HO_12 := n1_; have HO216 := n2_; have HB := n3_; clear n0_ n1_ n2_ n3_; clear hb ho127; obtain ⟨Ao129, co129, eo129⟩ := Kd.R_slice HO_12.out; subst eo129) | ((with_reducible refine gate_builtin (b := .append) (xs := #[.tmp 66, .tmp 67]) rfl ?_); (try (refine gate_guard (by rfl) ?_; dsimp only)); at_builtin; refine Kd.R_append_rows (Kd.int .u8) (w0 := w) w.heap.size rfl (.tmp 66) (.tmp 67) 22 5 (.int .u8 0) 1 rfl Try.underlying22 info5 rfl (by decide) (by omega) v215 y214 t192 _ _ _ (fun k_ => some k_ ≠ (.slice Ao129 t192.length co129 : Value).ownBlock) (fun _ => False) rfl rfl ?aO ?aR (fun _ _ h => h) (fun _ h => h.elim) ?aF ?aB ?aS ?aL ?_; (case aR => repeat (first | exact (Kd.R_reads' HO_12.out).2.2 | (with_reducible refine Kd.C_alloc ?_ _) | (with_reducible refine Kd.C_drewN ?_ _) | (with_reducible refine Kd.C_drew ?_))); (case aB => exact (by repeat (first | (with_reducible first | exact HB.out | apply bA | apply bN | apply bD) | exact HB.out))); (case aF => exact (fun k_ hk => Kd.fresh' (Kd.R_lt (by (with_reducible repeat (first | apply rA | apply rN | apply rD)); exact HO_12.out)) k_ hk)); (case aO => exact (by (with_reducible repeat (first | apply rA | apply rN | apply rD)); exact Kd.R_mono HO216.out (fun _ hk => hk.2))); (case aS => exact (below_size (by repeat (first | (with_reducible first | exact HB.out | apply bA | apply bN | apply bD) | exact HB.out)))); (case aL => have := LMc31.out; omega); intro v218 w128 ho hb hg hat; rw [← Ny217.out] at ho; have n0_ := aM (Kd.N_afterv (ok := (fun k_ => some k_ ≠ (.slice Ao129 t192.length co129 : Value).ownBlock)) (by (with_reducible repeat (first | apply Kd.N_alloc | apply Kd.N_drewN | apply Kd.N_drew)); exact HO_9.out) hg hat); have n1_ := aM (Kd.R_after (ok := (fun _ => True)) (by (with_reducible repeat (first | apply rA | apply rN | apply rD)); exact HO_12.out) hg hat); have n2_ := aM (hb); have n3_ := aM (ho); clear HO_9; clear HO_12; clear HB; clear HO216; have HO_9 := n0_; have HO_12 := n1_; have HB := n2_; have HO219 := n3_; clear n0_ n1_ n2_ n3_; clear ho hb hg hat; obtain ⟨Ao130, co130, eo130⟩ := Kd.R_slice HO219.out; subst eo130; have p220 : 0 ≤ ((ji32) : Int) := of_decide_eq_true (by first | (with_reducible assumption) | assumption); have q220 : (ji32) < (y217.length : Int) := of_decide_eq_true (by first | (with_reducible assumption) | assumption); obtain ⟨ad220, e220, hx220_0⟩ := Kd.at_int (Kd.R_reads' HO219.out).2.2 (ji32) p220 q220; cases e220; replace p220 := eq_true p220; replace q220 := eq_true q220; have p35 : 0 ≤ ((ji32) : Int) := of_decide_eq_true (by first | (with_reducible assumption) | assumption); have q35 : ((ji32) : Int) < ((y217.length : Int) : Int) := of_decide_eq_true (by first | (with_reducible assumption) | assumption); obtain ⟨go35, co35, eo35, gb35, gl35, cl35, HG35⟩ := Kd.R_form HO219.out (by omega); (first | cases eo35 | (injection eo35 with ea_ en_ ec_; (first | subst ea_ | (injection ea_ with ea_; subst ea_)); subst ec_; clear en_)); have GB35 := aM gb35; have GG35 := aM HG35; clear gb35 gl35 HG35; (first | simp only [add_plain] at hx220_0 | skip); obtain ⟨hx35_0, hf35_0⟩ := Kd.R_celln 0 HO219.out ((ji32) : Int) p35 q35; replace p35 := eq_true p35; replace q35 := eq_true q35; obtain ⟨hy131_, hz131_⟩ := Kd.R_celln 0 HO219.out ((ji32) : Int) (of_decide_eq_true (by first | (with_reducible assumption) | assumption)) (of_decide_eq_true (by first | (with_reducible assumption) | assumption)); have HP131 := Kd.R_putg HO219.out ((ji32) : Int) (Go.bits .xor .u8 (rd y217 (ji32)) a3)) | ((with_reducible refine gate_store (t := 5) (p := 76) rfl ?_); refine store_event (t := 5) (p := 76) (v := ?vo_w132) (w1 := (w128.setCell ⟨go35, ((ji32) : Int).toNat, none⟩ (.int .u8 (Go.bits .xor .u8 (rd y217 (ji32)) a3)))) ?hg ?ho ?hn ?hr ?_; (case ho => rfl); (case hg => rfl); (case hn => rfl); (case hr => first | (go_simp; done) | (go_simp; rfl)); intro w132 hw; have hg : w128.grownBy w132 (some go35) := (by rw [hw]; exact HP131.2); have hp_ : Kd.R (Kd.int .u8) 5 w132 w.heap.size (fun k_ => some k_ ≠ (.slice Ao129 t192.length co129 : Value).ownBlock) (.slice (some ⟨go35, 0, none⟩) y217.length co130) y221 := (by rw [hw, Ny221.out]; exact HP131.1); clear HP131; have n0_ := aM (Kd.N_afterv (v := (.slice (some ⟨go35, 0, none⟩) y217.length co130)) (v1 := (.slice (some ⟨go35, 0, none⟩) y217.length co130)) (ok := (fun k_ => some k_ ≠ (.slice Ao129 t192.length co129 : Value).ownBlock)) (by (with_reducible repeat (first | apply Kd.N_alloc | apply Kd.N_drewN | apply Kd.N_drew)); exact HO_9.out) hg (.inl rfl)); have n1_ := aM (Kd.R_after (v := (.slice (some ⟨go35, 0, none⟩) y217.length co130)) (v1 := (.slice (some ⟨go35, 0, none⟩) y217.length co130)) (ok := (fun _ => True)) (by (with_reducible repeat (first | apply rA | apply rN | apply rD)); exact HO_12.out) hg (.inl rfl)); have n2_ := aM (hp_); have n3_ := aM ((by rw [hw]; exact below_set (HB.out) GB35.out : Below w.heap.size w w132)); clear HO_9; clear HO_12; clear HO219; clear HB; have HO_9 := n0_; have HO_12 := n1_; have HO219 := n2_; have HB := n3_; clear n0_ n1_ n2_ n3_; clear hg hw hp_; obtain ⟨Ao133, co133, eo133⟩ := Kd.N_slice HO_9.out; subst eo133; have p222 : 0 ≤ ((ji36) : Int) := of_decide_eq_true (by first | (with_reducible assumption) | assumption); have q222 : (ji36) < (x9_2.length : Int) := of_decide_eq_true (by first | (with_reducible assumption) | assumption); obtain ⟨ad222, A222_0, c222_0, e222, hx222_0, hl222_0, hi222_0⟩ := at_L1 (Kd.N_reads' HO_9.out).2.2 (ji36) p222 q222; cases e222; obtain ⟨ce222, hce222, hMe222, hcc222⟩ := Kd.N_get HO_9.out [] (ji36) p222 (by first | exact q222 | exact of_decide_eq_true (by first | (with_reducible assumption) | assumption) | (have e_ := (Kd.N_reads' HO_9.out).1; omega)); obtain ⟨ua222_0, uc222_0, rfl, ul222_0, ge222_0⟩ := Kd.FK_slice_open hMe222; have hv222_0 := hcc222 0 _ rfl; rw [Nat.add_zero, show ((Kd.slice 5 (Kd.int .u8))).sz = 1 from rfl, Nat.mul_one] at hv222_0; replace hv222_0 := Option.some.inj (hv222_0.symm.trans hx222_0); injection hv222_0 with hva_ hvn_ hvc_; rw [hva_] at ge222_0; rw [hvc_] at ul222_0; have HL222_0 := aM (show Kd.V (Kd.int .u8) 5 _ w.heap.size _ _ (rd_L1 x9_2 (ji36)) from Kd.V_mk ul222_0 ge222_0); clear hva_ hvn_ hvc_ ge222_0 ul222_0; clear hcc222 hce222; have HR222_0 := aM hi222_0; have HC222_0 := aM hl222_0; clear hi222_0 hl222_0; replace p222 := eq_true p222; replace q222 := eq_true q222; have p39 : 0 ≤ ((ji36) : Int) := of_decide_eq_true (by first | (with_reducible assumption) | assumption); have q39 : ((ji36) : Int) < ((x9_2.length : Int) : Int) := of_decide_eq_true (by first | (with_reducible assumption) | assumption); obtain ⟨go39, co39, eo39, gb39, gl39, cl39, HG39⟩ := Kd.N_form HO_9.out (by omega); (first | cases eo39 | (injection eo39 with ea_ en_ ec_; (first | subst ea_ | (injection ea_ with ea_; subst ea_)); subst ec_; clear en_)); have GB39 := aM gb39; have GG39 := aM HG39; clear gb39 gl39 HG39; (first | simp only [add_plain] at hx222_0 | skip); obtain ⟨ce39, hcl39, hM39, hcc39, hfr39⟩ := Kd.N_elem HO_9.out [] ((ji36) : Int) p39 q39; obtain ⟨ua39_0, uc39_0, rfl, ul39_0, ge39_0⟩ := Kd.FK_slice_open hM39; have hx39_0 := hcc39 0 _ rfl; have hf39_0 := hfr39 0; (try simp only [show ((Kd.slice 5 (Kd.int .u8))).sz = 1 from rfl, Nat.mul_one, Nat.add_zero] at hx39_0); (try simp only [show ((Kd.slice 5 (Kd.int .u8))).sz = 1 from rfl, Nat.mul_one, Nat.add_zero] at hf39_0); clear hcl39 hcc39 hfr39 hM39; replace p39 := eq_true p39; replace q39 := eq_true q39; have HX134 := aM (show Kd.N (Kd.slice 5 (Kd.int .u8)) 22 w132 w.heap.size (fun k_ => some k_ ≠ (.slice Ao129 t192.length co129 : Value).ownBlock) (.slice (some ⟨go39, 0, none⟩) x9_2.length co133) x9_2 from (by (with_reducible repeat (first | apply Kd.N_alloc | apply Kd.N_drewN | apply Kd.N_drew)); exact Kd.N_mono HO_9.out (fun _ hk => hk.1))); obtain ⟨ce134, hcl134, hM134, hcc134, hfr134⟩ := Kd.N_elem HX134.out [] ((ji36) : Int) (of_decide_eq_true (by first | (with_reducible assumption) | assumption)) (by have h_ : ((ji36) : Int) < ((x9_2.length : Int) : Int) := of_decide_eq_true (by first | (with_reducible assumption) | assumption); first | exact h_ | (have e_ := (Kd.N_reads' HO_9.out).1; omega) | simpa using h_); obtain ⟨ua134_0, uc134_0, rfl, ul134_0, ge134_0⟩ := Kd.FK_slice_open hM134; have HP134 := Kd.N_seg HX134.out ((ji36) : Int) (of_decide_eq_true (by first | (with_reducible assumption) | assumption)) (by have h_ : ((ji36) : Int) < ((x9_2.length : Int) : Int) := of_decide_eq_true (by first | (with_reducible assumption) | assumption); first | exact h_ | (have e_ := (Kd.N_reads' HO_9.out).1; omega) | simpa using h_) (seg := [.slice (some ⟨go35, 0, none⟩) y217.length co130]) (j := 0) hcl134 hcc134 (show 1 ≤ 1 from by decide) (x' := y221) (Short.fkR (Kd.R_mono (ok' := (fun k_ => ((fun k_ => some k_ ≠ (.slice Ao129 t192.length co129 : Value).ownBlock)) k_ ∧ k_ ≠ go39)) (Kd.R_apart' (HO219.out) (Kd.N_typed HO_9.out) (by decide)) (fun k_ hk => ⟨hk.1, fun e_ => (hk.2) (by rw [e_]; rfl)⟩))) (fun _ hk => hk); have hx134_0 := hcc134 0 _ rfl; (try simp only [show ((Kd.slice 5 (Kd.int .u8))).sz = 1 from rfl, Nat.mul_one, Nat.add_zero] at hx134_0); have hf134_0 := hfr134 0; (try simp only [show ((Kd.slice 5 (Kd.int .u8))).sz = 1 from rfl, Nat.mul_one, Nat.add_zero] at hf134_0); clear hcl134 hcc134 hfr134 hM134; (try simp only [show ((Kd.slice 5 (Kd.int .u8))).sz = 1 from rfl, Nat.mul_one, Nat.add_zero] at HP134); (try simp only [show ((Kd.slice 5 (Kd.int .u8))).sz = 1 from rfl, Nat.mul_one, Nat.add_zero] at HP134)) | ((with_reducible refine gate_store (t := 22) (p := 86) rfl ?_); refine store_event (t := 22) (p := 86) (v := ?vo_w135) (w1 := (w132.setCell ⟨go39, ((ji36) : Int).toNat, none⟩ (.slice (some ⟨go35, 0, none⟩) y217.length co130))) ?hg ?ho ?hn ?hr ?_; (case ho => rfl); (case hg => rfl); (case hn => rfl); (case hr => first | (go_simp; done) | (go_simp; rfl)); intro w135 hw; have hg : w132.grownBy w135 (some go39) := (by rw [hw]; exact HP134.2); have hp_ : Kd.N (Kd.slice 5 (Kd.int .u8)) 22 w135 w.heap.size (fun k_ => some k_ ≠ (.slice Ao129 t192.length co129 : Value).ownBlock) (.slice (some ⟨go39, 0, none⟩) x9_2.length co133) y223 := (by rw [hw, Ny223.out]; exact HP134.1); clear HP134; have n0_ := aM (hp_); have n1_ := aM (Kd.R_over' (v := (.slice (some ⟨go39, 0, none⟩) x9_2.length co133)) (by (with_reducible repeat (first | apply rA | apply rN | apply rD)); exact HO_12.out) (Kd.N_typed HO_9.out) (by decide) hg); have n2_ := aM (Kd.V_afterv (v := (.slice (some ⟨go39, 0, none⟩) x9_2.length co133)) (v1 := (.slice (some ⟨go39, 0, none⟩) x9_2.length co133)) (ok := (fun k_ => some k_ ≠ (.slice Ao129 t192.length co129 : Value).ownBlock ∧ some k_ ≠ (.slice (some ⟨go35, 0, none⟩) y217.length co130 : Value).ownBlock)) (by (with_reducible repeat (first | apply Kd.V_alloc | apply Kd.V_drewN | apply Kd.V_drew)); exact HL222_0.out) hg (.inl rfl)); have n3_ := aM ((by rw [hw]; exact below_set (HB.out) GB39.out : Below w.heap.size w w135)); clear HO_9; clear HO_12; clear HL222_0; clear HB; clear HO219; have HO_9 := n0_; have HO_12 := n1_; have HL222_0 := n2_; have HB := n3_; clear n0_ n1_ n2_ n3_; clear hg hw hp_))
                              (have n0_ := aM (Kd.N_drew HO_9.out)); (have n1_ := aM (Kd.R_drew HO_12.out)); (have n2_ := aM (Kd.V_drew HL222_0.out)); (have n3_ := aM (below_drew1 HB.out)); clear HO_9; clear HO_12; clear HL222_0; clear HB; (have HO_9 := n0_); (have HO_12 := n1_); (have HL222_0 := n2_); (have HB := n3_); clear n0_ n1_ n2_ n3_; (have p224 : 0 ≤ (0 : Int) := (by omega)); (have q224 : 0 < (y223.length : Int) := (by have h_ : (0 : Int) < ((x9_2.length : Int) : Int) := of_decide_eq_true (by first | (with_reducible assumption) | assumption); first | (have e_ := (Kd.N_reads' HO_9.out).1; omega) | simpa only [Ny223.out, List.length_set] using h_)); (have ql224 : ((0 : Int) < ((x9_2.length : Int) : Int)) = True := eq_true (of_decide_eq_true (by first | (with_reducible assumption) | assumption)))
                              (try have qn224 : (0 < x9_2.length) = True := eq_true (by have h_ : (0 : Int) < ((x9_2.length : Int) : Int) := of_decide_eq_true (by first | (with_reducible assumption) | assumption); omega))
                              (obtain ⟨ad224, A224_0, c224_0, e224, hx224_0, hl224_0, hi224_0⟩ := at_L1 (Kd.N_reads' HO_9.out).2.2 0 p224 q224); (obtain rfl : (⟨go39, 0, none⟩ : Addr) = ad224 := (by injection e224)); (obtain ⟨ce224, hce224, hMe224, hcc224⟩ := Kd.N_get HO_9.out [] 0 p224 (by first | exact q224 | exact of_decide_eq_true (by first | (with_reducible assumption) | assumption) | (have e_ := (Kd.N_reads' HO_9.out).1; omega))); (obtain ⟨ua224_0, uc224_0, rfl, ul224_0, ge224_0⟩ := Kd.FK_slice_open hMe224); (have hv224_0 := hcc224 0 _ rfl); (rw [Nat.add_zero, show ((Kd.slice 5 (Kd.int .u8))).sz = 1 from rfl, Nat.mul_one] at hv224_0); (replace hv224_0 := Option.some.inj (hv224_0.symm.trans hx224_0))
                              injection hv224_0 with hva_ hvn_ hvc_
                              (rw [hva_] at ge224_0); (rw [hvc_] at ul224_0); (have HL224_0 := aM (show Kd.V (Kd.int .u8) 5 _ w.heap.size _ _ (rd_L1 y223 0) from Kd.V_mk ul224_0 ge224_0)); clear hva_ hvn_ hvc_ ge224_0 ul224_0; clear hcc224 hce224
                              (first | simp only [add_plain] at hx224_0 | simp only [add_at] at hx224_0 | simp only [Addr.add, Nat.zero_add] at hx224_0 | skip)
                              have qi224 : (0 < y223.length) = True := eq_true (by omega)
                              (try rw [show ((0 : Int)).toNat = 0 from rfl] at hx224_0)
                              (try rw [Addr.add_zero'] at hx224_0)
                              (have HR224_0 := aM hi224_0); (have HC224_0 := aM hl224_0); clear hi224_0 hl224_0; (replace p224 := eq_true p224); (replace q224 := eq_true q224); (have p225 : 0 ≤ (1 : Int) := (by omega)); (have q225 : 1 < (y223.length : Int) := (by have h_ : (1 : Int) < ((x9_2.length : Int) : Int) := of_decide_eq_true (by first | (with_reducible assumption) | assumption); first | (have e_ := (Kd.N_reads' HO_9.out).1; omega) | simpa only [Ny223.out, List.length_set] using h_)); (have ql225 : ((1 : Int) < ((x9_2.length : Int) : Int)) = True := eq_true (of_decide_eq_true (by first | (with_reducible assumption) | assumption)))
                              (try have qn225 : (1 < x9_2.length) = True := eq_true (by have h_ : (1 : Int) < ((x9_2.length : Int) : Int) := of_decide_eq_true (by first | (with_reducible assumption) | assumption); omega))
                              (obtain ⟨ad225, A225_0, c225_0, e225, hx225_0, hl225_0, hi225_0⟩ := at_L1 (Kd.N_reads' HO_9.out).2.2 1 p225 q225); (obtain rfl : (⟨go39, 0, none⟩ : Addr) = ad225 := (by injection e225)); (obtain ⟨ce225, hce225, hMe225, hcc225⟩ := Kd.N_get HO_9.out [] 1 p225 (by first | exact q225 | exact of_decide_eq_true (by first | (with_reducible assumption) | assumption) | (have e_ := (Kd.N_reads' HO_9.out).1; omega))); (obtain ⟨ua225_0, uc225_0, rfl, ul225_0, ge225_0⟩ := Kd.FK_slice_open hMe225); (have hv225_0 := hcc225 0 _ rfl); (rw [Nat.add_zero, show ((Kd.slice 5 (Kd.int .u8))).sz = 1 from rfl, Nat.mul_one] at hv225_0); (replace hv225_0 := Option.some.inj (hv225_0.symm.trans hx225_0))
                              injection hv225_0 with hva_ hvn_ hvc_
                              (rw [hva_] at ge225_0); (rw [hvc_] at ul225_0); (have HL225_0 := aM (show Kd.V (Kd.int .u8) 5 _ w.heap.size _ _ (rd_L1 y223 1) from Kd.V_mk ul225_0 ge225_0)); clear hva_ hvn_ hvc_ ge225_0 ul225_0; clear hcc225 hce225
                              (first | simp only [add_plain] at hx225_0 | simp only [add_at] at hx225_0 | simp only [Addr.add, Nat.zero_add] at hx225_0 | skip)
                              have qi225 : (1 < y223.length) = True := eq_true (by omega)
                              (try rw [show ((1 : Int)).toNat = 1 from rfl] at hx225_0)
                              (have HR225_0 := aM hi225_0); (have HC225_0 := aM hl225_0); clear hi225_0 hl225_0; (replace p225 := eq_true p225); (replace q225 := eq_true q225)
                              refine start_ (n := 16) (S := fun w' => w'.cell? ⟨go39, 0, none⟩ = some (.slice A224_0 (rd_L1 y223 0).length c224_0) ∧ w'.cell? ⟨go39, 1, none⟩ = some (.slice A225_0 (rd_L1 y223 1).length c225_0)) (ds := []) #[F, F, F, F, F, F, F, F, F, F, F, F, F, F, F, F] (by kernel_rfl) rfl rfl ⟨hx224_0, hx225_0⟩ (fun hHeld => ?_); refine with_tabW pandectlaw4_SlotTurns.tab19 pandectlaw4_SlotTurns.bits19 (fun HT_ HW_ => ?_)
                              generalize w135.drew = w136 at HO_9 HO_12 HL222_0 HB HL224_0 HL225_0 HR224_0 HR225_0 hx224_0 hx225_0 hHeld ⊢
                              refine pure_ (i := 0) (N := some 88) (v := ?_) (a' := ?_) #[T, F, F, F, F, F, F, F, F, F, F, F, F, F, F, F] rfl rfl (any_of HT_.out (by kernel_rfl)) (fun _ _ _ h => h) (Or.inl ⟨by rfl, ?_⟩) ?_ ?_
                              rotate_left
                              ·
                               intro w'
                               go_simp
                               with_reducible rfl
                              rotate_left
                              ·
                               simp only [Act.put, List.setIfInBounds_toArray, List.set_cons_zero, List.set_cons_succ, i64_w, i32_w]
                               rfl
                              refine pure_ (i := 1) (N := some 89) (v := ?_) (a' := ?_) #[T, T, F, F, F, F, F, F, F, F, F, F, F, F, F, F] rfl rfl (any_of HT_.out (by kernel_rfl)) (fun _ _ _ h => h) (Or.inl ⟨by rfl, ?_⟩) ?_ ?_
                              rotate_left
                              ·
                               intro w'
                               go_simp
                               with_reducible rfl
                              rotate_left
                              ·
                               simp only [Act.put, List.setIfInBounds_toArray, List.set_cons_zero, List.set_cons_succ, i64_w, i32_w]
                               rfl
                              refine pure_ (i := 3) (N := some 91) (v := ?_) (a' := ?_) #[T, T, F, T, F, F, F, F, F, F, F, F, F, F, F, F] rfl rfl (any_of HT_.out (by kernel_rfl)) (fun _ _ _ h => h) (Or.inl ⟨by rfl, ?_⟩) ?_ ?_
                              rotate_left
                              ·
                               intro w'
                               go_simp
                               with_reducible rfl
                              rotate_left
                              ·
                               simp only [Act.put, List.setIfInBounds_toArray, List.set_cons_zero, List.set_cons_succ, i64_w, i32_w]
                               rfl
                              refine pure_ (i := 4) (N := some 92) (v := ?_) (a' := ?_) #[T, T, F, T, T, F, F, F, F, F, F, F, F, F, F, F] rfl rfl (any_of HT_.out (by kernel_rfl)) (fun _ _ _ h => h) (Or.inl ⟨by rfl, ?_⟩) ?_ ?_
                              rotate_left
                              ·
                               intro w'
                               go_simp
                               with_reducible rfl
                              rotate_left
                              ·
                               simp only [Act.put, List.setIfInBounds_toArray, List.set_cons_zero, List.set_cons_succ, i64_w, i32_w]
                               rfl
                              refine take_ (i := 2) (N := some 90) (v := ?_) (a' := ?_) #[T, T, T, T, T, F, F, F, F, F, F, F, F, F, F, F] rfl rfl (take_ofW HT_.out HW_.out (by kernel_rfl)) (fun _ _ _ h => h) (Or.inl ⟨by rfl, ?_⟩) hHeld ?_ ?_
                              rotate_left
                              ·
                               rintro w' ⟨s0, s1⟩
                               go_simp
                               with_reducible rfl
                              rotate_left
                              ·
                               simp only [Act.put, List.setIfInBounds_toArray, List.set_cons_zero, List.set_cons_succ, i64_w, i32_w]
                               rfl
                              refine take_ (i := 5) (N := some 93) (v := ?_) (a' := ?_) #[T, T, T, T, T, T, F, F, F, F, F, F, F, F, F, F] rfl rfl (take_ofW HT_.out HW_.out (by kernel_rfl)) (fun _ _ _ h => h) (Or.inl ⟨by rfl, ?_⟩) hHeld ?_ ?_
                              rotate_left
                              ·
                               rintro w' ⟨s0, s1⟩
                               go_simp
                               with_reducible rfl
                              rotate_left
                              ·
                               simp only [Act.put, List.setIfInBounds_toArray, List.set_cons_zero, List.set_cons_succ, i64_w, i32_w]
                               rfl
                              refine one_ (i := 6) (N := some 94) #[T, T, T, T, T, T, T, F, F, F, F, F, F, F, F, F] rfl rfl (one_of HT_.out (by kernel_rfl)) (by decide) (fun K hK => ?_)
                              refine goes_ Try.func38 (by kernel_rfl) rfl #[.slice A224_0 (rd_L1 y223 0).length c224_0, .slice A225_0 (rd_L1 y223 1).length c225_0] (by rfl) rfl rfl (by (try simp only [List.map_toArray, List.map_cons, List.map_nil]); first | done | rfl | (simp only [List.length_drop, List.length_take]; rfl)) ?_
                              with_reducible refine (slot_Better.calls kj25 _ _ (rd_L1 y223 0) _ _ (rd_L1 y223 1) t226 t227 t228 t229 _ ?side1 ?side2 ?side3 ?side4 A42.out).mono ?_
                              (case side1 => repeat (first | exact (by repeat (first | (with_reducible exact HR224_0.out) | (with_reducible refine Kd.C_alloc ?_ _) | (with_reducible refine Kd.C_drewN ?_ _) | (with_reducible refine Kd.C_drew ?_) | exact HR224_0.out)) | (with_reducible refine Kd.C_alloc ?_ _) | (with_reducible refine Kd.C_drewN ?_ _) | (with_reducible refine Kd.C_drew ?_)))
                              (case side2 => exact HC224_0.out)
                              (case side3 => repeat (first | exact (by repeat (first | (with_reducible exact HR225_0.out) | (with_reducible refine Kd.C_alloc ?_ _) | (with_reducible refine Kd.C_drewN ?_ _) | (with_reducible refine Kd.C_drew ?_) | exact HR225_0.out)) | (with_reducible refine Kd.C_alloc ?_ _) | (with_reducible refine Kd.C_drewN ?_ _) | (with_reducible refine Kd.C_drew ?_)))
                              (case side4 => exact HC225_0.out)
                              rintro e w137 ⟨v230, rfl, ho0, hb⟩
                              (have HS0_ := (hb.cell (World.block_lt_of_cell? _ _ (hHeld.1))).trans (hHeld.1)); (have HS1_ := (hb.cell (World.block_lt_of_cell? _ _ (hHeld.2))).trans (hHeld.2))
                              refine ⟨_, rfl, ?_⟩
                              (have n0_ := aM (Kd.N_elder' (by (with_reducible repeat (first | apply Kd.N_alloc | apply Kd.N_drewN | apply Kd.N_drew)); exact HO_9.out) (Kd.R_base ho0) hb)); (have n1_ := aM (Kd.R_elder' (by (with_reducible repeat (first | apply rA | apply rN | apply rD)); exact HO_12.out) (Kd.R_base ho0) hb)); (have n2_ := aM (Kd.V_elder' (by (with_reducible repeat (first | apply Kd.V_alloc | apply Kd.V_drewN | apply Kd.V_drew)); exact HL222_0.out) (Kd.R_base ho0) hb)); (have n3_ := aM (Kd.V_elder' (by (with_reducible repeat (first | apply Kd.V_alloc | apply Kd.V_drewN | apply Kd.V_drew)); exact HL224_0.out) (Kd.R_base ho0) hb)); (have n4_ := aM (Kd.V_elder' (by (with_reducible repeat (first | apply Kd.V_alloc | apply Kd.V_drewN | apply Kd.V_drew)); exact HL225_0.out) (Kd.R_base ho0) hb)); (have n5_ := aM (Kd.R_lower (Kd.R_new' ho0 (Kd.R_lt (by (with_reducible repeat (first | apply rA | apply rN | apply rD)); exact HO_12.out))) (below_size (by repeat (first | (with_reducible first | exact HB.out | apply bA | apply bN | apply bD) | exact HB.out))))); (have n6_ := aM (Kd.C_below (by repeat (first | (with_reducible exact HR224_0.out) | (with_reducible refine Kd.C_alloc ?_ _) | (with_reducible refine Kd.C_drewN ?_ _) | (with_reducible refine Kd.C_drew ?_) | exact HR224_0.out)) hb)); (have n7_ := aM (Kd.C_below (by repeat (first | (with_reducible exact HR225_0.out) | (with_reducible refine Kd.C_alloc ?_ _) | (with_reducible refine Kd.C_drewN ?_ _) | (with_reducible refine Kd.C_drew ?_) | exact HR225_0.out)) hb)); (have n8_ := aM (below_step (by repeat (first | (with_reducible first | exact HB.out | apply bA | apply bN | apply bD) | exact HB.out)) hb)); clear HO_9; clear HO_12; clear HL222_0; clear HL224_0; clear HL225_0; clear HR224_0; clear HR225_0; clear HB; (have HO_9 := n0_); (have HO_12 := n1_); (have HL222_0 := n2_); (have HL224_0 := n3_); (have HL225_0 := n4_); (have HO231 := n5_); (have HR224_0 := n6_); (have HR225_0 := n7_); (have HB := n8_); clear n0_ n1_ n2_ n3_ n4_ n5_ n6_ n7_ n8_
                              (try clear hb)
                              (try clear hb2)
                              (try clear hk)
                              (try clear hi)
                              (try clear ho0)
                              refine hK.out _ _ ⟨HS0_, HS1_⟩ (fun hHeld => ?_)
                              clear hK K
                              refine norm_ (a' := ?_) ?_ ?_
                              rotate_left
                              ·
                               show Act.put _ (some 94) _ = _
                               simp only [Act.put, List.setIfInBounds_toArray, List.set_cons_zero, List.set_cons_succ, i64_w, i32_w]
                               rfl
                              refine pure_ (i := 7) (N := some 87) (v := ?_) (a' := ?_) #[T, T, T, T, T, T, T, T, F, F, F, F, F, F, F, F] rfl rfl (any_of HT_.out (by kernel_rfl)) (fun _ _ _ h => h) (Or.inl ⟨by rfl, ?_⟩) ?_ ?_
                              rotate_left
                              ·
                               intro w'
                               go_simp
                               with_reducible rfl
                              rotate_left
                              ·
                               simp only [Act.put, List.setIfInBounds_toArray, List.set_cons_zero, List.set_cons_succ, i64_w, i32_w]
                               rfl
                              refine pure_ (i := 8) (N := some 95) (v := ?_) (a' := ?_) #[T, T, T, T, T, T, T, T, T, F, F, F, F, F, F, F] rfl rfl (any_of HT_.out (by kernel_rfl)) (fun _ _ _ h => h) (Or.inl ⟨by rfl, ?_⟩) ?_ ?_
                              rotate_left
                              ·
                               intro w'
                               go_simp
                               with_reducible rfl
                              rotate_left
                              ·
                               simp only [Act.put, List.setIfInBounds_toArray, List.set_cons_zero, List.set_cons_succ, i64_w, i32_w]
                               rfl
                              refine pure_ (i := 9) (N := some 96) (v := ?_) (a' := ?_) #[T, T, T, T, T, T, T, T, T, T, F, F, F, F, F, F] rfl rfl (any_of HT_.out (by kernel_rfl)) (fun _ _ _ h => h) (Or.inl ⟨by rfl, ?_⟩) ?_ ?_
                              rotate_left
                              ·
                               intro w'
                               go_simp
                               with_reducible rfl
                              rotate_left
                              ·
                               simp only [Act.put, List.setIfInBounds_toArray, List.set_cons_zero, List.set_cons_succ, i64_w, i32_w]
                               rfl
                              refine pure_ (i := 10) (N := some 97) (v := ?_) (a' := ?_) #[T, T, T, T, T, T, T, T, T, T, T, F, F, F, F, F] rfl rfl (any_of HT_.out (by kernel_rfl)) (fun _ _ _ h => h) (Or.inl ⟨by rfl, ?_⟩) ?_ ?_
                              rotate_left
                              ·
                               intro w'
                               go_simp
                               with_reducible rfl
                              rotate_left
                              ·
                               simp only [Act.put, List.setIfInBounds_toArray, List.set_cons_zero, List.set_cons_succ, i64_w, i32_w]
                               rfl
                              refine pure_ (i := 11) (N := some 98) (v := ?_) (a' := ?_) #[T, T, T, T, T, T, T, T, T, T, T, T, F, F, F, F] rfl rfl (any_of HT_.out (by kernel_rfl)) (fun _ _ _ h => h) (Or.inl ⟨by rfl, ?_⟩) ?_ ?_
                              rotate_left
                              ·
                               intro w'
                               go_simp
                               with_reducible rfl
                              rotate_left
                              ·
                               simp only [Act.put, List.setIfInBounds_toArray, List.set_cons_zero, List.set_cons_succ, i64_w, i32_w]
                               rfl
                              refine pure_ (i := 12) (N := some 16) (v := ?_) (a' := ?_) #[T, T, T, T, T, T, T, T, T, T, T, T, T, F, F, F] rfl rfl (any_of HT_.out (by kernel_rfl)) (fun _ _ _ h => h) (Or.inl ⟨by rfl, ?_⟩) ?_ ?_
                              rotate_left
                              ·
                               intro w'
                               go_simp
                               with_reducible rfl
                              rotate_left
                              ·
                               simp only [Act.put, List.setIfInBounds_toArray, List.set_cons_zero, List.set_cons_succ, i64_w, i32_w]
                               rfl
                              refine pure_ (i := 13) (N := some 17) (v := ?_) (a' := ?_) #[T, T, T, T, T, T, T, T, T, T, T, T, T, T, F, F] rfl rfl (any_of HT_.out (by kernel_rfl)) (fun _ _ _ h => h) (Or.inl ⟨by rfl, ?_⟩) ?_ ?_
                              rotate_left
                              ·
                               intro w'
                               go_simp
                               with_reducible rfl
                              rotate_left
                              ·
                               simp only [Act.put, List.setIfInBounds_toArray, List.set_cons_zero, List.set_cons_succ, i64_w, i32_w]
                               rfl
                              refine pure_ (i := 14) (N := some 18) (v := ?_) (a' := ?_) #[T, T, T, T, T, T, T, T, T, T, T, T, T, T, T, F] rfl rfl (any_of HT_.out (by kernel_rfl)) (fun _ _ _ h => h) (Or.inl ⟨by rfl, ?_⟩) ?_ ?_
                              rotate_left
                              ·
                               intro w'
                               go_simp
                               with_reducible rfl
                              rotate_left
                              ·
                               simp only [Act.put, List.setIfInBounds_toArray, List.set_cons_zero, List.set_cons_succ, i64_w, i32_w]
                               rfl
                              refine pure_ (i := 15) (N := some 19) (v := ?_) (a' := ?_) #[T, T, T, T, T, T, T, T, T, T, T, T, T, T, T, T] rfl rfl (any_of HT_.out (by kernel_rfl)) (fun _ _ _ h => h) (Or.inl ⟨by rfl, ?_⟩) ?_ ?_
                              rotate_left
                              ·
                               intro w'
                               go_simp
                               with_reducible rfl
                              rotate_left
                              ·
                               simp only [Act.put, List.setIfInBounds_toArray, List.set_cons_zero, List.set_cons_succ, i64_w, i32_w]
                               rfl
                              refine done_ (done_of HT_.out (by kernel_rfl)) ?_
                              try go_wp2
                              (have n0_ := aM (Kd.N_drew HO_9.out)); (have n1_ := aM (Kd.R_drew HO_12.out)); (have n2_ := aM (Kd.V_drew HL222_0.out)); (have n3_ := aM (Kd.V_drew HL224_0.out)); (have n4_ := aM (Kd.V_drew HL225_0.out)); (have n5_ := aM (Kd.R_drew HO231.out)); (have n6_ := aM (Kd.C_drew HR224_0.out)); (have n7_ := aM (Kd.C_drew HR225_0.out)); (have n8_ := aM (below_drew1 HB.out)); clear HO_9; clear HO_12; clear HL222_0; clear HL224_0; clear HL225_0; clear HO231; clear HR224_0; clear HR225_0; clear HB; (have HO_9 := n0_); (have HO_12 := n1_); (have HL222_0 := n2_); (have HL224_0 := n3_); (have HL225_0 := n4_); (have HO231 := n5_); (have HR224_0 := n6_); (have HR225_0 := n7_); (have HB := n8_); clear n0_ n1_ n2_ n3_ n4_ n5_ n6_ n7_ n8_; (have p240 : 0 ≤ ((ji120) : Int) := of_decide_eq_true (by first | (with_reducible assumption) | assumption)); (have q240 : (ji120) < (l1.length : Int) := of_decide_eq_true (by first | (with_reducible assumption) | assumption)); (obtain ⟨ad240, A240_0, c240_0, e240, hx240_0, hl240_0, hi240_0⟩ := at_L1 HR1.out (ji120) p240 q240); (have hw240_0 := hx240_0); (obtain rfl : ad185 = ad240 := (by injection e240)); (replace hx240_0 := (HB.out.cell (World.block_lt_of_cell? w _ hx240_0)).trans hx240_0); (have HR240_0 := aM hi240_0); (have HC240_0 := aM hl240_0); clear hi240_0 hl240_0; (replace p240 := eq_true p240); (replace q240 := eq_true q240); (have hcv139 := own_string (P := Try.prog) Try.underlying22 Try.underlying5 Try.underlying9 (Kd.own_of_R HO231.out)); (have hcv140 := fun nd_ : Nat => own_string (P := Try.prog) Try.underlying22 Try.underlying5 Try.underlying9 (Kd.own_of_R (Kd.R_drewN HO231.out nd_))); (have hcv141 := Kd.C_string (P := Try.prog) (A := A240_0) (c := c240_0) Try.underlying22 Try.underlying5 Try.underlying9 (Kd.C_below HR240_0.out HB.out))
                              refine start_ (n := 28) (S := fun w' => w' = w137.drew) (ds := []) #[F, F, F, F, F, F, F, F, F, F, F, F, F, F, F, F, F, F, F, F, F, F, F, F, F, F, F, F] (by kernel_rfl) rfl rfl rfl (fun hHeld => ?_); refine with_tabW pandectlaw4_SlotTurns.tab26 pandectlaw4_SlotTurns.bits26 (fun HT_ HW_ => ?_)
                              generalize w137.drew = w138 at HO_9 HO_12 HL222_0 HL224_0 HL225_0 HO231 HR224_0 HR225_0 HB HR240_0 hx240_0 hHeld hcv139 hcv140 hcv141 ⊢
                              refine pure_ (i := 0) (N := some 139) (v := ?_) (a' := ?_) #[T, F, F, F, F, F, F, F, F, F, F, F, F, F, F, F, F, F, F, F, F, F, F, F, F, F, F, F] rfl rfl (any_of HT_.out (by kernel_rfl)) (fun _ _ _ h => h) (Or.inl ⟨by rfl, ?_⟩) ?_ ?_
                              rotate_left
                              ·
                               intro w'
                               go_simp
                               with_reducible rfl
                              rotate_left
                              ·
                               simp only [Act.put, List.setIfInBounds_toArray, List.set_cons_zero, List.set_cons_succ, i64_w, i32_w]
                               rfl
                              refine pure_ (i := 1) (N := some 140) (v := ?_) (a' := ?_) #[T, T, F, F, F, F, F, F, F, F, F, F, F, F, F, F, F, F, F, F, F, F, F, F, F, F, F, F] rfl rfl (any_of HT_.out (by kernel_rfl)) (fun _ _ _ h => h) (Or.inl ⟨by rfl, ?_⟩) ?_ ?_
                              rotate_left
                              ·
                               intro w'
                               go_simp
                               with_reducible rfl
                              rotate_left
                              ·
                               simp only [Act.put, List.setIfInBounds_toArray, List.set_cons_zero, List.set_cons_succ, i64_w, i32_w]
                               rfl
                              refine pure_ (i := 2) (N := some 141) (v := ?_) (a' := ?_) #[T, T, T, F, F, F, F, F, F, F, F, F, F, F, F, F, F, F, F, F, F, F, F, F, F, F, F, F] rfl rfl (any_of HT_.out (by kernel_rfl)) (fun _ _ _ h => h) (Or.inl ⟨by rfl, ?_⟩) ?_ ?_
                              rotate_left
                              ·
                               intro w'
                               go_simp
                               with_reducible rfl
                              rotate_left
                              ·
                               simp only [Act.put, List.setIfInBounds_toArray, List.set_cons_zero, List.set_cons_succ, i64_w, i32_w]
                               rfl
                              refine pure_ (i := 3) (N := some 142) (v := ?_) (a' := ?_) #[T, T, T, T, F, F, F, F, F, F, F, F, F, F, F, F, F, F, F, F, F, F, F, F, F, F, F, F] rfl rfl (any_of HT_.out (by kernel_rfl)) (fun _ _ _ h => h) (Or.inl ⟨by rfl, ?_⟩) ?_ ?_
                              rotate_left
                              ·
                               intro w'
                               go_simp
                               with_reducible rfl
                              rotate_left
                              ·
                               simp only [Act.put, List.setIfInBounds_toArray, List.set_cons_zero, List.set_cons_succ, i64_w, i32_w]
                               rfl
                              refine pure_ (i := 4) (N := some 143) (v := ?_) (a' := ?_) #[T, T, T, T, T, F, F, F, F, F, F, F, F, F, F, F, F, F, F, F, F, F, F, F, F, F, F, F] rfl rfl (any_of HT_.out (by kernel_rfl)) (fun _ _ _ h => h) (Or.inl ⟨by rfl, ?_⟩) ?_ ?_
                              rotate_left
                              ·
                               intro w'
                               go_simp
                               with_reducible rfl
                              rotate_left
                              ·
                               simp only [Act.put, List.setIfInBounds_toArray, List.set_cons_zero, List.set_cons_succ, i64_w, i32_w]
                               rfl
                              refine pure_ (i := 5) (N := some 144) (v := ?_) (a' := ?_) #[T, T, T, T, T, T, F, F, F, F, F, F, F, F, F, F, F, F, F, F, F, F, F, F, F, F, F, F] rfl rfl (any_of HT_.out (by kernel_rfl)) (fun _ _ _ h => h) (Or.inl ⟨by rfl, ?_⟩) ?_ ?_
                              rotate_left
                              ·
                               intro w'
                               go_simp
                               with_reducible rfl
                              rotate_left
                              ·
                               simp only [Act.put, List.setIfInBounds_toArray, List.set_cons_zero, List.set_cons_succ, i64_w, i32_w]
                               rfl
                              refine pure_ (i := 6) (N := some 145) (v := ?_) (a' := ?_) #[T, T, T, T, T, T, T, F, F, F, F, F, F, F, F, F, F, F, F, F, F, F, F, F, F, F, F, F] rfl rfl (any_of HT_.out (by kernel_rfl)) (fun _ _ _ h => h) (Or.inl ⟨by rfl, ?_⟩) ?_ ?_
                              rotate_left
                              ·
                               intro w'
                               go_simp
                               with_reducible rfl
                              rotate_left
                              ·
                               simp only [Act.put, List.setIfInBounds_toArray, List.set_cons_zero, List.set_cons_succ, i64_w, i32_w]
                               rfl
                              refine pure_ (i := 7) (N := some 146) (v := ?_) (a' := ?_) #[T, T, T, T, T, T, T, T, F, F, F, F, F, F, F, F, F, F, F, F, F, F, F, F, F, F, F, F] rfl rfl (any_of HT_.out (by kernel_rfl)) (fun _ _ _ h => h) (Or.inl ⟨by rfl, ?_⟩) ?_ ?_
                              rotate_left
                              ·
                               intro w'
                               go_simp
                               with_reducible rfl
                              rotate_left
                              ·
                               simp only [Act.put, List.setIfInBounds_toArray, List.set_cons_zero, List.set_cons_succ, i64_w, i32_w]
                               rfl
                              refine pure_ (i := 8) (N := some 147) (v := ?_) (a' := ?_) #[T, T, T, T, T, T, T, T, T, F, F, F, F, F, F, F, F, F, F, F, F, F, F, F, F, F, F, F] rfl rfl (any_of HT_.out (by kernel_rfl)) (fun _ _ _ h => h) (Or.inl ⟨by rfl, ?_⟩) ?_ ?_
                              rotate_left
                              ·
                               intro w'
                               go_simp
                               with_reducible rfl
                              rotate_left
                              ·
                               simp only [Act.put, List.setIfInBounds_toArray, List.set_cons_zero, List.set_cons_succ, i64_w, i32_w]
                               rfl
                              refine pure_ (i := 9) (N := some 148) (v := ?_) (a' := ?_) #[T, T, T, T, T, T, T, T, T, T, F, F, F, F, F, F, F, F, F, F, F, F, F, F, F, F, F, F] rfl rfl (any_of HT_.out (by kernel_rfl)) (fun _ _ _ h => h) (Or.inl ⟨by rfl, ?_⟩) ?_ ?_
                              rotate_left
                              ·
                               intro w'
                               go_simp
                               with_reducible rfl
                              rotate_left
                              ·
                               simp only [Act.put, List.setIfInBounds_toArray, List.set_cons_zero, List.set_cons_succ, i64_w, i32_w]
                               rfl
                              refine pure_ (i := 10) (N := some 149) (v := ?_) (a' := ?_) #[T, T, T, T, T, T, T, T, T, T, T, F, F, F, F, F, F, F, F, F, F, F, F, F, F, F, F, F] rfl rfl (any_of HT_.out (by kernel_rfl)) (fun _ _ _ h => h) (Or.inl ⟨by rfl, ?_⟩) ?_ ?_
                              rotate_left
                              ·
                               intro w'
                               go_simp
                               with_reducible rfl
                              rotate_left
                              ·
                               simp only [Act.put, List.setIfInBounds_toArray, List.set_cons_zero, List.set_cons_succ, i64_w, i32_w]
                               rfl
                              refine pure_ (i := 11) (N := some 150) (v := ?_) (a' := ?_) #[T, T, T, T, T, T, T, T, T, T, T, T, F, F, F, F, F, F, F, F, F, F, F, F, F, F, F, F] rfl rfl (any_of HT_.out (by kernel_rfl)) (fun _ _ _ h => h) (Or.inl ⟨by rfl, ?_⟩) ?_ ?_
                              rotate_left
                              ·
                               intro w'
                               go_simp
                               with_reducible rfl
                              rotate_left
                              ·
                               simp only [Act.put, List.setIfInBounds_toArray, List.set_cons_zero, List.set_cons_succ, i64_w, i32_w]
                               rfl
                              refine pure_ (i := 12) (N := some 151) (v := ?_) (a' := ?_) #[T, T, T, T, T, T, T, T, T, T, T, T, T, F, F, F, F, F, F, F, F, F, F, F, F, F, F, F] rfl rfl (any_of HT_.out (by kernel_rfl)) (fun _ _ _ h => h) (Or.inl ⟨by rfl, ?_⟩) ?_ ?_
                              rotate_left
                              ·
                               intro w'
                               go_simp
                               with_reducible rfl
                              rotate_left
                              ·
                               simp only [Act.put, List.setIfInBounds_toArray, List.set_cons_zero, List.set_cons_succ, i64_w, i32_w]
                               rfl
                              refine pure_ (i := 13) (N := some 152) (v := ?_) (a' := ?_) #[T, T, T, T, T, T, T, T, T, T, T, T, T, T, F, F, F, F, F, F, F, F, F, F, F, F, F, F] rfl rfl (any_of HT_.out (by kernel_rfl)) (fun _ _ _ h => h) (Or.inl ⟨by rfl, ?_⟩) ?_ ?_
                              rotate_left
                              ·
                               intro w'
                               go_simp
                               with_reducible rfl
                              rotate_left
                              ·
                               simp only [Act.put, List.setIfInBounds_toArray, List.set_cons_zero, List.set_cons_succ, i64_w, i32_w]
                               rfl
                              refine pure_ (i := 14) (N := some 153) (v := ?_) (a' := ?_) #[T, T, T, T, T, T, T, T, T, T, T, T, T, T, T, F, F, F, F, F, F, F, F, F, F, F, F, F] rfl rfl (any_of HT_.out (by kernel_rfl)) (fun _ _ _ h => h) (Or.inl ⟨by rfl, ?_⟩) ?_ ?_
                              rotate_left
                              ·
                               intro w'
                               go_simp
                               with_reducible rfl
                              rotate_left
                              ·
                               simp only [Act.put, List.setIfInBounds_toArray, List.set_cons_zero, List.set_cons_succ, i64_w, i32_w]
                               rfl
                              refine pure_ (i := 15) (N := some 154) (v := ?_) (a' := ?_) #[T, T, T, T, T, T, T, T, T, T, T, T, T, T, T, T, F, F, F, F, F, F, F, F, F, F, F, F] rfl rfl (any_of HT_.out (by kernel_rfl)) (fun _ _ _ h => h) (Or.inl ⟨by rfl, ?_⟩) ?_ ?_
                              rotate_left
                              ·
                               intro w'
                               go_simp
                               with_reducible rfl
                              rotate_left
                              ·
                               simp only [Act.put, List.setIfInBounds_toArray, List.set_cons_zero, List.set_cons_succ, i64_w, i32_w]
                               rfl
                              refine pure_ (i := 16) (N := some 155) (v := ?_) (a' := ?_) #[T, T, T, T, T, T, T, T, T, T, T, T, T, T, T, T, T, F, F, F, F, F, F, F, F, F, F, F] rfl rfl (any_of HT_.out (by kernel_rfl)) (fun _ _ _ h => h) (Or.inl ⟨by rfl, ?_⟩) ?_ ?_
                              rotate_left
                              ·
                               intro w'
                               go_simp
                               with_reducible rfl
                              rotate_left
                              ·
                               simp only [Act.put, List.setIfInBounds_toArray, List.set_cons_zero, List.set_cons_succ, i64_w, i32_w]
                               rfl
                              refine pure_ (i := 17) (N := some 156) (v := ?_) (a' := ?_) #[T, T, T, T, T, T, T, T, T, T, T, T, T, T, T, T, T, T, F, F, F, F, F, F, F, F, F, F] rfl rfl (any_of HT_.out (by kernel_rfl)) (fun _ _ _ h => h) (Or.inl ⟨by rfl, ?_⟩) ?_ ?_
                              rotate_left
                              ·
                               intro w'
                               go_simp
                               with_reducible rfl
                              rotate_left
                              ·
                               simp only [Act.put, List.setIfInBounds_toArray, List.set_cons_zero, List.set_cons_succ, i64_w, i32_w]
                               rfl
                              refine take_ (i := 18) (N := some 157) (v := ?_) (a' := ?_) #[T, T, T, T, T, T, T, T, T, T, T, T, T, T, T, T, T, T, T, F, F, F, F, F, F, F, F, F] rfl rfl (take_ofW HT_.out HW_.out (by kernel_rfl)) (fun _ _ _ h => h) (Or.inl ⟨by rfl, ?_⟩) hHeld ?_ ?_
                              rotate_left
                              ·
                               intro w' s0; subst s0
                               go_simp
                               with_reducible rfl
                              rotate_left
                              ·
                               simp only [Act.put, List.setIfInBounds_toArray, List.set_cons_zero, List.set_cons_succ, i64_w, i32_w]
                               rfl
                              refine pure_ (i := 19) (N := some 158) (v := ?_) (a' := ?_) #[T, T, T, T, T, T, T, T, T, T, T, T, T, T, T, T, T, T, T, T, F, F, F, F, F, F, F, F] rfl rfl (any_of HT_.out (by kernel_rfl)) (fun _ _ _ h => h) (Or.inl ⟨by rfl, ?_⟩) ?_ ?_
                              rotate_left
                              ·
                               intro w'
                               go_simp
                               with_reducible rfl
                              rotate_left
                              ·
                               simp only [Act.put, List.setIfInBounds_toArray, List.set_cons_zero, List.set_cons_succ, i64_w, i32_w]
                               rfl
                              refine pure_ (i := 20) (N := some 159) (v := ?_) (a' := ?_) #[T, T, T, T, T, T, T, T, T, T, T, T, T, T, T, T, T, T, T, T, T, F, F, F, F, F, F, F] rfl rfl (any_of HT_.out (by kernel_rfl)) (fun _ _ _ h => h) (Or.inl ⟨by rfl, ?_⟩) ?_ ?_
                              rotate_left
                              ·
                               intro w'
                               go_simp
                               with_reducible rfl
                              rotate_left
                              ·
                               simp only [Act.put, List.setIfInBounds_toArray, List.set_cons_zero, List.set_cons_succ, i64_w, i32_w]
                               rfl
                              refine pure_ (i := 21) (N := some 160) (v := ?_) (a' := ?_) #[T, T, T, T, T, T, T, T, T, T, T, T, T, T, T, T, T, T, T, T, T, T, F, F, F, F, F, F] rfl rfl (any_of HT_.out (by kernel_rfl)) (fun _ _ _ h => h) (Or.inl ⟨by rfl, ?_⟩) ?_ ?_
                              rotate_left
                              ·
                               intro w'
                               go_simp
                               with_reducible rfl
                              rotate_left
                              ·
                               simp only [Act.put, List.setIfInBounds_toArray, List.set_cons_zero, List.set_cons_succ, i64_w, i32_w]
                               rfl
                              refine pure_ (i := 22) (N := some 161) (v := ?_) (a' := ?_) #[T, T, T, T, T, T, T, T, T, T, T, T, T, T, T, T, T, T, T, T, T, T, T, F, F, F, F, F] rfl rfl (any_of HT_.out (by kernel_rfl)) (fun _ _ _ h => h) (Or.inl ⟨by rfl, ?_⟩) ?_ ?_
                              rotate_left
                              ·
                               intro w'
                               go_simp
                               with_reducible rfl
                              rotate_left
                              ·
                               simp only [Act.put, List.setIfInBounds_toArray, List.set_cons_zero, List.set_cons_succ, i64_w, i32_w]
                               rfl
                              refine take_ (i := 23) (N := some 162) (v := ?_) (a' := ?_) #[T, T, T, T, T, T, T, T, T, T, T, T, T, T, T, T, T, T, T, T, T, T, T, T, F, F, F, F] rfl rfl (take_ofW HT_.out HW_.out (by kernel_rfl)) (fun _ _ _ h => h) (Or.inl ⟨by rfl, ?_⟩) hHeld ?_ ?_
                              rotate_left
                              ·
                               intro w' s0; subst s0
                               go_simp
                               with_reducible rfl
                              rotate_left
                              ·
                               simp only [Act.put, List.setIfInBounds_toArray, List.set_cons_zero, List.set_cons_succ, i64_w, i32_w]
                               rfl
                              refine take_ (i := 24) (N := some 163) (v := ?_) (a' := ?_) #[T, T, T, T, T, T, T, T, T, T, T, T, T, T, T, T, T, T, T, T, T, T, T, T, T, F, F, F] rfl rfl (take_ofW HT_.out HW_.out (by kernel_rfl)) (fun _ _ _ h => h) (Or.inl ⟨by rfl, ?_⟩) hHeld ?_ ?_
                              rotate_left
                              ·
                               intro w' s0; subst s0
                               go_simp
                               with_reducible rfl
                              rotate_left
                              ·
                               simp only [Act.put, List.setIfInBounds_toArray, List.set_cons_zero, List.set_cons_succ, i64_w, i32_w]
                               rfl
                              refine take_ (i := 25) (N := some 164) (v := ?_) (a' := ?_) #[T, T, T, T, T, T, T, T, T, T, T, T, T, T, T, T, T, T, T, T, T, T, T, T, T, T, F, F] rfl rfl (take_ofW HT_.out HW_.out (by kernel_rfl)) (fun _ _ _ h => h) (Or.inl ⟨by rfl, ?_⟩) hHeld ?_ ?_
                              rotate_left
                              ·
                               intro w' s0; subst s0
                               go_simp
                               with_reducible rfl
                              rotate_left
                              ·
                               simp only [Act.put, List.setIfInBounds_toArray, List.set_cons_zero, List.set_cons_succ, i64_w, i32_w]
                               rfl
                              refine pure_ (i := 26) (N := some 165) (v := ?_) (a' := ?_) #[T, T, T, T, T, T, T, T, T, T, T, T, T, T, T, T, T, T, T, T, T, T, T, T, T, T, T, F] rfl rfl (any_of HT_.out (by kernel_rfl)) (fun _ _ _ h => h) (Or.inl ⟨by rfl, ?_⟩) ?_ ?_
                              rotate_left
                              ·
                               intro w'
                               go_simp
                               with_reducible rfl
                              rotate_left
                              ·
                               simp only [Act.put, List.setIfInBounds_toArray, List.set_cons_zero, List.set_cons_succ, i64_w, i32_w]
                               rfl
                              refine pure_ (i := 27) (N := some 138) (v := ?_) (a' := ?_) #[T, T, T, T, T, T, T, T, T, T, T, T, T, T, T, T, T, T, T, T, T, T, T, T, T, T, T, T] rfl rfl (any_of HT_.out (by kernel_rfl)) (fun _ _ _ h => h) (Or.inl ⟨by rfl, ?_⟩) ?_ ?_
                              rotate_left
                              ·
                               intro w'
                               go_simp
                               with_reducible rfl
                              rotate_left
                              ·
                               simp only [Act.put, List.setIfInBounds_toArray, List.set_cons_zero, List.set_cons_succ, i64_w, i32_w]
                               rfl
                              refine done_ (done_of HT_.out (by kernel_rfl)) ?_
                              (have p124 : 0 ≤ ((ji36) : Int) := of_decide_eq_true (by first | (with_reducible assumption) | assumption)); (have q124 : ((ji36) : Int) < ((x9_2.length : Int) : Int) := of_decide_eq_true (by first | (with_reducible assumption) | assumption)); (obtain ⟨ce124, hcl124, hM124, hcc124, hfr124⟩ := Kd.N_elem HO_9.out [] ((ji36) : Int) p124 q124); (obtain ⟨ua124_0, uc124_0, rfl, ul124_0, ge124_0⟩ := Kd.FK_slice_open hM124); (have hx124_0 := hcc124 0 _ rfl); (have hf124_0 := hfr124 0)
                              (try simp only [show ((Kd.slice 5 (Kd.int .u8))).sz = 1 from rfl, Nat.mul_one, Nat.add_zero] at hx124_0)
                              (try simp only [show ((Kd.slice 5 (Kd.int .u8))).sz = 1 from rfl, Nat.mul_one, Nat.add_zero] at hf124_0)
                              clear hcl124 hcc124 hfr124 hM124; (replace p124 := eq_true p124); (replace q124 := eq_true q124); (have HX143 := aM (show Kd.N (Kd.slice 5 (Kd.int .u8)) 22 w138 w.heap.size (fun k_ => some k_ ≠ (v230 : Value).ownBlock) (.slice (some ⟨go39, 0, none⟩) x9_2.length co133) y223 from (by (with_reducible repeat (first | apply Kd.N_alloc | apply Kd.N_drewN | apply Kd.N_drew)); exact Kd.N_mono HO_9.out (fun _ hk => hk.2)))); (obtain ⟨ce143, hcl143, hM143, hcc143, hfr143⟩ := Kd.N_elem HX143.out [] ((ji36) : Int) (of_decide_eq_true (by first | (with_reducible assumption) | assumption)) (by have h_ : ((ji36) : Int) < ((x9_2.length : Int) : Int) := of_decide_eq_true (by first | (with_reducible assumption) | assumption); first | exact h_ | (have e_ := (Kd.N_reads' HO_9.out).1; omega) | simpa using h_)); (obtain ⟨ua143_0, uc143_0, rfl, ul143_0, ge143_0⟩ := Kd.FK_slice_open hM143); (have HP143 := Kd.N_seg HX143.out ((ji36) : Int) (of_decide_eq_true (by first | (with_reducible assumption) | assumption)) (by have h_ : ((ji36) : Int) < ((x9_2.length : Int) : Int) := of_decide_eq_true (by first | (with_reducible assumption) | assumption); first | exact h_ | (have e_ := (Kd.N_reads' HO_9.out).1; omega) | simpa using h_) (seg := [.slice Ao129 t192.length co129]) (j := 0) hcl143 hcc143 (show 1 ≤ 1 from by decide) (x' := t192) (Short.fkR (Kd.R_mono (ok' := (fun k_ => ((fun k_ => some k_ ≠ (v230 : Value).ownBlock)) k_ ∧ k_ ≠ go39)) (Kd.R_apart' (HO_12.out) (Kd.N_typed HO_9.out) (by decide)) (fun k_ hk => ⟨hk.1.2, fun e_ => (hk.2) (by rw [e_]; rfl)⟩))) (fun _ hk => hk)); (have hx143_0 := hcc143 0 _ rfl)
                              (try simp only [show ((Kd.slice 5 (Kd.int .u8))).sz = 1 from rfl, Nat.mul_one, Nat.add_zero] at hx143_0)
                              have hf143_0 := hfr143 0
                              (try simp only [show ((Kd.slice 5 (Kd.int .u8))).sz = 1 from rfl, Nat.mul_one, Nat.add_zero] at hf143_0)
                              clear hcl143 hcc143 hfr143 hM143
                              (try simp only [show ((Kd.slice 5 (Kd.int .u8))).sz = 1 from rfl, Nat.mul_one, Nat.add_zero] at HP143)
                              (try simp only [show ((Kd.slice 5 (Kd.int .u8))).sz = 1 from rfl, Nat.mul_one, Nat.add_zero] at HP143)
                              try go_wp2_with (first | ((with_reducible refine gate_store (t := 22) (p := 170) rfl ?_); refine store_event (t := 22) (p := 170) (v := ?vo_w144) (w1 := (w138.setCell ⟨go39, ((ji36) : Int).toNat, none⟩ (.slice Ao129 t192.length co129))) ?hg ?ho ?hn ?hr ?_; (case ho => rfl); (case hg => rfl); (case hn => rfl); (case hr => first | (go_simp; done) | (go_simp; rfl)); intro w144 hw; have hg : w138.grownBy w144 (some go39) := (by rw [hw]; exact HP143.2); have hp_ : Kd.N (Kd.slice 5 (Kd.int .u8)) 22 w144 w.heap.size (fun k_ => some k_ ≠ (v230 : Value).ownBlock) (.slice (some ⟨go39, 0, none⟩) x9_2.length co133) y242 := (by rw [hw, Ny242.out]; exact HP143.1); clear HP143; have n0_ := aM (hp_); have n1_ := aM (Kd.V_afterv (v := (.slice (some ⟨go39, 0, none⟩) x9_2.length co133)) (v1 := (.slice (some ⟨go39, 0, none⟩) x9_2.length co133)) (ok := (fun k_ => some k_ ≠ (.slice Ao129 t192.length co129 : Value).ownBlock ∧ some k_ ≠ (v230 : Value).ownBlock)) (by (with_reducible repeat (first | apply Kd.V_alloc | apply Kd.V_drewN | apply Kd.V_drew)); exact Kd.V_mono HL222_0.out (fun _ hk => ⟨⟨hk.1.1.1, hk.2⟩, hk.1.2⟩)) hg (.inl rfl)); have n2_ := aM (Kd.V_afterv (v := (.slice (some ⟨go39, 0, none⟩) x9_2.length co133)) (v1 := (.slice (some ⟨go39, 0, none⟩) x9_2.length co133)) (ok := (fun k_ => some k_ ≠ (.slice Ao129 t192.length co129 : Value).ownBlock ∧ some k_ ≠ (v230 : Value).ownBlock)) (by (with_reducible repeat (first | apply Kd.V_alloc | apply Kd.V_drewN | apply Kd.V_drew)); exact Kd.V_mono HL224_0.out (fun _ hk => ⟨⟨hk.1.1, hk.2⟩, hk.1.2⟩)) hg (.inl rfl)); have n3_ := aM (Kd.V_afterv (v := (.slice (some ⟨go39, 0, none⟩) x9_2.length co133)) (v1 := (.slice (some ⟨go39, 0, none⟩) x9_2.length co133)) (ok := (fun k_ => some k_ ≠ (.slice Ao129 t192.length co129 : Value).ownBlock ∧ some k_ ≠ (v230 : Value).ownBlock)) (by (with_reducible repeat (first | apply Kd.V_alloc | apply Kd.V_drewN | apply Kd.V_drew)); exact Kd.V_mono HL225_0.out (fun _ hk => ⟨⟨hk.1.1, hk.2⟩, hk.1.2⟩)) hg (.inl rfl)); have n4_ := aM (Kd.R_over' (v := (.slice (some ⟨go39, 0, none⟩) x9_2.length co133)) (by (with_reducible repeat (first | apply rA | apply rN | apply rD)); exact HO231.out) (Kd.N_typed HO_9.out) (by decide) hg); have n5_ := aM ((by rw [hw]; exact below_set (HB.out) GB39.out : Below w.heap.size w w144)); clear HO_9; clear HL222_0; clear HL224_0; clear HL225_0; clear HO231; clear HB; clear HO_12; have HO_9 := n0_; have HL222_0 := n1_; have HL224_0 := n2_; have HL225_0 := n3_; have HO231 := n4_; have HB := n5_; clear n0_ n1_ n2_ n3_ n4_ n5_; clear hg hw hp_))
                              go_roundg kj25
                              case measure => have := HJ6.out; have := HK2.out; have := HJ25.out; omega
                              case rel => exact ⟨(y242), (wrap64 (x10_2 + 1)), (by first | rfl | (simp; done) | (simp [*]; done)), H', ⟨by have := HJ6.out; have := HK2.out; have := HJ25.out; omega⟩, ⟨by (with_reducible repeat (first | apply Kd.N_alloc | apply Kd.N_drewN | apply Kd.N_drew)); exact Kd.N_mono HO_9.out (fun _ hk => trivial)⟩, ⟨by repeat (first | (with_reducible first | exact HB.out | apply bA | apply bN | apply bD) | exact HB.out)⟩⟩
                             ·
                              rw [if_neg c125] at H
                              exact absurd H (by simp)
                            ·
                             rw [if_neg c123] at H
                             exact absurd H (by simp)
                           ·
                            rw [if_neg c122] at H
                            exact absurd H (by simp)
                          ·
                           rw [if_neg c121] at H
                           exact absurd H (by simp)
                         ·
                          (rw [if_neg c119] at H); (have c119b0 : (t227 == (IntKind.u64.wrap ((IntKind.u64.wrap ((IntKind.u64.wrap (a0)) + (IntKind.u64.wrap (x10_2)))) - 1))) = false := beq_eq_false_iff_ne.mpr c119); (have c119b1 : (t227 != (IntKind.u64.wrap ((IntKind.u64.wrap ((IntKind.u64.wrap (a0)) + (IntKind.u64.wrap (x10_2)))) - 1))) = true := bne_iff_ne.mpr c119)
                          exact absurd H (by simp)
                        ·
                         (rw [if_neg c118] at H); (have c118b0 : (t226 == (wrap64 (Int.tmod (IntKind.u64.wrap ((IntKind.u64.wrap ((IntKind.u64.wrap (a0)) + (IntKind.u64.wrap (x10_2)))) + 1)) 2))) = false := beq_eq_false_iff_ne.mpr c118); (have c118b1 : (t226 != (wrap64 (Int.tmod (IntKind.u64.wrap ((IntKind.u64.wrap ((IntKind.u64.wrap (a0)) + (IntKind.u64.wrap (x10_2)))) + 1)) 2))) = true := bne_iff_ne.mpr c118)
                         exact absurd H (by simp)
                       ·
                        (rw [if_neg c117] at H); (have c117b0 : (t229 == 0) = false := beq_eq_false_iff_ne.mpr c117); (have c117b1 : (t229 != 0) = true := bne_iff_ne.mpr c117)
                        exact absurd H (by simp)
                    ·
                     rw [if_neg c41] at H
                     exact absurd H (by simp)
                   ·
                    rw [if_neg c40] at H
                    exact absurd H (by simp)
                  ·
                   rw [if_neg c38] at H
                   exact absurd H (by simp)
                 ·
                  rw [if_neg c37] at H
                  exact absurd H (by simp)
                ·
                 rw [if_neg c34] at H
                 exact absurd H (by simp)
               ·
                rw [if_neg c33] at H
                exact absurd H (by simp)
              ·
               rw [if_neg c31] at H
               exact absurd H (by simp)
         ·
          rw [if_neg c23] at H
          exact absurd H (by simp)
        ·
         (rw [if_neg c22] at H); (have c22b0 : decide (x10_2 < (l1.length : Int)) = false := decide_eq_false c22); clear c22; (obtain rfl := Option.some.inj H)
         go_wp2
         go_ret
         exact ⟨by first | rfl | (simp [errW_none, errW_some] <;> rfl) | (simp [*, errW_none, errW_some] <;> rfl), by repeat (first | (with_reducible first | exact HB.out | apply bA | apply bN | apply bD) | exact HB.out)⟩
     ·
      rw [if_neg c11] at H
      exact absurd H (by simp)
 ·
  replace c6 := Bool.eq_false_iff.mpr c6
  subst c6
  have H1 : (none) = some r := by rw [if_neg (show ¬ (false = true) by decide)] at H; exact H
  clear H
  have H := H1
  clear H1
  exact absurd H (by simp)

end Go.Proofs.Ytffdonpkmnngpaa.PSlotTurns
