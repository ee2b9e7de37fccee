/- Written by a program of this workplace. -/
import Derived.Test.YtffdonpkmnngpaaPPageFormsx0
import Derived.Test.YtffdonpkmnngpaaPPageFormsx3
namespace Go.Proofs.Ytffdonpkmnngpaa.PPageForms
open Go.RowKit Go.Proofs.YtffdonpkmnngpaaW.PrintWords Go.Proofs.YtffdonpkmnngpaaW.PrintLast Go.Proofs.YtffdonpkmnngpaaW.PrintMore
attribute [local go_sem] max2_int min2_int max_two min_two max_three min_three max_four min_four   -- for this text's walks alone
set_option linter.unusedVariables false
set_option linter.unusedSimpArgs false

/-! ### page_num: function 52 -/
def page_num.l0 : Nat → Int → List Int → Int → Int → Option (Int)
  | 0, _, _, _, _ => none
  | k + 1, x2, x5, x6, x7 => if x7 < x6 then (if 0 ≤ x7 then (if x7 < (x5.length : Int) then (page_num.l0 k (Go.bits .or .u64 (IntKind.u64.wrap (x2 * 256)) (IntKind.u64.wrap (rd x5 x7))) x5 x6 (wrap64 (x7 + 1))) else (none)) else (none)) else (some x2)
def page_num.f (k : Nat) (l0 : List Int) : Option (Int) := page_num.l0 k 0 l0 (l0.length : Int) 0
theorem page_num.mono_l : ∀ k, (∀ y0 y1 y2 y3, LeO (page_num.l0 k y0 y1 y2 y3) (page_num.l0 (k + 1) y0 y1 y2 y3))
  | 0 => fun _ _ _ _ r h => by simp [page_num.l0] at h
  | k + 1 => by
    have ih0 := page_num.mono_l k
    · intro y0 y1 y2 y3
      unfold page_num.l0
      repeat' first
      | (with_reducible exact ih0 _ _ _ _)
      | (with_reducible exact LeO.refl _)
      | (with_reducible exact LeO.none _)
      | (with_reducible refine LeO.ite ?_ ?_)
      | (with_reducible refine LeO.bind ?_ (fun _ => ?_))
      | exact ih0 _ _ _ _
      | exact LeO.none _
      | refine LeO.ite ?_ ?_
      | refine LeO.bind ?_ (fun _ => ?_)
theorem page_num.mono : ∀ a0 k, LeO (page_num.f k a0) (page_num.f (k + 1) a0) := by
  intro a0 k
  have ih0 := page_num.mono_l k
  unfold page_num.f
  repeat' first
      | (with_reducible exact ih0 _ _ _ _)
      | (with_reducible exact LeO.refl _)
      | (with_reducible exact LeO.none _)
      | (with_reducible refine LeO.ite ?_ ?_)
      | (with_reducible refine LeO.bind ?_ (fun _ => ?_))
      | exact ih0 _ _ _ _
      | exact LeO.none _
      | refine LeO.ite ?_ ?_
      | refine LeO.bind ?_ (fun _ => ?_)
set_option maxHeartbeats 8000000 in
set_option maxRecDepth 100000 in
theorem page_num.calls (k : Nat) (A0 : Option Addr) (c0 : Nat) (l0 : List Int) (r : Int) (w : World) (hr0 : Kd.C (Kd.int .u8) w A0 l0.length l0) (hc0 : l0.length ≤ c0) (h : page_num.f k l0 = some r) :
    Calls Try.prog 52 #[.slice A0 l0.length c0] w fun e w' => e = .returned (.int .u64 r) ∧ Drawn0 w w' := by
  have HR0 := Aside0.mk hr0
  have HC0 := Aside0.mk hc0
  clear hr0 hc0
  have H : (page_num.l0 k 0 l0 (l0.length : Int) 0) = some r := h
  clear h
  have H' := Aside0.mk H
  clear H
  go_enter Try.func52, Try.ntmps52
  go_wp2
  go_loopg [2, 7] k (fun kq v2 v7 w' => ∃ (x2_1 : Int) (x7_1 : Int), v2 = .int .u64 x2_1 ∧ v7 = .int .i64 x7_1 ∧ Aside0 (page_num.l0 kq x2_1 l0 (l0.length : Int) x7_1 = some r) ∧ Aside0 (kq ≤ k) ∧ Drawn0 w w')
  case atStart => exact ⟨(0), (0), (by first | rfl | (simp; done) | (simp [*]; done)), (by first | rfl | (simp; done) | (simp [*]; done)), H', ⟨Nat.le_refl _⟩, by repeat (first | exact Drawn0.refl _ | apply Drawn0.step)⟩
  case round =>
    clear H'
    obtain ⟨x2_1, x7_1, rfl, rfl, HA, HK1, ⟨m1, rfl⟩⟩ := hrel
    cases gk with
    | zero => exact absurd HA.out (by simp [page_num.l0])
    | succ k1 =>
      have H := HA.out
      clear HA
      simp only [page_num.l0] at H
      by_cases c2 : x7_1 < (l0.length : Int)
      · rw [if_pos c2] at H
        have c2b0 : decide (x7_1 < (l0.length : Int)) = true := decide_eq_true c2
        clear c2
        by_cases c3 : 0 ≤ x7_1
        · rw [if_pos c3] at H
          have c3b0 : decide (0 ≤ x7_1) = true := decide_eq_true c3
          clear c3
          by_cases c4 : x7_1 < (l0.length : Int)
          · rw [if_pos c4] at H
            have c4b0 : decide (x7_1 < (l0.length : Int)) = true := decide_eq_true c4
            clear c4
            have H' := Aside0.mk H
            clear H
            have p128 : 0 ≤ (x7_1 : Int) := of_decide_eq_true (by first | (with_reducible assumption) | assumption)
            have q128 : x7_1 < (l0.length : Int) := of_decide_eq_true (by first | (with_reducible assumption) | assumption)
            obtain ⟨ad128, e128, hx128_0⟩ := Kd.at_int HR0.out x7_1 p128 q128
            cases e128
            replace p128 := eq_true p128
            replace q128 := eq_true q128
            go_wp2
            go_roundg k1
            case measure => have := HK1.out; omega
            case rel => exact ⟨(Go.bits .or .u64 (IntKind.u64.wrap (x2_1 * 256)) (IntKind.u64.wrap (rd l0 x7_1))), (wrap64 (x7_1 + 1)), (by first | rfl | (simp; done) | (simp [*]; done)), (by first | rfl | (simp; done) | (simp [*]; done)), H', ⟨by have := HK1.out; omega⟩, by repeat (first | exact Drawn0.refl _ | apply Drawn0.step)⟩
          · rw [if_neg c4] at H
            exact absurd H (by simp)
        · rw [if_neg c3] at H
          exact absurd H (by simp)
      · rw [if_neg c2] at H
        have c2b0 : decide (x7_1 < (l0.length : Int)) = false := decide_eq_false c2
        clear c2
        obtain rfl := Option.some.inj H
        go_wp2
        go_ret
        exact ⟨by first | rfl | (simp; done) | (simp [*]; done), by repeat (first | exact Drawn0.refl _ | apply Drawn0.step)⟩

/-! ### page_Take: function 42 -/
def page_Take.f (k : Nat) (l0 : List Int) : Option (Int × Int × Int × ByteArray × Int × Bool × Int) := if (l0.length : Int) < 19 then some (0, 0, 0, ⟨#[]⟩, 0, false, 2) else (page_num.f k (l0.take 2)).bind fun t1 => (page_num.f k ((l0.take 4).drop 2)).bind fun t2 => (page_num.f k ((l0.take 6).drop 4)).bind fun t3 => (page_num.f k ((l0.take 15).drop 7)).bind fun t4 => (page_Put.f k (wrap64 t1) (wrap64 t2) (wrap64 t3) (strOfNums ((l0.take (l0.length - 4)).drop 15)) (wrap64 t4) (rd l0 6 == 1)).bind fun b => (bytes_Equal.f b l0).bind fun q => if q = true then some (wrap64 t1, wrap64 t2, wrap64 t3, strOfNums ((l0.take (l0.length - 4)).drop 15), wrap64 t4, rd l0 6 == 1, 0) else some (0, 0, 0, ⟨#[]⟩, 0, false, 2)
theorem page_Take.mono : ∀ a0 k, LeO (page_Take.f k a0) (page_Take.f (k + 1) a0) := by
  intro a0 k
  unfold page_Take.f
  exact LeO.ite (LeO.refl _) (LeO.bind (page_num.mono _ _) fun _ => LeO.bind (page_num.mono _ _) fun _ => LeO.bind (page_num.mono _ _) fun _ => LeO.bind (page_num.mono _ _) fun _ => LeO.bind (page_Put.mono _ _ _ _ _ _ _) fun _ => LeO.refl _)
open Go.Proofs.Ytffdonpkmnngpaa.RG in
set_option linter.unusedSimpArgs false in
set_option maxHeartbeats 8000000 in
set_option maxRecDepth 100000 in
theorem page_Take.calls (k : Nat) (A0 : Option Addr) (c0 : Nat) (l0 : List Int) (r1 r2 r3 : Int) (r4 : ByteArray) (r5 : Int) (r6 : Bool) (r7 : Int) (w : World) (hr0 : Kd.C (Kd.int .u8) w A0 l0.length l0) (hc0 : l0.length ≤ c0) (h : page_Take.f k l0 = some (r1, r2, r3, r4, r5, r6, r7)) :
    Calls Try.prog 42 #[.slice A0 l0.length c0] w fun e w' => e = .returned (.tuple #[.agg #[.int .i64 r1, .int .i64 r2, .int .i64 r3, .string r4, .int .i64 r5, .bool r6], .int .i64 r7]) ∧ Below w.heap.size w w' := by
  have hu61 := Try.underlying61
  have HB := Aside0.mk (Below.refl w.heap.size w)
  have HR0 := Aside0.mk hr0
  have HC0 := Aside0.mk hc0
  unfold page_Take.f at h
  by_cases c0_ : (l0.length : Int) < 19
  · rw [if_pos c0_] at h
    simp only [Option.some.injEq, Prod.mk.injEq] at h
    obtain ⟨rfl, rfl, rfl, rfl, rfl, rfl, rfl⟩ := h
    have b0 : decide ((l0.length : Int) < 19) = true := decide_eq_true c0_
    have b1 : decide (l0.length < 19) = true := decide_eq_true (by omega)
    clear c0_ hr0 hc0
    go_enter Try.func42, Try.ntmps42
    go_wp2_with (first | ((with_reducible refine gate_dst (N := 2) rfl ?_); refine box_event ?hg (N := 2) ?hd (cs := #[.int .i64 0, .int .i64 0, .int .i64 0, .string ⟨#[]⟩, .int .i64 0, .bool false]) (t := 61) ?hr ?_; (case hd => rfl); (case hg => rfl); (case hr => first | (go_simp; done) | (go_simp; rfl)); intro gb hg w1 hbox hb; have BK := Aside0.mk hbox; have GE := Aside0.mk (show w.heap.size ≤ gb by rw [hg]; exact Nat.le_refl _); clear HB; have HB := Aside0.mk hb; clear hg hbox hb; have hz0 := (blk_cell BK.out 0).trans rfl; have hz1 := (blk_cell BK.out 1).trans rfl; have hz2 := (blk_cell BK.out 2).trans rfl; have hz3 := (blk_cell BK.out 3).trans rfl; have hz4 := (blk_cell BK.out 4).trans rfl; have hz5 := (blk_cell BK.out 5).trans rfl; have hf0 := blk_frozen BK.out 0; have hf1 := blk_frozen BK.out 1; have hf2 := blk_frozen BK.out 2; have hf3 := blk_frozen BK.out 3; have hf4 := blk_frozen BK.out 4; have hf5 := blk_frozen BK.out 5))
    refine bodyPost_ret (results_ct rfl _ _ gb 61 #[.int .i64 0, .int .i64 0, .int .i64 0, .string ⟨#[]⟩, .int .i64 0, .bool false] (0, 0) _ rfl (by refine blk_put (cs := #[.int .i64 0, .int .i64 0, .int .i64 0, .string ⟨#[]⟩, .int .i64 0, .bool false]) ?_ 5 _ rfl; refine blk_put (cs := #[.int .i64 0, .int .i64 0, .int .i64 0, .string ⟨#[]⟩, .int .i64 0, .bool false]) ?_ 4 _ rfl; refine blk_put (cs := #[.int .i64 0, .int .i64 0, .int .i64 0, .string ⟨#[]⟩, .int .i64 0, .bool false]) ?_ 3 _ rfl; refine blk_put (cs := #[.int .i64 0, .int .i64 0, .int .i64 0, .string ⟨#[]⟩, .int .i64 0, .bool false]) ?_ 2 _ rfl; refine blk_put (cs := #[.int .i64 0, .int .i64 0, .int .i64 0, .string ⟨#[]⟩, .int .i64 0, .bool false]) ?_ 1 _ rfl; refine blk_put (cs := #[.int .i64 0, .int .i64 0, .int .i64 0, .string ⟨#[]⟩, .int .i64 0, .bool false]) ?_ 0 _ rfl; exact BK.out) Try.underlying61 rfl (by kernel_rfl)) rfl ?_
    exact ⟨rfl, by repeat (with_reducible first | exact HB.out | refine below_set ?_ GE.out)⟩
  · rw [if_neg c0_] at h
    have hlen : 19 ≤ l0.length := by omega
    have hmax : l0.length ≤ 9223372036854775807 := hr0.2.1
    have b0 : decide ((l0.length : Int) < 19) = false := decide_eq_false c0_
    have b1 : decide (l0.length < 19) = false := decide_eq_false (by omega)
    have HSUB := Aside0.mk (show wrap64 ((l0.length : Int) - 4) = (l0.length : Int) - 4 from by unfold wrap64; omega)
    obtain ⟨t1, h1, hn⟩ := Option.bind_eq_some_iff.mp h
    clear h
    obtain ⟨t2, h2, h⟩ := Option.bind_eq_some_iff.mp hn
    clear hn
    obtain ⟨t3, h3, hn⟩ := Option.bind_eq_some_iff.mp h
    clear h
    obtain ⟨t4, h4, h⟩ := Option.bind_eq_some_iff.mp hn
    clear hn
    obtain ⟨b, h5, hn⟩ := Option.bind_eq_some_iff.mp h
    clear h
    obtain ⟨q, h6, h⟩ := Option.bind_eq_some_iff.mp hn
    clear hn
    have e5 : ((l0.length : Int) - 4).toNat = l0.length - 4 := by omega
    obtain ⟨i0, hi0, _, hsz, _⟩ := info_parts info5
    obtain ⟨y1, hy1⟩ : ∃ y : List Int, y = l0.take 2 := ⟨_, rfl⟩
    obtain ⟨y2, hy2⟩ : ∃ y : List Int, y = (l0.take 4).drop 2 := ⟨_, rfl⟩
    obtain ⟨y3, hy3⟩ : ∃ y : List Int, y = (l0.take 6).drop 4 := ⟨_, rfl⟩
    obtain ⟨y4, hy4⟩ : ∃ y : List Int, y = (l0.take 15).drop 7 := ⟨_, rfl⟩
    obtain ⟨y5, hy5⟩ : ∃ y : List Int, y = (l0.take (l0.length - 4)).drop 15 := ⟨_, rfl⟩
    rw [← hy1] at h1
    rw [← hy2] at h2
    rw [← hy3] at h3
    rw [← hy4] at h4
    rw [← hy5] at h5 h
    obtain ⟨hcut1, hA1, hC1⟩ := print_take_of (P := Try.prog) (Value.int .u8) 0 22 5 .i64 Try.underlying22 hi0 hsz A0 c0 l0 2 (by omega) (by omega) hc0
    obtain ⟨A2, hcut2, hA2, hC2⟩ := print_mid_of (P := Try.prog) (Value.int .u8) 0 22 5 .i64 .i64 Try.underlying22 hi0 hsz A0 c0 l0 2 4 (by omega) (by omega) (by omega) hc0
    obtain ⟨A3, hcut3, hA3, hC3⟩ := print_mid_of (P := Try.prog) (Value.int .u8) 0 22 5 .i64 .i64 Try.underlying22 hi0 hsz A0 c0 l0 4 6 (by omega) (by omega) (by omega) hc0
    obtain ⟨A4, hcut4, hA4, hC4⟩ := print_mid_of (P := Try.prog) (Value.int .u8) 0 22 5 .i64 .i64 Try.underlying22 hi0 hsz A0 c0 l0 7 15 (by omega) (by omega) (by omega) hc0
    obtain ⟨A5, hcut5, hA5, hC5⟩ := print_mid_of (P := Try.prog) (Value.int .u8) 0 22 5 .i64 .i64 Try.underlying22 hi0 hsz A0 c0 l0 15 ((l0.length : Int) - 4) (by omega) (by omega) (by omega) hc0
    rw [e5] at hcut5 hA5 hC5
    simp only [Int.reduceToNat] at hcut1 hA1 hC1 hcut2 hA2 hC2 hcut3 hA3 hC3 hcut4 hA4 hC4 hcut5 hA5 hC5
    rw [← hy1] at hcut1 hA1 hC1
    rw [← hy2] at hcut2 hA2 hC2
    rw [← hy3] at hcut3 hA3 hC3
    rw [← hy4] at hcut4 hA4 hC4
    rw [← hy5] at hcut5 hA5 hC5
    have HR1 : Aside0 (Kd.C (Kd.int .u8) w A0 y1.length y1) := Aside0.mk (Kd.C_of_reads (h1 := fun _ => rfl) (hA1 _ (Kd.reads_of_C hr0)))
    have HR2 : Aside0 (Kd.C (Kd.int .u8) w A2 y2.length y2) := Aside0.mk (Kd.C_of_reads (h1 := fun _ => rfl) (hA2 _ (Kd.reads_of_C hr0)))
    have HR3 : Aside0 (Kd.C (Kd.int .u8) w A3 y3.length y3) := Aside0.mk (Kd.C_of_reads (h1 := fun _ => rfl) (hA3 _ (Kd.reads_of_C hr0)))
    have HR4 : Aside0 (Kd.C (Kd.int .u8) w A4 y4.length y4) := Aside0.mk (Kd.C_of_reads (h1 := fun _ => rfl) (hA4 _ (Kd.reads_of_C hr0)))
    have HR5 : Aside0 (Kd.C (Kd.int .u8) w A5 y5.length y5) := Aside0.mk (Kd.C_of_reads (h1 := fun _ => rfl) (hA5 _ (Kd.reads_of_C hr0)))
    have HL1 := Aside0.mk hC1
    have HL2 := Aside0.mk hC2
    have HL3 := Aside0.mk hC3
    have HL4 := Aside0.mk hC4
    have HL5 := Aside0.mk hC5
    obtain ⟨ad, ead, hx⟩ := Kd.at_int hr0 6 (by omega) (by omega)
    cases ead
    simp only [show (6 : Int).toNat = 6 from rfl, Nat.reduceMul, Nat.reduceEqDiff, Go.Addr.add, ↓reduceIte] at hx
    have HX := Aside0.mk hx
    have p6 : (0 ≤ (6 : Int)) = True := eq_true (by omega)
    have q6 : ((6 : Int) < (l0.length : Int)) = True := eq_true (by omega)
    have n6 : (6 < l0.length) = True := eq_true (by omega)
    have A1_ := Aside0.mk h1
    have A2_ := Aside0.mk h2
    have A3_ := Aside0.mk h3
    have A4_ := Aside0.mk h4
    have A5_ := Aside0.mk h5
    have A6_ := Aside0.mk h6
    cases q
    · rw [if_neg (by decide)] at h
      simp only [Option.some.injEq, Prod.mk.injEq] at h
      obtain ⟨rfl, rfl, rfl, rfl, rfl, rfl, rfl⟩ := h
      clear hA1 hA2 hA3 hA4 hA5 hC1 hC2 hC3 hC4 hC5 h1 h2 h3 h4 h5 h6 hy1 hy2 hy3 hy4 hy5 hx hi0 hsz e5 hr0 hc0 c0_ hmax
      go_enter Try.func42, Try.ntmps42
      go_wp2_with (first | ((with_reducible refine gate_dst (N := 2) rfl ?_); refine box_event ?hg (N := 2) ?hd (cs := #[.int .i64 0, .int .i64 0, .int .i64 0, .string ⟨#[]⟩, .int .i64 0, .bool false]) (t := 61) ?hr ?_; (case hd => rfl); (case hg => rfl); (case hr => first | (go_simp; done) | (go_simp; rfl)); intro gb hg w1 hbox hb; have BK := Aside0.mk hbox; have GE := Aside0.mk (show w.heap.size ≤ gb by rw [hg]; exact Nat.le_refl _); clear HB; have HB := Aside0.mk hb; clear hg hbox hb))
      have hsubw := HSUB.out
      have hsub := (i64_w ((l0.length : Int) - 4)).trans hsubw
      refine RG.regionT 43 28 (fun W => Below w.heap.size w W ∧ W.heap[gb]? = some (.cells #[.int .i64 0, .int .i64 0, .int .i64 0, .string ⟨#[]⟩, .int .i64 0, .bool false] 61 (0, 0))) [Sp.exact ?_, Sp.exact ?_, Sp.exact ?_, Sp.exact ?_, Sp.exact ?_, Sp.exact ?_, Sp.exact ?_, Sp.exact ?_, Sp.exact ?_, Sp.exact ?_, Sp.exact ?_, Sp.exact ?_, Sp.exact ?_, Sp.exact ?_, Sp.exact ?_, Sp.exact ?_, Sp.exact ?_, Sp.exact ?_, Sp.exact ?_, Sp.exact ?_, Sp.exact ?_, Sp.exact ?_, Sp.exact ?_, Sp.exact ?_, Sp.exact ?_, Sp.exact ?_, Sp.exact ?_, Sp.ex (fun v W => ∃ g, v = .pointer (some ⟨g, 0, none⟩) ∧ w.heap.size ≤ g ∧ W.heap[g]? = some (.cells #[.int .i64 0, .int .i64 0, .int .i64 0, .string ⟨#[]⟩, .int .i64 0, .bool false] 61 (0, 0)) ∧ gb ≠ g)] (by kernel_rfl) (by kernel_rfl) (by kernel_rfl) rfl (fun _ _ hb h => ⟨below_then h.1 h.1.size hb, blk_below h.2 hb⟩) (by exact ⟨fun v W W1 hb h => by obtain ⟨g, e, h1, h2, h3⟩ := h; exact ⟨g, e, h1, blk_below h2 hb, h3⟩, trivial⟩) (⟨below_drew1 HB.out, blk_drew BK.out⟩) ?_
      rotate_right
      simp only [List.toList_toArray, List.take_succ_cons, List.take_zero, List.drop_succ_cons, List.drop_zero]
      refine rgW.just (b' := ?_) (Or.inl ⟨by rfl, ?_⟩) ?_ ?_; rotate_left; (focus (intro w'; go_simp; with_reducible rfl)); (focus (simp only [Act.put, List.setIfInBounds_toArray, List.set_cons_zero, List.set_cons_succ]; try rfl))
      refine rgW.just (b' := ?_) (Or.inl ⟨by rfl, ?_⟩) ?_ ?_; rotate_left; (focus (intro w'; go_simp; with_reducible rfl)); (focus (simp only [Act.put, List.setIfInBounds_toArray, List.set_cons_zero, List.set_cons_succ]; try rfl))
      refine rgW.callx (b' := ?_) (d := .int .u64 t1) #[.slice (some ad) y1.length c0] Try.func52 (by kernel_rfl) rfl (by rfl) rfl (by (try simp only [List.map_toArray, List.map_cons, List.map_nil]); first | done | rfl) (fun W hS hK => ?_) ?_ ?_ ?_
      rotate_left
      · with_reducible refine (page_num.calls k _ _ y1 t1 W (Kd.C_below HR1.out hS.1) HL1.out A1_.out).mono ?_
        rintro e W' ⟨rfl, hd⟩
        exact ⟨rfl, hd.below⟩
      · rfl
      · simp only [Act.put, List.setIfInBounds_toArray, List.set_cons_zero, List.set_cons_succ]
        try rfl
      refine rgW.just (b' := ?_) (Or.inl ⟨by rfl, ?_⟩) ?_ ?_; rotate_left; (focus (intro w'; go_simp; with_reducible rfl)); (focus (simp only [Act.put, List.setIfInBounds_toArray, List.set_cons_zero, List.set_cons_succ]; try rfl))
      refine rgW.just (b' := ?_) (Or.inl ⟨by rfl, ?_⟩) ?_ ?_; rotate_left; (focus (intro w'; go_simp; with_reducible rfl)); (focus (simp only [Act.put, List.setIfInBounds_toArray, List.set_cons_zero, List.set_cons_succ]; try rfl))
      refine rgW.just (b' := ?_) (Or.inl ⟨by rfl, ?_⟩) ?_ ?_; rotate_left; (focus (intro w'; go_simp; with_reducible rfl)); (focus (simp only [Act.put, List.setIfInBounds_toArray, List.set_cons_zero, List.set_cons_succ]; try rfl))
      refine rgW.callx (b' := ?_) (d := .int .u64 t2) #[.slice A2 y2.length (c0 - 2)] Try.func52 (by kernel_rfl) rfl (by rfl) rfl (by (try simp only [List.map_toArray, List.map_cons, List.map_nil]); first | done | rfl) (fun W hS hK => ?_) ?_ ?_ ?_
      rotate_left
      · with_reducible refine (page_num.calls k _ _ y2 t2 W (Kd.C_below HR2.out hS.1) HL2.out A2_.out).mono ?_
        rintro e W' ⟨rfl, hd⟩
        exact ⟨rfl, hd.below⟩
      · rfl
      · simp only [Act.put, List.setIfInBounds_toArray, List.set_cons_zero, List.set_cons_succ]
        try rfl
      refine rgW.just (b' := ?_) (Or.inl ⟨by rfl, ?_⟩) ?_ ?_; rotate_left; (focus (intro w'; go_simp; with_reducible rfl)); (focus (simp only [Act.put, List.setIfInBounds_toArray, List.set_cons_zero, List.set_cons_succ]; try rfl))
      refine rgW.just (b' := ?_) (Or.inl ⟨by rfl, ?_⟩) ?_ ?_; rotate_left; (focus (intro w'; go_simp; with_reducible rfl)); (focus (simp only [Act.put, List.setIfInBounds_toArray, List.set_cons_zero, List.set_cons_succ]; try rfl))
      refine rgW.just (b' := ?_) (Or.inl ⟨by rfl, ?_⟩) ?_ ?_; rotate_left; (focus (intro w'; go_simp; with_reducible rfl)); (focus (simp only [Act.put, List.setIfInBounds_toArray, List.set_cons_zero, List.set_cons_succ]; try rfl))
      refine rgW.callx (b' := ?_) (d := .int .u64 t3) #[.slice A3 y3.length (c0 - 4)] Try.func52 (by kernel_rfl) rfl (by rfl) rfl (by (try simp only [List.map_toArray, List.map_cons, List.map_nil]); first | done | rfl) (fun W hS hK => ?_) ?_ ?_ ?_
      rotate_left
      · with_reducible refine (page_num.calls k _ _ y3 t3 W (Kd.C_below HR3.out hS.1) HL3.out A3_.out).mono ?_
        rintro e W' ⟨rfl, hd⟩
        exact ⟨rfl, hd.below⟩
      · rfl
      · simp only [Act.put, List.setIfInBounds_toArray, List.set_cons_zero, List.set_cons_succ]
        try rfl
      refine rgW.just (b' := ?_) (Or.inl ⟨by rfl, ?_⟩) ?_ ?_; rotate_left; (focus (intro w'; go_simp; with_reducible rfl)); (focus (simp only [Act.put, List.setIfInBounds_toArray, List.set_cons_zero, List.set_cons_succ]; try rfl))
      refine rgW.just (b' := ?_) (Or.inl ⟨by rfl, ?_⟩) ?_ ?_; rotate_left; (focus (intro w'; go_simp; with_reducible rfl)); (focus (simp only [Act.put, List.setIfInBounds_toArray, List.set_cons_zero, List.set_cons_succ]; try rfl))
      refine rgW.just (b' := ?_) (Or.inl ⟨by rfl, ?_⟩) ?_ ?_; rotate_left; (focus (intro w'; go_simp; with_reducible rfl)); (focus (simp only [Act.put, List.setIfInBounds_toArray, List.set_cons_zero, List.set_cons_succ]; try rfl))
      refine rgW.read (b' := ?_) (by rfl) ?_ ?_ ?_; rotate_left; (focus (intro W hS hK; have hc_ := (hS.1.cell (World.block_lt_of_cell? w _ HX.out)).trans HX.out; go_simp; with_reducible rfl)); (focus (simp only [Act.put, List.setIfInBounds_toArray, List.set_cons_zero, List.set_cons_succ]; try rfl))
      refine rgW.just (b' := ?_) (Or.inl ⟨by rfl, ?_⟩) ?_ ?_; rotate_left; (focus (intro w'; go_simp; with_reducible rfl)); (focus (simp only [Act.put, List.setIfInBounds_toArray, List.set_cons_zero, List.set_cons_succ]; try rfl))
      refine rgW.just (b' := ?_) (Or.inl ⟨by rfl, ?_⟩) ?_ ?_; rotate_left; (focus (intro w'; go_simp; with_reducible rfl)); (focus (simp only [Act.put, List.setIfInBounds_toArray, List.set_cons_zero, List.set_cons_succ]; try rfl))
      refine rgW.just (b' := ?_) (Or.inl ⟨by rfl, ?_⟩) ?_ ?_; rotate_left; (focus (intro w'; go_simp; with_reducible rfl)); (focus (simp only [Act.put, List.setIfInBounds_toArray, List.set_cons_zero, List.set_cons_succ]; try rfl))
      refine rgW.callx (b' := ?_) (d := .int .u64 t4) #[.slice A4 y4.length (c0 - 7)] Try.func52 (by kernel_rfl) rfl (by rfl) rfl (by (try simp only [List.map_toArray, List.map_cons, List.map_nil]); first | done | rfl) (fun W hS hK => ?_) ?_ ?_ ?_
      rotate_left
      · with_reducible refine (page_num.calls k _ _ y4 t4 W (Kd.C_below HR4.out hS.1) HL4.out A4_.out).mono ?_
        rintro e W' ⟨rfl, hd⟩
        exact ⟨rfl, hd.below⟩
      · rfl
      · simp only [Act.put, List.setIfInBounds_toArray, List.set_cons_zero, List.set_cons_succ]
        try rfl
      refine rgW.just (b' := ?_) (Or.inl ⟨by rfl, ?_⟩) ?_ ?_; rotate_left; (focus (intro w'; go_simp; with_reducible rfl)); (focus (simp only [Act.put, List.setIfInBounds_toArray, List.set_cons_zero, List.set_cons_succ]; try rfl))
      refine rgW.just (b' := ?_) (Or.inl ⟨by rfl, ?_⟩) ?_ ?_; rotate_left; (focus (intro w'; go_simp; with_reducible rfl)); (focus (simp only [Act.put, List.setIfInBounds_toArray, List.set_cons_zero, List.set_cons_succ]; try rfl))
      refine rgW.just (b' := ?_) (Or.inl ⟨by rfl, ?_⟩) ?_ ?_; rotate_left; (focus (intro w'; go_simp; with_reducible rfl)); (focus (simp only [Act.put, List.setIfInBounds_toArray, List.set_cons_zero, List.set_cons_succ]; try rfl))
      refine rgW.just (b' := ?_) (Or.inl ⟨by rfl, ?_⟩) ?_ ?_; rotate_left; (focus (intro w'; go_simp; with_reducible rfl)); (focus (simp only [Act.put, List.setIfInBounds_toArray, List.set_cons_zero, List.set_cons_succ]; try rfl))
      refine rgW.just (b' := ?_) (Or.inl ⟨by rfl, ?_⟩) ?_ ?_; rotate_left; (focus (intro w'; go_simp; with_reducible rfl)); (focus (simp only [Act.put, List.setIfInBounds_toArray, List.set_cons_zero, List.set_cons_succ]; try rfl))
      refine rgW.just (b' := ?_) (Or.inl ⟨by rfl, ?_⟩) ?_ ?_; rotate_left; (focus (intro w'; go_simp; with_reducible rfl)); (focus (simp only [Act.put, List.setIfInBounds_toArray, List.set_cons_zero, List.set_cons_succ]; try rfl))
      refine rgW.conv (b' := ?_) (xs := y5) (by rfl) rfl (by rfl) Try.underlying22 Try.underlying5 Try.underlying9 ?_ ?_ ?_ ?_; rotate_left; (focus rfl); (focus (intro W hS hK; exact ⟨_, _, rfl, HL5.out, Kd.C_below HR5.out hS.1⟩)); (focus (simp only [Act.put, List.setIfInBounds_toArray, List.set_cons_zero, List.set_cons_succ]; try rfl))
      refine rgW.just (b' := ?_) (Or.inl ⟨by rfl, ?_⟩) ?_ ?_; rotate_left; (focus (intro w'; go_simp; with_reducible rfl)); (focus (simp only [Act.put, List.setIfInBounds_toArray, List.set_cons_zero, List.set_cons_succ]; try rfl))
      refine rgW.told (b' := ?_) ?_ (fun W hS hK K hKK => ?_) ?_
      rotate_left
      · intro v
        simp only [Act.put, List.setIfInBounds_toArray, List.set_cons_zero, List.set_cons_succ]
        exact rfl
      · ((refine box_step ?hg (N := 4) ?hd (cs := #[.int .i64 0, .int .i64 0, .int .i64 0, .string ⟨#[]⟩, .int .i64 0, .bool false]) (t := 61) ?hr ?_); (case hd => rfl); (case hg => rfl); (case hr => first | (go_simp; done) | (go_simp; rfl)); intro g2 hg W2 hbox hb; exact hKK _ _ ⟨g2, rfl, by rw [hg]; exact hS.1.size, hbox, by rw [hg]; exact Nat.ne_of_lt (blk_lt hS.2)⟩ hb)
      intro v_
      clear hsub hsubw
      intro W hS hA
      obtain ⟨⟨g2, e_, hge, hblk, hne⟩, _⟩ := hA
      subst e_
      clear HB BK
      have HB := Aside0.mk hS.1
      have BK := Aside0.mk hS.2
      have BK2 := Aside0.mk hblk
      have GE2 := Aside0.mk hge
      have NE := Aside0.mk hne
      have ne1 := NE.out
      have ne2 := NE.out.symm
      clear hS hge hblk hne
      have yz0 := (blk_cell BK2.out 0).trans rfl
      have yf0 := blk_frozen BK2.out 0
      have yz1 := (blk_cell BK2.out 1).trans rfl
      have yf1 := blk_frozen BK2.out 1
      have yz2 := (blk_cell BK2.out 2).trans rfl
      have yf2 := blk_frozen BK2.out 2
      have yz3 := (blk_cell BK2.out 3).trans rfl
      have yf3 := blk_frozen BK2.out 3
      have yz4 := (blk_cell BK2.out 4).trans rfl
      have yf4 := blk_frozen BK2.out 4
      have yz5 := (blk_cell BK2.out 5).trans rfl
      have yf5 := blk_frozen BK2.out 5
      go_wp2_with (first | (go_at_call 41; (with_reducible refine (page_Put.calls k _ _ _ _ _ _ b _ A5_.out).mono ?_); rintro e w5 ⟨v5, rfl, ho_, hb_⟩; have n1_ := Aside0.mk (below_step (by repeat (with_reducible first | exact HB.out | refine below_set ?_ GE2.out)) hb_); have n2_ := Aside0.mk (blk_below (g := gb) (o := .cells #[.int .i64 0, .int .i64 0, .int .i64 0, .string ⟨#[]⟩, .int .i64 0, .bool false] 61 (0, 0)) (by refine blk_far ?_ NE.out _; refine blk_far ?_ NE.out _; refine blk_far ?_ NE.out _; refine blk_far ?_ NE.out _; refine blk_far ?_ NE.out _; refine blk_far ?_ NE.out _; exact BK.out) hb_); have n3_ := Aside0.mk (blk_below (g := g2) (o := .cells #[.int .i64 (wrap64 t1), .int .i64 (wrap64 t2), .int .i64 (wrap64 t3), .string (strOfNums y5), .int .i64 (wrap64 t4), .bool (rd l0 6 == 1)] 61 (0, 0)) (by refine blk_put (cs := #[.int .i64 (wrap64 t1), .int .i64 (wrap64 t2), .int .i64 (wrap64 t3), .string (strOfNums y5), .int .i64 (wrap64 t4), .bool false]) ?_ 5 _ rfl; refine blk_put (cs := #[.int .i64 (wrap64 t1), .int .i64 (wrap64 t2), .int .i64 (wrap64 t3), .string (strOfNums y5), .int .i64 0, .bool false]) ?_ 4 _ rfl; refine blk_put (cs := #[.int .i64 (wrap64 t1), .int .i64 (wrap64 t2), .int .i64 (wrap64 t3), .string ⟨#[]⟩, .int .i64 0, .bool false]) ?_ 3 _ rfl; refine blk_put (cs := #[.int .i64 (wrap64 t1), .int .i64 (wrap64 t2), .int .i64 0, .string ⟨#[]⟩, .int .i64 0, .bool false]) ?_ 2 _ rfl; refine blk_put (cs := #[.int .i64 (wrap64 t1), .int .i64 0, .int .i64 0, .string ⟨#[]⟩, .int .i64 0, .bool false]) ?_ 1 _ rfl; refine blk_put (cs := #[.int .i64 0, .int .i64 0, .int .i64 0, .string ⟨#[]⟩, .int .i64 0, .bool false]) ?_ 0 _ rfl; exact BK2.out) hb_); clear HB BK BK2; have HB := n1_; have BK := n2_; have BK2 := n3_; clear n1_ n2_ n3_; obtain ⟨A9, c9, e9, hc9, hC9⟩ := Kd.R_reads ho_; subst e9; have HC9 := Aside0.mk hC9; have HD9 := Aside0.mk hc9; clear hb_ ho_ hC9 hc9; have zaz0 := (blk_cell BK.out 0).trans rfl; have zaf0 := blk_frozen BK.out 0; have zaz1 := (blk_cell BK.out 1).trans rfl; have zaf1 := blk_frozen BK.out 1; have zaz2 := (blk_cell BK.out 2).trans rfl; have zaf2 := blk_frozen BK.out 2; have zaz3 := (blk_cell BK.out 3).trans rfl; have zaf3 := blk_frozen BK.out 3; have zaz4 := (blk_cell BK.out 4).trans rfl; have zaf4 := blk_frozen BK.out 4; have zaz5 := (blk_cell BK.out 5).trans rfl; have zaf5 := blk_frozen BK.out 5; have zbz0 := (blk_cell BK2.out 0).trans rfl; have zbf0 := blk_frozen BK2.out 0; have zbz1 := (blk_cell BK2.out 1).trans rfl; have zbf1 := blk_frozen BK2.out 1; have zbz2 := (blk_cell BK2.out 2).trans rfl; have zbf2 := blk_frozen BK2.out 2; have zbz3 := (blk_cell BK2.out 3).trans rfl; have zbf3 := blk_frozen BK2.out 3; have zbz4 := (blk_cell BK2.out 4).trans rfl; have zbf4 := blk_frozen BK2.out 4; have zbz5 := (blk_cell BK2.out 5).trans rfl; have zbf5 := blk_frozen BK2.out 5) | (go_at_call 49; (with_reducible refine (bytes_Equal.calls _ _ b _ _ l0 _ _ ?side1 ?side2 ?side3 ?side4 A6_.out).mono ?_); (case side1 => exact HC9.out); (case side2 => exact HD9.out); (case side3 => exact Kd.C_below HR0.out HB.out); (case side4 => exact HC0.out); rintro e w6 ⟨rfl, ⟨nd, rfl⟩⟩))
      refine bodyPost_ret (results_ct rfl _ _ gb 61 #[.int .i64 0, .int .i64 0, .int .i64 0, .string ⟨#[]⟩, .int .i64 0, .bool false] (0, 0) _ rfl (by refine blk_put (cs := #[.int .i64 0, .int .i64 0, .int .i64 0, .string ⟨#[]⟩, .int .i64 0, .bool false]) ?_ 5 _ rfl; refine blk_put (cs := #[.int .i64 0, .int .i64 0, .int .i64 0, .string ⟨#[]⟩, .int .i64 0, .bool false]) ?_ 4 _ rfl; refine blk_put (cs := #[.int .i64 0, .int .i64 0, .int .i64 0, .string ⟨#[]⟩, .int .i64 0, .bool false]) ?_ 3 _ rfl; refine blk_put (cs := #[.int .i64 0, .int .i64 0, .int .i64 0, .string ⟨#[]⟩, .int .i64 0, .bool false]) ?_ 2 _ rfl; refine blk_put (cs := #[.int .i64 0, .int .i64 0, .int .i64 0, .string ⟨#[]⟩, .int .i64 0, .bool false]) ?_ 1 _ rfl; refine blk_put (cs := #[.int .i64 0, .int .i64 0, .int .i64 0, .string ⟨#[]⟩, .int .i64 0, .bool false]) ?_ 0 _ rfl; exact blk_drewN BK.out _) Try.underlying61 rfl (by kernel_rfl)) rfl ?_
      exact ⟨rfl, by repeat (with_reducible first | exact HB.out | apply pw_below_drewN | refine below_set ?_ GE.out)⟩
    · rw [if_pos rfl] at h
      simp only [Option.some.injEq, Prod.mk.injEq] at h
      obtain ⟨rfl, rfl, rfl, rfl, rfl, rfl, rfl⟩ := h
      clear hA1 hA2 hA3 hA4 hA5 hC1 hC2 hC3 hC4 hC5 h1 h2 h3 h4 h5 h6 hy1 hy2 hy3 hy4 hy5 hx hi0 hsz e5 hr0 hc0 c0_ hmax
      go_enter Try.func42, Try.ntmps42
      go_wp2_with (first | ((with_reducible refine gate_dst (N := 2) rfl ?_); refine box_event ?hg (N := 2) ?hd (cs := #[.int .i64 0, .int .i64 0, .int .i64 0, .string ⟨#[]⟩, .int .i64 0, .bool false]) (t := 61) ?hr ?_; (case hd => rfl); (case hg => rfl); (case hr => first | (go_simp; done) | (go_simp; rfl)); intro gb hg w1 hbox hb; have BK := Aside0.mk hbox; have GE := Aside0.mk (show w.heap.size ≤ gb by rw [hg]; exact Nat.le_refl _); clear HB; have HB := Aside0.mk hb; clear hg hbox hb))
      have hsubw := HSUB.out
      have hsub := (i64_w ((l0.length : Int) - 4)).trans hsubw
      refine RG.regionT 43 28 (fun W => Below w.heap.size w W ∧ W.heap[gb]? = some (.cells #[.int .i64 0, .int .i64 0, .int .i64 0, .string ⟨#[]⟩, .int .i64 0, .bool false] 61 (0, 0))) [Sp.exact ?_, Sp.exact ?_, Sp.exact ?_, Sp.exact ?_, Sp.exact ?_, Sp.exact ?_, Sp.exact ?_, Sp.exact ?_, Sp.exact ?_, Sp.exact ?_, Sp.exact ?_, Sp.exact ?_, Sp.exact ?_, Sp.exact ?_, Sp.exact ?_, Sp.exact ?_, Sp.exact ?_, Sp.exact ?_, Sp.exact ?_, Sp.exact ?_, Sp.exact ?_, Sp.exact ?_, Sp.exact ?_, Sp.exact ?_, Sp.exact ?_, Sp.exact ?_, Sp.exact ?_, Sp.ex (fun v W => ∃ g, v = .pointer (some ⟨g, 0, none⟩) ∧ w.heap.size ≤ g ∧ W.heap[g]? = some (.cells #[.int .i64 0, .int .i64 0, .int .i64 0, .string ⟨#[]⟩, .int .i64 0, .bool false] 61 (0, 0)) ∧ gb ≠ g)] (by kernel_rfl) (by kernel_rfl) (by kernel_rfl) rfl (fun _ _ hb h => ⟨below_then h.1 h.1.size hb, blk_below h.2 hb⟩) (by exact ⟨fun v W W1 hb h => by obtain ⟨g, e, h1, h2, h3⟩ := h; exact ⟨g, e, h1, blk_below h2 hb, h3⟩, trivial⟩) (⟨below_drew1 HB.out, blk_drew BK.out⟩) ?_
      rotate_right
      simp only [List.toList_toArray, List.take_succ_cons, List.take_zero, List.drop_succ_cons, List.drop_zero]
      refine rgW.just (b' := ?_) (Or.inl ⟨by rfl, ?_⟩) ?_ ?_; rotate_left; (focus (intro w'; go_simp; with_reducible rfl)); (focus (simp only [Act.put, List.setIfInBounds_toArray, List.set_cons_zero, List.set_cons_succ]; try rfl))
      refine rgW.just (b' := ?_) (Or.inl ⟨by rfl, ?_⟩) ?_ ?_; rotate_left; (focus (intro w'; go_simp; with_reducible rfl)); (focus (simp only [Act.put, List.setIfInBounds_toArray, List.set_cons_zero, List.set_cons_succ]; try rfl))
      refine rgW.callx (b' := ?_) (d := .int .u64 t1) #[.slice (some ad) y1.length c0] Try.func52 (by kernel_rfl) rfl (by rfl) rfl (by (try simp only [List.map_toArray, List.map_cons, List.map_nil]); first | done | rfl) (fun W hS hK => ?_) ?_ ?_ ?_
      rotate_left
      · with_reducible refine (page_num.calls k _ _ y1 t1 W (Kd.C_below HR1.out hS.1) HL1.out A1_.out).mono ?_
        rintro e W' ⟨rfl, hd⟩
        exact ⟨rfl, hd.below⟩
      · rfl
      · simp only [Act.put, List.setIfInBounds_toArray, List.set_cons_zero, List.set_cons_succ]
        try rfl
      refine rgW.just (b' := ?_) (Or.inl ⟨by rfl, ?_⟩) ?_ ?_; rotate_left; (focus (intro w'; go_simp; with_reducible rfl)); (focus (simp only [Act.put, List.setIfInBounds_toArray, List.set_cons_zero, List.set_cons_succ]; try rfl))
      refine rgW.just (b' := ?_) (Or.inl ⟨by rfl, ?_⟩) ?_ ?_; rotate_left; (focus (intro w'; go_simp; with_reducible rfl)); (focus (simp only [Act.put, List.setIfInBounds_toArray, List.set_cons_zero, List.set_cons_succ]; try rfl))
      refine rgW.just (b' := ?_) (Or.inl ⟨by rfl, ?_⟩) ?_ ?_; rotate_left; (focus (intro w'; go_simp; with_reducible rfl)); (focus (simp only [Act.put, List.setIfInBounds_toArray, List.set_cons_zero, List.set_cons_succ]; try rfl))
      refine rgW.callx (b' := ?_) (d := .int .u64 t2) #[.slice A2 y2.length (c0 - 2)] Try.func52 (by kernel_rfl) rfl (by rfl) rfl (by (try simp only [List.map_toArray, List.map_cons, List.map_nil]); first | done | rfl) (fun W hS hK => ?_) ?_ ?_ ?_
      rotate_left
      · with_reducible refine (page_num.calls k _ _ y2 t2 W (Kd.C_below HR2.out hS.1) HL2.out A2_.out).mono ?_
        rintro e W' ⟨rfl, hd⟩
        exact ⟨rfl, hd.below⟩
      · rfl
      · simp only [Act.put, List.setIfInBounds_toArray, List.set_cons_zero, List.set_cons_succ]
        try rfl
      refine rgW.just (b' := ?_) (Or.inl ⟨by rfl, ?_⟩) ?_ ?_; rotate_left; (focus (intro w'; go_simp; with_reducible rfl)); (focus (simp only [Act.put, List.setIfInBounds_toArray, List.set_cons_zero, List.set_cons_succ]; try rfl))
      refine rgW.just (b' := ?_) (Or.inl ⟨by rfl, ?_⟩) ?_ ?_; rotate_left; (focus (intro w'; go_simp; with_reducible rfl)); (focus (simp only [Act.put, List.setIfInBounds_toArray, List.set_cons_zero, List.set_cons_succ]; try rfl))
      refine rgW.just (b' := ?_) (Or.inl ⟨by rfl, ?_⟩) ?_ ?_; rotate_left; (focus (intro w'; go_simp; with_reducible rfl)); (focus (simp only [Act.put, List.setIfInBounds_toArray, List.set_cons_zero, List.set_cons_succ]; try rfl))
      refine rgW.callx (b' := ?_) (d := .int .u64 t3) #[.slice A3 y3.length (c0 - 4)] Try.func52 (by kernel_rfl) rfl (by rfl) rfl (by (try simp only [List.map_toArray, List.map_cons, List.map_nil]); first | done | rfl) (fun W hS hK => ?_) ?_ ?_ ?_
      rotate_left
      · with_reducible refine (page_num.calls k _ _ y3 t3 W (Kd.C_below HR3.out hS.1) HL3.out A3_.out).mono ?_
        rintro e W' ⟨rfl, hd⟩
        exact ⟨rfl, hd.below⟩
      · rfl
      · simp only [Act.put, List.setIfInBounds_toArray, List.set_cons_zero, List.set_cons_succ]
        try rfl
      refine rgW.just (b' := ?_) (Or.inl ⟨by rfl, ?_⟩) ?_ ?_; rotate_left; (focus (intro w'; go_simp; with_reducible rfl)); (focus (simp only [Act.put, List.setIfInBounds_toArray, List.set_cons_zero, List.set_cons_succ]; try rfl))
      refine rgW.just (b' := ?_) (Or.inl ⟨by rfl, ?_⟩) ?_ ?_; rotate_left; (focus (intro w'; go_simp; with_reducible rfl)); (focus (simp only [Act.put, List.setIfInBounds_toArray, List.set_cons_zero, List.set_cons_succ]; try rfl))
      refine rgW.just (b' := ?_) (Or.inl ⟨by rfl, ?_⟩) ?_ ?_; rotate_left; (focus (intro w'; go_simp; with_reducible rfl)); (focus (simp only [Act.put, List.setIfInBounds_toArray, List.set_cons_zero, List.set_cons_succ]; try rfl))
      refine rgW.read (b' := ?_) (by rfl) ?_ ?_ ?_; rotate_left; (focus (intro W hS hK; have hc_ := (hS.1.cell (World.block_lt_of_cell? w _ HX.out)).trans HX.out; go_simp; with_reducible rfl)); (focus (simp only [Act.put, List.setIfInBounds_toArray, List.set_cons_zero, List.set_cons_succ]; try rfl))
      refine rgW.just (b' := ?_) (Or.inl ⟨by rfl, ?_⟩) ?_ ?_; rotate_left; (focus (intro w'; go_simp; with_reducible rfl)); (focus (simp only [Act.put, List.setIfInBounds_toArray, List.set_cons_zero, List.set_cons_succ]; try rfl))
      refine rgW.just (b' := ?_) (Or.inl ⟨by rfl, ?_⟩) ?_ ?_; rotate_left; (focus (intro w'; go_simp; with_reducible rfl)); (focus (simp only [Act.put, List.setIfInBounds_toArray, List.set_cons_zero, List.set_cons_succ]; try rfl))
      refine rgW.just (b' := ?_) (Or.inl ⟨by rfl, ?_⟩) ?_ ?_; rotate_left; (focus (intro w'; go_simp; with_reducible rfl)); (focus (simp only [Act.put, List.setIfInBounds_toArray, List.set_cons_zero, List.set_cons_succ]; try rfl))
      refine rgW.callx (b' := ?_) (d := .int .u64 t4) #[.slice A4 y4.length (c0 - 7)] Try.func52 (by kernel_rfl) rfl (by rfl) rfl (by (try simp only [List.map_toArray, List.map_cons, List.map_nil]); first | done | rfl) (fun W hS hK => ?_) ?_ ?_ ?_
      rotate_left
      · with_reducible refine (page_num.calls k _ _ y4 t4 W (Kd.C_below HR4.out hS.1) HL4.out A4_.out).mono ?_
        rintro e W' ⟨rfl, hd⟩
        exact ⟨rfl, hd.below⟩
      · rfl
      · simp only [Act.put, List.setIfInBounds_toArray, List.set_cons_zero, List.set_cons_succ]
        try rfl
      refine rgW.just (b' := ?_) (Or.inl ⟨by rfl, ?_⟩) ?_ ?_; rotate_left; (focus (intro w'; go_simp; with_reducible rfl)); (focus (simp only [Act.put, List.setIfInBounds_toArray, List.set_cons_zero, List.set_cons_succ]; try rfl))
      refine rgW.just (b' := ?_) (Or.inl ⟨by rfl, ?_⟩) ?_ ?_; rotate_left; (focus (intro w'; go_simp; with_reducible rfl)); (focus (simp only [Act.put, List.setIfInBounds_toArray, List.set_cons_zero, List.set_cons_succ]; try rfl))
      refine rgW.just (b' := ?_) (Or.inl ⟨by rfl, ?_⟩) ?_ ?_; rotate_left; (focus (intro w'; go_simp; with_reducible rfl)); (focus (simp only [Act.put, List.setIfInBounds_toArray, List.set_cons_zero, List.set_cons_succ]; try rfl))
      refine rgW.just (b' := ?_) (Or.inl ⟨by rfl, ?_⟩) ?_ ?_; rotate_left; (focus (intro w'; go_simp; with_reducible rfl)); (focus (simp only [Act.put, List.setIfInBounds_toArray, List.set_cons_zero, List.set_cons_succ]; try rfl))
      refine rgW.just (b' := ?_) (Or.inl ⟨by rfl, ?_⟩) ?_ ?_; rotate_left; (focus (intro w'; go_simp; with_reducible rfl)); (focus (simp only [Act.put, List.setIfInBounds_toArray, List.set_cons_zero, List.set_cons_succ]; try rfl))
      refine rgW.just (b' := ?_) (Or.inl ⟨by rfl, ?_⟩) ?_ ?_; rotate_left; (focus (intro w'; go_simp; with_reducible rfl)); (focus (simp only [Act.put, List.setIfInBounds_toArray, List.set_cons_zero, List.set_cons_succ]; try rfl))
      refine rgW.conv (b' := ?_) (xs := y5) (by rfl) rfl (by rfl) Try.underlying22 Try.underlying5 Try.underlying9 ?_ ?_ ?_ ?_; rotate_left; (focus rfl); (focus (intro W hS hK; exact ⟨_, _, rfl, HL5.out, Kd.C_below HR5.out hS.1⟩)); (focus (simp only [Act.put, List.setIfInBounds_toArray, List.set_cons_zero, List.set_cons_succ]; try rfl))
      refine rgW.just (b' := ?_) (Or.inl ⟨by rfl, ?_⟩) ?_ ?_; rotate_left; (focus (intro w'; go_simp; with_reducible rfl)); (focus (simp only [Act.put, List.setIfInBounds_toArray, List.set_cons_zero, List.set_cons_succ]; try rfl))
      refine rgW.told (b' := ?_) ?_ (fun W hS hK K hKK => ?_) ?_
      rotate_left
      · intro v
        simp only [Act.put, List.setIfInBounds_toArray, List.set_cons_zero, List.set_cons_succ]
        exact rfl
      · ((refine box_step ?hg (N := 4) ?hd (cs := #[.int .i64 0, .int .i64 0, .int .i64 0, .string ⟨#[]⟩, .int .i64 0, .bool false]) (t := 61) ?hr ?_); (case hd => rfl); (case hg => rfl); (case hr => first | (go_simp; done) | (go_simp; rfl)); intro g2 hg W2 hbox hb; exact hKK _ _ ⟨g2, rfl, by rw [hg]; exact hS.1.size, hbox, by rw [hg]; exact Nat.ne_of_lt (blk_lt hS.2)⟩ hb)
      intro v_
      clear hsub hsubw
      intro W hS hA
      obtain ⟨⟨g2, e_, hge, hblk, hne⟩, _⟩ := hA
      subst e_
      clear HB BK
      have HB := Aside0.mk hS.1
      have BK := Aside0.mk hS.2
      have BK2 := Aside0.mk hblk
      have GE2 := Aside0.mk hge
      have NE := Aside0.mk hne
      have ne1 := NE.out
      have ne2 := NE.out.symm
      clear hS hge hblk hne
      have yz0 := (blk_cell BK2.out 0).trans rfl
      have yf0 := blk_frozen BK2.out 0
      have yz1 := (blk_cell BK2.out 1).trans rfl
      have yf1 := blk_frozen BK2.out 1
      have yz2 := (blk_cell BK2.out 2).trans rfl
      have yf2 := blk_frozen BK2.out 2
      have yz3 := (blk_cell BK2.out 3).trans rfl
      have yf3 := blk_frozen BK2.out 3
      have yz4 := (blk_cell BK2.out 4).trans rfl
      have yf4 := blk_frozen BK2.out 4
      have yz5 := (blk_cell BK2.out 5).trans rfl
      have yf5 := blk_frozen BK2.out 5
      go_wp2_with (first | (go_at_call 41; (with_reducible refine (page_Put.calls k _ _ _ _ _ _ b _ A5_.out).mono ?_); rintro e w5 ⟨v5, rfl, ho_, hb_⟩; have n1_ := Aside0.mk (below_step (by repeat (with_reducible first | exact HB.out | refine below_set ?_ GE2.out)) hb_); have n2_ := Aside0.mk (blk_below (g := gb) (o := .cells #[.int .i64 0, .int .i64 0, .int .i64 0, .string ⟨#[]⟩, .int .i64 0, .bool false] 61 (0, 0)) (by refine blk_far ?_ NE.out _; refine blk_far ?_ NE.out _; refine blk_far ?_ NE.out _; refine blk_far ?_ NE.out _; refine blk_far ?_ NE.out _; refine blk_far ?_ NE.out _; exact BK.out) hb_); have n3_ := Aside0.mk (blk_below (g := g2) (o := .cells #[.int .i64 (wrap64 t1), .int .i64 (wrap64 t2), .int .i64 (wrap64 t3), .string (strOfNums y5), .int .i64 (wrap64 t4), .bool (rd l0 6 == 1)] 61 (0, 0)) (by refine blk_put (cs := #[.int .i64 (wrap64 t1), .int .i64 (wrap64 t2), .int .i64 (wrap64 t3), .string (strOfNums y5), .int .i64 (wrap64 t4), .bool false]) ?_ 5 _ rfl; refine blk_put (cs := #[.int .i64 (wrap64 t1), .int .i64 (wrap64 t2), .int .i64 (wrap64 t3), .string (strOfNums y5), .int .i64 0, .bool false]) ?_ 4 _ rfl; refine blk_put (cs := #[.int .i64 (wrap64 t1), .int .i64 (wrap64 t2), .int .i64 (wrap64 t3), .string ⟨#[]⟩, .int .i64 0, .bool false]) ?_ 3 _ rfl; refine blk_put (cs := #[.int .i64 (wrap64 t1), .int .i64 (wrap64 t2), .int .i64 0, .string ⟨#[]⟩, .int .i64 0, .bool false]) ?_ 2 _ rfl; refine blk_put (cs := #[.int .i64 (wrap64 t1), .int .i64 0, .int .i64 0, .string ⟨#[]⟩, .int .i64 0, .bool false]) ?_ 1 _ rfl; refine blk_put (cs := #[.int .i64 0, .int .i64 0, .int .i64 0, .string ⟨#[]⟩, .int .i64 0, .bool false]) ?_ 0 _ rfl; exact BK2.out) hb_); clear HB BK BK2; have HB := n1_; have BK := n2_; have BK2 := n3_; clear n1_ n2_ n3_; obtain ⟨A9, c9, e9, hc9, hC9⟩ := Kd.R_reads ho_; subst e9; have HC9 := Aside0.mk hC9; have HD9 := Aside0.mk hc9; clear hb_ ho_ hC9 hc9; have zaz0 := (blk_cell BK.out 0).trans rfl; have zaf0 := blk_frozen BK.out 0; have zaz1 := (blk_cell BK.out 1).trans rfl; have zaf1 := blk_frozen BK.out 1; have zaz2 := (blk_cell BK.out 2).trans rfl; have zaf2 := blk_frozen BK.out 2; have zaz3 := (blk_cell BK.out 3).trans rfl; have zaf3 := blk_frozen BK.out 3; have zaz4 := (blk_cell BK.out 4).trans rfl; have zaf4 := blk_frozen BK.out 4; have zaz5 := (blk_cell BK.out 5).trans rfl; have zaf5 := blk_frozen BK.out 5; have zbz0 := (blk_cell BK2.out 0).trans rfl; have zbf0 := blk_frozen BK2.out 0; have zbz1 := (blk_cell BK2.out 1).trans rfl; have zbf1 := blk_frozen BK2.out 1; have zbz2 := (blk_cell BK2.out 2).trans rfl; have zbf2 := blk_frozen BK2.out 2; have zbz3 := (blk_cell BK2.out 3).trans rfl; have zbf3 := blk_frozen BK2.out 3; have zbz4 := (blk_cell BK2.out 4).trans rfl; have zbf4 := blk_frozen BK2.out 4; have zbz5 := (blk_cell BK2.out 5).trans rfl; have zbf5 := blk_frozen BK2.out 5) | (go_at_call 49; (with_reducible refine (bytes_Equal.calls _ _ b _ _ l0 _ _ ?side1 ?side2 ?side3 ?side4 A6_.out).mono ?_); (case side1 => exact HC9.out); (case side2 => exact HD9.out); (case side3 => exact Kd.C_below HR0.out HB.out); (case side4 => exact HC0.out); rintro e w6 ⟨rfl, ⟨nd, rfl⟩⟩))
      refine bodyPost_ret (results_ct rfl _ _ gb 61 #[.int .i64 (wrap64 t1), .int .i64 (wrap64 t2), .int .i64 (wrap64 t3), .string (strOfNums y5), .int .i64 (wrap64 t4), .bool (rd l0 6 == 1)] (0, 0) _ rfl (by refine blk_put (cs := #[.int .i64 (wrap64 t1), .int .i64 (wrap64 t2), .int .i64 (wrap64 t3), .string (strOfNums y5), .int .i64 (wrap64 t4), .bool false]) ?_ 5 _ rfl; refine blk_put (cs := #[.int .i64 (wrap64 t1), .int .i64 (wrap64 t2), .int .i64 (wrap64 t3), .string (strOfNums y5), .int .i64 0, .bool false]) ?_ 4 _ rfl; refine blk_put (cs := #[.int .i64 (wrap64 t1), .int .i64 (wrap64 t2), .int .i64 (wrap64 t3), .string ⟨#[]⟩, .int .i64 0, .bool false]) ?_ 3 _ rfl; refine blk_put (cs := #[.int .i64 (wrap64 t1), .int .i64 (wrap64 t2), .int .i64 0, .string ⟨#[]⟩, .int .i64 0, .bool false]) ?_ 2 _ rfl; refine blk_put (cs := #[.int .i64 (wrap64 t1), .int .i64 0, .int .i64 0, .string ⟨#[]⟩, .int .i64 0, .bool false]) ?_ 1 _ rfl; refine blk_put (cs := #[.int .i64 0, .int .i64 0, .int .i64 0, .string ⟨#[]⟩, .int .i64 0, .bool false]) ?_ 0 _ rfl; exact blk_drewN BK.out _) Try.underlying61 rfl (by kernel_rfl)) rfl ?_
      exact ⟨rfl, by repeat (with_reducible first | exact HB.out | apply pw_below_drewN | refine below_set ?_ GE.out)⟩

end Go.Proofs.Ytffdonpkmnngpaa.PPageForms
