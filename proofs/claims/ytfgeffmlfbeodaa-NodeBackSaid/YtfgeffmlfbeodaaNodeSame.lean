/- node.Same: a node is the same as one of the same parts. Bound to this program. -/
import Derived.Test.YtfgeffmlfbeodaaPNodeBackx4
import Derived.Test.YtfgeffmlfbeodaaPNodeBackx3
namespace Go.Proofs.Ytfgeffmlfbeodaa.PNodeBack
open Go Go.RowKit Go.Proofs Go.Proofs.YtfgeffmlfbeodaaW.PrintWords Go.Proofs.YtfgeffmlfbeodaaW.PrintLast Go.Proofs.YtfgeffmlfbeodaaW.PrintMore
set_option linter.unusedVariables false
set_option linter.unusedSimpArgs false
theorem eqs (l : List Int) : bytes_Equal.f l l = some true := by unfold bytes_Equal.f; simp
set_option maxHeartbeats 1000000 in
set_option maxRecDepth 100000 in
theorem cl108 (A1 : Option Addr) (c1 : Nat) (A2 : Option Addr) (c2 : Nat) (D1 : Option Addr) (d1 : Nat) (D2 : Option Addr) (d2 : Nat) (x y : List Int) (w : World)
    (h1 : Kd.C (Kd.int .u8) w A1 x.length x) (k1 : x.length ≤ c1) (h2 : Kd.C (Kd.int .u8) w A2 y.length y) (k2 : y.length ≤ c2) (h3 : Kd.C (Kd.int .u8) w D1 x.length x) (k3 : x.length ≤ d1) (h4 : Kd.C (Kd.int .u8) w D2 y.length y) (k4 : y.length ≤ d2) :
    Calls Try.prog 108 #[.agg #[.slice A1 x.length c1, .slice A2 y.length c2], .agg #[.slice D1 x.length d1, .slice D2 y.length d2]] w fun e w' => e = .returned (.bool true) ∧ Below w.heap.size w w' := by
  have HB := Aside0.mk (Below.refl w.heap.size w)
  have P1 := Aside0.mk h1
  have P2 := Aside0.mk h2
  have P3 := Aside0.mk h3
  have P4 := Aside0.mk h4
  have Q1 := Aside0.mk k1
  have Q2 := Aside0.mk k2
  have Q3 := Aside0.mk k3
  have Q4 := Aside0.mk k4
  clear h1 h2 h3 h4 k1 k2 k3 k4
  go_enter Try.func108, Try.ntmps108
  go_wp2_with (first | ((with_reducible refine gate_dst (N := 2) rfl ?_); (try (refine gate_guard (by rfl) ?_; dsimp only)); refine box_event ?hg (N := 2) ?hd (cs := #[.slice A1 x.length c1, .slice A2 y.length c2]) (t := 87) ?hr ?_; (case hd => rfl); (case hg => rfl); (case hr => first | (go_simp; done) | (go_simp; rfl)); intro g2 hg w2 hbox hb; have B2 := Aside0.mk hbox; have G2 := Aside0.mk (show w.heap.size ≤ g2 by rw [hg]; exact HB.out.size); have nb_ := Aside0.mk (below_step HB.out hb); clear HB ; have HB := nb_; clear nb_ ; clear hg hbox hb; have az0 := (blk_cell B2.out 0).trans rfl; have af0 := blk_frozen B2.out 0; have az1 := (blk_cell B2.out 1).trans rfl; have af1 := blk_frozen B2.out 1) | ((with_reducible refine gate_dst (N := 3) rfl ?_); (try (refine gate_guard (by rfl) ?_; dsimp only)); refine box_event ?hg (N := 3) ?hd (cs := #[.slice D1 x.length d1, .slice D2 y.length d2]) (t := 87) ?hr ?_; (case hd => rfl); (case hg => rfl); (case hr => first | (go_simp; done) | (go_simp; rfl)); intro g3 hg w3 hbox hb; have B3 := Aside0.mk hbox; have G3 := Aside0.mk (show w.heap.size ≤ g3 by rw [hg]; exact HB.out.size); have nb_ := Aside0.mk (below_step HB.out hb); have n0_ := Aside0.mk (blk_below B2.out hb); clear HB B2; have HB := nb_; have B2 := n0_; clear nb_ n0_; clear hg hbox hb; clear az0 af0 az1 af1; have az0 := (blk_cell B2.out 0).trans rfl; have af0 := blk_frozen B2.out 0; have az1 := (blk_cell B2.out 1).trans rfl; have af1 := blk_frozen B2.out 1; have bz0 := (blk_cell B3.out 0).trans rfl; have bf0 := blk_frozen B3.out 0; have bz1 := (blk_cell B3.out 1).trans rfl; have bf1 := blk_frozen B3.out 1) | (go_at_call 78; (with_reducible refine (bytes_Equal.calls _ _ x _ _ x true _ ?s1 ?s2 ?s3 ?s4 (eqs x)).mono ?_); (case s1 => exact Kd.C_below P1.out HB.out); (case s2 => exact Q1.out); (case s3 => exact Kd.C_below P3.out HB.out); (case s4 => exact Q3.out); rintro e w5 ⟨rfl, hd⟩; have hb := hd.below; have nb_ := Aside0.mk (below_step HB.out hb); have n0_ := Aside0.mk (blk_below B2.out hb); have n1_ := Aside0.mk (blk_below B3.out hb); clear HB B2 B3; have HB := nb_; have B2 := n0_; have B3 := n1_; clear nb_ n0_ n1_; clear az0 af0 az1 af1; have az0 := (blk_cell B2.out 0).trans rfl; have af0 := blk_frozen B2.out 0; have az1 := (blk_cell B2.out 1).trans rfl; have af1 := blk_frozen B2.out 1; clear bz0 bf0 bz1 bf1; have bz0 := (blk_cell B3.out 0).trans rfl; have bf0 := blk_frozen B3.out 0; have bz1 := (blk_cell B3.out 1).trans rfl; have bf1 := blk_frozen B3.out 1; clear hb hd) | (go_at_call 78; (with_reducible refine (bytes_Equal.calls _ _ y _ _ y true _ ?s1 ?s2 ?s3 ?s4 (eqs y)).mono ?_); (case s1 => exact Kd.C_below P2.out HB.out); (case s2 => exact Q2.out); (case s3 => exact Kd.C_below P4.out HB.out); (case s4 => exact Q4.out); rintro e w5 ⟨rfl, hd⟩; have hb := hd.below; have nb_ := Aside0.mk (below_step HB.out hb); have n0_ := Aside0.mk (blk_below B2.out hb); have n1_ := Aside0.mk (blk_below B3.out hb); clear HB B2 B3; have HB := nb_; have B2 := n0_; have B3 := n1_; clear nb_ n0_ n1_; clear az0 af0 az1 af1; have az0 := (blk_cell B2.out 0).trans rfl; have af0 := blk_frozen B2.out 0; have az1 := (blk_cell B2.out 1).trans rfl; have af1 := blk_frozen B2.out 1; clear bz0 bf0 bz1 bf1; have bz0 := (blk_cell B3.out 0).trans rfl; have bf0 := blk_frozen B3.out 0; have bz1 := (blk_cell B3.out 1).trans rfl; have bf1 := blk_frozen B3.out 1; clear hb hd))
  go_ret
  exact ⟨rfl, HB.out⟩
set_option maxHeartbeats 2000000 in
set_option maxRecDepth 100000 in
theorem eqf_110 (A : Option Addr) (c : Nat) (D : Option Addr) (d : Nat) (l : List (List Int)) (w : World) (h1 : Kd.C (Kd.slice 5 (Kd.int .u8)) w A l.length l) (h2 : Kd.C (Kd.slice 5 (Kd.int .u8)) w D l.length l) :
    Calls Try.prog 110 #[.slice A l.length c, .slice D l.length d, .func (.func 78) #[] #[]] w fun e w' => e = .returned (.bool true) ∧ Below w.heap.size w w' := by
  have HB := Aside0.mk (Below.refl w.heap.size w)
  have P1 := Aside0.mk h1
  have P2 := Aside0.mk h2
  have HMX := Aside0.mk (Kd.C_max h1)
  clear h1 h2
  go_enter Try.func110, Try.ntmps110
  go_wp2
  go_loopg [17] (l.length + 1) (fun kq v17 w' => ∃ x : Int, v17 = .int .i64 x ∧ Aside0 (0 ≤ x ∧ x ≤ l.length ∧ x + kq = l.length + 1) ∧ Aside0 (Below w.heap.size w w'))
  case atStart => exact ⟨0, rfl, ⟨⟨by decide, Int.natCast_nonneg _, by simp⟩⟩, HB⟩
  case round =>
    clear HB
    obtain ⟨x, rfl, HX, HB⟩ := hrel
    have hX := HX.out
    cases gk with
    | zero => exact absurd hX.2.2 (by omega)
    | succ k1 =>
      by_cases c7 : x < (l.length : Int)
      · have c7b0 : decide (x < (l.length : Int)) = true := decide_eq_true c7
        obtain ⟨ad, A0_, c0_, e1_, hx0, hl0, hi0⟩ := at_L1 P1.out x hX.1 c7
        cases e1_
        obtain ⟨bd, D0_, d0_, e2_, hy0, hm0, hj0⟩ := at_L1 P2.out x hX.1 c7
        cases e2_
        replace hx0 := (HB.out.cell (World.block_lt_of_cell? w _ hx0)).trans hx0
        replace hy0 := (HB.out.cell (World.block_lt_of_cell? w _ hy0)).trans hy0
        have R1 := Aside0.mk hi0
        have R2 := Aside0.mk hj0
        have L1 := Aside0.mk hl0
        have L2 := Aside0.mk hm0
        have p7 := eq_true hX.1
        have q7 := eq_true c7
        have HW := Aside0.mk (show wrap64 (x + 1) = x + 1 by have := HMX.out; unfold wrap64; omega)
        have HC7 := Aside0.mk c7
        clear c7 hX hi0 hj0 hl0 hm0
        go_wp2_with (go_at_call 78; (with_reducible refine (bytes_Equal.calls _ _ (rd_L1 l x) _ _ (rd_L1 l x) true _ ?s1 ?s2 ?s3 ?s4 (eqs _)).mono ?_); (case s1 => exact Kd.C_below R1.out HB.out); (case s2 => exact L1.out); (case s3 => exact Kd.C_below R2.out HB.out); (case s4 => exact L2.out); rintro e w5 ⟨rfl, hd⟩; have n0_ := Aside0.mk (below_step HB.out hd.below); clear HB; have HB := n0_; clear n0_ hd)
        go_roundg k1
        case measure => omega
        case rel => exact ⟨x + 1, by rw [HW.out], ⟨by have := HX.out; have := HC7.out; exact ⟨by omega, by omega, by omega⟩⟩, HB⟩
      · have c7b0 : decide (x < (l.length : Int)) = false := decide_eq_false c7
        clear c7 hX
        go_wp2
        go_ret
        exact ⟨rfl, HB.out⟩
set_option maxHeartbeats 2000000 in
set_option maxRecDepth 100000 in
theorem eqf_109 (A : Option Addr) (c : Nat) (D : Option Addr) (d : Nat) (l : List S87) (w : World) (h1 : Kd.C k87 w A l.length l) (h2 : Kd.C k87 w D l.length l) :
    Calls Try.prog 109 #[.slice A l.length c, .slice D l.length d, .func (.func 108) #[] #[]] w fun e w' => e = .returned (.bool true) ∧ Below w.heap.size w w' := by
  have HB := Aside0.mk (Below.refl w.heap.size w)
  have P1 := Aside0.mk h1
  have P2 := Aside0.mk h2
  have HMX := Aside0.mk (Kd.C_max h1)
  clear h1 h2
  go_enter Try.func109, Try.ntmps109
  go_wp2
  go_loopg [17] (l.length + 1) (fun kq v17 w' => ∃ x : Int, v17 = .int .i64 x ∧ Aside0 (0 ≤ x ∧ x ≤ l.length ∧ x + kq = l.length + 1) ∧ Aside0 (Below w.heap.size w w'))
  case atStart => exact ⟨0, rfl, ⟨⟨by decide, Int.natCast_nonneg _, by simp⟩⟩, HB⟩
  case round =>
    clear HB
    obtain ⟨x, rfl, HX, HB⟩ := hrel
    have hX := HX.out
    cases gk with
    | zero => exact absurd hX.2.2 (by omega)
    | succ k1 =>
      by_cases c7 : x < (l.length : Int)
      · have c7b0 : decide (x < (l.length : Int)) = true := decide_eq_true c7
        obtain ⟨ad, A0_, c0_, A1_, c1_, e1_, hx0, hx1, hl0, hi0, hl1, hi1⟩ := at_T87 P1.out x hX.1 c7
        cases e1_
        obtain ⟨bd, D0_, d0_, D1_, d1_, e2_, hy0, hy1, hm0, hj0, hm1, hj1⟩ := at_T87 P2.out x hX.1 c7
        cases e2_
        have Y0 := Aside0.mk hy0
        have Y1 := Aside0.mk hy1
        replace hx0 := (HB.out.cell (World.block_lt_of_cell? w _ hx0)).trans hx0
        replace hx1 := (HB.out.cell (World.block_lt_of_cell? w _ hx1)).trans hx1
        have R0 := Aside0.mk hi0
        have R1 := Aside0.mk hi1
        have S0 := Aside0.mk hj0
        have S1 := Aside0.mk hj1
        have L0 := Aside0.mk hl0
        have L1 := Aside0.mk hl1
        have M0 := Aside0.mk hm0
        have M1 := Aside0.mk hm1
        have p7 := eq_true hX.1
        have q7 := eq_true c7
        have HW := Aside0.mk (show wrap64 (x + 1) = x + 1 by have := HMX.out; unfold wrap64; omega)
        have HC7 := Aside0.mk c7
        clear c7 hX hi0 hj0 hl0 hm0 hi1 hj1 hl1 hm1 hy0 hy1
        go_upto_region 6 with (first | ((with_reducible refine gate_dst (N := 8) rfl ?_); (try (refine gate_guard (by rfl) ?_; dsimp only)); refine box_event ?hg (N := 8) ?hd (cs := #[.slice none 0 0, .slice none 0 0]) (t := 87) ?hr ?_; (case hd => rfl); (case hg => rfl); (case hr => first | (go_simp; done) | (go_simp; rfl)); intro g8 hg w7 hbox hb; have B8 := Aside0.mk hbox; have G8 := Aside0.mk (show w.heap.size ≤ g8 by rw [hg]; exact HB.out.size); have nb_ := Aside0.mk (below_step HB.out hb); clear HB ; have HB := nb_; clear nb_ ; clear hg hbox hb; have az0 := (blk_cell B8.out 0).trans rfl; have af0 := blk_frozen B8.out 0; have az1 := (blk_cell B8.out 1).trans rfl; have af1 := blk_frozen B8.out 1))
        clear az0 af0 az1 af1 hx0 hx1
        have n0_ := Aside0.mk (show ((w7.setCell ⟨g8, 0, none⟩ (.slice A0_ (rd_T87 l x).f0.length c0_)).setCell ⟨g8, 1, none⟩ (.slice A1_ (rd_T87 l x).f1.length c1_)).heap[g8]? = some (.cells #[.slice A0_ (rd_T87 l x).f0.length c0_, .slice A1_ (rd_T87 l x).f1.length c1_] 87 (0, 0)) by refine blk_put (cs := #[.slice A0_ (rd_T87 l x).f0.length c0_, .slice none 0 0]) ?_ 1 _ rfl; refine blk_put (cs := #[.slice none 0 0, .slice none 0 0]) ?_ 0 _ rfl; exact B8.out)
        have nb_ := Aside0.mk (show Below w.heap.size w ((w7.setCell ⟨g8, 0, none⟩ (.slice A0_ (rd_T87 l x).f0.length c0_)).setCell ⟨g8, 1, none⟩ (.slice A1_ (rd_T87 l x).f1.length c1_)) by repeat (with_reducible first | exact HB.out | refine below_set ?_ G8.out))
        clear HB B8 
        have HB := nb_
        have B8 := n0_
        clear nb_ n0_ 
        have hy0 := (HB.out.cell (World.block_lt_of_cell? w _ Y0.out)).trans Y0.out
        have hy1 := (HB.out.cell (World.block_lt_of_cell? w _ Y1.out)).trans Y1.out
        have LT8 := Aside0.mk (blk_lt B8.out)
        go_upto_region 7 with (first | ((with_reducible refine gate_dst (N := 9) rfl ?_); (try (refine gate_guard (by rfl) ?_; dsimp only)); refine box_event ?hg (N := 9) ?hd (cs := #[.slice none 0 0, .slice none 0 0]) (t := 87) ?hr ?_; (case hd => rfl); (case hg => rfl); (case hr => first | (go_simp; done) | (go_simp; rfl)); intro g9 hg w9 hbox hb; have B9 := Aside0.mk hbox; have G9 := Aside0.mk (show w.heap.size ≤ g9 by rw [hg]; exact HB.out.size); have nb_ := Aside0.mk (below_step HB.out hb); have n0_ := Aside0.mk (blk_below B8.out hb); clear HB B8; have HB := nb_; have B8 := n0_; clear nb_ n0_; have N_ : g8 ≠ g9 := (by rw [hg]; exact Nat.ne_of_lt LT8.out); clear hg hbox hb; have N89 := Aside0.mk (show g8 ≠ g9 from N_); have bz0 := (blk_cell B9.out 0).trans rfl; have bf0 := blk_frozen B9.out 0; have bz1 := (blk_cell B9.out 1).trans rfl; have bf1 := blk_frozen B9.out 1))
        clear bz0 bf0 bz1 bf1 hy0 hy1
        have n0_ := Aside0.mk (show ((w9.setCell ⟨g9, 0, none⟩ (.slice D0_ (rd_T87 l x).f0.length d0_)).setCell ⟨g9, 1, none⟩ (.slice D1_ (rd_T87 l x).f1.length d1_)).heap[g9]? = some (.cells #[.slice D0_ (rd_T87 l x).f0.length d0_, .slice D1_ (rd_T87 l x).f1.length d1_] 87 (0, 0)) by refine blk_put (cs := #[.slice D0_ (rd_T87 l x).f0.length d0_, .slice none 0 0]) ?_ 1 _ rfl; refine blk_put (cs := #[.slice none 0 0, .slice none 0 0]) ?_ 0 _ rfl; exact B9.out)
        have nb_ := Aside0.mk (show Below w.heap.size w ((w9.setCell ⟨g9, 0, none⟩ (.slice D0_ (rd_T87 l x).f0.length d0_)).setCell ⟨g9, 1, none⟩ (.slice D1_ (rd_T87 l x).f1.length d1_)) by repeat (with_reducible first | exact HB.out | refine below_set ?_ G9.out))
        have n1_ := Aside0.mk (show ((w9.setCell ⟨g9, 0, none⟩ (.slice D0_ (rd_T87 l x).f0.length d0_)).setCell ⟨g9, 1, none⟩ (.slice D1_ (rd_T87 l x).f1.length d1_)).heap[g8]? = some (.cells #[.slice A0_ (rd_T87 l x).f0.length c0_, .slice A1_ (rd_T87 l x).f1.length c1_] 87 (0, 0)) by refine blk_far ?_ N89.out _; refine blk_far ?_ N89.out _; exact B8.out)
        clear HB B9 B8
        have HB := nb_
        have B9 := n0_
        have B8 := n1_
        clear nb_ n0_ n1_
        have az0 := (blk_cell B8.out 0).trans rfl
        have af0 := blk_frozen B8.out 0
        have az1 := (blk_cell B8.out 1).trans rfl
        have af1 := blk_frozen B8.out 1
        have bz0 := (blk_cell B9.out 0).trans rfl
        have bf0 := blk_frozen B9.out 0
        have bz1 := (blk_cell B9.out 1).trans rfl
        have bf1 := blk_frozen B9.out 1
        go_wp2_with (first | (go_at_call 108; (with_reducible refine (cl108 _ _ _ _ _ _ _ _ (rd_T87 l x).f0 (rd_T87 l x).f1 _ ?s1 ?s2 ?s3 ?s4 ?s5 ?s6 ?s7 ?s8).mono ?_); (case s1 => exact Kd.C_below R0.out HB.out); (case s2 => exact L0.out); (case s3 => exact Kd.C_below R1.out HB.out); (case s4 => exact L1.out); (case s5 => exact Kd.C_below S0.out HB.out); (case s6 => exact M0.out); (case s7 => exact Kd.C_below S1.out HB.out); (case s8 => exact M1.out); rintro e w10 ⟨rfl, hb⟩; have n0_ := Aside0.mk (below_step HB.out hb); clear HB; have HB := n0_; clear n0_ hb))
        go_roundg k1
        case measure => omega
        case rel => exact ⟨x + 1, by rw [HW.out], ⟨by have := HX.out; have := HC7.out; exact ⟨by omega, by omega, by omega⟩⟩, HB⟩
      · have c7b0 : decide (x < (l.length : Int)) = false := decide_eq_false c7
        clear c7 hX
        go_wp2
        go_ret
        exact ⟨rfl, HB.out⟩
set_option maxHeartbeats 4000000 in
set_option maxRecDepth 100000 in
theorem node_Same_self (k : Nat) (a0 : Bool) (A1 : Option Addr) (c1 : Nat) (l1 : List S87) (A2 : Option Addr) (c2 : Nat) (l2 : List (List Int)) (A3 : Option Addr) (c3 : Nat) (l3 : List S90) (D1 : Option Addr) (d1 : Nat) (D2 : Option Addr) (d2 : Nat) (D3 : Option Addr) (d3 : Nat) (w : World)
    (h1 : Kd.C k87 w A1 l1.length l1) (h2 : Kd.C (Kd.slice 5 (Kd.int .u8)) w A2 l2.length l2) (h3 : Kd.C k90 w A3 l3.length l3) (hc3 : l3.length ≤ c3) (e1 : Kd.C k87 w D1 l1.length l1) (e2 : Kd.C (Kd.slice 5 (Kd.int .u8)) w D2 l2.length l2) (e3 : Kd.C k90 w D3 l3.length l3) (hd3 : l3.length ≤ d3) (hr : api_Ref_111.f k l3 l3 = some true) :
    Calls Try.prog 73 #[.agg #[.bool a0, .slice A1 l1.length c1, .slice A2 l2.length c2, .slice A3 l3.length c3], .agg #[.bool a0, .slice D1 l1.length d1, .slice D2 l2.length d2, .slice D3 l3.length d3]] w fun e w' => e = .returned (.bool true) ∧ Below w.heap.size w w' := by
  have hu79 := Try.underlying79
  have HB := Aside0.mk (Below.refl w.heap.size w)
  have P1 := Aside0.mk h1
  have P2 := Aside0.mk h2
  have P3 := Aside0.mk h3
  have Q1 := Aside0.mk e1
  have Q2 := Aside0.mk e2
  have Q3 := Aside0.mk e3
  have L3 := Aside0.mk hc3
  have M3 := Aside0.mk hd3
  have HRF := Aside0.mk hr
  clear h1 h2 h3 e1 e2 e3 hc3 hd3 hr
  cases a0
  · skip
    go_enter Try.func73, Try.ntmps73
    go_wp2_with (first | ((with_reducible refine gate_dst (N := 2) rfl ?_); (try (refine gate_guard (by rfl) ?_; dsimp only)); refine box_event ?hg (N := 2) ?hd (cs := #[.bool false, .slice A1 l1.length c1, .slice A2 l2.length c2, .slice A3 l3.length c3]) (t := 79) ?hr ?_; (case hd => rfl); (case hg => rfl); (case hr => first | (go_simp; done) | (go_simp; rfl)); intro g2 hg w2 hbox hb; have B2 := Aside0.mk hbox; have G2 := Aside0.mk (show w.heap.size ≤ g2 by rw [hg]; exact HB.out.size); have nb_ := Aside0.mk (below_step HB.out hb); clear HB ; have HB := nb_; clear nb_ ; clear hg hbox hb; have az0 := (blk_cell B2.out 0).trans rfl; have af0 := blk_frozen B2.out 0; have az1 := (blk_cell B2.out 1).trans rfl; have af1 := blk_frozen B2.out 1; have az2 := (blk_cell B2.out 2).trans rfl; have af2 := blk_frozen B2.out 2; have az3 := (blk_cell B2.out 3).trans rfl; have af3 := blk_frozen B2.out 3) | ((with_reducible refine gate_dst (N := 3) rfl ?_); (try (refine gate_guard (by rfl) ?_; dsimp only)); refine box_event ?hg (N := 3) ?hd (cs := #[.bool false, .slice D1 l1.length d1, .slice D2 l2.length d2, .slice D3 l3.length d3]) (t := 79) ?hr ?_; (case hd => rfl); (case hg => rfl); (case hr => first | (go_simp; done) | (go_simp; rfl)); intro g3 hg w3 hbox hb; have B3 := Aside0.mk hbox; have G3 := Aside0.mk (show w.heap.size ≤ g3 by rw [hg]; exact HB.out.size); have nb_ := Aside0.mk (below_step HB.out hb); have n0_ := Aside0.mk (blk_below B2.out hb); clear HB B2; have HB := nb_; have B2 := n0_; clear nb_ n0_; clear hg hbox hb; clear az0 af0 az1 af1 az2 af2 az3 af3; have az0 := (blk_cell B2.out 0).trans rfl; have af0 := blk_frozen B2.out 0; have az1 := (blk_cell B2.out 1).trans rfl; have af1 := blk_frozen B2.out 1; have az2 := (blk_cell B2.out 2).trans rfl; have af2 := blk_frozen B2.out 2; have az3 := (blk_cell B2.out 3).trans rfl; have af3 := blk_frozen B2.out 3; have bz0 := (blk_cell B3.out 0).trans rfl; have bf0 := blk_frozen B3.out 0; have bz1 := (blk_cell B3.out 1).trans rfl; have bf1 := blk_frozen B3.out 1; have bz2 := (blk_cell B3.out 2).trans rfl; have bf2 := blk_frozen B3.out 2; have bz3 := (blk_cell B3.out 3).trans rfl; have bf3 := blk_frozen B3.out 3) | (go_at_call 109; (with_reducible refine (eqf_109 A1 c1 D1 d1 l1 _ ?s1 ?s2).mono ?_); (case s1 => exact Kd.C_below P1.out HB.out); (case s2 => exact Kd.C_below Q1.out HB.out); rintro e w5 ⟨rfl, hb⟩; have nb_ := Aside0.mk (below_step HB.out hb); have n0_ := Aside0.mk (blk_below B2.out hb); have n1_ := Aside0.mk (blk_below B3.out hb); clear HB B2 B3; have HB := nb_; have B2 := n0_; have B3 := n1_; clear nb_ n0_ n1_; clear az0 af0 az1 af1 az2 af2 az3 af3; have az0 := (blk_cell B2.out 0).trans rfl; have af0 := blk_frozen B2.out 0; have az1 := (blk_cell B2.out 1).trans rfl; have af1 := blk_frozen B2.out 1; have az2 := (blk_cell B2.out 2).trans rfl; have af2 := blk_frozen B2.out 2; have az3 := (blk_cell B2.out 3).trans rfl; have af3 := blk_frozen B2.out 3; clear bz0 bf0 bz1 bf1 bz2 bf2 bz3 bf3; have bz0 := (blk_cell B3.out 0).trans rfl; have bf0 := blk_frozen B3.out 0; have bz1 := (blk_cell B3.out 1).trans rfl; have bf1 := blk_frozen B3.out 1; have bz2 := (blk_cell B3.out 2).trans rfl; have bf2 := blk_frozen B3.out 2; have bz3 := (blk_cell B3.out 3).trans rfl; have bf3 := blk_frozen B3.out 3; clear hb) | (go_at_call 110; (with_reducible refine (eqf_110 A2 c2 D2 d2 l2 _ ?s1 ?s2).mono ?_); (case s1 => exact Kd.C_below P2.out HB.out); (case s2 => exact Kd.C_below Q2.out HB.out); rintro e w6 ⟨rfl, hb⟩; have nb_ := Aside0.mk (below_step HB.out hb); have n0_ := Aside0.mk (blk_below B2.out hb); have n1_ := Aside0.mk (blk_below B3.out hb); clear HB B2 B3; have HB := nb_; have B2 := n0_; have B3 := n1_; clear nb_ n0_ n1_; clear az0 af0 az1 af1 az2 af2 az3 af3; have az0 := (blk_cell B2.out 0).trans rfl; have af0 := blk_frozen B2.out 0; have az1 := (blk_cell B2.out 1).trans rfl; have af1 := blk_frozen B2.out 1; have az2 := (blk_cell B2.out 2).trans rfl; have af2 := blk_frozen B2.out 2; have az3 := (blk_cell B2.out 3).trans rfl; have af3 := blk_frozen B2.out 3; clear bz0 bf0 bz1 bf1 bz2 bf2 bz3 bf3; have bz0 := (blk_cell B3.out 0).trans rfl; have bf0 := blk_frozen B3.out 0; have bz1 := (blk_cell B3.out 1).trans rfl; have bf1 := blk_frozen B3.out 1; have bz2 := (blk_cell B3.out 2).trans rfl; have bf2 := blk_frozen B3.out 2; have bz3 := (blk_cell B3.out 3).trans rfl; have bf3 := blk_frozen B3.out 3; clear hb) | (go_at_call 111; (with_reducible refine (api_Ref_111.calls k A3 c3 l3 D3 d3 l3 true _ ?s1 ?s2 ?s3 ?s4 HRF.out).mono ?_); (case s1 => exact Kd.C_below P3.out HB.out); (case s2 => exact L3.out); (case s3 => exact Kd.C_below Q3.out HB.out); (case s4 => exact M3.out); rintro e w7 ⟨rfl, hd⟩; have hb := hd.below; have nb_ := Aside0.mk (below_step HB.out hb); have n0_ := Aside0.mk (blk_below B2.out hb); have n1_ := Aside0.mk (blk_below B3.out hb); clear HB B2 B3; have HB := nb_; have B2 := n0_; have B3 := n1_; clear nb_ n0_ n1_; clear az0 af0 az1 af1 az2 af2 az3 af3; have az0 := (blk_cell B2.out 0).trans rfl; have af0 := blk_frozen B2.out 0; have az1 := (blk_cell B2.out 1).trans rfl; have af1 := blk_frozen B2.out 1; have az2 := (blk_cell B2.out 2).trans rfl; have af2 := blk_frozen B2.out 2; have az3 := (blk_cell B2.out 3).trans rfl; have af3 := blk_frozen B2.out 3; clear bz0 bf0 bz1 bf1 bz2 bf2 bz3 bf3; have bz0 := (blk_cell B3.out 0).trans rfl; have bf0 := blk_frozen B3.out 0; have bz1 := (blk_cell B3.out 1).trans rfl; have bf1 := blk_frozen B3.out 1; have bz2 := (blk_cell B3.out 2).trans rfl; have bf2 := blk_frozen B3.out 2; have bz3 := (blk_cell B3.out 3).trans rfl; have bf3 := blk_frozen B3.out 3; clear hb hd))
    go_ret
    exact ⟨rfl, HB.out⟩
  · skip
    go_enter Try.func73, Try.ntmps73
    go_wp2_with (first | ((with_reducible refine gate_dst (N := 2) rfl ?_); (try (refine gate_guard (by rfl) ?_; dsimp only)); refine box_event ?hg (N := 2) ?hd (cs := #[.bool true, .slice A1 l1.length c1, .slice A2 l2.length c2, .slice A3 l3.length c3]) (t := 79) ?hr ?_; (case hd => rfl); (case hg => rfl); (case hr => first | (go_simp; done) | (go_simp; rfl)); intro g2 hg w2 hbox hb; have B2 := Aside0.mk hbox; have G2 := Aside0.mk (show w.heap.size ≤ g2 by rw [hg]; exact HB.out.size); have nb_ := Aside0.mk (below_step HB.out hb); clear HB ; have HB := nb_; clear nb_ ; clear hg hbox hb; have az0 := (blk_cell B2.out 0).trans rfl; have af0 := blk_frozen B2.out 0; have az1 := (blk_cell B2.out 1).trans rfl; have af1 := blk_frozen B2.out 1; have az2 := (blk_cell B2.out 2).trans rfl; have af2 := blk_frozen B2.out 2; have az3 := (blk_cell B2.out 3).trans rfl; have af3 := blk_frozen B2.out 3) | ((with_reducible refine gate_dst (N := 3) rfl ?_); (try (refine gate_guard (by rfl) ?_; dsimp only)); refine box_event ?hg (N := 3) ?hd (cs := #[.bool true, .slice D1 l1.length d1, .slice D2 l2.length d2, .slice D3 l3.length d3]) (t := 79) ?hr ?_; (case hd => rfl); (case hg => rfl); (case hr => first | (go_simp; done) | (go_simp; rfl)); intro g3 hg w3 hbox hb; have B3 := Aside0.mk hbox; have G3 := Aside0.mk (show w.heap.size ≤ g3 by rw [hg]; exact HB.out.size); have nb_ := Aside0.mk (below_step HB.out hb); have n0_ := Aside0.mk (blk_below B2.out hb); clear HB B2; have HB := nb_; have B2 := n0_; clear nb_ n0_; clear hg hbox hb; clear az0 af0 az1 af1 az2 af2 az3 af3; have az0 := (blk_cell B2.out 0).trans rfl; have af0 := blk_frozen B2.out 0; have az1 := (blk_cell B2.out 1).trans rfl; have af1 := blk_frozen B2.out 1; have az2 := (blk_cell B2.out 2).trans rfl; have af2 := blk_frozen B2.out 2; have az3 := (blk_cell B2.out 3).trans rfl; have af3 := blk_frozen B2.out 3; have bz0 := (blk_cell B3.out 0).trans rfl; have bf0 := blk_frozen B3.out 0; have bz1 := (blk_cell B3.out 1).trans rfl; have bf1 := blk_frozen B3.out 1; have bz2 := (blk_cell B3.out 2).trans rfl; have bf2 := blk_frozen B3.out 2; have bz3 := (blk_cell B3.out 3).trans rfl; have bf3 := blk_frozen B3.out 3) | (go_at_call 109; (with_reducible refine (eqf_109 A1 c1 D1 d1 l1 _ ?s1 ?s2).mono ?_); (case s1 => exact Kd.C_below P1.out HB.out); (case s2 => exact Kd.C_below Q1.out HB.out); rintro e w5 ⟨rfl, hb⟩; have nb_ := Aside0.mk (below_step HB.out hb); have n0_ := Aside0.mk (blk_below B2.out hb); have n1_ := Aside0.mk (blk_below B3.out hb); clear HB B2 B3; have HB := nb_; have B2 := n0_; have B3 := n1_; clear nb_ n0_ n1_; clear az0 af0 az1 af1 az2 af2 az3 af3; have az0 := (blk_cell B2.out 0).trans rfl; have af0 := blk_frozen B2.out 0; have az1 := (blk_cell B2.out 1).trans rfl; have af1 := blk_frozen B2.out 1; have az2 := (blk_cell B2.out 2).trans rfl; have af2 := blk_frozen B2.out 2; have az3 := (blk_cell B2.out 3).trans rfl; have af3 := blk_frozen B2.out 3; clear bz0 bf0 bz1 bf1 bz2 bf2 bz3 bf3; have bz0 := (blk_cell B3.out 0).trans rfl; have bf0 := blk_frozen B3.out 0; have bz1 := (blk_cell B3.out 1).trans rfl; have bf1 := blk_frozen B3.out 1; have bz2 := (blk_cell B3.out 2).trans rfl; have bf2 := blk_frozen B3.out 2; have bz3 := (blk_cell B3.out 3).trans rfl; have bf3 := blk_frozen B3.out 3; clear hb) | (go_at_call 110; (with_reducible refine (eqf_110 A2 c2 D2 d2 l2 _ ?s1 ?s2).mono ?_); (case s1 => exact Kd.C_below P2.out HB.out); (case s2 => exact Kd.C_below Q2.out HB.out); rintro e w6 ⟨rfl, hb⟩; have nb_ := Aside0.mk (below_step HB.out hb); have n0_ := Aside0.mk (blk_below B2.out hb); have n1_ := Aside0.mk (blk_below B3.out hb); clear HB B2 B3; have HB := nb_; have B2 := n0_; have B3 := n1_; clear nb_ n0_ n1_; clear az0 af0 az1 af1 az2 af2 az3 af3; have az0 := (blk_cell B2.out 0).trans rfl; have af0 := blk_frozen B2.out 0; have az1 := (blk_cell B2.out 1).trans rfl; have af1 := blk_frozen B2.out 1; have az2 := (blk_cell B2.out 2).trans rfl; have af2 := blk_frozen B2.out 2; have az3 := (blk_cell B2.out 3).trans rfl; have af3 := blk_frozen B2.out 3; clear bz0 bf0 bz1 bf1 bz2 bf2 bz3 bf3; have bz0 := (blk_cell B3.out 0).trans rfl; have bf0 := blk_frozen B3.out 0; have bz1 := (blk_cell B3.out 1).trans rfl; have bf1 := blk_frozen B3.out 1; have bz2 := (blk_cell B3.out 2).trans rfl; have bf2 := blk_frozen B3.out 2; have bz3 := (blk_cell B3.out 3).trans rfl; have bf3 := blk_frozen B3.out 3; clear hb) | (go_at_call 111; (with_reducible refine (api_Ref_111.calls k A3 c3 l3 D3 d3 l3 true _ ?s1 ?s2 ?s3 ?s4 HRF.out).mono ?_); (case s1 => exact Kd.C_below P3.out HB.out); (case s2 => exact L3.out); (case s3 => exact Kd.C_below Q3.out HB.out); (case s4 => exact M3.out); rintro e w7 ⟨rfl, hd⟩; have hb := hd.below; have nb_ := Aside0.mk (below_step HB.out hb); have n0_ := Aside0.mk (blk_below B2.out hb); have n1_ := Aside0.mk (blk_below B3.out hb); clear HB B2 B3; have HB := nb_; have B2 := n0_; have B3 := n1_; clear nb_ n0_ n1_; clear az0 af0 az1 af1 az2 af2 az3 af3; have az0 := (blk_cell B2.out 0).trans rfl; have af0 := blk_frozen B2.out 0; have az1 := (blk_cell B2.out 1).trans rfl; have af1 := blk_frozen B2.out 1; have az2 := (blk_cell B2.out 2).trans rfl; have af2 := blk_frozen B2.out 2; have az3 := (blk_cell B2.out 3).trans rfl; have af3 := blk_frozen B2.out 3; clear bz0 bf0 bz1 bf1 bz2 bf2 bz3 bf3; have bz0 := (blk_cell B3.out 0).trans rfl; have bf0 := blk_frozen B3.out 0; have bz1 := (blk_cell B3.out 1).trans rfl; have bf1 := blk_frozen B3.out 1; have bz2 := (blk_cell B3.out 2).trans rfl; have bf2 := blk_frozen B3.out 2; have bz3 := (blk_cell B3.out 3).trans rfl; have bf3 := blk_frozen B3.out 3; clear hb hd))
    go_ret
    exact ⟨rfl, HB.out⟩
end Go.Proofs.Ytfgeffmlfbeodaa.PNodeBack
