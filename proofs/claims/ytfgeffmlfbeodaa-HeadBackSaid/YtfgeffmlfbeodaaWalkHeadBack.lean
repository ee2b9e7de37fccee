/- HeadBack's walk: where the callees answer as is told, the law returns true. Conditions: those of each theorem. -/
import Derived.Test.YtfgeffmlfbeodaaPHeadBackx0
import Derived.Test.YtfgeffmlfbeodaaPHeadBackx1
import Derived.Test.YtfgeffmlfbeodaaPHeadBackx2
import Derived.Test.YtfgeffmlfbeodaaPHeadBackx3
import Derived.Test.YtfgeffmlfbeodaaPHeadBackx4
import Derived.Test.YtfgeffmlfbeodaaPHeadBackx5
import Derived.Test.YtfgeffmlfbeodaaPHeadBackx6
import Derived.Test.YtfgeffmlfbeodaaPHeadBackx7
import Derived.Test.YtfgeffmlfbeodaaRGK
import Derived.Test.YtfgeffmlfbeodaaWEqStruct
import Derived.WalkLawsBesides
import Derived.Deep.DeepCutAuto
import Derived.Deep.CutRange
namespace Go.Proofs.Ytfgeffmlfbeodaa.PHeadBack
open Go.RowKit Go.Proofs.YtfgeffmlfbeodaaW.PrintWords Go.Proofs.YtfgeffmlfbeodaaW.PrintLast Go.Proofs.YtfgeffmlfbeodaaW.PrintMore
open Go.Proofs.Ytfgeffmlfbeodaa.RG
set_option linter.unusedVariables false
set_option linter.unusedSimpArgs false
set_option maxHeartbeats 8000000 in
set_option maxRecDepth 100000 in
theorem way_m (k : Nat) (h0 h1 : Int) (h2 : Bool) (d0 d1 : Int) (d2 : Bool) (m0 : Int) (Am : Option Addr) (cm : Nat) (lm : List Int) (off : Int) (w : World) (h0_ : pandectlaw8_begun.f k = some true) (hm : 120 < lm.length) :
    Calls Try.prog 7 #[.agg #[.int .i64 h0, .int .i64 h1, .bool h2], .agg #[.int .i64 d0, .int .i64 d1, .bool d2], .agg #[.int .i64 m0, .slice Am lm.length cm], .int .i64 off] w fun e w' => e = .returned (.bool true) ∧ Below w.heap.size w w' := by
  have H0 := Aside0.mk h0_
  have bm : decide (120 < (lm.length : Int)) = true := decide_eq_true (by omega)
  have Bm : decide (120 < lm.length) = true := decide_eq_true (by omega)
  clear hm
  have HB := Aside0.mk (Below.refl w.heap.size w)
  clear h0_
  go_enter Try.func7, Try.ntmps7
  go_wp2_with (first | ((with_reducible refine gate_dst (N := 4) rfl ?_); refine box_event ?hg (N := 4) ?hd (cs := #[.int .i64 h0, .int .i64 h1, .bool h2]) (t := 39) ?hr ?_; (case hd => rfl); (case hg => rfl); (case hr => first | (go_simp; done) | (go_simp; rfl)); intro g4 hg w_1 hbox hb_; have Gw_g4 := Aside0.mk (show w.heap.size ≤ g4 by rw [hg]; exact HB.out.size); clear hg; have nHB_ := Aside0.mk (below_step HB.out hb_); clear HB; have HB := nHB_; clear nHB_; have Bg4 := Aside0.mk hbox; clear hbox hb_; have zg4_0 := (blk_cell Bg4.out 0).trans rfl; have fg4_0 := blk_frozen Bg4.out 0; have zg4_1 := (blk_cell Bg4.out 1).trans rfl; have fg4_1 := blk_frozen Bg4.out 1; have zg4_2 := (blk_cell Bg4.out 2).trans rfl; have fg4_2 := blk_frozen Bg4.out 2) | ((with_reducible refine gate_dst (N := 5) rfl ?_); refine box_event ?hg (N := 5) ?hd (cs := #[.int .i64 d0, .int .i64 d1, .bool d2]) (t := 41) ?hr ?_; (case hd => rfl); (case hg => rfl); (case hr => first | (go_simp; done) | (go_simp; rfl)); intro g5 hg w_2 hbox hb_; have Gw_g5 := Aside0.mk (show w.heap.size ≤ g5 by rw [hg]; exact HB.out.size); have Ng4_g5 := Aside0.mk (show g4 ≠ g5 by rw [hg]; exact Nat.ne_of_lt (blk_lt Bg4.out)); clear hg; have nHB_ := Aside0.mk (below_step HB.out hb_); have ng4_ := Aside0.mk (blk_below Bg4.out hb_); clear HB Bg4 zg4_0 fg4_0 zg4_1 fg4_1 zg4_2 fg4_2; have HB := nHB_; clear nHB_; have Bg4 := ng4_; clear ng4_; have Bg5 := Aside0.mk hbox; clear hbox hb_; have zg5_0 := (blk_cell Bg5.out 0).trans rfl; have fg5_0 := blk_frozen Bg5.out 0; have zg5_1 := (blk_cell Bg5.out 1).trans rfl; have fg5_1 := blk_frozen Bg5.out 1; have zg5_2 := (blk_cell Bg5.out 2).trans rfl; have fg5_2 := blk_frozen Bg5.out 2) | ((with_reducible refine gate_dst (N := 6) rfl ?_); refine box_event ?hg (N := 6) ?hd (cs := #[.int .i64 m0, .slice Am lm.length cm]) (t := 43) ?hr ?_; (case hd => rfl); (case hg => rfl); (case hr => first | (go_simp; done) | (go_simp; rfl)); intro g6 hg w_3 hbox hb_; have Gw_g6 := Aside0.mk (show w.heap.size ≤ g6 by rw [hg]; exact HB.out.size); have Ng4_g6 := Aside0.mk (show g4 ≠ g6 by rw [hg]; exact Nat.ne_of_lt (blk_lt Bg4.out)); have Ng5_g6 := Aside0.mk (show g5 ≠ g6 by rw [hg]; exact Nat.ne_of_lt (blk_lt Bg5.out)); clear hg; have nHB_ := Aside0.mk (below_step HB.out hb_); have ng4_ := Aside0.mk (blk_below Bg4.out hb_); have ng5_ := Aside0.mk (blk_below Bg5.out hb_); clear HB Bg4 Bg5 zg5_0 fg5_0 zg5_1 fg5_1 zg5_2 fg5_2; have HB := nHB_; clear nHB_; have Bg4 := ng4_; clear ng4_; have Bg5 := ng5_; clear ng5_; have Bg6 := Aside0.mk hbox; clear hbox hb_; have zg6_0 := (blk_cell Bg6.out 0).trans rfl; have fg6_0 := blk_frozen Bg6.out 0; have zg6_1 := (blk_cell Bg6.out 1).trans rfl; have fg6_1 := blk_frozen Bg6.out 1) | (go_at_call 29; (with_reducible refine (pandectlaw8_begun.calls k true _ H0.out).mono ?_); rintro e w_4 ⟨rfl, hb_⟩; have nHB_ := Aside0.mk (below_step HB.out hb_); have ng4_ := Aside0.mk (blk_below Bg4.out hb_); have ng5_ := Aside0.mk (blk_below Bg5.out hb_); have ng6_ := Aside0.mk (blk_below Bg6.out hb_); clear HB Bg4 Bg5 Bg6 zg6_0 fg6_0 zg6_1 fg6_1; have HB := nHB_; clear nHB_; have Bg4 := ng4_; clear ng4_; have Bg5 := ng5_; clear ng5_; have Bg6 := ng6_; clear ng6_; have zg6_0 := (blk_cell Bg6.out 0).trans rfl; have fg6_0 := blk_frozen Bg6.out 0; have zg6_1 := (blk_cell Bg6.out 1).trans rfl; have fg6_1 := blk_frozen Bg6.out 1; clear hb_))
  go_ret
  exact ⟨rfl, HB.out⟩
set_option maxHeartbeats 40000000 in
set_option maxRecDepth 100000 in
theorem main_ (k : Nat) (h0 h1 : Int) (h2 : Bool) (d0 d1 : Int) (d2 : Bool) (m0 : Int) (Am : Option Addr) (cm : Nat) (lm : List Int) (off : Int) (p0 p1 : Int) (p2 : Bool) (pe : Int) (q0 q1 : Int) (q2 : Bool) (qe : Int) (t0 : Int) (lt : List Int) (te : Int) (v0 ve : Int) (X1 X2 X3 X4 : List Int) (a b c d : Bool) (w : World) (h0_ : pandectlaw8_begun.f k = some true) (hrm : Kd.C (Kd.int .u8) w Am lm.length lm) (hcm : lm.length ≤ cm)
    (hm : lm.length ≤ 120) (HPH_ : head_PutHead.f k h0 h1 h2 = some X1) (HTH_ : head_TakeHead.f k X1 = some (p0, p1, p2, pe)) (HPD_ : head_PutDone.f k d0 d1 d2 = some X2) (HTD_ : head_TakeDone.f k X2 = some (q0, q1, q2, qe)) (HPM_ : head_PutMark.f k m0 lm = some X3) (HTM_ : head_TakeMark.f k X3 = some (t0, lt, te)) (HPO_ : head_PutOff.f k off = some X4) (HTO_ : head_TakeOff.f k X4 = some (v0, ve))
    (ha : a = (decide (0 ≤ h1) && decide (h1 ≤ h0))) (hb : b = (decide (0 ≤ d0) && decide (1 ≤ d1) && decide (d1 ≤ 65535) && !d2)) (hc : c = (decide (0 ≤ m0) && decide (lm.length ≤ 100))) (hd : d = decide (0 ≤ off))
    (pa : if a = true then p0 = h0 ∧ p1 = h1 ∧ p2 = h2 ∧ pe = 0 else pe = 2) (pb : if b = true then q0 = d0 ∧ q1 = d1 ∧ q2 = d2 ∧ qe = 0 else qe = 2) (pc : if c = true then t0 = m0 ∧ lt = lm ∧ te = 0 else te = 2) (pd : if d = true then v0 = off ∧ ve = 0 else ve = 2) :
    Calls Try.prog 7 #[.agg #[.int .i64 h0, .int .i64 h1, .bool h2], .agg #[.int .i64 d0, .int .i64 d1, .bool d2], .agg #[.int .i64 m0, .slice Am lm.length cm], .int .i64 off] w fun e w' => e = .returned (.bool true) ∧ Below w.heap.size w w' := by
  have H0 := Aside0.mk h0_
  have HRm := Aside0.mk hrm
  have HCm := Aside0.mk hcm
  have HPH := Aside0.mk HPH_
  have HTH := Aside0.mk HTH_
  have HPD := Aside0.mk HPD_
  have HTD := Aside0.mk HTD_
  have HPM := Aside0.mk HPM_
  have HTM := Aside0.mk HTM_
  have HPO := Aside0.mk HPO_
  have HTO := Aside0.mk HTO_
  have bm : decide (120 < (lm.length : Int)) = false := decide_eq_false (by omega)
  have Bm : decide (120 < lm.length) = false := decide_eq_false (by omega)
  have Qha := Aside0.mk ha
  have Qhb := Aside0.mk hb
  have Qhc := Aside0.mk hc
  have Qhd := Aside0.mk hd
  have Qpa := Aside0.mk pa
  have Qpb := Aside0.mk pb
  have Qpc := Aside0.mk pc
  have Qpd := Aside0.mk pd
  have HB := Aside0.mk (Below.refl w.heap.size w)
  clear h0_ hrm hcm hm HPH_ HTH_ HPD_ HTD_ HPM_ HTM_ HPO_ HTO_ ha hb hc hd pa pb pc pd
  go_enter Try.func7, Try.ntmps7
  go_upto_region 9 with (first | ((with_reducible refine gate_dst (N := 4) rfl ?_); refine box_event ?hg (N := 4) ?hd (cs := #[.int .i64 h0, .int .i64 h1, .bool h2]) (t := 39) ?hr ?_; (case hd => rfl); (case hg => rfl); (case hr => first | (go_simp; done) | (go_simp; rfl)); intro g4 hg w_1 hbox hb_; have Gw_g4 := Aside0.mk (show w.heap.size ≤ g4 by rw [hg]; exact HB.out.size); clear hg; have nHB_ := Aside0.mk (below_step HB.out hb_); clear HB; have HB := nHB_; clear nHB_; have Bg4 := Aside0.mk hbox; clear hbox hb_; have zg4_0 := (blk_cell Bg4.out 0).trans rfl; have fg4_0 := blk_frozen Bg4.out 0; have zg4_1 := (blk_cell Bg4.out 1).trans rfl; have fg4_1 := blk_frozen Bg4.out 1; have zg4_2 := (blk_cell Bg4.out 2).trans rfl; have fg4_2 := blk_frozen Bg4.out 2) | ((with_reducible refine gate_dst (N := 5) rfl ?_); refine box_event ?hg (N := 5) ?hd (cs := #[.int .i64 d0, .int .i64 d1, .bool d2]) (t := 41) ?hr ?_; (case hd => rfl); (case hg => rfl); (case hr => first | (go_simp; done) | (go_simp; rfl)); intro g5 hg w_2 hbox hb_; have Gw_g5 := Aside0.mk (show w.heap.size ≤ g5 by rw [hg]; exact HB.out.size); have Ng4_g5 := Aside0.mk (show g4 ≠ g5 by rw [hg]; exact Nat.ne_of_lt (blk_lt Bg4.out)); clear hg; have nHB_ := Aside0.mk (below_step HB.out hb_); have ng4_ := Aside0.mk (blk_below Bg4.out hb_); clear HB Bg4 zg4_0 fg4_0 zg4_1 fg4_1 zg4_2 fg4_2; have HB := nHB_; clear nHB_; have Bg4 := ng4_; clear ng4_; have Bg5 := Aside0.mk hbox; clear hbox hb_; have zg5_0 := (blk_cell Bg5.out 0).trans rfl; have fg5_0 := blk_frozen Bg5.out 0; have zg5_1 := (blk_cell Bg5.out 1).trans rfl; have fg5_1 := blk_frozen Bg5.out 1; have zg5_2 := (blk_cell Bg5.out 2).trans rfl; have fg5_2 := blk_frozen Bg5.out 2) | ((with_reducible refine gate_dst (N := 6) rfl ?_); refine box_event ?hg (N := 6) ?hd (cs := #[.int .i64 m0, .slice Am lm.length cm]) (t := 43) ?hr ?_; (case hd => rfl); (case hg => rfl); (case hr => first | (go_simp; done) | (go_simp; rfl)); intro g6 hg w_3 hbox hb_; have Gw_g6 := Aside0.mk (show w.heap.size ≤ g6 by rw [hg]; exact HB.out.size); have Ng4_g6 := Aside0.mk (show g4 ≠ g6 by rw [hg]; exact Nat.ne_of_lt (blk_lt Bg4.out)); have Ng5_g6 := Aside0.mk (show g5 ≠ g6 by rw [hg]; exact Nat.ne_of_lt (blk_lt Bg5.out)); clear hg; have nHB_ := Aside0.mk (below_step HB.out hb_); have ng4_ := Aside0.mk (blk_below Bg4.out hb_); have ng5_ := Aside0.mk (blk_below Bg5.out hb_); clear HB Bg4 Bg5 zg5_0 fg5_0 zg5_1 fg5_1 zg5_2 fg5_2; have HB := nHB_; clear nHB_; have Bg4 := ng4_; clear ng4_; have Bg5 := ng5_; clear ng5_; have Bg6 := Aside0.mk hbox; clear hbox hb_; have zg6_0 := (blk_cell Bg6.out 0).trans rfl; have fg6_0 := blk_frozen Bg6.out 0; have zg6_1 := (blk_cell Bg6.out 1).trans rfl; have fg6_1 := blk_frozen Bg6.out 1) | (go_at_call 29; (with_reducible refine (pandectlaw8_begun.calls k true _ H0.out).mono ?_); rintro e w_4 ⟨rfl, hb_⟩; have nHB_ := Aside0.mk (below_step HB.out hb_); have ng4_ := Aside0.mk (blk_below Bg4.out hb_); have ng5_ := Aside0.mk (blk_below Bg5.out hb_); have ng6_ := Aside0.mk (blk_below Bg6.out hb_); clear HB Bg4 Bg5 Bg6 zg6_0 fg6_0 zg6_1 fg6_1; have HB := nHB_; clear nHB_; have Bg4 := ng4_; clear ng4_; have zg4_0 := (blk_cell Bg4.out 0).trans rfl; have fg4_0 := blk_frozen Bg4.out 0; have zg4_1 := (blk_cell Bg4.out 1).trans rfl; have fg4_1 := blk_frozen Bg4.out 1; have zg4_2 := (blk_cell Bg4.out 2).trans rfl; have fg4_2 := blk_frozen Bg4.out 2; have Bg5 := ng5_; clear ng5_; have Bg6 := ng6_; clear ng6_; have zg6_0 := (blk_cell Bg6.out 0).trans rfl; have fg6_0 := blk_frozen Bg6.out 0; have zg6_1 := (blk_cell Bg6.out 1).trans rfl; have fg6_1 := blk_frozen Bg6.out 1; clear hb_) | (go_at_call 38; (with_reducible refine (head_PutHead.calls k h0 h1 h2 X1 _ HPH.out).mono ?_); rintro e w_5 ⟨v_, rfl, ho_, hb_⟩; have nHB_ := Aside0.mk (below_step HB.out hb_); have ng4_ := Aside0.mk (blk_below Bg4.out hb_); have ng5_ := Aside0.mk (blk_below Bg5.out hb_); have ng6_ := Aside0.mk (blk_below Bg6.out hb_); clear HB Bg4 Bg5 Bg6 zg4_0 fg4_0 zg4_1 fg4_1 zg4_2 fg4_2 zg6_0 fg6_0 zg6_1 fg6_1; have HB := nHB_; clear nHB_; have Bg4 := ng4_; clear ng4_; have Bg5 := ng5_; clear ng5_; have Bg6 := ng6_; clear ng6_; clear hb_; obtain ⟨A1, c1, e1_, hc_, hC_⟩ := Kd.R_reads ho_; subst e1_; have HC1 := Aside0.mk hC_; have HD1 := Aside0.mk hc_; clear hc_ hC_ ho_; have Hb1 := Aside0.mk (Below.refl w_5.heap.size w_5)) | (go_at_call 30; (with_reducible refine (head_TakeHead.calls k A1 c1 X1 p0 p1 p2 pe _ (Kd.C_below HC1.out Hb1.out) HD1.out HTH.out).mono ?_); rintro e w_6 ⟨rfl, hb_⟩; have nHB_ := Aside0.mk (below_step HB.out hb_); have nHb1_ := Aside0.mk (below_step Hb1.out hb_); have ng4_ := Aside0.mk (blk_below Bg4.out hb_); have ng5_ := Aside0.mk (blk_below Bg5.out hb_); have ng6_ := Aside0.mk (blk_below Bg6.out hb_); clear HB Hb1 Bg4 Bg5 Bg6; have HB := nHB_; clear nHB_; have Hb1 := nHb1_; clear nHb1_; have Bg4 := ng4_; clear ng4_; have Bg5 := ng5_; clear ng5_; have Bg6 := ng6_; clear ng6_; clear hb_) | ((with_reducible refine gate_dst (N := 9) rfl ?_); refine box_event ?hg (N := 9) ?hd (cs := #[.int .i64 0, .int .i64 0, .bool false]) (t := 39) ?hr ?_; (case hd => rfl); (case hg => rfl); (case hr => first | (go_simp; done) | (go_simp; rfl)); intro g9 hg w_7 hbox hb_; have Gw_g9 := Aside0.mk (show w.heap.size ≤ g9 by rw [hg]; exact HB.out.size); have Ng4_g9 := Aside0.mk (show g4 ≠ g9 by rw [hg]; exact Nat.ne_of_lt (blk_lt Bg4.out)); have Ng5_g9 := Aside0.mk (show g5 ≠ g9 by rw [hg]; exact Nat.ne_of_lt (blk_lt Bg5.out)); have Ng6_g9 := Aside0.mk (show g6 ≠ g9 by rw [hg]; exact Nat.ne_of_lt (blk_lt Bg6.out)); clear hg; have nHB_ := Aside0.mk (below_step HB.out hb_); have ng4_ := Aside0.mk (blk_below Bg4.out hb_); have ng5_ := Aside0.mk (blk_below Bg5.out hb_); have ng6_ := Aside0.mk (blk_below Bg6.out hb_); clear HB Bg4 Bg5 Bg6; have HB := nHB_; clear nHB_; have Bg4 := ng4_; clear ng4_; have Bg5 := ng5_; clear ng5_; have Bg6 := ng6_; clear ng6_; have Bg9 := Aside0.mk hbox; clear hbox hb_; have zg9_0 := (blk_cell Bg9.out 0).trans rfl; have fg9_0 := blk_frozen Bg9.out 0; have zg9_1 := (blk_cell Bg9.out 1).trans rfl; have fg9_1 := blk_frozen Bg9.out 1; have zg9_2 := (blk_cell Bg9.out 2).trans rfl; have fg9_2 := blk_frozen Bg9.out 2) | ((with_reducible refine gate_store (t := 39) (p := 9) rfl ?_); refine store_event (t := 39) (p := 9) (v := ?vo_w_8) (w1 := (World.setCell (World.setCell (World.setCell w_7 ⟨g9, 0, none⟩ (.int .i64 p0)) ⟨g9, 1, none⟩ (.int .i64 p1)) ⟨g9, 2, none⟩ (.bool p2))) ?hg ?ho ?hn ?hr ?_; (case ho => rfl); (case hg => rfl); (case hn => rfl); (case hr => first | (go_simp; done) | (go_simp; rfl)); intro w_8 hw_; have nHB_ := Aside0.mk (show Below w.heap.size w w_8 by rw [hw_]; refine below_set ?_ Gw_g9.out; refine below_set ?_ Gw_g9.out; refine below_set ?_ Gw_g9.out; exact HB.out); have ng4_ := Aside0.mk (show w_8.heap[g4]? = some (.cells #[.int .i64 h0, .int .i64 h1, .bool h2] 39 (0, 0)) by rw [hw_]; refine blk_far ?_ Ng4_g9.out _; refine blk_far ?_ Ng4_g9.out _; refine blk_far ?_ Ng4_g9.out _; exact Bg4.out); have ng5_ := Aside0.mk (show w_8.heap[g5]? = some (.cells #[.int .i64 d0, .int .i64 d1, .bool d2] 41 (0, 0)) by rw [hw_]; refine blk_far ?_ Ng5_g9.out _; refine blk_far ?_ Ng5_g9.out _; refine blk_far ?_ Ng5_g9.out _; exact Bg5.out); have ng6_ := Aside0.mk (show w_8.heap[g6]? = some (.cells #[.int .i64 m0, .slice Am lm.length cm] 43 (0, 0)) by rw [hw_]; refine blk_far ?_ Ng6_g9.out _; refine blk_far ?_ Ng6_g9.out _; refine blk_far ?_ Ng6_g9.out _; exact Bg6.out); have ng9_ := Aside0.mk (show w_8.heap[g9]? = some (.cells #[.int .i64 p0, .int .i64 p1, .bool p2] 39 (0, 0)) by rw [hw_]; refine blk_put (cs := #[.int .i64 p0, .int .i64 p1, .bool false]) ?_ 2 _ rfl; refine blk_put (cs := #[.int .i64 p0, .int .i64 0, .bool false]) ?_ 1 _ rfl; refine blk_put (cs := #[.int .i64 0, .int .i64 0, .bool false]) ?_ 0 _ rfl; exact Bg9.out); clear hw_ HB Bg4 Bg5 Bg6 Bg9 zg9_0 fg9_0 zg9_1 fg9_1 zg9_2 fg9_2; have HB := nHB_; clear nHB_; have Bg4 := ng4_; clear ng4_; have Bg5 := ng5_; clear ng5_; have zg5_0 := (blk_cell Bg5.out 0).trans rfl; have fg5_0 := blk_frozen Bg5.out 0; have zg5_1 := (blk_cell Bg5.out 1).trans rfl; have fg5_1 := blk_frozen Bg5.out 1; have zg5_2 := (blk_cell Bg5.out 2).trans rfl; have fg5_2 := blk_frozen Bg5.out 2; have Bg6 := ng6_; clear ng6_; have Bg9 := ng9_; clear ng9_) | (go_at_call 40; (with_reducible refine (head_PutDone.calls k d0 d1 d2 X2 _ HPD.out).mono ?_); rintro e w_9 ⟨v_, rfl, ho_, hb_⟩; have nHB_ := Aside0.mk (below_step HB.out hb_); have ng4_ := Aside0.mk (blk_below Bg4.out hb_); have ng5_ := Aside0.mk (blk_below Bg5.out hb_); have ng6_ := Aside0.mk (blk_below Bg6.out hb_); have ng9_ := Aside0.mk (blk_below Bg9.out hb_); clear HB Bg4 Bg5 Bg6 Bg9 zg5_0 fg5_0 zg5_1 fg5_1 zg5_2 fg5_2; have HB := nHB_; clear nHB_; have Bg4 := ng4_; clear ng4_; have Bg5 := ng5_; clear ng5_; have Bg6 := ng6_; clear ng6_; have Bg9 := ng9_; clear ng9_; clear hb_; obtain ⟨A2, c2, e2_, hc_, hC_⟩ := Kd.R_reads ho_; subst e2_; have HC2 := Aside0.mk hC_; have HD2 := Aside0.mk hc_; clear hc_ hC_ ho_; have Hb2 := Aside0.mk (Below.refl w_9.heap.size w_9)) | (go_at_call 32; (with_reducible refine (head_TakeDone.calls k A2 c2 X2 q0 q1 q2 qe _ (Kd.C_below HC2.out Hb2.out) HD2.out HTD.out).mono ?_); rintro e w_10 ⟨rfl, hb_⟩; have nHB_ := Aside0.mk (below_step HB.out hb_); have nHb2_ := Aside0.mk (below_step Hb2.out hb_); have ng4_ := Aside0.mk (blk_below Bg4.out hb_); have ng5_ := Aside0.mk (blk_below Bg5.out hb_); have ng6_ := Aside0.mk (blk_below Bg6.out hb_); have ng9_ := Aside0.mk (blk_below Bg9.out hb_); clear HB Hb2 Bg4 Bg5 Bg6 Bg9; have HB := nHB_; clear nHB_; have Hb2 := nHb2_; clear nHb2_; have Bg4 := ng4_; clear ng4_; have Bg5 := ng5_; clear ng5_; have Bg6 := ng6_; clear ng6_; have Bg9 := ng9_; clear ng9_; clear hb_) | ((with_reducible refine gate_dst (N := 11) rfl ?_); refine box_event ?hg (N := 11) ?hd (cs := #[.int .i64 0, .int .i64 0, .bool false]) (t := 41) ?hr ?_; (case hd => rfl); (case hg => rfl); (case hr => first | (go_simp; done) | (go_simp; rfl)); intro g11 hg w_11 hbox hb_; have Gw_g11 := Aside0.mk (show w.heap.size ≤ g11 by rw [hg]; exact HB.out.size); have Ng4_g11 := Aside0.mk (show g4 ≠ g11 by rw [hg]; exact Nat.ne_of_lt (blk_lt Bg4.out)); have Ng5_g11 := Aside0.mk (show g5 ≠ g11 by rw [hg]; exact Nat.ne_of_lt (blk_lt Bg5.out)); have Ng6_g11 := Aside0.mk (show g6 ≠ g11 by rw [hg]; exact Nat.ne_of_lt (blk_lt Bg6.out)); have Ng9_g11 := Aside0.mk (show g9 ≠ g11 by rw [hg]; exact Nat.ne_of_lt (blk_lt Bg9.out)); clear hg; have nHB_ := Aside0.mk (below_step HB.out hb_); have ng4_ := Aside0.mk (blk_below Bg4.out hb_); have ng5_ := Aside0.mk (blk_below Bg5.out hb_); have ng6_ := Aside0.mk (blk_below Bg6.out hb_); have ng9_ := Aside0.mk (blk_below Bg9.out hb_); clear HB Bg4 Bg5 Bg6 Bg9; have HB := nHB_; clear nHB_; have Bg4 := ng4_; clear ng4_; have Bg5 := ng5_; clear ng5_; have Bg6 := ng6_; clear ng6_; have Bg9 := ng9_; clear ng9_; have Bg11 := Aside0.mk hbox; clear hbox hb_; have zg11_0 := (blk_cell Bg11.out 0).trans rfl; have fg11_0 := blk_frozen Bg11.out 0; have zg11_1 := (blk_cell Bg11.out 1).trans rfl; have fg11_1 := blk_frozen Bg11.out 1; have zg11_2 := (blk_cell Bg11.out 2).trans rfl; have fg11_2 := blk_frozen Bg11.out 2) | ((with_reducible refine gate_store (t := 41) (p := 11) rfl ?_); refine store_event (t := 41) (p := 11) (v := ?vo_w_12) (w1 := (World.setCell (World.setCell (World.setCell w_11 ⟨g11, 0, none⟩ (.int .i64 q0)) ⟨g11, 1, none⟩ (.int .i64 q1)) ⟨g11, 2, none⟩ (.bool q2))) ?hg ?ho ?hn ?hr ?_; (case ho => rfl); (case hg => rfl); (case hn => rfl); (case hr => first | (go_simp; done) | (go_simp; rfl)); intro w_12 hw_; have nHB_ := Aside0.mk (show Below w.heap.size w w_12 by rw [hw_]; refine below_set ?_ Gw_g11.out; refine below_set ?_ Gw_g11.out; refine below_set ?_ Gw_g11.out; exact HB.out); have ng4_ := Aside0.mk (show w_12.heap[g4]? = some (.cells #[.int .i64 h0, .int .i64 h1, .bool h2] 39 (0, 0)) by rw [hw_]; refine blk_far ?_ Ng4_g11.out _; refine blk_far ?_ Ng4_g11.out _; refine blk_far ?_ Ng4_g11.out _; exact Bg4.out); have ng5_ := Aside0.mk (show w_12.heap[g5]? = some (.cells #[.int .i64 d0, .int .i64 d1, .bool d2] 41 (0, 0)) by rw [hw_]; refine blk_far ?_ Ng5_g11.out _; refine blk_far ?_ Ng5_g11.out _; refine blk_far ?_ Ng5_g11.out _; exact Bg5.out); have ng6_ := Aside0.mk (show w_12.heap[g6]? = some (.cells #[.int .i64 m0, .slice Am lm.length cm] 43 (0, 0)) by rw [hw_]; refine blk_far ?_ Ng6_g11.out _; refine blk_far ?_ Ng6_g11.out _; refine blk_far ?_ Ng6_g11.out _; exact Bg6.out); have ng9_ := Aside0.mk (show w_12.heap[g9]? = some (.cells #[.int .i64 p0, .int .i64 p1, .bool p2] 39 (0, 0)) by rw [hw_]; refine blk_far ?_ Ng9_g11.out _; refine blk_far ?_ Ng9_g11.out _; refine blk_far ?_ Ng9_g11.out _; exact Bg9.out); have ng11_ := Aside0.mk (show w_12.heap[g11]? = some (.cells #[.int .i64 q0, .int .i64 q1, .bool q2] 41 (0, 0)) by rw [hw_]; refine blk_put (cs := #[.int .i64 q0, .int .i64 q1, .bool false]) ?_ 2 _ rfl; refine blk_put (cs := #[.int .i64 q0, .int .i64 0, .bool false]) ?_ 1 _ rfl; refine blk_put (cs := #[.int .i64 0, .int .i64 0, .bool false]) ?_ 0 _ rfl; exact Bg11.out); clear hw_ HB Bg4 Bg5 Bg6 Bg9 Bg11 zg11_0 fg11_0 zg11_1 fg11_1 zg11_2 fg11_2; have HB := nHB_; clear nHB_; have Bg4 := ng4_; clear ng4_; have Bg5 := ng5_; clear ng5_; have Bg6 := ng6_; clear ng6_; have zg6_0 := (blk_cell Bg6.out 0).trans rfl; have fg6_0 := blk_frozen Bg6.out 0; have zg6_1 := (blk_cell Bg6.out 1).trans rfl; have fg6_1 := blk_frozen Bg6.out 1; have Bg9 := ng9_; clear ng9_; have Bg11 := ng11_; clear ng11_) | (go_at_call 42; (with_reducible refine (head_PutMark.calls k m0 Am cm lm X3 _ (Kd.C_below HRm.out HB.out) HCm.out HPM.out).mono ?_); rintro e w_13 ⟨v_, rfl, ho_, hb_⟩; have nHB_ := Aside0.mk (below_step HB.out hb_); have ng4_ := Aside0.mk (blk_below Bg4.out hb_); have ng5_ := Aside0.mk (blk_below Bg5.out hb_); have ng6_ := Aside0.mk (blk_below Bg6.out hb_); have ng9_ := Aside0.mk (blk_below Bg9.out hb_); have ng11_ := Aside0.mk (blk_below Bg11.out hb_); clear HB Bg4 Bg5 Bg6 Bg9 Bg11 zg6_0 fg6_0 zg6_1 fg6_1; have HB := nHB_; clear nHB_; have Bg4 := ng4_; clear ng4_; have Bg5 := ng5_; clear ng5_; have Bg6 := ng6_; clear ng6_; have Bg9 := ng9_; clear ng9_; have Bg11 := ng11_; clear ng11_; clear hb_; obtain ⟨A3, c3, e3_, hc_, hC_⟩ := Kd.R_reads ho_; subst e3_; have HC3 := Aside0.mk hC_; have HD3 := Aside0.mk hc_; clear hc_ hC_ ho_; have Hb3 := Aside0.mk (Below.refl w_13.heap.size w_13)) | (go_at_call 34; (with_reducible refine (head_TakeMark.calls k A3 c3 X3 t0 lt te _ (Kd.C_below HC3.out Hb3.out) HD3.out HTM.out).mono ?_); rintro e w_14 ⟨v_, rfl, ho_, hb_⟩; have nHB_ := Aside0.mk (below_step HB.out hb_); have nHb3_ := Aside0.mk (below_step Hb3.out hb_); have ng4_ := Aside0.mk (blk_below Bg4.out hb_); have ng5_ := Aside0.mk (blk_below Bg5.out hb_); have ng6_ := Aside0.mk (blk_below Bg6.out hb_); have ng9_ := Aside0.mk (blk_below Bg9.out hb_); have ng11_ := Aside0.mk (blk_below Bg11.out hb_); clear HB Hb3 Bg4 Bg5 Bg6 Bg9 Bg11; have HB := nHB_; clear nHB_; have Hb3 := nHb3_; clear nHb3_; have Bg4 := ng4_; clear ng4_; have Bg5 := ng5_; clear ng5_; have Bg6 := ng6_; clear ng6_; have Bg9 := ng9_; clear ng9_; have Bg11 := ng11_; clear ng11_; clear hb_; obtain ⟨At, ct, et_, hc_, hC_⟩ := Kd.R_reads ho_; subst et_; have HCt := Aside0.mk hC_; have HDt := Aside0.mk hc_; clear hc_ hC_ ho_; have Hbt := Aside0.mk (Below.refl w_14.heap.size w_14)) | ((with_reducible refine gate_dst (N := 13) rfl ?_); refine box_event ?hg (N := 13) ?hd (cs := #[.int .i64 0, .slice none 0 0]) (t := 43) ?hr ?_; (case hd => rfl); (case hg => rfl); (case hr => first | (go_simp; done) | (go_simp; rfl)); intro g13 hg w_15 hbox hb_; have Gw_g13 := Aside0.mk (show w.heap.size ≤ g13 by rw [hg]; exact HB.out.size); have Gw_14_g13 := Aside0.mk (show w_14.heap.size ≤ g13 by rw [hg]; exact Hbt.out.size); have Ng4_g13 := Aside0.mk (show g4 ≠ g13 by rw [hg]; exact Nat.ne_of_lt (blk_lt Bg4.out)); have Ng5_g13 := Aside0.mk (show g5 ≠ g13 by rw [hg]; exact Nat.ne_of_lt (blk_lt Bg5.out)); have Ng6_g13 := Aside0.mk (show g6 ≠ g13 by rw [hg]; exact Nat.ne_of_lt (blk_lt Bg6.out)); have Ng9_g13 := Aside0.mk (show g9 ≠ g13 by rw [hg]; exact Nat.ne_of_lt (blk_lt Bg9.out)); have Ng11_g13 := Aside0.mk (show g11 ≠ g13 by rw [hg]; exact Nat.ne_of_lt (blk_lt Bg11.out)); clear hg; have nHB_ := Aside0.mk (below_step HB.out hb_); have nHbt_ := Aside0.mk (below_step Hbt.out hb_); have ng4_ := Aside0.mk (blk_below Bg4.out hb_); have ng5_ := Aside0.mk (blk_below Bg5.out hb_); have ng6_ := Aside0.mk (blk_below Bg6.out hb_); have ng9_ := Aside0.mk (blk_below Bg9.out hb_); have ng11_ := Aside0.mk (blk_below Bg11.out hb_); clear HB Hbt Bg4 Bg5 Bg6 Bg9 Bg11; have HB := nHB_; clear nHB_; have Hbt := nHbt_; clear nHbt_; have Bg4 := ng4_; clear ng4_; have Bg5 := ng5_; clear ng5_; have Bg6 := ng6_; clear ng6_; have Bg9 := ng9_; clear ng9_; have Bg11 := ng11_; clear ng11_; have Bg13 := Aside0.mk hbox; clear hbox hb_; have zg13_0 := (blk_cell Bg13.out 0).trans rfl; have fg13_0 := blk_frozen Bg13.out 0; have zg13_1 := (blk_cell Bg13.out 1).trans rfl; have fg13_1 := blk_frozen Bg13.out 1) | ((with_reducible refine gate_store (t := 43) (p := 13) rfl ?_); refine store_event (t := 43) (p := 13) (v := ?vo_w_16) (w1 := (World.setCell (World.setCell w_15 ⟨g13, 0, none⟩ (.int .i64 t0)) ⟨g13, 1, none⟩ (.slice At lt.length ct))) ?hg ?ho ?hn ?hr ?_; (case ho => rfl); (case hg => rfl); (case hn => rfl); (case hr => first | (go_simp; done) | (go_simp; rfl)); intro w_16 hw_; have nHB_ := Aside0.mk (show Below w.heap.size w w_16 by rw [hw_]; refine below_set ?_ Gw_g13.out; refine below_set ?_ Gw_g13.out; exact HB.out); have nHbt_ := Aside0.mk (show Below w_14.heap.size w_14 w_16 by rw [hw_]; refine below_set ?_ Gw_14_g13.out; refine below_set ?_ Gw_14_g13.out; exact Hbt.out); have ng4_ := Aside0.mk (show w_16.heap[g4]? = some (.cells #[.int .i64 h0, .int .i64 h1, .bool h2] 39 (0, 0)) by rw [hw_]; refine blk_far ?_ Ng4_g13.out _; refine blk_far ?_ Ng4_g13.out _; exact Bg4.out); have ng5_ := Aside0.mk (show w_16.heap[g5]? = some (.cells #[.int .i64 d0, .int .i64 d1, .bool d2] 41 (0, 0)) by rw [hw_]; refine blk_far ?_ Ng5_g13.out _; refine blk_far ?_ Ng5_g13.out _; exact Bg5.out); have ng6_ := Aside0.mk (show w_16.heap[g6]? = some (.cells #[.int .i64 m0, .slice Am lm.length cm] 43 (0, 0)) by rw [hw_]; refine blk_far ?_ Ng6_g13.out _; refine blk_far ?_ Ng6_g13.out _; exact Bg6.out); have ng9_ := Aside0.mk (show w_16.heap[g9]? = some (.cells #[.int .i64 p0, .int .i64 p1, .bool p2] 39 (0, 0)) by rw [hw_]; refine blk_far ?_ Ng9_g13.out _; refine blk_far ?_ Ng9_g13.out _; exact Bg9.out); have ng11_ := Aside0.mk (show w_16.heap[g11]? = some (.cells #[.int .i64 q0, .int .i64 q1, .bool q2] 41 (0, 0)) by rw [hw_]; refine blk_far ?_ Ng11_g13.out _; refine blk_far ?_ Ng11_g13.out _; exact Bg11.out); have ng13_ := Aside0.mk (show w_16.heap[g13]? = some (.cells #[.int .i64 t0, .slice At lt.length ct] 43 (0, 0)) by rw [hw_]; refine blk_put (cs := #[.int .i64 t0, .slice none 0 0]) ?_ 1 _ rfl; refine blk_put (cs := #[.int .i64 0, .slice none 0 0]) ?_ 0 _ rfl; exact Bg13.out); clear hw_ HB Hbt Bg4 Bg5 Bg6 Bg9 Bg11 Bg13 zg13_0 fg13_0 zg13_1 fg13_1; have HB := nHB_; clear nHB_; have Hbt := nHbt_; clear nHbt_; have Bg4 := ng4_; clear ng4_; have Bg5 := ng5_; clear ng5_; have Bg6 := ng6_; clear ng6_; have Bg9 := ng9_; clear ng9_; have Bg11 := ng11_; clear ng11_; have Bg13 := ng13_; clear ng13_) | (go_at_call 44; (with_reducible refine (head_PutOff.calls k off X4 _ HPO.out).mono ?_); rintro e w_17 ⟨v_, rfl, ho_, hb_⟩; have nHB_ := Aside0.mk (below_step HB.out hb_); have nHbt_ := Aside0.mk (below_step Hbt.out hb_); have ng4_ := Aside0.mk (blk_below Bg4.out hb_); have ng5_ := Aside0.mk (blk_below Bg5.out hb_); have ng6_ := Aside0.mk (blk_below Bg6.out hb_); have ng9_ := Aside0.mk (blk_below Bg9.out hb_); have ng11_ := Aside0.mk (blk_below Bg11.out hb_); have ng13_ := Aside0.mk (blk_below Bg13.out hb_); clear HB Hbt Bg4 Bg5 Bg6 Bg9 Bg11 Bg13; have HB := nHB_; clear nHB_; have Hbt := nHbt_; clear nHbt_; have Bg4 := ng4_; clear ng4_; have Bg5 := ng5_; clear ng5_; have Bg6 := ng6_; clear ng6_; have Bg9 := ng9_; clear ng9_; have Bg11 := ng11_; clear ng11_; have Bg13 := ng13_; clear ng13_; clear hb_; obtain ⟨A4, c4, e4_, hc_, hC_⟩ := Kd.R_reads ho_; subst e4_; have HC4 := Aside0.mk hC_; have HD4 := Aside0.mk hc_; clear hc_ hC_ ho_; have Hb4 := Aside0.mk (Below.refl w_17.heap.size w_17)) | (go_at_call 36; (with_reducible refine (head_TakeOff.calls k A4 c4 X4 v0 ve _ (Kd.C_below HC4.out Hb4.out) HD4.out HTO.out).mono ?_); rintro e w_18 ⟨rfl, hd_⟩; have hb_ := hd_.below; clear hd_; have nHB_ := Aside0.mk (below_step HB.out hb_); have nHbt_ := Aside0.mk (below_step Hbt.out hb_); have nHb4_ := Aside0.mk (below_step Hb4.out hb_); have ng4_ := Aside0.mk (blk_below Bg4.out hb_); have ng5_ := Aside0.mk (blk_below Bg5.out hb_); have ng6_ := Aside0.mk (blk_below Bg6.out hb_); have ng9_ := Aside0.mk (blk_below Bg9.out hb_); have ng11_ := Aside0.mk (blk_below Bg11.out hb_); have ng13_ := Aside0.mk (blk_below Bg13.out hb_); clear HB Hbt Hb4 Bg4 Bg5 Bg6 Bg9 Bg11 Bg13; have HB := nHB_; clear nHB_; have Hbt := nHbt_; clear nHbt_; have Hb4 := nHb4_; clear nHb4_; have Bg4 := ng4_; clear ng4_; have zg4_0 := (blk_cell Bg4.out 0).trans rfl; have fg4_0 := blk_frozen Bg4.out 0; have zg4_1 := (blk_cell Bg4.out 1).trans rfl; have fg4_1 := blk_frozen Bg4.out 1; have zg4_2 := (blk_cell Bg4.out 2).trans rfl; have fg4_2 := blk_frozen Bg4.out 2; have Bg5 := ng5_; clear ng5_; have zg5_0 := (blk_cell Bg5.out 0).trans rfl; have fg5_0 := blk_frozen Bg5.out 0; have zg5_1 := (blk_cell Bg5.out 1).trans rfl; have fg5_1 := blk_frozen Bg5.out 1; have zg5_2 := (blk_cell Bg5.out 2).trans rfl; have fg5_2 := blk_frozen Bg5.out 2; have Bg6 := ng6_; clear ng6_; have zg6_0 := (blk_cell Bg6.out 0).trans rfl; have fg6_0 := blk_frozen Bg6.out 0; have zg6_1 := (blk_cell Bg6.out 1).trans rfl; have fg6_1 := blk_frozen Bg6.out 1; have Bg9 := ng9_; clear ng9_; have zg9_0 := (blk_cell Bg9.out 0).trans rfl; have fg9_0 := blk_frozen Bg9.out 0; have zg9_1 := (blk_cell Bg9.out 1).trans rfl; have fg9_1 := blk_frozen Bg9.out 1; have zg9_2 := (blk_cell Bg9.out 2).trans rfl; have fg9_2 := blk_frozen Bg9.out 2; have Bg11 := ng11_; clear ng11_; have zg11_0 := (blk_cell Bg11.out 0).trans rfl; have fg11_0 := blk_frozen Bg11.out 0; have zg11_1 := (blk_cell Bg11.out 1).trans rfl; have fg11_1 := blk_frozen Bg11.out 1; have zg11_2 := (blk_cell Bg11.out 2).trans rfl; have fg11_2 := blk_frozen Bg11.out 2; have Bg13 := ng13_; clear ng13_; have zg13_0 := (blk_cell Bg13.out 0).trans rfl; have fg13_0 := blk_frozen Bg13.out 0; have zg13_1 := (blk_cell Bg13.out 1).trans rfl; have fg13_1 := blk_frozen Bg13.out 1; clear hb_))
  go_cut [17] from 50 to 59 (fun s_ wx_ => s_ = .bool a ∧ wx_ = w_18)
  case first =>
    by_cases x0 : 0 ≤ h1
    · have Y0 := Aside0.mk x0
      have f0_0 : decide (0 ≤ h1) = true := decide_eq_true (by omega)
      clear x0
      by_cases x1 : h1 ≤ h0
      · have Y1 := Aside0.mk x1
        have f1_0 : decide (h1 ≤ h0) = true := decide_eq_true (by omega)
        clear x1
        go_wp2_with (fail)
        go_meet
        exact ⟨congrArg Value.bool (by rw [Qha.out]; simp [Y0.out, Y1.out]), rfl⟩
      · have Y1 := Aside0.mk x1
        have f1_0 : decide (h1 ≤ h0) = false := decide_eq_false (by omega)
        clear x1
        go_wp2_with (fail)
        go_meet
        exact ⟨congrArg Value.bool (by rw [Qha.out]; simp [Y0.out, Y1.out]), rfl⟩
    · have Y0 := Aside0.mk x0
      have f0_0 : decide (0 ≤ h1) = false := decide_eq_false (by omega)
      clear x0
      by_cases x1 : h1 ≤ h0
      · have Y1 := Aside0.mk x1
        have f1_0 : decide (h1 ≤ h0) = true := decide_eq_true (by omega)
        clear x1
        go_wp2_with (fail)
        go_meet
        exact ⟨congrArg Value.bool (by rw [Qha.out]; simp [Y0.out, Y1.out]), rfl⟩
      · have Y1 := Aside0.mk x1
        have f1_0 : decide (h1 ≤ h0) = false := decide_eq_false (by omega)
        clear x1
        go_wp2_with (fail)
        go_meet
        exact ⟨congrArg Value.bool (by rw [Qha.out]; simp [Y0.out, Y1.out]), rfl⟩
  case rest =>
  obtain ⟨rfl, hw_⟩ := hcut
  have hw2_ := hw_.symm
  clear hw_
  subst hw2_
  go_upto_region 10 with (fail)
  go_cut [18] from 60 to 77 (fun s_ wx_ => s_ = .bool b ∧ wx_ = w_18)
  case first =>
    by_cases x0 : 0 ≤ d0
    · have Y0 := Aside0.mk x0
      have f0_0 : decide (0 ≤ d0) = true := decide_eq_true (by omega)
      clear x0
      by_cases x1 : 1 ≤ d1
      · have Y1 := Aside0.mk x1
        have f1_0 : decide (1 ≤ d1) = true := decide_eq_true (by omega)
        clear x1
        by_cases x2 : d1 ≤ 65535
        · have Y2 := Aside0.mk x2
          have f2_0 : decide (d1 ≤ 65535) = true := decide_eq_true (by omega)
          clear x2
          cases d2
          all_goals
            go_wp2_with (fail)
            go_meet
            exact ⟨congrArg Value.bool (by rw [Qhb.out]; simp [Y0.out, Y1.out, Y2.out]), rfl⟩
        · have Y2 := Aside0.mk x2
          have f2_0 : decide (d1 ≤ 65535) = false := decide_eq_false (by omega)
          clear x2
          cases d2
          all_goals
            go_wp2_with (fail)
            go_meet
            exact ⟨congrArg Value.bool (by rw [Qhb.out]; simp [Y0.out, Y1.out, Y2.out]), rfl⟩
      · have Y1 := Aside0.mk x1
        have f1_0 : decide (1 ≤ d1) = false := decide_eq_false (by omega)
        clear x1
        by_cases x2 : d1 ≤ 65535
        · have Y2 := Aside0.mk x2
          have f2_0 : decide (d1 ≤ 65535) = true := decide_eq_true (by omega)
          clear x2
          cases d2
          all_goals
            go_wp2_with (fail)
            go_meet
            exact ⟨congrArg Value.bool (by rw [Qhb.out]; simp [Y0.out, Y1.out, Y2.out]), rfl⟩
        · have Y2 := Aside0.mk x2
          have f2_0 : decide (d1 ≤ 65535) = false := decide_eq_false (by omega)
          clear x2
          cases d2
          all_goals
            go_wp2_with (fail)
            go_meet
            exact ⟨congrArg Value.bool (by rw [Qhb.out]; simp [Y0.out, Y1.out, Y2.out]), rfl⟩
    · have Y0 := Aside0.mk x0
      have f0_0 : decide (0 ≤ d0) = false := decide_eq_false (by omega)
      clear x0
      by_cases x1 : 1 ≤ d1
      · have Y1 := Aside0.mk x1
        have f1_0 : decide (1 ≤ d1) = true := decide_eq_true (by omega)
        clear x1
        by_cases x2 : d1 ≤ 65535
        · have Y2 := Aside0.mk x2
          have f2_0 : decide (d1 ≤ 65535) = true := decide_eq_true (by omega)
          clear x2
          cases d2
          all_goals
            go_wp2_with (fail)
            go_meet
            exact ⟨congrArg Value.bool (by rw [Qhb.out]; simp [Y0.out, Y1.out, Y2.out]), rfl⟩
        · have Y2 := Aside0.mk x2
          have f2_0 : decide (d1 ≤ 65535) = false := decide_eq_false (by omega)
          clear x2
          cases d2
          all_goals
            go_wp2_with (fail)
            go_meet
            exact ⟨congrArg Value.bool (by rw [Qhb.out]; simp [Y0.out, Y1.out, Y2.out]), rfl⟩
      · have Y1 := Aside0.mk x1
        have f1_0 : decide (1 ≤ d1) = false := decide_eq_false (by omega)
        clear x1
        by_cases x2 : d1 ≤ 65535
        · have Y2 := Aside0.mk x2
          have f2_0 : decide (d1 ≤ 65535) = true := decide_eq_true (by omega)
          clear x2
          cases d2
          all_goals
            go_wp2_with (fail)
            go_meet
            exact ⟨congrArg Value.bool (by rw [Qhb.out]; simp [Y0.out, Y1.out, Y2.out]), rfl⟩
        · have Y2 := Aside0.mk x2
          have f2_0 : decide (d1 ≤ 65535) = false := decide_eq_false (by omega)
          clear x2
          cases d2
          all_goals
            go_wp2_with (fail)
            go_meet
            exact ⟨congrArg Value.bool (by rw [Qhb.out]; simp [Y0.out, Y1.out, Y2.out]), rfl⟩
  case rest =>
  obtain ⟨rfl, hw_⟩ := hcut
  have hw2_ := hw_.symm
  clear hw_
  subst hw2_
  go_upto_region 11 with (fail)
  go_cut [19] from 78 to 86 (fun s_ wx_ => s_ = .bool c ∧ wx_ = w_18)
  case first =>
    by_cases x0 : 0 ≤ m0
    · have Y0 := Aside0.mk x0
      have f0_0 : decide (0 ≤ m0) = true := decide_eq_true (by omega)
      clear x0
      by_cases x1 : lm.length ≤ 100
      · have Y1 := Aside0.mk x1
        have f1_0 : decide ((lm.length : Int) ≤ 100) = true := decide_eq_true (by omega)
        have f1_1 : decide (lm.length ≤ 100) = true := decide_eq_true (by omega)
        clear x1
        go_wp2_with (fail)
        go_meet
        exact ⟨congrArg Value.bool (by rw [Qhc.out]; simp [Y0.out, Y1.out]), rfl⟩
      · have Y1 := Aside0.mk x1
        have f1_0 : decide ((lm.length : Int) ≤ 100) = false := decide_eq_false (by omega)
        have f1_1 : decide (lm.length ≤ 100) = false := decide_eq_false (by omega)
        clear x1
        go_wp2_with (fail)
        go_meet
        exact ⟨congrArg Value.bool (by rw [Qhc.out]; simp [Y0.out, Y1.out]), rfl⟩
    · have Y0 := Aside0.mk x0
      have f0_0 : decide (0 ≤ m0) = false := decide_eq_false (by omega)
      clear x0
      by_cases x1 : lm.length ≤ 100
      · have Y1 := Aside0.mk x1
        have f1_0 : decide ((lm.length : Int) ≤ 100) = true := decide_eq_true (by omega)
        have f1_1 : decide (lm.length ≤ 100) = true := decide_eq_true (by omega)
        clear x1
        go_wp2_with (fail)
        go_meet
        exact ⟨congrArg Value.bool (by rw [Qhc.out]; simp [Y0.out, Y1.out]), rfl⟩
      · have Y1 := Aside0.mk x1
        have f1_0 : decide ((lm.length : Int) ≤ 100) = false := decide_eq_false (by omega)
        have f1_1 : decide (lm.length ≤ 100) = false := decide_eq_false (by omega)
        clear x1
        go_wp2_with (fail)
        go_meet
        exact ⟨congrArg Value.bool (by rw [Qhc.out]; simp [Y0.out, Y1.out]), rfl⟩
  case rest =>
  obtain ⟨rfl, hw_⟩ := hcut
  have hw2_ := hw_.symm
  clear hw_
  subst hw2_
  have rt_ := fun c => Kd.C_string (P := Try.prog) (c := c) Try.underlying22 Try.underlying5 Try.underlying9 (Kd.C_below HCt.out Hbt.out)
  have rm_ := fun c => Kd.C_string (P := Try.prog) (c := c) Try.underlying22 Try.underlying5 Try.underlying9 (Kd.C_below HRm.out HB.out)
  have hd := Qhd.out
  have pa := Qpa.out
  have pb := Qpb.out
  have pc := Qpc.out
  have pd := Qpd.out
  clear Qha Qhb Qhc Qhd Qpa Qpb Qpc Qpd
  try clear Gw_g4
  try clear Gw_g5
  try clear Gw_g6
  try clear Gw_g9
  try clear Gw_g11
  try clear Gw_g13
  try clear Ng4_g5
  try clear Ng4_g6
  try clear Ng5_g6
  try clear Ng4_g9
  try clear Ng5_g9
  try clear Ng6_g9
  try clear Ng4_g11
  try clear Ng5_g11
  try clear Ng6_g11
  try clear Ng9_g11
  try clear Ng4_g13
  try clear Ng5_g13
  try clear Ng6_g13
  try clear Ng9_g13
  try clear Ng11_g13
  try clear HPH
  try clear HTH
  try clear HPD
  try clear HTD
  try clear HPM
  try clear HTM
  try clear HPO
  try clear HTO
  try clear H0
  try clear HRm
  try clear HCm
  try clear HC1
  try clear HC2
  try clear HC3
  try clear HC4
  try clear HCt
  try clear HD1
  try clear HD2
  try clear HD3
  try clear HD4
  try clear HDt
  try clear Bg4
  try clear Bg5
  try clear Bg6
  try clear Bg9
  try clear Bg11
  try clear Bg13
  try clear Hbt
  go_upto_region 12 with (fail)
  simp only [List.append_eq, List.cons_append, List.nil_append]
  cases d
  · rw [if_neg (by decide)] at pd
    have ho_ : ¬ 0 ≤ off := of_decide_eq_false hd.symm
    have fo0 : decide (0 ≤ off) = false := hd.symm
    have fo1 : decide (off < 0) = true := decide_eq_true (by omega)
    clear hd ho_
    obtain rfl := pd
    cases a
    · rw [if_neg (by decide)] at pa
      obtain rfl := pa
      cases b
      · rw [if_neg (by decide)] at pb
        obtain rfl := pb
        cases c
        · rw [if_neg (by decide)] at pc
          obtain rfl := pc
          go_wp2_with (fail)
          go_ret
          exact ⟨rfl, HB.out⟩
        · rw [if_pos rfl] at pc
          obtain ⟨rfl, rfl, rfl⟩ := pc
          go_wp2_with (fail)
          go_ret
          exact ⟨rfl, HB.out⟩
      · rw [if_pos rfl] at pb
        obtain ⟨rfl, rfl, rfl, rfl⟩ := pb
        cases c
        · rw [if_neg (by decide)] at pc
          obtain rfl := pc
          go_wp2_with (fail)
          go_ret
          exact ⟨rfl, HB.out⟩
        · rw [if_pos rfl] at pc
          obtain ⟨rfl, rfl, rfl⟩ := pc
          go_wp2_with (fail)
          go_ret
          exact ⟨rfl, HB.out⟩
    · rw [if_pos rfl] at pa
      obtain ⟨rfl, rfl, rfl, rfl⟩ := pa
      cases b
      · rw [if_neg (by decide)] at pb
        obtain rfl := pb
        cases c
        · rw [if_neg (by decide)] at pc
          obtain rfl := pc
          go_wp2_with (fail)
          go_ret
          exact ⟨rfl, HB.out⟩
        · rw [if_pos rfl] at pc
          obtain ⟨rfl, rfl, rfl⟩ := pc
          go_wp2_with (fail)
          go_ret
          exact ⟨rfl, HB.out⟩
      · rw [if_pos rfl] at pb
        obtain ⟨rfl, rfl, rfl, rfl⟩ := pb
        cases c
        · rw [if_neg (by decide)] at pc
          obtain rfl := pc
          go_wp2_with (fail)
          go_ret
          exact ⟨rfl, HB.out⟩
        · rw [if_pos rfl] at pc
          obtain ⟨rfl, rfl, rfl⟩ := pc
          go_wp2_with (fail)
          go_ret
          exact ⟨rfl, HB.out⟩
  · rw [if_pos rfl] at pd
    have ho_ : 0 ≤ off := of_decide_eq_true hd.symm
    have fo0 : decide (0 ≤ off) = true := hd.symm
    have fo1 : decide (off < 0) = false := decide_eq_false (by omega)
    clear hd ho_
    obtain ⟨rfl, rfl⟩ := pd
    cases a
    · rw [if_neg (by decide)] at pa
      obtain rfl := pa
      cases b
      · rw [if_neg (by decide)] at pb
        obtain rfl := pb
        cases c
        · rw [if_neg (by decide)] at pc
          obtain rfl := pc
          go_wp2_with (fail)
          go_ret
          exact ⟨rfl, HB.out⟩
        · rw [if_pos rfl] at pc
          obtain ⟨rfl, rfl, rfl⟩ := pc
          go_wp2_with (fail)
          go_ret
          exact ⟨rfl, HB.out⟩
      · rw [if_pos rfl] at pb
        obtain ⟨rfl, rfl, rfl, rfl⟩ := pb
        cases c
        · rw [if_neg (by decide)] at pc
          obtain rfl := pc
          go_wp2_with (fail)
          go_ret
          exact ⟨rfl, HB.out⟩
        · rw [if_pos rfl] at pc
          obtain ⟨rfl, rfl, rfl⟩ := pc
          go_wp2_with (fail)
          go_ret
          exact ⟨rfl, HB.out⟩
    · rw [if_pos rfl] at pa
      obtain ⟨rfl, rfl, rfl, rfl⟩ := pa
      cases b
      · rw [if_neg (by decide)] at pb
        obtain rfl := pb
        cases c
        · rw [if_neg (by decide)] at pc
          obtain rfl := pc
          go_wp2_with (fail)
          go_ret
          exact ⟨rfl, HB.out⟩
        · rw [if_pos rfl] at pc
          obtain ⟨rfl, rfl, rfl⟩ := pc
          go_wp2_with (fail)
          go_ret
          exact ⟨rfl, HB.out⟩
      · rw [if_pos rfl] at pb
        obtain ⟨rfl, rfl, rfl, rfl⟩ := pb
        cases c
        · rw [if_neg (by decide)] at pc
          obtain rfl := pc
          go_wp2_with (fail)
          go_ret
          exact ⟨rfl, HB.out⟩
        · rw [if_pos rfl] at pc
          obtain ⟨rfl, rfl, rfl⟩ := pc
          go_wp2_with (fail)
          go_ret
          exact ⟨rfl, HB.out⟩
end Go.Proofs.Ytfgeffmlfbeodaa.PHeadBack
