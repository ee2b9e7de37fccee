/- NodeBack: the law's walk over the contracts of what it calls. Bound to this program. -/
import Derived.Test.YtfgeffmlfbeodaaNodeTakeA
import Derived.Test.YtfgeffmlfbeodaaNodeSame
import Derived.Test.YtfgeffmlfbeodaaPNodeBackx5
namespace Go.Proofs.Ytfgeffmlfbeodaa.PNodeBack
open Go Go.RowKit Go.Proofs Go.Proofs.YtfgeffmlfbeodaaW.PrintWords Go.Proofs.YtfgeffmlfbeodaaW.PrintLast Go.Proofs.YtfgeffmlfbeodaaW.PrintMore
set_option linter.unusedVariables false
set_option linter.unusedSimpArgs false
set_option maxHeartbeats 8000000 in
set_option maxRecDepth 100000 in
theorem walk_dark (k : Nat) (a0 : Bool) (A1 : Option Addr) (c1 : Nat) (l1 : List S87) (A2 : Option Addr) (c2 : Nat) (l2 : List (List Int)) (A3 : Option Addr) (c3 : Nat) (l3 : List S90) (ct m : Int) (w : World) (hr1 : Kd.C k87 w A1 l1.length l1) (hc1 : l1.length ≤ c1) (hr2 : Kd.C (Kd.slice 5 (Kd.int .u8)) w A2 l2.length l2) (hc2 : l2.length ≤ c2) (hr3 : Kd.C k90 w A3 l3.length l3) (hc3 : l3.length ≤ c3)
    (hlt : pandectlaw9_Light.f k a0 l1 l2 l3 = some false) :
    Calls Try.prog 16 #[.agg #[.bool a0, .slice A1 l1.length c1, .slice A2 l2.length c2, .slice A3 l3.length c3], .int .u16 ct, .int .u8 m] w fun e w' => e = .returned (.bool true) ∧ Below w.heap.size w w' := by
  have hu79 := Try.underlying79
  have HB := Aside0.mk (Below.refl w.heap.size w)
  have HR1 := Aside0.mk hr1
  have HC1 := Aside0.mk hc1
  have HR2 := Aside0.mk hr2
  have HC2 := Aside0.mk hc2
  have HR3 := Aside0.mk hr3
  have HC3 := Aside0.mk hc3
  clear hr1 hc1 hr2 hc2 hr3 hc3
  have HLT := Aside0.mk hlt
  clear hlt
  go_enter Try.func16, Try.ntmps16
  go_wp2_with (first | ((with_reducible refine gate_dst (N := 3) rfl ?_); refine box_event ?hg (N := 3) ?hd (cs := #[.bool a0, .slice A1 l1.length c1, .slice A2 l2.length c2, .slice A3 l3.length c3]) (t := 79) ?hr ?_; (case hd => rfl); (case hg => rfl); (case hr => first | (go_simp; done) | (go_simp; rfl)); intro g3 hg w1 hbox hb; have B3 := Aside0.mk hbox; have G3 := Aside0.mk (show w.heap.size ≤ g3 by rw [hg]; exact Nat.le_refl _); clear HB; have HB := Aside0.mk hb; have kz0 := (blk_cell B3.out 0).trans rfl; have kf0 := blk_frozen B3.out 0; have kz1 := (blk_cell B3.out 1).trans rfl; have kf1 := blk_frozen B3.out 1; have kz2 := (blk_cell B3.out 2).trans rfl; have kf2 := blk_frozen B3.out 2; have kz3 := (blk_cell B3.out 3).trans rfl; have kf3 := blk_frozen B3.out 3; clear hg hbox hb) | (go_at_call 68; (with_reducible refine (pandectlaw9_begun.calls true _ rfl).mono ?_); rintro e w2 ⟨rfl, hb⟩; clear kz0 kf0 kz1 kf1 kz2 kf2 kz3 kf3; have u0_ := Aside0.mk (below_step HB.out hb); have u1_ := Aside0.mk (blk_below B3.out hb); clear HB B3; have HB := u0_; have B3 := u1_; clear u0_ u1_; have kz0 := (blk_cell B3.out 0).trans rfl; have kf0 := blk_frozen B3.out 0; have kz1 := (blk_cell B3.out 1).trans rfl; have kf1 := blk_frozen B3.out 1; have kz2 := (blk_cell B3.out 2).trans rfl; have kf2 := blk_frozen B3.out 2; have kz3 := (blk_cell B3.out 3).trans rfl; have kf3 := blk_frozen B3.out 3; clear hb) | (go_at_call 69; (refine (pandectlaw9_Light.calls k a0 A1 c1 l1 A2 c2 l2 A3 c3 l3 _ _ ?s1 ?s2 ?s3 ?s4 ?s5 ?s6 HLT.out).mono ?_); (case s1 => exact Kd.C_below HR1.out HB.out); (case s2 => exact HC1.out); (case s3 => exact Kd.C_below HR2.out HB.out); (case s4 => exact HC2.out); (case s5 => exact Kd.C_below HR3.out HB.out); (case s6 => exact HC3.out); rintro e w3 ⟨rfl, hb⟩; clear kz0 kf0 kz1 kf1 kz2 kf2 kz3 kf3; have u0_ := Aside0.mk (below_step HB.out hb); have u1_ := Aside0.mk (blk_below B3.out hb); clear HB B3; have HB := u0_; have B3 := u1_; clear u0_ u1_; have kz0 := (blk_cell B3.out 0).trans rfl; have kf0 := blk_frozen B3.out 0; have kz1 := (blk_cell B3.out 1).trans rfl; have kf1 := blk_frozen B3.out 1; have kz2 := (blk_cell B3.out 2).trans rfl; have kf2 := blk_frozen B3.out 2; have kz3 := (blk_cell B3.out 3).trans rfl; have kf3 := blk_frozen B3.out 3; clear hb))
  go_ret
  exact ⟨rfl, HB.out⟩
set_option maxHeartbeats 8000000 in
set_option maxRecDepth 100000 in
theorem walk_bad (k : Nat) (a0 : Bool) (A1 : Option Addr) (c1 : Nat) (l1 : List S87) (A2 : Option Addr) (c2 : Nat) (l2 : List (List Int)) (A3 : Option Addr) (c3 : Nat) (l3 : List S90) (ct m : Int) (w : World) (hr1 : Kd.C k87 w A1 l1.length l1) (hc1 : l1.length ≤ c1) (hr2 : Kd.C (Kd.slice 5 (Kd.int .u8)) w A2 l2.length l2) (hc2 : l2.length ≤ c2) (hr3 : Kd.C k90 w A3 l3.length l3) (hc3 : l3.length ≤ c3)
    (hlt : pandectlaw9_Light.f k a0 l1 l2 l3 = some true) (hmay : node_May.f k a0 l1 l2 l3 = some false) (hput : node_Put.f k a0 l1 l2 l3 = some []) :
    Calls Try.prog 16 #[.agg #[.bool a0, .slice A1 l1.length c1, .slice A2 l2.length c2, .slice A3 l3.length c3], .int .u16 ct, .int .u8 m] w fun e w' => e = .returned (.bool true) ∧ Below w.heap.size w w' := by
  have hu79 := Try.underlying79
  have HB := Aside0.mk (Below.refl w.heap.size w)
  have HR1 := Aside0.mk hr1
  have HC1 := Aside0.mk hc1
  have HR2 := Aside0.mk hr2
  have HC2 := Aside0.mk hc2
  have HR3 := Aside0.mk hr3
  have HC3 := Aside0.mk hc3
  clear hr1 hc1 hr2 hc2 hr3 hc3
  have HLT := Aside0.mk hlt
  have HMAY := Aside0.mk hmay
  have HPUT := Aside0.mk hput
  clear hlt hmay hput
  obtain ⟨b, hb0⟩ : ∃ b : List Int, b = [] := ⟨_, rfl⟩
  rw [← hb0] at HPUT
  have BN := Aside0.mk hb0
  clear hb0
  go_enter Try.func16, Try.ntmps16
  go_wp2_with (first | ((with_reducible refine gate_dst (N := 3) rfl ?_); refine box_event ?hg (N := 3) ?hd (cs := #[.bool a0, .slice A1 l1.length c1, .slice A2 l2.length c2, .slice A3 l3.length c3]) (t := 79) ?hr ?_; (case hd => rfl); (case hg => rfl); (case hr => first | (go_simp; done) | (go_simp; rfl)); intro g3 hg w1 hbox hb; have B3 := Aside0.mk hbox; have G3 := Aside0.mk (show w.heap.size ≤ g3 by rw [hg]; exact Nat.le_refl _); clear HB; have HB := Aside0.mk hb; have kz0 := (blk_cell B3.out 0).trans rfl; have kf0 := blk_frozen B3.out 0; have kz1 := (blk_cell B3.out 1).trans rfl; have kf1 := blk_frozen B3.out 1; have kz2 := (blk_cell B3.out 2).trans rfl; have kf2 := blk_frozen B3.out 2; have kz3 := (blk_cell B3.out 3).trans rfl; have kf3 := blk_frozen B3.out 3; clear hg hbox hb) | (go_at_call 68; (with_reducible refine (pandectlaw9_begun.calls true _ rfl).mono ?_); rintro e w2 ⟨rfl, hb⟩; clear kz0 kf0 kz1 kf1 kz2 kf2 kz3 kf3; have u0_ := Aside0.mk (below_step HB.out hb); have u1_ := Aside0.mk (blk_below B3.out hb); clear HB B3; have HB := u0_; have B3 := u1_; clear u0_ u1_; have kz0 := (blk_cell B3.out 0).trans rfl; have kf0 := blk_frozen B3.out 0; have kz1 := (blk_cell B3.out 1).trans rfl; have kf1 := blk_frozen B3.out 1; have kz2 := (blk_cell B3.out 2).trans rfl; have kf2 := blk_frozen B3.out 2; have kz3 := (blk_cell B3.out 3).trans rfl; have kf3 := blk_frozen B3.out 3; clear hb) | (go_at_call 69; (refine (pandectlaw9_Light.calls k a0 A1 c1 l1 A2 c2 l2 A3 c3 l3 _ _ ?s1 ?s2 ?s3 ?s4 ?s5 ?s6 HLT.out).mono ?_); (case s1 => exact Kd.C_below HR1.out HB.out); (case s2 => exact HC1.out); (case s3 => exact Kd.C_below HR2.out HB.out); (case s4 => exact HC2.out); (case s5 => exact Kd.C_below HR3.out HB.out); (case s6 => exact HC3.out); rintro e w3 ⟨rfl, hb⟩; clear kz0 kf0 kz1 kf1 kz2 kf2 kz3 kf3; have u0_ := Aside0.mk (below_step HB.out hb); have u1_ := Aside0.mk (blk_below B3.out hb); clear HB B3; have HB := u0_; have B3 := u1_; clear u0_ u1_; have kz0 := (blk_cell B3.out 0).trans rfl; have kf0 := blk_frozen B3.out 0; have kz1 := (blk_cell B3.out 1).trans rfl; have kf1 := blk_frozen B3.out 1; have kz2 := (blk_cell B3.out 2).trans rfl; have kf2 := blk_frozen B3.out 2; have kz3 := (blk_cell B3.out 3).trans rfl; have kf3 := blk_frozen B3.out 3; clear hb) | (go_at_call 70; (refine (node_Put.calls k a0 A1 c1 l1 A2 c2 l2 A3 c3 l3 _ _ ?s1 ?s2 ?s3 ?s4 ?s5 ?s6 HPUT.out).mono ?_); (case s1 => exact Kd.C_below HR1.out HB.out); (case s2 => exact HC1.out); (case s3 => exact Kd.C_below HR2.out HB.out); (case s4 => exact HC2.out); (case s5 => exact Kd.C_below HR3.out HB.out); (case s6 => exact HC3.out); rintro e w4 ⟨v4, rfl, ho, hb⟩; clear kz0 kf0 kz1 kf1 kz2 kf2 kz3 kf3; have u0_ := Aside0.mk (below_step HB.out hb); have u1_ := Aside0.mk (blk_below B3.out hb); clear HB B3; have HB := u0_; have B3 := u1_; clear u0_ u1_; have kz0 := (blk_cell B3.out 0).trans rfl; have kf0 := blk_frozen B3.out 0; have kz1 := (blk_cell B3.out 1).trans rfl; have kf1 := blk_frozen B3.out 1; have kz2 := (blk_cell B3.out 2).trans rfl; have kf2 := blk_frozen B3.out 2; have kz3 := (blk_cell B3.out 3).trans rfl; have kf3 := blk_frozen B3.out 3; obtain ⟨Ab, cb, e_, hc_, hC_⟩ := Kd.R_reads ho; subst e_; have HCB := Aside0.mk hC_; have HDB := Aside0.mk hc_; clear hb ho hc_ hC_) | (go_at_call 71; (refine (node_May.calls k a0 A1 c1 l1 A2 c2 l2 A3 c3 l3 _ _ ?s1 ?s2 ?s3 ?s4 ?s5 ?s6 HMAY.out).mono ?_); (case s1 => exact Kd.C_below HR1.out HB.out); (case s2 => exact HC1.out); (case s3 => exact Kd.C_below HR2.out HB.out); (case s4 => exact HC2.out); (case s5 => exact Kd.C_below HR3.out HB.out); (case s6 => exact HC3.out); rintro e w5 ⟨rfl, hb⟩; clear kz0 kf0 kz1 kf1 kz2 kf2 kz3 kf3; have u0_ := Aside0.mk (below_step HB.out hb); have u1_ := Aside0.mk (blk_below B3.out hb); have u2_ := Aside0.mk (Kd.C_below HCB.out hb); clear HB B3 HCB; have HB := u0_; have B3 := u1_; have HCB := u2_; clear u0_ u1_ u2_; have kz0 := (blk_cell B3.out 0).trans rfl; have kf0 := blk_frozen B3.out 0; have kz1 := (blk_cell B3.out 1).trans rfl; have kf1 := blk_frozen B3.out 1; have kz2 := (blk_cell B3.out 2).trans rfl; have kf2 := blk_frozen B3.out 2; have kz3 := (blk_cell B3.out 3).trans rfl; have kf3 := blk_frozen B3.out 3; clear hb))
  go_ret
  exact ⟨by rw [BN.out]; rfl, HB.out⟩
set_option maxHeartbeats 8000000 in
set_option maxRecDepth 100000 in
theorem walk_good (k : Nat) (a0 : Bool) (A1 : Option Addr) (c1 : Nat) (l1 : List S87) (A2 : Option Addr) (c2 : Nat) (l2 : List (List Int)) (A3 : Option Addr) (c3 : Nat) (l3 : List S90) (ct m : Int) (w : World) (hr1 : Kd.C k87 w A1 l1.length l1) (hc1 : l1.length ≤ c1) (hr2 : Kd.C (Kd.slice 5 (Kd.int .u8)) w A2 l2.length l2) (hc2 : l2.length ≤ c2) (hr3 : Kd.C k90 w A3 l3.length l3) (hc3 : l3.length ≤ c3)
    (hlt : pandectlaw9_Light.f k a0 l1 l2 l3 = some true) (hmay : node_May.f k a0 l1 l2 l3 = some true) (b : List Int) (hput : node_Put.f k a0 l1 l2 l3 = some b) (hlo : 2 ≤ b.length) (hhi : b.length ≤ 4096) (hct : 0 ≤ ct) (hct2 : ct < 65536)
    (y2 : List Int) (hy2 : y2 = b.take (ct % (b.length : Int)).toNat) (y3 : List Int) (hy3 : y3 = b ++ [m]) (ht1 : Took k b true a0 l1 l2 l3) (ht2 : ∃ lf I K T, Took k y2 false lf I K T) (ht3 : ∃ lf I K T, Took k y3 false lf I K T) (href : api_Ref_111.f k l3 l3 = some true) :
    Calls Try.prog 16 #[.agg #[.bool a0, .slice A1 l1.length c1, .slice A2 l2.length c2, .slice A3 l3.length c3], .int .u16 ct, .int .u8 m] w fun e w' => e = .returned (.bool true) ∧ Below w.heap.size w w' := by
  have hu79 := Try.underlying79
  have HB := Aside0.mk (Below.refl w.heap.size w)
  have HR1 := Aside0.mk hr1
  have HC1 := Aside0.mk hc1
  have HR2 := Aside0.mk hr2
  have HC2 := Aside0.mk hc2
  have HR3 := Aside0.mk hr3
  have HC3 := Aside0.mk hc3
  clear hr1 hc1 hr2 hc2 hr3 hc3
  have HLT := Aside0.mk hlt
  have HMAY := Aside0.mk hmay
  have HPUT := Aside0.mk hput
  have HLO := Aside0.mk hlo
  have HHI := Aside0.mk hhi
  have HY2 := Aside0.mk hy2
  have HY3 := Aside0.mk hy3
  have HT1 := Aside0.mk ht1
  have HT2 := Aside0.mk ht2
  have HT3 := Aside0.mk ht3
  have HRF := Aside0.mk href
  obtain ⟨i0, hi0, _, hsz, _⟩ := info_parts info5
  have HI0 := Aside0.mk hi0
  have HSZ := Aside0.mk hsz
  have q0_ : 0 ≤ ct % (b.length : Int) := Int.emod_nonneg _ (by omega)
  have q1_ : ct % (b.length : Int) ≤ (b.length : Int) := Int.le_of_lt (Int.emod_lt_of_pos _ (by omega))
  have Q0 := Aside0.mk q0_
  have Q1 := Aside0.mk q1_
  have w1_ : wrap64 ct = ct := by unfold wrap64; omega
  have z1_ : ((b.length : Int) == 0) = false := beq_eq_false_iff_ne.mpr (by omega)
  have z3_ : (b.length = 0) = False := eq_false (by omega)
  have z4_ : (b = []) = False := eq_false (by intro e_; rw [e_] at hlo; simp at hlo)
  have z2_ : ((b.length : Int) = 0) = False := eq_false (by omega)
  have z5_ : ((b.length : Int) < 2) = False := eq_false (by omega)
  have z6_ : ((b.length : Int) > 4096) = False := eq_false (by omega)
  have z7_ : ((4096 : Int) < (b.length : Int)) = False := eq_false (by omega)
  clear hi0 hsz q0_ q1_ hlt hmay hput hlo hhi hy2 hy3 ht1 ht2 ht3 href
  go_enter Try.func16, Try.ntmps16
  go_upto_region 11 with (first | ((with_reducible refine gate_dst (N := 3) rfl ?_); refine box_event ?hg (N := 3) ?hd (cs := #[.bool a0, .slice A1 l1.length c1, .slice A2 l2.length c2, .slice A3 l3.length c3]) (t := 79) ?hr ?_; (case hd => rfl); (case hg => rfl); (case hr => first | (go_simp; done) | (go_simp; rfl)); intro g3 hg w1 hbox hb; have B3 := Aside0.mk hbox; have G3 := Aside0.mk (show w.heap.size ≤ g3 by rw [hg]; exact Nat.le_refl _); clear HB; have HB := Aside0.mk hb; have kz0 := (blk_cell B3.out 0).trans rfl; have kf0 := blk_frozen B3.out 0; have kz1 := (blk_cell B3.out 1).trans rfl; have kf1 := blk_frozen B3.out 1; have kz2 := (blk_cell B3.out 2).trans rfl; have kf2 := blk_frozen B3.out 2; have kz3 := (blk_cell B3.out 3).trans rfl; have kf3 := blk_frozen B3.out 3; clear hg hbox hb) | (go_at_call 68; (with_reducible refine (pandectlaw9_begun.calls true _ rfl).mono ?_); rintro e w2 ⟨rfl, hb⟩; clear kz0 kf0 kz1 kf1 kz2 kf2 kz3 kf3; have u0_ := Aside0.mk (below_step HB.out hb); have u1_ := Aside0.mk (blk_below B3.out hb); clear HB B3; have HB := u0_; have B3 := u1_; clear u0_ u1_; have kz0 := (blk_cell B3.out 0).trans rfl; have kf0 := blk_frozen B3.out 0; have kz1 := (blk_cell B3.out 1).trans rfl; have kf1 := blk_frozen B3.out 1; have kz2 := (blk_cell B3.out 2).trans rfl; have kf2 := blk_frozen B3.out 2; have kz3 := (blk_cell B3.out 3).trans rfl; have kf3 := blk_frozen B3.out 3; clear hb) | (go_at_call 69; (refine (pandectlaw9_Light.calls k a0 A1 c1 l1 A2 c2 l2 A3 c3 l3 _ _ ?s1 ?s2 ?s3 ?s4 ?s5 ?s6 HLT.out).mono ?_); (case s1 => exact Kd.C_below HR1.out HB.out); (case s2 => exact HC1.out); (case s3 => exact Kd.C_below HR2.out HB.out); (case s4 => exact HC2.out); (case s5 => exact Kd.C_below HR3.out HB.out); (case s6 => exact HC3.out); rintro e w3 ⟨rfl, hb⟩; clear kz0 kf0 kz1 kf1 kz2 kf2 kz3 kf3; have u0_ := Aside0.mk (below_step HB.out hb); have u1_ := Aside0.mk (blk_below B3.out hb); clear HB B3; have HB := u0_; have B3 := u1_; clear u0_ u1_; have kz0 := (blk_cell B3.out 0).trans rfl; have kf0 := blk_frozen B3.out 0; have kz1 := (blk_cell B3.out 1).trans rfl; have kf1 := blk_frozen B3.out 1; have kz2 := (blk_cell B3.out 2).trans rfl; have kf2 := blk_frozen B3.out 2; have kz3 := (blk_cell B3.out 3).trans rfl; have kf3 := blk_frozen B3.out 3; clear hb) | (go_at_call 70; (refine (node_Put.calls k a0 A1 c1 l1 A2 c2 l2 A3 c3 l3 _ _ ?s1 ?s2 ?s3 ?s4 ?s5 ?s6 HPUT.out).mono ?_); (case s1 => exact Kd.C_below HR1.out HB.out); (case s2 => exact HC1.out); (case s3 => exact Kd.C_below HR2.out HB.out); (case s4 => exact HC2.out); (case s5 => exact Kd.C_below HR3.out HB.out); (case s6 => exact HC3.out); rintro e w4 ⟨v4, rfl, ho, hb⟩; clear kz0 kf0 kz1 kf1 kz2 kf2 kz3 kf3; have u0_ := Aside0.mk (below_step HB.out hb); have u1_ := Aside0.mk (blk_below B3.out hb); clear HB B3; have HB := u0_; have B3 := u1_; clear u0_ u1_; have kz0 := (blk_cell B3.out 0).trans rfl; have kf0 := blk_frozen B3.out 0; have kz1 := (blk_cell B3.out 1).trans rfl; have kf1 := blk_frozen B3.out 1; have kz2 := (blk_cell B3.out 2).trans rfl; have kf2 := blk_frozen B3.out 2; have kz3 := (blk_cell B3.out 3).trans rfl; have kf3 := blk_frozen B3.out 3; obtain ⟨Ab, cb, e_, hc_, hC_⟩ := Kd.R_reads ho; subst e_; have HCB := Aside0.mk hC_; have HDB := Aside0.mk hc_; obtain ⟨hcut2, hA2, hL2⟩ := print_take_of (P := Try.prog) (Value.int .u8) 0 22 5 .i64 Try.underlying22 HI0.out HSZ.out Ab cb b _ Q0.out Q1.out hc_; rw [← HY2.out] at hcut2 hA2 hL2; have HA2 := Aside0.mk hA2; have HL2 := Aside0.mk hL2; clear hA2 hL2; clear hb ho hc_ hC_) | (go_at_call 71; (refine (node_May.calls k a0 A1 c1 l1 A2 c2 l2 A3 c3 l3 _ _ ?s1 ?s2 ?s3 ?s4 ?s5 ?s6 HMAY.out).mono ?_); (case s1 => exact Kd.C_below HR1.out HB.out); (case s2 => exact HC1.out); (case s3 => exact Kd.C_below HR2.out HB.out); (case s4 => exact HC2.out); (case s5 => exact Kd.C_below HR3.out HB.out); (case s6 => exact HC3.out); rintro e w5 ⟨rfl, hb⟩; clear kz0 kf0 kz1 kf1 kz2 kf2 kz3 kf3; have u0_ := Aside0.mk (below_step HB.out hb); have u1_ := Aside0.mk (blk_below B3.out hb); have u2_ := Aside0.mk (Kd.C_below HCB.out hb); clear HB B3 HCB; have HB := u0_; have B3 := u1_; have HCB := u2_; clear u0_ u1_ u2_; have kz0 := (blk_cell B3.out 0).trans rfl; have kf0 := blk_frozen B3.out 0; have kz1 := (blk_cell B3.out 1).trans rfl; have kf1 := blk_frozen B3.out 1; have kz2 := (blk_cell B3.out 2).trans rfl; have kf2 := blk_frozen B3.out 2; have kz3 := (blk_cell B3.out 3).trans rfl; have kf3 := blk_frozen B3.out 3; clear hb) | (go_at_call 72; (refine (node_Take.yes k Ab cb b _ ?s1 ?s2 a0 l1 l2 l3 HT1.out).mono ?_); (case s1 => exact HCB.out); (case s2 => exact HDB.out); rintro e w6 ⟨D1, d1, D2, d2, D3, d3, rfl, ⟨p1, q1, p2, q2, p3, q3⟩, hb⟩; clear kz0 kf0 kz1 kf1 kz2 kf2 kz3 kf3; have u0_ := Aside0.mk (below_step HB.out hb); have u1_ := Aside0.mk (blk_below B3.out hb); have u2_ := Aside0.mk (Kd.C_below HCB.out hb); clear HB B3 HCB; have HB := u0_; have B3 := u1_; have HCB := u2_; clear u0_ u1_ u2_; have kz0 := (blk_cell B3.out 0).trans rfl; have kf0 := blk_frozen B3.out 0; have kz1 := (blk_cell B3.out 1).trans rfl; have kf1 := blk_frozen B3.out 1; have kz2 := (blk_cell B3.out 2).trans rfl; have kf2 := blk_frozen B3.out 2; have kz3 := (blk_cell B3.out 3).trans rfl; have kf3 := blk_frozen B3.out 3; have E1 := Aside0.mk p1; have E2 := Aside0.mk p2; have E3 := Aside0.mk p3; have F1 := Aside0.mk q1; have F2 := Aside0.mk q2; have F3 := Aside0.mk q3; clear hb p1 p2 p3 q1 q2 q3) | ((with_reducible refine gate_dst (N := 8) rfl ?_); refine box_event ?hg (N := 8) ?hd (cs := #[.bool false, .slice none 0 0, .slice none 0 0, .slice none 0 0]) (t := 79) ?hr ?_; (case hd => rfl); (case hg => rfl); (case hr => first | (go_simp; done) | (go_simp; rfl)); intro g8 hg w7 hbox hb; have B8 := Aside0.mk hbox; have G8 := Aside0.mk (show w.heap.size ≤ g8 by rw [hg]; exact HB.out.size); have N8 := Aside0.mk (show g3 ≠ g8 by have := blk_lt B3.out; omega); have P8 := Aside0.mk (show w6.heap.size ≤ g8 by rw [hg]; exact Nat.le_refl _); clear kz0 kf0 kz1 kf1 kz2 kf2 kz3 kf3; have HB8 := Aside0.mk hb; have u0_ := Aside0.mk (below_step HB.out hb); have u1_ := Aside0.mk (blk_below B3.out hb); clear HB B3; have HB := u0_; have B3 := u1_; clear u0_ u1_; have kz0 := (blk_cell B3.out 0).trans rfl; have kf0 := blk_frozen B3.out 0; have kz1 := (blk_cell B3.out 1).trans rfl; have kf1 := blk_frozen B3.out 1; have kz2 := (blk_cell B3.out 2).trans rfl; have kf2 := blk_frozen B3.out 2; have kz3 := (blk_cell B3.out 3).trans rfl; have kf3 := blk_frozen B3.out 3; have ez0 := (blk_cell B8.out 0).trans rfl; have ef0 := blk_frozen B8.out 0; have ez1 := (blk_cell B8.out 1).trans rfl; have ef1 := blk_frozen B8.out 1; have ez2 := (blk_cell B8.out 2).trans rfl; have ef2 := blk_frozen B8.out 2; have ez3 := (blk_cell B8.out 3).trans rfl; have ef3 := blk_frozen B8.out 3; clear hg hbox hb))
  have n0_ := Aside0.mk (show ((((w7.setCell ⟨g8, 0, none⟩ (.bool a0)).setCell ⟨g8, 1, none⟩ (.slice D1 l1.length d1)).setCell ⟨g8, 2, none⟩ (.slice D2 l2.length d2)).setCell ⟨g8, 3, none⟩ (.slice D3 l3.length d3)).heap[g3]? = some (.cells #[.bool a0, .slice A1 l1.length c1, .slice A2 l2.length c2, .slice A3 l3.length c3] 79 (0, 0)) by refine blk_far ?_ N8.out _; refine blk_far ?_ N8.out _; refine blk_far ?_ N8.out _; refine blk_far ?_ N8.out _; exact B3.out)
  have n1_ := Aside0.mk (show ((((w7.setCell ⟨g8, 0, none⟩ (.bool a0)).setCell ⟨g8, 1, none⟩ (.slice D1 l1.length d1)).setCell ⟨g8, 2, none⟩ (.slice D2 l2.length d2)).setCell ⟨g8, 3, none⟩ (.slice D3 l3.length d3)).heap[g8]? = some (.cells #[.bool a0, .slice D1 l1.length d1, .slice D2 l2.length d2, .slice D3 l3.length d3] 79 (0, 0)) by refine blk_put (cs := #[.bool a0, .slice D1 l1.length d1, .slice D2 l2.length d2, .slice none 0 0]) ?_ 3 _ rfl; refine blk_put (cs := #[.bool a0, .slice D1 l1.length d1, .slice none 0 0, .slice none 0 0]) ?_ 2 _ rfl; refine blk_put (cs := #[.bool a0, .slice none 0 0, .slice none 0 0, .slice none 0 0]) ?_ 1 _ rfl; refine blk_put (cs := #[.bool false, .slice none 0 0, .slice none 0 0, .slice none 0 0]) ?_ 0 _ rfl; exact B8.out)
  have nb_ := Aside0.mk (show Below w.heap.size w ((((w7.setCell ⟨g8, 0, none⟩ (.bool a0)).setCell ⟨g8, 1, none⟩ (.slice D1 l1.length d1)).setCell ⟨g8, 2, none⟩ (.slice D2 l2.length d2)).setCell ⟨g8, 3, none⟩ (.slice D3 l3.length d3)) by repeat (with_reducible first | exact HB.out | refine below_set ?_ G8.out))
  have n6_ := Aside0.mk (show Below w6.heap.size w6 ((((w7.setCell ⟨g8, 0, none⟩ (.bool a0)).setCell ⟨g8, 1, none⟩ (.slice D1 l1.length d1)).setCell ⟨g8, 2, none⟩ (.slice D2 l2.length d2)).setCell ⟨g8, 3, none⟩ (.slice D3 l3.length d3)) by repeat (with_reducible first | exact HB8.out | refine below_set ?_ P8.out))
  clear kz0 kf0 kz1 kf1 kz2 kf2 kz3 kf3 ez0 ef0 ez1 ef1 ez2 ef2 ez3 ef3
  clear B3 B8 HB HB8 N8 G8 P8 G3
  obtain ⟨w8, hW8⟩ : ∃ W, W = ((((w7.setCell ⟨g8, 0, none⟩ (.bool a0)).setCell ⟨g8, 1, none⟩ (.slice D1 l1.length d1)).setCell ⟨g8, 2, none⟩ (.slice D2 l2.length d2)).setCell ⟨g8, 3, none⟩ (.slice D3 l3.length d3)) := ⟨_, rfl⟩
  rw [← hW8] at n0_ n1_ nb_ n6_ ⊢
  clear hW8
  have u0_ := Aside0.mk (Kd.C_below HR1.out nb_.out)
  have u1_ := Aside0.mk (Kd.C_below HR2.out nb_.out)
  have u2_ := Aside0.mk (Kd.C_below HR3.out nb_.out)
  have u3_ := Aside0.mk (Kd.C_below HCB.out n6_.out)
  have u4_ := Aside0.mk (Kd.C_below E1.out n6_.out)
  have u5_ := Aside0.mk (Kd.C_below E2.out n6_.out)
  have u6_ := Aside0.mk (Kd.C_below E3.out n6_.out)
  clear HR1 HR2 HR3 HCB E1 E2 E3
  have HR1 := u0_
  have HR2 := u1_
  have HR3 := u2_
  have HCB := u3_
  have E1 := u4_
  have E2 := u5_
  have E3 := u6_
  clear u0_ u1_ u2_ u3_ u4_ u5_ u6_
  have B3 := n0_
  have B8 := n1_
  have HA := nb_
  clear n0_ n1_ nb_ n6_
  have HB := Aside0.mk (Below.refl w8.heap.size w8)
  go_upto_region 12 with (first | (go_at_call 72; (refine (node_Take.no k Ab cb y2 _ ?s1 ?s2 HT2.out).mono ?_); (case s1 => exact Kd.C_of_reads (h1 := fun _ => rfl) (HA2.out _ (Kd.reads_of_C (Kd.C_below HCB.out (by repeat (with_reducible first | exact HB.out | apply below_alloc | apply pw_below_drewN | refine below_set ?_ G10.out | refine below_set ?_ G12.out)))))); (case s2 => exact HL2.out); rintro e w9 ⟨rfl, hb⟩; have u0_ := Aside0.mk (below_step (by repeat (with_reducible first | exact HB.out | apply below_alloc | apply pw_below_drewN | refine below_set ?_ G10.out | refine below_set ?_ G12.out)) hb); clear HB; have HB := u0_; clear u0_; clear hb) | ((with_reducible refine gate_dst (N := 10) rfl ?_); refine box_event ?hg (N := 10) ?hd (cs := #[.bool false, .slice none 0 0, .slice none 0 0, .slice none 0 0]) (t := 79) ?hr ?_; (case hd => rfl); (case hg => rfl); (case hr => first | (go_simp; done) | (go_simp; rfl)); intro g10 hg w10 hbox hb; have G10 := Aside0.mk (show w8.heap.size ≤ g10 by rw [hg]; exact (show Below w8.heap.size w8 _ from (by repeat (with_reducible first | exact HB.out | apply below_alloc | apply pw_below_drewN | refine below_set ?_ G10.out | refine below_set ?_ G12.out))).size); have B10 := Aside0.mk hbox; have u0_ := Aside0.mk (below_step (by repeat (with_reducible first | exact HB.out | apply below_alloc | apply pw_below_drewN | refine below_set ?_ G10.out | refine below_set ?_ G12.out)) hb); clear HB; have HB := u0_; clear u0_; have f10z0 := (blk_cell B10.out 0).trans rfl; have f10f0 := blk_frozen B10.out 0; have f10z1 := (blk_cell B10.out 1).trans rfl; have f10f1 := blk_frozen B10.out 1; have f10z2 := (blk_cell B10.out 2).trans rfl; have f10f2 := blk_frozen B10.out 2; have f10z3 := (blk_cell B10.out 3).trans rfl; have f10f3 := blk_frozen B10.out 3; clear hg hbox hb))
  go_upto_region 13 with (first | ((with_reducible refine gate_dst (N := 52) rfl ?_); refine Kd.R_lit (Kd.int .u8) (w0 := w8) w8.heap.size 5 ?hg (N := 52) ?hd (xs := ([] : List Int)) (inner := []) (ok := fun k => w8.heap.size ≤ k) (okp := fun k => w8.heap.size ≤ k) ?hr ?hp (fun _ hk => hk) (show Below w8.heap.size w8 _ from (by repeat (with_reducible first | exact HB.out | apply below_alloc | apply pw_below_drewN | refine below_set ?_ G10.out | refine below_set ?_ G12.out))).size (by repeat (with_reducible first | exact HB.out | apply below_alloc | apply pw_below_drewN | refine below_set ?_ G10.out | refine below_set ?_ G12.out)) (show Below w8.heap.size w8 _ from (by repeat (with_reducible first | exact HB.out | apply below_alloc | apply pw_below_drewN | refine below_set ?_ G10.out | refine below_set ?_ G12.out))).size (by simp) ?_; (case hd => rfl); (case hg => rfl); (case hr => first | (go_simp; done) | (go_simp; rfl)); (case hp => exact (Reps.none _ _)); intro v52 w11 ho hb hg_ hnew_; have HO0 := Aside0.mk ho; clear HB; have HB := Aside0.mk hb; clear hg_ hnew_ ho hb) | ((with_reducible refine gate_builtin (b := .append) (xs := #[.tmp 52, .tmp 53]) rfl ?_); at_builtin; refine Kd.R_append_rows (Kd.int .u8) (w0 := w8) w8.heap.size rfl (.tmp 52) (.tmp 53) 22 5 (.int .u8 0) 1 rfl Try.underlying22 info5 rfl (by decide) (by omega) v52 [] b _ _ _ (fun k => w8.heap.size ≤ k) (fun _ => False) rfl rfl HO0.out (Kd.C_below HCB.out HB.out) (fun _ _ h => h) (fun _ h => h.elim) (fun _ hk => Nat.le_trans HB.out.size hk) HB.out HB.out.size (by have := HHI.out; simp only [List.length_nil]; omega) ?_; intro v54 w12 ho hb hg hat; have HO1 := Aside0.mk (show Kd.R (Kd.int .u8) 5 w12 w8.heap.size (fun k => w8.heap.size ≤ k) v54 b from ho); clear HB; have HB := Aside0.mk hb; clear HO0 ho hb hg hat) | ((with_reducible refine gate_builtin (b := .append) (xs := #[.tmp 54, .tmp 56]) rfl ?_); at_builtin; refine Kd.R_append (Kd.int .u8) (w0 := w8) w8.heap.size rfl (.tmp 54) (.tmp 56) 22 5 (.int .u8 0) 1 rfl Try.underlying22 info5 rfl (by decide) (by omega) v54 b m [.int .u8 m] (fun k => w8.heap.size ≤ k) (fun _ => False) rfl rfl ?aP (fun _ hk => hk.elim) ?aF ?aO ?aB ?aS ?aL ?_; (case aP => exact rfl); (case aB => exact (by repeat (with_reducible first | exact HB.out | apply below_alloc | apply pw_below_drewN | refine below_set ?_ G10.out | refine below_set ?_ G12.out))); (case aF => exact (fun _ hk => Nat.le_trans HB.out.size (Nat.le_trans (by first | exact Nat.le_refl _ | exact Nat.le_succ _ | (simp only [World.alloc_size]; omega)) hk))); (case aO => exact (by (with_reducible repeat (first | apply Kd.R_alloc | apply Kd.R_drewN | apply Kd.R_drew)); exact HO1.out)); (case aS => exact (show Below w8.heap.size w8 _ from (by repeat (with_reducible first | exact HB.out | apply below_alloc | apply pw_below_drewN | refine below_set ?_ G10.out | refine below_set ?_ G12.out))).size); (case aL => have := HHI.out; omega); intro v57 w13 ho hb hg hat; rw [← HY3.out] at ho; have HO2 := Aside0.mk ho; obtain ⟨A57, c57, e57, hc57, hC57⟩ := Kd.R_reads ho; subst e57; have HC57 := Aside0.mk hc57; clear HB; have HB := Aside0.mk hb; clear HO1 ho hb hg hat hc57 hC57) | (go_at_call 72; (refine (node_Take.no k A57 c57 y3 _ ?s1 ?s2 HT3.out).mono ?_); (case s1 => exact (Kd.R_reads' HO2.out).2.2); (case s2 => exact HC57.out); rintro e w14 ⟨rfl, hb⟩; have u0_ := Aside0.mk (below_step (by repeat (with_reducible first | exact HB.out | apply below_alloc | apply pw_below_drewN | refine below_set ?_ G10.out | refine below_set ?_ G12.out)) hb); clear HB; have HB := u0_; clear u0_; clear hb HO2) | ((with_reducible refine gate_dst (N := 12) rfl ?_); refine box_event ?hg (N := 12) ?hd (cs := #[.bool false, .slice none 0 0, .slice none 0 0, .slice none 0 0]) (t := 79) ?hr ?_; (case hd => rfl); (case hg => rfl); (case hr => first | (go_simp; done) | (go_simp; rfl)); intro g12 hg w15 hbox hb; have G12 := Aside0.mk (show w8.heap.size ≤ g12 by rw [hg]; exact (show Below w8.heap.size w8 _ from (by repeat (with_reducible first | exact HB.out | apply below_alloc | apply pw_below_drewN | refine below_set ?_ G10.out | refine below_set ?_ G12.out))).size); have B12 := Aside0.mk hbox; have u0_ := Aside0.mk (below_step (by repeat (with_reducible first | exact HB.out | apply below_alloc | apply pw_below_drewN | refine below_set ?_ G10.out | refine below_set ?_ G12.out)) hb); clear HB; have HB := u0_; clear u0_; have f12z0 := (blk_cell B12.out 0).trans rfl; have f12f0 := blk_frozen B12.out 0; have f12z1 := (blk_cell B12.out 1).trans rfl; have f12f1 := blk_frozen B12.out 1; have f12z2 := (blk_cell B12.out 2).trans rfl; have f12f2 := blk_frozen B12.out 2; have f12z3 := (blk_cell B12.out 3).trans rfl; have f12f3 := blk_frozen B12.out 3; clear hg hbox hb))
  have B3' := Aside0.mk (blk_below B3.out (by repeat (with_reducible first | exact HB.out | apply below_alloc | apply pw_below_drewN | refine below_set ?_ G10.out | refine below_set ?_ G12.out)))
  have B8' := Aside0.mk (blk_below B8.out (by repeat (with_reducible first | exact HB.out | apply below_alloc | apply pw_below_drewN | refine below_set ?_ G10.out | refine below_set ?_ G12.out)))
  have n0_ := Aside0.mk (show Below w8.heap.size w8 ((((w15.setCell ⟨g12, 0, none⟩ (.bool false)).setCell ⟨g12, 1, none⟩ (.slice none 0 0)).setCell ⟨g12, 2, none⟩ (.slice none 0 0)).setCell ⟨g12, 3, none⟩ (.slice none 0 0)) from (by repeat (with_reducible first | exact HB.out | apply below_alloc | apply pw_below_drewN | refine below_set ?_ G10.out | refine below_set ?_ G12.out)))
  obtain ⟨w16, hW⟩ : ∃ W, W = ((((w15.setCell ⟨g12, 0, none⟩ (.bool false)).setCell ⟨g12, 1, none⟩ (.slice none 0 0)).setCell ⟨g12, 2, none⟩ (.slice none 0 0)).setCell ⟨g12, 3, none⟩ (.slice none 0 0)) := ⟨_, rfl⟩
  rw [← hW] at n0_ ⊢
  clear hW HB
  try clear fz0 ff0
  have HB := n0_
  clear n0_
  have b3_ := blk_below B3.out HB.out
  have b8_ := blk_below B8.out HB.out
  have k3z0 := (blk_cell b3_ 0).trans rfl
  have k3f0 := blk_frozen b3_ 0
  have k3z1 := (blk_cell b3_ 1).trans rfl
  have k3f1 := blk_frozen b3_ 1
  have k3z2 := (blk_cell b3_ 2).trans rfl
  have k3f2 := blk_frozen b3_ 2
  have k3z3 := (blk_cell b3_ 3).trans rfl
  have k3f3 := blk_frozen b3_ 3
  have k8z0 := (blk_cell b8_ 0).trans rfl
  have k8f0 := blk_frozen b8_ 0
  have k8z1 := (blk_cell b8_ 1).trans rfl
  have k8f1 := blk_frozen b8_ 1
  have k8z2 := (blk_cell b8_ 2).trans rfl
  have k8f2 := blk_frozen b8_ 2
  have k8z3 := (blk_cell b8_ 3).trans rfl
  have k8f3 := blk_frozen b8_ 3
  clear b3_ b8_
  go_wp2_with (first | (go_at_call 73; (refine (node_Same_self k a0 A1 c1 l1 A2 c2 l2 A3 c3 l3 D1 d1 D2 d2 D3 d3 _ ?s1 ?s2 ?s3 ?s4 ?s5 ?s6 ?s7 ?s8 HRF.out).mono ?_); (case s1 => exact Kd.C_below HR1.out (by repeat (with_reducible first | exact HB.out | apply below_alloc | apply pw_below_drewN | refine below_set ?_ G10.out | refine below_set ?_ G12.out))); (case s2 => exact Kd.C_below HR2.out (by repeat (with_reducible first | exact HB.out | apply below_alloc | apply pw_below_drewN | refine below_set ?_ G10.out | refine below_set ?_ G12.out))); (case s3 => exact Kd.C_below HR3.out (by repeat (with_reducible first | exact HB.out | apply below_alloc | apply pw_below_drewN | refine below_set ?_ G10.out | refine below_set ?_ G12.out))); (case s4 => exact HC3.out); (case s5 => exact Kd.C_below E1.out (by repeat (with_reducible first | exact HB.out | apply below_alloc | apply pw_below_drewN | refine below_set ?_ G10.out | refine below_set ?_ G12.out))); (case s6 => exact Kd.C_below E2.out (by repeat (with_reducible first | exact HB.out | apply below_alloc | apply pw_below_drewN | refine below_set ?_ G10.out | refine below_set ?_ G12.out))); (case s7 => exact Kd.C_below E3.out (by repeat (with_reducible first | exact HB.out | apply below_alloc | apply pw_below_drewN | refine below_set ?_ G10.out | refine below_set ?_ G12.out))); (case s8 => exact F3.out); rintro e w17 ⟨rfl, hb⟩; have u0_ := Aside0.mk (below_step (by repeat (with_reducible first | exact HB.out | apply below_alloc | apply pw_below_drewN | refine below_set ?_ G10.out | refine below_set ?_ G12.out)) hb); clear HB; have HB := u0_; clear u0_; clear hb))
  go_ret
  exact ⟨rfl, below_step HA.out HB.out⟩
end Go.Proofs.Ytfgeffmlfbeodaa.PNodeBack
