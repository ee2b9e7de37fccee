/- Written by a program of this workplace. -/
import Derived.Test.YtfgeffmlfbeodaaPHeadAllx0
import Derived.Test.YtfgeffmlfbeodaaPHeadAllx7
import Derived.Test.YtfgeffmlfbeodaaPHeadAllx9
namespace Go.Proofs.Ytfgeffmlfbeodaa.PHeadAll
open Go.RowKit Go.Proofs.YtfgeffmlfbeodaaW.PrintWords Go.Proofs.YtfgeffmlfbeodaaW.PrintLast Go.Proofs.YtfgeffmlfbeodaaW.PrintMore Go.Proofs.Ytfgeffmlfbeodaa.Own
attribute [local go_sem] max2_int min2_int max_two min_two max_three min_three max_four min_four   -- for this text's walks alone
set_option linter.unusedVariables false
set_option linter.unusedSimpArgs false

/-! ### pandectref6_TakeDone: function 33 -/
def pandectref6_TakeDone.f (k : Nat) (l0 : List Int) : Option (Int × Int × Bool × Int) := if (l0.length : Int) = 10 then (pandectref2_Num.f k (l0.take 8)).bind fun t1 => (pandectref2_Num.f k (l0.drop 8)).bind fun t2 => (pandectref6_PutDone.f k (wrap64 t1) (wrap64 t2) (false)).bind fun p => if ((strOfNums p).toList == (strOfNums l0).toList) = true then some (wrap64 t1, wrap64 t2, false, 0) else some (0, 0, false, 2) else some (0, 0, false, 2)
theorem pandectref6_TakeDone.mono : ∀ a0 k, LeO (pandectref6_TakeDone.f k a0) (pandectref6_TakeDone.f (k + 1) a0) := by
 intro a0 k
 unfold pandectref6_TakeDone.f
 exact LeO.ite (LeO.bind (pandectref2_Num.mono _ _) fun _ => LeO.bind (pandectref2_Num.mono _ _) fun _ => LeO.bind (pandectref6_PutDone.mono _ _ _ _) fun _ => LeO.refl _) (LeO.refl _)
open Go.Proofs.Ytfgeffmlfbeodaa.RG in
set_option linter.unusedSimpArgs false in
set_option maxHeartbeats 8000000 in
set_option maxRecDepth 100000 in
theorem pandectref6_TakeDone.calls (k : Nat) (A0 : Option Addr) (c0 : Nat) (l0 : List Int) (r1 r2 : Int) (r3 : Bool) (r4 : Int) (w : World) (hr0 : Kd.C (Kd.int .u8) w A0 l0.length l0) (hc0 : l0.length ≤ c0) (h : pandectref6_TakeDone.f k l0 = some (r1, r2, r3, r4)) :
  Calls Try.prog 33 #[.slice A0 l0.length c0] w fun e w' => e = .returned (.tuple #[.agg #[.int .i64 r1, .int .i64 r2, .bool r3], .int .i64 r4]) ∧ Below w.heap.size w w' := by
 have hu_ := Try.underlying41
 have HB := Aside0.mk (Below.refl w.heap.size w)
 have HR0 := Aside0.mk hr0
 have HC0 := Aside0.mk hc0
 unfold pandectref6_TakeDone.f at h
 by_cases c0_ : (l0.length : Int) = 10
 ·
  rw [if_pos c0_] at h
  have hlen : l0.length = 10 := by omega
  have b0 : ((l0.length : Int) == 10) = true := by rw [c0_]; rfl
  have b1 : ((l0.length : Int) != 10) = false := by rw [c0_]; rfl
  have b2 : (l0.length == 10) = true := by rw [hlen]; rfl
  have b3 : (l0.length != 10) = false := by rw [hlen]; rfl
  obtain ⟨t1, h1, hn⟩ := Option.bind_eq_some_iff.mp h
  clear h
  obtain ⟨t2, h2, h⟩ := Option.bind_eq_some_iff.mp hn
  clear hn
  obtain ⟨p, h3, hn⟩ := Option.bind_eq_some_iff.mp h
  clear h
  obtain ⟨i0, hi0, _, hsz, _⟩ := info_parts info5
  obtain ⟨y1, hy1⟩ : ∃ y : List Int, y = l0.take 8 := ⟨_, rfl⟩
  obtain ⟨y2, hy2⟩ : ∃ y : List Int, y = l0.drop 8 := ⟨_, rfl⟩
  rw [← hy1] at h1
  rw [← hy2] at h2
  obtain ⟨hcut1, hA1, hC1⟩ := print_take_of (P := Try.prog) (Value.int .u8) 0 22 5 .i64 Try.underlying22 hi0 hsz A0 c0 l0 8 (by omega) (by omega) hc0
  obtain ⟨A2, hcut2, hA2, hC2⟩ := print_drop_of (P := Try.prog) (Value.int .u8) 0 22 5 .i64 Try.underlying22 hi0 hsz A0 c0 l0 8 (by omega) (by omega) hc0
  simp only [Int.reduceToNat] at hcut1 hA1 hC1 hcut2 hA2 hC2
  rw [← hy1] at hcut1 hA1 hC1
  rw [← hy2] at hcut2 hA2 hC2
  have HR1 : Aside0 (Kd.C (Kd.int .u8) w A0 y1.length y1) := Aside0.mk (Kd.C_of_reads (h1 := fun _ => rfl) (hA1 _ (Kd.reads_of_C hr0)))
  have HR2 : Aside0 (Kd.C (Kd.int .u8) w A2 y2.length y2) := Aside0.mk (Kd.C_of_reads (h1 := fun _ => rfl) (hA2 _ (Kd.reads_of_C hr0)))
  have HL1 := Aside0.mk hC1
  have HL2 := Aside0.mk hC2
  obtain ⟨ad, ead, hx⟩ := Kd.at_int hr0 8 (by omega) (by omega)
  cases ead
  simp only [show (8 : Int).toNat = 8 from rfl, Nat.reduceMul, Nat.reduceEqDiff, Go.Addr.add, ↓reduceIte] at hx
  have HX := Aside0.mk hx
  have p16 : (0 ≤ (8 : Int)) = True := eq_true (by omega)
  have q16 : ((8 : Int) < (l0.length : Int)) = True := eq_true (by omega)
  have n16 : (8 < l0.length) = True := eq_true (by omega)
  have A1_ := Aside0.mk h1
  have A2_ := Aside0.mk h2
  have A3_ := Aside0.mk h3
  clear hA1 hA2 hC1 hC2 h1 h2 h3 hy1 hy2 hx hi0 hsz hr0 hc0 c0_ hlen
  generalize hq : ((strOfNums p).toList == (strOfNums l0).toList) = q at hn
  have hq2 : ((strOfNums p).toList != (strOfNums l0).toList) = !q := by rw [← hq]; rfl
  cases q
  ·
   rw [if_neg (by decide)] at hn
   simp only [Option.some.injEq, Prod.mk.injEq] at hn
   obtain ⟨rfl, rfl, rfl, rfl⟩ := hn
   simp only [Bool.not_false, Bool.not_true] at hq2
   go_enter Try.func33, Try.ntmps33
   go_wp2_with (first | ((with_reducible refine gate_dst (N := 2) rfl ?_); refine box_event ?hg (N := 2) ?hd (cs := #[.int .i64 0, .int .i64 0, .bool false]) (t := 41) ?hr ?_; (case hd => rfl); (case hg => rfl); (case hr => first | (go_simp; done) | (go_simp; rfl)); intro gb hg w1 hbox hb; have BK := Aside0.mk hbox; have GE := Aside0.mk (show w.heap.size ≤ gb by rw [hg]; exact Nat.le_refl _); clear HB; have HB := Aside0.mk hb; clear hg hbox hb))
   refine RG.regionT 26 10 (fun W => Below w.heap.size w W ∧ W.heap[gb]? = some (.cells #[.int .i64 0, .int .i64 0, .bool false] 41 (0, 0))) [Sp.exact ?_, Sp.exact ?_, Sp.exact ?_, Sp.exact ?_, Sp.exact ?_, Sp.exact ?_, Sp.exact ?_, Sp.exact ?_, Sp.exact ?_, Sp.ex (fun v W => ∃ g, v = .pointer (some ⟨g, 0, none⟩) ∧ w.heap.size ≤ g ∧ W.heap[g]? = some (.cells #[.int .i64 0, .int .i64 0, .bool false] 41 (0, 0)) ∧ gb ≠ g)] (by kernel_rfl) (by kernel_rfl) (by kernel_rfl) rfl (fun _ _ hb h => ⟨below_then h.1 h.1.size hb, blk_below h.2 hb⟩) (by exact ⟨fun v W W1 hb h => by obtain ⟨g, e, h1, h2, h3⟩ := h; exact ⟨g, e, h1, blk_below h2 hb, h3⟩, trivial⟩) (⟨below_drew1 HB.out, blk_drew BK.out⟩) ?_
   rotate_right
   simp only [List.toList_toArray, List.take_succ_cons, List.take_zero, List.drop_succ_cons, List.drop_zero]
   refine rgW.just (b' := ?_) (Or.inl ⟨by rfl, ?_⟩) ?_ ?_; rotate_left; (focus (intro w'; go_simp; with_reducible rfl)); (focus (simp only [Act.put, List.setIfInBounds_toArray, List.set_cons_zero, List.set_cons_succ]; try rfl))
   refine rgW.just (b' := ?_) (Or.inl ⟨by rfl, ?_⟩) ?_ ?_; rotate_left; (focus (intro w'; go_simp; with_reducible rfl)); (focus (simp only [Act.put, List.setIfInBounds_toArray, List.set_cons_zero, List.set_cons_succ]; try rfl))
   refine rgW.callx (b' := ?_) (d := .int .u64 t1) #[.slice (some ad) y1.length c0] Try.func86 (by kernel_rfl) rfl (by rfl) rfl (by (try simp only [List.map_toArray, List.map_cons, List.map_nil]); first | done | rfl) (fun W hS hK => ?_) ?_ ?_ ?_
   rotate_left
   ·
    with_reducible refine (pandectref2_Num.calls k _ _ y1 t1 W (Kd.C_below HR1.out hS.1) HL1.out A1_.out).mono ?_
    rintro e W' ⟨rfl, hd⟩
    exact ⟨rfl, hd.below⟩
   ·
    rfl
   ·
    simp only [Act.put, List.setIfInBounds_toArray, List.set_cons_zero, List.set_cons_succ]
    try rfl
   refine rgW.just (b' := ?_) (Or.inl ⟨by rfl, ?_⟩) ?_ ?_; rotate_left; (focus (intro w'; go_simp; with_reducible rfl)); (focus (simp only [Act.put, List.setIfInBounds_toArray, List.set_cons_zero, List.set_cons_succ]; try rfl))
   refine rgW.just (b' := ?_) (Or.inl ⟨by rfl, ?_⟩) ?_ ?_; rotate_left; (focus (intro w'; go_simp; with_reducible rfl)); (focus (simp only [Act.put, List.setIfInBounds_toArray, List.set_cons_zero, List.set_cons_succ]; try rfl))
   refine rgW.just (b' := ?_) (Or.inl ⟨by rfl, ?_⟩) ?_ ?_; rotate_left; (focus (intro w'; go_simp; with_reducible rfl)); (focus (simp only [Act.put, List.setIfInBounds_toArray, List.set_cons_zero, List.set_cons_succ]; try rfl))
   refine rgW.callx (b' := ?_) (d := .int .u64 t2) #[.slice A2 y2.length (c0 - 8)] Try.func86 (by kernel_rfl) rfl (by rfl) rfl (by (try simp only [List.map_toArray, List.map_cons, List.map_nil]); first | done | rfl) (fun W hS hK => ?_) ?_ ?_ ?_
   rotate_left
   ·
    with_reducible refine (pandectref2_Num.calls k _ _ y2 t2 W (Kd.C_below HR2.out hS.1) HL2.out A2_.out).mono ?_
    rintro e W' ⟨rfl, hd⟩
    exact ⟨rfl, hd.below⟩
   ·
    rfl
   ·
    simp only [Act.put, List.setIfInBounds_toArray, List.set_cons_zero, List.set_cons_succ]
    try rfl
   refine rgW.just (b' := ?_) (Or.inl ⟨by rfl, ?_⟩) ?_ ?_; rotate_left; (focus (intro w'; go_simp; with_reducible rfl)); (focus (simp only [Act.put, List.setIfInBounds_toArray, List.set_cons_zero, List.set_cons_succ]; try rfl))
   refine rgW.just (b' := ?_) (Or.inl ⟨by rfl, ?_⟩) ?_ ?_; rotate_left; (focus (intro w'; go_simp; with_reducible rfl)); (focus (simp only [Act.put, List.setIfInBounds_toArray, List.set_cons_zero, List.set_cons_succ]; try rfl))
   refine rgW.told (b' := ?_) ?_ (fun W hS hK K hKK => ?_) ?_
   rotate_left
   ·
    intro v
    simp only [Act.put, List.setIfInBounds_toArray, List.set_cons_zero, List.set_cons_succ]
    exact rfl
   ·
    ((refine box_step ?hg (N := 4) ?hd (cs := #[.int .i64 0, .int .i64 0, .bool false]) (t := 41) ?hr ?_); (case hd => rfl); (case hg => rfl); (case hr => first | (go_simp; done) | (go_simp; rfl)); intro g2 hg W2 hbox hb; exact hKK _ _ ⟨g2, rfl, by rw [hg]; exact hS.1.size, hbox, by rw [hg]; exact Nat.ne_of_lt (blk_lt hS.2)⟩ hb)
   intro v_
   intro W hS hA
   obtain ⟨⟨g2, e_, hge, hblk, hne⟩, _⟩ := hA
   subst e_
   clear HB BK
   have HB := Aside0.mk hS.1
   have BK := Aside0.mk hS.2
   have BK2 := Aside0.mk hblk
   have GE2 := Aside0.mk hge
   have NE := Aside0.mk hne
   clear hS hge hblk hne
   have yz0 := (blk_cell BK2.out 0).trans rfl
   have yz1 := (blk_cell BK2.out 1).trans rfl
   have yz2 := (blk_cell BK2.out 2).trans rfl
   have yf0 := blk_frozen BK2.out 0
   have yf1 := blk_frozen BK2.out 1
   have yf2 := blk_frozen BK2.out 2
   go_wp2_with (fail)
   refine RG.region 26 (fun W => Below w.heap.size w W ∧ W.heap[gb]? = some (.cells #[.int .i64 0, .int .i64 0, .bool false] 41 (0, 0)) ∧ W.heap[g2]? = some (.cells #[.int .i64 (wrap64 t1), .int .i64 (wrap64 t2), .bool false] 41 (0, 0))) [Sp.exact ?_, Sp.ex (Row p), Sp.exact ?_, Sp.exact ?_, Sp.exact ?_, Sp.exact ?_] (by kernel_rfl) (by kernel_rfl) rfl (fun _ _ hb h => ⟨below_then h.1 h.1.size hb, blk_below h.2.1 hb, blk_below h.2.2 hb⟩) (by exact ⟨fun _ _ _ hb h => Row.below h hb, trivial⟩) (⟨below_drew1 (by repeat (with_reducible first | exact HB.out | refine below_set ?_ GE2.out)), blk_drew (by refine blk_far ?_ NE.out _; refine blk_far ?_ NE.out _; refine blk_far ?_ NE.out _; exact BK.out), blk_drew (by refine blk_put (cs := #[.int .i64 (wrap64 t1), .int .i64 (wrap64 t2), .bool false]) ?_ 2 _ rfl; refine blk_put (cs := #[.int .i64 (wrap64 t1), .int .i64 0, .bool false]) ?_ 1 _ rfl; refine blk_put (cs := #[.int .i64 0, .int .i64 0, .bool false]) ?_ 0 _ rfl; exact BK2.out)⟩) ?_
   rotate_right
   refine rgW.read (b' := ?_) (by rfl) ?_ ?_ ?_; rotate_left; (focus (intro W hS hK; have z0_ := (blk_cell hS.2.2 0).trans rfl; have z1_ := (blk_cell hS.2.2 1).trans rfl; have z2_ := (blk_cell hS.2.2 2).trans rfl; go_simp; with_reducible rfl)); (focus (simp only [Act.put, List.setIfInBounds_toArray, List.set_cons_zero, List.set_cons_succ]; try rfl))
   refine rgW.call (b' := ?_) #[.agg #[.int .i64 (wrap64 t1), .int .i64 (wrap64 t2), .bool false]] Try.func41 (by kernel_rfl) rfl (by rfl) rfl (by (try simp only [List.map_toArray, List.map_cons, List.map_nil]); first | done | rfl) (fun W hS hK => ?_) ?_ ?_
   rotate_left
   ·
    with_reducible refine (pandectref6_PutDone.calls k _ _ _ p W A3_.out).mono ?_
    rintro e W' ⟨v, rfl, ho, hb⟩
    exact ⟨v, rfl, .of_R ho, hb⟩
   ·
    intro v
    simp only [Act.put, List.setIfInBounds_toArray, List.set_cons_zero, List.set_cons_succ]
    exact rfl
   intro v_
   refine rgW.conv (b' := ?_) (xs := p) (by rfl) rfl (by rfl) Try.underlying22 Try.underlying5 Try.underlying9 ?_ ?_ ?_ ?_; rotate_left; (focus rfl); (focus (intro W hS hK; exact hK.1 (by kernel_rfl))); (focus (simp only [Act.put, List.setIfInBounds_toArray, List.set_cons_zero, List.set_cons_succ]; try rfl))
   refine rgW.just (b' := ?_) (Or.inl ⟨by rfl, ?_⟩) ?_ ?_; rotate_left; (focus (intro w'; go_simp; with_reducible rfl)); (focus (simp only [Act.put, List.setIfInBounds_toArray, List.set_cons_zero, List.set_cons_succ]; try rfl))
   refine rgW.conv (b' := ?_) (xs := l0) (by rfl) rfl (by rfl) Try.underlying22 Try.underlying5 Try.underlying9 ?_ ?_ ?_ ?_; rotate_left; (focus rfl); (focus (intro W hS hK; exact ⟨_, _, rfl, HC0.out, Kd.C_below HR0.out hS.1⟩)); (focus (simp only [Act.put, List.setIfInBounds_toArray, List.set_cons_zero, List.set_cons_succ]; try rfl))
   refine rgW.just (b' := ?_) (Or.inl ⟨by rfl, ?_⟩) ?_ ?_; rotate_left; (focus (intro w'; go_simp; with_reducible rfl)); (focus (simp only [Act.put, List.setIfInBounds_toArray, List.set_cons_zero, List.set_cons_succ]; try rfl))
   intro W hS hA
   clear hA yz0 yf0 yz1 yf1 yz2 yf2 HB BK BK2
   have HB := Aside0.mk hS.1
   have BK := Aside0.mk hS.2.1
   have BK2 := Aside0.mk hS.2.2
   clear hS
   have zaz0 := (blk_cell BK.out 0).trans rfl
   have zaz1 := (blk_cell BK.out 1).trans rfl
   have zaz2 := (blk_cell BK.out 2).trans rfl
   have zaf0 := blk_frozen BK.out 0
   have zaf1 := blk_frozen BK.out 1
   have zaf2 := blk_frozen BK.out 2
   have zbz0 := (blk_cell BK2.out 0).trans rfl
   have zbz1 := (blk_cell BK2.out 1).trans rfl
   have zbz2 := (blk_cell BK2.out 2).trans rfl
   have zbf0 := blk_frozen BK2.out 0
   have zbf1 := blk_frozen BK2.out 1
   have zbf2 := blk_frozen BK2.out 2
   go_wp2_with (fail)
   refine bodyPost_ret (results_ct rfl _ _ gb 41 #[.int .i64 0, .int .i64 0, .bool false] (0, 0) _ rfl (by refine blk_put (cs := #[.int .i64 0, .int .i64 0, .bool false]) ?_ 2 _ rfl; refine blk_put (cs := #[.int .i64 0, .int .i64 0, .bool false]) ?_ 1 _ rfl; refine blk_put (cs := #[.int .i64 0, .int .i64 0, .bool false]) ?_ 0 _ rfl; exact BK.out) Try.underlying41 rfl (by kernel_rfl)) rfl ?_
   exact ⟨rfl, by repeat (with_reducible first | exact HB.out | apply pw_below_drewN | refine below_set ?_ GE.out)⟩
  ·
   rw [if_pos rfl] at hn
   simp only [Option.some.injEq, Prod.mk.injEq] at hn
   obtain ⟨rfl, rfl, rfl, rfl⟩ := hn
   simp only [Bool.not_false, Bool.not_true] at hq2
   go_enter Try.func33, Try.ntmps33
   go_wp2_with (first | ((with_reducible refine gate_dst (N := 2) rfl ?_); refine box_event ?hg (N := 2) ?hd (cs := #[.int .i64 0, .int .i64 0, .bool false]) (t := 41) ?hr ?_; (case hd => rfl); (case hg => rfl); (case hr => first | (go_simp; done) | (go_simp; rfl)); intro gb hg w1 hbox hb; have BK := Aside0.mk hbox; have GE := Aside0.mk (show w.heap.size ≤ gb by rw [hg]; exact Nat.le_refl _); clear HB; have HB := Aside0.mk hb; clear hg hbox hb))
   refine RG.regionT 26 10 (fun W => Below w.heap.size w W ∧ W.heap[gb]? = some (.cells #[.int .i64 0, .int .i64 0, .bool false] 41 (0, 0))) [Sp.exact ?_, Sp.exact ?_, Sp.exact ?_, Sp.exact ?_, Sp.exact ?_, Sp.exact ?_, Sp.exact ?_, Sp.exact ?_, Sp.exact ?_, Sp.ex (fun v W => ∃ g, v = .pointer (some ⟨g, 0, none⟩) ∧ w.heap.size ≤ g ∧ W.heap[g]? = some (.cells #[.int .i64 0, .int .i64 0, .bool false] 41 (0, 0)) ∧ gb ≠ g)] (by kernel_rfl) (by kernel_rfl) (by kernel_rfl) rfl (fun _ _ hb h => ⟨below_then h.1 h.1.size hb, blk_below h.2 hb⟩) (by exact ⟨fun v W W1 hb h => by obtain ⟨g, e, h1, h2, h3⟩ := h; exact ⟨g, e, h1, blk_below h2 hb, h3⟩, trivial⟩) (⟨below_drew1 HB.out, blk_drew BK.out⟩) ?_
   rotate_right
   simp only [List.toList_toArray, List.take_succ_cons, List.take_zero, List.drop_succ_cons, List.drop_zero]
   refine rgW.just (b' := ?_) (Or.inl ⟨by rfl, ?_⟩) ?_ ?_; rotate_left; (focus (intro w'; go_simp; with_reducible rfl)); (focus (simp only [Act.put, List.setIfInBounds_toArray, List.set_cons_zero, List.set_cons_succ]; try rfl))
   refine rgW.just (b' := ?_) (Or.inl ⟨by rfl, ?_⟩) ?_ ?_; rotate_left; (focus (intro w'; go_simp; with_reducible rfl)); (focus (simp only [Act.put, List.setIfInBounds_toArray, List.set_cons_zero, List.set_cons_succ]; try rfl))
   refine rgW.callx (b' := ?_) (d := .int .u64 t1) #[.slice (some ad) y1.length c0] Try.func86 (by kernel_rfl) rfl (by rfl) rfl (by (try simp only [List.map_toArray, List.map_cons, List.map_nil]); first | done | rfl) (fun W hS hK => ?_) ?_ ?_ ?_
   rotate_left
   ·
    with_reducible refine (pandectref2_Num.calls k _ _ y1 t1 W (Kd.C_below HR1.out hS.1) HL1.out A1_.out).mono ?_
    rintro e W' ⟨rfl, hd⟩
    exact ⟨rfl, hd.below⟩
   ·
    rfl
   ·
    simp only [Act.put, List.setIfInBounds_toArray, List.set_cons_zero, List.set_cons_succ]
    try rfl
   refine rgW.just (b' := ?_) (Or.inl ⟨by rfl, ?_⟩) ?_ ?_; rotate_left; (focus (intro w'; go_simp; with_reducible rfl)); (focus (simp only [Act.put, List.setIfInBounds_toArray, List.set_cons_zero, List.set_cons_succ]; try rfl))
   refine rgW.just (b' := ?_) (Or.inl ⟨by rfl, ?_⟩) ?_ ?_; rotate_left; (focus (intro w'; go_simp; with_reducible rfl)); (focus (simp only [Act.put, List.setIfInBounds_toArray, List.set_cons_zero, List.set_cons_succ]; try rfl))
   refine rgW.just (b' := ?_) (Or.inl ⟨by rfl, ?_⟩) ?_ ?_; rotate_left; (focus (intro w'; go_simp; with_reducible rfl)); (focus (simp only [Act.put, List.setIfInBounds_toArray, List.set_cons_zero, List.set_cons_succ]; try rfl))
   refine rgW.callx (b' := ?_) (d := .int .u64 t2) #[.slice A2 y2.length (c0 - 8)] Try.func86 (by kernel_rfl) rfl (by rfl) rfl (by (try simp only [List.map_toArray, List.map_cons, List.map_nil]); first | done | rfl) (fun W hS hK => ?_) ?_ ?_ ?_
   rotate_left
   ·
    with_reducible refine (pandectref2_Num.calls k _ _ y2 t2 W (Kd.C_below HR2.out hS.1) HL2.out A2_.out).mono ?_
    rintro e W' ⟨rfl, hd⟩
    exact ⟨rfl, hd.below⟩
   ·
    rfl
   ·
    simp only [Act.put, List.setIfInBounds_toArray, List.set_cons_zero, List.set_cons_succ]
    try rfl
   refine rgW.just (b' := ?_) (Or.inl ⟨by rfl, ?_⟩) ?_ ?_; rotate_left; (focus (intro w'; go_simp; with_reducible rfl)); (focus (simp only [Act.put, List.setIfInBounds_toArray, List.set_cons_zero, List.set_cons_succ]; try rfl))
   refine rgW.just (b' := ?_) (Or.inl ⟨by rfl, ?_⟩) ?_ ?_; rotate_left; (focus (intro w'; go_simp; with_reducible rfl)); (focus (simp only [Act.put, List.setIfInBounds_toArray, List.set_cons_zero, List.set_cons_succ]; try rfl))
   refine rgW.told (b' := ?_) ?_ (fun W hS hK K hKK => ?_) ?_
   rotate_left
   ·
    intro v
    simp only [Act.put, List.setIfInBounds_toArray, List.set_cons_zero, List.set_cons_succ]
    exact rfl
   ·
    ((refine box_step ?hg (N := 4) ?hd (cs := #[.int .i64 0, .int .i64 0, .bool false]) (t := 41) ?hr ?_); (case hd => rfl); (case hg => rfl); (case hr => first | (go_simp; done) | (go_simp; rfl)); intro g2 hg W2 hbox hb; exact hKK _ _ ⟨g2, rfl, by rw [hg]; exact hS.1.size, hbox, by rw [hg]; exact Nat.ne_of_lt (blk_lt hS.2)⟩ hb)
   intro v_
   intro W hS hA
   obtain ⟨⟨g2, e_, hge, hblk, hne⟩, _⟩ := hA
   subst e_
   clear HB BK
   have HB := Aside0.mk hS.1
   have BK := Aside0.mk hS.2
   have BK2 := Aside0.mk hblk
   have GE2 := Aside0.mk hge
   have NE := Aside0.mk hne
   clear hS hge hblk hne
   have yz0 := (blk_cell BK2.out 0).trans rfl
   have yz1 := (blk_cell BK2.out 1).trans rfl
   have yz2 := (blk_cell BK2.out 2).trans rfl
   have yf0 := blk_frozen BK2.out 0
   have yf1 := blk_frozen BK2.out 1
   have yf2 := blk_frozen BK2.out 2
   go_wp2_with (fail)
   refine RG.region 26 (fun W => Below w.heap.size w W ∧ W.heap[gb]? = some (.cells #[.int .i64 0, .int .i64 0, .bool false] 41 (0, 0)) ∧ W.heap[g2]? = some (.cells #[.int .i64 (wrap64 t1), .int .i64 (wrap64 t2), .bool false] 41 (0, 0))) [Sp.exact ?_, Sp.ex (Row p), Sp.exact ?_, Sp.exact ?_, Sp.exact ?_, Sp.exact ?_] (by kernel_rfl) (by kernel_rfl) rfl (fun _ _ hb h => ⟨below_then h.1 h.1.size hb, blk_below h.2.1 hb, blk_below h.2.2 hb⟩) (by exact ⟨fun _ _ _ hb h => Row.below h hb, trivial⟩) (⟨below_drew1 (by repeat (with_reducible first | exact HB.out | refine below_set ?_ GE2.out)), blk_drew (by refine blk_far ?_ NE.out _; refine blk_far ?_ NE.out _; refine blk_far ?_ NE.out _; exact BK.out), blk_drew (by refine blk_put (cs := #[.int .i64 (wrap64 t1), .int .i64 (wrap64 t2), .bool false]) ?_ 2 _ rfl; refine blk_put (cs := #[.int .i64 (wrap64 t1), .int .i64 0, .bool false]) ?_ 1 _ rfl; refine blk_put (cs := #[.int .i64 0, .int .i64 0, .bool false]) ?_ 0 _ rfl; exact BK2.out)⟩) ?_
   rotate_right
   refine rgW.read (b' := ?_) (by rfl) ?_ ?_ ?_; rotate_left; (focus (intro W hS hK; have z0_ := (blk_cell hS.2.2 0).trans rfl; have z1_ := (blk_cell hS.2.2 1).trans rfl; have z2_ := (blk_cell hS.2.2 2).trans rfl; go_simp; with_reducible rfl)); (focus (simp only [Act.put, List.setIfInBounds_toArray, List.set_cons_zero, List.set_cons_succ]; try rfl))
   refine rgW.call (b' := ?_) #[.agg #[.int .i64 (wrap64 t1), .int .i64 (wrap64 t2), .bool false]] Try.func41 (by kernel_rfl) rfl (by rfl) rfl (by (try simp only [List.map_toArray, List.map_cons, List.map_nil]); first | done | rfl) (fun W hS hK => ?_) ?_ ?_
   rotate_left
   ·
    with_reducible refine (pandectref6_PutDone.calls k _ _ _ p W A3_.out).mono ?_
    rintro e W' ⟨v, rfl, ho, hb⟩
    exact ⟨v, rfl, .of_R ho, hb⟩
   ·
    intro v
    simp only [Act.put, List.setIfInBounds_toArray, List.set_cons_zero, List.set_cons_succ]
    exact rfl
   intro v_
   refine rgW.conv (b' := ?_) (xs := p) (by rfl) rfl (by rfl) Try.underlying22 Try.underlying5 Try.underlying9 ?_ ?_ ?_ ?_; rotate_left; (focus rfl); (focus (intro W hS hK; exact hK.1 (by kernel_rfl))); (focus (simp only [Act.put, List.setIfInBounds_toArray, List.set_cons_zero, List.set_cons_succ]; try rfl))
   refine rgW.just (b' := ?_) (Or.inl ⟨by rfl, ?_⟩) ?_ ?_; rotate_left; (focus (intro w'; go_simp; with_reducible rfl)); (focus (simp only [Act.put, List.setIfInBounds_toArray, List.set_cons_zero, List.set_cons_succ]; try rfl))
   refine rgW.conv (b' := ?_) (xs := l0) (by rfl) rfl (by rfl) Try.underlying22 Try.underlying5 Try.underlying9 ?_ ?_ ?_ ?_; rotate_left; (focus rfl); (focus (intro W hS hK; exact ⟨_, _, rfl, HC0.out, Kd.C_below HR0.out hS.1⟩)); (focus (simp only [Act.put, List.setIfInBounds_toArray, List.set_cons_zero, List.set_cons_succ]; try rfl))
   refine rgW.just (b' := ?_) (Or.inl ⟨by rfl, ?_⟩) ?_ ?_; rotate_left; (focus (intro w'; go_simp; with_reducible rfl)); (focus (simp only [Act.put, List.setIfInBounds_toArray, List.set_cons_zero, List.set_cons_succ]; try rfl))
   intro W hS hA
   clear hA yz0 yf0 yz1 yf1 yz2 yf2 HB BK BK2
   have HB := Aside0.mk hS.1
   have BK := Aside0.mk hS.2.1
   have BK2 := Aside0.mk hS.2.2
   clear hS
   have zaz0 := (blk_cell BK.out 0).trans rfl
   have zaz1 := (blk_cell BK.out 1).trans rfl
   have zaz2 := (blk_cell BK.out 2).trans rfl
   have zaf0 := blk_frozen BK.out 0
   have zaf1 := blk_frozen BK.out 1
   have zaf2 := blk_frozen BK.out 2
   have zbz0 := (blk_cell BK2.out 0).trans rfl
   have zbz1 := (blk_cell BK2.out 1).trans rfl
   have zbz2 := (blk_cell BK2.out 2).trans rfl
   have zbf0 := blk_frozen BK2.out 0
   have zbf1 := blk_frozen BK2.out 1
   have zbf2 := blk_frozen BK2.out 2
   go_wp2_with (fail)
   refine bodyPost_ret (results_ct rfl _ _ gb 41 #[.int .i64 (wrap64 t1), .int .i64 (wrap64 t2), .bool false] (0, 0) _ rfl (by refine blk_put (cs := #[.int .i64 (wrap64 t1), .int .i64 (wrap64 t2), .bool false]) ?_ 2 _ rfl; refine blk_put (cs := #[.int .i64 (wrap64 t1), .int .i64 0, .bool false]) ?_ 1 _ rfl; refine blk_put (cs := #[.int .i64 0, .int .i64 0, .bool false]) ?_ 0 _ rfl; exact BK.out) Try.underlying41 rfl (by kernel_rfl)) rfl ?_
   exact ⟨rfl, by repeat (with_reducible first | exact HB.out | apply pw_below_drewN | refine below_set ?_ GE.out)⟩
 ·
  rw [if_neg c0_] at h
  simp only [Option.some.injEq, Prod.mk.injEq] at h
  obtain ⟨rfl, rfl, rfl, rfl⟩ := h
  have b0 : ((l0.length : Int) == 10) = false := beq_eq_false_iff_ne.2 c0_
  have b1 : ((l0.length : Int) != 10) = true := bne_iff_ne.2 c0_
  have b2 : (l0.length == 10) = false := beq_eq_false_iff_ne.2 (by omega)
  have b3 : (l0.length != 10) = true := bne_iff_ne.2 (by omega)
  clear c0_ hr0 hc0
  go_enter Try.func33, Try.ntmps33
  go_wp2_with (first | ((with_reducible refine gate_dst (N := 2) rfl ?_); refine box_event ?hg (N := 2) ?hd (cs := #[.int .i64 0, .int .i64 0, .bool false]) (t := 41) ?hr ?_; (case hd => rfl); (case hg => rfl); (case hr => first | (go_simp; done) | (go_simp; rfl)); intro gb hg w1 hbox hb; have BK := Aside0.mk hbox; have GE := Aside0.mk (show w.heap.size ≤ gb by rw [hg]; exact Nat.le_refl _); clear HB; have HB := Aside0.mk hb; clear hg hbox hb; have hz0 := (blk_cell BK.out 0).trans rfl; have hz1 := (blk_cell BK.out 1).trans rfl; have hz2 := (blk_cell BK.out 2).trans rfl; have hf0 := blk_frozen BK.out 0; have hf1 := blk_frozen BK.out 1; have hf2 := blk_frozen BK.out 2))
  refine bodyPost_ret (results_ct rfl _ _ gb 41 #[.int .i64 0, .int .i64 0, .bool false] (0, 0) _ rfl (by refine blk_put (cs := #[.int .i64 0, .int .i64 0, .bool false]) ?_ 2 _ rfl; refine blk_put (cs := #[.int .i64 0, .int .i64 0, .bool false]) ?_ 1 _ rfl; refine blk_put (cs := #[.int .i64 0, .int .i64 0, .bool false]) ?_ 0 _ rfl; exact BK.out) Try.underlying41 rfl (by kernel_rfl)) rfl ?_
  exact ⟨rfl, by repeat (with_reducible first | exact HB.out | refine below_set ?_ GE.out)⟩

/-! ### pandectref6_TakeMark: function 35 -/
def pandectref6_TakeMark.f (k : Nat) (l0 : List Int) : Option (Int × List Int × Int) := if (l0.length : Int) < 8 then (some (0, ([] : List Int), 2)) else (if (l0.length : Int) > 108 then (some (0, ([] : List Int), 2)) else (if 0 < (l0.length : Int) then (if (rd l0 0) > 127 then (some (0, ([] : List Int), 2)) else (if 8 ≤ (l0.length : Int) then ((pandectref2_Num.f k (l0.take 8)).bind fun t279 => ((some (([] : List Int) : List Int)).bind fun y280 => ((some (l0.drop 8 : List Int)).bind fun y283 => (if y280.length + y283.length < 140737488355328 then (some (wrap64 (t279), (y280 ++ y283), 0)) else (none))))) else (none))) else (none)))
theorem pandectref6_TakeMark.mono : ∀ a0 k, LeO (pandectref6_TakeMark.f k a0) (pandectref6_TakeMark.f (k + 1) a0) := by
 intro a0 k
 unfold pandectref6_TakeMark.f
 repeat' first
   | (with_reducible exact pandectref2_Num.mono _ _)
   | (with_reducible exact LeO.refl _)
   | (with_reducible exact LeO.none _)
   | (with_reducible refine LeO.ite ?_ ?_)
   | (with_reducible refine LeO.bind ?_ (fun _ => ?_))
   | exact pandectref2_Num.mono _ _
   | exact LeO.none _
   | refine LeO.ite ?_ ?_
   | refine LeO.bind ?_ (fun _ => ?_)
def pandectref6_TakeMark.T3 : Bool × List (List Nat × List Nat) := (true, [([], []), ([0], [0]), ([1], [1]), ([2], [2]), ([], []), ([], []), ([5], [5]), ([4, 6, 2], [4, 6]), ([3, 7], [3, 7]), ([8, 7, 0, 1, 2, 3, 4, 5, 6, 7, 8], [8]), ([9, 0, 1, 2, 3, 4, 5, 6, 7, 8, 9], [])])
def pandectref6_TakeMark.B3 : List Nat := [0, 1, 3, 7, 0, 0, 32, 119, 255, 511, 1023]
theorem pandectref6_TakeMark.tab3 : rtab .any (opsOf Try.f35 3) = pandectref6_TakeMark.T3 := by kernel_rfl
theorem pandectref6_TakeMark.bits3 : waitsOk pandectref6_TakeMark.T3.2 pandectref6_TakeMark.B3 = true := by kernel_rfl
set_option maxHeartbeats 8000000 in
set_option maxRecDepth 100000 in
theorem pandectref6_TakeMark.calls (k : Nat) (A0 : Option Addr) (c0 : Nat) (l0 : List Int) (r1 : Int) (r2 : List Int) (r3 : Int) (w : World) (hr0 : Kd.C (Kd.int .u8) w A0 l0.length l0) (hc0 : l0.length ≤ c0) (h : pandectref6_TakeMark.f k l0 = some (r1, r2, r3)) :
  Calls Try.prog 35 #[.slice A0 l0.length c0] w fun e w' => ∃ v1_ : Value, e = .returned (.tuple #[.agg #[.int .i64 r1, v1_], .int .i64 r3]) ∧ Kd.R (Kd.int .u8) 5 w' w.heap.size (fun _ => True) v1_ r2 ∧ Below w.heap.size w w' := by
 have hu43 := Try.underlying43
 have HR0 := Aside0.mk hr0
 have HC0 := Aside0.mk hc0
 clear hr0 hc0
 have HB := Aside0.mk (Below.refl w.heap.size w)
 have H : (if (l0.length : Int) < 8 then (some (0, ([] : List Int), 2)) else (if (l0.length : Int) > 108 then (some (0, ([] : List Int), 2)) else (if 0 < (l0.length : Int) then (if (rd l0 0) > 127 then (some (0, ([] : List Int), 2)) else (if 8 ≤ (l0.length : Int) then ((pandectref2_Num.f k (l0.take 8)).bind fun t279 => ((some (([] : List Int) : List Int)).bind fun y280 => ((some (l0.drop 8 : List Int)).bind fun y283 => (if y280.length + y283.length < 140737488355328 then (some (wrap64 (t279), (y280 ++ y283), 0)) else (none))))) else (none))) else (none)))) = some (r1, r2, r3) := h
 clear h
 by_cases c2 : (l0.length : Int) < 8
 ·
  rw [if_pos c2] at H
  have c2b0 : decide ((l0.length : Int) < 8) = true := decide_eq_true c2
  have c2b1 : decide (l0.length < 8) = true := decide_eq_true (by omega)
  clear c2
  simp only [Option.some.injEq, Prod.mk.injEq] at H
  obtain ⟨rfl, rfl, rfl⟩ := H
  go_enter Try.func35, Try.ntmps35
  go_wp2_with (first | ((with_reducible refine gate_dst (N := 2) rfl ?_); (try (refine gate_guard (by rfl) ?_; dsimp only)); refine box_event ?hg (N := 2) ?hd (cs := #[.int .i64 0, .slice none 0 0]) (t := 43) ?hr ?_; (case hd => rfl); (case hg => rfl); (case hr => first | (go_simp; done) | (go_simp; rfl)); intro gb273 hg w3 hbox hb; have n0_ := Aside0.mk (below_step (by repeat (first | (with_reducible first | exact HB.out | apply bA | apply bN | apply bD) | exact HB.out)) hb); have n1_ := Aside0.mk (hbox); have n2_ := Aside0.mk ((by rw [hg]; exact (below_size (by repeat (first | (with_reducible first | exact HB.out | apply bA | apply bN | apply bD) | exact HB.out))) : w.heap.size ≤ gb273)); have n3_ := Aside0.mk ((by rw [hg]; exact (below_size (by repeat (first | (with_reducible first | exact HB.out | apply bA | apply bN | apply bD) | exact HB.out))) : w.heap.size ≤ gb273)); clear HB; have HB := n0_; have BK273 := n1_; have GW273 := n2_; have GE273 := n3_; clear n0_ n1_ n2_ n3_; clear hb hbox hg; have hcz4_0 : w3.cell? ⟨gb273, 0, none⟩ = some (.int .i64 0) := (blk_cell BK273.out 0).trans rfl; have hcz4_1 : w3.cell? ⟨gb273, 1, none⟩ = some (.slice none 0 0) := (blk_cell BK273.out 1).trans rfl; have hfz4_0 := blk_frozen BK273.out 0; have hfz4_1 := blk_frozen BK273.out 1))
  refine bodyPost_ret (results_ct rfl _ _ gb273 43 #[.int .i64 0, .slice none 0 0] (0, 0) _ rfl (by (with_reducible repeat (first | refine blk_drewN ?_ _ | refine blk_drew ?_ | refine blk_alloc ?_ _)); refine blk_put (cs := #[.int .i64 0, .slice none 0 0]) ?_ 1 _ rfl; (with_reducible repeat (first | refine blk_drewN ?_ _ | refine blk_drew ?_ | refine blk_alloc ?_ _)); refine blk_put (cs := #[.int .i64 0, .slice none 0 0]) ?_ 0 _ rfl; (with_reducible repeat (first | refine blk_drewN ?_ _ | refine blk_drew ?_ | refine blk_alloc ?_ _)); exact BK273.out) Try.underlying43 rfl (by kernel_rfl)) rfl ?_
  exact ⟨_, by first | rfl | (simp [errW_none, errW_some] <;> rfl) | (simp [*, errW_none, errW_some] <;> rfl), by first | exact Kd.R_nil _ _ _ _ _ | exact Kd.N_nil _ _ _ _ _ | exact Kd.V_nil _ _ _ _ _ | exact Kd.Q_nil _ _ _ _ _ | exact Kd.S_nil _ _ _ _ _, by repeat (first | (with_reducible first | exact HB.out | apply below_alloc | apply pw_below_drewN | apply below_drew1 | refine below_set ?_ GE273.out) | exact HB.out)⟩
 ·
  rw [if_neg c2] at H
  have c2b0 : decide ((l0.length : Int) < 8) = false := decide_eq_false c2
  have c2b1 : decide (l0.length < 8) = false := decide_eq_false (by omega)
  clear c2
  by_cases c5 : (l0.length : Int) > 108
  ·
   rw [if_pos c5] at H
   have c5b0 : decide (108 < (l0.length : Int)) = true := decide_eq_true c5
   have c5b1 : decide (108 < l0.length) = true := decide_eq_true (by omega)
   clear c5
   simp only [Option.some.injEq, Prod.mk.injEq] at H
   obtain ⟨rfl, rfl, rfl⟩ := H
   go_enter Try.func35, Try.ntmps35
   go_wp2_with (first | ((with_reducible refine gate_dst (N := 2) rfl ?_); (try (refine gate_guard (by rfl) ?_; dsimp only)); refine box_event ?hg (N := 2) ?hd (cs := #[.int .i64 0, .slice none 0 0]) (t := 43) ?hr ?_; (case hd => rfl); (case hg => rfl); (case hr => first | (go_simp; done) | (go_simp; rfl)); intro gb273 hg w6 hbox hb; have n0_ := Aside0.mk (below_step (by repeat (first | (with_reducible first | exact HB.out | apply bA | apply bN | apply bD) | exact HB.out)) hb); have n1_ := Aside0.mk (hbox); have n2_ := Aside0.mk ((by rw [hg]; exact (below_size (by repeat (first | (with_reducible first | exact HB.out | apply bA | apply bN | apply bD) | exact HB.out))) : w.heap.size ≤ gb273)); have n3_ := Aside0.mk ((by rw [hg]; exact (below_size (by repeat (first | (with_reducible first | exact HB.out | apply bA | apply bN | apply bD) | exact HB.out))) : w.heap.size ≤ gb273)); clear HB; have HB := n0_; have BK273 := n1_; have GW273 := n2_; have GE273 := n3_; clear n0_ n1_ n2_ n3_; clear hb hbox hg; have hcz7_0 : w6.cell? ⟨gb273, 0, none⟩ = some (.int .i64 0) := (blk_cell BK273.out 0).trans rfl; have hcz7_1 : w6.cell? ⟨gb273, 1, none⟩ = some (.slice none 0 0) := (blk_cell BK273.out 1).trans rfl; have hfz7_0 := blk_frozen BK273.out 0; have hfz7_1 := blk_frozen BK273.out 1))
   refine bodyPost_ret (results_ct rfl _ _ gb273 43 #[.int .i64 0, .slice none 0 0] (0, 0) _ rfl (by (with_reducible repeat (first | refine blk_drewN ?_ _ | refine blk_drew ?_ | refine blk_alloc ?_ _)); refine blk_put (cs := #[.int .i64 0, .slice none 0 0]) ?_ 1 _ rfl; (with_reducible repeat (first | refine blk_drewN ?_ _ | refine blk_drew ?_ | refine blk_alloc ?_ _)); refine blk_put (cs := #[.int .i64 0, .slice none 0 0]) ?_ 0 _ rfl; (with_reducible repeat (first | refine blk_drewN ?_ _ | refine blk_drew ?_ | refine blk_alloc ?_ _)); exact BK273.out) Try.underlying43 rfl (by kernel_rfl)) rfl ?_
   exact ⟨_, by first | rfl | (simp [errW_none, errW_some] <;> rfl) | (simp [*, errW_none, errW_some] <;> rfl), by first | exact Kd.R_nil _ _ _ _ _ | exact Kd.N_nil _ _ _ _ _ | exact Kd.V_nil _ _ _ _ _ | exact Kd.Q_nil _ _ _ _ _ | exact Kd.S_nil _ _ _ _ _, by repeat (first | (with_reducible first | exact HB.out | apply below_alloc | apply pw_below_drewN | apply below_drew1 | refine below_set ?_ GE273.out) | exact HB.out)⟩
  ·
   rw [if_neg c5] at H
   have c5b0 : decide (108 < (l0.length : Int)) = false := decide_eq_false c5
   have c5b1 : decide (108 < l0.length) = false := decide_eq_false (by omega)
   clear c5
   by_cases c8 : 0 < (l0.length : Int)
   ·
    rw [if_pos c8] at H
    have c8b0 : decide (0 < (l0.length : Int)) = true := decide_eq_true c8
    have c8b1 : decide (0 < l0.length) = true := decide_eq_true (by omega)
    clear c8
    by_cases c9 : (rd l0 0) > 127
    ·
     rw [if_pos c9] at H
     have c9b0 : decide (127 < (rd l0 0)) = true := decide_eq_true c9
     clear c9
     simp only [Option.some.injEq, Prod.mk.injEq] at H
     obtain ⟨rfl, rfl, rfl⟩ := H
     go_enter Try.func35, Try.ntmps35
     go_wp2_with (first | ((with_reducible refine gate_dst (N := 2) rfl ?_); (try (refine gate_guard (by rfl) ?_; dsimp only)); refine box_event ?hg (N := 2) ?hd (cs := #[.int .i64 0, .slice none 0 0]) (t := 43) ?hr ?_; (case hd => rfl); (case hg => rfl); (case hr => first | (go_simp; done) | (go_simp; rfl)); intro gb273 hg w10 hbox hb; have n0_ := Aside0.mk (below_step (by repeat (first | (with_reducible first | exact HB.out | apply bA | apply bN | apply bD) | exact HB.out)) hb); have n1_ := Aside0.mk (hbox); have n2_ := Aside0.mk ((by rw [hg]; exact (below_size (by repeat (first | (with_reducible first | exact HB.out | apply bA | apply bN | apply bD) | exact HB.out))) : w.heap.size ≤ gb273)); have n3_ := Aside0.mk ((by rw [hg]; exact (below_size (by repeat (first | (with_reducible first | exact HB.out | apply bA | apply bN | apply bD) | exact HB.out))) : w.heap.size ≤ gb273)); clear HB; have HB := n0_; have BK273 := n1_; have GW273 := n2_; have GE273 := n3_; clear n0_ n1_ n2_ n3_; clear hb hbox hg; have p274 : 0 ≤ (0 : Int) := (by omega); have q274 : 0 < (l0.length : Int) := of_decide_eq_true (by first | (with_reducible assumption) | assumption); obtain ⟨ad274, e274, hx274_0⟩ := Kd.at_int HR0.out 0 p274 q274; cases e274; have qi274 : (0 < l0.length) = True := eq_true (by omega); (try rw [show ((0 : Int)).toNat = 0 from rfl] at hx274_0); (try rw [Addr.add_zero'] at hx274_0); replace hx274_0 := (HB.out.cell (World.block_lt_of_cell? w _ hx274_0)).trans hx274_0; replace p274 := eq_true p274; replace q274 := eq_true q274; have hcz11_0 : w10.cell? ⟨gb273, 0, none⟩ = some (.int .i64 0) := (blk_cell BK273.out 0).trans rfl; have hcz11_1 : w10.cell? ⟨gb273, 1, none⟩ = some (.slice none 0 0) := (blk_cell BK273.out 1).trans rfl; have hfz11_0 := blk_frozen BK273.out 0; have hfz11_1 := blk_frozen BK273.out 1))
     refine bodyPost_ret (results_ct rfl _ _ gb273 43 #[.int .i64 0, .slice none 0 0] (0, 0) _ rfl (by (with_reducible repeat (first | refine blk_drewN ?_ _ | refine blk_drew ?_ | refine blk_alloc ?_ _)); refine blk_put (cs := #[.int .i64 0, .slice none 0 0]) ?_ 1 _ rfl; (with_reducible repeat (first | refine blk_drewN ?_ _ | refine blk_drew ?_ | refine blk_alloc ?_ _)); refine blk_put (cs := #[.int .i64 0, .slice none 0 0]) ?_ 0 _ rfl; (with_reducible repeat (first | refine blk_drewN ?_ _ | refine blk_drew ?_ | refine blk_alloc ?_ _)); exact BK273.out) Try.underlying43 rfl (by kernel_rfl)) rfl ?_
     exact ⟨_, by first | rfl | (simp [errW_none, errW_some] <;> rfl) | (simp [*, errW_none, errW_some] <;> rfl), by first | exact Kd.R_nil _ _ _ _ _ | exact Kd.N_nil _ _ _ _ _ | exact Kd.V_nil _ _ _ _ _ | exact Kd.Q_nil _ _ _ _ _ | exact Kd.S_nil _ _ _ _ _, by repeat (first | (with_reducible first | exact HB.out | apply below_alloc | apply pw_below_drewN | apply below_drew1 | refine below_set ?_ GE273.out) | exact HB.out)⟩
    ·
     rw [if_neg c9] at H
     have c9b0 : decide (127 < (rd l0 0)) = false := decide_eq_false c9
     clear c9
     by_cases c12 : 8 ≤ (l0.length : Int)
     ·
      rw [if_pos c12] at H
      have c12b0 := eq_true c12
      have c12b1 : decide (8 ≤ (l0.length : Int)) = true := decide_eq_true c12
      clear c12
      obtain ⟨y275, hy275⟩ : ∃ y_ : List Int, y_ = (l0.take 8) := ⟨_, rfl⟩
      replace H : ((pandectref2_Num.f k y275).bind fun t279 => ((some (([] : List Int) : List Int)).bind fun y280 => ((some (l0.drop 8 : List Int)).bind fun y283 => (if y280.length + y283.length < 140737488355328 then (some (wrap64 (t279), (y280 ++ y283), 0)) else (none))))) = some (r1, r2, r3) := by first | (rw [hy275]; with_reducible exact H) | (have H2_ := (Option.bind_some _ _).symm.trans H; rw [hy275]; with_reducible exact H2_) | (have H2_ := (Option.bind_some _ _).symm.trans H; with_reducible exact H2_) | with_reducible exact H | (rw [hy275]; exact H) | exact H
      have Ny275 := Aside0.mk hy275
      clear hy275
      replace H := Option.bind_eq_some_iff.mp H
      obtain ⟨t279, A130, H⟩ := H
      replace H : ((some (([] : List Int) : List Int)).bind fun y280 => ((some (l0.drop 8 : List Int)).bind fun y283 => (if y280.length + y283.length < 140737488355328 then (some (wrap64 (t279), (y280 ++ y283), 0)) else (none)))) = some (r1, r2, r3) := H
      have A13 := Aside0.mk A130
      clear A130
      obtain ⟨y280, hy280⟩ : ∃ y_ : List Int, y_ = (([] : List Int)) := ⟨_, rfl⟩
      replace H : ((some (l0.drop 8 : List Int)).bind fun y283 => (if y280.length + y283.length < 140737488355328 then (some (wrap64 (t279), (y280 ++ y283), 0)) else (none))) = some (r1, r2, r3) := by first | (rw [hy280]; with_reducible exact H) | (have H2_ := (Option.bind_some _ _).symm.trans H; rw [hy280]; with_reducible exact H2_) | (have H2_ := (Option.bind_some _ _).symm.trans H; with_reducible exact H2_) | with_reducible exact H | (rw [hy280]; exact H) | exact H
      have Ny280 := Aside0.mk hy280
      clear hy280
      have c14b0 := eq_true (of_decide_eq_true (by first | (with_reducible assumption) | assumption) : 8 ≤ (l0.length : Int))
      obtain ⟨y283, hy283⟩ : ∃ y_ : List Int, y_ = (l0.drop 8) := ⟨_, rfl⟩
      replace H : (if y280.length + y283.length < 140737488355328 then (some (wrap64 (t279), (y280 ++ y283), 0)) else (none)) = some (r1, r2, r3) := by first | (rw [hy283]; with_reducible exact H) | (have H2_ := (Option.bind_some _ _).symm.trans H; rw [hy283]; with_reducible exact H2_) | (have H2_ := (Option.bind_some _ _).symm.trans H; with_reducible exact H2_) | with_reducible exact H | (rw [hy283]; exact H) | exact H
      have Ny283 := Aside0.mk hy283
      clear hy283
      by_cases c15 : y280.length + y283.length < 140737488355328
      ·
       rw [if_pos c15] at H
       have LMc15 := Aside0.mk c15
       clear c15
       obtain ⟨y287, hy287⟩ : ∃ y_ : List Int, y_ = (y280 ++ y283) := ⟨_, rfl⟩
       replace H : (some (wrap64 (t279), y287, 0)) = some (r1, r2, r3) := by first | (rw [hy287]; with_reducible exact H) | (have H2_ := (Option.bind_some _ _).symm.trans H; rw [hy287]; with_reducible exact H2_) | (have H2_ := (Option.bind_some _ _).symm.trans H; with_reducible exact H2_) | with_reducible exact H | (rw [hy287]; exact H) | exact H
       have Ny287 := Aside0.mk hy287
       clear hy287
       simp only [Option.some.injEq, Prod.mk.injEq] at H
       obtain ⟨rfl, rfl, rfl⟩ := H
       go_enter Try.func35, Try.ntmps35
       try go_wp2_with (first | ((with_reducible refine gate_dst (N := 2) rfl ?_); (try (refine gate_guard (by rfl) ?_; dsimp only)); refine box_event ?hg (N := 2) ?hd (cs := #[.int .i64 0, .slice none 0 0]) (t := 43) ?hr ?_; (case hd => rfl); (case hg => rfl); (case hr => first | (go_simp; done) | (go_simp; rfl)); intro gb273 hg w16 hbox hb; have n0_ := Aside0.mk (below_step (by repeat (first | (with_reducible first | exact HB.out | apply bA | apply bN | apply bD) | exact HB.out)) hb); have n1_ := Aside0.mk (hbox); have n2_ := Aside0.mk ((by rw [hg]; exact (below_size (by repeat (first | (with_reducible first | exact HB.out | apply bA | apply bN | apply bD) | exact HB.out))) : w.heap.size ≤ gb273)); have n3_ := Aside0.mk ((by rw [hg]; exact (below_size (by repeat (first | (with_reducible first | exact HB.out | apply bA | apply bN | apply bD) | exact HB.out))) : w.heap.size ≤ gb273)); clear HB; have HB := n0_; have BK273 := n1_; have GW273 := n2_; have GE273 := n3_; clear n0_ n1_ n2_ n3_; clear hb hbox hg; have p274 : 0 ≤ (0 : Int) := (by omega); have q274 : 0 < (l0.length : Int) := of_decide_eq_true (by first | (with_reducible assumption) | assumption); obtain ⟨ad274, e274, hx274_0⟩ := Kd.at_int HR0.out 0 p274 q274; cases e274; have qi274 : (0 < l0.length) = True := eq_true (by omega); (try rw [show ((0 : Int)).toNat = 0 from rfl] at hx274_0); (try rw [Addr.add_zero'] at hx274_0); replace hx274_0 := (HB.out.cell (World.block_lt_of_cell? w _ hx274_0)).trans hx274_0; replace p274 := eq_true p274; replace q274 := eq_true q274))
       have n0_ := Aside0.mk (blk_drew BK273.out)
       have n1_ := Aside0.mk (below_drew1 HB.out)
       clear BK273
       clear HB
       have BK273 := n0_
       have HB := n1_
       clear n0_ n1_
       obtain ⟨i018, hi018, _, hsz18, _⟩ := info_parts info5
       obtain ⟨hcut18, hA18, hC18⟩ := print_take_of (P := Try.prog) (Value.int .u8) 0 22 5 .i64 Try.underlying22 hi018 hsz18 (some ad274) c0 l0 8 (by omega) (of_decide_eq_true (by first | (with_reducible assumption) | assumption)) HC0.out
       (try simp only [Int.reduceToNat] at hcut18 hA18 hC18)
       rw [← Ny275.out] at hcut18 hA18 hC18
       have HR278 := Aside0.mk (Kd.C_of_reads (h1 := fun _ => rfl) (hA18 _ (Kd.reads_of_C HR0.out)))
       have HC278 := Aside0.mk hC18
       clear hA18 hC18 hi018 hsz18
       obtain ⟨i019, hi019, _, hsz19, _⟩ := info_parts info5
       obtain ⟨A19, hcut19, hA19, hC19⟩ := print_drop_of (P := Try.prog) (Value.int .u8) 0 22 5 .i64 Try.underlying22 hi019 hsz19 (some ad274) c0 l0 8 (by omega) (of_decide_eq_true (by first | (with_reducible assumption) | assumption)) HC0.out
       (try simp only [Int.reduceToNat] at hcut19 hA19 hC19)
       rw [← Ny283.out] at hcut19 hA19 hC19
       have HR286 := Aside0.mk (Kd.C_of_reads (h1 := fun _ => rfl) (hA19 _ (Kd.reads_of_C HR0.out)))
       have HC286 := Aside0.mk hC19
       clear hA19 hC19 hi019 hsz19
       refine start_ (n := 11) (S := fun w' => True) (ds := []) #[false, false, false, false, false, false, false, false, false, false, false] (by kernel_rfl) rfl rfl trivial (fun hHeld => ?_); refine with_tabW pandectref6_TakeMark.tab3 pandectref6_TakeMark.bits3 (fun HT_ HW_ => ?_)
       generalize w16.drew = w17 at BK273 HB HR278 HR286 hHeld ⊢
       refine pure_ (i := 0) (N := some 19) (v := ?_) (a' := ?_) #[true, false, false, false, false, false, false, false, false, false, false] rfl rfl (any_of HT_.out (by kernel_rfl)) (fun _ _ _ h => h) (Or.inl ⟨by rfl, ?_⟩) ?_ ?_
       rotate_left
       ·
        intro w'
        go_simp
        with_reducible rfl
       rotate_left
       ·
        simp only [Act.put, List.setIfInBounds_toArray, List.set_cons_zero, List.set_cons_succ, i64_w, i32_w]
        rfl
       refine pure_ (i := 1) (N := some 20) (v := ?_) (a' := ?_) #[true, true, false, false, false, false, false, false, false, false, false] rfl rfl (any_of HT_.out (by kernel_rfl)) (fun _ _ _ h => h) (Or.inl ⟨by rfl, ?_⟩) ?_ ?_
       rotate_left
       ·
        intro w'
        go_simp
        with_reducible rfl
       rotate_left
       ·
        simp only [Act.put, List.setIfInBounds_toArray, List.set_cons_zero, List.set_cons_succ, i64_w, i32_w]
        rfl
       refine pure_ (i := 5) (N := some 24) (v := ?_) (a' := ?_) #[true, true, false, false, false, true, false, false, false, false, false] rfl rfl (any_of HT_.out (by kernel_rfl)) (fun _ _ _ h => h) (Or.inl ⟨by rfl, ?_⟩) ?_ ?_
       rotate_left
       ·
        intro w'
        go_simp
        with_reducible rfl
       rotate_left
       ·
        simp only [Act.put, List.setIfInBounds_toArray, List.set_cons_zero, List.set_cons_succ, i64_w, i32_w]
        rfl
       refine pure_ (i := 6) (N := some 25) (v := ?_) (a' := ?_) #[true, true, false, false, false, true, true, false, false, false, false] rfl rfl (any_of HT_.out (by kernel_rfl)) (fun _ _ _ h => h) (Or.inl ⟨by rfl, ?_⟩) ?_ ?_
       rotate_left
       ·
        intro w'
        go_simp
        with_reducible rfl
       rotate_left
       ·
        simp only [Act.put, List.setIfInBounds_toArray, List.set_cons_zero, List.set_cons_succ, i64_w, i32_w]
        rfl
       refine join_ (σ := Value) 4 #[true, true, true, true, true, true, true, false, false, false, false] (fun s_ => [(21, .int .u64 t279), (23, s_), (22, .int .i64 (wrap64 (t279)))]) (fun s_ w' => (Kd.R (Kd.int .u8) 5 w' w.heap.size (fun _ => True) s_ y280) ∧ (w'.heap[gb273]? = some (.cells #[.int .i64 0, .slice none 0 0] 43 (0, 0))) ∧ (Below w.heap.size w w')) ?_ ?_
       rotate_left
       ·
        intro hCont
        refine two_ (i := 2) (j := 4) (Ni := some 21) (Nj := some 23) #[true, true, true, false, false, true, true, false, false, false, false] #[true, true, false, false, true, true, true, false, false, false, false] rfl rfl rfl rfl (two_of HT_.out (by kernel_rfl)) (by decide) (by decide) (fun K hK => ?_) (fun K hK => ?_)
        ·
         skip
         refine goes_ Try.func86 (by kernel_rfl) rfl #[.slice (some ad274) y275.length c0] (by rfl) rfl rfl (by (try simp only [List.map_toArray, List.map_cons, List.map_nil]); first | done | rfl | (simp only [List.length_drop, List.length_take]; rfl)) ?_
         with_reducible refine (pandectref2_Num.calls k _ _ y275 t279 _ ?side1 ?side2 A13.out).mono ?_
         (case side1 => repeat (first | exact (Kd.C_below HR278.out HB.out) | (with_reducible refine Kd.C_alloc ?_ _) | (with_reducible refine Kd.C_drewN ?_ _) | (with_reducible refine Kd.C_drew ?_)))
         (case side2 => exact HC278.out)
         rintro e w' ⟨rfl, ⟨nd, rfl⟩⟩
         refine ⟨_, rfl, ?_⟩
         refine hK.out _ _ trivial (fun hHeld => ?_)
         clear hK K
         refine norm_ (a' := ?_) ?_ ?_
         rotate_left
         ·
          show Act.put _ (some 21) _ = _
          simp only [Act.put, List.setIfInBounds_toArray, List.set_cons_zero, List.set_cons_succ, i64_w, i32_w]
          rfl
         refine pure_ (i := 3) (N := some 22) (v := ?_) (a' := ?_) #[true, true, true, true, false, true, true, false, false, false, false] rfl rfl (any_of HT_.out (by kernel_rfl)) (fun _ _ _ h => h) (Or.inl ⟨by rfl, ?_⟩) ?_ ?_
         rotate_left
         ·
          intro w'
          go_simp
          with_reducible rfl
         rotate_left
         ·
          simp only [Act.put, List.setIfInBounds_toArray, List.set_cons_zero, List.set_cons_succ, i64_w, i32_w]
          rfl
         refine one_ (i := 4) (N := some 23) #[true, true, true, true, true, true, true, false, false, false, false] rfl rfl (one_of HT_.out (by kernel_rfl)) (by decide) (fun K hK => ?_)
         refine Kd.R_lit_step (Kd.int .u8) _ 5 ?hg (N := 23) ?hd (xs := ([] : List Int)) (inner := []) (ok := fun _ => True) (okp := fun _ => True) ?hr ?hp (fun _ hk => hk) trivial (Below.refl _ _) (Nat.le_refl _) (by simp) ?_; (case hd => rfl); (case hg => rfl); (case hr => first | (go_simp; done) | (go_simp; rfl)); (case hp => exact (Reps.none _ _))
         intro v281 w20 ho21 hb hg_ hnew_
         clear hg_ hnew_
         (first | rw [← Ny280.out] at ho21 | (simp only [Int.reduceToNat] at ho21; rw [← Ny280.out] at ho21))
         have n0_ := Aside0.mk (Kd.R_lower ho21 (below_size (by repeat (first | (with_reducible first | exact HB.out | apply below_alloc | apply pw_below_drewN | apply below_drew1 | refine below_set ?_ GE273.out) | exact HB.out))))
         have n1_ := Aside0.mk (blk_below (g := gb273) (o := .cells #[.int .i64 0, .slice none 0 0] 43 (0, 0)) (by (with_reducible repeat (first | refine blk_drewN ?_ _ | refine blk_drew ?_ | refine blk_alloc ?_ _)); exact BK273.out) hb)
         have n2_ := Aside0.mk (below_step (by repeat (first | (with_reducible first | exact HB.out | apply below_alloc | apply pw_below_drewN | apply below_drew1 | refine below_set ?_ GE273.out) | exact HB.out)) hb)
         clear BK273
         clear HB
         have HO282 := n0_
         have BK273 := n1_
         have HB := n2_
         clear n0_ n1_ n2_
         clear hb ho21
         refine hK.out _ _ trivial (fun hHeld => ?_)
         clear hK K
         refine norm_ (a' := ?_) ?_ ?_
         rotate_left
         ·
          show Act.put _ (some 23) _ = _
          simp only [Act.put, List.setIfInBounds_toArray, List.set_cons_zero, List.set_cons_succ, i64_w, i32_w]
          rfl
         exact norm_ (by simp only [putAll, Act.put, List.setIfInBounds_toArray, List.set_cons_zero, List.set_cons_succ]) (hCont (v281) _ ⟨(by (with_reducible repeat (first | apply rA | apply rN | apply rD)); exact HO282.out), (by (with_reducible repeat (first | refine blk_drewN ?_ _ | refine blk_drew ?_ | refine blk_alloc ?_ _)); exact BK273.out), (by repeat (first | (with_reducible first | exact HB.out | apply below_alloc | apply pw_below_drewN | apply below_drew1 | refine below_set ?_ GE273.out) | exact HB.out))⟩)
        ·
         skip
         refine Kd.R_lit_step (Kd.int .u8) _ 5 ?hg (N := 23) ?hd (xs := ([] : List Int)) (inner := []) (ok := fun _ => True) (okp := fun _ => True) ?hr ?hp (fun _ hk => hk) trivial (Below.refl _ _) (Nat.le_refl _) (by simp) ?_; (case hd => rfl); (case hg => rfl); (case hr => first | (go_simp; done) | (go_simp; rfl)); (case hp => exact (Reps.none _ _))
         intro v281 w20 ho21 hb hg_ hnew_
         clear hg_ hnew_
         (first | rw [← Ny280.out] at ho21 | (simp only [Int.reduceToNat] at ho21; rw [← Ny280.out] at ho21))
         have n0_ := Aside0.mk (Kd.R_lower ho21 (below_size (by repeat (first | (with_reducible first | exact HB.out | apply below_alloc | apply pw_below_drewN | apply below_drew1 | refine below_set ?_ GE273.out) | exact HB.out))))
         have n1_ := Aside0.mk (blk_below (g := gb273) (o := .cells #[.int .i64 0, .slice none 0 0] 43 (0, 0)) (by (with_reducible repeat (first | refine blk_drewN ?_ _ | refine blk_drew ?_ | refine blk_alloc ?_ _)); exact BK273.out) hb)
         have n2_ := Aside0.mk (below_step (by repeat (first | (with_reducible first | exact HB.out | apply below_alloc | apply pw_below_drewN | apply below_drew1 | refine below_set ?_ GE273.out) | exact HB.out)) hb)
         clear BK273
         clear HB
         have HO282 := n0_
         have BK273 := n1_
         have HB := n2_
         clear n0_ n1_ n2_
         clear hb ho21
         refine hK.out _ _ trivial (fun hHeld => ?_)
         clear hK K
         refine norm_ (a' := ?_) ?_ ?_
         rotate_left
         ·
          show Act.put _ (some 23) _ = _
          simp only [Act.put, List.setIfInBounds_toArray, List.set_cons_zero, List.set_cons_succ, i64_w, i32_w]
          rfl
         refine one_ (i := 2) (N := some 21) #[true, true, true, false, true, true, true, false, false, false, false] rfl rfl (one_of HT_.out (by kernel_rfl)) (by decide) (fun K hK => ?_)
         refine goes_ Try.func86 (by kernel_rfl) rfl #[.slice (some ad274) y275.length c0] (by rfl) rfl rfl (by (try simp only [List.map_toArray, List.map_cons, List.map_nil]); first | done | rfl | (simp only [List.length_drop, List.length_take]; rfl)) ?_
         with_reducible refine (pandectref2_Num.calls k _ _ y275 t279 _ ?side1 ?side2 A13.out).mono ?_
         (case side1 => repeat (first | exact (Kd.C_below HR278.out HB.out) | (with_reducible refine Kd.C_alloc ?_ _) | (with_reducible refine Kd.C_drewN ?_ _) | (with_reducible refine Kd.C_drew ?_)))
         (case side2 => exact HC278.out)
         rintro e w' ⟨rfl, ⟨nd, rfl⟩⟩
         refine ⟨_, rfl, ?_⟩
         refine hK.out _ _ trivial (fun hHeld => ?_)
         clear hK K
         refine norm_ (a' := ?_) ?_ ?_
         rotate_left
         ·
          show Act.put _ (some 21) _ = _
          simp only [Act.put, List.setIfInBounds_toArray, List.set_cons_zero, List.set_cons_succ, i64_w, i32_w]
          rfl
         refine pure_ (i := 3) (N := some 22) (v := ?_) (a' := ?_) #[true, true, true, true, true, true, true, false, false, false, false] rfl rfl (any_of HT_.out (by kernel_rfl)) (fun _ _ _ h => h) (Or.inl ⟨by rfl, ?_⟩) ?_ ?_
         rotate_left
         ·
          intro w'
          go_simp
          with_reducible rfl
         rotate_left
         ·
          simp only [Act.put, List.setIfInBounds_toArray, List.set_cons_zero, List.set_cons_succ, i64_w, i32_w]
          rfl
         exact norm_ (by simp only [putAll, Act.put, List.setIfInBounds_toArray, List.set_cons_zero, List.set_cons_succ]) (hCont (v281) _ ⟨(by (with_reducible repeat (first | apply rA | apply rN | apply rD)); exact HO282.out), (by (with_reducible repeat (first | refine blk_drewN ?_ _ | refine blk_drew ?_ | refine blk_alloc ?_ _)); exact BK273.out), (by repeat (first | (with_reducible first | exact HB.out | apply below_alloc | apply pw_below_drewN | apply below_drew1 | refine below_set ?_ GE273.out) | exact HB.out))⟩)
       rintro v281 w22 ⟨h0_, h1_, h2_⟩
       have n0_ : Aside0 (Kd.R (Kd.int .u8) 5 w22 w.heap.size (fun _ => True) v281 y280) := ⟨h0_⟩
       have n1_ : Aside0 (w22.heap[gb273]? = some (.cells #[.int .i64 0, .slice none 0 0] 43 (0, 0))) := ⟨h1_⟩
       have n2_ : Aside0 (Below w.heap.size w w22) := ⟨h2_⟩
       clear BK273
       clear HB
       clear h0_ h1_ h2_
       have HO282 := n0_
       have BK273 := n1_
       have HB := n2_
       clear n0_ n1_ n2_
       have hHeld := trivial
       refine norm_ (a' := ?_) ?_ ?_
       rotate_left
       ·
        simp only [putAll, Act.put, List.setIfInBounds_toArray, List.set_cons_zero, List.set_cons_succ]
        rfl
       refine one_ (i := 7) (N := some 26) #[true, true, true, true, true, true, true, true, false, false, false] rfl rfl (one_of HT_.out (by kernel_rfl)) (by decide) (fun K hK => ?_)
       refine Kd.R_append_rows_step (Kd.int .u8) (w0 := w) w.heap.size (by rfl) (.tmp 23) (.tmp 25) 22 5 (.int .u8 0) 1 rfl Try.underlying22 info5 rfl (by decide) (by omega) v281 y280 y283 _ _ _ (fun _ => True) (fun _ => False) rfl rfl ?aO ?aR (fun _ _ h => h) (fun _ h => h.elim) ?aF ?aB ?aS ?aL ?_
       (case aR => repeat (first | exact (Kd.C_below HR286.out HB.out) | (with_reducible refine Kd.C_alloc ?_ _) | (with_reducible refine Kd.C_drewN ?_ _) | (with_reducible refine Kd.C_drew ?_)))
       (case aB => exact (by repeat (first | (with_reducible first | exact HB.out | apply below_alloc | apply pw_below_drewN | apply below_drew1 | refine below_set ?_ GE273.out) | exact HB.out)))
       (case aF => exact (fun _ _ => trivial))
       (case aO => exact (by (with_reducible repeat (first | apply rA | apply rN | apply rD)); exact HO282.out))
       (case aS => exact (below_size (by repeat (first | (with_reducible first | exact HB.out | apply below_alloc | apply pw_below_drewN | apply below_drew1 | refine below_set ?_ GE273.out) | exact HB.out))))
       (case aL => have := LMc15.out; omega)
       intro v288 w23 ho hb hg hat
       rw [← Ny287.out] at ho
       have n0_ := Aside0.mk (blk_grown (g := gb273) (o := .cells #[.int .i64 0, .slice none 0 0] 43 (0, 0)) (by (with_reducible repeat (first | refine blk_drewN ?_ _ | refine blk_drew ?_ | refine blk_alloc ?_ _)); exact BK273.out) hg (Kd.R_ne HO282.out BK273.out (by decide)))
       have n1_ := Aside0.mk (hb)
       have n2_ := Aside0.mk (ho)
       clear BK273
       clear HB
       clear HO282
       have BK273 := n0_
       have HB := n1_
       have HO289 := n2_
       clear n0_ n1_ n2_
       clear ho hb hg hat
       obtain ⟨Ao24, co24, eo24⟩ := Kd.R_slice HO289.out
       (first | subst eo24 | (injection eo24 with f1_ f2_ f3_; have f4_ := f1_.symm; have f5_ := f3_.symm; clear f1_ f2_ f3_; subst f4_; subst f5_))
       refine hK.out _ _ trivial (fun hHeld => ?_)
       clear hK K
       refine norm_ (a' := ?_) ?_ ?_
       rotate_left
       ·
        show Act.put _ (some 26) _ = _
        simp only [Act.put, List.setIfInBounds_toArray, List.set_cons_zero, List.set_cons_succ, i64_w, i32_w]
        rfl
       refine pure_ (i := 8) (N := some 27) (v := ?_) (a' := ?_) #[true, true, true, true, true, true, true, true, true, false, false] rfl rfl (any_of HT_.out (by kernel_rfl)) (fun _ _ _ h => h) (Or.inl ⟨by rfl, ?_⟩) ?_ ?_
       rotate_left
       ·
        intro w'
        go_simp
        with_reducible rfl
       rotate_left
       ·
        simp only [Act.put, List.setIfInBounds_toArray, List.set_cons_zero, List.set_cons_succ, i64_w, i32_w]
        rfl
       refine one_ (i := 9) (N := none) #[true, true, true, true, true, true, true, true, true, true, false] rfl rfl (one_of HT_.out (by kernel_rfl)) (by decide) (fun K hK => ?_)
       have hs25 : w23.cell? ⟨gb273, 0, none⟩ = some (.int .i64 0) := (blk_cell BK273.out 0).trans rfl
       have hfs25 := blk_frozen BK273.out 0
       have hs26 : w23.cell? ⟨gb273, 1, none⟩ = some (.slice none 0 0) := (blk_cell BK273.out 1).trans rfl
       have hfs26 := blk_frozen BK273.out 1
       refine skip_ (w1 := ?_) (by rfl) rfl ?_ ?_
       rotate_left
       ·
        go_simp
        rfl
       refine hK.out _ _ trivial (fun hHeld => ?_)
       clear hK K
       refine pure_ (i := 10) (N := some 3) (v := ?_) (a' := ?_) #[true, true, true, true, true, true, true, true, true, true, true] rfl rfl (any_of HT_.out (by kernel_rfl)) (fun _ _ _ h => h) (Or.inl ⟨by rfl, ?_⟩) ?_ ?_
       rotate_left
       ·
        intro w'
        go_simp
        with_reducible rfl
       rotate_left
       ·
        simp only [Act.put, List.setIfInBounds_toArray, List.set_cons_zero, List.set_cons_succ, i64_w, i32_w]
        rfl
       refine done_ (done_of HT_.out (by kernel_rfl)) ?_
       try go_wp2
       refine bodyPost_ret (results_ct rfl _ _ gb273 43 #[.int .i64 (wrap64 (t279)), .slice Ao24 y287.length co24] (0, 0) _ rfl (by (with_reducible repeat (first | refine blk_drewN ?_ _ | refine blk_drew ?_ | refine blk_alloc ?_ _)); refine blk_put (cs := #[.int .i64 (wrap64 (t279)), .slice none 0 0]) ?_ 1 _ rfl; (with_reducible repeat (first | refine blk_drewN ?_ _ | refine blk_drew ?_ | refine blk_alloc ?_ _)); refine blk_put (cs := #[.int .i64 0, .slice none 0 0]) ?_ 0 _ rfl; (with_reducible repeat (first | refine blk_drewN ?_ _ | refine blk_drew ?_ | refine blk_alloc ?_ _)); exact BK273.out) Try.underlying43 rfl (by kernel_rfl)) rfl ?_
       exact ⟨_, by first | rfl | (simp [errW_none, errW_some] <;> rfl) | (simp [*, errW_none, errW_some] <;> rfl), by (with_reducible repeat (first | apply rA | apply rN | apply rD)); exact Kd.R_mono (Kd.R_far (p := ⟨gb273, 1, none⟩) (Kd.R_far (p := ⟨gb273, 0, none⟩) (Kd.R_types HO289.out BK273.out (by decide)) (fun _ hk => hk.2) (.int .i64 (wrap64 (t279)))) (fun _ hk => hk.2) (.slice Ao24 y287.length co24)) (fun _ hk => trivial), by repeat (first | (with_reducible first | exact HB.out | apply below_alloc | apply pw_below_drewN | apply below_drew1 | refine below_set ?_ GE273.out) | exact HB.out)⟩
      ·
       rw [if_neg c15] at H
       exact absurd H (by simp)
     ·
      rw [if_neg c12] at H
      exact absurd H (by simp)
   ·
    rw [if_neg c8] at H
    exact absurd H (by simp)

/-! ### pandectref6_TakeOff: function 37 -/
def pandectref6_TakeOff.f (k : Nat) (l0 : List Int) : Option (Int × Int) := if (l0.length : Int) = 8 then (if 0 < (l0.length : Int) then (if (rd l0 0) > 127 then (some (0, 2)) else ((pandectref2_Num.f k l0).bind fun t291 => (some (wrap64 (t291), 0)))) else (none)) else (some (0, 2))
theorem pandectref6_TakeOff.mono : ∀ a0 k, LeO (pandectref6_TakeOff.f k a0) (pandectref6_TakeOff.f (k + 1) a0) := by
 intro a0 k
 unfold pandectref6_TakeOff.f
 repeat' first
   | (with_reducible exact pandectref2_Num.mono _ _)
   | (with_reducible exact LeO.refl _)
   | (with_reducible exact LeO.none _)
   | (with_reducible refine LeO.ite ?_ ?_)
   | (with_reducible refine LeO.bind ?_ (fun _ => ?_))
   | exact pandectref2_Num.mono _ _
   | exact LeO.none _
   | refine LeO.ite ?_ ?_
   | refine LeO.bind ?_ (fun _ => ?_)
set_option maxHeartbeats 8000000 in
set_option maxRecDepth 100000 in
theorem pandectref6_TakeOff.calls (k : Nat) (A0 : Option Addr) (c0 : Nat) (l0 : List Int) (r1 : Int) (r2 : Int) (w : World) (hr0 : Kd.C (Kd.int .u8) w A0 l0.length l0) (hc0 : l0.length ≤ c0) (h : pandectref6_TakeOff.f k l0 = some (r1, r2)) :
  Calls Try.prog 37 #[.slice A0 l0.length c0] w fun e w' => e = .returned (.tuple #[.int .i64 r1, .int .i64 r2]) ∧ Drawn0 w w' := by
 have HR0 := Aside0.mk hr0
 have HC0 := Aside0.mk hc0
 clear hr0 hc0
 have H : (if (l0.length : Int) = 8 then (if 0 < (l0.length : Int) then (if (rd l0 0) > 127 then (some (0, 2)) else ((pandectref2_Num.f k l0).bind fun t291 => (some (wrap64 (t291), 0)))) else (none)) else (some (0, 2))) = some (r1, r2) := h
 clear h
 by_cases c2 : (l0.length : Int) = 8
 ·
  rw [if_pos c2] at H
  have c2b0 : ((l0.length : Int) == 8) = true := beq_iff_eq.mpr c2
  have c2b1 : ((l0.length : Int) != 8) = false := bne_eq_false_iff_eq.mpr c2
  clear c2
  by_cases c3 : 0 < (l0.length : Int)
  ·
   rw [if_pos c3] at H
   have c3b0 : decide (0 < (l0.length : Int)) = true := decide_eq_true c3
   have c3b1 : decide (0 < l0.length) = true := decide_eq_true (by omega)
   clear c3
   by_cases c4 : (rd l0 0) > 127
   ·
    rw [if_pos c4] at H
    have c4b0 : decide (127 < (rd l0 0)) = true := decide_eq_true c4
    clear c4
    simp only [Option.some.injEq, Prod.mk.injEq] at H
    obtain ⟨rfl, rfl⟩ := H
    have p290 : 0 ≤ (0 : Int) := (by omega)
    have q290 : 0 < (l0.length : Int) := of_decide_eq_true (by first | (with_reducible assumption) | assumption)
    obtain ⟨ad290, e290, hx290_0⟩ := Kd.at_int HR0.out 0 p290 q290
    cases e290
    have qi290 : (0 < l0.length) = True := eq_true (by omega)
    (try rw [show ((0 : Int)).toNat = 0 from rfl] at hx290_0)
    (try rw [Addr.add_zero'] at hx290_0)
    replace p290 := eq_true p290
    replace q290 := eq_true q290
    go_enter Try.func37, Try.ntmps37
    go_wp2
    go_ret2
    exact ⟨by first | rfl | (simp; done) | (simp [*]; done), by repeat (first | exact Drawn0.refl _ | apply Drawn0.step)⟩
   ·
    rw [if_neg c4] at H
    have c4b0 : decide (127 < (rd l0 0)) = false := decide_eq_false c4
    clear c4
    replace H := Option.bind_eq_some_iff.mp H
    obtain ⟨t291, A50, H⟩ := H
    replace H : (some (wrap64 (t291), 0)) = some (r1, r2) := H
    have A5 := Aside0.mk A50
    clear A50
    simp only [Option.some.injEq, Prod.mk.injEq] at H
    obtain ⟨rfl, rfl⟩ := H
    have p290 : 0 ≤ (0 : Int) := (by omega)
    have q290 : 0 < (l0.length : Int) := of_decide_eq_true (by first | (with_reducible assumption) | assumption)
    obtain ⟨ad290, e290, hx290_0⟩ := Kd.at_int HR0.out 0 p290 q290
    cases e290
    have qi290 : (0 < l0.length) = True := eq_true (by omega)
    (try rw [show ((0 : Int)).toNat = 0 from rfl] at hx290_0)
    (try rw [Addr.add_zero'] at hx290_0)
    replace p290 := eq_true p290
    replace q290 := eq_true q290
    go_enter Try.func37, Try.ntmps37
    go_wp2_with (first | ((with_reducible refine gate_callee (f := 86) rfl ?_); refine goesL_ (some 14) rfl rfl Try.func86 (by kernel_rfl) rfl #[.slice (some ad290) l0.length c0] rfl (by (try simp only [List.map_toArray, List.map_cons, List.map_nil]); first | done | rfl | (simp only [List.length_drop, List.length_take]; rfl)) ?_; (with_reducible refine (pandectref2_Num.calls k _ _ l0 t291 _ ?side1 ?side2 A5.out).mono ?_); (case side1 => repeat (first | exact HR0.out | (with_reducible refine Kd.C_alloc ?_ _) | (with_reducible refine Kd.C_drewN ?_ _) | (with_reducible refine Kd.C_drew ?_))); (case side2 => exact HC0.out); rintro e w' ⟨rfl, ⟨nd, rfl⟩⟩; refine ⟨_, rfl, ?_⟩))
    go_ret2
    exact ⟨by first | rfl | (simp; done) | (simp [*]; done), by repeat (first | exact Drawn0.refl _ | apply Drawn0.step)⟩
  ·
   rw [if_neg c3] at H
   exact absurd H (by simp)
 ·
  rw [if_neg c2] at H
  have c2b0 : ((l0.length : Int) == 8) = false := beq_eq_false_iff_ne.mpr c2
  have c2b1 : ((l0.length : Int) != 8) = true := bne_iff_ne.mpr c2
  simp only [Option.some.injEq, Prod.mk.injEq] at H
  obtain ⟨rfl, rfl⟩ := H
  go_enter Try.func37, Try.ntmps37
  go_wp2
  go_ret2
  exact ⟨by first | rfl | (simp; done) | (simp [*]; done), by repeat (first | exact Drawn0.refl _ | apply Drawn0.step)⟩

/-! ### pandectref6_PutMark: function 43 -/
def pandectref6_PutMark.f (k : Nat) (a0_0 : Int) (l0_1 : List Int) : Option (List Int) := if a0_0 < 0 then (some ([] : List Int)) else (if (l0_1.length : Int) > 100 then (some ([] : List Int)) else ((pandectref2_High.f k (IntKind.u64.wrap (a0_0)) 8).bind fun t293 => (if t293.length + l0_1.length < 140737488355328 then (some (t293 ++ l0_1)) else (none))))
theorem pandectref6_PutMark.mono : ∀ a0 a1 k, LeO (pandectref6_PutMark.f k a0 a1) (pandectref6_PutMark.f (k + 1) a0 a1) := by
 intro a0 a1 k
 unfold pandectref6_PutMark.f
 repeat' first
   | (with_reducible exact pandectref2_High.mono _ _ _)
   | (with_reducible exact LeO.refl _)
   | (with_reducible exact LeO.none _)
   | (with_reducible refine LeO.ite ?_ ?_)
   | (with_reducible refine LeO.bind ?_ (fun _ => ?_))
   | exact pandectref2_High.mono _ _ _
   | exact LeO.none _
   | refine LeO.ite ?_ ?_
   | refine LeO.bind ?_ (fun _ => ?_)
def pandectref6_PutMark.T3 : Bool × List (List Nat × List Nat) := (true, [([], []), ([0], [0]), ([1], [1]), ([2], [2]), ([], []), ([4], [4]), ([3, 5, 3], [3, 5]), ([6, 6, 0, 1, 2, 3, 4, 5, 6], [6])])
def pandectref6_PutMark.B3 : List Nat := [0, 1, 3, 7, 0, 16, 63, 127]
theorem pandectref6_PutMark.tab3 : rtab .any (opsOf Try.f43 3) = pandectref6_PutMark.T3 := by kernel_rfl
theorem pandectref6_PutMark.bits3 : waitsOk pandectref6_PutMark.T3.2 pandectref6_PutMark.B3 = true := by kernel_rfl
set_option maxHeartbeats 8000000 in
set_option maxRecDepth 100000 in
theorem pandectref6_PutMark.calls (k : Nat) (a0_0 : Int) (A0_1 : Option Addr) (c0_1 : Nat) (l0_1 : List Int) (r : List Int) (w : World) (hr0_1 : Kd.C (Kd.int .u8) w A0_1 l0_1.length l0_1) (hc0_1 : l0_1.length ≤ c0_1) (h : pandectref6_PutMark.f k a0_0 l0_1 = some r) :
  Calls Try.prog 43 #[.agg #[.int .i64 a0_0, .slice A0_1 l0_1.length c0_1]] w fun e w' => ∃ v0_ : Value, e = .returned (v0_) ∧ Kd.R (Kd.int .u8) 5 w' w.heap.size (fun _ => True) v0_ r ∧ Below w.heap.size w w' := by
 have hu43 := Try.underlying43
 have HR0_1 := Aside0.mk hr0_1
 have HC0_1 := Aside0.mk hc0_1
 clear hr0_1 hc0_1
 have HB := Aside0.mk (Below.refl w.heap.size w)
 have H : (if a0_0 < 0 then (some ([] : List Int)) else (if (l0_1.length : Int) > 100 then (some ([] : List Int)) else ((pandectref2_High.f k (IntKind.u64.wrap (a0_0)) 8).bind fun t293 => (if t293.length + l0_1.length < 140737488355328 then (some (t293 ++ l0_1)) else (none))))) = some r := h
 clear h
 by_cases c2 : a0_0 < 0
 ·
  rw [if_pos c2] at H
  have c2b0 : decide (a0_0 < 0) = true := decide_eq_true c2
  clear c2
  obtain rfl := Option.some.inj H
  go_enter Try.func43, Try.ntmps43
  go_wp2_with (first | ((with_reducible refine gate_dst (N := 1) rfl ?_); (try (refine gate_guard (by rfl) ?_; dsimp only)); refine box_event ?hg (N := 1) ?hd (cs := #[.int .i64 a0_0, .slice A0_1 l0_1.length c0_1]) (t := 43) ?hr ?_; (case hd => rfl); (case hg => rfl); (case hr => first | (go_simp; done) | (go_simp; rfl)); intro gb292 hg w3 hbox hb; have n0_ := Aside0.mk (below_step (by repeat (first | (with_reducible first | exact HB.out | apply bA | apply bN | apply bD) | exact HB.out)) hb); have n1_ := Aside0.mk (hbox); have n2_ := Aside0.mk ((by rw [hg]; exact (below_size (by repeat (first | (with_reducible first | exact HB.out | apply bA | apply bN | apply bD) | exact HB.out))) : w.heap.size ≤ gb292)); have n3_ := Aside0.mk ((by rw [hg]; exact (below_size (by repeat (first | (with_reducible first | exact HB.out | apply bA | apply bN | apply bD) | exact HB.out))) : w.heap.size ≤ gb292)); clear HB; have HB := n0_; have BK292 := n1_; have GW292 := n2_; have GE292 := n3_; clear n0_ n1_ n2_ n3_; clear hb hbox hg; have hcz4_0 : w3.cell? ⟨gb292, 0, none⟩ = some (.int .i64 a0_0) := (blk_cell BK292.out 0).trans rfl; have hcz4_1 : w3.cell? ⟨gb292, 1, none⟩ = some (.slice A0_1 l0_1.length c0_1) := (blk_cell BK292.out 1).trans rfl; have hfz4_0 := blk_frozen BK292.out 0; have hfz4_1 := blk_frozen BK292.out 1))
  go_ret
  exact ⟨_, by first | rfl | (simp [errW_none, errW_some] <;> rfl) | (simp [*, errW_none, errW_some] <;> rfl), by first | exact Kd.R_nil _ _ _ _ _ | exact Kd.N_nil _ _ _ _ _ | exact Kd.V_nil _ _ _ _ _ | exact Kd.Q_nil _ _ _ _ _ | exact Kd.S_nil _ _ _ _ _, by repeat (first | (with_reducible first | exact HB.out | apply below_alloc | apply pw_below_drewN | apply below_drew1 | refine below_set ?_ GE292.out) | exact HB.out)⟩
 ·
  rw [if_neg c2] at H
  have c2b0 : decide (a0_0 < 0) = false := decide_eq_false c2
  clear c2
  by_cases c5 : (l0_1.length : Int) > 100
  ·
   rw [if_pos c5] at H
   have c5b0 : decide (100 < (l0_1.length : Int)) = true := decide_eq_true c5
   have c5b1 : decide (100 < l0_1.length) = true := decide_eq_true (by omega)
   clear c5
   obtain rfl := Option.some.inj H
   go_enter Try.func43, Try.ntmps43
   go_wp2_with (first | ((with_reducible refine gate_dst (N := 1) rfl ?_); (try (refine gate_guard (by rfl) ?_; dsimp only)); refine box_event ?hg (N := 1) ?hd (cs := #[.int .i64 a0_0, .slice A0_1 l0_1.length c0_1]) (t := 43) ?hr ?_; (case hd => rfl); (case hg => rfl); (case hr => first | (go_simp; done) | (go_simp; rfl)); intro gb292 hg w6 hbox hb; have n0_ := Aside0.mk (below_step (by repeat (first | (with_reducible first | exact HB.out | apply bA | apply bN | apply bD) | exact HB.out)) hb); have n1_ := Aside0.mk (hbox); have n2_ := Aside0.mk ((by rw [hg]; exact (below_size (by repeat (first | (with_reducible first | exact HB.out | apply bA | apply bN | apply bD) | exact HB.out))) : w.heap.size ≤ gb292)); have n3_ := Aside0.mk ((by rw [hg]; exact (below_size (by repeat (first | (with_reducible first | exact HB.out | apply bA | apply bN | apply bD) | exact HB.out))) : w.heap.size ≤ gb292)); clear HB; have HB := n0_; have BK292 := n1_; have GW292 := n2_; have GE292 := n3_; clear n0_ n1_ n2_ n3_; clear hb hbox hg; have hcz7_0 : w6.cell? ⟨gb292, 0, none⟩ = some (.int .i64 a0_0) := (blk_cell BK292.out 0).trans rfl; have hcz7_1 : w6.cell? ⟨gb292, 1, none⟩ = some (.slice A0_1 l0_1.length c0_1) := (blk_cell BK292.out 1).trans rfl; have hfz7_0 := blk_frozen BK292.out 0; have hfz7_1 := blk_frozen BK292.out 1))
   go_ret
   exact ⟨_, by first | rfl | (simp [errW_none, errW_some] <;> rfl) | (simp [*, errW_none, errW_some] <;> rfl), by first | exact Kd.R_nil _ _ _ _ _ | exact Kd.N_nil _ _ _ _ _ | exact Kd.V_nil _ _ _ _ _ | exact Kd.Q_nil _ _ _ _ _ | exact Kd.S_nil _ _ _ _ _, by repeat (first | (with_reducible first | exact HB.out | apply below_alloc | apply pw_below_drewN | apply below_drew1 | refine below_set ?_ GE292.out) | exact HB.out)⟩
  ·
   rw [if_neg c5] at H
   have c5b0 : decide (100 < (l0_1.length : Int)) = false := decide_eq_false c5
   have c5b1 : decide (100 < l0_1.length) = false := decide_eq_false (by omega)
   clear c5
   replace H := Option.bind_eq_some_iff.mp H
   obtain ⟨t293, A80, H⟩ := H
   replace H : (if t293.length + l0_1.length < 140737488355328 then (some (t293 ++ l0_1)) else (none)) = some r := H
   have A8 := Aside0.mk A80
   clear A80
   by_cases c9 : t293.length + l0_1.length < 140737488355328
   ·
    rw [if_pos c9] at H
    have LMc9 := Aside0.mk c9
    clear c9
    obtain ⟨y296, hy296⟩ : ∃ y_ : List Int, y_ = (t293 ++ l0_1) := ⟨_, rfl⟩
    replace H : (some y296) = some r := by first | (rw [hy296]; with_reducible exact H) | (have H2_ := (Option.bind_some _ _).symm.trans H; rw [hy296]; with_reducible exact H2_) | (have H2_ := (Option.bind_some _ _).symm.trans H; with_reducible exact H2_) | with_reducible exact H | (rw [hy296]; exact H) | exact H
    have Ny296 := Aside0.mk hy296
    clear hy296
    obtain rfl := Option.some.inj H
    go_enter Try.func43, Try.ntmps43
    try go_wp2_with (first | ((with_reducible refine gate_dst (N := 1) rfl ?_); (try (refine gate_guard (by rfl) ?_; dsimp only)); refine box_event ?hg (N := 1) ?hd (cs := #[.int .i64 a0_0, .slice A0_1 l0_1.length c0_1]) (t := 43) ?hr ?_; (case hd => rfl); (case hg => rfl); (case hr => first | (go_simp; done) | (go_simp; rfl)); intro gb292 hg w10 hbox hb; have n0_ := Aside0.mk (below_step (by repeat (first | (with_reducible first | exact HB.out | apply bA | apply bN | apply bD) | exact HB.out)) hb); have n1_ := Aside0.mk (hbox); have n2_ := Aside0.mk ((by rw [hg]; exact (below_size (by repeat (first | (with_reducible first | exact HB.out | apply bA | apply bN | apply bD) | exact HB.out))) : w.heap.size ≤ gb292)); have n3_ := Aside0.mk ((by rw [hg]; exact (below_size (by repeat (first | (with_reducible first | exact HB.out | apply bA | apply bN | apply bD) | exact HB.out))) : w.heap.size ≤ gb292)); clear HB; have HB := n0_; have BK292 := n1_; have GW292 := n2_; have GE292 := n3_; clear n0_ n1_ n2_ n3_; clear hb hbox hg; have hcz11_0 : w10.cell? ⟨gb292, 0, none⟩ = some (.int .i64 a0_0) := (blk_cell BK292.out 0).trans rfl; have hcz11_1 : w10.cell? ⟨gb292, 1, none⟩ = some (.slice A0_1 l0_1.length c0_1) := (blk_cell BK292.out 1).trans rfl; have hfz11_0 := blk_frozen BK292.out 0; have hfz11_1 := blk_frozen BK292.out 1))
    have n0_ := Aside0.mk (blk_drew BK292.out)
    have n1_ := Aside0.mk (below_drew1 HB.out)
    clear BK292
    clear HB
    have BK292 := n0_
    have HB := n1_
    clear n0_ n1_
    refine start_ (n := 8) (S := fun w' => w'.cell? ⟨gb292, 0, none⟩ = some (.int .i64 a0_0) ∧ w'.cell? ⟨gb292, 1, none⟩ = some (.slice A0_1 l0_1.length c0_1)) (ds := []) #[false, false, false, false, false, false, false, false] (by kernel_rfl) rfl rfl ⟨(blk_cell BK292.out 0).trans rfl, (blk_cell BK292.out 1).trans rfl⟩ (fun hHeld => ?_); refine with_tabW pandectref6_PutMark.tab3 pandectref6_PutMark.bits3 (fun HT_ HW_ => ?_)
    generalize w10.drew = w12 at BK292 HB hHeld ⊢
    refine pure_ (i := 0) (N := some 12) (v := ?_) (a' := ?_) #[true, false, false, false, false, false, false, false] rfl rfl (any_of HT_.out (by kernel_rfl)) (fun _ _ _ h => h) (Or.inl ⟨by rfl, ?_⟩) ?_ ?_
    rotate_left
    ·
     intro w'
     go_simp
     with_reducible rfl
    rotate_left
    ·
     simp only [Act.put, List.setIfInBounds_toArray, List.set_cons_zero, List.set_cons_succ, i64_w, i32_w]
     rfl
    refine pure_ (i := 4) (N := some 16) (v := ?_) (a' := ?_) #[true, false, false, false, true, false, false, false] rfl rfl (any_of HT_.out (by kernel_rfl)) (fun _ _ _ h => h) (Or.inl ⟨by rfl, ?_⟩) ?_ ?_
    rotate_left
    ·
     intro w'
     go_simp
     with_reducible rfl
    rotate_left
    ·
     simp only [Act.put, List.setIfInBounds_toArray, List.set_cons_zero, List.set_cons_succ, i64_w, i32_w]
     rfl
    refine take_ (i := 1) (N := some 13) (v := ?_) (a' := ?_) #[true, true, false, false, true, false, false, false] rfl rfl (take_ofW HT_.out HW_.out (by kernel_rfl)) (fun _ _ _ h => h) (Or.inl ⟨by rfl, ?_⟩) hHeld ?_ ?_
    rotate_left
    ·
     rintro w' ⟨s0, s1⟩
     go_simp
     with_reducible rfl
    rotate_left
    ·
     simp only [Act.put, List.setIfInBounds_toArray, List.set_cons_zero, List.set_cons_succ, i64_w, i32_w]
     rfl
    refine pure_ (i := 2) (N := some 14) (v := ?_) (a' := ?_) #[true, true, true, false, true, false, false, false] rfl rfl (any_of HT_.out (by kernel_rfl)) (fun _ _ _ h => h) (Or.inl ⟨by rfl, ?_⟩) ?_ ?_
    rotate_left
    ·
     intro w'
     go_simp
     with_reducible rfl
    rotate_left
    ·
     simp only [Act.put, List.setIfInBounds_toArray, List.set_cons_zero, List.set_cons_succ, i64_w, i32_w]
     rfl
    refine take_ (i := 5) (N := some 17) (v := ?_) (a' := ?_) #[true, true, true, false, true, true, false, false] rfl rfl (take_ofW HT_.out HW_.out (by kernel_rfl)) (fun _ _ _ h => h) (Or.inl ⟨by rfl, ?_⟩) hHeld ?_ ?_
    rotate_left
    ·
     rintro w' ⟨s0, s1⟩
     go_simp
     with_reducible rfl
    rotate_left
    ·
     simp only [Act.put, List.setIfInBounds_toArray, List.set_cons_zero, List.set_cons_succ, i64_w, i32_w]
     rfl
    refine one_ (i := 3) (N := some 15) #[true, true, true, true, true, true, false, false] rfl rfl (one_of HT_.out (by kernel_rfl)) (by decide) (fun K hK => ?_)
    refine goes_ Try.func83 (by kernel_rfl) rfl #[.int .u64 (IntKind.u64.wrap (a0_0)), .int .i64 8] (by rfl) rfl rfl (by (try simp only [List.map_toArray, List.map_cons, List.map_nil]); first | done | rfl | (simp only [List.length_drop, List.length_take]; rfl)) ?_
    with_reducible refine (pandectref2_High.calls k (IntKind.u64.wrap (a0_0)) 8 t293 _ A8.out).mono ?_
    rintro e w13 ⟨v294, rfl, ho0, hb⟩
    refine ⟨_, rfl, ?_⟩
    have n0_ := Aside0.mk (Kd.R_lower ho0 (below_size (by repeat (first | (with_reducible first | exact HB.out | apply below_alloc | apply pw_below_drewN | apply below_drew1 | refine below_set ?_ GE292.out) | exact HB.out))))
    have n1_ := Aside0.mk (blk_below (g := gb292) (o := .cells #[.int .i64 a0_0, .slice A0_1 l0_1.length c0_1] 43 (0, 0)) (by (with_reducible repeat (first | refine blk_drewN ?_ _ | refine blk_drew ?_ | refine blk_alloc ?_ _)); exact BK292.out) hb)
    have n2_ := Aside0.mk (below_step (by repeat (first | (with_reducible first | exact HB.out | apply below_alloc | apply pw_below_drewN | apply below_drew1 | refine below_set ?_ GE292.out) | exact HB.out)) hb)
    clear BK292
    clear HB
    have HO295 := n0_
    have BK292 := n1_
    have HB := n2_
    clear n0_ n1_ n2_
    (try clear hb)
    (try clear hb2)
    (try clear hk)
    (try clear hi)
    (try clear ho0)
    refine hK.out _ _ ⟨(blk_cell BK292.out 0).trans rfl, (blk_cell BK292.out 1).trans rfl⟩ (fun hHeld => ?_)
    clear hK K
    refine norm_ (a' := ?_) ?_ ?_
    rotate_left
    ·
     show Act.put _ (some 15) _ = _
     simp only [Act.put, List.setIfInBounds_toArray, List.set_cons_zero, List.set_cons_succ, i64_w, i32_w]
     rfl
    refine one_ (i := 6) (N := some 18) #[true, true, true, true, true, true, true, false] rfl rfl (one_of HT_.out (by kernel_rfl)) (by decide) (fun K hK => ?_)
    refine Kd.R_append_rows_step (Kd.int .u8) (w0 := w) w.heap.size (by rfl) (.tmp 15) (.tmp 17) 22 5 (.int .u8 0) 1 rfl Try.underlying22 info5 rfl (by decide) (by omega) v294 t293 l0_1 _ _ _ (fun _ => True) (fun _ => False) rfl rfl ?aO ?aR (fun _ _ h => h) (fun _ h => h.elim) ?aF ?aB ?aS ?aL ?_
    (case aR => repeat (first | exact (Kd.C_below HR0_1.out HB.out) | (with_reducible refine Kd.C_alloc ?_ _) | (with_reducible refine Kd.C_drewN ?_ _) | (with_reducible refine Kd.C_drew ?_)))
    (case aB => exact (by repeat (first | (with_reducible first | exact HB.out | apply below_alloc | apply pw_below_drewN | apply below_drew1 | refine below_set ?_ GE292.out) | exact HB.out)))
    (case aF => exact (fun _ _ => trivial))
    (case aO => exact (by (with_reducible repeat (first | apply rA | apply rN | apply rD)); exact HO295.out))
    (case aS => exact (below_size (by repeat (first | (with_reducible first | exact HB.out | apply below_alloc | apply pw_below_drewN | apply below_drew1 | refine below_set ?_ GE292.out) | exact HB.out))))
    (case aL => have := LMc9.out; omega)
    intro v297 w14 ho hb hg hat
    rw [← Ny296.out] at ho
    have n0_ := Aside0.mk (blk_grown (g := gb292) (o := .cells #[.int .i64 a0_0, .slice A0_1 l0_1.length c0_1] 43 (0, 0)) (by (with_reducible repeat (first | refine blk_drewN ?_ _ | refine blk_drew ?_ | refine blk_alloc ?_ _)); exact BK292.out) hg (Kd.R_ne HO295.out BK292.out (by decide)))
    have n1_ := Aside0.mk (hb)
    have n2_ := Aside0.mk (ho)
    clear BK292
    clear HB
    clear HO295
    have BK292 := n0_
    have HB := n1_
    have HO298 := n2_
    clear n0_ n1_ n2_
    clear ho hb hg hat
    refine hK.out _ _ ⟨(blk_cell BK292.out 0).trans rfl, (blk_cell BK292.out 1).trans rfl⟩ (fun hHeld => ?_)
    clear hK K
    refine norm_ (a' := ?_) ?_ ?_
    rotate_left
    ·
     show Act.put _ (some 18) _ = _
     simp only [Act.put, List.setIfInBounds_toArray, List.set_cons_zero, List.set_cons_succ, i64_w, i32_w]
     rfl
    refine pure_ (i := 7) (N := some 2) (v := ?_) (a' := ?_) #[true, true, true, true, true, true, true, true] rfl rfl (any_of HT_.out (by kernel_rfl)) (fun _ _ _ h => h) (Or.inl ⟨by rfl, ?_⟩) ?_ ?_
    rotate_left
    ·
     intro w'
     go_simp
     with_reducible rfl
    rotate_left
    ·
     simp only [Act.put, List.setIfInBounds_toArray, List.set_cons_zero, List.set_cons_succ, i64_w, i32_w]
     rfl
    refine done_ (done_of HT_.out (by kernel_rfl)) ?_
    try go_wp2
    go_ret
    exact ⟨_, by first | rfl | (simp [errW_none, errW_some] <;> rfl) | (simp [*, errW_none, errW_some] <;> rfl), by (with_reducible repeat (first | apply rA | apply rN | apply rD)); exact HO298.out, by repeat (first | (with_reducible first | exact HB.out | apply below_alloc | apply pw_below_drewN | apply below_drew1 | refine below_set ?_ GE292.out) | exact HB.out)⟩
   ·
    rw [if_neg c9] at H
    exact absurd H (by simp)

end Go.Proofs.Ytfgeffmlfbeodaa.PHeadAll
